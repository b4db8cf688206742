/-
  The channels: the table's memory, and what ok, inRange and at answer.
-/
import Derived.Test.YtpbgfiaaechiaaaFlat
namespace Go.Proofs.Ytpbgfiaaechiaaa
open Go.RowKit
set_option linter.unusedVariables false

/-- A channel. -/
structure Ch where
  o : Bool
  app : List UInt8
  p : Int
  k : Int
  s : Int
  l : Int
/-- A channel as it lies in memory. -/
structure Ln where
  ch : Ch
  A : Option Addr
  c : Nat
def lnCells (x : Ln) : List Value := [.bool x.ch.o, .slice x.A x.ch.app.length x.c, .int .i64 x.ch.p, .int .i64 x.ch.k, .int .i64 x.ch.s, .int .i64 x.ch.l]
theorem lnCells_length (x : Ln) : (lnCells x).length = 6 := rfl
/-- The identifiers can be read. -/
def LnsIn (w : World) (L : List Ln) : Prop := ∀ x ∈ L, RB w x.A x.ch.app ∧ x.ch.app.length ≤ 16
/-- Block g is a table. -/
def TabAt (w : World) (g : Nat) (m : Bool) (L : List Ln) : Prop := Blk w g 65 (.bool m :: L.flatMap lnCells).toArray ∧ L.length = 4 ∧ LnsIn w L
/-- The error of the number of a channel. -/
def whichC (S : List Ch) (n : Int) : Int := if n < 0 ∨ 4 ≤ n then 2 else if (S[n.toNat]?.map (·.o)) = some true then 0 else 14

theorem TabAt.cell {w : World} {g : Nat} {m : Bool} {L : List Ln} (h : TabAt w g m L) (n r : Nat) (hn : n < L.length) (hr : r < 6) : w.cell? ⟨g, 1 + n * 6 + r, none⟩ = (lnCells L[n])[r]? := by
  rw [h.1.cell, List.getElem?_toArray, show 1 + n * 6 + r = (n * 6 + r) + 1 from by omega, List.getElem?_cons_succ]
  exact flat_get lnCells (fun _ => rfl) L n r hn hr
theorem TabAt.made_ {w : World} {g : Nat} {m : Bool} {L : List Ln} (h : TabAt w g m L) : w.cell? ⟨g, 0, none⟩ = some (.bool m) := by
  rw [h.1.cell]; rfl

/-- The pointer v leads to a table that New has made (b), or it does not. -/
def IsOk (w : World) (v : Value) (b : Bool) : Prop := (v = .pointer none ∧ b = false) ∨ ∃ g, v = .pointer (some ⟨g, 0, none⟩) ∧ w.cell? ⟨g, 0, none⟩ = some (.bool b)

theorem ok_any (v : Value) (b : Bool) (w : World) (h : IsOk w v b) : Calls Try.prog 31 #[v] w fun e w' => e = .returned (.bool b) ∧ w = w' := by
  rcases h with ⟨rfl, rfl⟩ | ⟨g, rfl, hc⟩
  · go_enter Try.func31, Try.ntmps31
    go_wp2
    go_ret
    exact ⟨rfl, rfl⟩
  · go_enter Try.func31, Try.ntmps31
    go_wp2
    go_ret
    exact ⟨rfl, rfl⟩
theorem inRange_yes (n : Int) (w : World) (h0 : 0 ≤ n) (h4 : n < 4) : Calls Try.prog 32 #[.int .i64 n] w fun e w' => e = .returned (.bool true) ∧ w = w' := by
  go_enter Try.func32, Try.ntmps32
  go_wp2
  go_ret
  exact ⟨rfl, rfl⟩
theorem inRange_no (n : Int) (w : World) (h0 : n < 0 ∨ 4 ≤ n) : Calls Try.prog 32 #[.int .i64 n] w fun e w' => e = .returned (.bool false) ∧ w = w' := by
  rcases h0 with h0 | h0
  · have h1 : ¬ (0 ≤ n) := by omega
    go_enter Try.func32, Try.ntmps32
    go_wp2
    go_ret
    exact ⟨rfl, rfl⟩
  · have h1 : 0 ≤ n := by omega
    have h2 : ¬ (n < 4) := by omega
    go_enter Try.func32, Try.ntmps32
    go_wp2
    go_ret
    exact ⟨rfl, rfl⟩

theorem at_bad (v : Value) (n : Int) (w : World) (h : IsOk w v false) : Calls Try.prog 29 #[v, .int .i64 n] w fun e w' => e = .returned (.tuple #[.pointer none, .int .i64 31]) ∧ w = w' := by
  go_enter Try.func29, Try.ntmps29
  go_wp2_with fail
  refine (ok_any v false w h).mono ?_
  rintro e w1 ⟨rfl, rfl⟩
  go_wp2
  go_ret2
  exact ⟨rfl, rfl⟩
theorem at_range (g : Nat) (L : List Ln) (n : Int) (w : World) (h : TabAt w g true L) (hn : n < 0 ∨ 4 ≤ n) : Calls Try.prog 29 #[.pointer (some ⟨g, 0, none⟩), .int .i64 n] w fun e w' => e = .returned (.tuple #[.pointer none, .int .i64 2]) ∧ w = w' := by
  go_enter Try.func29, Try.ntmps29
  go_wp2_with fail
  refine (ok_any _ true w (.inr ⟨g, rfl, h.made_⟩)).mono ?_
  rintro e w1 ⟨rfl, rfl⟩
  go_wp2_with fail
  refine (inRange_no n w hn).mono ?_
  rintro e w1 ⟨rfl, rfl⟩
  go_wp2
  go_ret2
  exact ⟨rfl, rfl⟩
theorem at_in (g : Nat) (L : List Ln) (n : Nat) (w : World) (h : TabAt w g true L) (hn : n < L.length) :
    Calls Try.prog 29 #[.pointer (some ⟨g, 0, none⟩), .int .i64 n] w fun e w' =>
      e = .returned (.tuple #[.pointer (if L[n].ch.o = true then some ⟨g, 1 + n * 6, none⟩ else none), .int .i64 (if L[n].ch.o = true then 0 else 14)]) ∧ w = w' := by
  have h4 := h.2.1
  have c0 : w.cell? ⟨g, 1 + n * 6, none⟩ = some (.bool L[n].ch.o) := h.cell n 0 hn (by omega)
  by_cases ho : L[n].ch.o = true
  · rw [ho] at c0
    rw [if_pos ho, if_pos ho]
    have h5 : n < 4 := by omega
    clear ho
    go_enter Try.func29, Try.ntmps29
    go_wp2_with fail
    refine (ok_any _ true w (.inr ⟨g, rfl, h.made_⟩)).mono ?_
    rintro e w1 ⟨rfl, rfl⟩
    go_wp2_with fail
    refine (inRange_yes n w (by omega) (by omega)).mono ?_
    rintro e w1 ⟨rfl, rfl⟩
    go_wp2
    go_ret2
    exact ⟨rfl, rfl⟩
  · have ho' : L[n].ch.o = false := by simpa using ho
    rw [ho'] at c0
    rw [if_neg ho, if_neg ho]
    have h5 : n < 4 := by omega
    clear ho ho'
    go_enter Try.func29, Try.ntmps29
    go_wp2_with fail
    refine (ok_any _ true w (.inr ⟨g, rfl, h.made_⟩)).mono ?_
    rintro e w1 ⟨rfl, rfl⟩
    go_wp2_with fail
    refine (inRange_yes n w (by omega) (by omega)).mono ?_
    rintro e w1 ⟨rfl, rfl⟩
    go_wp2
    go_ret2
    exact ⟨rfl, rfl⟩
end Go.Proofs.Ytpbgfiaaechiaaa
