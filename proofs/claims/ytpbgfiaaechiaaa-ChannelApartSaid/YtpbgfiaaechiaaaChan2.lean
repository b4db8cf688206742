/-
  The channels: stores into the table, and what the error of a number is.
-/
import Derived.Test.YtpbgfiaaechiaaaChan
import Derived.Test.YtpbgfiaaechiaaaOnly
namespace Go.Proofs.Ytpbgfiaaechiaaa
open Go.RowKit
set_option linter.unusedVariables false

def chs (L : List Ln) : List Ch := L.map (·.ch)
theorem chs_length (L : List Ln) : (chs L).length = L.length := by simp [chs]
theorem chs_get (L : List Ln) (k : Nat) (hk : k < L.length) : (chs L)[k]? = some L[k].ch := by simp [chs, hk]
theorem chs_set (L : List Ln) (k : Nat) (y : Ln) : chs (L.set k y) = (chs L).set k y.ch := by simp [chs, List.map_set]

theorem which_in {L : List Ln} {k : Nat} (hk : k < L.length) (h4 : L.length = 4) : whichC (chs L) (k : Int) = if L[k].ch.o = true then 0 else 14 := by
  unfold whichC
  rw [if_neg (by omega), Int.toNat_natCast, chs_get L k hk]
  simp
theorem which_out {S : List Ch} {n : Int} (h : n < 0 ∨ 4 ≤ n) : whichC S n = 2 := by unfold whichC; rw [if_pos h]
theorem which_zero {L : List Ln} (h4 : L.length = 4) {n : Int} (h : whichC (chs L) n = 0) : ∃ k : Nat, ∃ hk : k < L.length, n = (k : Int) ∧ L[k].ch.o = true := by
  by_cases hn : n < 0 ∨ 4 ≤ n
  · rw [which_out hn] at h; cases h
  · obtain ⟨k, rfl⟩ : ∃ k : Nat, n = (k : Int) := ⟨n.toNat, by omega⟩
    have hk : k < L.length := by omega
    rw [which_in hk h4] at h
    by_cases ho : L[k].ch.o = true
    · exact ⟨k, hk, rfl, ho⟩
    · rw [if_neg ho] at h; cases h

theorem at_any (g : Nat) (L : List Ln) (n : Int) (w : World) (h : TabAt w g true L) :
    Calls Try.prog 29 #[.pointer (some ⟨g, 0, none⟩), .int .i64 n] w fun e w' =>
      e = .returned (.tuple #[.pointer (if whichC (chs L) n = 0 then some ⟨g, 1 + n.toNat * 6, none⟩ else none), .int .i64 (whichC (chs L) n)]) ∧ w = w' := by
  by_cases hn : n < 0 ∨ 4 ≤ n
  · rw [which_out hn, if_neg (by decide)]
    exact at_range g L n w h hn
  · obtain ⟨k, rfl⟩ : ∃ k : Nat, n = (k : Int) := ⟨n.toNat, by omega⟩
    have h4 := h.2.1
    have hk : k < L.length := by omega
    rw [which_in hk h4, Int.toNat_natCast]
    have hz := at_in g L k w h hk
    by_cases ho : L[k].ch.o = true
    · simp only [if_pos ho] at hz ⊢
      exact hz
    · simp only [if_neg ho] at hz ⊢
      rw [if_neg (by decide)]
      exact hz

def tcs (m : Bool) (L : List Ln) : Array Value := (.bool m :: L.flatMap lnCells).toArray
theorem four {L : List Ln} (h : L.length = 4) : ∃ a b c d, L = [a, b, c, d] := by
  match L, h with
  | [a, b, c, d], _ => exact ⟨a, b, c, d, rfl⟩
theorem put6 {w : World} {g : Nat} {m : Bool} {L : List Ln} {n : Nat} {t : TypeId} (h : Blk w g t (tcs m L)) (h4 : L.length = 4) (hn : n < 4) (y : Ln) (v0 v1 v2 v3 v4 v5 : Value) (hy : lnCells y = [v0, v1, v2, v3, v4, v5]) :
    Blk ((((((w.setCell ⟨g, 1 + n * 6, none⟩ v0).setCell ⟨g, 1 + n * 6 + 1, none⟩ v1).setCell ⟨g, 1 + n * 6 + 2, none⟩ v2).setCell ⟨g, 1 + n * 6 + 3, none⟩ v3).setCell ⟨g, 1 + n * 6 + 4, none⟩ v4).setCell ⟨g, 1 + n * 6 + 5, none⟩ v5) g t (tcs m (L.set n y)) := by
  have hp := (((((h.put (1 + n * 6) v0).put (1 + n * 6 + 1) v1).put (1 + n * 6 + 2) v2).put (1 + n * 6 + 3) v3).put (1 + n * 6 + 4) v4).put (1 + n * 6 + 5) v5
  obtain ⟨a, b, c, d, rfl⟩ := four h4
  have e : ((((((tcs m [a, b, c, d]).setIfInBounds (1 + n * 6) v0).setIfInBounds (1 + n * 6 + 1) v1).setIfInBounds (1 + n * 6 + 2) v2).setIfInBounds (1 + n * 6 + 3) v3).setIfInBounds (1 + n * 6 + 4) v4).setIfInBounds (1 + n * 6 + 5) v5 = tcs m (List.set [a, b, c, d] n y) := by
    have h5 : n = 0 ∨ n = 1 ∨ n = 2 ∨ n = 3 := by omega
    rcases h5 with rfl | rfl | rfl | rfl <;> (simp [lnCells] at hy; simp [tcs, lnCells, hy])
  rw [e] at hp
  exact hp
theorem put4 {w : World} {g : Nat} {m : Bool} {L : List Ln} {n : Nat} {t : TypeId} (h : Blk w g t (tcs m L)) (h4 : L.length = 4) (hn : n < L.length) (y : Ln) (v2 v3 v4 v5 : Value) (hy : lnCells y = [.bool L[n].ch.o, .slice L[n].A L[n].ch.app.length L[n].c, v2, v3, v4, v5]) :
    Blk ((((w.setCell ⟨g, 1 + n * 6 + 2, none⟩ v2).setCell ⟨g, 1 + n * 6 + 2 + 1, none⟩ v3).setCell ⟨g, 1 + n * 6 + 2 + 2, none⟩ v4).setCell ⟨g, 1 + n * 6 + 2 + 3, none⟩ v5) g t (tcs m (L.set n y)) := by
  have hp := (((h.put (1 + n * 6 + 2) v2).put (1 + n * 6 + 2 + 1) v3).put (1 + n * 6 + 2 + 2) v4).put (1 + n * 6 + 2 + 3) v5
  obtain ⟨a, b, c, d, rfl⟩ := four h4
  have e : ((((tcs m [a, b, c, d]).setIfInBounds (1 + n * 6 + 2) v2).setIfInBounds (1 + n * 6 + 2 + 1) v3).setIfInBounds (1 + n * 6 + 2 + 2) v4).setIfInBounds (1 + n * 6 + 2 + 3) v5 = tcs m (List.set [a, b, c, d] n y) := by
    have h5 : n = 0 ∨ n = 1 ∨ n = 2 ∨ n = 3 := by omega
    rcases h5 with rfl | rfl | rfl | rfl <;> (simp [lnCells] at hy; simp [tcs, lnCells, hy])
  rw [e] at hp
  exact hp
theorem put1 {w : World} {g : Nat} {m : Bool} {L : List Ln} {n : Nat} {t : TypeId} (h : Blk w g t (tcs m L)) (h4 : L.length = 4) (hn : n < L.length) (y : Ln) (v1 : Value) (hy : lnCells y = [.bool L[n].ch.o, v1, .int .i64 L[n].ch.p, .int .i64 L[n].ch.k, .int .i64 L[n].ch.s, .int .i64 L[n].ch.l]) :
    Blk (w.setCell ⟨g, 1 + n * 6 + 1, none⟩ v1) g t (tcs m (L.set n y)) := by
  have hp := h.put (1 + n * 6 + 1) v1
  obtain ⟨a, b, c, d, rfl⟩ := four h4
  have e : (tcs m [a, b, c, d]).setIfInBounds (1 + n * 6 + 1) v1 = tcs m (List.set [a, b, c, d] n y) := by
    have h5 : n = 0 ∨ n = 1 ∨ n = 2 ∨ n = 3 := by omega
    rcases h5 with rfl | rfl | rfl | rfl <;> (simp [lnCells] at hy; simp [tcs, lnCells, hy])
  rw [e] at hp
  exact hp

/-- No cell of a table is a byte. -/
theorem TabAt.noByte {w : World} {g : Nat} {m : Bool} {L : List Ln} (h : TabAt w g m L) (j : Nat) (b : Int) : w.cell? ⟨g, j, none⟩ ≠ some (.int .u8 b) := by
  rw [h.1.cell]
  intro e
  have hm : Value.int .u8 b ∈ (.bool m :: L.flatMap lnCells) := List.mem_of_getElem? (by simpa using e)
  rcases List.mem_cons.1 hm with h1 | h1
  · cases h1
  · obtain ⟨x, _, hx⟩ := List.mem_flatMap.1 h1
    simp [lnCells] at hx
theorem TabAt.below {w w' : World} {g : Nat} {m : Bool} {L : List Ln} (h : TabAt w g m L) (hb : Below w.heap.size w w') : TabAt w' g m L :=
  ⟨h.1.below hb h.1.size, h.2.1, fun x hx => ⟨(h.2.2 x hx).1.below hb, (h.2.2 x hx).2⟩⟩
theorem TabAt.drewN {w : World} {g : Nat} {m : Bool} {L : List Ln} (h : TabAt w g m L) (n : Nat) : TabAt (w.drewN n) g m L := h.below (below_drewN (Below.refl _ _) n)
theorem RB.tab {w w' : World} {g : Nat} {m : Bool} {L : List Ln} {A : Option Addr} {xs : List UInt8} (hr : RB w A xs) (h : TabAt w g m L) (ho : Only g none w w') : RB w' A xs := hr.only1 h.noByte ho
/-- A table after one line of it has been replaced. -/
theorem TabAt.turned {w w' : World} {g : Nat} {m : Bool} {L : List Ln} (h : TabAt w g m L) (ho : Only g none w w') (n : Nat) (y : Ln) (hy : RB w' y.A y.ch.app ∧ y.ch.app.length ≤ 16) (hB : Blk w' g 65 (tcs m (L.set n y))) : TabAt w' g m (L.set n y) := by
  refine ⟨hB, by rw [List.length_set]; exact h.2.1, fun x hx => ?_⟩
  rcases List.mem_or_eq_of_mem_set hx with hx | rfl
  · exact ⟨(h.2.2 x hx).1.tab h ho, (h.2.2 x hx).2⟩
  · exact hy
end Go.Proofs.Ytpbgfiaaechiaaa
