/-
  Reading bytes: take and number.
-/
import Derived.Test.YtkhobpghiachoaaAtr
import Derived.IntWalk
namespace Go.Proofs.Ytkhobpghiachoaa
open Go.RowKit
set_option linter.unusedVariables false

/-- The panic of bytes that are no answer to reset. -/
def badP (e : Int) : Ending := .panicked [{ v := .iface 48 (.int .i64 e), recovered := false }]
/-- The reader in block rb still has the bytes xs. -/
structure Rdr (w : World) (rdb : Nat) (A : Option Addr) (c : Nat) (xs : List UInt8) : Prop where
  blk : Blk w rdb 52 #[.slice A xs.length c]
  cap : xs.length ≤ c
  rb : RB w A xs
  far : A.map (·.block) ≠ some rdb
theorem Rdr.below {w w' : World} {rb : Nat} {A : Option Addr} {c : Nat} {xs : List UInt8} (h : Rdr w rb A c xs) (hb : Below w.heap.size w w') : Rdr w' rb A c xs :=
  ⟨h.blk.below hb h.blk.size, h.cap, h.rb.below hb, h.far⟩
theorem RB.set_far {w : World} {A : Option Addr} {xs : List UInt8} {rb : Nat} (h : RB w A xs) (hf : A.map (·.block) ≠ some rb) (i : Nat) (u : Value) : RB (w.setCell ⟨rb, i, none⟩ u) A xs := by
  intro hne
  obtain ⟨b, off, rfl, hc⟩ := h hne
  have hb : b ≠ rb := fun e => hf (by rw [e]; rfl)
  exact ⟨b, off, rfl, fun k hk => (World.cell?_of_block (Below.heap_setCell _ _ _ _ hb)).trans (hc k hk)⟩
theorem Rdr.drop {w : World} {rb : Nat} {A : Option Addr} {c : Nat} {xs : List UInt8} (h : Rdr w rb A c xs) (n : Nat) (hn : n ≤ xs.length) :
    Rdr (w.setCell ⟨rb, 0, none⟩ (.slice (if c = n then A else A.map (·.add n)) (xs.length - n) (c - n))) rb (if c = n then A else A.map (·.add n)) (c - n) (xs.drop n) := by
  have hl : (xs.drop n).length = xs.length - n := List.length_drop
  have hf : (if c = n then A else A.map (·.add n)).map (·.block) ≠ some rb := by
    have h1 := h.far
    split
    · exact h1
    · rcases A with _ | ⟨b, o, s⟩
      · simp
      · simp only [Option.map_some]
        intro e
        apply h1
        rw [← e]
        simp only [Option.map_some, Addr.add]
        split <;> rfl
  refine ⟨?_, ?_, (h.rb.drop n c h.cap).set_far hf _ _, hf⟩
  · rw [hl]
    exact h.blk.put 0 _
  · have := h.cap
    omega

theorem take_ok {rb : Nat} {A : Option Addr} {c : Nat} {xs : List UInt8} {w : World} (h : Rdr w rb A c xs) (n : Nat) (hn : n ≤ xs.length) (hs : xs.length ≤ 1000) (hc : c ≤ c) :
    Calls Try.prog 50 #[.pointer (some ⟨rb, 0, none⟩), .int .i64 n] w fun e w' => e = .returned (.slice A n c) ∧ w' = w.setCell ⟨rb, 0, none⟩ (.slice (if c = n then A else A.map (·.add n)) (xs.length - n) (c - n)) := by
  have z := h.blk.cell 0
  have f := h.blk.free 0
  have hcap := h.cap
  have z' : w.cell? ⟨rb, 0, none⟩ = some (.slice A xs.length c) := z
  clear z h
  have hlt : ¬ ((xs.length : Int) < (n : Int)) := by omega
  have h0 : (0 : Int) ≤ (n : Int) := by omega
  have h1 : (n : Int) ≤ (xs.length : Int) := by omega
  have h2 : (n : Int) ≤ (c : Int) := by omega
  by_cases hcn : c = n
  · rw [if_pos hcn]
    go_enter Try.func50, Try.ntmps50
    go_wp2
    go_ret
    exact ⟨rfl, rfl⟩
  · rw [if_neg hcn]
    go_enter Try.func50, Try.ntmps50
    go_wp2
    go_ret
    exact ⟨rfl, rfl⟩
theorem take_bad {rb : Nat} {A : Option Addr} {c : Nat} {xs : List UInt8} {w : World} (h : Rdr w rb A c xs) (n : Nat) (hn : xs.length < n) (hs : n ≤ 1000) :
    Calls Try.prog 50 #[.pointer (some ⟨rb, 0, none⟩), .int .i64 n] w fun e w' => e = badP 5 ∧ w' = w := by
  have z' : w.cell? ⟨rb, 0, none⟩ = some (.slice A xs.length c) := h.blk.cell 0
  clear h
  have hlt : ((xs.length : Int) < (n : Int)) := by omega
  go_enter Try.func50, Try.ntmps50
  go_wp2
  refine ⟨rfl, ?_⟩
  exact ⟨rfl, rfl⟩
theorem number_ok {rb : Nat} {A : Option Addr} {c : Nat} {x : UInt8} {xs : List UInt8} {w : World} (h : Rdr w rb A c (x :: xs)) (hs : xs.length ≤ 999) (hc : c ≤ c) :
    Calls Try.prog 47 #[.pointer (some ⟨rb, 0, none⟩)] w fun e w' => e = .returned (.int .i64 (x.toNat : Int)) ∧ ∃ A' c', c' ≤ c ∧ Rdr w' rb A' c' xs ∧ w' = w.setCell ⟨rb, 0, none⟩ (.slice A' xs.length c') ∧ A'.map (·.block) = A.map (·.block) := by
  have hd := h.drop 1 (by simp)
  have hq := take_ok h 1 (by simp) (by simp; omega) hc
  have hl : (x :: xs).length - 1 = xs.length := by simp
  have hdr : (x :: xs).drop 1 = xs := rfl
  rw [hl] at hd hq
  rw [hdr] at hd
  obtain ⟨b, off, hA, hcell⟩ := h.rb.at_ (by simp)
  have hfar := h.far
  subst hA
  have z := hcell 0 (by simp)
  rw [Nat.add_zero] at z
  have hbr : b ≠ rb := fun e => hfar (by rw [e]; rfl)
  have z2 : ∀ u : Value, (w.setCell ⟨rb, 0, none⟩ u).cell? ⟨b, off, none⟩ = some (.int .u8 (x.toNat : Int)) := fun u => by
    rw [World.cell?_of_block (Below.heap_setCell _ _ _ _ (by exact hbr))]
    exact z
  have hblk : (if c = 1 then (some ⟨b, off, none⟩ : Option Addr) else (some ⟨b, off, none⟩ : Option Addr).map (·.add 1)).map (·.block) = (some ⟨b, off, none⟩ : Option Addr).map (·.block) := by
    split
    · rfl
    · simp only [Option.map_some, Addr.add]
      split <;> rfl
  generalize (if c = 1 then (some ⟨b, off, none⟩ : Option Addr) else (some ⟨b, off, none⟩ : Option Addr).map (·.add 1)) = A2 at hd hq hblk
  have hx : (x.toNat : Int) ≤ 255 := by have := x.toNat_lt; omega
  clear h hcell z hl hdr hfar
  go_enter Try.func47, Try.ntmps47
  go_wp2_with fail
  refine hq.mono ?_
  clear hq
  rintro e w1 ⟨rfl, rfl⟩
  have z3 := z2 (.slice A2 xs.length (c - 1))
  go_wp2
  go_ret
  exact ⟨rfl, A2, c - 1, by omega, hd, rfl, hblk⟩
theorem number_bad {rb : Nat} {A : Option Addr} {c : Nat} {w : World} (h : Rdr w rb A c []) :
    Calls Try.prog 47 #[.pointer (some ⟨rb, 0, none⟩)] w fun e w' => e = badP 5 ∧ w' = w := by
  have hq := take_bad h 1 (by simp) (by omega)
  go_enter Try.func47, Try.ntmps47
  go_wp2_with fail
  refine hq.mono ?_
  rintro e w1 ⟨rfl, rfl⟩
  refine ⟨rfl, ?_⟩
  exact ⟨rfl, rfl⟩
end Go.Proofs.Ytkhobpghiachoaa
