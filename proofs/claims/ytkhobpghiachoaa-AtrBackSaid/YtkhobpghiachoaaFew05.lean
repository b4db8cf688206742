/-
  Whether an answer to reset is small enough: few.
-/
import Derived.Test.YtkhobpghiachoaaAtr
namespace Go.Proofs.Ytkhobpghiachoaa
open Go.RowKit
set_option linter.unusedVariables false

def fewF (a : Atr) : Bool := decide (a.bs.length ≤ 100) && decide (a.ps.length ≤ 20) && decide (a.hs.length ≤ 100)
theorem few_go (aI : Bool) (bA : Option Addr) (bC : Nat) (bs : List If) (pA : Option Addr) (pC : Nat) (ps : List Int) (hA : Option Addr) (hC : Nat) (hs : List UInt8) (w : World) :
    Calls Try.prog 16 #[.agg #[.bool aI, .slice bA bs.length bC, .slice pA ps.length pC, .slice hA hs.length hC]] w fun e w' => e = .returned (.bool (fewF ⟨aI, bA, bC, bs, pA, pC, ps, hA, hC, hs⟩)) ∧ Below w.heap.size w w' := by
  have hk0 := Blk.made w 27 #[.bool aI, .slice bA bs.length bC, .slice pA ps.length pC, .slice hA hs.length hC]
  have hb0 := (Below.refl w.heap.size w).alloc (Nat.le_refl _) (.cells #[.bool aI, .slice bA bs.length bC, .slice pA ps.length pC, .slice hA hs.length hC] 27)
  obtain ⟨W0, hW0⟩ : ∃ W0 : World, W0 = w.alloc (.cells #[.bool aI, .slice bA bs.length bC, .slice pA ps.length pC, .slice hA hs.length hC] 27) := ⟨_, rfl⟩
  rw [← hW0] at hk0 hb0
  have n1 : W0.cell? ⟨w.heap.size, 1, none⟩ = some (.slice bA bs.length bC) := hk0.cell 1
  have n2 : W0.cell? ⟨w.heap.size, 2, none⟩ = some (.slice pA ps.length pC) := hk0.cell 2
  have n3 : W0.cell? ⟨w.heap.size, 3, none⟩ = some (.slice hA hs.length hC) := hk0.cell 3
  have HF : Hid (∀ b, b = (decide ((bs.length : Int) ≤ 100) && decide ((ps.length : Int) ≤ 20) && decide ((hs.length : Int) ≤ 100)) → fewF ⟨aI, bA, bC, bs, pA, pC, ps, hA, hC, hs⟩ = b) := by
    intro b hb
    rw [hb]
    unfold fewF
    rw [Bool.eq_iff_iff]
    simp
    omega
  go_enter Try.func16, Try.ntmps16
  go_upto_region 1 with fail
  rw [← hW0]
  clear hW0
  by_cases h1 : (bs.length : Int) ≤ 100
  · by_cases h2 : (ps.length : Int) ≤ 20
    · by_cases h3 : (hs.length : Int) ≤ 100
      · have HT := Lib.hid (HF.out true (by rw [decide_eq_true h1, decide_eq_true h2, decide_eq_true h3]; rfl))
        go_wp2
        go_ret
        exact ⟨by rw [HT.out]; first | rfl | (simp; omega), hb0⟩
      · have HT := Lib.hid (HF.out false (by rw [decide_eq_false h3]; simp))
        have h3d := decide_eq_false h3
        go_wp2
        go_ret
        exact ⟨by rw [HT.out]; first | rfl | (simp; omega), hb0⟩
    · have HT := Lib.hid (HF.out false (by rw [decide_eq_false h2]; simp))
      have h2d := decide_eq_false h2
      go_wp2
      go_ret
      exact ⟨by rw [HT.out]; first | rfl | (simp; omega), hb0⟩
  · have HT := Lib.hid (HF.out false (by rw [decide_eq_false h1]; simp))
    have h1d := decide_eq_false h1
    go_wp2
    go_ret
    exact ⟨by rw [HT.out]; first | rfl | (simp; omega), hb0⟩
theorem fewF_true {a : Atr} (h : fewF a = true) : a.bs.length ≤ 100 ∧ a.ps.length ≤ 20 ∧ a.hs.length ≤ 100 := by
  unfold fewF at h
  simp only [Bool.and_eq_true, decide_eq_true_eq] at h
  exact ⟨h.1.1, h.1.2, h.2⟩
end Go.Proofs.Ytkhobpghiachoaa
