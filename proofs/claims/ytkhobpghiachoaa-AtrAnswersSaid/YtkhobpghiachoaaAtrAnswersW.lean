/-
  AtrAnswers: the walk.
-/
import Derived.Test.YtkhobpghiachoaaWorks05
import Derived.Test.YtkhobpghiachoaaAns05
import Derived.Test.YtkhobpghiachoaaFew05
namespace Go.Proofs.Ytkhobpghiachoaa
open Go.RowKit Crc
set_option linter.unusedVariables false

set_option maxRecDepth 100000 in
set_option maxHeartbeats 8000000 in
theorem atrAnswers_go (aI : Bool) (bA : Option Addr) (bC : Nat) (bs : List If) (pA : Option Addr) (pC : Nat) (ps : List Int) (hA : Option Addr) (hC : Nat) (hs : List UInt8) (B : Option Addr) (d : Nat) (q : List UInt8) (w : World) (hi : AtrIn w ⟨aI, bA, bC, bs, pA, pC, ps, hA, hC, hs⟩) (hqd : q.length ≤ d) (hq : RB w B q) :
    Calls Try.prog 9 #[.agg #[.bool aI, .slice bA bs.length bC, .slice pA ps.length pC, .slice hA hs.length hC], .slice B q.length d] w fun e w' => e = .returned (.bool true) ∧ Below w.heap.size w w' := by
  have hk0 := Blk.made w 27 #[.bool aI, .slice bA bs.length bC, .slice pA ps.length pC, .slice hA hs.length hC]
  have hb0 := (Below.refl w.heap.size w).alloc (Nat.le_refl _) (.cells #[.bool aI, .slice bA bs.length bC, .slice pA ps.length pC, .slice hA hs.length hC] 27)
  obtain ⟨W0, hW0⟩ : ∃ W0 : World, W0 = w.alloc (.cells #[.bool aI, .slice bA bs.length bC, .slice pA ps.length pC, .slice hA hs.length hC] 27) := ⟨_, rfl⟩
  rw [← hW0] at hk0 hb0
  have hi0 := hi.below hb0
  have hqW := hq.below hb0
  have n0 : W0.cell? ⟨w.heap.size, 0, none⟩ = some (.bool aI) := hk0.cell 0
  have n1 : W0.cell? ⟨w.heap.size, 1, none⟩ = some (.slice bA bs.length bC) := hk0.cell 1
  have n2 : W0.cell? ⟨w.heap.size, 2, none⟩ = some (.slice pA ps.length pC) := hk0.cell 2
  have n3 : W0.cell? ⟨w.heap.size, 3, none⟩ = some (.slice hA hs.length hC) := hk0.cell 3
  have hcell : ∀ w', Below W0.heap.size W0 w' → w'.cell? ⟨w.heap.size, 0, none⟩ = some (.bool aI) ∧ w'.cell? ⟨w.heap.size, 1, none⟩ = some (.slice bA bs.length bC) ∧ w'.cell? ⟨w.heap.size, 2, none⟩ = some (.slice pA ps.length pC) ∧ w'.cell? ⟨w.heap.size, 3, none⟩ = some (.slice hA hs.length hC) := fun w' hb =>
    ⟨(hb.cell (p := ⟨w.heap.size, 0, none⟩) hk0.size).trans n0, (hb.cell (p := ⟨w.heap.size, 1, none⟩) hk0.size).trans n1, (hb.cell (p := ⟨w.heap.size, 2, none⟩) hk0.size).trans n2, (hb.cell (p := ⟨w.heap.size, 3, none⟩) hk0.size).trans n3⟩
  go_enter Try.func9, Try.ntmps9
  go_upto_region 1 with fail
  rw [← hW0]
  clear hW0
  go_wp2_with fail
  refine (few_go aI bA bC bs pA pC ps hA hC hs W0).mono ?_
  rintro e w1 ⟨rfl, hb1⟩
  by_cases hf : fewF ⟨aI, bA, bC, bs, pA, pC, ps, hA, hC, hs⟩ = true
  · obtain ⟨hl1, hl2, hl3⟩ := fewF_true hf
    simp only at hl1 hl2 hl3
    rw [hf]
    clear hf
    by_cases hq100 : (100 : Int) < (q.length : Int)
    · go_wp2_with fail
      refine (works_any w1).mono ?_
      rintro e w2 ⟨rfl, hb2⟩
      go_wp2
      go_ret
      exact ⟨rfl, hb0.trans ((hb1.trans (hb2.mono hb1.size)).mono hb0.size)⟩
    have hq100d := decide_eq_false hq100
    have hq1 := hqW.below hb1
    obtain ⟨m0, m1, m2, m3⟩ := hcell w1 hb1
    have hQ := answer_go aI bA bC bs pA pC ps hA hC hs B d q w1 (hi0.below hb1) (by omega) (by omega) (by omega) hqd hq1
    have hR := fun w' (h : Below W0.heap.size W0 w') => ranswer_go aI bA bC bs pA pC ps hA hC hs B d q w' (hi0.below h) (by omega) (by omega) (by omega) hqd (hqW.below h)
    obtain ⟨a, ha⟩ : ∃ a : Atr, a = ⟨aI, bA, bC, bs, pA, pC, ps, hA, hC, hs⟩ := ⟨_, rfl⟩
    rw [← ha] at hQ
    simp only [← ha] at hR
    clear ha
    go_wp2_with fail
    refine hQ.mono ?_
    clear hQ
    rintro e w2 ⟨A2, c2, rfl, hr2, hb2⟩
    have hb2' := hb1.trans (hb2.mono hb1.size)
    clear m0 m1 m2 m3
    obtain ⟨m0, m1, m2, m3⟩ := hcell w2 hb2'
    go_wp2_with fail
    refine (hR w2 hb2').mono ?_
    clear hR
    rintro e w3 ⟨A3, c3, rfl, hr3, hb3⟩
    have hb3' := hb2'.trans (hb3.mono hb2'.size)
    have q2 := hr2.below hb3
    have x2 := q2.convert (P := Try.prog) 22 9 5 c2 Try.underlying22 Try.underlying5 Try.underlying9
    have x3 := hr3.convert (P := Try.prog) 22 9 5 c3 Try.underlying22 Try.underlying5 Try.underlying9
    go_wp2_with fail
    refine (works_any w3).mono ?_
    rintro e w4 ⟨rfl, hb4⟩
    go_wp2
    go_ret
    exact ⟨rfl, hb0.trans ((hb3'.trans (hb4.mono hb3'.size)).mono hb0.size)⟩
  · rw [Bool.eq_false_iff.2 hf]
    go_wp2_with fail
    refine (works_any w1).mono ?_
    rintro e w2 ⟨rfl, hb2⟩
    go_wp2
    go_ret
    exact ⟨rfl, hb0.trans ((hb1.trans (hb2.mono hb1.size)).mono hb0.size)⟩
theorem atrAnswers_walk (w : World) (a : Atr) (hi : AtrIn w a) (B : Option Addr) (d : Nat) (q : List UInt8) (hqd : q.length ≤ d) (hq : RB w B q) :
    Calls Try.prog 9 #[.agg (atrCs a), .slice B q.length d] w fun e w' => e = .returned (.bool true) ∧ Below w.heap.size w w' := by
  obtain ⟨aI, bA, bC, bs, pA, pC, ps, hA, hC, hs⟩ := a
  exact atrAnswers_go aI bA bC bs pA pC ps hA hC hs B d q w hi hqd hq
end Go.Proofs.Ytkhobpghiachoaa
