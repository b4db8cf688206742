/-
  AtrReads: the walk.
-/
import Derived.Test.YtkhobpghiachoaaWorks05
import Derived.Test.YtkhobpghiachoaaReads05
import Derived.Test.YtkhobpghiachoaaFew05
import Derived.Deep.RegionHeld3
namespace Go.Proofs.Ytkhobpghiachoaa
open Go.RowKit Crc
set_option linter.unusedVariables false

set_option maxRecDepth 100000 in
set_option maxHeartbeats 8000000 in
theorem atrReads_go (aI : Bool) (bA : Option Addr) (bC : Nat) (bs : List If) (pA : Option Addr) (pC : Nat) (ps : List Int) (hA : Option Addr) (hC : Nat) (hs : List UInt8)  (w : World) (hi : AtrIn w ⟨aI, bA, bC, bs, pA, pC, ps, hA, hC, hs⟩) :
    Calls Try.prog 8 #[.agg #[.bool aI, .slice bA bs.length bC, .slice pA ps.length pC, .slice hA hs.length hC]] w fun e w' => e = .returned (.bool true) ∧ Below w.heap.size w w' := by
  have hk0 := Blk.made w 27 #[.bool aI, .slice bA bs.length bC, .slice pA ps.length pC, .slice hA hs.length hC]
  have hb0 := (Below.refl w.heap.size w).alloc (Nat.le_refl _) (.cells #[.bool aI, .slice bA bs.length bC, .slice pA ps.length pC, .slice hA hs.length hC] 27)
  obtain ⟨W0, hW0⟩ : ∃ W0 : World, W0 = w.alloc (.cells #[.bool aI, .slice bA bs.length bC, .slice pA ps.length pC, .slice hA hs.length hC] 27) := ⟨_, rfl⟩
  rw [← hW0] at hk0 hb0
  have hi0 := hi.below hb0
  have n0 : W0.cell? ⟨w.heap.size, 0, none⟩ = some (.bool aI) := hk0.cell 0
  have n1 : W0.cell? ⟨w.heap.size, 1, none⟩ = some (.slice bA bs.length bC) := hk0.cell 1
  have n2 : W0.cell? ⟨w.heap.size, 2, none⟩ = some (.slice pA ps.length pC) := hk0.cell 2
  have n3 : W0.cell? ⟨w.heap.size, 3, none⟩ = some (.slice hA hs.length hC) := hk0.cell 3
  have hcell : ∀ w', Below W0.heap.size W0 w' → w'.cell? ⟨w.heap.size, 0, none⟩ = some (.bool aI) ∧ w'.cell? ⟨w.heap.size, 1, none⟩ = some (.slice bA bs.length bC) ∧ w'.cell? ⟨w.heap.size, 2, none⟩ = some (.slice pA ps.length pC) ∧ w'.cell? ⟨w.heap.size, 3, none⟩ = some (.slice hA hs.length hC) := fun w' hb =>
    ⟨(hb.cell (p := ⟨w.heap.size, 0, none⟩) hk0.size).trans n0, (hb.cell (p := ⟨w.heap.size, 1, none⟩) hk0.size).trans n1, (hb.cell (p := ⟨w.heap.size, 2, none⟩) hk0.size).trans n2, (hb.cell (p := ⟨w.heap.size, 3, none⟩) hk0.size).trans n3⟩
  go_enter Try.func8, Try.ntmps8
  go_upto_region 1 with fail
  rw [← hW0]
  clear hW0
  go_wp2_with fail
  refine (few_go aI bA bC bs pA pC ps hA hC hs W0).mono ?_
  rintro e w1 ⟨rfl, hb1⟩
  by_cases hf : fewF ⟨aI, bA, bC, bs, pA, pC, ps, hA, hC, hs⟩ = true
  · obtain ⟨hl1, hl2, hl3⟩ := fewF_true hf
    simp only at hl1 hl2 hl3
    rw [hf]
    clear hf
    obtain ⟨m0, m1, m2, m3⟩ := hcell w1 hb1
    obtain ⟨I, hI⟩ : ∃ I, I = ifsF ⟨aI, bA, bC, bs, pA, pC, ps, hA, hC, hs⟩ := ⟨_, rfl⟩
    obtain ⟨S, hS⟩ : ∃ S, S = sumkF ⟨aI, bA, bC, bs, pA, pC, ps, hA, hC, hs⟩ := ⟨_, rfl⟩
    have low : ∀ w' w2, Below W0.heap.size W0 w' → Below w'.heap.size w' w2 → Below W0.heap.size W0 w2 := fun w' w2 h h2 => h.trans (h2.mono h.size)
    have qI := fun w' (h : Below W0.heap.size W0 w') => (ifs_go aI bA bC bs pA pC ps hA hC hs I hI w' (hi0.below h) (by omega) (by omega)).mono fun e w2 ⟨h1, h2⟩ => (⟨h1, low _ _ h h2⟩ : _ ∧ Below W0.heap.size W0 w2)
    have rI := fun w' (h : Below W0.heap.size W0 w') => (rifs_go aI bA bC bs pA pC ps hA hC hs I hI w' (hi0.below h) (by omega) (by omega)).mono fun e w2 ⟨h1, h2⟩ => (⟨h1, low _ _ h h2⟩ : _ ∧ Below W0.heap.size W0 w2)
    have qS := fun w' (h : Below W0.heap.size W0 w') => (sumk_go aI bA bC bs pA pC ps hA hC hs S hS w' (hi0.below h) (by omega) (by omega)).mono fun e w2 ⟨h1, h2⟩ => (⟨h1, low _ _ h h2⟩ : _ ∧ Below W0.heap.size W0 w2)
    have rS := fun w' (h : Below W0.heap.size W0 w') => (rsumk_go aI bA bC bs pA pC ps hA hC hs S hS w' (hi0.below h) (by omega) (by omega)).mono fun e w2 ⟨h1, h2⟩ => (⟨h1, low _ _ h h2⟩ : _ ∧ Below W0.heap.size W0 w2)
    have qW := fun w' (h : Below W0.heap.size W0 w') => (works_any w').mono fun e w2 ⟨h1, h2⟩ => (⟨h1, low _ _ h h2⟩ : _ ∧ Below W0.heap.size W0 w2)
    have hb1d : Below W0.heap.size W0 w1.drew := below_drewN hb1 1
    have hSS : ∀ w', Below W0.heap.size W0 w' → w'.cell? ⟨w.heap.size, 0, none⟩ = some (.bool aI) ∧ w'.cell? ⟨w.heap.size, 1, none⟩ = some (.slice bA bs.length bC) ∧ w'.cell? ⟨w.heap.size, 2, none⟩ = some (.slice pA ps.length pC) ∧ w'.cell? ⟨w.heap.size, 3, none⟩ = some (.slice hA hs.length hC) := hcell
    clear hI hS hcell m0 m1 m2 m3
    go_upto_region 3 with fail
    go_region_held3 (fun w' => w'.cell? ⟨w.heap.size, 0, none⟩ = some (.bool aI) ∧ w'.cell? ⟨w.heap.size, 1, none⟩ = some (.slice bA bs.length bC) ∧ w'.cell? ⟨w.heap.size, 2, none⟩ = some (.slice pA ps.length pC) ∧ w'.cell? ⟨w.heap.size, 3, none⟩ = some (.slice hA hs.length hC)) (first | assumption | exact hSS _ (by assumption)) (first
      | (go_at_call 23; refine (qI _ (by assumption)).mono ?_; rintro e w2 ⟨rfl, hb2⟩)
      | (go_at_call 24; refine (rI _ (by assumption)).mono ?_; rintro e w3 ⟨rfl, hb3⟩)
      | (go_at_call 25; refine (qS _ (by assumption)).mono ?_; rintro e w4 ⟨rfl, hb4⟩)
      | (go_at_call 26; refine (rS _ (by assumption)).mono ?_; rintro e w5 ⟨rfl, hb5⟩)
      | (go_at_call 12; refine (qW _ (by assumption)).mono ?_; rintro e w6 ⟨rfl, hb6⟩))
    all_goals
      go_wp2
      go_ret
      exact ⟨rfl, hb0.trans (Below.mono (by assumption) hb0.size)⟩
  · rw [Bool.eq_false_iff.2 hf]
    go_wp2_with fail
    refine (works_any w1).mono ?_
    rintro e w2 ⟨rfl, hb2⟩
    go_wp2
    go_ret
    exact ⟨rfl, hb0.trans ((hb1.trans (hb2.mono hb1.size)).mono hb0.size)⟩
theorem atrReads_walk (w : World) (a : Atr) (hi : AtrIn w a) :
    Calls Try.prog 8 #[.agg (atrCs a)] w fun e w' => e = .returned (.bool true) ∧ Below w.heap.size w w' := by
  obtain ⟨aI, bA, bC, bs, pA, pC, ps, hA, hC, hs⟩ := a
  exact atrReads_go aI bA bC bs pA pC ps hA hC hs w hi
end Go.Proofs.Ytkhobpghiachoaa
