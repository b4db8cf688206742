/-
  AtrCompares: the walk.
-/
import Derived.Test.YtkhobpghiachoaaWorks05
import Derived.Test.YtkhobpghiachoaaSame05
import Derived.Test.YtkhobpghiachoaaFew05
import Derived.Deep.RegionHeld3
namespace Go.Proofs.Ytkhobpghiachoaa
open Go.RowKit Crc
set_option linter.unusedVariables false

set_option maxRecDepth 100000 in
set_option maxHeartbeats 8000000 in
theorem atrCompares_go (aI : Bool) (bA : Option Addr) (bC : Nat) (bs : List If) (pA : Option Addr) (pC : Nat) (ps : List Int) (hA : Option Addr) (hC : Nat) (hs : List UInt8) (aI2 : Bool) (bA2 : Option Addr) (bC2 : Nat) (bs2 : List If) (pA2 : Option Addr) (pC2 : Nat) (ps2 : List Int) (hA2 : Option Addr) (hC2 : Nat) (hs2 : List UInt8) (w : World) (hi : AtrIn w ⟨aI, bA, bC, bs, pA, pC, ps, hA, hC, hs⟩) (hj : AtrIn w ⟨aI2, bA2, bC2, bs2, pA2, pC2, ps2, hA2, hC2, hs2⟩) :
    Calls Try.prog 7 #[.agg #[.bool aI, .slice bA bs.length bC, .slice pA ps.length pC, .slice hA hs.length hC], .agg #[.bool aI2, .slice bA2 bs2.length bC2, .slice pA2 ps2.length pC2, .slice hA2 hs2.length hC2]] w fun e w' => e = .returned (.bool true) ∧ Below w.heap.size w w' := by
  have hk0 := (Blk.made w 27 #[.bool aI, .slice bA bs.length bC, .slice pA ps.length pC, .slice hA hs.length hC]).alloc (.cells #[.bool aI2, .slice bA2 bs2.length bC2, .slice pA2 ps2.length pC2, .slice hA2 hs2.length hC2] 27)
  have hk1 := Blk.made (w.alloc (.cells #[.bool aI, .slice bA bs.length bC, .slice pA ps.length pC, .slice hA hs.length hC] 27)) 27 #[.bool aI2, .slice bA2 bs2.length bC2, .slice pA2 ps2.length pC2, .slice hA2 hs2.length hC2]
  rw [show (w.alloc (.cells #[.bool aI, .slice bA bs.length bC, .slice pA ps.length pC, .slice hA hs.length hC] 27)).heap.size = w.heap.size + 1 from by simp] at hk1
  have hb0 := ((Below.refl w.heap.size w).alloc (Nat.le_refl _) (.cells #[.bool aI, .slice bA bs.length bC, .slice pA ps.length pC, .slice hA hs.length hC] 27)).alloc (by simp) (.cells #[.bool aI2, .slice bA2 bs2.length bC2, .slice pA2 ps2.length pC2, .slice hA2 hs2.length hC2] 27)
  obtain ⟨W0, hW0⟩ : ∃ W0 : World, W0 = (w.alloc (.cells #[.bool aI, .slice bA bs.length bC, .slice pA ps.length pC, .slice hA hs.length hC] 27)).alloc (.cells #[.bool aI2, .slice bA2 bs2.length bC2, .slice pA2 ps2.length pC2, .slice hA2 hs2.length hC2] 27) := ⟨_, rfl⟩
  go_enter Try.func7, Try.ntmps7
  go_upto_region 1 with fail
  rw [← hW0] at hk0 hk1 hb0
  rw [← hW0]
  clear hW0
  obtain ⟨ab, hab⟩ : ∃ ab, ab = w.heap.size := ⟨_, rfl⟩
  obtain ⟨cb, hcb⟩ : ∃ cb, cb = w.heap.size + 1 := ⟨_, rfl⟩
  rw [← hab] at hk0
  rw [← hcb] at hk1
  rw [← hcb, ← hab]
  clear hcb hab
  have hi0 := hi.below hb0
  have hj0 := hj.below hb0
  have hSS : ∀ w', Below W0.heap.size W0 w' → w'.cell? ⟨ab, 0, none⟩ = some (.bool aI) ∧ w'.cell? ⟨ab, 1, none⟩ = some (.slice bA bs.length bC) ∧ w'.cell? ⟨ab, 2, none⟩ = some (.slice pA ps.length pC) ∧ w'.cell? ⟨ab, 3, none⟩ = some (.slice hA hs.length hC) ∧ w'.cell? ⟨cb, 0, none⟩ = some (.bool aI2) ∧ w'.cell? ⟨cb, 1, none⟩ = some (.slice bA2 bs2.length bC2) ∧ w'.cell? ⟨cb, 2, none⟩ = some (.slice pA2 ps2.length pC2) ∧ w'.cell? ⟨cb, 3, none⟩ = some (.slice hA2 hs2.length hC2) := fun w' h =>
    ⟨(hk0.below h hk0.size).cell 0, (hk0.below h hk0.size).cell 1, (hk0.below h hk0.size).cell 2, (hk0.below h hk0.size).cell 3, (hk1.below h hk1.size).cell 0, (hk1.below h hk1.size).cell 1, (hk1.below h hk1.size).cell 2, (hk1.below h hk1.size).cell 3⟩
  obtain ⟨n0, n1, n2, n3, m0, m1, m2, m3⟩ := hSS W0 (Below.refl _ _)
  go_wp2_with fail
  refine (few_go aI bA bC bs pA pC ps hA hC hs W0).mono ?_
  rintro e w1 ⟨rfl, hb1⟩
  clear n0 n1 n2 n3 m0 m1 m2 m3
  by_cases hf : fewF ⟨aI, bA, bC, bs, pA, pC, ps, hA, hC, hs⟩ = true
  · obtain ⟨hl1, hl2, hl3⟩ := fewF_true hf
    simp only at hl1 hl2 hl3
    rw [hf]
    clear hf
    obtain ⟨n0, n1, n2, n3, m0, m1, m2, m3⟩ := hSS w1 hb1
    go_wp2_with fail
    refine (few_go aI2 bA2 bC2 bs2 pA2 pC2 ps2 hA2 hC2 hs2 w1).mono ?_
    rintro e w2 ⟨rfl, hb2⟩
    have hb2' := hb1.trans (hb2.mono hb1.size)
    clear n0 n1 n2 n3 m0 m1 m2 m3
    by_cases hf2 : fewF ⟨aI2, bA2, bC2, bs2, pA2, pC2, ps2, hA2, hC2, hs2⟩ = true
    · obtain ⟨hk1', hk2', hk3'⟩ := fewF_true hf2
      simp only at hk1' hk2' hk3'
      rw [hf2]
      clear hf2
      obtain ⟨R, hR⟩ : ∃ R, R = sameF ⟨aI, bA, bC, bs, pA, pC, ps, hA, hC, hs⟩ ⟨aI2, bA2, bC2, bs2, pA2, pC2, ps2, hA2, hC2, hs2⟩ := ⟨_, rfl⟩
      have low : ∀ w' w2, Below W0.heap.size W0 w' → Below w'.heap.size w' w2 → Below W0.heap.size W0 w2 := fun w' w2 h h2 => h.trans (h2.mono h.size)
      have q1 := fun w' (h : Below W0.heap.size W0 w') => (same_go aI bA bC bs pA pC ps hA hC hs aI2 bA2 bC2 bs2 pA2 pC2 ps2 hA2 hC2 hs2 w' (hi0.below h) (hj0.below h) (by omega) (by omega) R hR).mono fun e w2 ⟨h1, h2⟩ => (⟨h1, low _ _ h h2⟩ : _ ∧ Below W0.heap.size W0 w2)
      have q2 := fun w' (h : Below W0.heap.size W0 w') => (rsame_go aI bA bC bs pA pC ps hA hC hs aI2 bA2 bC2 bs2 pA2 pC2 ps2 hA2 hC2 hs2 w' (hi0.below h) (hj0.below h) (by omega) (by omega) R hR).mono fun e w2 ⟨h1, h2⟩ => (⟨h1, low _ _ h h2⟩ : _ ∧ Below W0.heap.size W0 w2)
      have q3 := fun w' (h : Below W0.heap.size W0 w') => (same_go aI2 bA2 bC2 bs2 pA2 pC2 ps2 hA2 hC2 hs2 aI bA bC bs pA pC ps hA hC hs w' (hj0.below h) (hi0.below h) (by omega) (by omega) R (by rw [hR]; exact sameF_comm _ _)).mono fun e w2 ⟨h1, h2⟩ => (⟨h1, low _ _ h h2⟩ : _ ∧ Below W0.heap.size W0 w2)
      have q4 := fun w' (h : Below W0.heap.size W0 w') => (same_go aI bA bC bs pA pC ps hA hC hs aI bA bC bs pA pC ps hA hC hs w' (hi0.below h) (hi0.below h) (by omega) (by omega) true (sameF_self _).symm).mono fun e w2 ⟨h1, h2⟩ => (⟨h1, low _ _ h h2⟩ : _ ∧ Below W0.heap.size W0 w2)
      have qW := fun w' (h : Below W0.heap.size W0 w') => (works_any w').mono fun e w2 ⟨h1, h2⟩ => (⟨h1, low _ _ h h2⟩ : _ ∧ Below W0.heap.size W0 w2)
      have hb1d : Below W0.heap.size W0 w2.drew := below_drewN hb2' 1
      clear hR hk0 hk1
      go_upto_region 3 with fail
      go_region_held3 (fun w' => w'.cell? ⟨ab, 0, none⟩ = some (.bool aI) ∧ w'.cell? ⟨ab, 1, none⟩ = some (.slice bA bs.length bC) ∧ w'.cell? ⟨ab, 2, none⟩ = some (.slice pA ps.length pC) ∧ w'.cell? ⟨ab, 3, none⟩ = some (.slice hA hs.length hC) ∧ w'.cell? ⟨cb, 0, none⟩ = some (.bool aI2) ∧ w'.cell? ⟨cb, 1, none⟩ = some (.slice bA2 bs2.length bC2) ∧ w'.cell? ⟨cb, 2, none⟩ = some (.slice pA2 ps2.length pC2) ∧ w'.cell? ⟨cb, 3, none⟩ = some (.slice hA2 hs2.length hC2)) (first | assumption | exact hSS _ (by assumption)) (first
        | (go_at_call 15; with_reducible refine (q2 _ (by assumption)).mono ?_; rintro e w3 ⟨rfl, hb3⟩)
        | (go_at_call 22; with_reducible refine (q1 _ (by assumption)).mono ?_; rintro e w4 ⟨rfl, hb4⟩)
        | (go_at_call 22; with_reducible refine (q3 _ (by assumption)).mono ?_; rintro e w5 ⟨rfl, hb5⟩)
        | (go_at_call 22; with_reducible refine (q4 _ (by assumption)).mono ?_; rintro e w5 ⟨rfl, hb5⟩)
        | (go_at_call 12; with_reducible refine (qW _ (by assumption)).mono ?_; rintro e w6 ⟨rfl, hb6⟩))
      all_goals
        go_wp2
        go_ret
        exact ⟨rfl, hb0.trans (Below.mono (by assumption) hb0.size)⟩
    · rw [Bool.eq_false_iff.2 hf2]
      go_wp2_with fail
      refine (works_any w2).mono ?_
      rintro e w9 ⟨rfl, hb9⟩
      go_wp2
      go_ret
      exact ⟨rfl, hb0.trans ((hb2'.trans (hb9.mono hb2'.size)).mono hb0.size)⟩
  · rw [Bool.eq_false_iff.2 hf]
    go_wp2_with fail
    refine (works_any w1).mono ?_
    rintro e w9 ⟨rfl, hb9⟩
    go_wp2
    go_ret
    exact ⟨rfl, hb0.trans ((hb1.trans (hb9.mono hb1.size)).mono hb0.size)⟩
theorem atrCompares_walk (w : World) (a : Atr) (hi : AtrIn w a) (b : Atr) (hj : AtrIn w b) :
    Calls Try.prog 7 #[.agg (atrCs a), .agg (atrCs b)] w fun e w' => e = .returned (.bool true) ∧ Below w.heap.size w w' := by
  obtain ⟨aI, bA, bC, bs, pA, pC, ps, hA, hC, hs⟩ := a
  obtain ⟨aI2, bA2, bC2, bs2, pA2, pC2, ps2, hA2, hC2, hs2⟩ := b
  exact atrCompares_go aI bA bC bs pA pC ps hA hC hs aI2 bA2 bC2 bs2 pA2 pC2 ps2 hA2 hC2 hs2 w hi hj
end Go.Proofs.Ytkhobpghiachoaa
