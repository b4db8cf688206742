/-
  The reference's Check and Encode.
-/
import Derived.Test.YtkhobpghiachoaaBytes05
import Derived.Test.YtkhobpghiachoaaRight
import Derived.Test.YtkhobpghiachoaaCheck05
namespace Go.Proofs.Ytkhobpghiachoaa
open Go.RowKit Crc
set_option linter.unusedVariables false

set_option maxHeartbeats 2000000 in
theorem rcheck_go (aI : Bool) (bA : Option Addr) (bC : Nat) (bs : List If) (pA : Option Addr) (pC : Nat) (ps : List Int) (hA : Option Addr) (hC : Nat) (hs : List UInt8) (R : Int) (hRR : R = chkF ⟨aI, bA, bC, bs, pA, pC, ps, hA, hC, hs⟩) (w : World) (hi : AtrIn w ⟨aI, bA, bC, bs, pA, pC, ps, hA, hC, hs⟩) (hbl : bs.length ≤ 1000) (hpl : ps.length ≤ 1000) :
    Calls Try.prog 37 #[.agg #[.bool aI, .slice bA bs.length bC, .slice pA ps.length pC, .slice hA hs.length hC]] w fun e w' => e = .returned (.int .i64 R) ∧ Below w.heap.size w w' := by
  have hk0 := Blk.made w 27 #[.bool aI, .slice bA bs.length bC, .slice pA ps.length pC, .slice hA hs.length hC]
  have hb0 := (Below.refl w.heap.size w).alloc (Nat.le_refl _) (.cells #[.bool aI, .slice bA bs.length bC, .slice pA ps.length pC, .slice hA hs.length hC] 27)
  have HRR := Lib.hid hRR
  clear hRR
  obtain ⟨W0, hW0⟩ : ∃ W0 : World, W0 = w.alloc (.cells #[.bool aI, .slice bA bs.length bC, .slice pA ps.length pC, .slice hA hs.length hC] 27) := ⟨_, rfl⟩
  rw [← hW0] at hk0 hb0
  have hi0 := hi.below hb0
  have n0 : W0.cell? ⟨w.heap.size, 0, none⟩ = some (.bool aI) := hk0.cell 0
  have n1 : W0.cell? ⟨w.heap.size, 1, none⟩ = some (.slice bA bs.length bC) := hk0.cell 1
  have n2 : W0.cell? ⟨w.heap.size, 2, none⟩ = some (.slice pA ps.length pC) := hk0.cell 2
  have n3 : W0.cell? ⟨w.heap.size, 3, none⟩ = some (.slice hA hs.length hC) := hk0.cell 3
  go_enter Try.func37, Try.ntmps37
  go_upto_region 1 with fail
  rw [← hW0]
  clear hW0
  go_wp2_with fail
  refine (right_any ⟨aI, bA, bC, bs, pA, pC, ps, hA, hC, hs⟩ W0 hi0 (by simp only; omega) (by simp only; omega)).mono ?_
  rintro e w1 ⟨rfl, hb1⟩
  have hbw := hb0.trans (hb1.mono hb0.size)
  by_cases hr : rulesF ⟨aI, bA, bC, bs, pA, pC, ps, hA, hC, hs⟩ = true
  · rw [hr]
    have HR := Lib.hid hr
    have hcs := chk_same hr
    simp only at hcs
    clear hr
    have m0 := (hb1.cell (p := ⟨w.heap.size, 0, none⟩) hk0.size).trans n0
    have m1 := (hb1.cell (p := ⟨w.heap.size, 1, none⟩) hk0.size).trans n1
    have m2 := (hb1.cell (p := ⟨w.heap.size, 2, none⟩) hk0.size).trans n2
    have m3 := (hb1.cell (p := ⟨w.heap.size, 3, none⟩) hk0.size).trans n3
    have hi1 := hi0.below hb1
    obtain ⟨L, hL⟩ : ∃ L, L = lastN (ps.headD 0) ps.length bs := ⟨_, rfl⟩
    have hla : Calls Try.prog 55 #[.agg #[.bool aI, .slice bA bs.length bC, .slice pA ps.length pC, .slice hA hs.length hC]] w1 fun e w' => e = .returned (.int .i64 L) ∧ Below w1.heap.size w1 w' := by
      rw [hL]
      exact last_any ⟨aI, bA, bC, bs, pA, pC, ps, hA, hC, hs⟩ w1 hi1 hbl HR.out
    obtain ⟨E, hE⟩ : ∃ E, E = encR ⟨aI, bA, bC, bs, pA, pC, ps, hA, hC, hs⟩ := ⟨_, rfl⟩
    rw [← hL, ← hE] at hcs
    have HCS : Hid (R = if 33 < bs.length ∨ 40 < L ∨ 33 < E.length then 3 else 0) := by
      show _ = _
      rw [HRR.out, hcs]
    have HEE := Lib.hid hE
    clear hcs hE hL
    by_cases g1 : 33 < bs.length
    · have HF : Hid (R = 3) := by show _ = _; rw [HCS.out, if_pos (.inl g1)]
      have g1i : (33 : Int) < (bs.length : Int) := by omega
      go_wp2
      go_ret
      exact ⟨by rw [HF.out]; rfl, hbw⟩
    · have g1i : ¬ ((33 : Int) < (bs.length : Int)) := by omega
      go_wp2_with fail
      refine hla.mono ?_
      rintro e w2 ⟨rfl, hb2⟩
      clear hla
      have hb2' := hb1.trans (hb2.mono hb1.size)
      have hbw2 := hb0.trans (hb2'.mono hb0.size)
      by_cases g2 : 40 < L
      · have HF : Hid (R = 3) := by show _ = _; rw [HCS.out, if_pos (.inr (.inl g2))]
        go_wp2
        go_ret
        exact ⟨by rw [HF.out]; rfl, hbw2⟩
      · clear m0 m1 m2 m3
        have m0 := (hb2'.cell (p := ⟨w.heap.size, 0, none⟩) hk0.size).trans n0
        have m1 := (hb2'.cell (p := ⟨w.heap.size, 1, none⟩) hk0.size).trans n1
        have m2 := (hb2'.cell (p := ⟨w.heap.size, 2, none⟩) hk0.size).trans n2
        have m3 := (hb2'.cell (p := ⟨w.heap.size, 3, none⟩) hk0.size).trans n3
        have hby : Calls Try.prog 38 #[.agg #[.bool aI, .slice bA bs.length bC, .slice pA ps.length pC, .slice hA hs.length hC]] w2 fun e w' => ∃ A c, e = .returned (.slice A E.length c) ∧ RB w' A E ∧ Below w2.heap.size w2 w' := by
          rw [HEE.out]
          exact bytes_any ⟨aI, bA, bC, bs, pA, pC, ps, hA, hC, hs⟩ w2 (hi0.below hb2') (by simp only; omega) HR.out
        have g2d := decide_eq_false g2
        go_wp2_with fail
        refine hby.mono ?_
        rintro e w3 ⟨A3, c3, rfl, hr3, hb3⟩
        have hbw3 := hbw2.trans (hb3.mono hbw2.size)
        clear hby
        by_cases g3 : 33 < E.length
        · have HF : Hid (R = 3) := by show _ = _; rw [HCS.out, if_pos (.inr (.inr g3))]
          have g3i : (33 : Int) < (E.length : Int) := by omega
          go_wp2
          go_ret
          exact ⟨by rw [HF.out]; rfl, hbw3⟩
        · have HF : Hid (R = 0) := by show _ = _; rw [HCS.out, if_neg (by omega)]
          have g3i : ¬ ((33 : Int) < (E.length : Int)) := by omega
          go_wp2
          go_ret
          exact ⟨by rw [HF.out]; rfl, hbw3⟩
  · rw [Bool.eq_false_iff.2 hr]
    have HF : Hid (R = 1) := by
      show _ = _
      rw [HRR.out]
      unfold chkF
      rw [if_pos (Bool.eq_false_iff.2 hr)]
    clear hr
    go_wp2
    go_ret
    exact ⟨by rw [HF.out]; rfl, hbw⟩
theorem rcheck_any (a : Atr) (w : World) (hi : AtrIn w a) (hbl : a.bs.length ≤ 1000) (hpl : a.ps.length ≤ 1000) :
    Calls Try.prog 37 #[.agg (atrCs a)] w fun e w' => e = .returned (.int .i64 (chkF a)) ∧ Below w.heap.size w w' := by
  obtain ⟨aI, bA, bC, bs, pA, pC, ps, hA, hC, hs⟩ := a
  exact rcheck_go aI bA bC bs pA pC ps hA hC hs _ rfl w hi hbl hpl

set_option maxHeartbeats 2000000 in
theorem rencE_go (aI : Bool) (bA : Option Addr) (bC : Nat) (bs : List If) (pA : Option Addr) (pC : Nat) (ps : List Int) (hA : Option Addr) (hC : Nat) (hs : List UInt8) (R : Int) (hRR : R = chkF ⟨aI, bA, bC, bs, pA, pC, ps, hA, hC, hs⟩) (E : List UInt8) (hE : E = outF ⟨aI, bA, bC, bs, pA, pC, ps, hA, hC, hs⟩) (w : World) (hi : AtrIn w ⟨aI, bA, bC, bs, pA, pC, ps, hA, hC, hs⟩) (hbl : bs.length ≤ 1000) (hpl : ps.length ≤ 1000) :
    Calls Try.prog 18 #[.agg #[.bool aI, .slice bA bs.length bC, .slice pA ps.length pC, .slice hA hs.length hC]] w fun e w' => ∃ A c, e = .returned (.tuple #[.slice A E.length c, .int .i64 R]) ∧ RB w' A E ∧ Below w.heap.size w w' := by
  have hk0 := Blk.made w 27 #[.bool aI, .slice bA bs.length bC, .slice pA ps.length pC, .slice hA hs.length hC]
  have hb0 := (Below.refl w.heap.size w).alloc (Nat.le_refl _) (.cells #[.bool aI, .slice bA bs.length bC, .slice pA ps.length pC, .slice hA hs.length hC] 27)
  have HRR := Lib.hid hRR
  have hq := rcheck_go aI bA bC bs pA pC ps hA hC hs R hRR
  have HE := Lib.hid hE
  clear hRR hE
  obtain ⟨W0, hW0⟩ : ∃ W0 : World, W0 = w.alloc (.cells #[.bool aI, .slice bA bs.length bC, .slice pA ps.length pC, .slice hA hs.length hC] 27) := ⟨_, rfl⟩
  rw [← hW0] at hk0 hb0
  have hi0 := hi.below hb0
  have n0 : W0.cell? ⟨w.heap.size, 0, none⟩ = some (.bool aI) := hk0.cell 0
  have n1 : W0.cell? ⟨w.heap.size, 1, none⟩ = some (.slice bA bs.length bC) := hk0.cell 1
  have n2 : W0.cell? ⟨w.heap.size, 2, none⟩ = some (.slice pA ps.length pC) := hk0.cell 2
  have n3 : W0.cell? ⟨w.heap.size, 3, none⟩ = some (.slice hA hs.length hC) := hk0.cell 3
  go_enter Try.func18, Try.ntmps18
  go_upto_region 1 with fail
  rw [← hW0]
  clear hW0
  go_wp2_with fail
  refine (hq W0 hi0 hbl hpl).mono ?_
  clear hq
  rintro e w1 ⟨rfl, hb1⟩
  have hbw := hb0.trans (hb1.mono hb0.size)
  have hi1 := hi0.below hb1
  by_cases h0 : R = 0
  · have hc0 : chkF ⟨aI, bA, bC, bs, pA, pC, ps, hA, hC, hs⟩ = 0 := by rw [← HRR.out, h0]
    obtain ⟨h1, h2, h3⟩ := chkF_zero hc0
    have hb33 : bs.length ≤ 33 := by
      have h4 := chk_same h1
      rw [hc0] at h4
      simp only at h4
      split at h4
      · cases h4
      · rename_i h5
        exact Nat.not_lt.1 fun h => h5 (.inl h)
    have hen : Calls Try.prog 38 #[.agg #[.bool aI, .slice bA bs.length bC, .slice pA ps.length pC, .slice hA hs.length hC]] w1 fun e w' => ∃ A c, e = .returned (.slice A E.length c) ∧ RB w' A E ∧ Below w1.heap.size w1 w' := by
      have h := bytes_any ⟨aI, bA, bC, bs, pA, pC, ps, hA, hC, hs⟩ w1 hi1 (by simp only; omega) h1
      rw [← encF_same (valid_of h1)] at h
      rw [HE.out]
      unfold outF
      rw [if_pos hc0]
      exact h
    have m0 := (hb1.cell (p := ⟨w.heap.size, 0, none⟩) hk0.size).trans n0
    have m1 := (hb1.cell (p := ⟨w.heap.size, 1, none⟩) hk0.size).trans n1
    have m2 := (hb1.cell (p := ⟨w.heap.size, 2, none⟩) hk0.size).trans n2
    have m3 := (hb1.cell (p := ⟨w.heap.size, 3, none⟩) hk0.size).trans n3
    subst h0
    clear hc0 h1 h2 h3
    go_wp2_with fail
    refine hen.mono ?_
    rintro e w2 ⟨A2, c2, rfl, hr2, hb2⟩
    have hbx := hbw.trans (hb2.mono hbw.size)
    clear hen
    go_wp2
    go_ret2
    exact ⟨A2, c2, rfl, hr2, hbx⟩
  · have hE0 : E = [] := by
      rw [HE.out]
      unfold outF
      rw [if_neg (by rw [← HRR.out]; exact h0)]
    have h0b : (R != 0) = true := by simpa using h0
    subst hE0
    go_wp2
    go_ret2
    exact ⟨none, 0, rfl, RB.nil _ _, hbw⟩
theorem rencE_any (a : Atr) (w : World) (hi : AtrIn w a) (hbl : a.bs.length ≤ 1000) (hpl : a.ps.length ≤ 1000) :
    Calls Try.prog 18 #[.agg (atrCs a)] w fun e w' => ∃ A c, e = .returned (.tuple #[.slice A (outF a).length c, .int .i64 (chkF a)]) ∧ RB w' A (outF a) ∧ Below w.heap.size w w' := by
  obtain ⟨aI, bA, bC, bs, pA, pC, ps, hA, hC, hs⟩ := a
  exact rencE_go aI bA bC bs pA pC ps hA hC hs _ rfl _ rfl w hi hbl hpl
end Go.Proofs.Ytkhobpghiachoaa
