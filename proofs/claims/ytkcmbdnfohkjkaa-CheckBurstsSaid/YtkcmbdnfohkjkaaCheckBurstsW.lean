/-
  The walk of CheckBursts.
-/
import Derived.Test.YtkcmbdnfohkjkaaAwake
import Derived.Test.YtkcmbdnfohkjkaaDet
import Derived.BigRegion
namespace Go.Proofs.Ytkcmbdnfohkjkaa
open Go.RowKit Crc
set_option linter.unusedVariables false

theorem bit_test (p k : Nat) : ((p : Int) / 2 ^ k).tmod 2 = ((p / 2 ^ k % 2 : Nat) : Int) := by
  have h2 : ((2 ^ k : Nat) : Int) = (2 : Int) ^ k := by simp
  rw [← h2, ← Int.natCast_ediv, Int.natCast_emod]
  exact Int.tmod_eq_emod_of_nonneg (Int.natCast_nonneg _)

theorem bursts_from (w : World) (A : Option Addr) (c : Nat) (xs : List UInt8) (hc : xs.length ≤ c) (hr : RB w A xs) (hl : ¬ 400 < xs.length)
    (a : Int) (ha : 0 ≤ a) (ha2 : a ≤ 9223372036854775807) (p : Nat) (hp : p < 65536) (hp0 : 0 < p) :
    Calls Try.prog 9 #[.slice A xs.length c, .int .i64 a, .int .u16 p] w fun e w' => e = .returned (.bool true) ∧ Below w.heap.size w w' := by
  have hs := sumS_length 1 2 rfl (by omega) xs
  obtain ⟨ys, hys⟩ : ∃ ys, ys = xs ++ sumS 1 xs := ⟨_, rfl⟩
  have hyl : ys.length = xs.length + 2 := by rw [hys]; simp; omega
  have hylI : (ys.length : Int) ≤ 402 := by omega
  have hylp : (2 : Int) ≤ (ys.length : Int) := by omega
  obtain ⟨f, hat⟩ : ∃ f : Nat, a % (8 * (ys.length : Int) - 15) = (f : Int) := ⟨(a % (8 * (ys.length : Int) - 15)).toNat, by have := Int.emod_nonneg a (show 8 * (ys.length : Int) - 15 ≠ 0 from by omega); omega⟩
  have hfl : f + 16 ≤ 8 * ys.length := by have := Int.emod_lt_of_pos a (show 0 < 8 * (ys.length : Int) - 15 from by omega); omega
  have hfI : (f : Int) + 16 ≤ 8 * (ys.length : Int) := by omega
  obtain ⟨d1, d2⟩ := detect_burst xs p f hp (by omega) (by rw [← hys]; exact hfl)
  rw [← hys] at d1 d2
  have D1 := Lib.hid d1
  have D2 := Lib.hid d2
  have HY := Lib.hid hyl
  have HYS := Lib.hid hys
  have HAT := Lib.hid hat
  have hB := bytesTried
  have hpz : ((p : Int) == 0) = false := by rw [beq_eq_false_iff_ne]; omega
  clear d1 d2 hyl hys hs
  go_enter Try.func9, Try.ntmps9
  go_wp2_with fail
  have hap := append_ok 1 (.inr rfl) A c xs w (by omega) hr
  rw [← HYS.out] at hap
  refine hap.mono ?_
  clear hap
  rintro e w1 ⟨A1, c1, rfl, hc1, hr1, hb1⟩
  go_wp2_with (at_builtin; refine wpList_append_bytes rfl hB (.tmp 44) (.tmp 45) rfl rfl rfl (Own.made (e := 5) (base := w1.heap.size) (xs := []) (Nat.le_refl _) #[] rfl (by simp)) (hr1.below ((Below.refl _ _).alloc (Nat.le_refl _) _)) (by simp; omega) (by simp) ?_; intro v2 w2 hown2 hb2; rw [List.nil_append] at hown2; obtain ⟨g, cp, rfl, hcp, hg, _, _⟩ := hown2.form (by omega))
  have hb12 := hb1.trans ((((Below.refl _ _).alloc (Nat.le_refl _) _).trans hb2).mono hb1.size)
  have hgw : w.heap.size ≤ g := by have := hb1.size; omega
  clear hb2 hr1 hr hat
  go_loopw [11] (fun i wr => ∃ k : Nat, k ≤ 16 ∧ i = .int .i64 k ∧ Own 5 wr w1.heap.size (.slice (some ⟨g, 0, none⟩) ys.length cp) (burst ys p f k) ∧ Below w.heap.size w wr) (fun i _ => 16 - (intOf i).toNat)
  case atStart => exact ⟨0, Nat.zero_le _, rfl, hown2, hb12⟩
  case round =>
    obtain ⟨k, hk, rfl, hown, hbel⟩ := hrel
    by_cases hlt : k < 16
    · by_cases hbit : p / 2 ^ k % 2 = 1
      · have hbt : (((p : Int) / 2 ^ k).tmod 2 == 1) = true := by rw [bit_test, hbit]; rfl
        obtain ⟨zs, hzs⟩ : ∃ zs, zs = burst ys p f k := ⟨_, rfl⟩
        have hzl : zs.length = ys.length := by rw [hzs]; exact burst_length _ _ _ _
        have hn8 : (f + k) / 8 < zs.length := by omega
        have hS : burst ys p f (k + 1) = zs.set ((f + k) / 8) (zs[(f + k) / 8] ^^^ UInt8.ofNat (2 ^ ((f + k) % 8))) := by
          rw [burst_succ, if_pos hbit, ← hzs, flip_set zs _ hn8]
        rw [← hzs] at hown
        rw [← hzl] at hown
        obtain ⟨g', cp', hge, _, _, hcells, hfree⟩ := hown.form (by omega)
        have hge' := hge
        injection hge' with e1 e2 e3
        injection e1 with e1
        injection e1 with e1
        subst e1 e3
        have hcell := hcells _ hn8
        have hfr := hfree ((f + k) / 8)
        have hown3 := hown.set ((f + k) / 8) (zs[(f + k) / 8] ^^^ UInt8.ofNat (2 ^ ((f + k) % 8)))
        rw [← hS, hzl] at hown3
        have hb3 := hbel.setCell (p := ⟨g, (f + k) / 8, none⟩) hgw (.int .u8 ((zs[(f + k) / 8] ^^^ UInt8.ofNat (2 ^ ((f + k) % 8))).toNat : Int))
        have hi0 : (0 : Int) ≤ ((f : Int) + (k : Int)) / 8 := by omega
        have hi1 : ((f : Int) + (k : Int)) / 8 < (ys.length : Int) := by omega
        clear hcells hfree hge e2 hown hbit hzs hS hzl
        go_wp2
        go_region
        rw [bit_val]
        go_wp2
        go_roundw
        case rel => exact ⟨k + 1, by omega, by go_num, hown3, hb3.drew⟩
        case measure => simp [intOf]; omega
      · have hbt : (((p : Int) / 2 ^ k).tmod 2 == 1) = false := by rw [bit_test, beq_eq_false_iff_ne]; omega
        have hS : burst ys p f (k + 1) = burst ys p f k := by rw [burst_succ, if_neg hbit]
        have HS := Lib.hid hS
        clear hbit hS
        go_wp2
        go_roundw
        case rel => exact ⟨k + 1, by omega, by go_num, by rw [HS.out]; exact hown, hbel⟩
        case measure => simp [intOf]; omega
    · have hk16 : k = 16 := by omega
      subst hk16
      obtain ⟨zs, hzs⟩ : ∃ zs, zs = burst ys p f 16 := ⟨_, rfl⟩
      have hzl : zs.length = ys.length := by rw [hzs]; exact burst_length _ _ _ _
      rw [← hzs] at hown D1 D2
      have HZ := Lib.hid hzl
      have hr3 := hown.rb
      clear hzs hzl hown
      go_wp2_with fail
      have hrem := remove_any 1 (some ⟨g, 0, none⟩) cp zs wr (by rw [HZ.out]; omega) (by rw [HZ.out]; omega) hr3
      rw [HZ.out, D1.out, D2.out] at hrem
      refine hrem.mono ?_
      clear hrem
      rintro e w4 ⟨A4, c4, rfl, hc4, hr4, hb4⟩
      have hbx := hbel.trans (hb4.mono hbel.size)
      go_wp2_with fail
      refine (awake_any _).mono ?_
      rintro e w5 ⟨rfl, hb5⟩
      go_wp2
      go_ret
      exact ⟨rfl, hbx.trans (hb5.mono hbx.size)⟩

theorem checkBursts_walk (w : World) (A : Option Addr) (c : Nat) (xs : List UInt8) (hc : xs.length ≤ c) (hr : RB w A xs) (a : Int) (wf : (Lit.int .i64 a).wf = true) (p : Int) (wp : (Lit.int .u16 p).wf = true) :
    Calls Try.prog 9 #[.slice A xs.length c, .int .i64 a, .int .u16 p] w fun e w' => e = .returned (.bool true) ∧ Below w.heap.size w w' := by
  simp only [Lit.wf, Bool.and_eq_true, decide_eq_true_eq] at wf wp
  have hp0 : 0 ≤ p := wp.1
  have hp1 : p ≤ 65535 := wp.2
  have ha2 : a ≤ 9223372036854775807 := wf.2
  clear wf wp
  obtain ⟨q, rfl⟩ := Int.eq_ofNat_of_zero_le hp0
  by_cases hl : 400 < xs.length
  · go_enter Try.func9, Try.ntmps9
    go_wp2
    go_ret
    exact ⟨rfl, Below.refl _ _⟩
  · by_cases ha : a < 0
    · go_enter Try.func9, Try.ntmps9
      go_wp2
      go_ret
      exact ⟨rfl, Below.refl _ _⟩
    · by_cases hq : q = 0
      · subst hq
        go_enter Try.func9, Try.ntmps9
        go_wp2
        go_ret
        exact ⟨rfl, Below.refl _ _⟩
      · exact bursts_from w A c xs hc hr hl a (by omega) ha2 q (by omega) (by omega)
end Go.Proofs.Ytkcmbdnfohkjkaa
