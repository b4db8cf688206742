/-
  The walk of CheckDetects.
-/
import Derived.Test.YtkcmbdnfohkjkaaAwake
import Derived.Test.YtkcmbdnfohkjkaaDet
import Derived.BigRegion
namespace Go.Proofs.Ytkcmbdnfohkjkaa
open Go.RowKit Crc
set_option linter.unusedVariables false

theorem detects_from (w : World) (kind : Int) (k : Nat) (hn : sizeS kind = k) (h0 : 0 < k) (hk : kind = 0 ∨ kind = 1) (crc : Bool) (hcrc : kind = if crc then 1 else 0) (A : Option Addr) (c : Nat) (xs : List UInt8) (hc : xs.length ≤ c) (hr : RB w A xs) (hl : ¬ 400 < xs.length)
    (a : Int) (ha : 0 ≤ a) (ha2 : a ≤ 9223372036854775807) :
    Calls Try.prog 8 #[.bool crc, .slice A xs.length c, .int .i64 a] w fun e w' => e = .returned (.bool true) ∧ Below w.heap.size w w' := by
  have hs := sumS_length kind k hn h0 xs
  have hn2 : k ≤ 2 := by obtain ⟨m, e1, e2⟩ := sizeS_nat kind; omega
  obtain ⟨ys, hys⟩ : ∃ ys, ys = xs ++ sumS kind xs := ⟨_, rfl⟩
  have hyl : ys.length = xs.length + k := by rw [hys]; simp; omega
  have hylI : (ys.length : Int) ≤ 402 := by omega
  have hylp : (0 : Int) < (ys.length : Int) := by omega
  have hy0 : ((ys.length : Int) == 0) = false := by rw [beq_eq_false_iff_ne]; omega
  obtain ⟨n, hat⟩ : ∃ n : Nat, a % (8 * (ys.length : Int)) = (n : Int) := ⟨(a % (8 * (ys.length : Int))).toNat, by have := Int.emod_nonneg a (show 8 * (ys.length : Int) ≠ 0 from by omega); omega⟩
  have hnl : n < 8 * ys.length := by have := Int.emod_lt_of_pos a (show 0 < 8 * (ys.length : Int) from by omega); omega
  have hnI : (n : Int) < 8 * (ys.length : Int) := by omega
  obtain ⟨d1, d2⟩ := detect kind hk xs n (by rw [← hys]; exact hnl)
  rw [← hys] at d1 d2
  have hn8 : n / 8 < ys.length := by omega
  have hfs := flip_set ys n hn8
  obtain ⟨zs, hzs⟩ : ∃ zs, zs = Crc.flip ys n := ⟨_, rfl⟩
  have hzl : zs.length = ys.length := by rw [hzs]; exact flip_length _ _
  rw [← hzs] at d1 d2 hfs
  have D1 := Lib.hid d1
  have D2 := Lib.hid d2
  have HF := Lib.hid hfs
  have HZ := Lib.hid hzl
  have HY := Lib.hid hyl
  have HYS := Lib.hid hys
  have HAT := Lib.hid hat
  have hB := bytesTried
  clear d1 d2 hfs hzl hyl hys hs hn hzs
  cases crc
  · obtain rfl : kind = 0 := hcrc
    go_enter Try.func8, Try.ntmps8
    go_wp2_with fail
    have hap := append_ok 0 (.inl rfl) A c xs w (by omega) hr
    rw [← HYS.out] at hap
    refine hap.mono ?_
    clear hap
    rintro e w1 ⟨A1, c1, rfl, hc1, hr1, hb1⟩
    go_wp2_with (at_builtin; refine wpList_append_bytes rfl hB (.tmp 39) (.tmp 40) rfl rfl rfl (Own.made (e := 5) (base := w1.heap.size) (xs := []) (Nat.le_refl _) #[] rfl (by simp)) (hr1.below ((Below.refl _ _).alloc (Nat.le_refl _) _)) (by simp; omega) (by simp) ?_; intro v2 w2 hown2 hb2; rw [List.nil_append] at hown2; obtain ⟨g, cp, rfl, hcp, hg, hcells, hfree⟩ := hown2.form (by omega))
    have hcell := hcells (n / 8) hn8
    have hfr := hfree (n / 8)
    have hi0 : (0 : Int) ≤ (n : Int) / 8 := by omega
    have hi1 : (n : Int) / 8 < (ys.length : Int) := by omega
    go_region
    have hown3 := hown2.set (n / 8) (ys[n / 8] ^^^ UInt8.ofNat (2 ^ (n % 8)))
    rw [← HF.out] at hown3
    rw [bit_val]
    have hb12 := hb1.trans ((((Below.refl _ _).alloc (Nat.le_refl _) _).trans hb2).mono hb1.size)
    have hb3 := hb12.setCell (p := ⟨g, n / 8, none⟩) (by have := hb1.size; show w.heap.size ≤ g; omega) (.int .u8 ((ys[n / 8] ^^^ UInt8.ofNat (2 ^ (n % 8))).toNat : Int))
    obtain ⟨w3, hw3⟩ : ∃ w3, w3 = w2.setCell ⟨g, n / 8, none⟩ (.int .u8 ((ys[n / 8] ^^^ UInt8.ofNat (2 ^ (n % 8))).toNat : Int)) := ⟨_, rfl⟩
    rw [← hw3] at hown3 hb3 ⊢
    have hr3 : RB w3.drew (some ⟨g, 0, none⟩) zs := hown3.rb
    have hb3 := hb3.drew
    clear hcell hfr hcells hfree hw3 hown2 hown3 hb12 hb2 HAT
    go_wp2_with fail
    have hrem := remove_any 0 (some ⟨g, 0, none⟩) cp zs w3.drew (by rw [HZ.out]; omega) (by rw [HZ.out]; omega) hr3
    rw [HZ.out, D1.out, D2.out] at hrem
    refine hrem.mono ?_
    clear hrem
    rintro e w4 ⟨A4, c4, rfl, hc4, hr4, hb4⟩
    have hbx := hb3.trans (hb4.mono hb3.size)
    go_wp2_with fail
    refine (awake_any _).mono ?_
    rintro e w5 ⟨rfl, hb5⟩
    go_wp2
    go_ret
    exact ⟨rfl, hbx.trans (hb5.mono hbx.size)⟩
  · obtain rfl : kind = 1 := hcrc
    go_enter Try.func8, Try.ntmps8
    go_wp2_with fail
    have hap := append_ok 1 (.inr rfl) A c xs w (by omega) hr
    rw [← HYS.out] at hap
    refine hap.mono ?_
    clear hap
    rintro e w1 ⟨A1, c1, rfl, hc1, hr1, hb1⟩
    go_wp2_with (at_builtin; refine wpList_append_bytes rfl hB (.tmp 39) (.tmp 40) rfl rfl rfl (Own.made (e := 5) (base := w1.heap.size) (xs := []) (Nat.le_refl _) #[] rfl (by simp)) (hr1.below ((Below.refl _ _).alloc (Nat.le_refl _) _)) (by simp; omega) (by simp) ?_; intro v2 w2 hown2 hb2; rw [List.nil_append] at hown2; obtain ⟨g, cp, rfl, hcp, hg, hcells, hfree⟩ := hown2.form (by omega))
    have hcell := hcells (n / 8) hn8
    have hfr := hfree (n / 8)
    have hi0 : (0 : Int) ≤ (n : Int) / 8 := by omega
    have hi1 : (n : Int) / 8 < (ys.length : Int) := by omega
    go_region
    have hown3 := hown2.set (n / 8) (ys[n / 8] ^^^ UInt8.ofNat (2 ^ (n % 8)))
    rw [← HF.out] at hown3
    rw [bit_val]
    have hb12 := hb1.trans ((((Below.refl _ _).alloc (Nat.le_refl _) _).trans hb2).mono hb1.size)
    have hb3 := hb12.setCell (p := ⟨g, n / 8, none⟩) (by have := hb1.size; show w.heap.size ≤ g; omega) (.int .u8 ((ys[n / 8] ^^^ UInt8.ofNat (2 ^ (n % 8))).toNat : Int))
    obtain ⟨w3, hw3⟩ : ∃ w3, w3 = w2.setCell ⟨g, n / 8, none⟩ (.int .u8 ((ys[n / 8] ^^^ UInt8.ofNat (2 ^ (n % 8))).toNat : Int)) := ⟨_, rfl⟩
    rw [← hw3] at hown3 hb3 ⊢
    have hr3 : RB w3.drew (some ⟨g, 0, none⟩) zs := hown3.rb
    have hb3 := hb3.drew
    clear hcell hfr hcells hfree hw3 hown2 hown3 hb12 hb2 HAT
    go_wp2_with fail
    have hrem := remove_any 1 (some ⟨g, 0, none⟩) cp zs w3.drew (by rw [HZ.out]; omega) (by rw [HZ.out]; omega) hr3
    rw [HZ.out, D1.out, D2.out] at hrem
    refine hrem.mono ?_
    clear hrem
    rintro e w4 ⟨A4, c4, rfl, hc4, hr4, hb4⟩
    have hbx := hb3.trans (hb4.mono hb3.size)
    go_wp2_with fail
    refine (awake_any _).mono ?_
    rintro e w5 ⟨rfl, hb5⟩
    go_wp2
    go_ret
    exact ⟨rfl, hbx.trans (hb5.mono hbx.size)⟩

theorem checkDetects_walk (w : World) (crc : Bool) (A : Option Addr) (c : Nat) (xs : List UInt8) (hc : xs.length ≤ c) (hr : RB w A xs) (a : Int) (wf : (Lit.int .i64 a).wf = true) :
    Calls Try.prog 8 #[.bool crc, .slice A xs.length c, .int .i64 a] w fun e w' => e = .returned (.bool true) ∧ Below w.heap.size w w' := by
  by_cases hl : 400 < xs.length
  · go_enter Try.func8, Try.ntmps8
    go_wp2
    go_ret
    exact ⟨rfl, Below.refl _ _⟩
  · by_cases ha : a < 0
    · go_enter Try.func8, Try.ntmps8
      go_wp2
      go_ret
      exact ⟨rfl, Below.refl _ _⟩
    · have ha2 : a ≤ 9223372036854775807 := by
        simp only [Lit.wf, Bool.and_eq_true, decide_eq_true_eq] at wf
        exact wf.2
      cases crc
      · exact detects_from w 0 1 rfl (by omega) (.inl rfl) false rfl A c xs hc hr hl a (by omega) ha2
      · exact detects_from w 1 2 rfl (by omega) (.inr rfl) true rfl A c xs hc hr hl a (by omega) ha2
end Go.Proofs.Ytkcmbdnfohkjkaa
