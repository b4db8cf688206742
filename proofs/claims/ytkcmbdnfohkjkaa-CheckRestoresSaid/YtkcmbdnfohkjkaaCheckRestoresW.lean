/-
  The walk of CheckRestores.
-/
import Derived.Test.YtkcmbdnfohkjkaaAwake
import Derived.Test.YtkcmbdnfohkjkaaRRem
namespace Go.Proofs.Ytkcmbdnfohkjkaa
open Go.RowKit Crc
set_option linter.unusedVariables false

theorem restore (kind : Int) (n : Nat) (hn : sizeS kind = n) (h0 : 0 < n) (xs : List UInt8) : remB kind (xs ++ sumS kind xs) = xs ∧ remX kind (xs ++ sumS kind xs) = 0 := by
  have hl := sumS_length kind n hn h0 xs
  have h1 : n ≤ (xs ++ sumS kind xs).length := by simp; omega
  have h2 : (xs ++ sumS kind xs).length - n = xs.length := by simp; omega
  rw [(remX_long hn h0 h1).1, (remX_long hn h0 h1).2]
  unfold remS remE
  rw [h2]
  have ht : (xs ++ sumS kind xs).take xs.length = xs := by simp
  have hd : (xs ++ sumS kind xs).drop xs.length = sumS kind xs := by simp
  rw [ht, hd, if_pos rfl, if_pos rfl]
  exact ⟨rfl, rfl⟩

theorem restores_from (w : World) (kind : Int) (n : Nat) (hn : sizeS kind = n) (h0 : 0 < n) (hk : kind = 0 ∨ kind = 1) (crc : Bool) (hcrc : kind = if crc then 1 else 0) (A : Option Addr) (c : Nat) (xs : List UInt8) (hc : xs.length ≤ c) (hr : RB w A xs) (hl : ¬ 400 < xs.length) :
    Calls Try.prog 7 #[.bool crc, .slice A xs.length c] w fun e w' => e = .returned (.bool true) ∧ Below w.heap.size w w' := by
  have hs := sumS_length kind n hn h0 xs
  obtain ⟨r1, r2⟩ := restore kind n hn h0 xs
  have hn2 : n ≤ 2 := by obtain ⟨m, e1, e2⟩ := sizeS_nat kind; omega
  obtain ⟨ys, hys⟩ : ∃ ys, ys = xs ++ sumS kind xs := ⟨_, rfl⟩
  have hyl : ys.length = xs.length + n := by rw [hys]; simp; omega
  rw [← hys] at r1 r2

  have R1 := Lib.hid r1
  have R2 := Lib.hid r2
  have HY := Lib.hid hyl
  have HYS := Lib.hid hys
  have HN := Lib.hid hn
  have hylI : (ys.length : Int) ≤ 402 := by omega
  clear r1 r2 hys hs hyl hn
  cases crc
  · obtain rfl : kind = 0 := hcrc
    go_enter Try.func7, Try.ntmps7
    go_wp2_with fail
    have ha := append_ok 0 (.inl rfl) A c xs w (by omega) hr
    rw [← HYS.out] at ha
    refine ha.mono ?_
    clear ha
    rintro e w1 ⟨A1, c1, rfl, hc1, hr1, hb1⟩
    go_wp2_with fail
    have hb := remove_any 0 A1 c1 ys w1 (by omega) hc1 hr1
    rw [R1.out, R2.out] at hb
    refine hb.mono ?_
    clear hb
    rintro e w2 ⟨A2, c2, rfl, hc2, hr2, hb2⟩
    go_wp2_with fail
    refine (size_any 0 w2).mono ?_
    rintro e w3 ⟨rfl, rfl⟩
    have hq : ((ys.length : Int) == (xs.length : Int) + sizeS 0) = true := by rw [beq_iff_eq, HN.out]; have := HY.out; omega
    rw [HN.out] at hq ⊢
    have hnb : (xs.length : Int) + (n : Int) ≤ 1000 := by omega
    go_wp2_with fail
    have hbx := hb1.trans (hb2.mono hb1.size)
    refine (same_any A2 A c2 c _ _ w2 (by omega) (by omega) hr2 (hr.below hbx)).mono ?_
    rintro e w3 ⟨rfl, m, rfl⟩
    have he : decide (xs = xs) = true := by simp
    rw [he]
    have hb := below_drewN hbx m
    go_wp2_with fail
    refine (awake_any _).mono ?_
    rintro e w3 ⟨rfl, hb3⟩
    go_wp2
    go_ret
    exact ⟨rfl, hb.trans (hb3.mono hb.size)⟩
  · obtain rfl : kind = 1 := hcrc
    go_enter Try.func7, Try.ntmps7
    go_wp2_with fail
    have ha := append_ok 1 (.inr rfl) A c xs w (by omega) hr
    rw [← HYS.out] at ha
    refine ha.mono ?_
    clear ha
    rintro e w1 ⟨A1, c1, rfl, hc1, hr1, hb1⟩
    go_wp2_with fail
    have hb := remove_any 1 A1 c1 ys w1 (by omega) hc1 hr1
    rw [R1.out, R2.out] at hb
    refine hb.mono ?_
    clear hb
    rintro e w2 ⟨A2, c2, rfl, hc2, hr2, hb2⟩
    go_wp2_with fail
    refine (size_any 1 w2).mono ?_
    rintro e w3 ⟨rfl, rfl⟩
    have hq : ((ys.length : Int) == (xs.length : Int) + sizeS 1) = true := by rw [beq_iff_eq, HN.out]; have := HY.out; omega
    rw [HN.out] at hq ⊢
    have hnb : (xs.length : Int) + (n : Int) ≤ 1000 := by omega
    go_wp2_with fail
    have hbx := hb1.trans (hb2.mono hb1.size)
    refine (same_any A2 A c2 c _ _ w2 (by omega) (by omega) hr2 (hr.below hbx)).mono ?_
    rintro e w3 ⟨rfl, m, rfl⟩
    have he : decide (xs = xs) = true := by simp
    rw [he]
    have hb := below_drewN hbx m
    go_wp2_with fail
    refine (awake_any _).mono ?_
    rintro e w3 ⟨rfl, hb3⟩
    go_wp2
    go_ret
    exact ⟨rfl, hb.trans (hb3.mono hb.size)⟩

theorem checkRestores_walk (w : World) (crc : Bool) (A : Option Addr) (c : Nat) (xs : List UInt8) (hc : xs.length ≤ c) (hr : RB w A xs) :
    Calls Try.prog 7 #[.bool crc, .slice A xs.length c] w fun e w' => e = .returned (.bool true) ∧ Below w.heap.size w w' := by
  by_cases hl : 400 < xs.length
  · go_enter Try.func7, Try.ntmps7
    go_wp2
    go_ret
    exact ⟨rfl, Below.refl _ _⟩
  · cases crc
    · exact restores_from w 0 1 rfl (by omega) (.inl rfl) false rfl A c xs hc hr hl
    · exact restores_from w 1 2 rfl (by omega) (.inr rfl) true rfl A c xs hc hr hl
end Go.Proofs.Ytkcmbdnfohkjkaa
