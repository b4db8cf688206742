/-
  The reference's Same, the first string short, the second of any length.
-/
import Derived.Test.YtpbgfiaaechiaaaCmp
namespace Go.Proofs.Ytpbgfiaaechiaaa
open Go.RowKit

theorem compare_short (A B : Option Addr) (c d : Nat) (xs ys : List UInt8) (w : World) (hs : xs.length ≤ 140737488355328) (hr : RB w A xs) (hq : RB w B ys) :
    Calls Try.prog 34 #[.slice A xs.length c, .slice B ys.length d] w fun e w' => ∃ r : Int, e = .returned (.int .i64 r) ∧ (r == 0) = decide (xs = ys) ∧ ∃ n, w' = w.drewN n := by
  go_enter Try.func34, Try.ntmps34
  go_wp2
  go_loopw [5] (fun i wr => ∃ k n : Nat, k ≤ xs.length ∧ k ≤ ys.length ∧ i = .int .i64 k ∧ Hid (xs.take k = ys.take k) ∧ wr = w.drewN n) (fun i _ => xs.length - (intOf i).toNat)
  case atStart => exact ⟨0, 0, Nat.zero_le _, Nat.zero_le _, rfl, rfl, rfl⟩
  case round =>
    obtain ⟨k, n, hk, hk2, rfl, ht, rfl⟩ := hrel
    by_cases h1 : k < xs.length
    · by_cases h2 : k < ys.length
      · obtain ⟨b, off, rfl, hc⟩ := hr.at_ (by omega)
        obtain ⟨b', off', rfl, hc'⟩ := hq.at_ (by omega)
        have hcell := hc k h1
        have hcell' := hc' k h2
        have hi0 : (0 : Int) ≤ (k : Int) := by omega
        have hi1 : (k : Int) < (xs.length : Int) := by omega
        have hi2 : (k : Int) < (ys.length : Int) := by omega
        clear hc hc' hr hq
        rcases Nat.lt_trichotomy xs[k].toNat ys[k].toNat with hd | hd | hd
        · have hne := Lib.hid (ne_of_byte h1 h2 (by omega))
          go_wp2
          go_quiet (fail)
          go_wp2
          go_ret
          exact ⟨-1, rfl, by simp [hne.out], _, by simp only [World.drewN_drewN]; rfl⟩
        · have HD := Lib.hid (take_eq_succ h1 h2 hd ht.out)
          go_wp2
          go_quiet (fail)
          go_wp2
          go_quiet (fail)
          go_wp2
          go_roundw
          case rel => exact ⟨k + 1, _, by omega, by omega, by go_num, HD, rfl⟩
          case measure => simp [intOf]; omega
        · have hne := Lib.hid (ne_of_byte h1 h2 (by omega))
          go_wp2
          go_quiet (fail)
          go_wp2
          go_quiet (fail)
          go_wp2
          go_ret
          exact ⟨1, rfl, by simp [hne.out], _, by simp only [World.drewN_drewN]; rfl⟩
      · have hne := Lib.hid (show xs ≠ ys from fun e => by subst e; omega)
        have hl : ys.length < xs.length := by omega
        go_wp2
        go_ret
        exact ⟨1, rfl, by simp [hne.out], n, rfl⟩
    · by_cases h2 : k < ys.length
      · have hne := Lib.hid (show xs ≠ ys from fun e => by subst e; omega)
        have hl : xs.length < ys.length := by omega
        go_wp2
        go_ret
        exact ⟨-1, rfl, by simp [hne.out], n, rfl⟩
      · have heq := Lib.hid (show xs = ys from by have := ht.out; rwa [List.take_of_length_le (by omega), List.take_of_length_le (by omega)] at this)
        have hl : ¬ xs.length < ys.length := by omega
        have hl2 : ¬ ys.length < xs.length := by omega
        go_wp2
        go_ret
        exact ⟨0, rfl, by simp [heq.out], n, rfl⟩

theorem same_short (A B : Option Addr) (c d : Nat) (xs ys : List UInt8) (w : World) (hs : xs.length ≤ 140737488355328) (hr : RB w A xs) (hq : RB w B ys) :
    Calls Try.prog 20 #[.slice A xs.length c, .slice B ys.length d] w fun e w' => e = .returned (.bool (decide (xs = ys))) ∧ ∃ n, w' = w.drewN n := by
  go_enter Try.func20, Try.ntmps20
  go_wp2_with fail
  refine (compare_short A B c d xs ys w hs hr hq).mono ?_
  rintro e w1 ⟨r, rfl, he, n, rfl⟩
  have HE := Lib.hid he
  clear he
  go_wp2
  go_ret
  exact ⟨ret_bool HE.out, n, rfl⟩

end Go.Proofs.Ytpbgfiaaechiaaa
