/-
  Comparing two strings of bytes: the reference's Same, and bytes.Equal.
-/
import Derived.Test.YtpbgfiaaechiaaaWords
import Derived.Deep.QuietTactic
import Derived.BigQuiet
import Derived.Deep.Draws
namespace Go.Proofs.Ytpbgfiaaechiaaa
open Go.RowKit

theorem ne_of_byte {xs ys : List UInt8} {k : Nat} (h1 : k < xs.length) (h2 : k < ys.length) (h : xs[k].toNat ≠ ys[k].toNat) : xs ≠ ys := by
  intro e; subst e; exact h rfl
theorem take_eq_succ {xs ys : List UInt8} {k : Nat} (h1 : k < xs.length) (h2 : k < ys.length) (h : xs[k].toNat = ys[k].toNat) (ht : xs.take k = ys.take k) : xs.take (k + 1) = ys.take (k + 1) := by
  rw [List.take_succ_eq_append_getElem h1, List.take_succ_eq_append_getElem h2, ht, UInt8.toNat_inj.1 h]

theorem compare_any (A B : Option Addr) (c d : Nat) (xs ys : List UInt8) (w : World) (hs : xs.length ≤ 140737488355328) (hs2 : ys.length ≤ 140737488355328) (hr : RB w A xs) (hq : RB w B ys) :
    Calls Try.prog 34 #[.slice A xs.length c, .slice B ys.length d] w fun e w' => ∃ r : Int, e = .returned (.int .i64 r) ∧ (r == 0) = decide (xs = ys) ∧ ∃ n, w' = w.drewN n := by
  go_enter Try.func34, Try.ntmps34
  go_wp2
  go_loopw [5] (fun i wr => ∃ k n : Nat, k ≤ xs.length ∧ k ≤ ys.length ∧ i = .int .i64 k ∧ Hid (xs.take k = ys.take k) ∧ wr = w.drewN n) (fun i _ => xs.length - (intOf i).toNat)
  case atStart => exact ⟨0, 0, Nat.zero_le _, Nat.zero_le _, rfl, rfl, rfl⟩
  case round =>
    obtain ⟨k, n, hk, hk2, rfl, ht, rfl⟩ := hrel
    by_cases h1 : k < xs.length
    · by_cases h2 : k < ys.length
      · obtain ⟨b, off, rfl, hc⟩ := hr.at_ (by omega)
        obtain ⟨b', off', rfl, hc'⟩ := hq.at_ (by omega)
        have hcell := hc k h1
        have hcell' := hc' k h2
        have hi0 : (0 : Int) ≤ (k : Int) := by omega
        have hi1 : (k : Int) < (xs.length : Int) := by omega
        have hi2 : (k : Int) < (ys.length : Int) := by omega
        clear hc hc' hr hq
        rcases Nat.lt_trichotomy xs[k].toNat ys[k].toNat with hd | hd | hd
        · have hne := Lib.hid (ne_of_byte h1 h2 (by omega))
          go_wp2
          go_quiet (fail)
          go_wp2
          go_ret
          exact ⟨-1, rfl, by simp [hne.out], _, by simp only [World.drewN_drewN]; rfl⟩
        · have HD := Lib.hid (take_eq_succ h1 h2 hd ht.out)
          go_wp2
          go_quiet (fail)
          go_wp2
          go_quiet (fail)
          go_wp2
          go_roundw
          case rel => exact ⟨k + 1, _, by omega, by omega, by go_num, HD, rfl⟩
          case measure => simp [intOf]; omega
        · have hne := Lib.hid (ne_of_byte h1 h2 (by omega))
          go_wp2
          go_quiet (fail)
          go_wp2
          go_quiet (fail)
          go_wp2
          go_ret
          exact ⟨1, rfl, by simp [hne.out], _, by simp only [World.drewN_drewN]; rfl⟩
      · have hne := Lib.hid (show xs ≠ ys from fun e => by subst e; omega)
        have hl : ys.length < xs.length := by omega
        go_wp2
        go_ret
        exact ⟨1, rfl, by simp [hne.out], n, rfl⟩
    · by_cases h2 : k < ys.length
      · have hne := Lib.hid (show xs ≠ ys from fun e => by subst e; omega)
        have hl : xs.length < ys.length := by omega
        go_wp2
        go_ret
        exact ⟨-1, rfl, by simp [hne.out], n, rfl⟩
      · have heq := Lib.hid (show xs = ys from by have := ht.out; rwa [List.take_of_length_le (by omega), List.take_of_length_le (by omega)] at this)
        have hl : ¬ xs.length < ys.length := by omega
        have hl2 : ¬ ys.length < xs.length := by omega
        go_wp2
        go_ret
        exact ⟨0, rfl, by simp [heq.out], n, rfl⟩

theorem same_any (A B : Option Addr) (c d : Nat) (xs ys : List UInt8) (w : World) (hs : xs.length ≤ 140737488355328) (hs2 : ys.length ≤ 140737488355328) (hr : RB w A xs) (hq : RB w B ys) :
    Calls Try.prog 20 #[.slice A xs.length c, .slice B ys.length d] w fun e w' => e = .returned (.bool (decide (xs = ys))) ∧ ∃ n, w' = w.drewN n := by
  go_enter Try.func20, Try.ntmps20
  go_wp2_with fail
  refine (compare_any A B c d xs ys w hs hs2 hr hq).mono ?_
  rintro e w1 ⟨r, rfl, he, n, rfl⟩
  have HE := Lib.hid he
  clear he
  go_wp2
  go_ret
  exact ⟨ret_bool HE.out, n, rfl⟩

theorem equal_any (A B : Option Addr) (c d : Nat) (xs ys : List UInt8) (w : World) (hr : RB w A xs) (hq : RB w B ys) :
    Calls Try.prog 30 #[.slice A xs.length c, .slice B ys.length d] w fun e w' => e = .returned (.bool (decide (xs = ys))) ∧ w = w' := by
  go_enter Try.func30, Try.ntmps30
  have h1 := hr.convert (P := Try.prog) 23 9 5 c Try.underlying23 Try.underlying5 Try.underlying9
  have h2 := hq.convert (P := Try.prog) 23 9 5 d Try.underlying23 Try.underlying5 Try.underlying9
  go_wp2
  go_ret
  refine ⟨ret_bool ?_, rfl⟩
  rw [strOf_list, strOf_list, Bool.eq_iff_iff]
  simp
end Go.Proofs.Ytpbgfiaaechiaaa
