/-
  The reference's small parts: its list of protocols, whether a number is in a list, the exclusive or.
-/
import Derived.Test.YtkhobpghiachoaaRul0
import Derived.Test.YtkhobpghiachoaaLrc
import Derived.IntWalk
namespace Go.Proofs.Ytkhobpghiachoaa
open Go.RowKit Crc
set_option linter.unusedVariables false

theorem has_any (A : Option Addr) (c : Nat) (xs : List Int) (y : Int) (w : World) (hs : xs.length ≤ 1048576) (hr : RC w A (nv xs)) :
    Calls Try.prog 34 #[.slice A xs.length c, .int .i64 y] w fun e w' => e = .returned (.bool (decide (y ∈ xs))) ∧ w = w' := by
  go_enter Try.func34, Try.ntmps34
  go_wp2
  go_loopw [5] (fun i wr => ∃ k : Nat, k ≤ xs.length ∧ i = .int .i64 k ∧ wr = w ∧ Hid (y ∉ xs.take k)) (fun i _ => xs.length - (intOf i).toNat)
  case atStart => exact ⟨0, Nat.zero_le _, rfl, rfl, by show y ∉ _; simp⟩
  case round =>
    obtain ⟨k, hk, rfl, rfl, hn⟩ := hrel
    by_cases h1 : k < xs.length
    · obtain ⟨b, off, rfl, hc⟩ := hr.at_ (by rw [nv_length]; omega)
      have hcell : wr.cell? ⟨b, off + k, none⟩ = some (.int .i64 xs[k]) := by rw [hc k (by rw [nv_length]; exact h1)]; simp [nv]
      have hi0 : (0 : Int) ≤ (k : Int) := by omega
      have hi1 : (k : Int) < (xs.length : Int) := by omega
      clear hc hr
      by_cases he : xs[k] = y
      · have HM := Lib.hid (decide_eq_true (show y ∈ xs by rw [← he]; exact List.getElem_mem h1))
        have he' : (xs[k] == y) = true := by simpa using he
        clear he
        generalize xs[k] = x at hcell he'
        go_wp2
        go_ret
        exact ⟨by rw [HM.out]; rfl, rfl⟩
      · have HN : Hid (y ∉ xs.take (k + 1)) := by
          show y ∉ _
          rw [List.take_succ_eq_append_getElem h1]
          intro hm
          rcases List.mem_append.1 hm with h | h
          · exact hn.out h
          · exact he (List.mem_singleton.1 h).symm
        have he' : (xs[k] == y) = false := by simpa using he
        generalize xs[k] = x at hcell he he'
        go_wp2
        go_roundw
        case rel => exact ⟨k + 1, by omega, by go_num, by first | trivial | rfl, HN⟩
        case measure => simp [intOf]; omega
    · have HN := Lib.hid (decide_eq_false (show y ∉ xs by
        have := hn.out
        rwa [List.take_of_length_le (by omega)] at this))
      go_wp2
      go_ret
      exact ⟨by rw [HN.out]; rfl, rfl⟩

theorem rsum_any (A : Option Addr) (c : Nat) (xs : List UInt8) (w : World) (hs : xs.length ≤ 1048576) (hr : RB w A xs) :
    Calls Try.prog 35 #[.slice A xs.length c] w fun e w' => e = .returned (.int .u8 ((lrc xs).toNat : Int)) ∧ w = w' := by
  go_enter Try.func35, Try.ntmps35
  go_wp2
  go_loopw [3, 4] (fun z i wr => ∃ k : Nat, k ≤ xs.length ∧ z = .int .u8 ((lrc (xs.take k)).toNat : Int) ∧ i = .int .i64 k ∧ wr = w) (fun _ i _ => xs.length - (intOf i).toNat)
  case atStart => exact ⟨0, Nat.zero_le _, rfl, rfl, rfl⟩
  case round =>
    obtain ⟨k, hk, rfl, rfl, rfl⟩ := hrel
    by_cases h1 : k < xs.length
    · obtain ⟨b, off, rfl, hc⟩ := hr.at_ (by omega)
      have hcell := hc k h1
      have HL : Hid (lrc (xs.take (k + 1)) = lrc (xs.take k) ^^^ xs[k]) := by
        show _ = _
        unfold lrc
        rw [List.take_succ_eq_append_getElem h1, List.foldl_append]
        rfl
      generalize lrc (xs.take k) = z at HL
      generalize xs[k] = x at hcell HL
      have hi0 : (0 : Int) ≤ (k : Int) := by omega
      have hi1 : (k : Int) < (xs.length : Int) := by omega
      clear hc hr
      go_wp2
      go_roundw
      case rel => exact ⟨k + 1, by omega, by rw [HL.out, xor_u8], by go_num, by first | trivial | rfl⟩
      case measure => simp [intOf]; omega
    · have HN : Hid (xs.take k = xs) := List.take_of_length_le (by omega)
      rw [HN.out]
      go_wp2
      go_ret
      exact ⟨rfl, rfl⟩

theorem protocols_any (A : Option Addr) (c : Nat) (ps : List Int) (w : World) (hs : ps.length ≤ 1048576) (hr : RC w A (nv ps)) :
    Calls Try.prog 62 #[.slice A ps.length c] w fun e w' => e = .returned (.bool (okPs ps)) ∧ w = w' := by
  match ps, hs, hr with
  | [], _, _ =>
    go_enter Try.func62, Try.ntmps62
    go_wp2
    go_ret
    exact ⟨rfl, rfl⟩
  | [x], _, hr =>
    obtain ⟨b, off, rfl, hc⟩ := hr.at_ (by simp [nv])
    have h0 : w.cell? ⟨b, off, none⟩ = some (.int .i64 x) := hc 0 (by simp [nv])
    clear hc hr
    by_cases e0 : x = 0
    · subst e0
      go_enter Try.func62, Try.ntmps62
      go_wp2
      go_ret
      exact ⟨rfl, rfl⟩
    · have e0b : (x == 0) = false := by simpa using e0
      have HF : Hid (okPs [x] = (x == 1)) := by
        show _ = _
        unfold okPs
        rw [Bool.eq_iff_iff]
        simp
        omega
      go_enter Try.func62, Try.ntmps62
      go_wp2
      go_ret
      exact ⟨by rw [HF.out]; rfl, rfl⟩
  | [x, y], _, hr =>
    obtain ⟨b, off, rfl, hc⟩ := hr.at_ (by simp [nv])
    have h0 : w.cell? ⟨b, off, none⟩ = some (.int .i64 x) := hc 0 (by simp [nv])
    have h1 : w.cell? ⟨b, off + 1, none⟩ = some (.int .i64 y) := hc 1 (by simp [nv])
    clear hc hr
    by_cases e0 : x = 0
    · subst e0
      have HF : Hid (okPs [0, y] = (y == 1)) := by
        show _ = _
        unfold okPs
        rw [Bool.eq_iff_iff]
        simp
      go_enter Try.func62, Try.ntmps62
      go_wp2
      go_ret
      exact ⟨by rw [HF.out]; rfl, rfl⟩
    · have e0b : (x == 0) = false := by simpa using e0
      have HF : Hid (okPs [x, y] = false) := by
        show _ = _
        unfold okPs
        simp [e0]
      go_enter Try.func62, Try.ntmps62
      go_wp2
      go_ret
      exact ⟨by rw [HF.out]; rfl, rfl⟩
  | x :: y :: z :: l, hs, hr =>
    have HF : Hid (okPs (x :: y :: z :: l) = false) := by
      show _ = _
      unfold okPs
      simp
    have e1 : (((x :: y :: z :: l).length : Int) == 1) = false := by simp; omega
    have e2 : (((x :: y :: z :: l).length : Int) == 2) = false := by simp; omega
    generalize (x :: y :: z :: l) = L at hs HF e1 e2
    go_enter Try.func62, Try.ntmps62
    go_wp2
    go_ret
    exact ⟨by rw [HF.out]; rfl, rfl⟩
end Go.Proofs.Ytkhobpghiachoaa
