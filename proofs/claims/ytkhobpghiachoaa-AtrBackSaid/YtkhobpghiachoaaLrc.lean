/-
  The exclusive or of all bytes: what the program's loop and the reference's compute.
-/
import Derived.Test.YtkhobpghiachoaaWords
import Derived.Test.YtkhobpghiachoaaCrc
namespace Go.Proofs.Ytkhobpghiachoaa
open Go.RowKit Crc

theorem xor_u8 (a b : UInt8) : bits .xor .u8 (a.toNat : Int) (b.toNat : Int) = ((a ^^^ b).toNat : Int) := by
  rw [u8_xor_nat _ _ a.toNat_lt b.toNat_lt, UInt8.toNat_xor]
theorem lrc_take (xs : List UInt8) (k : Nat) (h : k < xs.length) : lrc (xs.take (k + 1)) = lrc (xs.take k) ^^^ xs[k] := by
  rw [List.take_succ_eq_append_getElem h, lrc_snoc]

theorem lrc_any (A : Option Addr) (c : Nat) (xs : List UInt8) (w : World) (hs : xs.length ≤ 140737488351232) (hr : RB w A xs) :
    Calls Try.prog 60 #[.slice A xs.length c] w fun e w' => e = .returned (.int .u8 ((lrc xs).toNat : Int)) ∧ w = w' := by
  go_enter Try.func60, Try.ntmps60
  go_wp2
  go_loop [3, 8] (fun t i => ∃ k : Nat, k ≤ xs.length ∧ i = .int .i64 k ∧ t = .int .u8 ((lrc (xs.take k)).toNat : Int)) (fun _ i => xs.length - (intOf i).toNat)
  case atStart => exact ⟨0, Nat.zero_le _, rfl, rfl⟩
  case round =>
    obtain ⟨k, hk, rfl, rfl⟩ := hrel
    by_cases hlt : k < xs.length
    · obtain ⟨b, off, rfl, hc⟩ := hr.at_ (by omega)
      have hcell := hc k hlt
      have HS := Lib.hid (lrc_take xs k hlt)
      clear hc hr
      go_wp2
      go_round
      case rel => exact ⟨k + 1, by omega, by go_num, by rw [HS.out, xor_u8]⟩
      case measure => simp [intOf]; omega
    · go_wp2
      go_ret
      exact ⟨ret_int (by rw [List.take_of_length_le (by omega)]), rfl⟩
end Go.Proofs.Ytkhobpghiachoaa
