/-
  The reference's LRC and CRC: what its loops compute.
-/
import Derived.Test.YtkcmbdnfohkjkaaCrcW
namespace Go.Proofs.Ytkcmbdnfohkjkaa
open Go.RowKit Crc

theorem i64_xor (a b : Nat) (ha : a < 65536) (hb : b < 65536) : bits .xor .i64 (a : Int) (b : Int) = ((a ^^^ b : Nat) : Int) := by
  have hx : a ^^^ b < 65536 := Nat.xor_lt_two_pow (n := 16) ha hb
  have h1 : (BitVec.ofInt 64 (a : Int)).toNat = a := by rw [BitVec.ofInt_natCast, BitVec.toNat_ofNat]; exact Nat.mod_eq_of_lt (by omega)
  have h2 : (BitVec.ofInt 64 (b : Int)).toNat = b := by rw [BitVec.ofInt_natCast, BitVec.toNat_ofNat]; exact Nat.mod_eq_of_lt (by omega)
  show IntKind.i64.wrap ((BitVec.ofInt 64 (a : Int) ^^^ BitVec.ofInt 64 (b : Int)).toNat : Int) = _
  rw [BitVec.toNat_xor, h1, h2, IntKind.wrap_i64]
  omega

theorem rlrc_any (A : Option Addr) (c : Nat) (xs : List UInt8) (w : World) (hs : xs.length ≤ 140737488351232) (hr : RB w A xs) :
    Calls Try.prog 22 #[.slice A xs.length c] w fun e w' => e = .returned (.int .u8 ((lrc xs).toNat : Int)) ∧ w = w' := by
  go_enter Try.func22, Try.ntmps22
  go_wp2
  go_loop [3, 4] (fun t i => ∃ k : Nat, k ≤ xs.length ∧ i = .int .i64 k ∧ t = .int .u8 ((lrc (xs.take k)).toNat : Int)) (fun _ i => xs.length - (intOf i).toNat)
  case atStart => exact ⟨0, Nat.zero_le _, rfl, rfl⟩
  case round =>
    obtain ⟨k, hk, rfl, rfl⟩ := hrel
    by_cases hlt : k < xs.length
    · obtain ⟨b, off, rfl, hc⟩ := hr.at_ (by omega)
      have hcell := hc k hlt
      have HS := Lib.hid (lrc_take xs k hlt)
      clear hc hr
      go_wp2
      go_round
      case rel => exact ⟨k + 1, by omega, by go_num, by rw [HS.out, xor_u8]⟩
      case measure => simp [intOf]; omega
    · go_wp2
      go_ret
      exact ⟨ret_int (by rw [List.take_of_length_le (by omega)]), rfl⟩

theorem rcrc_any (A : Option Addr) (c : Nat) (xs : List UInt8) (w : World) (hs : xs.length ≤ 140737488351232) (hr : RB w A xs) :
    Calls Try.prog 23 #[.slice A xs.length c] w fun e w' => e = .returned (.int .i64 (crc xs : Int)) ∧ w = w' := by
  go_enter Try.func23, Try.ntmps23
  go_wp2
  go_loop [3, 4] (fun t i => ∃ k : Nat, k ≤ xs.length ∧ i = .int .i64 k ∧ t = .int .i64 (G 65535 (xs.take k) : Int)) (fun _ i => xs.length - (intOf i).toNat)
  case atStart => exact ⟨0, Nat.zero_le _, rfl, rfl⟩
  case round =>
    obtain ⟨k, hk, rfl, rfl⟩ := hrel
    have hG := G_lt (r := 65535) (by omega) (xs.take k)
    by_cases hlt : k < xs.length
    · obtain ⟨b, off, rfl, hc⟩ := hr.at_ (by omega)
      have hcell := hc k hlt
      have HS := Lib.hid (G_take 65535 xs k hlt)
      clear hc hr
      have hb8 := xs[k].toNat_lt
      have hx := i64_xor (G 65535 (xs.take k)) xs[k].toNat hG (byte_lt _)
      obtain ⟨z, hz⟩ : ∃ z : Nat, z = G 65535 (xs.take k) ^^^ xs[k].toNat := ⟨_, rfl⟩
      have hzl : z < 65536 := by rw [hz]; exact Nat.xor_lt_two_pow (n := 16) hG (byte_lt _)
      rw [← hz] at hx
      have HZ := Lib.hid hz
      clear hz
      go_wp2
      clear hx
      go_loop [3, 5] (fun t i => ∃ q : Nat, q ≤ 8 ∧ i = .int .i64 q ∧ t = .int .i64 (it q z : Int)) (fun _ i => 8 - (intOf i).toNat)
      case atStart => exact ⟨0, Nat.zero_le _, rfl, rfl⟩
      case round =>
        obtain ⟨q, hq, rfl, rfl⟩ := hrel
        have hl := it_lt (n := q) hzl
        by_cases hq8 : q < 8
        · have hss := it_succ q z
          by_cases ho : it q z % 2 = 1
          · have hss2 : it (q + 1) z = (it q z / 2) ^^^ 33800 := by rw [hss]; unfold s1; rw [if_pos ho]
            have H2 := Lib.hid hss2
            have ho2 : ((it q z : Int) % 2 == 1) = true := by rw [beq_iff_eq]; omega
            clear hss hss2 ho
            go_wp2
            go_round
            case rel => exact ⟨q + 1, by omega, by go_num, by rw [H2.out]; exact congrArg _ (i64_xor (it q z / 2) 33800 (by omega) (by omega))⟩
            case measure => simp [intOf]; omega
          · have hss2 : it (q + 1) z = it q z / 2 := by rw [hss]; unfold s1; rw [if_neg ho]
            have H2 := Lib.hid hss2
            have ho2 : ((it q z : Int) % 2 == 1) = false := by rw [beq_eq_false_iff_ne]; omega
            clear hss hss2 ho
            go_wp2
            go_round
            case rel => exact ⟨q + 1, by omega, by go_num, by rw [H2.out]; simp⟩
            case measure => simp [intOf]; omega
        · have hq' : q = 8 := by omega
          subst hq'
          go_wp2
          go_round
          case rel => exact ⟨k + 1, by omega, by go_num, by rw [HS.out, HZ.out]; rfl⟩
          case measure => simp [intOf]; omega
    · go_wp2
      have hk : xs.take k = xs := List.take_of_length_le (by omega)
      rw [hk] at hG ⊢
      go_ret
      exact ⟨ret_int (by unfold crc; omega), rfl⟩
end Go.Proofs.Ytkcmbdnfohkjkaa
