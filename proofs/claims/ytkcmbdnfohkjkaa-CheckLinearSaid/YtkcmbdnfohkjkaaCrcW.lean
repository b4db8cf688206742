/-
  The CRC: what the program's loop over its table computes.
-/
import Derived.Test.YtkcmbdnfohkjkaaTab
import Derived.Deep.WholeRow
namespace Go.Proofs.Ytkcmbdnfohkjkaa
open Go.RowKit Crc

theorem G_take (r : Nat) (xs : List UInt8) (k : Nat) (h : k < xs.length) : G r (xs.take (k + 1)) = bs (G r (xs.take k)) xs[k] := by
  rw [List.take_succ_eq_append_getElem h, G_append]; rfl

theorem idx_u8 (g : Nat) (x : UInt8) : bits .xor .u8 ((g : Int) % 256) (x.toNat : Int) = (((g % 256) ^^^ x.toNat : Nat) : Int) :=
  u8_xor_nat (g % 256) x.toNat (Nat.mod_lt _ (by omega)) x.toNat_lt
theorem idx_lt (g : Nat) (x : UInt8) : (g % 256) ^^^ x.toNat < 256 := Nat.xor_lt_two_pow (n := 8) (Nat.mod_lt _ (by omega)) x.toNat_lt
theorem crc_step (g j : Nat) (x : UInt8) (hg : g < 65536) (hj : j = (g % 256) ^^^ x.toNat) : bits .xor .u16 ((g : Int) / 256) (it 8 j : Int) = (bs g x : Int) := by
  rw [bs_table g hg, ← hj]
  have hj2 : j < 65536 := by have := idx_lt g x; omega
  exact u16_xor_nat (g / 256) (it 8 j) (by omega) (it_lt hj2)
theorem crc_end (xs : List UInt8) : bits .xor .u16 IntKind.u16.max (G 65535 xs : Int) = (crc xs : Int) := by
  have hg := G_lt (r := 65535) (by omega) xs
  have e : IntKind.u16.max = ((65535 : Nat) : Int) := rfl
  rw [e, u16_xor_nat _ _ (by omega) hg, ← comp_xor hg]; rfl
set_option maxRecDepth 100000 in
theorem crc_any (A : Option Addr) (c : Nat) (xs : List UInt8) (w : World) (hs : xs.length ≤ 140737488351232) (hr : RB w A xs) :
    Calls Try.prog 21 #[.slice A xs.length c] w fun e w' => e = .returned (.int .u16 (crc xs : Int)) ∧ Below w.heap.size w w' := by
  have hz := zero_tab
  go_enter Try.func21, Try.ntmps21
  go_wp2_with fail
  refine (table_any w).mono ?_
  rintro e w1 ⟨rfl, hb1⟩
  have hst := run_storeCells_new (P := Try.prog) w1 41 (tabV 0) (tabV 256) (by rw [tab_info, tabV_size]) (by rw [tabV_size, tabV_size]) (tabV_one _)
  have hsz := tabV_size 256
  go_wp2
  clear hst hsz
  clear hz
  obtain ⟨w2, hw2⟩ : ∃ w2, w2 = w1.alloc (.cells (tabV 256) 41) := ⟨_, rfl⟩
  rw [← hw2]
  have hB2 : Below w.heap.size w w2 := by rw [hw2]; exact hb1.alloc hb1.size _
  have hT : Blk w2 w1.heap.size 41 (tabV 256) := by rw [hw2]; exact Blk.made _ _ _
  have hr2 := hr.below hB2
  clear hw2 hr
  go_loop [4, 10] (fun t i => ∃ k : Nat, k ≤ xs.length ∧ i = .int .i64 k ∧ t = .int .u16 (G 65535 (xs.take k) : Int)) (fun _ i => xs.length - (intOf i).toNat)
  case atStart => exact ⟨0, Nat.zero_le _, rfl, rfl⟩
  case round =>
    obtain ⟨k, hk, rfl, rfl⟩ := hrel
    have hG := G_lt (r := 65535) (by omega) (xs.take k)
    by_cases hlt : k < xs.length
    · obtain ⟨b, off, rfl, hc⟩ := hr2.at_ (by omega)
      have hcell := hc k hlt
      have HS := Lib.hid (G_take 65535 xs k hlt)
      clear hc hr2
      obtain ⟨j, hj⟩ : ∃ j : Nat, j = (G 65535 (xs.take k) % 256) ^^^ xs[k].toNat := ⟨_, rfl⟩
      have hx := idx_u8 (G 65535 (xs.take k)) xs[k]
      have hj2 : j < 256 := by rw [hj]; exact idx_lt _ _
      have hj3 : (j : Int) < 256 := by omega
      rw [← hj] at hx
      have HJ := Lib.hid hj
      clear hj
      have htab : w2.cell? ⟨w1.heap.size, j, none⟩ = some (.int .u16 (it 8 j : Int)) := by
        rw [hT.cell, tabV_get _ _ hj2]; simp [tabCell, hj2]
      go_wp2
      go_round
      case rel => exact ⟨k + 1, by omega, by go_num, by rw [HS.out]; exact congrArg _ (crc_step _ _ _ hG HJ.out)⟩
      case measure => simp [intOf]; omega
    · have hsg : IntKind.u16.signed = false := rfl
      go_wp2
      have hk : xs.take k = xs := List.take_of_length_le (by omega)
      rw [hk]
      go_ret
      exact ⟨ret_int (crc_end xs), hB2⟩
end Go.Proofs.Ytkcmbdnfohkjkaa
