/-
  The table of the CRC: what it holds when it is returned.
-/
import Derived.Test.YtkcmbdnfohkjkaaLrc
namespace Go.Proofs.Ytkcmbdnfohkjkaa
open Go.RowKit Crc

def tabCell (i j : Nat) : Value := .int .u16 (if j < i then (it 8 j : Int) else 0)
def tabV (i : Nat) : Array Value := (Array.range 256).map (tabCell i)
theorem tabV_size (i : Nat) : (tabV i).size = 256 := by simp [tabV]
theorem tabV_get (i j : Nat) (h : j < 256) : (tabV i)[j]? = some (tabCell i j) := by simp [tabV, h]
theorem tabV_set (i : Nat) (_h : i < 256) : (tabV i).setIfInBounds i (.int .u16 (it 8 i : Int)) = tabV (i + 1) := by
  apply Array.ext_getElem?
  intro j
  rw [Array.getElem?_setIfInBounds]
  by_cases hj : j < 256
  · by_cases hij : i = j
    · subst hij
      rw [if_pos rfl, if_pos (by rw [tabV_size]; exact hj), tabV_get _ _ hj]
      simp [tabCell]
    · rw [if_neg hij, tabV_get _ _ hj, tabV_get _ _ hj]
      simp only [tabCell]
      have : (j < i) = (j < i + 1) := by apply propext; omega
      simp only [this]
  · rw [if_neg (by omega), Array.getElem?_eq_none (by rw [tabV_size]; omega), Array.getElem?_eq_none (by rw [tabV_size]; omega)]
theorem zero_tab (w : World) : (zeroValue 41).run Try.prog w = .ok (.agg (tabV 0)) w := by kernel_rfl
theorem tab_info : (Try.prog.info? 41).map (·.size) = some 256 := by kernel_rfl

theorem tabV_one (i : Nat) : (tabV i).all (·.oneCell') = true := by
  rw [Array.all_eq_true_iff_forall_mem]
  intro v hv
  simp only [tabV, Array.mem_map] at hv
  obtain ⟨j, _, rfl⟩ := hv
  rfl
theorem step_odd {q k : Nat} (hl : it q k < 65536) (h : (bits .and .u16 ((it q k : Nat) : Int) 1 == 1) = true) : bits .xor .u16 ((it q k : Nat) / 2) 33800 = ((it (q + 1) k : Nat) : Int) := by
  have e := u16_and_nat (it q k) 1 hl (by omega)
  rw [nat_mask1] at e
  have e1 : bits .and .u16 ((it q k : Nat) : Int) 1 = ((it q k % 2 : Nat) : Int) := e
  rw [e1] at h
  have ho : it q k % 2 = 1 := by simp at h; omega
  rw [it_succ]
  unfold s1
  rw [if_pos ho]
  exact u16_xor_nat (it q k / 2) 33800 (by omega) (by omega)
theorem step_even {q k : Nat} (hl : it q k < 65536) (h : (bits .and .u16 ((it q k : Nat) : Int) 1 == 1) = false) : ((it q k : Nat) : Int) / 2 = ((it (q + 1) k : Nat) : Int) := by
  have e := u16_and_nat (it q k) 1 hl (by omega)
  rw [nat_mask1] at e
  have e1 : bits .and .u16 ((it q k : Nat) : Int) 1 = ((it q k % 2 : Nat) : Int) := e
  rw [e1] at h
  have ho : ¬ it q k % 2 = 1 := by simp at h; omega
  rw [it_succ]
  unfold s1
  rw [if_neg ho]
  simp
set_option maxRecDepth 100000 in
theorem table_any (w : World) :
    Calls Try.prog 27 #[] w fun e w' => e = .returned (.agg (tabV 256)) ∧ Below w.heap.size w w' := by
  have hz := zero_tab
  go_enter Try.func27, Try.ntmps27
  go_wp2
  clear hz
  go_loopw [5] (fun i wr => ∃ k : Nat, k ≤ 256 ∧ i = .int .i64 k ∧ Blk wr w.heap.size 41 (tabV 0) ∧ Blk wr (w.heap.size + 1) 41 (tabV k) ∧ Below w.heap.size w wr) (fun i _ => 256 - (intOf i).toNat)
  case atStart => exact ⟨0, Nat.zero_le _, rfl, (Blk.made _ _ _).alloc _, by have := Blk.made (w.alloc (.cells (tabV 0) 41)) 41 (tabV 0); simpa using this, ((Below.refl _ _).alloc (Nat.le_refl _) _).alloc (by simp) _⟩
  case round =>
    obtain ⟨k, hk, rfl, hb0, hb1, hbel⟩ := hrel
    by_cases hlt : k < 256
    · go_wp2
      go_loop [3, 10] (fun r i => ∃ q : Nat, q ≤ 8 ∧ i = .int .i64 q ∧ r = .int .u16 (it q k : Int)) (fun _ i => 8 - (intOf i).toNat)
      case atStart => exact ⟨0, Nat.zero_le _, rfl, rfl⟩
      case round =>
        obtain ⟨q, hq, rfl, rfl⟩ := hrel
        have hl := it_lt (n := q) (r := k) (by omega)
        by_cases hq8 : q < 8
        · go_wp2
          all_goals go_round
          case rel => exact ⟨q + 1, by omega, by go_num, congrArg _ (step_odd hl (by assumption))⟩
          case measure => simp [intOf]; omega
          case rel => exact ⟨q + 1, by omega, by go_num, congrArg _ (step_even hl (by assumption))⟩
          case measure => simp [intOf]; omega
        · have hcell : wr.cell? ⟨w.heap.size + 1, k, none⟩ = some (.int .u16 0) := by
            rw [hb1.cell, tabV_get _ _ hlt]; simp [tabCell]
          have hfree := hb1.free k
          have hq : q = 8 := by omega
          subst hq
          go_wp2
          go_roundw
          case rel =>
            refine ⟨k + 1, by omega, by go_num, hb0.other (by simp) _, ?_, hbel.setCell (by simp) _⟩
            have := hb1.put k (.int .u16 (it 8 k : Int))
            rwa [tabV_set k hlt] at this
          case measure => simp [intOf]; omega
    · have hk : k = 256 := by omega
      subst hk
      go_wp2_with (first
        | (refine wpList_load_row rfl _ _ rfl (w.heap.size + 1) rfl _ _ _ _ hb1.out Try.underlying41 rfl (by rw [tab_info, tabV_size]) ?_)
        | (refine wpList_store_row rfl _ _ _ rfl w.heap.size _ rfl rfl _ _ hb0.out (by rw [tab_info, tabV_size]) (by rw [tabV_size, tabV_size]) (tabV_one _) ?_))
      exact bodyPost_ret (results_cell_row rfl _ _ w.heap.size _ _ _ _ rfl (hb0.row _).out Try.underlying41 rfl (by rw [tab_info, tabV_size])) rfl ⟨rfl, below_setRow hbel (Nat.le_refl _) _⟩
end Go.Proofs.Ytkcmbdnfohkjkaa
