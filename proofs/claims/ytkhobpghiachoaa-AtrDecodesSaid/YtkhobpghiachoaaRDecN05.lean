/-
  Reading an answer to reset, by the reference, whatever the bytes.
-/
import Derived.Test.YtkhobpghiachoaaRDec05
namespace Go.Proofs.Ytkhobpghiachoaa
open Go.RowKit Crc
set_option linter.unusedVariables false

theorem early {w W : World} {rb : Nat} {b : List UInt8} {k : Int} (hz : Blk W rb 27 #[.bool false, .slice none 0 0, .slice none 0 0, .slice none 0 0]) (hb : Below w.heap.size w W) (hr0 : w.heap.size ≤ rb) (hD : decS b = .bad k) :
    Blk (((((W.setCell ⟨rb, 0, none⟩ (.bool false)).setCell ⟨rb, 1, none⟩ (.slice none 0 0)).setCell ⟨rb, 2, none⟩ (.slice none 0 0)).setCell ⟨rb, 3, none⟩ (.slice none 0 0))) rb 27 #[.bool false, .slice none 0 0, .slice none 0 0, .slice none 0 0] ∧
      DRes b w (.returned (.tuple #[.agg #[.bool false, .slice none 0 0, .slice none 0 0, .slice none 0 0], .int .i64 k])) (((((W.setCell ⟨rb, 0, none⟩ (.bool false)).setCell ⟨rb, 1, none⟩ (.slice none 0 0)).setCell ⟨rb, 2, none⟩ (.slice none 0 0)).setCell ⟨rb, 3, none⟩ (.slice none 0 0))) := by
  refine ⟨(((hz.put 0 (.bool false)).put 1 (.slice none 0 0)).put 2 (.slice none 0 0)).put 3 (.slice none 0 0), DRes.bad hD ?_⟩
  exact (((hb.setCell (p := ⟨rb, 0, none⟩) hr0 _).setCell (p := ⟨rb, 1, none⟩) hr0 _).setCell (p := ⟨rb, 2, none⟩) hr0 _).setCell (p := ⟨rb, 3, none⟩) hr0 _
set_option maxRecDepth 100000 in
set_option maxHeartbeats 4000000 in
theorem rdec_long (A : Option Addr) (c : Nat) (b : List UInt8) (w : World) (h33 : 33 < b.length) :
    Calls Try.prog 14 #[.slice A b.length c] w (DRes b w) := by
  have hD : decS b = .bad 3 := decS_of (by unfold wholeS; rw [if_pos h33]) (by decide)
  have hz := (Blk.made w 27 #[.bool false, .slice none 0 0, .slice none 0 0, .slice none 0 0]).alloc (.cells #[.bool false, .slice none 0 0, .slice none 0 0, .slice none 0 0] 27)
  have hn := Blk.made (w.alloc (.cells #[.bool false, .slice none 0 0, .slice none 0 0, .slice none 0 0] 27)) 27 #[.bool false, .slice none 0 0, .slice none 0 0, .slice none 0 0]
  have hs1 : (w.alloc (.cells #[.bool false, .slice none 0 0, .slice none 0 0, .slice none 0 0] 27)).heap.size = w.heap.size + 1 := by simp
  rw [hs1] at hn
  have hb0 := ((Below.refl w.heap.size w).alloc (Nat.le_refl _) (.cells #[.bool false, .slice none 0 0, .slice none 0 0, .slice none 0 0] 27)).alloc (by simp) (.cells #[.bool false, .slice none 0 0, .slice none 0 0, .slice none 0 0] 27)
  clear hs1
  go_enter Try.func14, Try.ntmps14
  go_upto_region 2 with fail
  obtain ⟨W1, hW1⟩ : ∃ W1 : World, W1 = (w.alloc (.cells #[.bool false, .slice none 0 0, .slice none 0 0, .slice none 0 0] 27)).alloc (.cells #[.bool false, .slice none 0 0, .slice none 0 0, .slice none 0 0] 27) := ⟨_, rfl⟩
  rw [← hW1] at hz hn hb0
  rw [← hW1]
  obtain ⟨rb, hrb⟩ : ∃ rb, rb = w.heap.size := ⟨_, rfl⟩
  obtain ⟨nb, hnb⟩ : ∃ nb, nb = w.heap.size + 1 := ⟨_, rfl⟩
  have hrn : ¬ (rb = nb) := by omega
  have hnr : ¬ (nb = rb) := by omega
  have hrb0 : w.heap.size ≤ rb := by omega
  rw [← hrb] at hz
  rw [← hnb] at hn
  rw [← hnb, ← hrb]
  clear hrb hnb hW1
  obtain ⟨kR, hDR⟩ := early hz hb0 hrb0 hD
  have HK := Lib.hid kR
  have HDR := Lib.hid hDR
  have p0 : W1.cell? ⟨nb, 0, none⟩ = some (.bool false) := hn.cell 0
  have p1 : W1.cell? ⟨nb, 1, none⟩ = some (.slice none 0 0) := hn.cell 1
  have p2 : W1.cell? ⟨nb, 2, none⟩ = some (.slice none 0 0) := hn.cell 2
  have p3 : W1.cell? ⟨nb, 3, none⟩ = some (.slice none 0 0) := hn.cell 3
  have r0 : W1.cell? ⟨rb, 0, none⟩ = some (.bool false) := hz.cell 0
  have r1 : W1.cell? ⟨rb, 1, none⟩ = some (.slice none 0 0) := hz.cell 1
  have r2 : W1.cell? ⟨rb, 2, none⟩ = some (.slice none 0 0) := hz.cell 2
  have r3 : W1.cell? ⟨rb, 3, none⟩ = some (.slice none 0 0) := hz.cell 3
  have fR := hz.free
  have h33i : (33 : Int) < (b.length : Int) := by omega
  have h33d := decide_eq_true h33i
  clear hD kR hDR hz hn hrb0 hb0
  go_wp2
  refine bodyPost_ret (results_cell_one rfl _ _ rb _ _ _ _ rfl HK.out.out Try.underlying27 rfl atr_info) rfl ?_
  exact HDR.out
set_option maxRecDepth 100000 in
set_option maxHeartbeats 4000000 in
theorem rdec_nil (A : Option Addr) (c : Nat) (w : World) :
    Calls Try.prog 14 #[.slice A 0 c] w (DRes [] w) := by
  have hD : decS [] = .bad 5 := decS_of (by unfold wholeS; simp) (by decide)
  have hz := (Blk.made w 27 #[.bool false, .slice none 0 0, .slice none 0 0, .slice none 0 0]).alloc (.cells #[.bool false, .slice none 0 0, .slice none 0 0, .slice none 0 0] 27)
  have hn := Blk.made (w.alloc (.cells #[.bool false, .slice none 0 0, .slice none 0 0, .slice none 0 0] 27)) 27 #[.bool false, .slice none 0 0, .slice none 0 0, .slice none 0 0]
  have hs1 : (w.alloc (.cells #[.bool false, .slice none 0 0, .slice none 0 0, .slice none 0 0] 27)).heap.size = w.heap.size + 1 := by simp
  rw [hs1] at hn
  have hb0 := ((Below.refl w.heap.size w).alloc (Nat.le_refl _) (.cells #[.bool false, .slice none 0 0, .slice none 0 0, .slice none 0 0] 27)).alloc (by simp) (.cells #[.bool false, .slice none 0 0, .slice none 0 0, .slice none 0 0] 27)
  clear hs1
  go_enter Try.func14, Try.ntmps14
  go_upto_region 2 with fail
  obtain ⟨W1, hW1⟩ : ∃ W1 : World, W1 = (w.alloc (.cells #[.bool false, .slice none 0 0, .slice none 0 0, .slice none 0 0] 27)).alloc (.cells #[.bool false, .slice none 0 0, .slice none 0 0, .slice none 0 0] 27) := ⟨_, rfl⟩
  rw [← hW1] at hz hn hb0
  rw [← hW1]
  obtain ⟨rb, hrb⟩ : ∃ rb, rb = w.heap.size := ⟨_, rfl⟩
  obtain ⟨nb, hnb⟩ : ∃ nb, nb = w.heap.size + 1 := ⟨_, rfl⟩
  have hrn : ¬ (rb = nb) := by omega
  have hnr : ¬ (nb = rb) := by omega
  have hrb0 : w.heap.size ≤ rb := by omega
  rw [← hrb] at hz
  rw [← hnb] at hn
  rw [← hnb, ← hrb]
  clear hrb hnb hW1
  obtain ⟨kR, hDR⟩ := early hz hb0 hrb0 hD
  have HK := Lib.hid kR
  have HDR := Lib.hid hDR
  have p0 : W1.cell? ⟨nb, 0, none⟩ = some (.bool false) := hn.cell 0
  have p1 : W1.cell? ⟨nb, 1, none⟩ = some (.slice none 0 0) := hn.cell 1
  have p2 : W1.cell? ⟨nb, 2, none⟩ = some (.slice none 0 0) := hn.cell 2
  have p3 : W1.cell? ⟨nb, 3, none⟩ = some (.slice none 0 0) := hn.cell 3
  have r0 : W1.cell? ⟨rb, 0, none⟩ = some (.bool false) := hz.cell 0
  have r1 : W1.cell? ⟨rb, 1, none⟩ = some (.slice none 0 0) := hz.cell 1
  have r2 : W1.cell? ⟨rb, 2, none⟩ = some (.slice none 0 0) := hz.cell 2
  have r3 : W1.cell? ⟨rb, 3, none⟩ = some (.slice none 0 0) := hz.cell 3
  have fR := hz.free
  clear hD kR hDR hz hn hrb0 hb0
  go_wp2
  refine bodyPost_ret (results_cell_one rfl _ _ rb _ _ _ _ rfl HK.out.out Try.underlying27 rfl atr_info) rfl ?_
  exact HDR.out
set_option maxRecDepth 100000 in
set_option maxHeartbeats 4000000 in
theorem rdec_sign (c : Nat) (f : UInt8) (b : List UInt8) (w : World) (bb bo : Nat) (z : w.cell? ⟨bb, bo, none⟩ = some (.int .u8 (f.toNat : Int))) (hl : b.length ≤ 32) (hc : b.length + 1 ≤ c) (h59 : f ≠ 59) (h63 : f ≠ 63) :
    Calls Try.prog 14 #[.slice (some ⟨bb, bo, none⟩) (b.length + 1) c] w (DRes (f :: b) w) := by
  have hD : decS (f :: b) = .bad 4 := decS_of (by unfold wholeS; rw [if_neg (by simp; omega)]; simp only; rw [if_neg (by simp [h59, h63])]) (by decide)
  have hz := (Blk.made w 27 #[.bool false, .slice none 0 0, .slice none 0 0, .slice none 0 0]).alloc (.cells #[.bool false, .slice none 0 0, .slice none 0 0, .slice none 0 0] 27)
  have hn := Blk.made (w.alloc (.cells #[.bool false, .slice none 0 0, .slice none 0 0, .slice none 0 0] 27)) 27 #[.bool false, .slice none 0 0, .slice none 0 0, .slice none 0 0]
  have hs1 : (w.alloc (.cells #[.bool false, .slice none 0 0, .slice none 0 0, .slice none 0 0] 27)).heap.size = w.heap.size + 1 := by simp
  rw [hs1] at hn
  have hb0 := ((Below.refl w.heap.size w).alloc (Nat.le_refl _) (.cells #[.bool false, .slice none 0 0, .slice none 0 0, .slice none 0 0] 27)).alloc (by simp) (.cells #[.bool false, .slice none 0 0, .slice none 0 0, .slice none 0 0] 27)
  clear hs1
  go_enter Try.func14, Try.ntmps14
  go_upto_region 2 with fail
  obtain ⟨W1, hW1⟩ : ∃ W1 : World, W1 = (w.alloc (.cells #[.bool false, .slice none 0 0, .slice none 0 0, .slice none 0 0] 27)).alloc (.cells #[.bool false, .slice none 0 0, .slice none 0 0, .slice none 0 0] 27) := ⟨_, rfl⟩
  rw [← hW1] at hz hn hb0
  rw [← hW1]
  obtain ⟨rb, hrb⟩ : ∃ rb, rb = w.heap.size := ⟨_, rfl⟩
  obtain ⟨nb, hnb⟩ : ∃ nb, nb = w.heap.size + 1 := ⟨_, rfl⟩
  have hrn : ¬ (rb = nb) := by omega
  have hnr : ¬ (nb = rb) := by omega
  have hrb0 : w.heap.size ≤ rb := by omega
  rw [← hrb] at hz
  rw [← hnb] at hn
  rw [← hnb, ← hrb]
  clear hrb hnb hW1
  obtain ⟨kR, hDR⟩ := early hz hb0 hrb0 hD
  have HK := Lib.hid kR
  have HDR := Lib.hid hDR
  have p0 : W1.cell? ⟨nb, 0, none⟩ = some (.bool false) := hn.cell 0
  have p1 : W1.cell? ⟨nb, 1, none⟩ = some (.slice none 0 0) := hn.cell 1
  have p2 : W1.cell? ⟨nb, 2, none⟩ = some (.slice none 0 0) := hn.cell 2
  have p3 : W1.cell? ⟨nb, 3, none⟩ = some (.slice none 0 0) := hn.cell 3
  have r0 : W1.cell? ⟨rb, 0, none⟩ = some (.bool false) := hz.cell 0
  have r1 : W1.cell? ⟨rb, 1, none⟩ = some (.slice none 0 0) := hz.cell 1
  have r2 : W1.cell? ⟨rb, 2, none⟩ = some (.slice none 0 0) := hz.cell 2
  have r3 : W1.cell? ⟨rb, 3, none⟩ = some (.slice none 0 0) := hz.cell 3
  have fR := hz.free
  have z0 : W1.cell? ⟨bb, bo, none⟩ = some (.int .u8 (f.toNat : Int)) := (hb0.cell (p := ⟨bb, bo, none⟩) (cell?_lt z)).trans z
  have q59 : ((f.toNat : Int) != 59) = true := by
    have : f.toNat ≠ 59 := fun e => h59 (UInt8.toNat_inj.1 e)
    simp
    omega
  have q63 : ((f.toNat : Int) != 63) = true := by
    have : f.toNat ≠ 63 := fun e => h63 (UInt8.toNat_inj.1 e)
    simp
    omega
  have i0 : (0 : Int) < (b.length : Int) + 1 := by omega
  have i3 : ¬ ((33 : Int) < (b.length : Int) + 1) := by omega
  clear z
  clear hD kR hDR hz hn hrb0 hb0
  go_wp2
  refine bodyPost_ret (results_cell_one rfl _ _ rb _ _ _ _ rfl HK.out.out Try.underlying27 rfl atr_info) rfl ?_
  exact HDR.out
set_option maxRecDepth 100000 in
set_option maxHeartbeats 4000000 in
theorem rdec_one59 (c : Nat) (w : World) (bb bo : Nat) (z : w.cell? ⟨bb, bo, none⟩ = some (.int .u8 59)) (hc : 1 ≤ c) :
    Calls Try.prog 14 #[.slice (some ⟨bb, bo, none⟩) 1 c] w (DRes [59] w) := by
  have hD : decS [59] = .bad 5 := decS_of (by unfold wholeS; simp) (by decide)
  have hz := (Blk.made w 27 #[.bool false, .slice none 0 0, .slice none 0 0, .slice none 0 0]).alloc (.cells #[.bool false, .slice none 0 0, .slice none 0 0, .slice none 0 0] 27)
  have hn := Blk.made (w.alloc (.cells #[.bool false, .slice none 0 0, .slice none 0 0, .slice none 0 0] 27)) 27 #[.bool false, .slice none 0 0, .slice none 0 0, .slice none 0 0]
  have hs1 : (w.alloc (.cells #[.bool false, .slice none 0 0, .slice none 0 0, .slice none 0 0] 27)).heap.size = w.heap.size + 1 := by simp
  rw [hs1] at hn
  have hb0 := ((Below.refl w.heap.size w).alloc (Nat.le_refl _) (.cells #[.bool false, .slice none 0 0, .slice none 0 0, .slice none 0 0] 27)).alloc (by simp) (.cells #[.bool false, .slice none 0 0, .slice none 0 0, .slice none 0 0] 27)
  clear hs1
  go_enter Try.func14, Try.ntmps14
  go_upto_region 2 with fail
  obtain ⟨W1, hW1⟩ : ∃ W1 : World, W1 = (w.alloc (.cells #[.bool false, .slice none 0 0, .slice none 0 0, .slice none 0 0] 27)).alloc (.cells #[.bool false, .slice none 0 0, .slice none 0 0, .slice none 0 0] 27) := ⟨_, rfl⟩
  rw [← hW1] at hz hn hb0
  rw [← hW1]
  obtain ⟨rb, hrb⟩ : ∃ rb, rb = w.heap.size := ⟨_, rfl⟩
  obtain ⟨nb, hnb⟩ : ∃ nb, nb = w.heap.size + 1 := ⟨_, rfl⟩
  have hrn : ¬ (rb = nb) := by omega
  have hnr : ¬ (nb = rb) := by omega
  have hrb0 : w.heap.size ≤ rb := by omega
  rw [← hrb] at hz
  rw [← hnb] at hn
  rw [← hnb, ← hrb]
  clear hrb hnb hW1
  obtain ⟨kR, hDR⟩ := early hz hb0 hrb0 hD
  have HK := Lib.hid kR
  have HDR := Lib.hid hDR
  have p0 : W1.cell? ⟨nb, 0, none⟩ = some (.bool false) := hn.cell 0
  have p1 : W1.cell? ⟨nb, 1, none⟩ = some (.slice none 0 0) := hn.cell 1
  have p2 : W1.cell? ⟨nb, 2, none⟩ = some (.slice none 0 0) := hn.cell 2
  have p3 : W1.cell? ⟨nb, 3, none⟩ = some (.slice none 0 0) := hn.cell 3
  have r0 : W1.cell? ⟨rb, 0, none⟩ = some (.bool false) := hz.cell 0
  have r1 : W1.cell? ⟨rb, 1, none⟩ = some (.slice none 0 0) := hz.cell 1
  have r2 : W1.cell? ⟨rb, 2, none⟩ = some (.slice none 0 0) := hz.cell 2
  have r3 : W1.cell? ⟨rb, 3, none⟩ = some (.slice none 0 0) := hz.cell 3
  have fR := hz.free
  have z0 : W1.cell? ⟨bb, bo, none⟩ = some (.int .u8 59) := (hb0.cell (p := ⟨bb, bo, none⟩) (cell?_lt z)).trans z
  clear z
  clear hD kR hDR hz hn hrb0 hb0
  go_wp2
  refine bodyPost_ret (results_cell_one rfl _ _ rb _ _ _ _ rfl HK.out.out Try.underlying27 rfl atr_info) rfl ?_
  exact HDR.out
set_option maxRecDepth 100000 in
set_option maxHeartbeats 4000000 in
theorem rdec_one63 (c : Nat) (w : World) (bb bo : Nat) (z : w.cell? ⟨bb, bo, none⟩ = some (.int .u8 63)) (hc : 1 ≤ c) :
    Calls Try.prog 14 #[.slice (some ⟨bb, bo, none⟩) 1 c] w (DRes [63] w) := by
  have hD : decS [63] = .bad 5 := decS_of (by unfold wholeS; simp) (by decide)
  have hz := (Blk.made w 27 #[.bool false, .slice none 0 0, .slice none 0 0, .slice none 0 0]).alloc (.cells #[.bool false, .slice none 0 0, .slice none 0 0, .slice none 0 0] 27)
  have hn := Blk.made (w.alloc (.cells #[.bool false, .slice none 0 0, .slice none 0 0, .slice none 0 0] 27)) 27 #[.bool false, .slice none 0 0, .slice none 0 0, .slice none 0 0]
  have hs1 : (w.alloc (.cells #[.bool false, .slice none 0 0, .slice none 0 0, .slice none 0 0] 27)).heap.size = w.heap.size + 1 := by simp
  rw [hs1] at hn
  have hb0 := ((Below.refl w.heap.size w).alloc (Nat.le_refl _) (.cells #[.bool false, .slice none 0 0, .slice none 0 0, .slice none 0 0] 27)).alloc (by simp) (.cells #[.bool false, .slice none 0 0, .slice none 0 0, .slice none 0 0] 27)
  clear hs1
  go_enter Try.func14, Try.ntmps14
  go_upto_region 2 with fail
  obtain ⟨W1, hW1⟩ : ∃ W1 : World, W1 = (w.alloc (.cells #[.bool false, .slice none 0 0, .slice none 0 0, .slice none 0 0] 27)).alloc (.cells #[.bool false, .slice none 0 0, .slice none 0 0, .slice none 0 0] 27) := ⟨_, rfl⟩
  rw [← hW1] at hz hn hb0
  rw [← hW1]
  obtain ⟨rb, hrb⟩ : ∃ rb, rb = w.heap.size := ⟨_, rfl⟩
  obtain ⟨nb, hnb⟩ : ∃ nb, nb = w.heap.size + 1 := ⟨_, rfl⟩
  have hrn : ¬ (rb = nb) := by omega
  have hnr : ¬ (nb = rb) := by omega
  have hrb0 : w.heap.size ≤ rb := by omega
  rw [← hrb] at hz
  rw [← hnb] at hn
  rw [← hnb, ← hrb]
  clear hrb hnb hW1
  obtain ⟨kR, hDR⟩ := early hz hb0 hrb0 hD
  have HK := Lib.hid kR
  have HDR := Lib.hid hDR
  have p0 : W1.cell? ⟨nb, 0, none⟩ = some (.bool false) := hn.cell 0
  have p1 : W1.cell? ⟨nb, 1, none⟩ = some (.slice none 0 0) := hn.cell 1
  have p2 : W1.cell? ⟨nb, 2, none⟩ = some (.slice none 0 0) := hn.cell 2
  have p3 : W1.cell? ⟨nb, 3, none⟩ = some (.slice none 0 0) := hn.cell 3
  have r0 : W1.cell? ⟨rb, 0, none⟩ = some (.bool false) := hz.cell 0
  have r1 : W1.cell? ⟨rb, 1, none⟩ = some (.slice none 0 0) := hz.cell 1
  have r2 : W1.cell? ⟨rb, 2, none⟩ = some (.slice none 0 0) := hz.cell 2
  have r3 : W1.cell? ⟨rb, 3, none⟩ = some (.slice none 0 0) := hz.cell 3
  have fR := hz.free
  have z0 : W1.cell? ⟨bb, bo, none⟩ = some (.int .u8 63) := (hb0.cell (p := ⟨bb, bo, none⟩) (cell?_lt z)).trans z
  clear z
  clear hD kR hDR hz hn hrb0 hb0
  go_wp2
  refine bodyPost_ret (results_cell_one rfl _ _ rb _ _ _ _ rfl HK.out.out Try.underlying27 rfl atr_info) rfl ?_
  exact HDR.out
/-- The reference's Decode, whatever the bytes. -/
theorem rdec_any (A : Option Addr) (c : Nat) (b : List UInt8) (w : World) (hr : RB w A b) (hcb : b.length ≤ c) :
    Calls Try.prog 14 #[.slice A b.length c] w (DRes b w) := by
  by_cases h33 : 33 < b.length
  · exact rdec_long A c b w h33
  · match b, hr, hcb, h33 with
    | [], _, _, _ => exact rdec_nil A c w
    | [f], hr, hcb, _ =>
      obtain ⟨bb, bo, rfl, hcel⟩ := hr.at_ (by simp)
      have z : w.cell? ⟨bb, bo, none⟩ = some (.int .u8 (f.toNat : Int)) := hcel 0 (by simp)
      by_cases h59 : f = 59
      · subst h59
        exact rdec_one59 c w bb bo z hcb
      · by_cases h63 : f = 63
        · subst h63
          exact rdec_one63 c w bb bo z hcb
        · exact rdec_sign c f [] w bb bo z (by simp) hcb h59 h63
    | f :: h :: b, hr, hcb, h33 =>
      have hl : b.length ≤ 31 := by simp at h33; omega
      obtain ⟨bb, bo, rfl, hcel⟩ := hr.at_ (by simp)
      have z : w.cell? ⟨bb, bo, none⟩ = some (.int .u8 (f.toNat : Int)) := hcel 0 (by simp)
      by_cases h59 : f = 59
      · subst h59
        exact rdec_main c 59 h b w bb bo false hr hl hcb (Or.inl rfl) rfl rfl
      · by_cases h63 : f = 63
        · subst h63
          exact rdec_main c 63 h b w bb bo true hr hl hcb (Or.inr rfl) rfl rfl
        · exact rdec_sign c f (h :: b) w bb bo z (by simp; omega) hcb h59 h63
end Go.Proofs.Ytkhobpghiachoaa
