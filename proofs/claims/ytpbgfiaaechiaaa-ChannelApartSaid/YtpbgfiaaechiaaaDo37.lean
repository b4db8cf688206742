/-
  The channels: one call on a table and on a state; the other calls.
-/
import Derived.Test.YtpbgfiaaechiaaaDoA37
namespace Go.Proofs.Ytpbgfiaaechiaaa
open Go.RowKit
set_option linter.unusedVariables false

set_option maxHeartbeats 1000000 in
theorem do_open (g : Nat) (L M : List Ln) (o : Op37) (w : World) (hB : Both w g L M) (hx : RB w o.A o.x) (ho : o.op = 0) :
    Calls Try.prog 10 #[.pointer (some ⟨g, 0, none⟩), .agg (scs M), .agg (opCells o).toArray] w (DidB g (stepC (chs L) o) w) := by
  have hr : stepC (chs L) o = (openC (chs L) o.n).1 := by unfold stepC; rw [if_pos ho]
  have hzr : open0 ((openC (chs L) o.n).1) := by rw [← hr]; exact open0_step hB.zero o
  rw [hr]
  have hT := hB.tab
  have h4 := hB.len
  have hk0 : Blk (((w.alloc (.cells (scs M) 32)).alloc (.cells #[.int .i64 o.op, .int .i64 o.n, .slice o.A o.x.length o.c, .int .i64 o.t.p, .int .i64 o.t.k, .int .i64 o.t.s, .int .i64 o.t.l] 37)).alloc (.cells #[.bool false, .slice none 0 0, .int .i64 0, .int .i64 0, .int .i64 0, .int .i64 0, .bool false, .slice none 0 0, .int .i64 0, .int .i64 0, .int .i64 0, .int .i64 0, .bool false, .slice none 0 0, .int .i64 0, .int .i64 0, .int .i64 0, .int .i64 0, .bool false, .slice none 0 0, .int .i64 0, .int .i64 0, .int .i64 0, .int .i64 0] 32)) w.heap.size 32 (scs M) := ((Blk.made w 32 (scs M)).alloc _).alloc _
  have hk1 : Blk (((w.alloc (.cells (scs M) 32)).alloc (.cells #[.int .i64 o.op, .int .i64 o.n, .slice o.A o.x.length o.c, .int .i64 o.t.p, .int .i64 o.t.k, .int .i64 o.t.s, .int .i64 o.t.l] 37)).alloc (.cells #[.bool false, .slice none 0 0, .int .i64 0, .int .i64 0, .int .i64 0, .int .i64 0, .bool false, .slice none 0 0, .int .i64 0, .int .i64 0, .int .i64 0, .int .i64 0, .bool false, .slice none 0 0, .int .i64 0, .int .i64 0, .int .i64 0, .int .i64 0, .bool false, .slice none 0 0, .int .i64 0, .int .i64 0, .int .i64 0, .int .i64 0] 32)) (w.heap.size + 1) 37 #[.int .i64 o.op, .int .i64 o.n, .slice o.A o.x.length o.c, .int .i64 o.t.p, .int .i64 o.t.k, .int .i64 o.t.s, .int .i64 o.t.l] := by
    have h := (Blk.made (w.alloc (.cells (scs M) 32)) 37 #[.int .i64 o.op, .int .i64 o.n, .slice o.A o.x.length o.c, .int .i64 o.t.p, .int .i64 o.t.k, .int .i64 o.t.s, .int .i64 o.t.l]).alloc (.cells (scs zeroL) 32)
    rw [show (w.alloc (.cells (scs M) 32)).heap.size = w.heap.size + 1 from by simp] at h
    exact h
  have hk2 : Blk (((w.alloc (.cells (scs M) 32)).alloc (.cells #[.int .i64 o.op, .int .i64 o.n, .slice o.A o.x.length o.c, .int .i64 o.t.p, .int .i64 o.t.k, .int .i64 o.t.s, .int .i64 o.t.l] 37)).alloc (.cells #[.bool false, .slice none 0 0, .int .i64 0, .int .i64 0, .int .i64 0, .int .i64 0, .bool false, .slice none 0 0, .int .i64 0, .int .i64 0, .int .i64 0, .int .i64 0, .bool false, .slice none 0 0, .int .i64 0, .int .i64 0, .int .i64 0, .int .i64 0, .bool false, .slice none 0 0, .int .i64 0, .int .i64 0, .int .i64 0, .int .i64 0] 32)) (w.heap.size + 2) 32 (scs zeroL) := by
    have h := Blk.made ((w.alloc (.cells (scs M) 32)).alloc (.cells #[.int .i64 o.op, .int .i64 o.n, .slice o.A o.x.length o.c, .int .i64 o.t.p, .int .i64 o.t.k, .int .i64 o.t.s, .int .i64 o.t.l] 37)) 32 (scs zeroL)
    rw [show ((w.alloc (.cells (scs M) 32)).alloc (.cells #[.int .i64 o.op, .int .i64 o.n, .slice o.A o.x.length o.c, .int .i64 o.t.p, .int .i64 o.t.k, .int .i64 o.t.s, .int .i64 o.t.l] 37)).heap.size = w.heap.size + 2 from by simp] at h
    exact h
  have hb : Below w.heap.size w (((w.alloc (.cells (scs M) 32)).alloc (.cells #[.int .i64 o.op, .int .i64 o.n, .slice o.A o.x.length o.c, .int .i64 o.t.p, .int .i64 o.t.k, .int .i64 o.t.s, .int .i64 o.t.l] 37)).alloc (.cells #[.bool false, .slice none 0 0, .int .i64 0, .int .i64 0, .int .i64 0, .int .i64 0, .bool false, .slice none 0 0, .int .i64 0, .int .i64 0, .int .i64 0, .int .i64 0, .bool false, .slice none 0 0, .int .i64 0, .int .i64 0, .int .i64 0, .int .i64 0, .bool false, .slice none 0 0, .int .i64 0, .int .i64 0, .int .i64 0, .int .i64 0] 32)) := (((Below.refl w.heap.size w).alloc (Nat.le_refl _) _).alloc (by simp) _).alloc (by simp; omega) _
  obtain ⟨W0, hW0⟩ : ∃ W0 : World, W0 = (((w.alloc (.cells (scs M) 32)).alloc (.cells #[.int .i64 o.op, .int .i64 o.n, .slice o.A o.x.length o.c, .int .i64 o.t.p, .int .i64 o.t.k, .int .i64 o.t.s, .int .i64 o.t.l] 37)).alloc (.cells #[.bool false, .slice none 0 0, .int .i64 0, .int .i64 0, .int .i64 0, .int .i64 0, .bool false, .slice none 0 0, .int .i64 0, .int .i64 0, .int .i64 0, .int .i64 0, .bool false, .slice none 0 0, .int .i64 0, .int .i64 0, .int .i64 0, .int .i64 0, .bool false, .slice none 0 0, .int .i64 0, .int .i64 0, .int .i64 0, .int .i64 0] 32)) := ⟨_, rfl⟩
  rw [← hW0] at hk0 hk1 hk2 hb
  have hz0 : (scs M).size = 24 := scs_size h4
  have hz1 : (scs zeroL).size = 24 := rfl
  have hi0 : (Try.prog.info? 32).map (·.size) = some (scs M).size := by rw [hz0]; rfl
  have ho0 := scs_one h4
  have hgs := hT.1.size
  have hT0 := hT.below hb
  have hM0 := hB.lns.below hb
  have hx0 := hx.below hb
  have hLM := hB.same
  have hZ := hB.zero
  have n0 : W0.cell? ⟨w.heap.size + 1, 0, none⟩ = some (.int .i64 o.op) := hk1.cell 0
  have n1 : W0.cell? ⟨w.heap.size + 1, 1, none⟩ = some (.int .i64 o.n) := hk1.cell 1
  have n2 : W0.cell? ⟨w.heap.size + 1, 2, none⟩ = some (.slice o.A o.x.length o.c) := hk1.cell 2
  have n3 : W0.cell? ⟨w.heap.size + 1, 3, none⟩ = some (.int .i64 o.t.p) := hk1.cell 3
  have n4 : W0.cell? ⟨w.heap.size + 1, 3 + 1, none⟩ = some (.int .i64 o.t.k) := hk1.cell 4
  have n5 : W0.cell? ⟨w.heap.size + 1, 3 + 2, none⟩ = some (.int .i64 o.t.s) := hk1.cell 5
  have n6 : W0.cell? ⟨w.heap.size + 1, 3 + 3, none⟩ = some (.int .i64 o.t.l) := hk1.cell 6
  unfold opCells
  have hq := open_any g L o.n W0 hT0
  obtain ⟨r, hrr⟩ : ∃ r, r = openC (chs L) o.n := ⟨_, rfl⟩
  rw [← hrr] at hq hzr ⊢
  rw [ho] at n0
  rw [ho]
  go_enter Try.func10, Try.ntmps10
  go_upto_region 1 with fail
  rw [ho] at hW0
  rw [← hW0]
  clear hW0
  go_wp2_with fail
  refine hq.mono ?_
  clear hq
  rintro e w1 ⟨rfl, L1, hT1, hc1, hn1⟩
  have hk0 := hk0.only hn1 (by omega)
  have hk1 := hk1.only hn1 (by omega)
  have hk2 := hk2.only hn1 (by omega)
  have hM1 := hM0.tab hT0 hn1
  have hx1 := hx0.tab hT0 hn1
  have n0 : w1.cell? ⟨w.heap.size + 1, 0, none⟩ = some (.int .i64 o.op) := hk1.cell 0
  have n1 : w1.cell? ⟨w.heap.size + 1, 1, none⟩ = some (.int .i64 o.n) := hk1.cell 1
  have n2 : w1.cell? ⟨w.heap.size + 1, 2, none⟩ = some (.slice o.A o.x.length o.c) := hk1.cell 2
  have n3 : w1.cell? ⟨w.heap.size + 1, 3, none⟩ = some (.int .i64 o.t.p) := hk1.cell 3
  have n4 : w1.cell? ⟨w.heap.size + 1, 3 + 1, none⟩ = some (.int .i64 o.t.k) := hk1.cell 4
  have n5 : w1.cell? ⟨w.heap.size + 1, 3 + 2, none⟩ = some (.int .i64 o.t.s) := hk1.cell 5
  have n6 : w1.cell? ⟨w.heap.size + 1, 3 + 3, none⟩ = some (.int .i64 o.t.l) := hk1.cell 6
  rw [ho] at n0
  have hq := refOpen_any M o.n w1 h4 hM1 (by rw [hLM]; exact hZ)
  rw [hLM, ← hrr] at hq
  go_wp2_with (refine wpList_load_row rfl _ _ rfl w.heap.size rfl _ (scs M) _ _ hk0.out Try.underlying32 rfl hi0 ?_)
  refine hq.mono ?_
  clear hq
  rintro e w2 ⟨M2, rfl, h42, hc2, hM2, hb2⟩
  have hs2 : w.heap.size + 2 < w2.heap.size := Nat.lt_of_lt_of_le hk2.size hb2.size
  have hgs2 : g < w2.heap.size := by omega
  have hba := (Below.refl w2.heap.size w2).alloc (Nat.le_refl _) (.cells #[.bool false, .slice none 0 0, .int .i64 0, .int .i64 0, .int .i64 0, .int .i64 0, .bool false, .slice none 0 0, .int .i64 0, .int .i64 0, .int .i64 0, .int .i64 0, .bool false, .slice none 0 0, .int .i64 0, .int .i64 0, .int .i64 0, .int .i64 0, .bool false, .slice none 0 0, .int .i64 0, .int .i64 0, .int .i64 0, .int .i64 0] 32)
  have hk2 := (hk2.below hb2 hk2.size).below hba (Nat.lt_of_lt_of_le hk2.size hb2.size)
  have hk3 : Blk (w2.alloc (.cells #[.bool false, .slice none 0 0, .int .i64 0, .int .i64 0, .int .i64 0, .int .i64 0, .bool false, .slice none 0 0, .int .i64 0, .int .i64 0, .int .i64 0, .int .i64 0, .bool false, .slice none 0 0, .int .i64 0, .int .i64 0, .int .i64 0, .int .i64 0, .bool false, .slice none 0 0, .int .i64 0, .int .i64 0, .int .i64 0, .int .i64 0] 32)) w2.heap.size 32 (scs zeroL) := Blk.made w2 32 (scs zeroL)
  have hz2 : (scs M2).size = 24 := scs_size h42
  have hi2 : (Try.prog.info? 32).map (·.size) = some (scs M2).size := by rw [hz2]; rfl
  have ho2 := scs_one h42
  have hk3' := hk3.row (scs M2)
  have hk2' := hk2.row_other (k := w2.heap.size) (by omega) (scs M2)
  have hT2 := (((hT1.below hb2).below hba).rowS hk3 (by omega) (scs M2)).rowS hk2' (by omega) (scs M2)
  have hM3 := ((hM2.below hba).rowS hk3 (scs M2)).rowS hk2' (scs M2)
  have hwl : w.heap.size ≤ w2.heap.size := by omega
  have hon := (((((Only.of_below (g := g) (ob := none) hb).trans hn1).trans (Only.of_below hb2)).trans (Only.of_below hba)).farRow hwl (scs M2)).farRow (Nat.le_add_right _ 2) (scs M2)
  clear n0 n1 n2 n3 n4 n5 n6
  go_wp2_with (first
    | (refine wpList_store_row rfl _ _ _ rfl w2.heap.size (scs M2) rfl rfl _ _ hk3.out hi2 (by rw [hz1, hz2]) ho2 ?_)
    | (refine wpList_load_row rfl _ _ rfl w2.heap.size rfl _ (scs M2) _ _ hk3'.out Try.underlying32 rfl hi2 ?_)
    | (refine wpList_store_row rfl _ _ _ rfl (w.heap.size + 2) (scs M2) rfl rfl _ _ hk2'.out hi2 (by rw [hz1, hz2]) ho2 ?_))
  refine bodyPost_ret (results_cell_pair rfl _ _ (w.heap.size + 2) _ _ _ _ rfl (hk2'.row (scs M2)).out Try.underlying32 rfl hi2) rfl ?_
  exact ⟨L1, M2, rfl, ⟨hT2, h42, hc2.trans hc1.symm, hM3, by rw [hc1]; exact hzr⟩, hc1, hon⟩
set_option maxHeartbeats 1000000 in
theorem do_reset (g : Nat) (L M : List Ln) (o : Op37) (w : World) (hB : Both w g L M) (hx : RB w o.A o.x) (ho : o.op = 4) :
    Calls Try.prog 10 #[.pointer (some ⟨g, 0, none⟩), .agg (scs M), .agg (opCells o).toArray] w (DidB g (stepC (chs L) o) w) := by
  have hr : stepC (chs L) o = firstC := by unfold stepC; rw [if_neg (by rw [ho]; decide), if_neg (by rw [ho]; decide), if_neg (by rw [ho]; decide), if_neg (by rw [ho]; decide), if_pos ho]
  have hzr : open0 (firstC) := by rw [← hr]; exact open0_step hB.zero o
  rw [hr]
  have hT := hB.tab
  have h4 := hB.len
  have hk0 : Blk (((w.alloc (.cells (scs M) 32)).alloc (.cells #[.int .i64 o.op, .int .i64 o.n, .slice o.A o.x.length o.c, .int .i64 o.t.p, .int .i64 o.t.k, .int .i64 o.t.s, .int .i64 o.t.l] 37)).alloc (.cells #[.bool false, .slice none 0 0, .int .i64 0, .int .i64 0, .int .i64 0, .int .i64 0, .bool false, .slice none 0 0, .int .i64 0, .int .i64 0, .int .i64 0, .int .i64 0, .bool false, .slice none 0 0, .int .i64 0, .int .i64 0, .int .i64 0, .int .i64 0, .bool false, .slice none 0 0, .int .i64 0, .int .i64 0, .int .i64 0, .int .i64 0] 32)) w.heap.size 32 (scs M) := ((Blk.made w 32 (scs M)).alloc _).alloc _
  have hk1 : Blk (((w.alloc (.cells (scs M) 32)).alloc (.cells #[.int .i64 o.op, .int .i64 o.n, .slice o.A o.x.length o.c, .int .i64 o.t.p, .int .i64 o.t.k, .int .i64 o.t.s, .int .i64 o.t.l] 37)).alloc (.cells #[.bool false, .slice none 0 0, .int .i64 0, .int .i64 0, .int .i64 0, .int .i64 0, .bool false, .slice none 0 0, .int .i64 0, .int .i64 0, .int .i64 0, .int .i64 0, .bool false, .slice none 0 0, .int .i64 0, .int .i64 0, .int .i64 0, .int .i64 0, .bool false, .slice none 0 0, .int .i64 0, .int .i64 0, .int .i64 0, .int .i64 0] 32)) (w.heap.size + 1) 37 #[.int .i64 o.op, .int .i64 o.n, .slice o.A o.x.length o.c, .int .i64 o.t.p, .int .i64 o.t.k, .int .i64 o.t.s, .int .i64 o.t.l] := by
    have h := (Blk.made (w.alloc (.cells (scs M) 32)) 37 #[.int .i64 o.op, .int .i64 o.n, .slice o.A o.x.length o.c, .int .i64 o.t.p, .int .i64 o.t.k, .int .i64 o.t.s, .int .i64 o.t.l]).alloc (.cells (scs zeroL) 32)
    rw [show (w.alloc (.cells (scs M) 32)).heap.size = w.heap.size + 1 from by simp] at h
    exact h
  have hk2 : Blk (((w.alloc (.cells (scs M) 32)).alloc (.cells #[.int .i64 o.op, .int .i64 o.n, .slice o.A o.x.length o.c, .int .i64 o.t.p, .int .i64 o.t.k, .int .i64 o.t.s, .int .i64 o.t.l] 37)).alloc (.cells #[.bool false, .slice none 0 0, .int .i64 0, .int .i64 0, .int .i64 0, .int .i64 0, .bool false, .slice none 0 0, .int .i64 0, .int .i64 0, .int .i64 0, .int .i64 0, .bool false, .slice none 0 0, .int .i64 0, .int .i64 0, .int .i64 0, .int .i64 0, .bool false, .slice none 0 0, .int .i64 0, .int .i64 0, .int .i64 0, .int .i64 0] 32)) (w.heap.size + 2) 32 (scs zeroL) := by
    have h := Blk.made ((w.alloc (.cells (scs M) 32)).alloc (.cells #[.int .i64 o.op, .int .i64 o.n, .slice o.A o.x.length o.c, .int .i64 o.t.p, .int .i64 o.t.k, .int .i64 o.t.s, .int .i64 o.t.l] 37)) 32 (scs zeroL)
    rw [show ((w.alloc (.cells (scs M) 32)).alloc (.cells #[.int .i64 o.op, .int .i64 o.n, .slice o.A o.x.length o.c, .int .i64 o.t.p, .int .i64 o.t.k, .int .i64 o.t.s, .int .i64 o.t.l] 37)).heap.size = w.heap.size + 2 from by simp] at h
    exact h
  have hb : Below w.heap.size w (((w.alloc (.cells (scs M) 32)).alloc (.cells #[.int .i64 o.op, .int .i64 o.n, .slice o.A o.x.length o.c, .int .i64 o.t.p, .int .i64 o.t.k, .int .i64 o.t.s, .int .i64 o.t.l] 37)).alloc (.cells #[.bool false, .slice none 0 0, .int .i64 0, .int .i64 0, .int .i64 0, .int .i64 0, .bool false, .slice none 0 0, .int .i64 0, .int .i64 0, .int .i64 0, .int .i64 0, .bool false, .slice none 0 0, .int .i64 0, .int .i64 0, .int .i64 0, .int .i64 0, .bool false, .slice none 0 0, .int .i64 0, .int .i64 0, .int .i64 0, .int .i64 0] 32)) := (((Below.refl w.heap.size w).alloc (Nat.le_refl _) _).alloc (by simp) _).alloc (by simp; omega) _
  obtain ⟨W0, hW0⟩ : ∃ W0 : World, W0 = (((w.alloc (.cells (scs M) 32)).alloc (.cells #[.int .i64 o.op, .int .i64 o.n, .slice o.A o.x.length o.c, .int .i64 o.t.p, .int .i64 o.t.k, .int .i64 o.t.s, .int .i64 o.t.l] 37)).alloc (.cells #[.bool false, .slice none 0 0, .int .i64 0, .int .i64 0, .int .i64 0, .int .i64 0, .bool false, .slice none 0 0, .int .i64 0, .int .i64 0, .int .i64 0, .int .i64 0, .bool false, .slice none 0 0, .int .i64 0, .int .i64 0, .int .i64 0, .int .i64 0, .bool false, .slice none 0 0, .int .i64 0, .int .i64 0, .int .i64 0, .int .i64 0] 32)) := ⟨_, rfl⟩
  rw [← hW0] at hk0 hk1 hk2 hb
  have hz0 : (scs M).size = 24 := scs_size h4
  have hz1 : (scs zeroL).size = 24 := rfl
  have hi0 : (Try.prog.info? 32).map (·.size) = some (scs M).size := by rw [hz0]; rfl
  have ho0 := scs_one h4
  have hgs := hT.1.size
  have hT0 := hT.below hb
  have hM0 := hB.lns.below hb
  have hx0 := hx.below hb
  have hLM := hB.same
  have hZ := hB.zero
  have n0 : W0.cell? ⟨w.heap.size + 1, 0, none⟩ = some (.int .i64 o.op) := hk1.cell 0
  have n1 : W0.cell? ⟨w.heap.size + 1, 1, none⟩ = some (.int .i64 o.n) := hk1.cell 1
  have n2 : W0.cell? ⟨w.heap.size + 1, 2, none⟩ = some (.slice o.A o.x.length o.c) := hk1.cell 2
  have n3 : W0.cell? ⟨w.heap.size + 1, 3, none⟩ = some (.int .i64 o.t.p) := hk1.cell 3
  have n4 : W0.cell? ⟨w.heap.size + 1, 3 + 1, none⟩ = some (.int .i64 o.t.k) := hk1.cell 4
  have n5 : W0.cell? ⟨w.heap.size + 1, 3 + 2, none⟩ = some (.int .i64 o.t.s) := hk1.cell 5
  have n6 : W0.cell? ⟨w.heap.size + 1, 3 + 3, none⟩ = some (.int .i64 o.t.l) := hk1.cell 6
  unfold opCells
  have hq := reset_any g L W0 hT0
  rw [ho] at n0
  rw [ho]
  go_enter Try.func10, Try.ntmps10
  go_upto_region 1 with fail
  rw [ho] at hW0
  rw [← hW0]
  clear hW0
  go_wp2_with fail
  refine hq.mono ?_
  clear hq
  rintro e w1 ⟨rfl, hT1, hn1⟩
  have hk0 := hk0.only hn1 (by omega)
  have hk2 := hk2.only hn1 (by omega)
  go_wp2_with fail
  refine (first_any w1).mono ?_
  rintro e w2 ⟨rfl, hb2⟩
  have hk0 := hk0.below hb2 hk0.size
  have hk2 := hk2.below hb2 hk2.size
  have hz2 : (scs firstL).size = 24 := rfl
  have hi2 : (Try.prog.info? 32).map (·.size) = some (scs firstL).size := rfl
  have ho2 := scs_one (M := firstL) rfl
  have hk0' := hk0.row (scs firstL)
  have hk2' := hk2.row_other (k := w.heap.size) (by omega) (scs firstL)
  have hT2 := ((hT1.below hb2).rowS hk0 (by omega) (scs firstL)).rowS hk2' (by omega) (scs firstL)
  have hon := ((((Only.of_below (g := g) (ob := none) hb).trans hn1).trans (Only.of_below hb2)).farRow (Nat.le_refl _) (scs firstL)).farRow (Nat.le_add_right _ 2) (scs firstL)
  clear n0 n1 n2 n3 n4 n5 n6
  go_wp2_with (first
    | (refine wpList_store_row rfl _ _ _ rfl w.heap.size (scs firstL) rfl rfl _ _ hk0.out hi2 (by rw [hz0, hz2]) ho2 ?_)
    | (refine wpList_load_row rfl _ _ rfl w.heap.size rfl _ (scs firstL) _ _ hk0'.out Try.underlying32 rfl hi2 ?_)
    | (refine wpList_store_row rfl _ _ _ rfl (w.heap.size + 2) (scs firstL) rfl rfl _ _ hk2'.out hi2 (by rw [hz1, hz2]) ho2 ?_))
  refine bodyPost_ret (results_cell_pair rfl _ _ (w.heap.size + 2) _ _ _ _ rfl (hk2'.row (scs firstL)).out Try.underlying32 rfl hi2) rfl ?_
  exact ⟨firstL, firstL, rfl, ⟨hT2, rfl, rfl, fun x hx => by
    simp only [firstL, List.mem_cons, List.not_mem_nil, or_false] at hx
    rcases hx with rfl | rfl | rfl | rfl <;> exact ⟨RB.nil _ _, by decide⟩, hzr⟩, rfl, hon⟩
set_option maxHeartbeats 1000000 in
theorem do_none (g : Nat) (L M : List Ln) (o : Op37) (w : World) (hB : Both w g L M) (hx : RB w o.A o.x) (ho : o.op ≠ 0 ∧ o.op ≠ 1 ∧ o.op ≠ 2 ∧ o.op ≠ 3 ∧ o.op ≠ 4) :
    Calls Try.prog 10 #[.pointer (some ⟨g, 0, none⟩), .agg (scs M), .agg (opCells o).toArray] w (DidB g (stepC (chs L) o) w) := by
  have hr : stepC (chs L) o = chs L := by unfold stepC; rw [if_neg ho.1, if_neg ho.2.1, if_neg ho.2.2.1, if_neg ho.2.2.2.1, if_neg ho.2.2.2.2]
  have hzr : open0 (chs L) := by rw [← hr]; exact open0_step hB.zero o
  rw [hr]
  have hT := hB.tab
  have h4 := hB.len
  have hk0 : Blk (((w.alloc (.cells (scs M) 32)).alloc (.cells #[.int .i64 o.op, .int .i64 o.n, .slice o.A o.x.length o.c, .int .i64 o.t.p, .int .i64 o.t.k, .int .i64 o.t.s, .int .i64 o.t.l] 37)).alloc (.cells #[.bool false, .slice none 0 0, .int .i64 0, .int .i64 0, .int .i64 0, .int .i64 0, .bool false, .slice none 0 0, .int .i64 0, .int .i64 0, .int .i64 0, .int .i64 0, .bool false, .slice none 0 0, .int .i64 0, .int .i64 0, .int .i64 0, .int .i64 0, .bool false, .slice none 0 0, .int .i64 0, .int .i64 0, .int .i64 0, .int .i64 0] 32)) w.heap.size 32 (scs M) := ((Blk.made w 32 (scs M)).alloc _).alloc _
  have hk1 : Blk (((w.alloc (.cells (scs M) 32)).alloc (.cells #[.int .i64 o.op, .int .i64 o.n, .slice o.A o.x.length o.c, .int .i64 o.t.p, .int .i64 o.t.k, .int .i64 o.t.s, .int .i64 o.t.l] 37)).alloc (.cells #[.bool false, .slice none 0 0, .int .i64 0, .int .i64 0, .int .i64 0, .int .i64 0, .bool false, .slice none 0 0, .int .i64 0, .int .i64 0, .int .i64 0, .int .i64 0, .bool false, .slice none 0 0, .int .i64 0, .int .i64 0, .int .i64 0, .int .i64 0, .bool false, .slice none 0 0, .int .i64 0, .int .i64 0, .int .i64 0, .int .i64 0] 32)) (w.heap.size + 1) 37 #[.int .i64 o.op, .int .i64 o.n, .slice o.A o.x.length o.c, .int .i64 o.t.p, .int .i64 o.t.k, .int .i64 o.t.s, .int .i64 o.t.l] := by
    have h := (Blk.made (w.alloc (.cells (scs M) 32)) 37 #[.int .i64 o.op, .int .i64 o.n, .slice o.A o.x.length o.c, .int .i64 o.t.p, .int .i64 o.t.k, .int .i64 o.t.s, .int .i64 o.t.l]).alloc (.cells (scs zeroL) 32)
    rw [show (w.alloc (.cells (scs M) 32)).heap.size = w.heap.size + 1 from by simp] at h
    exact h
  have hk2 : Blk (((w.alloc (.cells (scs M) 32)).alloc (.cells #[.int .i64 o.op, .int .i64 o.n, .slice o.A o.x.length o.c, .int .i64 o.t.p, .int .i64 o.t.k, .int .i64 o.t.s, .int .i64 o.t.l] 37)).alloc (.cells #[.bool false, .slice none 0 0, .int .i64 0, .int .i64 0, .int .i64 0, .int .i64 0, .bool false, .slice none 0 0, .int .i64 0, .int .i64 0, .int .i64 0, .int .i64 0, .bool false, .slice none 0 0, .int .i64 0, .int .i64 0, .int .i64 0, .int .i64 0, .bool false, .slice none 0 0, .int .i64 0, .int .i64 0, .int .i64 0, .int .i64 0] 32)) (w.heap.size + 2) 32 (scs zeroL) := by
    have h := Blk.made ((w.alloc (.cells (scs M) 32)).alloc (.cells #[.int .i64 o.op, .int .i64 o.n, .slice o.A o.x.length o.c, .int .i64 o.t.p, .int .i64 o.t.k, .int .i64 o.t.s, .int .i64 o.t.l] 37)) 32 (scs zeroL)
    rw [show ((w.alloc (.cells (scs M) 32)).alloc (.cells #[.int .i64 o.op, .int .i64 o.n, .slice o.A o.x.length o.c, .int .i64 o.t.p, .int .i64 o.t.k, .int .i64 o.t.s, .int .i64 o.t.l] 37)).heap.size = w.heap.size + 2 from by simp] at h
    exact h
  have hb : Below w.heap.size w (((w.alloc (.cells (scs M) 32)).alloc (.cells #[.int .i64 o.op, .int .i64 o.n, .slice o.A o.x.length o.c, .int .i64 o.t.p, .int .i64 o.t.k, .int .i64 o.t.s, .int .i64 o.t.l] 37)).alloc (.cells #[.bool false, .slice none 0 0, .int .i64 0, .int .i64 0, .int .i64 0, .int .i64 0, .bool false, .slice none 0 0, .int .i64 0, .int .i64 0, .int .i64 0, .int .i64 0, .bool false, .slice none 0 0, .int .i64 0, .int .i64 0, .int .i64 0, .int .i64 0, .bool false, .slice none 0 0, .int .i64 0, .int .i64 0, .int .i64 0, .int .i64 0] 32)) := (((Below.refl w.heap.size w).alloc (Nat.le_refl _) _).alloc (by simp) _).alloc (by simp; omega) _
  obtain ⟨W0, hW0⟩ : ∃ W0 : World, W0 = (((w.alloc (.cells (scs M) 32)).alloc (.cells #[.int .i64 o.op, .int .i64 o.n, .slice o.A o.x.length o.c, .int .i64 o.t.p, .int .i64 o.t.k, .int .i64 o.t.s, .int .i64 o.t.l] 37)).alloc (.cells #[.bool false, .slice none 0 0, .int .i64 0, .int .i64 0, .int .i64 0, .int .i64 0, .bool false, .slice none 0 0, .int .i64 0, .int .i64 0, .int .i64 0, .int .i64 0, .bool false, .slice none 0 0, .int .i64 0, .int .i64 0, .int .i64 0, .int .i64 0, .bool false, .slice none 0 0, .int .i64 0, .int .i64 0, .int .i64 0, .int .i64 0] 32)) := ⟨_, rfl⟩
  rw [← hW0] at hk0 hk1 hk2 hb
  have hz0 : (scs M).size = 24 := scs_size h4
  have hz1 : (scs zeroL).size = 24 := rfl
  have hi0 : (Try.prog.info? 32).map (·.size) = some (scs M).size := by rw [hz0]; rfl
  have ho0 := scs_one h4
  have hgs := hT.1.size
  have hT0 := hT.below hb
  have hM0 := hB.lns.below hb
  have hx0 := hx.below hb
  have hLM := hB.same
  have hZ := hB.zero
  have n0 : W0.cell? ⟨w.heap.size + 1, 0, none⟩ = some (.int .i64 o.op) := hk1.cell 0
  have n1 : W0.cell? ⟨w.heap.size + 1, 1, none⟩ = some (.int .i64 o.n) := hk1.cell 1
  have n2 : W0.cell? ⟨w.heap.size + 1, 2, none⟩ = some (.slice o.A o.x.length o.c) := hk1.cell 2
  have n3 : W0.cell? ⟨w.heap.size + 1, 3, none⟩ = some (.int .i64 o.t.p) := hk1.cell 3
  have n4 : W0.cell? ⟨w.heap.size + 1, 3 + 1, none⟩ = some (.int .i64 o.t.k) := hk1.cell 4
  have n5 : W0.cell? ⟨w.heap.size + 1, 3 + 2, none⟩ = some (.int .i64 o.t.s) := hk1.cell 5
  have n6 : W0.cell? ⟨w.heap.size + 1, 3 + 3, none⟩ = some (.int .i64 o.t.l) := hk1.cell 6
  unfold opCells
  obtain ⟨h0, h1, h2, h3, h5⟩ := ho
  go_enter Try.func10, Try.ntmps10
  go_upto_region 1 with fail
  rw [← hW0]
  clear hW0
  have hT2 := hT0.rowS hk2 (by omega) (scs M)
  have hM3 := hM0.rowS hk2 (scs M)
  have hon := (Only.of_below (g := g) (ob := none) hb).farRow (Nat.le_add_right _ 2) (scs M)
  go_wp2_with (first
    | (refine wpList_load_row rfl _ _ rfl w.heap.size rfl _ (scs M) _ _ hk0.out Try.underlying32 rfl hi0 ?_)
    | (refine wpList_store_row rfl _ _ _ rfl (w.heap.size + 2) (scs M) rfl rfl _ _ hk2.out hi0 (by rw [hz1, hz0]) ho0 ?_))
  refine bodyPost_ret (results_cell_pair rfl _ _ (w.heap.size + 2) _ _ _ _ rfl (hk2.row (scs M)).out Try.underlying32 rfl hi0) rfl ?_
  exact ⟨L, M, rfl, ⟨hT2, h4, hLM, hM3, hzr⟩, rfl, hon⟩
theorem do_any (g : Nat) (L M : List Ln) (o : Op37) (w : World) (hB : Both w g L M) (hx : RB w o.A o.x) :
    Calls Try.prog 10 #[.pointer (some ⟨g, 0, none⟩), .agg (scs M), .agg (opCells o).toArray] w (DidB g (stepC (chs L) o) w) := by
  by_cases h0 : o.op = 0
  · exact do_open g L M o w hB hx h0
  · by_cases h1 : o.op = 1
    · exact do_close g L M o w hB hx h1
    · by_cases h2 : o.op = 2
      · exact do_app g L M o w hB hx h2
      · by_cases h3 : o.op = 3
        · exact do_sec g L M o w hB hx h3
        · by_cases h4 : o.op = 4
          · exact do_reset g L M o w hB hx h4
          · exact do_none g L M o w hB hx ⟨h0, h1, h2, h3, h4⟩
end Go.Proofs.Ytpbgfiaaechiaaa
