/-
  The channels' reference: App, Security, SetSecurity.
-/
import Derived.Test.YtpbgfiaaechiaaaRefB37
namespace Go.Proofs.Ytpbgfiaaechiaaa
open Go.RowKit
set_option linter.unusedVariables false

theorem refApp_any (M : List Ln) (n : Int) (w : World) (h4 : M.length = 4) (hM : LnsIn w M) :
    Calls Try.prog 36 #[.agg (scs M), .int .i64 n] w fun e w' => ∃ A c, e = .returned (.slice A (appOf (chs M) n).length c) ∧ RB w' A (appOf (chs M) n) ∧ Below w.heap.size w w' := by
  have hk0 : Blk (w.alloc (.cells (scs M) 32)) w.heap.size 32 (scs M) := Blk.made w 32 (scs M)
  have hb : Below w.heap.size w (w.alloc (.cells (scs M) 32)) := (Below.refl w.heap.size w).alloc (Nat.le_refl _) _
  have hs0 : w.heap.size < (w.alloc (.cells (scs M) 32)).heap.size := by simp
  obtain ⟨W0, hW0⟩ : ∃ W0 : World, W0 = (w.alloc (.cells (scs M) 32)) := ⟨_, rfl⟩
  rw [← hW0] at hk0 hb hs0
  have hz0 : (scs M).size = 24 := scs_size h4
  have hi0 : (Try.prog.info? 32).map (·.size) = some (scs M).size := by rw [hz0]; rfl
  by_cases hz : whichC (chs M) n = 0
  · obtain ⟨k, hk, rfl, ho⟩ := which_zero h4 hz
    rw [appOf_in hk h4 ho]
    have hk4 : (k : Int) < 4 := by omega
    go_enter Try.func36, Try.ntmps36
    go_upto_region 1 with fail
    rw [← hW0]
    clear hW0
    go_wp2_with (refine wpList_load_row rfl _ _ rfl w.heap.size rfl _ (scs M) _ _ hk0.out Try.underlying32 rfl hi0 ?_)
    refine (refIsOpen_any M k W0 h4).mono ?_
    rintro e w1 ⟨rfl, hb1⟩
    rw [decide_eq_true hz]
    have hk1 := hk0.below hb1 hk0.size
    have c1 : w1.cell? ⟨w.heap.size, k * 6 + 1, none⟩ = some (.slice M[k].A M[k].ch.app.length M[k].c) := scs_cell hk1 k 1 hk (by omega)
    have hbe := hb.trans (hb1.mono hb.size)
    go_wp2
    go_ret
    exact ⟨M[k].A, M[k].c, rfl, (hM.below hbe _ (List.getElem_mem hk)).1, hbe⟩
  · rw [appOf_out hz]
    go_enter Try.func36, Try.ntmps36
    go_upto_region 1 with fail
    rw [← hW0]
    clear hW0
    go_wp2_with (refine wpList_load_row rfl _ _ rfl w.heap.size rfl _ (scs M) _ _ hk0.out Try.underlying32 rfl hi0 ?_)
    refine (refIsOpen_any M n W0 h4).mono ?_
    rintro e w1 ⟨rfl, hb1⟩
    rw [decide_eq_false hz]
    have hbe := hb.trans (hb1.mono hb.size)
    go_wp2
    go_ret
    exact ⟨none, 0, rfl, RB.nil _ _, hbe⟩
theorem refSecurity_any (M : List Ln) (n : Int) (w : World) (h4 : M.length = 4) :
    Calls Try.prog 37 #[.agg (scs M), .int .i64 n] w fun e w' =>
      e = .returned (.agg (secCs (secOf (chs M) n).1 (secOf (chs M) n).2.1 (secOf (chs M) n).2.2.1 (secOf (chs M) n).2.2.2)) ∧ Below w.heap.size w w' := by
  have hk0 : Blk ((w.alloc (.cells (scs M) 32)).alloc (.cells #[.int .i64 0, .int .i64 0, .int .i64 0, .int .i64 0] 27)) w.heap.size 32 (scs M) := (Blk.made w 32 (scs M)).alloc _
  have hk1 : Blk ((w.alloc (.cells (scs M) 32)).alloc (.cells #[.int .i64 0, .int .i64 0, .int .i64 0, .int .i64 0] 27)) (w.heap.size + 1) 27 #[.int .i64 0, .int .i64 0, .int .i64 0, .int .i64 0] := by
    have h := Blk.made (w.alloc (.cells (scs M) 32)) 27 #[.int .i64 0, .int .i64 0, .int .i64 0, .int .i64 0]
    rw [show (w.alloc (.cells (scs M) 32)).heap.size = w.heap.size + 1 from by simp] at h
    exact h
  have hb : Below w.heap.size w ((w.alloc (.cells (scs M) 32)).alloc (.cells #[.int .i64 0, .int .i64 0, .int .i64 0, .int .i64 0] 27)) := ((Below.refl w.heap.size w).alloc (Nat.le_refl _) _).alloc (by simp) _
  obtain ⟨W0, hW0⟩ : ∃ W0 : World, W0 = ((w.alloc (.cells (scs M) 32)).alloc (.cells #[.int .i64 0, .int .i64 0, .int .i64 0, .int .i64 0] 27)) := ⟨_, rfl⟩
  rw [← hW0] at hk0 hk1 hb
  have hz0 : (scs M).size = 24 := scs_size h4
  have hi0 : (Try.prog.info? 32).map (·.size) = some (scs M).size := by rw [hz0]; rfl
  by_cases hz : whichC (chs M) n = 0
  · obtain ⟨k, hk, rfl, ho⟩ := which_zero h4 hz
    rw [secOf_in hk h4 ho]
    have hk4 : (k : Int) < 4 := by omega
    go_enter Try.func37, Try.ntmps37
    go_upto_region 1 with fail
    rw [← hW0]
    clear hW0
    go_wp2_with (refine wpList_load_row rfl _ _ rfl w.heap.size rfl _ (scs M) _ _ hk0.out Try.underlying32 rfl hi0 ?_)
    refine (refIsOpen_any M k W0 h4).mono ?_
    rintro e w1 ⟨rfl, hb1⟩
    rw [decide_eq_true hz]
    have hk2 := hk0.below hb1 hk0.size
    have hk3 := hk1.below hb1 hk1.size
    have c2 : w1.cell? ⟨w.heap.size, k * 6 + 2, none⟩ = some (.int .i64 M[k].ch.p) := scs_cell hk2 k 2 hk (by omega)
    have c3 : w1.cell? ⟨w.heap.size, k * 6 + 2 + 1, none⟩ = some (.int .i64 M[k].ch.k) := scs_cell hk2 k 3 hk (by omega)
    have c4 : w1.cell? ⟨w.heap.size, k * 6 + 2 + 2, none⟩ = some (.int .i64 M[k].ch.s) := scs_cell hk2 k 4 hk (by omega)
    have c5 : w1.cell? ⟨w.heap.size, k * 6 + 2 + 3, none⟩ = some (.int .i64 M[k].ch.l) := scs_cell hk2 k 5 hk (by omega)
    have n0 : w1.cell? ⟨w.heap.size + 1, 0, none⟩ = some (.int .i64 0) := hk3.cell 0
    have n1 : w1.cell? ⟨w.heap.size + 1, 1, none⟩ = some (.int .i64 0) := hk3.cell 1
    have n2 : w1.cell? ⟨w.heap.size + 1, 2, none⟩ = some (.int .i64 0) := hk3.cell 2
    have n3 : w1.cell? ⟨w.heap.size + 1, 3, none⟩ = some (.int .i64 0) := hk3.cell 3
    have f := hk3.free
    have k2 : Blk _ _ _ (secCs M[k].ch.p M[k].ch.k M[k].ch.s M[k].ch.l) := (((hk3.put 0 (.int .i64 M[k].ch.p)).put 1 (.int .i64 M[k].ch.k)).put 2 (.int .i64 M[k].ch.s)).put 3 (.int .i64 M[k].ch.l)
    have hbe := ((((hb.trans (hb1.mono hb.size)).setCell (p := ⟨w.heap.size + 1, 0, none⟩) (by simp) (.int .i64 M[k].ch.p)).setCell (p := ⟨w.heap.size + 1, 1, none⟩) (by simp) (.int .i64 M[k].ch.k)).setCell (p := ⟨w.heap.size + 1, 2, none⟩) (by simp) (.int .i64 M[k].ch.s)).setCell (p := ⟨w.heap.size + 1, 3, none⟩) (by simp) (.int .i64 M[k].ch.l)
    go_wp2
    refine bodyPost_ret (results_cell_one rfl _ _ (w.heap.size + 1) _ _ _ _ rfl k2.out Try.underlying27 rfl sec_info) rfl ?_
    exact ⟨rfl, hbe⟩
  · have hs : secOf (chs M) n = (0, 0, 0, 0) := by unfold secOf; rw [if_neg hz]
    rw [hs]
    go_enter Try.func37, Try.ntmps37
    go_upto_region 1 with fail
    rw [← hW0]
    clear hW0
    go_wp2_with (refine wpList_load_row rfl _ _ rfl w.heap.size rfl _ (scs M) _ _ hk0.out Try.underlying32 rfl hi0 ?_)
    refine (refIsOpen_any M n W0 h4).mono ?_
    rintro e w1 ⟨rfl, hb1⟩
    rw [decide_eq_false hz]
    have hk3 := hk1.below hb1 hk1.size
    have n0 : w1.cell? ⟨w.heap.size + 1, 0, none⟩ = some (.int .i64 0) := hk3.cell 0
    have n1 : w1.cell? ⟨w.heap.size + 1, 1, none⟩ = some (.int .i64 0) := hk3.cell 1
    have n2 : w1.cell? ⟨w.heap.size + 1, 2, none⟩ = some (.int .i64 0) := hk3.cell 2
    have n3 : w1.cell? ⟨w.heap.size + 1, 3, none⟩ = some (.int .i64 0) := hk3.cell 3
    have f := hk3.free
    have k2 : Blk _ _ _ (secCs 0 0 0 0) := (((hk3.put 0 (.int .i64 0)).put 1 (.int .i64 0)).put 2 (.int .i64 0)).put 3 (.int .i64 0)
    have hbe := ((((hb.trans (hb1.mono hb.size)).setCell (p := ⟨w.heap.size + 1, 0, none⟩) (by simp) (.int .i64 0)).setCell (p := ⟨w.heap.size + 1, 1, none⟩) (by simp) (.int .i64 0)).setCell (p := ⟨w.heap.size + 1, 2, none⟩) (by simp) (.int .i64 0)).setCell (p := ⟨w.heap.size + 1, 3, none⟩) (by simp) (.int .i64 0)
    go_wp2
    refine bodyPost_ret (results_cell_one rfl _ _ (w.heap.size + 1) _ _ _ _ rfl k2.out Try.underlying27 rfl sec_info) rfl ?_
    exact ⟨rfl, hbe⟩
set_option maxHeartbeats 1000000 in
theorem refSetSec_any (M : List Ln) (n p q s l : Int) (w : World) (h4 : M.length = 4) (hM : LnsIn w M) :
    Calls Try.prog 28 #[.agg (scs M), .int .i64 n, .agg (secCs p q s l)] w (DidR (setSecC (chs M) n p q s l) w) := by
  have hk0 : Blk (((w.alloc (.cells (scs M) 32)).alloc (.cells #[.int .i64 p, .int .i64 q, .int .i64 s, .int .i64 l] 27)).alloc (.cells #[.bool false, .slice none 0 0, .int .i64 0, .int .i64 0, .int .i64 0, .int .i64 0, .bool false, .slice none 0 0, .int .i64 0, .int .i64 0, .int .i64 0, .int .i64 0, .bool false, .slice none 0 0, .int .i64 0, .int .i64 0, .int .i64 0, .int .i64 0, .bool false, .slice none 0 0, .int .i64 0, .int .i64 0, .int .i64 0, .int .i64 0] 32)) w.heap.size 32 (scs M) := ((Blk.made w 32 (scs M)).alloc _).alloc _
  have hk1 : Blk (((w.alloc (.cells (scs M) 32)).alloc (.cells #[.int .i64 p, .int .i64 q, .int .i64 s, .int .i64 l] 27)).alloc (.cells #[.bool false, .slice none 0 0, .int .i64 0, .int .i64 0, .int .i64 0, .int .i64 0, .bool false, .slice none 0 0, .int .i64 0, .int .i64 0, .int .i64 0, .int .i64 0, .bool false, .slice none 0 0, .int .i64 0, .int .i64 0, .int .i64 0, .int .i64 0, .bool false, .slice none 0 0, .int .i64 0, .int .i64 0, .int .i64 0, .int .i64 0] 32)) (w.heap.size + 1) 27 #[.int .i64 p, .int .i64 q, .int .i64 s, .int .i64 l] := by
    have h := (Blk.made (w.alloc (.cells (scs M) 32)) 27 #[.int .i64 p, .int .i64 q, .int .i64 s, .int .i64 l]).alloc (.cells (scs zeroL) 32)
    rw [show (w.alloc (.cells (scs M) 32)).heap.size = w.heap.size + 1 from by simp] at h
    exact h
  have hk2 : Blk (((w.alloc (.cells (scs M) 32)).alloc (.cells #[.int .i64 p, .int .i64 q, .int .i64 s, .int .i64 l] 27)).alloc (.cells #[.bool false, .slice none 0 0, .int .i64 0, .int .i64 0, .int .i64 0, .int .i64 0, .bool false, .slice none 0 0, .int .i64 0, .int .i64 0, .int .i64 0, .int .i64 0, .bool false, .slice none 0 0, .int .i64 0, .int .i64 0, .int .i64 0, .int .i64 0, .bool false, .slice none 0 0, .int .i64 0, .int .i64 0, .int .i64 0, .int .i64 0] 32)) (w.heap.size + 2) 32 (scs zeroL) := by
    have h := Blk.made ((w.alloc (.cells (scs M) 32)).alloc (.cells #[.int .i64 p, .int .i64 q, .int .i64 s, .int .i64 l] 27)) 32 (scs zeroL)
    rw [show ((w.alloc (.cells (scs M) 32)).alloc (.cells #[.int .i64 p, .int .i64 q, .int .i64 s, .int .i64 l] 27)).heap.size = w.heap.size + 2 from by simp] at h
    exact h
  have hb : Below w.heap.size w (((w.alloc (.cells (scs M) 32)).alloc (.cells #[.int .i64 p, .int .i64 q, .int .i64 s, .int .i64 l] 27)).alloc (.cells #[.bool false, .slice none 0 0, .int .i64 0, .int .i64 0, .int .i64 0, .int .i64 0, .bool false, .slice none 0 0, .int .i64 0, .int .i64 0, .int .i64 0, .int .i64 0, .bool false, .slice none 0 0, .int .i64 0, .int .i64 0, .int .i64 0, .int .i64 0, .bool false, .slice none 0 0, .int .i64 0, .int .i64 0, .int .i64 0, .int .i64 0] 32)) := (((Below.refl w.heap.size w).alloc (Nat.le_refl _) _).alloc (by simp) _).alloc (by simp; omega) _
  obtain ⟨W0, hW0⟩ : ∃ W0 : World, W0 = (((w.alloc (.cells (scs M) 32)).alloc (.cells #[.int .i64 p, .int .i64 q, .int .i64 s, .int .i64 l] 27)).alloc (.cells #[.bool false, .slice none 0 0, .int .i64 0, .int .i64 0, .int .i64 0, .int .i64 0, .bool false, .slice none 0 0, .int .i64 0, .int .i64 0, .int .i64 0, .int .i64 0, .bool false, .slice none 0 0, .int .i64 0, .int .i64 0, .int .i64 0, .int .i64 0, .bool false, .slice none 0 0, .int .i64 0, .int .i64 0, .int .i64 0, .int .i64 0] 32)) := ⟨_, rfl⟩
  rw [← hW0] at hk0 hk1 hk2 hb
  have hz0 : (scs M).size = 24 := scs_size h4
  have hz1 : (scs zeroL).size = 24 := rfl
  have hi0 : (Try.prog.info? 32).map (·.size) = some (scs M).size := by rw [hz0]; rfl
  have ho0 := scs_one h4
  unfold secCs
  by_cases hz : whichC (chs M) n = 0
  · obtain ⟨k, hk, rfl, ho⟩ := which_zero h4 hz
    have hr : setSecC (chs M) (k : Int) p q s l = ((chs M).set k ⟨M[k].ch.o, M[k].ch.app, p, q, s, l⟩, 0) := by
      unfold setSecC
      rw [if_pos hz, Int.toNat_natCast, chs_get M k hk]
    rw [hr]
    have hk4 : (k : Int) < 4 := by omega
    obtain ⟨y, hy⟩ : ∃ y : Ln, y = ⟨⟨M[k].ch.o, M[k].ch.app, p, q, s, l⟩, M[k].A, M[k].c⟩ := ⟨_, rfl⟩
    have hyc : lnCells y = [.bool M[k].ch.o, .slice M[k].A M[k].ch.app.length M[k].c, .int .i64 p, .int .i64 q, .int .i64 s, .int .i64 l] := by rw [hy]; rfl
    have HYR : Hid (∀ w', (RB w' M[k].A M[k].ch.app ∧ M[k].ch.app.length ≤ 16) → RB w' y.A y.ch.app ∧ y.ch.app.length ≤ 16) := by rw [hy]; exact fun w' h => h
    have HY := Lib.hid hy
    clear hy
    have hN4 : (M.set k y).length = 4 := by rw [List.length_set]; exact h4
    have hzn : (scs (M.set k y)).size = 24 := scs_size hN4
    have hin : (Try.prog.info? 32).map (·.size) = some (scs (M.set k y)).size := by rw [hzn]; rfl
    have hon := scs_one hN4
    go_enter Try.func28, Try.ntmps28
    go_upto_region 1 with fail
    rw [← hW0]
    clear hW0
    go_wp2_with (refine wpList_load_row rfl _ _ rfl w.heap.size rfl _ (scs M) _ _ hk0.out Try.underlying32 rfl hi0 ?_)
    refine (refWhich_any M k W0 h4).mono ?_
    rintro e w1 ⟨rfl, hb1⟩
    rw [hz]
    have hk0 := hk0.below hb1 hk0.size
    have hk1 := hk1.below hb1 hk1.size
    have hk2 := hk2.below hb1 hk2.size
    have c2 : w1.cell? ⟨w.heap.size, k * 6 + 2, none⟩ = some (.int .i64 M[k].ch.p) := scs_cell hk0 k 2 hk (by omega)
    have c3 : w1.cell? ⟨w.heap.size, k * 6 + 2 + 1, none⟩ = some (.int .i64 M[k].ch.k) := scs_cell hk0 k 3 hk (by omega)
    have c4 : w1.cell? ⟨w.heap.size, k * 6 + 2 + 2, none⟩ = some (.int .i64 M[k].ch.s) := scs_cell hk0 k 4 hk (by omega)
    have c5 : w1.cell? ⟨w.heap.size, k * 6 + 2 + 3, none⟩ = some (.int .i64 M[k].ch.l) := scs_cell hk0 k 5 hk (by omega)
    have n0 : w1.cell? ⟨w.heap.size + 1, 0, none⟩ = some (.int .i64 p) := hk1.cell 0
    have n1 : w1.cell? ⟨w.heap.size + 1, 1, none⟩ = some (.int .i64 q) := hk1.cell 1
    have n2 : w1.cell? ⟨w.heap.size + 1, 2, none⟩ = some (.int .i64 s) := hk1.cell 2
    have n3 : w1.cell? ⟨w.heap.size + 1, 3, none⟩ = some (.int .i64 l) := hk1.cell 3
    have f := hk0.free
    have hn0 := sput4 hk0 h4 hk y (.int .i64 p) (.int .i64 q) (.int .i64 s) (.int .i64 l) hyc
    have hn2 := (((hk2.other (p := ⟨w.heap.size, k * 6 + 2, none⟩) (by simp) (.int .i64 p)).other (p := ⟨w.heap.size, k * 6 + 2 + 1, none⟩) (by simp) (.int .i64 q)).other (p := ⟨w.heap.size, k * 6 + 2 + 2, none⟩) (by simp) (.int .i64 s)).other (p := ⟨w.heap.size, k * 6 + 2 + 3, none⟩) (by simp) (.int .i64 l)
    have hbn := ((((hb.trans (hb1.mono hb.size)).setCell (p := ⟨w.heap.size, k * 6 + 2, none⟩) (by simp) (.int .i64 p)).setCell (p := ⟨w.heap.size, k * 6 + 2 + 1, none⟩) (by simp) (.int .i64 q)).setCell (p := ⟨w.heap.size, k * 6 + 2 + 2, none⟩) (by simp) (.int .i64 s)).setCell (p := ⟨w.heap.size, k * 6 + 2 + 3, none⟩) (by simp) (.int .i64 l)
    obtain ⟨W1, hW1⟩ : ∃ W1 : World, W1 = ((((w1.setCell ⟨w.heap.size, k * 6 + 2, none⟩ (.int .i64 p)).setCell ⟨w.heap.size, k * 6 + 2 + 1, none⟩ (.int .i64 q)).setCell ⟨w.heap.size, k * 6 + 2 + 2, none⟩ (.int .i64 s)).setCell ⟨w.heap.size, k * 6 + 2 + 3, none⟩ (.int .i64 l)) := ⟨_, rfl⟩
    rw [← hW1] at hn0 hn2 hbn
    have hW := Lib.hid hW1
    clear hW1
    have hbe := below_setRow hbn (Nat.le_add_right _ 2) (scs (M.set k y))
    go_upto_region 5 with fail
    rw [← hW.out]
    clear hW c2 c3 c4 c5 n0 n1 n2 n3 f
    go_wp2_with (first
      | (refine wpList_load_row rfl _ _ rfl w.heap.size rfl _ (scs (M.set k y)) _ _ hn0.out Try.underlying32 rfl hin ?_)
      | (refine wpList_store_row rfl _ _ _ rfl (w.heap.size + 2) (scs (M.set k y)) rfl rfl _ _ hn2.out hin (by rw [hz1, hzn]) hon ?_))
    refine bodyPost_ret (results_cell_pair rfl _ _ (w.heap.size + 2) _ _ _ _ rfl (hn2.row (scs (M.set k y))).out Try.underlying32 rfl hin) rfl ?_
    exact ⟨M.set k y, rfl, hN4, by rw [chs_set, HY.out], (hM.below hbe).put k y (HYR.out _ (hM.below hbe _ (List.getElem_mem hk))), hbe⟩
  · have hr : setSecC (chs M) n p q s l = (chs M, whichC (chs M) n) := by unfold setSecC; rw [if_neg hz]
    rw [hr]
    obtain ⟨z, hzz⟩ : ∃ z, whichC (chs M) n = z := ⟨_, rfl⟩
    have hq := refWhich_any M n W0 h4
    rw [hzz] at hz hq ⊢
    clear hzz hr
    go_enter Try.func28, Try.ntmps28
    go_upto_region 1 with fail
    rw [← hW0]
    clear hW0
    go_wp2_with (refine wpList_load_row rfl _ _ rfl w.heap.size rfl _ (scs M) _ _ hk0.out Try.underlying32 rfl hi0 ?_)
    refine hq.mono ?_
    clear hq
    rintro e w1 ⟨rfl, hb1⟩
    have hk0 := hk0.below hb1 hk0.size
    have hk2 := hk2.below hb1 hk2.size
    have hb2 := hb.trans (hb1.mono hb.size)
    have hbe := below_setRow hb2 (Nat.le_add_right _ 2) (scs M)
    go_wp2_with (first
      | (refine wpList_load_row rfl _ _ rfl w.heap.size rfl _ (scs M) _ _ hk0.out Try.underlying32 rfl hi0 ?_)
      | (refine wpList_store_row rfl _ _ _ rfl (w.heap.size + 2) (scs M) rfl rfl _ _ hk2.out hi0 (by rw [hz1, hz0]) ho0 ?_))
    refine bodyPost_ret (results_cell_pair rfl _ _ (w.heap.size + 2) _ _ _ _ rfl (hk2.row (scs M)).out Try.underlying32 rfl hi0) rfl ?_
    exact ⟨M, rfl, h4, rfl, hM.below hbe, hbe⟩
end Go.Proofs.Ytpbgfiaaechiaaa
