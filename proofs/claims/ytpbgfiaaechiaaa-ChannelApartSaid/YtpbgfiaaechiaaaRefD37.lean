/-
  The channels' reference: Open, With, SetApp.
-/
import Derived.Test.YtpbgfiaaechiaaaRefC37
import Derived.Test.YtpbgfiaaechiaaaJoin37
namespace Go.Proofs.Ytpbgfiaaechiaaa
open Go.RowKit
set_option linter.unusedVariables false

theorem loopR {S : List Ch} {n : Int} (h0 : S[0]?.map (·.o) = some true) : freeB S n 0 = false := by
  unfold freeB
  rcases S with _ | ⟨c, S⟩
  · rfl
  · have : c.o = true := by simpa using h0
    simp [this]
set_option maxHeartbeats 1000000 in
theorem refOpen_same (M : List Ln) (n z : Int) (w : World) (h4 : M.length = 4) (hM : LnsIn w M) (hn : ((n < 0 ∨ 4 ≤ n) ∧ z = 2) ∨ (∃ k : Nat, ∃ hk : k < M.length, n = (k : Int) ∧ k ≠ 0 ∧ M[k].ch.o = true ∧ z = 15)) :
    Calls Try.prog 25 #[.agg (scs M), .int .i64 n] w (DidRO (chs M, 0, z) w) := by
  have hk0 : Blk ((w.alloc (.cells (scs M) 32)).alloc (.cells #[.bool false, .slice none 0 0, .int .i64 0, .int .i64 0, .int .i64 0, .int .i64 0, .bool false, .slice none 0 0, .int .i64 0, .int .i64 0, .int .i64 0, .int .i64 0, .bool false, .slice none 0 0, .int .i64 0, .int .i64 0, .int .i64 0, .int .i64 0, .bool false, .slice none 0 0, .int .i64 0, .int .i64 0, .int .i64 0, .int .i64 0] 32)) w.heap.size 32 (scs M) := (Blk.made w 32 (scs M)).alloc _
  have hk1 : Blk ((w.alloc (.cells (scs M) 32)).alloc (.cells #[.bool false, .slice none 0 0, .int .i64 0, .int .i64 0, .int .i64 0, .int .i64 0, .bool false, .slice none 0 0, .int .i64 0, .int .i64 0, .int .i64 0, .int .i64 0, .bool false, .slice none 0 0, .int .i64 0, .int .i64 0, .int .i64 0, .int .i64 0, .bool false, .slice none 0 0, .int .i64 0, .int .i64 0, .int .i64 0, .int .i64 0] 32)) (w.heap.size + 1) 32 (scs zeroL) := by
    have h := Blk.made (w.alloc (.cells (scs M) 32)) 32 (scs zeroL)
    rw [show (w.alloc (.cells (scs M) 32)).heap.size = w.heap.size + 1 from by simp] at h
    exact h
  have hb : Below w.heap.size w ((w.alloc (.cells (scs M) 32)).alloc (.cells #[.bool false, .slice none 0 0, .int .i64 0, .int .i64 0, .int .i64 0, .int .i64 0, .bool false, .slice none 0 0, .int .i64 0, .int .i64 0, .int .i64 0, .int .i64 0, .bool false, .slice none 0 0, .int .i64 0, .int .i64 0, .int .i64 0, .int .i64 0, .bool false, .slice none 0 0, .int .i64 0, .int .i64 0, .int .i64 0, .int .i64 0] 32)) := ((Below.refl w.heap.size w).alloc (Nat.le_refl _) _).alloc (by simp) _
  obtain ⟨W0, hW0⟩ : ∃ W0 : World, W0 = ((w.alloc (.cells (scs M) 32)).alloc (.cells #[.bool false, .slice none 0 0, .int .i64 0, .int .i64 0, .int .i64 0, .int .i64 0, .bool false, .slice none 0 0, .int .i64 0, .int .i64 0, .int .i64 0, .int .i64 0, .bool false, .slice none 0 0, .int .i64 0, .int .i64 0, .int .i64 0, .int .i64 0, .bool false, .slice none 0 0, .int .i64 0, .int .i64 0, .int .i64 0, .int .i64 0] 32)) := ⟨_, rfl⟩
  rw [← hW0] at hk0 hk1 hb
  have hM0 := hM.below hb
  have hz0 : (scs M).size = 24 := scs_size h4
  have hz1 : (scs zeroL).size = 24 := rfl
  have hi0 : (Try.prog.info? 32).map (·.size) = some (scs M).size := by rw [hz0]; rfl
  have ho0 := scs_one h4
  have hbe := below_setRow hb (Nat.le_add_right _ 1) (scs M)
  rcases hn with ⟨hn, rfl⟩ | ⟨k, hk, rfl, k0, ho, rfl⟩
  · rcases hn with hn | hn
    · go_enter Try.func25, Try.ntmps25
      go_upto_region 1 with fail
      rw [← hW0]
      clear hW0
      go_wp2_with (first
        | (refine wpList_load_row rfl _ _ rfl w.heap.size rfl _ (scs M) _ _ hk0.out Try.underlying32 rfl hi0 ?_)
        | (refine wpList_store_row rfl _ _ _ rfl (w.heap.size + 1) (scs M) rfl rfl _ _ hk1.out hi0 (by rw [hz1, hz0]) ho0 ?_))
      refine bodyPost_ret (results_cell_two rfl _ _ (w.heap.size + 1) _ _ _ _ rfl (hk1.row (scs M)).out Try.underlying32 rfl hi0) rfl ?_
      exact ⟨M, rfl, h4, rfl, hM.below hbe, hbe⟩
    · have h1 : ¬ n < 0 := by omega
      go_enter Try.func25, Try.ntmps25
      go_upto_region 1 with fail
      rw [← hW0]
      clear hW0
      go_wp2_with (first
        | (refine wpList_load_row rfl _ _ rfl w.heap.size rfl _ (scs M) _ _ hk0.out Try.underlying32 rfl hi0 ?_)
        | (refine wpList_store_row rfl _ _ _ rfl (w.heap.size + 1) (scs M) rfl rfl _ _ hk1.out hi0 (by rw [hz1, hz0]) ho0 ?_))
      refine bodyPost_ret (results_cell_two rfl _ _ (w.heap.size + 1) _ _ _ _ rfl (hk1.row (scs M)).out Try.underlying32 rfl hi0) rfl ?_
      exact ⟨M, rfl, h4, rfl, hM.below hbe, hbe⟩
  · have h1 : ¬ ((k : Int) < 0) := by omega
    have h2 : ¬ (4 ≤ (k : Int)) := by omega
    have h3 : (k : Int) < 4 := by omega
    have h5 : 0 < (k : Int) := by omega
    have c0 : W0.cell? ⟨w.heap.size, k * 6, none⟩ = some (.bool M[k].ch.o) := scs_cell hk0 k 0 hk (by omega)
    rw [ho] at c0
    go_enter Try.func25, Try.ntmps25
    go_upto_region 1 with fail
    rw [← hW0]
    clear hW0
    go_wp2_with (first
      | (refine wpList_load_row rfl _ _ rfl w.heap.size rfl _ (scs M) _ _ hk0.out Try.underlying32 rfl hi0 ?_)
      | (refine wpList_store_row rfl _ _ _ rfl (w.heap.size + 1) (scs M) rfl rfl _ _ hk1.out hi0 (by rw [hz1, hz0]) ho0 ?_))
    refine bodyPost_ret (results_cell_two rfl _ _ (w.heap.size + 1) _ _ _ _ rfl (hk1.row (scs M)).out Try.underlying32 rfl hi0) rfl ?_
    exact ⟨M, rfl, h4, rfl, hM.below hbe, hbe⟩
set_option maxHeartbeats 2000000 in
theorem refOpen_zero (M : List Ln) (w : World) (h4 : M.length = 4) (hM : LnsIn w M) (hm0 : (chs M)[0]?.map (·.o) = some true) :
    Calls Try.prog 25 #[.agg (scs M), .int .i64 0] w (DidRO (loopO (chs M) 0) w) := by
  have hk0 : Blk ((w.alloc (.cells (scs M) 32)).alloc (.cells #[.bool false, .slice none 0 0, .int .i64 0, .int .i64 0, .int .i64 0, .int .i64 0, .bool false, .slice none 0 0, .int .i64 0, .int .i64 0, .int .i64 0, .int .i64 0, .bool false, .slice none 0 0, .int .i64 0, .int .i64 0, .int .i64 0, .int .i64 0, .bool false, .slice none 0 0, .int .i64 0, .int .i64 0, .int .i64 0, .int .i64 0] 32)) w.heap.size 32 (scs M) := (Blk.made w 32 (scs M)).alloc _
  have hk1 : Blk ((w.alloc (.cells (scs M) 32)).alloc (.cells #[.bool false, .slice none 0 0, .int .i64 0, .int .i64 0, .int .i64 0, .int .i64 0, .bool false, .slice none 0 0, .int .i64 0, .int .i64 0, .int .i64 0, .int .i64 0, .bool false, .slice none 0 0, .int .i64 0, .int .i64 0, .int .i64 0, .int .i64 0, .bool false, .slice none 0 0, .int .i64 0, .int .i64 0, .int .i64 0, .int .i64 0] 32)) (w.heap.size + 1) 32 (scs zeroL) := by
    have h := Blk.made (w.alloc (.cells (scs M) 32)) 32 (scs zeroL)
    rw [show (w.alloc (.cells (scs M) 32)).heap.size = w.heap.size + 1 from by simp] at h
    exact h
  have hb : Below w.heap.size w ((w.alloc (.cells (scs M) 32)).alloc (.cells #[.bool false, .slice none 0 0, .int .i64 0, .int .i64 0, .int .i64 0, .int .i64 0, .bool false, .slice none 0 0, .int .i64 0, .int .i64 0, .int .i64 0, .int .i64 0, .bool false, .slice none 0 0, .int .i64 0, .int .i64 0, .int .i64 0, .int .i64 0, .bool false, .slice none 0 0, .int .i64 0, .int .i64 0, .int .i64 0, .int .i64 0] 32)) := ((Below.refl w.heap.size w).alloc (Nat.le_refl _) _).alloc (by simp) _
  obtain ⟨W0, hW0⟩ : ∃ W0 : World, W0 = ((w.alloc (.cells (scs M) 32)).alloc (.cells #[.bool false, .slice none 0 0, .int .i64 0, .int .i64 0, .int .i64 0, .int .i64 0, .bool false, .slice none 0 0, .int .i64 0, .int .i64 0, .int .i64 0, .int .i64 0, .bool false, .slice none 0 0, .int .i64 0, .int .i64 0, .int .i64 0, .int .i64 0, .bool false, .slice none 0 0, .int .i64 0, .int .i64 0, .int .i64 0, .int .i64 0] 32)) := ⟨_, rfl⟩
  rw [← hW0] at hk0 hk1 hb
  have hM0 := hM.below hb
  have hz0 : (scs M).size = 24 := scs_size h4
  have hz1 : (scs zeroL).size = 24 := rfl
  have hi0 : (Try.prog.info? 32).map (·.size) = some (scs M).size := by rw [hz0]; rfl
  have ho0 := scs_one h4
  obtain ⟨R, hR⟩ : ∃ R, R = loopO (chs M) 0 := ⟨_, rfl⟩
  rw [← hR]
  have HR := Lib.hid hR
  clear hR
  have hF0 : Hid (freeB (chs M) 0 0 = false) := loopR hm0
  have HF : Hid (∀ j, (hj : j < M.length) → freeB (chs M) 0 j = !M[j].ch.o) := fun j hj => by
    unfold freeB
    rw [chs_get M j hj]
    simp
  have hI0 : Hid (∀ i, i < 1 → freeB (chs M) 0 i = false) := fun i hi => by
    have h0 : i = 0 := by omega
    subst h0
    exact hF0
  clear hm0
  go_enter Try.func25, Try.ntmps25
  go_upto_region 1 with fail
  rw [← hW0]
  clear hW0
  go_wp2
  go_loopw [7] (fun i wx => ∃ j : Nat, 1 ≤ j ∧ j ≤ 4 ∧ i = .int .i64 j ∧ wx = W0 ∧ Hid (∀ i, i < j → freeB (chs M) 0 i = false)) (fun i _ => 4 - (intOf i).toNat)
  case atStart => exact ⟨1, by omega, by omega, rfl, rfl, hI0⟩
  case round =>
    obtain ⟨j, hj1, hj, rfl, rfl, HI⟩ := hrel
    by_cases hj4 : j < 4
    · have hjL : j < M.length := by omega
      have d0 : wr.cell? ⟨w.heap.size, j * 6, none⟩ = some (.bool M[j].ch.o) := scs_cell hk0 j 0 hjL (by omega)
      have j4 : (j : Int) < 4 := by omega
      have j0 : (0 : Int) ≤ (j : Int) := by omega
      by_cases hoj : M[j].ch.o = true
      · rw [hoj] at d0
        have HI' : Hid (∀ i, i < j + 1 → freeB (chs M) 0 i = false) := fun i hi => by
          rcases Nat.lt_or_ge i j with hij | hij
          · exact HI.out i hij
          · obtain rfl : i = j := by omega
            rw [HF.out i hjL, hoj]
            rfl
        clear hoj
        go_wp2
        go_roundw
        case rel => exact ⟨j + 1, by omega, by omega, by go_num, by first | trivial | rfl, HI'⟩
        case measure => simp [intOf]; omega
      · have hoj' : M[j].ch.o = false := by simpa using hoj
        rw [hoj'] at d0
        have hfb : freeB (chs M) 0 j = true := by rw [HF.out j hjL, hoj']; simp
        have hR : R = ((chs M).set j lineO, (j : Int), 0) := by rw [HR.out, loopO_some (find_first hj4 HI.out hfb)]
        subst hR
        clear HR hfb hoj hoj' HI HF
        have c1 : wr.cell? ⟨w.heap.size, j * 6 + 1, none⟩ = some (.slice M[j].A M[j].ch.app.length M[j].c) := scs_cell hk0 j 1 hjL (by omega)
        have c2 : wr.cell? ⟨w.heap.size, j * 6 + 2, none⟩ = some (.int .i64 M[j].ch.p) := scs_cell hk0 j 2 hjL (by omega)
        have c3 : wr.cell? ⟨w.heap.size, j * 6 + 3, none⟩ = some (.int .i64 M[j].ch.k) := scs_cell hk0 j 3 hjL (by omega)
        have c4 : wr.cell? ⟨w.heap.size, j * 6 + 4, none⟩ = some (.int .i64 M[j].ch.s) := scs_cell hk0 j 4 hjL (by omega)
        have c5 : wr.cell? ⟨w.heap.size, j * 6 + 5, none⟩ = some (.int .i64 M[j].ch.l) := scs_cell hk0 j 5 hjL (by omega)
        have f := hk0.free
        have hN4 : (M.set j ln0).length = 4 := by rw [List.length_set]; exact h4
        have hzn : (scs (M.set j ln0)).size = 24 := scs_size hN4
        have hin : (Try.prog.info? 32).map (·.size) = some (scs (M.set j ln0)).size := by rw [hzn]; rfl
        have hon := scs_one hN4
        have hn0 := sput6 hk0 h4 hj4 ln0 (.bool true) (.slice none 0 0) (.int .i64 0) (.int .i64 0) (.int .i64 0) (.int .i64 0) rfl
        have hn1 := (((((hk1.other (p := ⟨w.heap.size, j * 6, none⟩) (by simp) (.bool true)).other (p := ⟨w.heap.size, j * 6 + 1, none⟩) (by simp) (.slice none 0 0)).other (p := ⟨w.heap.size, j * 6 + 2, none⟩) (by simp) (.int .i64 0)).other (p := ⟨w.heap.size, j * 6 + 3, none⟩) (by simp) (.int .i64 0)).other (p := ⟨w.heap.size, j * 6 + 4, none⟩) (by simp) (.int .i64 0)).other (p := ⟨w.heap.size, j * 6 + 5, none⟩) (by simp) (.int .i64 0)
        have hbn := (((((hb.setCell (p := ⟨w.heap.size, j * 6, none⟩) (by simp) (.bool true)).setCell (p := ⟨w.heap.size, j * 6 + 1, none⟩) (by simp) (.slice none 0 0)).setCell (p := ⟨w.heap.size, j * 6 + 2, none⟩) (by simp) (.int .i64 0)).setCell (p := ⟨w.heap.size, j * 6 + 3, none⟩) (by simp) (.int .i64 0)).setCell (p := ⟨w.heap.size, j * 6 + 4, none⟩) (by simp) (.int .i64 0)).setCell (p := ⟨w.heap.size, j * 6 + 5, none⟩) (by simp) (.int .i64 0)
        obtain ⟨W1, hW1⟩ : ∃ W1 : World, W1 = ((((((wr.setCell ⟨w.heap.size, j * 6, none⟩ (.bool true)).setCell ⟨w.heap.size, j * 6 + 1, none⟩ (.slice none 0 0)).setCell ⟨w.heap.size, j * 6 + 2, none⟩ (.int .i64 0)).setCell ⟨w.heap.size, j * 6 + 3, none⟩ (.int .i64 0)).setCell ⟨w.heap.size, j * 6 + 4, none⟩ (.int .i64 0)).setCell ⟨w.heap.size, j * 6 + 5, none⟩ (.int .i64 0)) := ⟨_, rfl⟩
        rw [← hW1] at hn0 hn1 hbn
        have hW := Lib.hid hW1
        clear hW1
        have hbe := below_setRow hbn (Nat.le_add_right _ 1) (scs (M.set j ln0))
        go_upto_region 10 with fail
        rw [← hW.out]
        clear hW c1 c2 c3 c4 c5 f
        go_wp2_with (first
          | (refine wpList_load_row rfl _ _ rfl w.heap.size rfl _ (scs (M.set j ln0)) _ _ hn0.out Try.underlying32 rfl hin ?_)
          | (refine wpList_store_row rfl _ _ _ rfl (w.heap.size + 1) (scs (M.set j ln0)) rfl rfl _ _ hn1.out hin (by rw [hz1, hzn]) hon ?_))
        refine bodyPost_ret (results_cell_two rfl _ _ (w.heap.size + 1) _ _ _ _ rfl (hn1.row (scs (M.set j ln0))).out Try.underlying32 rfl hin) rfl ?_
        exact ⟨M.set j ln0, rfl, hN4, by rw [chs_set]; rfl, (hM.below hbe).put j ln0 ⟨RB.nil _ _, by decide⟩, hbe⟩
    · obtain rfl : j = 4 := by omega
      have hR : R = (chs M, 0, 10) := by rw [HR.out, loopO_none (find_none HI.out)]
      subst hR
      clear HR HI HF
      have hbe := below_setRow hb (Nat.le_add_right _ 1) (scs M)
      go_wp2_with (first
        | (refine wpList_load_row rfl _ _ rfl w.heap.size rfl _ (scs M) _ _ hk0.out Try.underlying32 rfl hi0 ?_)
        | (refine wpList_store_row rfl _ _ _ rfl (w.heap.size + 1) (scs M) rfl rfl _ _ hk1.out hi0 (by rw [hz1, hz0]) ho0 ?_))
      refine bodyPost_ret (results_cell_two rfl _ _ (w.heap.size + 1) _ _ _ _ rfl (hk1.row (scs M)).out Try.underlying32 rfl hi0) rfl ?_
      exact ⟨M, rfl, h4, rfl, hM.below hbe, hbe⟩
set_option maxHeartbeats 2000000 in
theorem refOpen_at (M : List Ln) (k : Nat) (w : World) (h4 : M.length = 4) (hM : LnsIn w M) (hm0 : (chs M)[0]?.map (·.o) = some true) (hk : k < M.length) (hk0' : k ≠ 0) (ho : M[k].ch.o = false) :
    Calls Try.prog 25 #[.agg (scs M), .int .i64 k] w (DidRO (loopO (chs M) k) w) := by
  have hk0 : Blk ((w.alloc (.cells (scs M) 32)).alloc (.cells #[.bool false, .slice none 0 0, .int .i64 0, .int .i64 0, .int .i64 0, .int .i64 0, .bool false, .slice none 0 0, .int .i64 0, .int .i64 0, .int .i64 0, .int .i64 0, .bool false, .slice none 0 0, .int .i64 0, .int .i64 0, .int .i64 0, .int .i64 0, .bool false, .slice none 0 0, .int .i64 0, .int .i64 0, .int .i64 0, .int .i64 0] 32)) w.heap.size 32 (scs M) := (Blk.made w 32 (scs M)).alloc _
  have hk1 : Blk ((w.alloc (.cells (scs M) 32)).alloc (.cells #[.bool false, .slice none 0 0, .int .i64 0, .int .i64 0, .int .i64 0, .int .i64 0, .bool false, .slice none 0 0, .int .i64 0, .int .i64 0, .int .i64 0, .int .i64 0, .bool false, .slice none 0 0, .int .i64 0, .int .i64 0, .int .i64 0, .int .i64 0, .bool false, .slice none 0 0, .int .i64 0, .int .i64 0, .int .i64 0, .int .i64 0] 32)) (w.heap.size + 1) 32 (scs zeroL) := by
    have h := Blk.made (w.alloc (.cells (scs M) 32)) 32 (scs zeroL)
    rw [show (w.alloc (.cells (scs M) 32)).heap.size = w.heap.size + 1 from by simp] at h
    exact h
  have hb : Below w.heap.size w ((w.alloc (.cells (scs M) 32)).alloc (.cells #[.bool false, .slice none 0 0, .int .i64 0, .int .i64 0, .int .i64 0, .int .i64 0, .bool false, .slice none 0 0, .int .i64 0, .int .i64 0, .int .i64 0, .int .i64 0, .bool false, .slice none 0 0, .int .i64 0, .int .i64 0, .int .i64 0, .int .i64 0, .bool false, .slice none 0 0, .int .i64 0, .int .i64 0, .int .i64 0, .int .i64 0] 32)) := ((Below.refl w.heap.size w).alloc (Nat.le_refl _) _).alloc (by simp) _
  obtain ⟨W0, hW0⟩ : ∃ W0 : World, W0 = ((w.alloc (.cells (scs M) 32)).alloc (.cells #[.bool false, .slice none 0 0, .int .i64 0, .int .i64 0, .int .i64 0, .int .i64 0, .bool false, .slice none 0 0, .int .i64 0, .int .i64 0, .int .i64 0, .int .i64 0, .bool false, .slice none 0 0, .int .i64 0, .int .i64 0, .int .i64 0, .int .i64 0, .bool false, .slice none 0 0, .int .i64 0, .int .i64 0, .int .i64 0, .int .i64 0] 32)) := ⟨_, rfl⟩
  rw [← hW0] at hk0 hk1 hb
  have hM0 := hM.below hb
  have hz0 : (scs M).size = 24 := scs_size h4
  have hz1 : (scs zeroL).size = 24 := rfl
  have hi0 : (Try.prog.info? 32).map (·.size) = some (scs M).size := by rw [hz0]; rfl
  have ho0 := scs_one h4
  obtain ⟨R, hR⟩ : ∃ R, R = loopO (chs M) k := ⟨_, rfl⟩
  rw [← hR]
  have HR := Lib.hid hR
  clear hR
  have hF0 : Hid (freeB (chs M) (k : Int) 0 = false) := loopR hm0
  have HF : Hid (∀ j, (hj : j < M.length) → freeB (chs M) (k : Int) j = (!M[j].ch.o && (k == 0 || k == j))) := fun j hj => by
    unfold freeB
    rw [chs_get M j hj, Bool.eq_iff_iff]
    simp
    omega
  have hI0 : Hid (∀ i, i < 1 → freeB (chs M) (k : Int) i = false) := fun i hi => by
    have h0 : i = 0 := by omega
    subst h0
    exact hF0
  clear hm0
  have h1 : ¬ ((k : Int) < 0) := by omega
  have h2 : ¬ (4 ≤ (k : Int)) := by omega
  have h3 : (k : Int) < 4 := by omega
  have h5 : 0 < (k : Int) := by omega
  have h6 : ((k : Int) == 0) = false := by simp; exact hk0'
  have c0 : W0.cell? ⟨w.heap.size, k * 6, none⟩ = some (.bool M[k].ch.o) := scs_cell hk0 k 0 hk (by omega)
  rw [ho] at c0
  clear ho
  go_enter Try.func25, Try.ntmps25
  go_upto_region 1 with fail
  rw [← hW0]
  clear hW0
  go_wp2
  go_loopw [7] (fun i wx => ∃ j : Nat, 1 ≤ j ∧ j ≤ 4 ∧ i = .int .i64 j ∧ wx = W0 ∧ Hid (∀ i, i < j → freeB (chs M) (k : Int) i = false)) (fun i _ => 4 - (intOf i).toNat)
  case atStart => exact ⟨1, by omega, by omega, rfl, rfl, hI0⟩
  case round =>
    obtain ⟨j, hj1, hj, rfl, rfl, HI⟩ := hrel
    by_cases hj4 : j < 4
    · have hjL : j < M.length := by omega
      have d0 : wr.cell? ⟨w.heap.size, j * 6, none⟩ = some (.bool M[j].ch.o) := scs_cell hk0 j 0 hjL (by omega)
      have j4 : (j : Int) < 4 := by omega
      have j0 : (0 : Int) ≤ (j : Int) := by omega
      by_cases hoj : M[j].ch.o = true
      · rw [hoj] at d0
        have HI' : Hid (∀ i, i < j + 1 → freeB (chs M) (k : Int) i = false) := fun i hi => by
          rcases Nat.lt_or_ge i j with hij | hij
          · exact HI.out i hij
          · obtain rfl : i = j := by omega
            rw [HF.out i hjL, hoj]
            rfl
        clear hoj
        go_wp2
        go_roundw
        case rel => exact ⟨j + 1, by omega, by omega, by go_num, by first | trivial | rfl, HI'⟩
        case measure => simp [intOf]; omega
      · have hoj' : M[j].ch.o = false := by simpa using hoj
        rw [hoj'] at d0
        by_cases hkj : k = j
        · have HKJ : k = j := hkj
          have hkj2 : (k : Int) = (j : Int) := by omega
          have hfb : freeB (chs M) (k : Int) j = true := by rw [HF.out j hjL, hoj']; simp [HKJ]
          have hR : R = ((chs M).set j lineO, (j : Int), 0) := by rw [HR.out, loopO_some (find_first hj4 HI.out hfb)]
          subst hR
          clear HR hfb hoj hoj' HI HF HKJ hkj
          have c1 : wr.cell? ⟨w.heap.size, j * 6 + 1, none⟩ = some (.slice M[j].A M[j].ch.app.length M[j].c) := scs_cell hk0 j 1 hjL (by omega)
          have c2 : wr.cell? ⟨w.heap.size, j * 6 + 2, none⟩ = some (.int .i64 M[j].ch.p) := scs_cell hk0 j 2 hjL (by omega)
          have c3 : wr.cell? ⟨w.heap.size, j * 6 + 3, none⟩ = some (.int .i64 M[j].ch.k) := scs_cell hk0 j 3 hjL (by omega)
          have c4 : wr.cell? ⟨w.heap.size, j * 6 + 4, none⟩ = some (.int .i64 M[j].ch.s) := scs_cell hk0 j 4 hjL (by omega)
          have c5 : wr.cell? ⟨w.heap.size, j * 6 + 5, none⟩ = some (.int .i64 M[j].ch.l) := scs_cell hk0 j 5 hjL (by omega)
          have f := hk0.free
          have hN4 : (M.set j ln0).length = 4 := by rw [List.length_set]; exact h4
          have hzn : (scs (M.set j ln0)).size = 24 := scs_size hN4
          have hin : (Try.prog.info? 32).map (·.size) = some (scs (M.set j ln0)).size := by rw [hzn]; rfl
          have hon := scs_one hN4
          have hn0 := sput6 hk0 h4 hj4 ln0 (.bool true) (.slice none 0 0) (.int .i64 0) (.int .i64 0) (.int .i64 0) (.int .i64 0) rfl
          have hn1 := (((((hk1.other (p := ⟨w.heap.size, j * 6, none⟩) (by simp) (.bool true)).other (p := ⟨w.heap.size, j * 6 + 1, none⟩) (by simp) (.slice none 0 0)).other (p := ⟨w.heap.size, j * 6 + 2, none⟩) (by simp) (.int .i64 0)).other (p := ⟨w.heap.size, j * 6 + 3, none⟩) (by simp) (.int .i64 0)).other (p := ⟨w.heap.size, j * 6 + 4, none⟩) (by simp) (.int .i64 0)).other (p := ⟨w.heap.size, j * 6 + 5, none⟩) (by simp) (.int .i64 0)
          have hbn := (((((hb.setCell (p := ⟨w.heap.size, j * 6, none⟩) (by simp) (.bool true)).setCell (p := ⟨w.heap.size, j * 6 + 1, none⟩) (by simp) (.slice none 0 0)).setCell (p := ⟨w.heap.size, j * 6 + 2, none⟩) (by simp) (.int .i64 0)).setCell (p := ⟨w.heap.size, j * 6 + 3, none⟩) (by simp) (.int .i64 0)).setCell (p := ⟨w.heap.size, j * 6 + 4, none⟩) (by simp) (.int .i64 0)).setCell (p := ⟨w.heap.size, j * 6 + 5, none⟩) (by simp) (.int .i64 0)
          obtain ⟨W1, hW1⟩ : ∃ W1 : World, W1 = ((((((wr.setCell ⟨w.heap.size, j * 6, none⟩ (.bool true)).setCell ⟨w.heap.size, j * 6 + 1, none⟩ (.slice none 0 0)).setCell ⟨w.heap.size, j * 6 + 2, none⟩ (.int .i64 0)).setCell ⟨w.heap.size, j * 6 + 3, none⟩ (.int .i64 0)).setCell ⟨w.heap.size, j * 6 + 4, none⟩ (.int .i64 0)).setCell ⟨w.heap.size, j * 6 + 5, none⟩ (.int .i64 0)) := ⟨_, rfl⟩
          rw [← hW1] at hn0 hn1 hbn
          have hW := Lib.hid hW1
          clear hW1
          have hbe := below_setRow hbn (Nat.le_add_right _ 1) (scs (M.set j ln0))
          go_upto_region 10 with fail
          rw [← hW.out]
          clear hW c1 c2 c3 c4 c5 f
          go_wp2_with (first
            | (refine wpList_load_row rfl _ _ rfl w.heap.size rfl _ (scs (M.set j ln0)) _ _ hn0.out Try.underlying32 rfl hin ?_)
            | (refine wpList_store_row rfl _ _ _ rfl (w.heap.size + 1) (scs (M.set j ln0)) rfl rfl _ _ hn1.out hin (by rw [hz1, hzn]) hon ?_))
          refine bodyPost_ret (results_cell_two rfl _ _ (w.heap.size + 1) _ _ _ _ rfl (hn1.row (scs (M.set j ln0))).out Try.underlying32 rfl hin) rfl ?_
          exact ⟨M.set j ln0, rfl, hN4, by rw [chs_set]; rfl, (hM.below hbe).put j ln0 ⟨RB.nil _ _, by decide⟩, hbe⟩
        · have HI' : Hid (∀ i, i < j + 1 → freeB (chs M) (k : Int) i = false) := fun i hi => by
            rcases Nat.lt_or_ge i j with hij | hij
            · exact HI.out i hij
            · obtain rfl : i = j := by omega
              rw [HF.out i hjL]
              simp [hk0', hkj]
          have hkj2 : ¬ ((k : Int) = (j : Int)) := by omega
          clear hoj hoj'
          go_wp2
          go_roundw
          case rel => exact ⟨j + 1, by omega, by omega, by go_num, by first | trivial | rfl, HI'⟩
          case measure => simp [intOf]; omega
    · obtain rfl : j = 4 := by omega
      have hR : R = (chs M, 0, 10) := by rw [HR.out, loopO_none (find_none HI.out)]
      subst hR
      clear HR HI HF
      have hbe := below_setRow hb (Nat.le_add_right _ 1) (scs M)
      go_wp2_with (first
        | (refine wpList_load_row rfl _ _ rfl w.heap.size rfl _ (scs M) _ _ hk0.out Try.underlying32 rfl hi0 ?_)
        | (refine wpList_store_row rfl _ _ _ rfl (w.heap.size + 1) (scs M) rfl rfl _ _ hk1.out hi0 (by rw [hz1, hz0]) ho0 ?_))
      refine bodyPost_ret (results_cell_two rfl _ _ (w.heap.size + 1) _ _ _ _ rfl (hk1.row (scs M)).out Try.underlying32 rfl hi0) rfl ?_
      exact ⟨M, rfl, h4, rfl, hM.below hbe, hbe⟩
theorem refOpen_any (M : List Ln) (n : Int) (w : World) (h4 : M.length = 4) (hM : LnsIn w M) (hm0 : (chs M)[0]?.map (·.o) = some true) :
    Calls Try.prog 25 #[.agg (scs M), .int .i64 n] w (DidRO (openC (chs M) n) w) := by
  unfold openC
  by_cases hn : n < 0 ∨ 4 ≤ n
  · rw [if_pos hn]
    exact refOpen_same M n 2 w h4 hM (.inl ⟨hn, rfl⟩)
  · rw [if_neg hn]
    obtain ⟨k, rfl⟩ : ∃ k : Nat, n = (k : Int) := ⟨n.toNat, by omega⟩
    have hk : k < M.length := by omega
    rw [which_in hk h4]
    by_cases hb : (k : Int) ≠ 0 ∧ (if M[k].ch.o = true then (0 : Int) else 14) = 0
    · rw [if_pos hb]
      have ho : M[k].ch.o = true := by
        by_cases ho : M[k].ch.o = true
        · exact ho
        · have := hb.2; rw [if_neg ho] at this; cases this
      exact refOpen_same M k 15 w h4 hM (.inr ⟨k, hk, rfl, by omega, ho, rfl⟩)
    · rw [if_neg hb]
      by_cases h0 : k = 0
      · subst h0
        exact refOpen_zero M w h4 hM hm0
      · refine refOpen_at M k w h4 hM hm0 hk h0 ?_
        by_cases ho : M[k].ch.o = true
        · exact absurd ⟨by omega, by rw [if_pos ho]⟩ hb
        · simpa using ho
end Go.Proofs.Ytpbgfiaaechiaaa
