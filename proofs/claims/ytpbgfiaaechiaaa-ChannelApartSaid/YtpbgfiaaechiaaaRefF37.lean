/-
  The channels' reference: SetApp.
-/
import Derived.Test.YtpbgfiaaechiaaaRefE37
namespace Go.Proofs.Ytpbgfiaaechiaaa
open Go.RowKit
set_option linter.unusedVariables false

theorem scs_noByte {w : World} {g : Nat} {t : TypeId} {M : List Ln} (h : Blk w g t (scs M)) (j : Nat) (b : Int) : w.cell? ⟨g, j, none⟩ ≠ some (.int .u8 b) := by
  rw [h.cell]
  intro e
  have hm : Value.int .u8 b ∈ M.flatMap lnCells := List.mem_of_getElem? (by simpa [scs] using e)
  obtain ⟨x, _, hx⟩ := List.mem_flatMap.1 hm
  simp [lnCells] at hx
theorem refSetApp_err (M : List Ln) (n z : Int) (x : Value) (w : World) (h4 : M.length = 4) (hM : LnsIn w M) (hz : whichC (chs M) n = z) (hz0 : z ≠ 0) :
    Calls Try.prog 27 #[.agg (scs M), .int .i64 n, x] w (DidR (chs M, z) w) := by
  have hk0 : Blk ((w.alloc (.cells (scs M) 32)).alloc (.cells #[.bool false, .slice none 0 0, .int .i64 0, .int .i64 0, .int .i64 0, .int .i64 0, .bool false, .slice none 0 0, .int .i64 0, .int .i64 0, .int .i64 0, .int .i64 0, .bool false, .slice none 0 0, .int .i64 0, .int .i64 0, .int .i64 0, .int .i64 0, .bool false, .slice none 0 0, .int .i64 0, .int .i64 0, .int .i64 0, .int .i64 0] 32)) w.heap.size 32 (scs M) := (Blk.made w 32 (scs M)).alloc _
  have hk1 : Blk ((w.alloc (.cells (scs M) 32)).alloc (.cells #[.bool false, .slice none 0 0, .int .i64 0, .int .i64 0, .int .i64 0, .int .i64 0, .bool false, .slice none 0 0, .int .i64 0, .int .i64 0, .int .i64 0, .int .i64 0, .bool false, .slice none 0 0, .int .i64 0, .int .i64 0, .int .i64 0, .int .i64 0, .bool false, .slice none 0 0, .int .i64 0, .int .i64 0, .int .i64 0, .int .i64 0] 32)) (w.heap.size + 1) 32 (scs zeroL) := by
    have h := Blk.made (w.alloc (.cells (scs M) 32)) 32 (scs zeroL)
    rw [show (w.alloc (.cells (scs M) 32)).heap.size = w.heap.size + 1 from by simp] at h
    exact h
  have hb : Below w.heap.size w ((w.alloc (.cells (scs M) 32)).alloc (.cells #[.bool false, .slice none 0 0, .int .i64 0, .int .i64 0, .int .i64 0, .int .i64 0, .bool false, .slice none 0 0, .int .i64 0, .int .i64 0, .int .i64 0, .int .i64 0, .bool false, .slice none 0 0, .int .i64 0, .int .i64 0, .int .i64 0, .int .i64 0, .bool false, .slice none 0 0, .int .i64 0, .int .i64 0, .int .i64 0, .int .i64 0] 32)) := ((Below.refl w.heap.size w).alloc (Nat.le_refl _) _).alloc (by simp) _
  obtain ⟨W0, hW0⟩ : ∃ W0 : World, W0 = ((w.alloc (.cells (scs M) 32)).alloc (.cells #[.bool false, .slice none 0 0, .int .i64 0, .int .i64 0, .int .i64 0, .int .i64 0, .bool false, .slice none 0 0, .int .i64 0, .int .i64 0, .int .i64 0, .int .i64 0, .bool false, .slice none 0 0, .int .i64 0, .int .i64 0, .int .i64 0, .int .i64 0, .bool false, .slice none 0 0, .int .i64 0, .int .i64 0, .int .i64 0, .int .i64 0] 32)) := ⟨_, rfl⟩
  rw [← hW0] at hk0 hk1 hb
  have hM0 := hM.below hb
  have hz9 : (scs M).size = 24 := scs_size h4
  have hz1 : (scs zeroL).size = 24 := rfl
  have hi0 : (Try.prog.info? 32).map (·.size) = some (scs M).size := by rw [hz9]; rfl
  have ho0 := scs_one h4
  have hq := refWhich_any M n W0 h4
  rw [hz] at hq
  clear hz
  · go_enter Try.func27, Try.ntmps27
    go_upto_region 1 with fail
    rw [← hW0]
    clear hW0
    go_wp2_with (refine wpList_load_row rfl _ _ rfl w.heap.size rfl _ (scs M) _ _ hk0.out Try.underlying32 rfl hi0 ?_)
    refine hq.mono ?_
    clear hq
    rintro e w1 ⟨rfl, hb1⟩
    have hk0 := hk0.below hb1 hk0.size
    have hk1 := hk1.below hb1 hk1.size
    have hb2 := hb.trans (hb1.mono hb.size)
    have hbe := below_setRow hb2 (Nat.le_add_right _ 1) (scs M)
    go_wp2_with (first
      | (refine wpList_load_row rfl _ _ rfl w.heap.size rfl _ (scs M) _ _ hk0.out Try.underlying32 rfl hi0 ?_)
      | (refine wpList_store_row rfl _ _ _ rfl (w.heap.size + 1) (scs M) rfl rfl _ _ hk1.out hi0 (by rw [hz1, hz9]) ho0 ?_))
    refine bodyPost_ret (results_cell_pair rfl _ _ (w.heap.size + 1) _ _ _ _ rfl (hk1.row (scs M)).out Try.underlying32 rfl hi0) rfl ?_
    exact ⟨M, rfl, h4, rfl, hM.below hbe, hbe⟩
theorem refSetApp_arg (M : List Ln) (k : Nat) (A : Option Addr) (c m : Nat) (w : World) (h4 : M.length = 4) (hM : LnsIn w M) (hz : whichC (chs M) (k : Int) = 0) (h0 : m ≠ 0) (hm : m < 5 ∨ 16 < m) :
    Calls Try.prog 27 #[.agg (scs M), .int .i64 k, .slice A m c] w (DidR (chs M, 1) w) := by
  have hk0 : Blk ((w.alloc (.cells (scs M) 32)).alloc (.cells #[.bool false, .slice none 0 0, .int .i64 0, .int .i64 0, .int .i64 0, .int .i64 0, .bool false, .slice none 0 0, .int .i64 0, .int .i64 0, .int .i64 0, .int .i64 0, .bool false, .slice none 0 0, .int .i64 0, .int .i64 0, .int .i64 0, .int .i64 0, .bool false, .slice none 0 0, .int .i64 0, .int .i64 0, .int .i64 0, .int .i64 0] 32)) w.heap.size 32 (scs M) := (Blk.made w 32 (scs M)).alloc _
  have hk1 : Blk ((w.alloc (.cells (scs M) 32)).alloc (.cells #[.bool false, .slice none 0 0, .int .i64 0, .int .i64 0, .int .i64 0, .int .i64 0, .bool false, .slice none 0 0, .int .i64 0, .int .i64 0, .int .i64 0, .int .i64 0, .bool false, .slice none 0 0, .int .i64 0, .int .i64 0, .int .i64 0, .int .i64 0, .bool false, .slice none 0 0, .int .i64 0, .int .i64 0, .int .i64 0, .int .i64 0] 32)) (w.heap.size + 1) 32 (scs zeroL) := by
    have h := Blk.made (w.alloc (.cells (scs M) 32)) 32 (scs zeroL)
    rw [show (w.alloc (.cells (scs M) 32)).heap.size = w.heap.size + 1 from by simp] at h
    exact h
  have hb : Below w.heap.size w ((w.alloc (.cells (scs M) 32)).alloc (.cells #[.bool false, .slice none 0 0, .int .i64 0, .int .i64 0, .int .i64 0, .int .i64 0, .bool false, .slice none 0 0, .int .i64 0, .int .i64 0, .int .i64 0, .int .i64 0, .bool false, .slice none 0 0, .int .i64 0, .int .i64 0, .int .i64 0, .int .i64 0, .bool false, .slice none 0 0, .int .i64 0, .int .i64 0, .int .i64 0, .int .i64 0] 32)) := ((Below.refl w.heap.size w).alloc (Nat.le_refl _) _).alloc (by simp) _
  obtain ⟨W0, hW0⟩ : ∃ W0 : World, W0 = ((w.alloc (.cells (scs M) 32)).alloc (.cells #[.bool false, .slice none 0 0, .int .i64 0, .int .i64 0, .int .i64 0, .int .i64 0, .bool false, .slice none 0 0, .int .i64 0, .int .i64 0, .int .i64 0, .int .i64 0, .bool false, .slice none 0 0, .int .i64 0, .int .i64 0, .int .i64 0, .int .i64 0, .bool false, .slice none 0 0, .int .i64 0, .int .i64 0, .int .i64 0, .int .i64 0] 32)) := ⟨_, rfl⟩
  rw [← hW0] at hk0 hk1 hb
  have hM0 := hM.below hb
  have hz0 : (scs M).size = 24 := scs_size h4
  have hz1 : (scs zeroL).size = 24 := rfl
  have hi0 : (Try.prog.info? 32).map (·.size) = some (scs M).size := by rw [hz0]; rfl
  have ho0 := scs_one h4
  have hq := refWhich_any M k W0 h4
  rw [hz] at hq
  clear hz
  have i0 : ¬ ((m : Int) = 0) := by omega
  have i1 : (((m : Int) != 0)) = true := by simpa using h0
  rcases hm with hm | hm
  · skip
    go_enter Try.func27, Try.ntmps27
    go_upto_region 1 with fail
    rw [← hW0]
    clear hW0
    go_wp2_with (refine wpList_load_row rfl _ _ rfl w.heap.size rfl _ (scs M) _ _ hk0.out Try.underlying32 rfl hi0 ?_)
    refine hq.mono ?_
    clear hq
    rintro e w1 ⟨rfl, hb1⟩
    have hk0 := hk0.below hb1 hk0.size
    have hk1 := hk1.below hb1 hk1.size
    have hb2 := hb.trans (hb1.mono hb.size)
    have hbe := below_setRow hb2 (Nat.le_add_right _ 1) (scs M)
    go_wp2_with (first
      | (refine wpList_load_row rfl _ _ rfl w.heap.size rfl _ (scs M) _ _ hk0.out Try.underlying32 rfl hi0 ?_)
      | (refine wpList_store_row rfl _ _ _ rfl (w.heap.size + 1) (scs M) rfl rfl _ _ hk1.out hi0 (by rw [hz1, hz0]) ho0 ?_))
    refine bodyPost_ret (results_cell_pair rfl _ _ (w.heap.size + 1) _ _ _ _ rfl (hk1.row (scs M)).out Try.underlying32 rfl hi0) rfl ?_
    exact ⟨M, rfl, h4, rfl, hM.below hbe, hbe⟩
  · have hm' : ¬ ((m : Int) < 5) := by omega
    have hm2 : (16 : Int) < (m : Int) := by omega
    go_enter Try.func27, Try.ntmps27
    go_upto_region 1 with fail
    rw [← hW0]
    clear hW0
    go_wp2_with (refine wpList_load_row rfl _ _ rfl w.heap.size rfl _ (scs M) _ _ hk0.out Try.underlying32 rfl hi0 ?_)
    refine hq.mono ?_
    clear hq
    rintro e w1 ⟨rfl, hb1⟩
    have hk0 := hk0.below hb1 hk0.size
    have hk1 := hk1.below hb1 hk1.size
    have hb2 := hb.trans (hb1.mono hb.size)
    have hbe := below_setRow hb2 (Nat.le_add_right _ 1) (scs M)
    go_wp2_with (first
      | (refine wpList_load_row rfl _ _ rfl w.heap.size rfl _ (scs M) _ _ hk0.out Try.underlying32 rfl hi0 ?_)
      | (refine wpList_store_row rfl _ _ _ rfl (w.heap.size + 1) (scs M) rfl rfl _ _ hk1.out hi0 (by rw [hz1, hz0]) ho0 ?_))
    refine bodyPost_ret (results_cell_pair rfl _ _ (w.heap.size + 1) _ _ _ _ rfl (hk1.row (scs M)).out Try.underlying32 rfl hi0) rfl ?_
    exact ⟨M, rfl, h4, rfl, hM.below hbe, hbe⟩
set_option maxHeartbeats 1000000 in
theorem refSetApp_in (M : List Ln) (k : Nat) (A : Option Addr) (c : Nat) (xs : List UInt8) (w : World) (h4 : M.length = 4) (hM : LnsIn w M) (hr : RB w A xs) (hk : k < M.length) (hz : whichC (chs M) (k : Int) = 0) (hm : xs.length = 0 ∨ (5 ≤ xs.length ∧ xs.length ≤ 16)) :
    Calls Try.prog 27 #[.agg (scs M), .int .i64 k, .slice A xs.length c] w (DidR ((chs M).set k ⟨M[k].ch.o, xs, 0, 0, M[k].ch.s, 0⟩, 0) w) := by
  have hk0 : Blk ((w.alloc (.cells (scs M) 32)).alloc (.cells #[.bool false, .slice none 0 0, .int .i64 0, .int .i64 0, .int .i64 0, .int .i64 0, .bool false, .slice none 0 0, .int .i64 0, .int .i64 0, .int .i64 0, .int .i64 0, .bool false, .slice none 0 0, .int .i64 0, .int .i64 0, .int .i64 0, .int .i64 0, .bool false, .slice none 0 0, .int .i64 0, .int .i64 0, .int .i64 0, .int .i64 0] 32)) w.heap.size 32 (scs M) := (Blk.made w 32 (scs M)).alloc _
  have hk1 : Blk ((w.alloc (.cells (scs M) 32)).alloc (.cells #[.bool false, .slice none 0 0, .int .i64 0, .int .i64 0, .int .i64 0, .int .i64 0, .bool false, .slice none 0 0, .int .i64 0, .int .i64 0, .int .i64 0, .int .i64 0, .bool false, .slice none 0 0, .int .i64 0, .int .i64 0, .int .i64 0, .int .i64 0, .bool false, .slice none 0 0, .int .i64 0, .int .i64 0, .int .i64 0, .int .i64 0] 32)) (w.heap.size + 1) 32 (scs zeroL) := by
    have h := Blk.made (w.alloc (.cells (scs M) 32)) 32 (scs zeroL)
    rw [show (w.alloc (.cells (scs M) 32)).heap.size = w.heap.size + 1 from by simp] at h
    exact h
  have hb : Below w.heap.size w ((w.alloc (.cells (scs M) 32)).alloc (.cells #[.bool false, .slice none 0 0, .int .i64 0, .int .i64 0, .int .i64 0, .int .i64 0, .bool false, .slice none 0 0, .int .i64 0, .int .i64 0, .int .i64 0, .int .i64 0, .bool false, .slice none 0 0, .int .i64 0, .int .i64 0, .int .i64 0, .int .i64 0, .bool false, .slice none 0 0, .int .i64 0, .int .i64 0, .int .i64 0, .int .i64 0] 32)) := ((Below.refl w.heap.size w).alloc (Nat.le_refl _) _).alloc (by simp) _
  obtain ⟨W0, hW0⟩ : ∃ W0 : World, W0 = ((w.alloc (.cells (scs M) 32)).alloc (.cells #[.bool false, .slice none 0 0, .int .i64 0, .int .i64 0, .int .i64 0, .int .i64 0, .bool false, .slice none 0 0, .int .i64 0, .int .i64 0, .int .i64 0, .int .i64 0, .bool false, .slice none 0 0, .int .i64 0, .int .i64 0, .int .i64 0, .int .i64 0, .bool false, .slice none 0 0, .int .i64 0, .int .i64 0, .int .i64 0, .int .i64 0] 32)) := ⟨_, rfl⟩
  rw [← hW0] at hk0 hk1 hb
  have hM0 := hM.below hb
  have hz0 : (scs M).size = 24 := scs_size h4
  have hz1 : (scs zeroL).size = 24 := rfl
  have hi0 : (Try.prog.info? 32).map (·.size) = some (scs M).size := by rw [hz0]; rfl
  have ho0 := scs_one h4
  have hq := refWhich_any M k W0 h4
  rw [hz] at hq
  clear hz
  have HL : xs.length ≤ 16 := by omega
  have hk4 : (k : Int) < 4 := by omega
  rcases hm with h0 | ⟨h5, h16⟩
  · obtain rfl : xs = [] := List.eq_nil_of_length_eq_zero h0
    clear h0
    rw [List.length_nil]
    go_enter Try.func27, Try.ntmps27
    go_upto_region 1 with fail
    rw [← hW0]
    clear hW0
    go_wp2_with (refine wpList_load_row rfl _ _ rfl w.heap.size rfl _ (scs M) _ _ hk0.out Try.underlying32 rfl hi0 ?_)
    refine hq.mono ?_
    clear hq
    rintro e w1 ⟨rfl, hb1⟩
    have hk0 := hk0.below hb1 hk0.size
    have hk1 := hk1.below hb1 hk1.size
    have hb2 := hb.trans (hb1.mono hb.size)
    have hba := (Below.refl w1.heap.size w1).alloc (Nat.le_refl _) (.cells #[.slice A 0 c] 23)
    have hxa := ((hr.below hb2).below hba)
    have hcl : (w1.alloc (.cells #[.slice A 0 c] 23)).cell? ⟨w1.heap.size, 0, none⟩ = some (.slice A 0 c) := (Blk.made w1 23 #[.slice A 0 c]).cell 0
    have hj := join_any w1.heap.size 1 [⟨A, c, []⟩] (w1.alloc (.cells #[.slice A 0 c] 23)) (by simp) (by first | (simp [joinS]; done) | (simp [joinS]; omega)) (fun j hj => by
      have h0 : j = 0 := by simpa using hj
      subst h0
      exact ⟨hcl, hxa⟩)
    rw [show joinS [⟨A, c, []⟩] = [] from by simp [joinS]] at hj
    have hJ := Lib.hid hj
    clear hj hcl
    go_wp2_with fail
    refine hJ.out.mono ?_
    rintro e w2 ⟨A2, c2, rfl, hc2, hr2, hb3⟩
    have hb4 := hb2.trans ((hba.trans (hb3.mono hba.size)).mono hb2.size)
    have hk0 := (hk0.below hba hk0.size).below hb3 (Nat.lt_of_lt_of_le hk0.size hba.size)
    have hk1 := (hk1.below hba hk1.size).below hb3 (Nat.lt_of_lt_of_le hk1.size hba.size)
    have c1 : w2.cell? ⟨w.heap.size, k * 6 + 1, none⟩ = some (.slice M[k].A M[k].ch.app.length M[k].c) := scs_cell hk0 k 1 hk (by omega)
    have d2 : w2.cell? ⟨w.heap.size, k * 6 + 2, none⟩ = some (.int .i64 M[k].ch.p) := scs_cell hk0 k 2 hk (by omega)
    have d3 : w2.cell? ⟨w.heap.size, k * 6 + 2 + 1, none⟩ = some (.int .i64 M[k].ch.k) := scs_cell hk0 k 3 hk (by omega)
    have d4 : w2.cell? ⟨w.heap.size, k * 6 + 2 + 2, none⟩ = some (.int .i64 M[k].ch.s) := scs_cell hk0 k 4 hk (by omega)
    have d5 : w2.cell? ⟨w.heap.size, k * 6 + 2 + 3, none⟩ = some (.int .i64 M[k].ch.l) := scs_cell hk0 k 5 hk (by omega)
    have f := hk0.free
    obtain ⟨y1, hy1⟩ : ∃ y1 : Ln, y1 = ⟨⟨M[k].ch.o, [], M[k].ch.p, M[k].ch.k, M[k].ch.s, M[k].ch.l⟩, A2, c2⟩ := ⟨_, rfl⟩
    obtain ⟨y, hy⟩ : ∃ y : Ln, y = ⟨⟨M[k].ch.o, [], 0, 0, M[k].ch.s, 0⟩, A2, c2⟩ := ⟨_, rfl⟩
    have hs1 := sput1 hk0 h4 hk y1 (.slice A2 0 c2) (by rw [hy1]; rfl)
    have h41 : (M.set k y1).length = 4 := by rw [List.length_set]; exact h4
    have hkl : k < (M.set k y1).length := by rw [List.length_set]; exact hk
    have hn0 := sput4 hs1 h41 hkl y (.int .i64 0) (.int .i64 0) (.int .i64 M[k].ch.s) (.int .i64 0) (by rw [hy, List.getElem_set_self, hy1]; rfl)
    rw [List.set_set] at hn0
    have hN4 : (M.set k y).length = 4 := by rw [List.length_set]; exact h4
    have hzn : (scs (M.set k y)).size = 24 := scs_size hN4
    have hin : (Try.prog.info? 32).map (·.size) = some (scs (M.set k y)).size := by rw [hzn]; rfl
    have hon := scs_one hN4
    have hn1 := ((((hk1.other (p := ⟨w.heap.size, k * 6 + 1, none⟩) (by simp) (.slice A2 0 c2)).other (p := ⟨w.heap.size, k * 6 + 2, none⟩) (by simp) (.int .i64 0)).other (p := ⟨w.heap.size, k * 6 + 2 + 1, none⟩) (by simp) (.int .i64 0)).other (p := ⟨w.heap.size, k * 6 + 2 + 2, none⟩) (by simp) (.int .i64 M[k].ch.s)).other (p := ⟨w.heap.size, k * 6 + 2 + 3, none⟩) (by simp) (.int .i64 0)
    have hbn := ((((hb4.setCell (p := ⟨w.heap.size, k * 6 + 1, none⟩) (by simp) (.slice A2 0 c2)).setCell (p := ⟨w.heap.size, k * 6 + 2, none⟩) (by simp) (.int .i64 0)).setCell (p := ⟨w.heap.size, k * 6 + 2 + 1, none⟩) (by simp) (.int .i64 0)).setCell (p := ⟨w.heap.size, k * 6 + 2 + 2, none⟩) (by simp) (.int .i64 M[k].ch.s)).setCell (p := ⟨w.heap.size, k * 6 + 2 + 3, none⟩) (by simp) (.int .i64 0)
    have hrn := hr2.only1 (scs_noByte hk0) (((((Only.refl w.heap.size none w2).put (k * 6 + 1) (.slice A2 0 c2)).put (k * 6 + 2) (.int .i64 0)).put (k * 6 + 2 + 1) (.int .i64 0)).put (k * 6 + 2 + 2) (.int .i64 M[k].ch.s) |>.put (k * 6 + 2 + 3) (.int .i64 0))
    obtain ⟨W1, hW1⟩ : ∃ W1 : World, W1 = (((((w2.setCell ⟨w.heap.size, k * 6 + 1, none⟩ (.slice A2 0 c2)).setCell ⟨w.heap.size, k * 6 + 2, none⟩ (.int .i64 0)).setCell ⟨w.heap.size, k * 6 + 2 + 1, none⟩ (.int .i64 0)).setCell ⟨w.heap.size, k * 6 + 2 + 2, none⟩ (.int .i64 M[k].ch.s)).setCell ⟨w.heap.size, k * 6 + 2 + 3, none⟩ (.int .i64 0)) := ⟨_, rfl⟩
    rw [← hW1] at hn0 hn1 hbn hrn
    have hW := Lib.hid hW1
    clear hW1
    have hbe := below_setRow hbn (Nat.le_add_right _ 1) (scs (M.set k y))
    have hre := hrn.only1 (scs_noByte hn1) (only_row hn1 (scs (M.set k y)))
    have HYR : Hid (RB (W1.setRow (w.heap.size + 1) (scs (M.set k y))) y.A y.ch.app ∧ y.ch.app.length ≤ 16) := by
      have hyA : y.A = A2 := by rw [hy]
      have hya : y.ch.app = [] := by rw [hy]
      rw [hyA, hya]
      exact ⟨hre, HL⟩
    have HY : Hid (y.ch = ⟨M[k].ch.o, [], 0, 0, M[k].ch.s, 0⟩) := by rw [hy]; exact rfl
    clear hy hy1 hs1
    go_upto_region 8 with fail
    rw [← hW.out]
    clear hW c1 d2 d3 d4 d5 f
    go_wp2_with (first
      | (refine wpList_load_row rfl _ _ rfl w.heap.size rfl _ (scs (M.set k y)) _ _ hn0.out Try.underlying32 rfl hin ?_)
      | (refine wpList_store_row rfl _ _ _ rfl (w.heap.size + 1) (scs (M.set k y)) rfl rfl _ _ hn1.out hin (by rw [hz1, hzn]) hon ?_))
    refine bodyPost_ret (results_cell_pair rfl _ _ (w.heap.size + 1) _ _ _ _ rfl (hn1.row (scs (M.set k y))).out Try.underlying32 rfl hin) rfl ?_
    exact ⟨M.set k y, rfl, hN4, by rw [chs_set, HY.out], (hM.below hbe).put k y HYR.out, hbe⟩
  · have i0 : ¬ (xs.length = 0) := by omega
    have i1 : ¬ (xs.length < 5) := by omega
    have i2 : ¬ (16 < xs.length) := by omega
    go_enter Try.func27, Try.ntmps27
    go_upto_region 1 with fail
    rw [← hW0]
    clear hW0
    go_wp2_with (refine wpList_load_row rfl _ _ rfl w.heap.size rfl _ (scs M) _ _ hk0.out Try.underlying32 rfl hi0 ?_)
    refine hq.mono ?_
    clear hq
    rintro e w1 ⟨rfl, hb1⟩
    have hk0 := hk0.below hb1 hk0.size
    have hk1 := hk1.below hb1 hk1.size
    have hb2 := hb.trans (hb1.mono hb.size)
    have hba := (Below.refl w1.heap.size w1).alloc (Nat.le_refl _) (.cells #[.slice A xs.length c] 23)
    have hxa := ((hr.below hb2).below hba)
    have hcl : (w1.alloc (.cells #[.slice A xs.length c] 23)).cell? ⟨w1.heap.size, 0, none⟩ = some (.slice A xs.length c) := (Blk.made w1 23 #[.slice A xs.length c]).cell 0
    have hj := join_any w1.heap.size 1 [⟨A, c, xs⟩] (w1.alloc (.cells #[.slice A xs.length c] 23)) (by simp) (by first | (simp [joinS]; done) | (simp [joinS]; omega)) (fun j hj => by
      have h0 : j = 0 := by simpa using hj
      subst h0
      exact ⟨hcl, hxa⟩)
    rw [show joinS [⟨A, c, xs⟩] = xs from by simp [joinS]] at hj
    have hJ := Lib.hid hj
    clear hj hcl
    go_wp2_with fail
    refine hJ.out.mono ?_
    rintro e w2 ⟨A2, c2, rfl, hc2, hr2, hb3⟩
    have hb4 := hb2.trans ((hba.trans (hb3.mono hba.size)).mono hb2.size)
    have hk0 := (hk0.below hba hk0.size).below hb3 (Nat.lt_of_lt_of_le hk0.size hba.size)
    have hk1 := (hk1.below hba hk1.size).below hb3 (Nat.lt_of_lt_of_le hk1.size hba.size)
    have c1 : w2.cell? ⟨w.heap.size, k * 6 + 1, none⟩ = some (.slice M[k].A M[k].ch.app.length M[k].c) := scs_cell hk0 k 1 hk (by omega)
    have d2 : w2.cell? ⟨w.heap.size, k * 6 + 2, none⟩ = some (.int .i64 M[k].ch.p) := scs_cell hk0 k 2 hk (by omega)
    have d3 : w2.cell? ⟨w.heap.size, k * 6 + 2 + 1, none⟩ = some (.int .i64 M[k].ch.k) := scs_cell hk0 k 3 hk (by omega)
    have d4 : w2.cell? ⟨w.heap.size, k * 6 + 2 + 2, none⟩ = some (.int .i64 M[k].ch.s) := scs_cell hk0 k 4 hk (by omega)
    have d5 : w2.cell? ⟨w.heap.size, k * 6 + 2 + 3, none⟩ = some (.int .i64 M[k].ch.l) := scs_cell hk0 k 5 hk (by omega)
    have f := hk0.free
    obtain ⟨y1, hy1⟩ : ∃ y1 : Ln, y1 = ⟨⟨M[k].ch.o, xs, M[k].ch.p, M[k].ch.k, M[k].ch.s, M[k].ch.l⟩, A2, c2⟩ := ⟨_, rfl⟩
    obtain ⟨y, hy⟩ : ∃ y : Ln, y = ⟨⟨M[k].ch.o, xs, 0, 0, M[k].ch.s, 0⟩, A2, c2⟩ := ⟨_, rfl⟩
    have hs1 := sput1 hk0 h4 hk y1 (.slice A2 xs.length c2) (by rw [hy1]; rfl)
    have h41 : (M.set k y1).length = 4 := by rw [List.length_set]; exact h4
    have hkl : k < (M.set k y1).length := by rw [List.length_set]; exact hk
    have hn0 := sput4 hs1 h41 hkl y (.int .i64 0) (.int .i64 0) (.int .i64 M[k].ch.s) (.int .i64 0) (by rw [hy, List.getElem_set_self, hy1]; rfl)
    rw [List.set_set] at hn0
    have hN4 : (M.set k y).length = 4 := by rw [List.length_set]; exact h4
    have hzn : (scs (M.set k y)).size = 24 := scs_size hN4
    have hin : (Try.prog.info? 32).map (·.size) = some (scs (M.set k y)).size := by rw [hzn]; rfl
    have hon := scs_one hN4
    have hn1 := ((((hk1.other (p := ⟨w.heap.size, k * 6 + 1, none⟩) (by simp) (.slice A2 xs.length c2)).other (p := ⟨w.heap.size, k * 6 + 2, none⟩) (by simp) (.int .i64 0)).other (p := ⟨w.heap.size, k * 6 + 2 + 1, none⟩) (by simp) (.int .i64 0)).other (p := ⟨w.heap.size, k * 6 + 2 + 2, none⟩) (by simp) (.int .i64 M[k].ch.s)).other (p := ⟨w.heap.size, k * 6 + 2 + 3, none⟩) (by simp) (.int .i64 0)
    have hbn := ((((hb4.setCell (p := ⟨w.heap.size, k * 6 + 1, none⟩) (by simp) (.slice A2 xs.length c2)).setCell (p := ⟨w.heap.size, k * 6 + 2, none⟩) (by simp) (.int .i64 0)).setCell (p := ⟨w.heap.size, k * 6 + 2 + 1, none⟩) (by simp) (.int .i64 0)).setCell (p := ⟨w.heap.size, k * 6 + 2 + 2, none⟩) (by simp) (.int .i64 M[k].ch.s)).setCell (p := ⟨w.heap.size, k * 6 + 2 + 3, none⟩) (by simp) (.int .i64 0)
    have hrn := hr2.only1 (scs_noByte hk0) (((((Only.refl w.heap.size none w2).put (k * 6 + 1) (.slice A2 xs.length c2)).put (k * 6 + 2) (.int .i64 0)).put (k * 6 + 2 + 1) (.int .i64 0)).put (k * 6 + 2 + 2) (.int .i64 M[k].ch.s) |>.put (k * 6 + 2 + 3) (.int .i64 0))
    obtain ⟨W1, hW1⟩ : ∃ W1 : World, W1 = (((((w2.setCell ⟨w.heap.size, k * 6 + 1, none⟩ (.slice A2 xs.length c2)).setCell ⟨w.heap.size, k * 6 + 2, none⟩ (.int .i64 0)).setCell ⟨w.heap.size, k * 6 + 2 + 1, none⟩ (.int .i64 0)).setCell ⟨w.heap.size, k * 6 + 2 + 2, none⟩ (.int .i64 M[k].ch.s)).setCell ⟨w.heap.size, k * 6 + 2 + 3, none⟩ (.int .i64 0)) := ⟨_, rfl⟩
    rw [← hW1] at hn0 hn1 hbn hrn
    have hW := Lib.hid hW1
    clear hW1
    have hbe := below_setRow hbn (Nat.le_add_right _ 1) (scs (M.set k y))
    have hre := hrn.only1 (scs_noByte hn1) (only_row hn1 (scs (M.set k y)))
    have HYR : Hid (RB (W1.setRow (w.heap.size + 1) (scs (M.set k y))) y.A y.ch.app ∧ y.ch.app.length ≤ 16) := by
      have hyA : y.A = A2 := by rw [hy]
      have hya : y.ch.app = xs := by rw [hy]
      rw [hyA, hya]
      exact ⟨hre, HL⟩
    have HY : Hid (y.ch = ⟨M[k].ch.o, xs, 0, 0, M[k].ch.s, 0⟩) := by rw [hy]; exact rfl
    clear hy hy1 hs1
    go_upto_region 8 with fail
    rw [← hW.out]
    clear hW c1 d2 d3 d4 d5 f
    go_wp2_with (first
      | (refine wpList_load_row rfl _ _ rfl w.heap.size rfl _ (scs (M.set k y)) _ _ hn0.out Try.underlying32 rfl hin ?_)
      | (refine wpList_store_row rfl _ _ _ rfl (w.heap.size + 1) (scs (M.set k y)) rfl rfl _ _ hn1.out hin (by rw [hz1, hzn]) hon ?_))
    refine bodyPost_ret (results_cell_pair rfl _ _ (w.heap.size + 1) _ _ _ _ rfl (hn1.row (scs (M.set k y))).out Try.underlying32 rfl hin) rfl ?_
    exact ⟨M.set k y, rfl, hN4, by rw [chs_set, HY.out], (hM.below hbe).put k y HYR.out, hbe⟩
theorem refSetApp_any (M : List Ln) (n : Int) (A : Option Addr) (c : Nat) (xs : List UInt8) (w : World) (h4 : M.length = 4) (hM : LnsIn w M) (hr : RB w A xs) :
    Calls Try.prog 27 #[.agg (scs M), .int .i64 n, .slice A xs.length c] w (DidR (setAppC (chs M) n xs) w) := by
  by_cases hz : whichC (chs M) n = 0
  · obtain ⟨k, hk, rfl, ho⟩ := which_zero h4 hz
    by_cases hx : xs.length ≠ 0 ∧ (xs.length < 5 ∨ 16 < xs.length)
    · have hr' : setAppC (chs M) (k : Int) xs = (chs M, 1) := by unfold setAppC; rw [if_pos hz, if_pos hx]
      rw [hr']
      exact refSetApp_arg M k A c xs.length w h4 hM hz hx.1 hx.2
    · have hr' : setAppC (chs M) (k : Int) xs = ((chs M).set k ⟨M[k].ch.o, xs, 0, 0, M[k].ch.s, 0⟩, 0) := by
        unfold setAppC
        rw [if_pos hz, if_neg hx, Int.toNat_natCast, chs_get M k hk]
      rw [hr']
      exact refSetApp_in M k A c xs w h4 hM hr hk hz (by omega)
  · have hr' : setAppC (chs M) n xs = (chs M, whichC (chs M) n) := by unfold setAppC; rw [if_neg hz]
    rw [hr']
    exact refSetApp_err M n _ _ w h4 hM rfl hz
end Go.Proofs.Ytpbgfiaaechiaaa
