/-
  The channels' reference: First, Close.
-/
import Derived.Test.YtpbgfiaaechiaaaRefA37
namespace Go.Proofs.Ytpbgfiaaechiaaa
open Go.RowKit
set_option linter.unusedVariables false

/-- Results: a struct that lies in a cell, and a value. -/
theorem results_cell_pair {P : Program} {fn : Func} {p a : Tmp} {ty : TypeId} (h : fn.results = #[.cell p ty, .tmp a]) (tmps : Array Value) (w : World) (g : Nat) (t : TypeId) (cs : Array Value) (fr : Nat × Nat) (d : TypeDesc)
    (hp : tmps.getD p undef = .pointer (some ⟨g, 0, none⟩)) (hg : w.heap[g]? = some (.cells cs t fr))
    (hu : P.underlying ty = some d) (hd : (match d with | .struct _ | .array _ _ => true | _ => false) = true) (hi : (P.info? ty).map (·.size) = some cs.size) :
    (results fn tmps).run P w = .ok (.tuple #[.agg cs, tmps.getD a undef]) w := by
  have hp' : tmps[p]?.getD undef = .pointer (some ⟨g, 0, none⟩) := by simpa using hp
  simp [results, h, hp', asAddr, run_loadVar_row w g t ty cs fr d hg hu hd hi]
theorem results_cell_two {P : Program} {fn : Func} {p a b : Tmp} {ty : TypeId} (h : fn.results = #[.cell p ty, .tmp a, .tmp b]) (tmps : Array Value) (w : World) (g : Nat) (t : TypeId) (cs : Array Value) (fr : Nat × Nat) (d : TypeDesc)
    (hp : tmps.getD p undef = .pointer (some ⟨g, 0, none⟩)) (hg : w.heap[g]? = some (.cells cs t fr))
    (hu : P.underlying ty = some d) (hd : (match d with | .struct _ | .array _ _ => true | _ => false) = true) (hi : (P.info? ty).map (·.size) = some cs.size) :
    (results fn tmps).run P w = .ok (.tuple #[.agg cs, tmps.getD a undef, tmps.getD b undef]) w := by
  have hp' : tmps[p]?.getD undef = .pointer (some ⟨g, 0, none⟩) := by simpa using hp
  simp [results, h, hp', asAddr, run_loadVar_row w g t ty cs fr d hg hu hd hi]

theorem LnsIn.below {w w' : World} {M : List Ln} (h : LnsIn w M) (hb : Below w.heap.size w w') : LnsIn w' M := fun x hx => ⟨(h x hx).1.below hb, (h x hx).2⟩
theorem LnsIn.put {w : World} {M : List Ln} (h : LnsIn w M) (n : Nat) (y : Ln) (hy : RB w y.A y.ch.app ∧ y.ch.app.length ≤ 16) : LnsIn w (M.set n y) := fun x hx => by
  rcases List.mem_or_eq_of_mem_set hx with hx | rfl
  · exact h x hx
  · exact hy

theorem sput6 {w : World} {g : Nat} {M : List Ln} {n : Nat} {t : TypeId} (h : Blk w g t (scs M)) (h4 : M.length = 4) (hn : n < 4) (y : Ln) (v0 v1 v2 v3 v4 v5 : Value) (hy : lnCells y = [v0, v1, v2, v3, v4, v5]) :
    Blk ((((((w.setCell ⟨g, n * 6, none⟩ v0).setCell ⟨g, n * 6 + 1, none⟩ v1).setCell ⟨g, n * 6 + 2, none⟩ v2).setCell ⟨g, n * 6 + 3, none⟩ v3).setCell ⟨g, n * 6 + 4, none⟩ v4).setCell ⟨g, n * 6 + 5, none⟩ v5) g t (scs (M.set n y)) := by
  have hp := (((((h.put (n * 6) v0).put (n * 6 + 1) v1).put (n * 6 + 2) v2).put (n * 6 + 3) v3).put (n * 6 + 4) v4).put (n * 6 + 5) v5
  obtain ⟨a, b, c, d, rfl⟩ := four h4
  have e : ((((((scs [a, b, c, d]).setIfInBounds (n * 6) v0).setIfInBounds (n * 6 + 1) v1).setIfInBounds (n * 6 + 2) v2).setIfInBounds (n * 6 + 3) v3).setIfInBounds (n * 6 + 4) v4).setIfInBounds (n * 6 + 5) v5 = scs (List.set [a, b, c, d] n y) := by
    have h5 : n = 0 ∨ n = 1 ∨ n = 2 ∨ n = 3 := by omega
    rcases h5 with rfl | rfl | rfl | rfl <;> (simp [lnCells] at hy; simp [scs, lnCells, hy])
  rw [e] at hp
  exact hp
theorem sput4 {w : World} {g : Nat} {M : List Ln} {n : Nat} {t : TypeId} (h : Blk w g t (scs M)) (h4 : M.length = 4) (hn : n < M.length) (y : Ln) (v2 v3 v4 v5 : Value) (hy : lnCells y = [.bool M[n].ch.o, .slice M[n].A M[n].ch.app.length M[n].c, v2, v3, v4, v5]) :
    Blk ((((w.setCell ⟨g, n * 6 + 2, none⟩ v2).setCell ⟨g, n * 6 + 2 + 1, none⟩ v3).setCell ⟨g, n * 6 + 2 + 2, none⟩ v4).setCell ⟨g, n * 6 + 2 + 3, none⟩ v5) g t (scs (M.set n y)) := by
  have hp := (((h.put (n * 6 + 2) v2).put (n * 6 + 2 + 1) v3).put (n * 6 + 2 + 2) v4).put (n * 6 + 2 + 3) v5
  obtain ⟨a, b, c, d, rfl⟩ := four h4
  have e : ((((scs [a, b, c, d]).setIfInBounds (n * 6 + 2) v2).setIfInBounds (n * 6 + 2 + 1) v3).setIfInBounds (n * 6 + 2 + 2) v4).setIfInBounds (n * 6 + 2 + 3) v5 = scs (List.set [a, b, c, d] n y) := by
    have h5 : n = 0 ∨ n = 1 ∨ n = 2 ∨ n = 3 := by omega
    rcases h5 with rfl | rfl | rfl | rfl <;> (simp [lnCells] at hy; simp [scs, lnCells, hy])
  rw [e] at hp
  exact hp
theorem sput1 {w : World} {g : Nat} {M : List Ln} {n : Nat} {t : TypeId} (h : Blk w g t (scs M)) (h4 : M.length = 4) (hn : n < M.length) (y : Ln) (v1 : Value) (hy : lnCells y = [.bool M[n].ch.o, v1, .int .i64 M[n].ch.p, .int .i64 M[n].ch.k, .int .i64 M[n].ch.s, .int .i64 M[n].ch.l]) :
    Blk (w.setCell ⟨g, n * 6 + 1, none⟩ v1) g t (scs (M.set n y)) := by
  have hp := h.put (n * 6 + 1) v1
  obtain ⟨a, b, c, d, rfl⟩ := four h4
  have e : (scs [a, b, c, d]).setIfInBounds (n * 6 + 1) v1 = scs (List.set [a, b, c, d] n y) := by
    have h5 : n = 0 ∨ n = 1 ∨ n = 2 ∨ n = 3 := by omega
    rcases h5 with rfl | rfl | rfl | rfl <;> (simp [lnCells] at hy; simp [scs, lnCells, hy])
  rw [e] at hp
  exact hp

def zeroL : List Ln := [zeroLn, zeroLn, zeroLn, zeroLn]
/-- The state that a call of the reference returns. -/
def RSt (w : World) (S : List Ch) (w' : World) (M : List Ln) : Prop := M.length = 4 ∧ chs M = S ∧ LnsIn w' M ∧ Below w.heap.size w w'
/-- What a call of the reference leaves. -/
def DidR (r : List Ch × Int) (w : World) (e : Ending) (w' : World) : Prop := ∃ M', e = .returned (.tuple #[.agg (scs M'), .int .i64 r.2]) ∧ RSt w r.1 w' M'
def DidRO (r : List Ch × Int × Int) (w : World) (e : Ending) (w' : World) : Prop := ∃ M', e = .returned (.tuple #[.agg (scs M'), .int .i64 r.2.1, .int .i64 r.2.2]) ∧ RSt w r.1 w' M'

theorem first_any (w : World) : Calls Try.prog 9 #[] w fun e w' => e = .returned (.agg (scs firstL)) ∧ Below w.heap.size w w' := by
  have hk1 := Blk.made (w.alloc (.cells (scs zeroL) 32)) 32 (scs firstL)
  rw [show (w.alloc (.cells (scs zeroL) 32)).heap.size = w.heap.size + 1 from by simp] at hk1
  have hk0 := (Blk.made w 32 (scs zeroL)).alloc (.cells (scs firstL) 32)
  have hb := ((Below.refl w.heap.size w).alloc (Nat.le_refl _) (.cells (scs zeroL) 32)).alloc (by simp) (.cells (scs firstL) 32)
  go_enter Try.func9, Try.ntmps9
  go_wp2_with (first
    | (refine wpList_load_row rfl _ _ rfl (w.heap.size + 1) rfl _ (scs firstL) _ _ hk1.out Try.underlying32 rfl rfl ?_)
    | (refine wpList_store_row rfl _ _ _ rfl w.heap.size (scs firstL) rfl rfl _ _ hk0.out rfl rfl (scs_one (M := firstL) rfl) ?_))
  exact bodyPost_ret (results_cell_row rfl _ _ w.heap.size _ _ _ _ rfl (hk0.row _).out Try.underlying32 rfl rfl) rfl ⟨rfl, below_setRow hb (Nat.le_refl _) _⟩
set_option maxHeartbeats 1000000 in
theorem refClose_any (M : List Ln) (n : Int) (w : World) (h4 : M.length = 4) (hM : LnsIn w M) :
    Calls Try.prog 26 #[.agg (scs M), .int .i64 n] w (DidR (closeC (chs M) n) w) := by
  have hk0 : Blk ((w.alloc (.cells (scs M) 32)).alloc (.cells #[.bool false, .slice none 0 0, .int .i64 0, .int .i64 0, .int .i64 0, .int .i64 0, .bool false, .slice none 0 0, .int .i64 0, .int .i64 0, .int .i64 0, .int .i64 0, .bool false, .slice none 0 0, .int .i64 0, .int .i64 0, .int .i64 0, .int .i64 0, .bool false, .slice none 0 0, .int .i64 0, .int .i64 0, .int .i64 0, .int .i64 0] 32)) w.heap.size 32 (scs M) := (Blk.made w 32 (scs M)).alloc _
  have hk1 : Blk ((w.alloc (.cells (scs M) 32)).alloc (.cells #[.bool false, .slice none 0 0, .int .i64 0, .int .i64 0, .int .i64 0, .int .i64 0, .bool false, .slice none 0 0, .int .i64 0, .int .i64 0, .int .i64 0, .int .i64 0, .bool false, .slice none 0 0, .int .i64 0, .int .i64 0, .int .i64 0, .int .i64 0, .bool false, .slice none 0 0, .int .i64 0, .int .i64 0, .int .i64 0, .int .i64 0] 32)) (w.heap.size + 1) 32 (scs zeroL) := by
    have h := Blk.made (w.alloc (.cells (scs M) 32)) 32 (scs zeroL)
    rw [show (w.alloc (.cells (scs M) 32)).heap.size = w.heap.size + 1 from by simp] at h
    exact h
  have hb : Below w.heap.size w ((w.alloc (.cells (scs M) 32)).alloc (.cells #[.bool false, .slice none 0 0, .int .i64 0, .int .i64 0, .int .i64 0, .int .i64 0, .bool false, .slice none 0 0, .int .i64 0, .int .i64 0, .int .i64 0, .int .i64 0, .bool false, .slice none 0 0, .int .i64 0, .int .i64 0, .int .i64 0, .int .i64 0, .bool false, .slice none 0 0, .int .i64 0, .int .i64 0, .int .i64 0, .int .i64 0] 32)) := ((Below.refl w.heap.size w).alloc (Nat.le_refl _) _).alloc (by simp) _
  obtain ⟨W0, hW0⟩ : ∃ W0 : World, W0 = ((w.alloc (.cells (scs M) 32)).alloc (.cells #[.bool false, .slice none 0 0, .int .i64 0, .int .i64 0, .int .i64 0, .int .i64 0, .bool false, .slice none 0 0, .int .i64 0, .int .i64 0, .int .i64 0, .int .i64 0, .bool false, .slice none 0 0, .int .i64 0, .int .i64 0, .int .i64 0, .int .i64 0, .bool false, .slice none 0 0, .int .i64 0, .int .i64 0, .int .i64 0, .int .i64 0] 32)) := ⟨_, rfl⟩
  rw [← hW0] at hk0 hk1 hb
  have hM0 := hM.below hb
  have hz0 : (scs M).size = 24 := scs_size h4
  have hz1 : (scs zeroL).size = 24 := rfl
  have hi0 : (Try.prog.info? 32).map (·.size) = some (scs M).size := by rw [hz0]; rfl
  have ho0 := scs_one h4
  by_cases hn : n < 1 ∨ 4 ≤ n
  · have hr : closeC (chs M) n = (chs M, 2) := by
      unfold closeC
      by_cases h0 : n = 0
      · rw [if_pos h0]
      · rw [if_neg h0, which_out (by omega)]; rfl
    rw [hr]
    rcases hn with hn | hn
    · go_enter Try.func26, Try.ntmps26
      go_upto_region 1 with fail
      rw [← hW0]
      clear hW0
      go_wp2_with (first
        | (refine wpList_load_row rfl _ _ rfl w.heap.size rfl _ (scs M) _ _ hk0.out Try.underlying32 rfl hi0 ?_)
        | (refine wpList_store_row rfl _ _ _ rfl (w.heap.size + 1) (scs M) rfl rfl _ _ hk1.out hi0 (by rw [hz1, hz0]) ho0 ?_))
      refine bodyPost_ret (results_cell_pair rfl _ _ (w.heap.size + 1) _ _ _ _ rfl (hk1.row (scs M)).out Try.underlying32 rfl hi0) rfl ?_
      exact ⟨M, rfl, h4, rfl, hM.below (below_setRow hb (Nat.le_add_right _ 1) (scs M)), below_setRow hb (Nat.le_add_right _ 1) _⟩
    · have h1 : ¬ n < 1 := by omega
      go_enter Try.func26, Try.ntmps26
      go_upto_region 1 with fail
      rw [← hW0]
      clear hW0
      go_wp2_with (first
        | (refine wpList_load_row rfl _ _ rfl w.heap.size rfl _ (scs M) _ _ hk0.out Try.underlying32 rfl hi0 ?_)
        | (refine wpList_store_row rfl _ _ _ rfl (w.heap.size + 1) (scs M) rfl rfl _ _ hk1.out hi0 (by rw [hz1, hz0]) ho0 ?_))
      refine bodyPost_ret (results_cell_pair rfl _ _ (w.heap.size + 1) _ _ _ _ rfl (hk1.row (scs M)).out Try.underlying32 rfl hi0) rfl ?_
      exact ⟨M, rfl, h4, rfl, hM.below (below_setRow hb (Nat.le_add_right _ 1) (scs M)), below_setRow hb (Nat.le_add_right _ 1) _⟩
  · obtain ⟨k, rfl⟩ : ∃ k : Nat, n = (k : Int) := ⟨n.toNat, by omega⟩
    have hk : k < M.length := by omega
    have hk4 : k < 4 := by omega
    have c0 : W0.cell? ⟨w.heap.size, k * 6, none⟩ = some (.bool M[k].ch.o) := scs_cell hk0 k 0 hk (by omega)
    have h1 : ¬ ((k : Int) < 1) := by omega
    have h2 : ¬ (4 ≤ (k : Int)) := by omega
    have h3 : (k : Int) < 4 := by omega
    have h5 : (k : Int) ≠ 0 := by omega
    clear hn
    by_cases ho : M[k].ch.o = true
    · have hr : closeC (chs M) (k : Int) = ((chs M).set k zeroCh, 0) := by
        unfold closeC
        rw [if_neg h5, which_in hk h4, if_pos ho, if_pos rfl, Int.toNat_natCast]
      rw [hr]
      rw [ho] at c0
      have c1 : W0.cell? ⟨w.heap.size, k * 6 + 1, none⟩ = some (.slice M[k].A M[k].ch.app.length M[k].c) := scs_cell hk0 k 1 hk (by omega)
      have c2 : W0.cell? ⟨w.heap.size, k * 6 + 2, none⟩ = some (.int .i64 M[k].ch.p) := scs_cell hk0 k 2 hk (by omega)
      have c3 : W0.cell? ⟨w.heap.size, k * 6 + 3, none⟩ = some (.int .i64 M[k].ch.k) := scs_cell hk0 k 3 hk (by omega)
      have c4 : W0.cell? ⟨w.heap.size, k * 6 + 4, none⟩ = some (.int .i64 M[k].ch.s) := scs_cell hk0 k 4 hk (by omega)
      have c5 : W0.cell? ⟨w.heap.size, k * 6 + 5, none⟩ = some (.int .i64 M[k].ch.l) := scs_cell hk0 k 5 hk (by omega)
      have f := hk0.free
      have hN4 : (M.set k zeroLn).length = 4 := by rw [List.length_set]; exact h4
      have hzn : (scs (M.set k zeroLn)).size = 24 := scs_size hN4
      have hin : (Try.prog.info? 32).map (·.size) = some (scs (M.set k zeroLn)).size := by rw [hzn]; rfl
      have hon := scs_one hN4
      have hn0 := sput6 hk0 h4 hk4 zeroLn (.bool false) (.slice none 0 0) (.int .i64 0) (.int .i64 0) (.int .i64 0) (.int .i64 0) rfl
      have hn1 := (((((hk1.other (p := ⟨w.heap.size, k * 6, none⟩) (by simp) (.bool false)).other (p := ⟨w.heap.size, k * 6 + 1, none⟩) (by simp) (.slice none 0 0)).other (p := ⟨w.heap.size, k * 6 + 2, none⟩) (by simp) (.int .i64 0)).other (p := ⟨w.heap.size, k * 6 + 3, none⟩) (by simp) (.int .i64 0)).other (p := ⟨w.heap.size, k * 6 + 4, none⟩) (by simp) (.int .i64 0)).other (p := ⟨w.heap.size, k * 6 + 5, none⟩) (by simp) (.int .i64 0)
      have hbn := (((((hb.setCell (p := ⟨w.heap.size, k * 6, none⟩) (by simp) (.bool false)).setCell (p := ⟨w.heap.size, k * 6 + 1, none⟩) (by simp) (.slice none 0 0)).setCell (p := ⟨w.heap.size, k * 6 + 2, none⟩) (by simp) (.int .i64 0)).setCell (p := ⟨w.heap.size, k * 6 + 3, none⟩) (by simp) (.int .i64 0)).setCell (p := ⟨w.heap.size, k * 6 + 4, none⟩) (by simp) (.int .i64 0)).setCell (p := ⟨w.heap.size, k * 6 + 5, none⟩) (by simp) (.int .i64 0)
      obtain ⟨W1, hW1⟩ : ∃ W1 : World, W1 = ((((((W0.setCell ⟨w.heap.size, k * 6, none⟩ (.bool false)).setCell ⟨w.heap.size, k * 6 + 1, none⟩ (.slice none 0 0)).setCell ⟨w.heap.size, k * 6 + 2, none⟩ (.int .i64 0)).setCell ⟨w.heap.size, k * 6 + 3, none⟩ (.int .i64 0)).setCell ⟨w.heap.size, k * 6 + 4, none⟩ (.int .i64 0)).setCell ⟨w.heap.size, k * 6 + 5, none⟩ (.int .i64 0)) := ⟨_, rfl⟩
      rw [← hW1] at hn0 hn1 hbn
      have hW := Lib.hid hW1
      clear hW1
      have hbe := below_setRow hbn (Nat.le_add_right _ 1) (scs (M.set k zeroLn))
      go_enter Try.func26, Try.ntmps26
      go_upto_region 1 with fail
      rw [← hW0]
      clear hW0
      go_upto_region 6 with fail
      rw [← hW.out]
      clear hW c0 c1 c2 c3 c4 c5 f
      go_wp2_with (first
        | (refine wpList_load_row rfl _ _ rfl w.heap.size rfl _ (scs (M.set k zeroLn)) _ _ hn0.out Try.underlying32 rfl hin ?_)
        | (refine wpList_store_row rfl _ _ _ rfl (w.heap.size + 1) (scs (M.set k zeroLn)) rfl rfl _ _ hn1.out hin (by rw [hz1, hzn]) hon ?_))
      refine bodyPost_ret (results_cell_pair rfl _ _ (w.heap.size + 1) _ _ _ _ rfl (hn1.row (scs (M.set k zeroLn))).out Try.underlying32 rfl hin) rfl ?_
      exact ⟨M.set k zeroLn, rfl, hN4, by rw [chs_set]; rfl, (hM.below hbe).put k zeroLn ⟨RB.nil _ _, by decide⟩, hbe⟩
    · have hr : closeC (chs M) (k : Int) = (chs M, 14) := by
        unfold closeC
        rw [if_neg h5, which_in hk h4, if_neg ho]; rfl
      rw [hr]
      have ho' : M[k].ch.o = false := by simpa using ho
      rw [ho'] at c0
      go_enter Try.func26, Try.ntmps26
      go_upto_region 1 with fail
      rw [← hW0]
      clear hW0
      go_wp2_with (first
        | (refine wpList_load_row rfl _ _ rfl w.heap.size rfl _ (scs M) _ _ hk0.out Try.underlying32 rfl hi0 ?_)
        | (refine wpList_store_row rfl _ _ _ rfl (w.heap.size + 1) (scs M) rfl rfl _ _ hk1.out hi0 (by rw [hz1, hz0]) ho0 ?_))
      refine bodyPost_ret (results_cell_pair rfl _ _ (w.heap.size + 1) _ _ _ _ rfl (hk1.row (scs M)).out Try.underlying32 rfl hi0) rfl ?_
      exact ⟨M, rfl, h4, rfl, hM.below (below_setRow hb (Nat.le_add_right _ 1) (scs M)), below_setRow hb (Nat.le_add_right _ 1) _⟩
end Go.Proofs.Ytpbgfiaaechiaaa
