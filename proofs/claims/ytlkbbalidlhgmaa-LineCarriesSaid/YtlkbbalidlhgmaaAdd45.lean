/-
  The reference for the line: Add.
-/
import Derived.Test.YtlkbbalidlhgmaaHap45
namespace Go.Proofs.Ytlkbbalidlhgmaa
open Go.RowKit
set_option linter.unusedVariables false

theorem state_info : (Try.prog.info? 35).map (·.size) = some 2 := by kernel_rfl

/-- What Add returns. -/
def Added (ls : List Lk) (N : Int) (w : World) (e : Ending) (w' : World) : Prop :=
  ∃ A1 c1, e = .returned (.agg #[.slice A1 ls.length c1, .int .i64 N]) ∧ RC w' A1 (lv ls) ∧ (∀ k, A1.map (·.block) = some k → w.heap.size ≤ k) ∧ ls.length ≤ c1 ∧ Below w.heap.size w w'

theorem radd_any (A : Option Addr) (c : Nat) (ls : List Lk) (N : Int) (B : Option Addr) (d : Nat) (xs : List Lk) (w : World) (hl : ls.length ≤ 1048576) (hl2 : xs.length ≤ 1048576) (hr : RC w A (lv ls)) (hx : RC w B (lv xs)) :
    Calls Try.prog 10 #[.agg #[.slice A ls.length c, .int .i64 N], .slice B xs.length d] w (Added (ls ++ xs) N w) := by
  have hT := linkT
  have hb0 := ((Below.refl w.heap.size w).alloc (Nat.le_refl _) (.cells #[.slice A ls.length c, .int .i64 N] 35)).alloc (by simp) (.cells #[.slice none 0 0, .int .i64 0] 35)
  have hk0 := (Blk.made w 35 #[.slice A ls.length c, .int .i64 N]).alloc (.cells #[.slice none 0 0, .int .i64 0] 35)
  have hk1 := Blk.made (w.alloc (.cells #[.slice A ls.length c, .int .i64 N] 35)) 35 #[.slice none 0 0, .int .i64 0]
  rw [show (w.alloc (.cells #[.slice A ls.length c, .int .i64 N] 35)).heap.size = w.heap.size + 1 from by simp] at hk1
  have hr0 := hr.below hb0
  have hx0 := hx.below hb0
  have HV := Lib.hid (lv_length ls)
  have HX := Lib.hid (lv_length xs)
  go_enter Try.func10, Try.ntmps10
  go_wp2_with (at_builtin; first
    | (refine wpList_append_cells rfl hT (.tmp 6) (.tmp 8) rfl rfl rfl (World.ownsRow_nil _ (w.heap.size + 2) _ _) hr0 HV.out (lv_one ls) (by omega) (by simp) ?_; intro v2 w2 hown2 hb2 hg2; rw [Nat.zero_add, List.nil_append] at hown2; have hk2 := hk0.below hb2 (by simp); have hk3 := hk1.below hb2 (by simp); have c0 : w2.cell? ⟨w.heap.size, 0, none⟩ = some (.slice A ls.length c) := hk2.cell 0; have hs2 : w.heap.size + 2 ≤ w2.heap.size := by have h := hb2.size; simpa using h)
    | (refine wpList_append_cells rfl hT (.tmp 10) (.tmp 11) rfl rfl rfl hown2 ((hx0.below (hb2.mono (by simp)))) HX.out (lv_one xs) (by omega) (by omega) ?_; intro v3 w3 hown3 hb3 hg3; rw [← lv_append] at hown3; have hk4 := hk2.below hb3 (by omega); have hk5 := hk3.below hb3 (by omega); have f0 := hk4.free 0; have f1 := hk5.free 0; have f2 := hk5.free 1; have hbw := hb0.trans ((hb2.trans hb3).mono (by omega)); have hs3 : w.heap.size + 2 ≤ w3.heap.size := (by have h := hb3.size; omega); have hlt3 := hown3.lt; obtain ⟨A3, c3, rfl, hc3, hr3⟩ := owns_reads hown3; have n0 : w3.cell? ⟨w.heap.size, 0, none⟩ = some (.slice A ls.length c) := hk4.cell 0; have n1 : w3.cell? ⟨w.heap.size, 1, none⟩ = some (.int .i64 N) := hk4.cell 1; have m0 : w3.cell? ⟨w.heap.size + 1, 0, none⟩ = some (.slice none 0 0) := hk5.cell 0; have m1 : w3.cell? ⟨w.heap.size + 1, 1, none⟩ = some (.int .i64 0) := hk5.cell 1))
  have hk7 : Blk _ _ _ #[.slice A3 (ls.length + xs.length) c3, .int .i64 N] := ((hk5.other (p := ⟨w.heap.size, 0, none⟩) (by simp) (.slice A3 (ls.length + xs.length) c3)).put 0 (.slice A3 (ls.length + xs.length) c3)).put 1 (.int .i64 N)
  refine bodyPost_ret (results_cell_row rfl _ _ (w.heap.size + 1) _ _ _ _ rfl hk7.out Try.underlying35 rfl state_info) rfl ?_
  have hbe := ((hbw.setCell (p := ⟨w.heap.size, 0, none⟩) (Nat.le_refl _) (.slice A3 (ls.length + xs.length) c3)).setCell (p := ⟨w.heap.size + 1, 0, none⟩) (by simp) (.slice A3 (ls.length + xs.length) c3)).setCell (p := ⟨w.heap.size + 1, 1, none⟩) (by simp) (.int .i64 N)
  refine ⟨A3, c3, by rw [List.length_append], hr3.keep fun p hp hpb => ?_, fun k hk => ?_, by rw [List.length_append]; exact hc3, hbe⟩
  · have h4 := hlt3 p.block (own_map hpb.symm)
    exact World.cell?_of_block (((Below.heap_setCell _ _ _ _ (by show p.block ≠ w.heap.size + 1; omega)).trans (Below.heap_setCell _ _ _ _ (by show p.block ≠ w.heap.size + 1; omega))).trans (Below.heap_setCell _ _ _ _ (by show p.block ≠ w.heap.size; omega)))
  · have h4 := hlt3 k (own_map hk)
    omega
end Go.Proofs.Ytlkbbalidlhgmaa
