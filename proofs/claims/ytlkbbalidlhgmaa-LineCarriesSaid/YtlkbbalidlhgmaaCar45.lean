/-
  The reference for the line: Carry.
-/
import Derived.Test.YtlkbbalidlhgmaaAdd45
namespace Go.Proofs.Ytlkbbalidlhgmaa
open Go.RowKit
set_option linter.unusedVariables false

/-- Bytes are read as before when two cells of another block are written. -/
theorem RB.far2 {w : World} {A : Option Addr} {xs : List UInt8} (hr : RB w A xs) (g : Nat) (hg : A.map (·.block) ≠ some g) (i j : Nat) (u v : Value) : RB ((w.setCell ⟨g, i, none⟩ u).setCell ⟨g, j, none⟩ v) A xs := by
  intro hne
  obtain ⟨b, off, rfl, hc⟩ := hr hne
  have hb : b ≠ g := fun e => hg (by rw [e]; rfl)
  exact ⟨b, off, rfl, fun k hk => (World.cell?_of_block ((Below.heap_setCell _ _ _ _ hb).trans (Below.heap_setCell _ _ _ _ hb))).trans (hc k hk)⟩

/-- Results: a struct that lies in a cell, and two values. -/
theorem results_cell_two {P : Program} {fn : Func} {p a b : Tmp} {ty : TypeId} (h : fn.results = #[.cell p ty, .tmp a, .tmp b]) (tmps : Array Value) (w : World) (g : Nat) (t : TypeId) (cs : Array Value) (fr : Nat × Nat) (d : TypeDesc)
    (hp : tmps.getD p undef = .pointer (some ⟨g, 0, none⟩)) (hg : w.heap[g]? = some (.cells cs t fr))
    (hu : P.underlying ty = some d) (hd : (match d with | .struct _ | .array _ _ => true | _ => false) = true) (hi : (P.info? ty).map (·.size) = some cs.size) :
    (results fn tmps).run P w = .ok (.tuple #[.agg cs, tmps.getD a undef, tmps.getD b undef]) w := by
  have hp' : tmps[p]?.getD undef = .pointer (some ⟨g, 0, none⟩) := by simpa using hp
  simp [results, h, hp', asAddr, run_loadVar_row w g t ty cs fr d hg hu hd hi]

/-- What Carry returns. -/
def RCarried (A : Option Addr) (ls : List Lk) (N : Int) (xs : List UInt8) (w : World) (e : Ending) (w' : World) : Prop :=
  ∃ A1 c1 A2 c2, e = .returned (.tuple #[.agg #[.slice A1 ls.tail.length c1, .int .i64 (N + 1)], .slice A2 (arrives (head1 ls) xs).length c2, .bool (!(head1 ls).lost)]) ∧
    RC w' A1 (lv ls.tail) ∧ (ls.tail ≠ [] → A1.map (·.block) = A.map (·.block)) ∧ ls.tail.length ≤ c1 ∧ RB w' A2 (arrives (head1 ls) xs) ∧ (∀ k, A2.map (·.block) = some k → w.heap.size ≤ k) ∧ Below w.heap.size w w'

theorem rcarry_nil (A : Option Addr) (c : Nat) (N : Int) (B : Option Addr) (d : Nat) (xs : List UInt8) (w : World) (h0 : 0 ≤ N) (hN : N ≤ 1048576) (hl2 : xs.length ≤ 1048576) (hx : RB w B xs) :
    Calls Try.prog 12 #[.agg #[.slice A 0 c, .int .i64 N], .slice B xs.length d] w (RCarried A [] N xs w) := by
  have hk0 := ((Blk.made w 35 #[.slice A 0 c, .int .i64 (N + 1)]).alloc (.cells #[.slice none 0 0, .int .i64 0] 35)).alloc (.cells #[.bool false, .int .i64 0] 24)
  have hk1 := (Blk.made (w.alloc (.cells #[.slice A 0 c, .int .i64 (N + 1)] 35)) 35 #[.slice none 0 0, .int .i64 0]).alloc (.cells #[.bool false, .int .i64 0] 24)
  rw [show (w.alloc (.cells #[.slice A 0 c, .int .i64 (N + 1)] 35)).heap.size = w.heap.size + 1 from by simp] at hk1
  have hb0 := (((Below.refl w.heap.size w).alloc (Nat.le_refl _) (.cells #[.slice A 0 c, .int .i64 (N + 1)] 35)).alloc (by simp) (.cells #[.slice none 0 0, .int .i64 0] 35)).alloc (by simp; omega) (.cells #[.bool false, .int .i64 0] 24)
  go_enter Try.func12, Try.ntmps12
  go_wp2_with fail
  refine (happens_any B d xs ⟨false, 0⟩ _ (by decide) hl2 (hx.below hb0)).mono ?_
  rintro e w1 ⟨A2, c2, rfl, hr2, hA2, hb2⟩
  have hs1 : w.heap.size + 3 ≤ w1.heap.size := by have h := hb2.size; simpa using h
  have k0 := hk0.below hb2 (by simp; omega)
  have k1 := hk1.below hb2 (by simp)
  have n0 : w1.cell? ⟨w.heap.size, 0, none⟩ = some (.slice A 0 c) := k0.cell 0
  have n1 : w1.cell? ⟨w.heap.size, 1, none⟩ = some (.int .i64 (N + 1)) := k0.cell 1
  have m0 : w1.cell? ⟨w.heap.size + 1, 0, none⟩ = some (.slice none 0 0) := k1.cell 0
  have m1 : w1.cell? ⟨w.heap.size + 1, 1, none⟩ = some (.int .i64 0) := k1.cell 1
  have f0 := k1.free 0
  have f1 := k1.free 1
  have k2 : Blk _ _ _ #[.slice A 0 c, .int .i64 (N + 1)] := (k1.put 0 (.slice A 0 c)).put 1 (.int .i64 (N + 1))
  have hbe := ((hb0.trans (hb2.mono (by simp; omega))).setCell (p := ⟨w.heap.size + 1, 0, none⟩) (by simp) (.slice A 0 c)).setCell (p := ⟨w.heap.size + 1, 1, none⟩) (by simp) (.int .i64 (N + 1))
  go_wp2
  refine bodyPost_ret (results_cell_two rfl _ _ (w.heap.size + 1) _ _ _ _ rfl k2.out Try.underlying35 rfl state_info) rfl ?_
  refine ⟨A, c, A2, c2, rfl, RC.nil _ _, fun h => absurd rfl h, Nat.zero_le _, hr2.far2 (w.heap.size + 1) (fun e => ?_) _ _ _ _, fun k hk => ?_, hbe⟩
  · have h := hA2 _ e
    simp at h
    omega
  · have h := hA2 _ hk
    simp at h
    omega

theorem rcarry_one (A : Option Addr) (c : Nat) (l : Lk) (ls : List Lk) (N : Int) (B : Option Addr) (d : Nat) (xs : List UInt8) (w : World) (h0 : 0 ≤ N) (hN : N ≤ 1048576) (hl : ls.length ≤ 1048576) (hc : ls.length + 1 ≤ c) (hf : (Lit.int .i64 l.flip).wf = true) (hl2 : xs.length ≤ 1048576) (hr : RC w A (lv (l :: ls))) (hx : RB w B xs) :
    Calls Try.prog 12 #[.agg #[.slice A (ls.length + 1) c, .int .i64 N], .slice B xs.length d] w (RCarried A (l :: ls) N xs w) := by
  obtain ⟨b, off, rfl, hxx⟩ := hr.at_ (by simp [lv])
  have x0 : w.cell? ⟨b, off, none⟩ = some (.bool l.lost) := hxx 0 (by simp [lv])
  have x1 : w.cell? ⟨b, off + 1, none⟩ = some (.int .i64 l.flip) := hxx 1 (by simp [lv])
  have hb : b < w.heap.size := cell?_lt x0
  have ht : RC w (some ⟨b, off + 2, none⟩) (lv ls) := hr.drop_at 2
  clear hxx
  have hb0 := (((Below.refl w.heap.size w).alloc (Nat.le_refl _) (.cells #[.slice (some ⟨b, off, none⟩) (ls.length + 1) c, .int .i64 (N + 1)] 35)).alloc (by simp) (.cells #[.slice none 0 0, .int .i64 0] 35)).alloc (by simp; omega) (.cells #[.bool false, .int .i64 0] 24)
  have y0 := (hb0.cell hb).trans x0
  have y1 := (hb0.cell (p := ⟨b, off + 1, none⟩) hb).trans x1
  clear x0 x1 hb0
  by_cases hc1 : c = 1
  · subst hc1
    obtain rfl : ls = [] := List.eq_nil_of_length_eq_zero (by omega)
    simp only [List.length_nil, Nat.zero_add] at y0 y1
    go_enter Try.func12, Try.ntmps12
    have hk0 := ((Blk.made w 35 #[.slice (some ⟨b, off, none⟩) 0 0, .int .i64 (N + 1)]).alloc (.cells #[.slice none 0 0, .int .i64 0] 35)).alloc (.cells #[.bool l.lost, .int .i64 l.flip] 24)
    have hk1 := (Blk.made (w.alloc (.cells #[.slice (some ⟨b, off, none⟩) 0 0, .int .i64 (N + 1)] 35)) 35 #[.slice none 0 0, .int .i64 0]).alloc (.cells #[.bool l.lost, .int .i64 l.flip] 24)
    rw [show (w.alloc (.cells #[.slice (some ⟨b, off, none⟩) 0 0, .int .i64 (N + 1)] 35)).heap.size = w.heap.size + 1 from by simp] at hk1
    have hb0 := (((Below.refl w.heap.size w).alloc (Nat.le_refl _) (.cells #[.slice (some ⟨b, off, none⟩) 0 0, .int .i64 (N + 1)] 35)).alloc (by simp) (.cells #[.slice none 0 0, .int .i64 0] 35)).alloc (by simp; omega) (.cells #[.bool l.lost, .int .i64 l.flip] 24)
    go_wp2_with fail
    refine (happens_any B d xs l _ hf hl2 (hx.below hb0)).mono ?_
    rintro e w1 ⟨A2, c2, rfl, hr2, hA2, hb2⟩
    have hs1 : w.heap.size + 3 ≤ w1.heap.size := by have h := hb2.size; simpa using h
    have k0 := hk0.below hb2 (by simp; omega)
    have k1 := hk1.below hb2 (by simp)
    have n0 : w1.cell? ⟨w.heap.size, 0, none⟩ = some (.slice (some ⟨b, off, none⟩) 0 0) := k0.cell 0
    have n1 : w1.cell? ⟨w.heap.size, 1, none⟩ = some (.int .i64 (N + 1)) := k0.cell 1
    have m0 : w1.cell? ⟨w.heap.size + 1, 0, none⟩ = some (.slice none 0 0) := k1.cell 0
    have m1 : w1.cell? ⟨w.heap.size + 1, 1, none⟩ = some (.int .i64 0) := k1.cell 1
    have f0 := k1.free 0
    have f1 := k1.free 1
    have k2 : Blk _ _ _ #[.slice (some ⟨b, off, none⟩) 0 0, .int .i64 (N + 1)] := (k1.put 0 (.slice (some ⟨b, off, none⟩) 0 0)).put 1 (.int .i64 (N + 1))
    have hbe := ((hb0.trans (hb2.mono (by simp; omega))).setCell (p := ⟨w.heap.size + 1, 0, none⟩) (by simp) (.slice (some ⟨b, off, none⟩) 0 0)).setCell (p := ⟨w.heap.size + 1, 1, none⟩) (by simp) (.int .i64 (N + 1))
    go_wp2
    refine bodyPost_ret (results_cell_two rfl _ _ (w.heap.size + 1) _ _ _ _ rfl k2.out Try.underlying35 rfl state_info) rfl ?_
    refine ⟨some ⟨b, off, none⟩, 0, A2, c2, rfl, RC.nil _ _, fun h => absurd rfl h, Nat.zero_le _, hr2.far2 (w.heap.size + 1) (fun e => ?_) _ _ _ _, fun k hk => ?_, hbe⟩
    · have h := hA2 _ e
      simp at h
      omega
    · have h := hA2 _ hk
      simp at h
      omega
  · go_enter Try.func12, Try.ntmps12
    have hk0 := ((Blk.made w 35 #[.slice (some ⟨b, off + 2, none⟩) ls.length (c - 1), .int .i64 (N + 1)]).alloc (.cells #[.slice none 0 0, .int .i64 0] 35)).alloc (.cells #[.bool l.lost, .int .i64 l.flip] 24)
    have hk1 := (Blk.made (w.alloc (.cells #[.slice (some ⟨b, off + 2, none⟩) ls.length (c - 1), .int .i64 (N + 1)] 35)) 35 #[.slice none 0 0, .int .i64 0]).alloc (.cells #[.bool l.lost, .int .i64 l.flip] 24)
    rw [show (w.alloc (.cells #[.slice (some ⟨b, off + 2, none⟩) ls.length (c - 1), .int .i64 (N + 1)] 35)).heap.size = w.heap.size + 1 from by simp] at hk1
    have hb0 := (((Below.refl w.heap.size w).alloc (Nat.le_refl _) (.cells #[.slice (some ⟨b, off + 2, none⟩) ls.length (c - 1), .int .i64 (N + 1)] 35)).alloc (by simp) (.cells #[.slice none 0 0, .int .i64 0] 35)).alloc (by simp; omega) (.cells #[.bool l.lost, .int .i64 l.flip] 24)
    go_wp2_with fail
    refine (happens_any B d xs l _ hf hl2 (hx.below hb0)).mono ?_
    rintro e w1 ⟨A2, c2, rfl, hr2, hA2, hb2⟩
    have hs1 : w.heap.size + 3 ≤ w1.heap.size := by have h := hb2.size; simpa using h
    have k0 := hk0.below hb2 (by simp; omega)
    have k1 := hk1.below hb2 (by simp)
    have n0 : w1.cell? ⟨w.heap.size, 0, none⟩ = some (.slice (some ⟨b, off + 2, none⟩) ls.length (c - 1)) := k0.cell 0
    have n1 : w1.cell? ⟨w.heap.size, 1, none⟩ = some (.int .i64 (N + 1)) := k0.cell 1
    have m0 : w1.cell? ⟨w.heap.size + 1, 0, none⟩ = some (.slice none 0 0) := k1.cell 0
    have m1 : w1.cell? ⟨w.heap.size + 1, 1, none⟩ = some (.int .i64 0) := k1.cell 1
    have f0 := k1.free 0
    have f1 := k1.free 1
    have k2 : Blk _ _ _ #[.slice (some ⟨b, off + 2, none⟩) ls.length (c - 1), .int .i64 (N + 1)] := (k1.put 0 (.slice (some ⟨b, off + 2, none⟩) ls.length (c - 1))).put 1 (.int .i64 (N + 1))
    have hbe := ((hb0.trans (hb2.mono (by simp; omega))).setCell (p := ⟨w.heap.size + 1, 0, none⟩) (by simp) (.slice (some ⟨b, off + 2, none⟩) ls.length (c - 1))).setCell (p := ⟨w.heap.size + 1, 1, none⟩) (by simp) (.int .i64 (N + 1))
    go_wp2
    refine bodyPost_ret (results_cell_two rfl _ _ (w.heap.size + 1) _ _ _ _ rfl k2.out Try.underlying35 rfl state_info) rfl ?_
    refine ⟨some ⟨b, off + 2, none⟩, (c - 1), A2, c2, rfl, ht.below hbe, fun h => rfl, (by show ls.length ≤ c - 1; omega), hr2.far2 (w.heap.size + 1) (fun e => ?_) _ _ _ _, fun k hk => ?_, hbe⟩
    · have h := hA2 _ e
      simp at h
      omega
    · have h := hA2 _ hk
      simp at h
      omega

end Go.Proofs.Ytlkbbalidlhgmaa
