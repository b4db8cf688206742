/-
  The channels: one call on a table and on a state.
-/
import Derived.Test.YtpbgfiaaechiaaaRefF37
import Derived.Test.YtpbgfiaaechiaaaOpen37
namespace Go.Proofs.Ytpbgfiaaechiaaa
open Go.RowKit
set_option linter.unusedVariables false

theorem Only.farRow {g k : Nat} {ob : Option Nat} {a w : World} (h : Only g ob a w) (hk : a.heap.size ≤ k) (cs : Array Value) : Only g ob a (w.setRow k cs) :=
  ⟨h.os, h.tape, h.output, by simpa [World.setRow] using h.size, fun i hi h1 h2 => (setRow_other _ _ _ _ (by omega)).trans (h.block i hi h1 h2)⟩
theorem Blk.only {w w' : World} {g k : Nat} {t : TypeId} {cs : Array Value} (h : Blk w k t cs) (ho : Only g none w w') (hne : k ≠ g) : Blk w' k t cs := (ho.block k h.size hne (by simp)).trans h
theorem Blk.row_other {w : World} {g k : Nat} {t : TypeId} {cs : Array Value} (h : Blk w g t cs) (hne : g ≠ k) (cs' : Array Value) : Blk (w.setRow k cs') g t cs := (setRow_other _ _ _ _ hne).trans h
theorem LnsIn.tab {w w' : World} {g : Nat} {m : Bool} {L M : List Ln} (h : LnsIn w M) (hT : TabAt w g m L) (ho : Only g none w w') : LnsIn w' M := fun x hx => ⟨(h x hx).1.tab hT ho, (h x hx).2⟩
theorem LnsIn.rowS {w : World} {k : Nat} {t : TypeId} {M N : List Ln} (h : LnsIn w M) (hk : Blk w k t (scs N)) (cs : Array Value) : LnsIn (w.setRow k cs) M := fun x hx => ⟨(h x hx).1.only1 (scs_noByte hk) (only_row hk cs), (h x hx).2⟩
theorem TabAt.rowS {w : World} {g k : Nat} {m : Bool} {t : TypeId} {L N : List Ln} (h : TabAt w g m L) (hk : Blk w k t (scs N)) (hne : g ≠ k) (cs : Array Value) : TabAt (w.setRow k cs) g m L := ⟨h.1.row_other hne cs, h.2.1, LnsIn.rowS h.2.2 hk cs⟩

/-- The channels after a call. -/
def stepC (S : List Ch) (o : Op37) : List Ch :=
  if o.op = 0 then (openC S o.n).1 else if o.op = 1 then (closeC S o.n).1 else if o.op = 2 then (setAppC S o.n o.x).1 else if o.op = 3 then (setSecC S o.n o.t.p o.t.k o.t.s o.t.l).1 else if o.op = 4 then firstC else S
def open0 (S : List Ch) : Prop := S[0]?.map (·.o) = some true
theorem open0_set {S : List Ch} {n : Nat} {c : Ch} (h : open0 S) (hn : n = 0 → c.o = true) : open0 (S.set n c) := by
  unfold open0 at *
  by_cases h0 : n = 0
  · subst h0
    rcases S with _ | ⟨d, S⟩
    · simp at h
    · simpa using hn rfl
  · rw [List.getElem?_set_ne h0]; exact h
theorem open0_step {S : List Ch} (h : open0 S) (o : Op37) : open0 (stepC S o) := by
  unfold stepC
  by_cases h0 : o.op = 0
  · rw [if_pos h0]
    unfold openC
    by_cases hn : o.n < 0 ∨ 4 ≤ o.n
    · rw [if_pos hn]; exact h
    · rw [if_neg hn]
      by_cases hb : o.n ≠ 0 ∧ whichC S o.n = 0
      · rw [if_pos hb]; exact h
      · rw [if_neg hb]
        unfold loopO
        rcases (List.range 4).find? (freeB S o.n) with _ | k
        · exact h
        · exact open0_set h fun _ => rfl
  · rw [if_neg h0]
    by_cases h1 : o.op = 1
    · rw [if_pos h1]
      unfold closeC
      by_cases hn : o.n = 0
      · rw [if_pos hn]; exact h
      · rw [if_neg hn]
        by_cases hw : whichC S o.n = 0
        · rw [if_pos hw]
          refine open0_set h fun hk => ?_
          unfold whichC at hw
          by_cases hr : o.n < 0 ∨ 4 ≤ o.n
          · rw [if_pos hr] at hw; cases hw
          · omega
        · rw [if_neg hw]; exact h
    · rw [if_neg h1]
      by_cases h2 : o.op = 2
      · rw [if_pos h2]
        unfold setAppC
        by_cases hw : whichC S o.n = 0
        · rw [if_pos hw]
          by_cases hx : o.x.length ≠ 0 ∧ (o.x.length < 5 ∨ 16 < o.x.length)
          · rw [if_pos hx]; exact h
          · rw [if_neg hx]
            rcases hS : S[o.n.toNat]? with _ | c
            · exact h
            · refine open0_set h fun hk => ?_
              rw [hk] at hS
              unfold open0 at h
              rw [hS] at h
              simpa using h
        · rw [if_neg hw]; exact h
      · rw [if_neg h2]
        by_cases h3 : o.op = 3
        · rw [if_pos h3]
          unfold setSecC
          by_cases hw : whichC S o.n = 0
          · rw [if_pos hw]
            rcases hS : S[o.n.toNat]? with _ | c
            · exact h
            · refine open0_set h fun hk => ?_
              rw [hk] at hS
              unfold open0 at h
              rw [hS] at h
              simpa using h
          · rw [if_neg hw]; exact h
        · rw [if_neg h3]
          by_cases h4 : o.op = 4
          · rw [if_pos h4]; rfl
          · rw [if_neg h4]; exact h

/-- A table and a state that say the same. -/
structure Both (w : World) (g : Nat) (L M : List Ln) : Prop where
  tab : TabAt w g true L
  len : M.length = 4
  same : chs M = chs L
  lns : LnsIn w M
  zero : open0 (chs L)
/-- What a call leaves. -/
def DidB (g : Nat) (S : List Ch) (w : World) (e : Ending) (w' : World) : Prop := ∃ L' M', e = .returned (.tuple #[.agg (scs M'), .bool true]) ∧ Both w' g L' M' ∧ chs L' = S ∧ Only g none w w'

set_option maxHeartbeats 1000000 in
theorem do_close (g : Nat) (L M : List Ln) (o : Op37) (w : World) (hB : Both w g L M) (hx : RB w o.A o.x) (ho : o.op = 1) :
    Calls Try.prog 10 #[.pointer (some ⟨g, 0, none⟩), .agg (scs M), .agg (opCells o).toArray] w (DidB g (stepC (chs L) o) w) := by
  have hr : stepC (chs L) o = (closeC (chs L) o.n).1 := by unfold stepC; rw [if_neg (by rw [ho]; decide), if_pos ho]
  have hzr : open0 ((closeC (chs L) o.n).1) := by rw [← hr]; exact open0_step hB.zero o
  rw [hr]
  have hT := hB.tab
  have h4 := hB.len
  have hk0 : Blk (((w.alloc (.cells (scs M) 32)).alloc (.cells #[.int .i64 o.op, .int .i64 o.n, .slice o.A o.x.length o.c, .int .i64 o.t.p, .int .i64 o.t.k, .int .i64 o.t.s, .int .i64 o.t.l] 37)).alloc (.cells #[.bool false, .slice none 0 0, .int .i64 0, .int .i64 0, .int .i64 0, .int .i64 0, .bool false, .slice none 0 0, .int .i64 0, .int .i64 0, .int .i64 0, .int .i64 0, .bool false, .slice none 0 0, .int .i64 0, .int .i64 0, .int .i64 0, .int .i64 0, .bool false, .slice none 0 0, .int .i64 0, .int .i64 0, .int .i64 0, .int .i64 0] 32)) w.heap.size 32 (scs M) := ((Blk.made w 32 (scs M)).alloc _).alloc _
  have hk1 : Blk (((w.alloc (.cells (scs M) 32)).alloc (.cells #[.int .i64 o.op, .int .i64 o.n, .slice o.A o.x.length o.c, .int .i64 o.t.p, .int .i64 o.t.k, .int .i64 o.t.s, .int .i64 o.t.l] 37)).alloc (.cells #[.bool false, .slice none 0 0, .int .i64 0, .int .i64 0, .int .i64 0, .int .i64 0, .bool false, .slice none 0 0, .int .i64 0, .int .i64 0, .int .i64 0, .int .i64 0, .bool false, .slice none 0 0, .int .i64 0, .int .i64 0, .int .i64 0, .int .i64 0, .bool false, .slice none 0 0, .int .i64 0, .int .i64 0, .int .i64 0, .int .i64 0] 32)) (w.heap.size + 1) 37 #[.int .i64 o.op, .int .i64 o.n, .slice o.A o.x.length o.c, .int .i64 o.t.p, .int .i64 o.t.k, .int .i64 o.t.s, .int .i64 o.t.l] := by
    have h := (Blk.made (w.alloc (.cells (scs M) 32)) 37 #[.int .i64 o.op, .int .i64 o.n, .slice o.A o.x.length o.c, .int .i64 o.t.p, .int .i64 o.t.k, .int .i64 o.t.s, .int .i64 o.t.l]).alloc (.cells (scs zeroL) 32)
    rw [show (w.alloc (.cells (scs M) 32)).heap.size = w.heap.size + 1 from by simp] at h
    exact h
  have hk2 : Blk (((w.alloc (.cells (scs M) 32)).alloc (.cells #[.int .i64 o.op, .int .i64 o.n, .slice o.A o.x.length o.c, .int .i64 o.t.p, .int .i64 o.t.k, .int .i64 o.t.s, .int .i64 o.t.l] 37)).alloc (.cells #[.bool false, .slice none 0 0, .int .i64 0, .int .i64 0, .int .i64 0, .int .i64 0, .bool false, .slice none 0 0, .int .i64 0, .int .i64 0, .int .i64 0, .int .i64 0, .bool false, .slice none 0 0, .int .i64 0, .int .i64 0, .int .i64 0, .int .i64 0, .bool false, .slice none 0 0, .int .i64 0, .int .i64 0, .int .i64 0, .int .i64 0] 32)) (w.heap.size + 2) 32 (scs zeroL) := by
    have h := Blk.made ((w.alloc (.cells (scs M) 32)).alloc (.cells #[.int .i64 o.op, .int .i64 o.n, .slice o.A o.x.length o.c, .int .i64 o.t.p, .int .i64 o.t.k, .int .i64 o.t.s, .int .i64 o.t.l] 37)) 32 (scs zeroL)
    rw [show ((w.alloc (.cells (scs M) 32)).alloc (.cells #[.int .i64 o.op, .int .i64 o.n, .slice o.A o.x.length o.c, .int .i64 o.t.p, .int .i64 o.t.k, .int .i64 o.t.s, .int .i64 o.t.l] 37)).heap.size = w.heap.size + 2 from by simp] at h
    exact h
  have hb : Below w.heap.size w (((w.alloc (.cells (scs M) 32)).alloc (.cells #[.int .i64 o.op, .int .i64 o.n, .slice o.A o.x.length o.c, .int .i64 o.t.p, .int .i64 o.t.k, .int .i64 o.t.s, .int .i64 o.t.l] 37)).alloc (.cells #[.bool false, .slice none 0 0, .int .i64 0, .int .i64 0, .int .i64 0, .int .i64 0, .bool false, .slice none 0 0, .int .i64 0, .int .i64 0, .int .i64 0, .int .i64 0, .bool false, .slice none 0 0, .int .i64 0, .int .i64 0, .int .i64 0, .int .i64 0, .bool false, .slice none 0 0, .int .i64 0, .int .i64 0, .int .i64 0, .int .i64 0] 32)) := (((Below.refl w.heap.size w).alloc (Nat.le_refl _) _).alloc (by simp) _).alloc (by simp; omega) _
  obtain ⟨W0, hW0⟩ : ∃ W0 : World, W0 = (((w.alloc (.cells (scs M) 32)).alloc (.cells #[.int .i64 o.op, .int .i64 o.n, .slice o.A o.x.length o.c, .int .i64 o.t.p, .int .i64 o.t.k, .int .i64 o.t.s, .int .i64 o.t.l] 37)).alloc (.cells #[.bool false, .slice none 0 0, .int .i64 0, .int .i64 0, .int .i64 0, .int .i64 0, .bool false, .slice none 0 0, .int .i64 0, .int .i64 0, .int .i64 0, .int .i64 0, .bool false, .slice none 0 0, .int .i64 0, .int .i64 0, .int .i64 0, .int .i64 0, .bool false, .slice none 0 0, .int .i64 0, .int .i64 0, .int .i64 0, .int .i64 0] 32)) := ⟨_, rfl⟩
  rw [← hW0] at hk0 hk1 hk2 hb
  have hz0 : (scs M).size = 24 := scs_size h4
  have hz1 : (scs zeroL).size = 24 := rfl
  have hi0 : (Try.prog.info? 32).map (·.size) = some (scs M).size := by rw [hz0]; rfl
  have ho0 := scs_one h4
  have hgs := hT.1.size
  have hT0 := hT.below hb
  have hM0 := hB.lns.below hb
  have hx0 := hx.below hb
  have hLM := hB.same
  have hZ := hB.zero
  have n0 : W0.cell? ⟨w.heap.size + 1, 0, none⟩ = some (.int .i64 o.op) := hk1.cell 0
  have n1 : W0.cell? ⟨w.heap.size + 1, 1, none⟩ = some (.int .i64 o.n) := hk1.cell 1
  have n2 : W0.cell? ⟨w.heap.size + 1, 2, none⟩ = some (.slice o.A o.x.length o.c) := hk1.cell 2
  have n3 : W0.cell? ⟨w.heap.size + 1, 3, none⟩ = some (.int .i64 o.t.p) := hk1.cell 3
  have n4 : W0.cell? ⟨w.heap.size + 1, 3 + 1, none⟩ = some (.int .i64 o.t.k) := hk1.cell 4
  have n5 : W0.cell? ⟨w.heap.size + 1, 3 + 2, none⟩ = some (.int .i64 o.t.s) := hk1.cell 5
  have n6 : W0.cell? ⟨w.heap.size + 1, 3 + 3, none⟩ = some (.int .i64 o.t.l) := hk1.cell 6
  unfold opCells
  have hq := close_any g L o.n W0 hT0
  obtain ⟨r, hrr⟩ : ∃ r, r = closeC (chs L) o.n := ⟨_, rfl⟩
  rw [← hrr] at hq hzr ⊢
  rw [ho] at n0
  rw [ho]
  go_enter Try.func10, Try.ntmps10
  go_upto_region 1 with fail
  rw [ho] at hW0
  rw [← hW0]
  clear hW0
  go_wp2_with fail
  refine hq.mono ?_
  clear hq
  rintro e w1 ⟨rfl, L1, hT1, hc1, hn1⟩
  have hk0 := hk0.only hn1 (by omega)
  have hk1 := hk1.only hn1 (by omega)
  have hk2 := hk2.only hn1 (by omega)
  have hM1 := hM0.tab hT0 hn1
  have hx1 := hx0.tab hT0 hn1
  have n0 : w1.cell? ⟨w.heap.size + 1, 0, none⟩ = some (.int .i64 o.op) := hk1.cell 0
  have n1 : w1.cell? ⟨w.heap.size + 1, 1, none⟩ = some (.int .i64 o.n) := hk1.cell 1
  have n2 : w1.cell? ⟨w.heap.size + 1, 2, none⟩ = some (.slice o.A o.x.length o.c) := hk1.cell 2
  have n3 : w1.cell? ⟨w.heap.size + 1, 3, none⟩ = some (.int .i64 o.t.p) := hk1.cell 3
  have n4 : w1.cell? ⟨w.heap.size + 1, 3 + 1, none⟩ = some (.int .i64 o.t.k) := hk1.cell 4
  have n5 : w1.cell? ⟨w.heap.size + 1, 3 + 2, none⟩ = some (.int .i64 o.t.s) := hk1.cell 5
  have n6 : w1.cell? ⟨w.heap.size + 1, 3 + 3, none⟩ = some (.int .i64 o.t.l) := hk1.cell 6
  rw [ho] at n0
  have hq := refClose_any M o.n w1 h4 hM1
  rw [hLM, ← hrr] at hq
  go_wp2_with (refine wpList_load_row rfl _ _ rfl w.heap.size rfl _ (scs M) _ _ hk0.out Try.underlying32 rfl hi0 ?_)
  refine hq.mono ?_
  clear hq
  rintro e w2 ⟨M2, rfl, h42, hc2, hM2, hb2⟩
  have hk0 := hk0.below hb2 hk0.size
  have hk2 := hk2.below hb2 hk2.size
  have hz2 : (scs M2).size = 24 := scs_size h42
  have hi2 : (Try.prog.info? 32).map (·.size) = some (scs M2).size := by rw [hz2]; rfl
  have ho2 := scs_one h42
  have hk0' := hk0.row (scs M2)
  have hk2' := hk2.row_other (k := w.heap.size) (by omega) (scs M2)
  have hT2 := ((hT1.below hb2).rowS hk0 (by omega) (scs M2)).rowS hk2' (by omega) (scs M2)
  have hM3 := (hM2.rowS hk0 (scs M2)).rowS hk2' (scs M2)
  have hon := ((((Only.of_below (g := g) (ob := none) hb).trans hn1).trans (Only.of_below hb2)).farRow (Nat.le_refl _) (scs M2)).farRow (Nat.le_add_right _ 2) (scs M2)
  clear n0 n1 n2 n3 n4 n5 n6
  go_wp2_with (first
    | (refine wpList_store_row rfl _ _ _ rfl w.heap.size (scs M2) rfl rfl _ _ hk0.out hi2 (by rw [hz0, hz2]) ho2 ?_)
    | (refine wpList_load_row rfl _ _ rfl w.heap.size rfl _ (scs M2) _ _ hk0'.out Try.underlying32 rfl hi2 ?_)
    | (refine wpList_store_row rfl _ _ _ rfl (w.heap.size + 2) (scs M2) rfl rfl _ _ hk2'.out hi2 (by rw [hz1, hz2]) ho2 ?_))
  refine bodyPost_ret (results_cell_pair rfl _ _ (w.heap.size + 2) _ _ _ _ rfl (hk2'.row (scs M2)).out Try.underlying32 rfl hi2) rfl ?_
  exact ⟨L1, M2, rfl, ⟨hT2, h42, hc2.trans hc1.symm, hM3, by rw [hc1]; exact hzr⟩, hc1, hon⟩
set_option maxHeartbeats 1000000 in
theorem do_app (g : Nat) (L M : List Ln) (o : Op37) (w : World) (hB : Both w g L M) (hx : RB w o.A o.x) (ho : o.op = 2) :
    Calls Try.prog 10 #[.pointer (some ⟨g, 0, none⟩), .agg (scs M), .agg (opCells o).toArray] w (DidB g (stepC (chs L) o) w) := by
  have hr : stepC (chs L) o = (setAppC (chs L) o.n o.x).1 := by unfold stepC; rw [if_neg (by rw [ho]; decide), if_neg (by rw [ho]; decide), if_pos ho]
  have hzr : open0 ((setAppC (chs L) o.n o.x).1) := by rw [← hr]; exact open0_step hB.zero o
  rw [hr]
  have hT := hB.tab
  have h4 := hB.len
  have hk0 : Blk (((w.alloc (.cells (scs M) 32)).alloc (.cells #[.int .i64 o.op, .int .i64 o.n, .slice o.A o.x.length o.c, .int .i64 o.t.p, .int .i64 o.t.k, .int .i64 o.t.s, .int .i64 o.t.l] 37)).alloc (.cells #[.bool false, .slice none 0 0, .int .i64 0, .int .i64 0, .int .i64 0, .int .i64 0, .bool false, .slice none 0 0, .int .i64 0, .int .i64 0, .int .i64 0, .int .i64 0, .bool false, .slice none 0 0, .int .i64 0, .int .i64 0, .int .i64 0, .int .i64 0, .bool false, .slice none 0 0, .int .i64 0, .int .i64 0, .int .i64 0, .int .i64 0] 32)) w.heap.size 32 (scs M) := ((Blk.made w 32 (scs M)).alloc _).alloc _
  have hk1 : Blk (((w.alloc (.cells (scs M) 32)).alloc (.cells #[.int .i64 o.op, .int .i64 o.n, .slice o.A o.x.length o.c, .int .i64 o.t.p, .int .i64 o.t.k, .int .i64 o.t.s, .int .i64 o.t.l] 37)).alloc (.cells #[.bool false, .slice none 0 0, .int .i64 0, .int .i64 0, .int .i64 0, .int .i64 0, .bool false, .slice none 0 0, .int .i64 0, .int .i64 0, .int .i64 0, .int .i64 0, .bool false, .slice none 0 0, .int .i64 0, .int .i64 0, .int .i64 0, .int .i64 0, .bool false, .slice none 0 0, .int .i64 0, .int .i64 0, .int .i64 0, .int .i64 0] 32)) (w.heap.size + 1) 37 #[.int .i64 o.op, .int .i64 o.n, .slice o.A o.x.length o.c, .int .i64 o.t.p, .int .i64 o.t.k, .int .i64 o.t.s, .int .i64 o.t.l] := by
    have h := (Blk.made (w.alloc (.cells (scs M) 32)) 37 #[.int .i64 o.op, .int .i64 o.n, .slice o.A o.x.length o.c, .int .i64 o.t.p, .int .i64 o.t.k, .int .i64 o.t.s, .int .i64 o.t.l]).alloc (.cells (scs zeroL) 32)
    rw [show (w.alloc (.cells (scs M) 32)).heap.size = w.heap.size + 1 from by simp] at h
    exact h
  have hk2 : Blk (((w.alloc (.cells (scs M) 32)).alloc (.cells #[.int .i64 o.op, .int .i64 o.n, .slice o.A o.x.length o.c, .int .i64 o.t.p, .int .i64 o.t.k, .int .i64 o.t.s, .int .i64 o.t.l] 37)).alloc (.cells #[.bool false, .slice none 0 0, .int .i64 0, .int .i64 0, .int .i64 0, .int .i64 0, .bool false, .slice none 0 0, .int .i64 0, .int .i64 0, .int .i64 0, .int .i64 0, .bool false, .slice none 0 0, .int .i64 0, .int .i64 0, .int .i64 0, .int .i64 0, .bool false, .slice none 0 0, .int .i64 0, .int .i64 0, .int .i64 0, .int .i64 0] 32)) (w.heap.size + 2) 32 (scs zeroL) := by
    have h := Blk.made ((w.alloc (.cells (scs M) 32)).alloc (.cells #[.int .i64 o.op, .int .i64 o.n, .slice o.A o.x.length o.c, .int .i64 o.t.p, .int .i64 o.t.k, .int .i64 o.t.s, .int .i64 o.t.l] 37)) 32 (scs zeroL)
    rw [show ((w.alloc (.cells (scs M) 32)).alloc (.cells #[.int .i64 o.op, .int .i64 o.n, .slice o.A o.x.length o.c, .int .i64 o.t.p, .int .i64 o.t.k, .int .i64 o.t.s, .int .i64 o.t.l] 37)).heap.size = w.heap.size + 2 from by simp] at h
    exact h
  have hb : Below w.heap.size w (((w.alloc (.cells (scs M) 32)).alloc (.cells #[.int .i64 o.op, .int .i64 o.n, .slice o.A o.x.length o.c, .int .i64 o.t.p, .int .i64 o.t.k, .int .i64 o.t.s, .int .i64 o.t.l] 37)).alloc (.cells #[.bool false, .slice none 0 0, .int .i64 0, .int .i64 0, .int .i64 0, .int .i64 0, .bool false, .slice none 0 0, .int .i64 0, .int .i64 0, .int .i64 0, .int .i64 0, .bool false, .slice none 0 0, .int .i64 0, .int .i64 0, .int .i64 0, .int .i64 0, .bool false, .slice none 0 0, .int .i64 0, .int .i64 0, .int .i64 0, .int .i64 0] 32)) := (((Below.refl w.heap.size w).alloc (Nat.le_refl _) _).alloc (by simp) _).alloc (by simp; omega) _
  obtain ⟨W0, hW0⟩ : ∃ W0 : World, W0 = (((w.alloc (.cells (scs M) 32)).alloc (.cells #[.int .i64 o.op, .int .i64 o.n, .slice o.A o.x.length o.c, .int .i64 o.t.p, .int .i64 o.t.k, .int .i64 o.t.s, .int .i64 o.t.l] 37)).alloc (.cells #[.bool false, .slice none 0 0, .int .i64 0, .int .i64 0, .int .i64 0, .int .i64 0, .bool false, .slice none 0 0, .int .i64 0, .int .i64 0, .int .i64 0, .int .i64 0, .bool false, .slice none 0 0, .int .i64 0, .int .i64 0, .int .i64 0, .int .i64 0, .bool false, .slice none 0 0, .int .i64 0, .int .i64 0, .int .i64 0, .int .i64 0] 32)) := ⟨_, rfl⟩
  rw [← hW0] at hk0 hk1 hk2 hb
  have hz0 : (scs M).size = 24 := scs_size h4
  have hz1 : (scs zeroL).size = 24 := rfl
  have hi0 : (Try.prog.info? 32).map (·.size) = some (scs M).size := by rw [hz0]; rfl
  have ho0 := scs_one h4
  have hgs := hT.1.size
  have hT0 := hT.below hb
  have hM0 := hB.lns.below hb
  have hx0 := hx.below hb
  have hLM := hB.same
  have hZ := hB.zero
  have n0 : W0.cell? ⟨w.heap.size + 1, 0, none⟩ = some (.int .i64 o.op) := hk1.cell 0
  have n1 : W0.cell? ⟨w.heap.size + 1, 1, none⟩ = some (.int .i64 o.n) := hk1.cell 1
  have n2 : W0.cell? ⟨w.heap.size + 1, 2, none⟩ = some (.slice o.A o.x.length o.c) := hk1.cell 2
  have n3 : W0.cell? ⟨w.heap.size + 1, 3, none⟩ = some (.int .i64 o.t.p) := hk1.cell 3
  have n4 : W0.cell? ⟨w.heap.size + 1, 3 + 1, none⟩ = some (.int .i64 o.t.k) := hk1.cell 4
  have n5 : W0.cell? ⟨w.heap.size + 1, 3 + 2, none⟩ = some (.int .i64 o.t.s) := hk1.cell 5
  have n6 : W0.cell? ⟨w.heap.size + 1, 3 + 3, none⟩ = some (.int .i64 o.t.l) := hk1.cell 6
  unfold opCells
  have hq := setApp_any g L o.n o.A o.c o.x W0 hT0 hx0
  obtain ⟨r, hrr⟩ : ∃ r, r = setAppC (chs L) o.n o.x := ⟨_, rfl⟩
  rw [← hrr] at hq hzr ⊢
  rw [ho] at n0
  rw [ho]
  go_enter Try.func10, Try.ntmps10
  go_upto_region 1 with fail
  rw [ho] at hW0
  rw [← hW0]
  clear hW0
  go_wp2_with fail
  refine hq.mono ?_
  clear hq
  rintro e w1 ⟨rfl, L1, hT1, hc1, hn1⟩
  have hk0 := hk0.only hn1 (by omega)
  have hk1 := hk1.only hn1 (by omega)
  have hk2 := hk2.only hn1 (by omega)
  have hM1 := hM0.tab hT0 hn1
  have hx1 := hx0.tab hT0 hn1
  have n0 : w1.cell? ⟨w.heap.size + 1, 0, none⟩ = some (.int .i64 o.op) := hk1.cell 0
  have n1 : w1.cell? ⟨w.heap.size + 1, 1, none⟩ = some (.int .i64 o.n) := hk1.cell 1
  have n2 : w1.cell? ⟨w.heap.size + 1, 2, none⟩ = some (.slice o.A o.x.length o.c) := hk1.cell 2
  have n3 : w1.cell? ⟨w.heap.size + 1, 3, none⟩ = some (.int .i64 o.t.p) := hk1.cell 3
  have n4 : w1.cell? ⟨w.heap.size + 1, 3 + 1, none⟩ = some (.int .i64 o.t.k) := hk1.cell 4
  have n5 : w1.cell? ⟨w.heap.size + 1, 3 + 2, none⟩ = some (.int .i64 o.t.s) := hk1.cell 5
  have n6 : w1.cell? ⟨w.heap.size + 1, 3 + 3, none⟩ = some (.int .i64 o.t.l) := hk1.cell 6
  rw [ho] at n0
  have hq := refSetApp_any M o.n o.A o.c o.x w1 h4 hM1 hx1
  rw [hLM, ← hrr] at hq
  go_wp2_with (refine wpList_load_row rfl _ _ rfl w.heap.size rfl _ (scs M) _ _ hk0.out Try.underlying32 rfl hi0 ?_)
  refine hq.mono ?_
  clear hq
  rintro e w2 ⟨M2, rfl, h42, hc2, hM2, hb2⟩
  have hk0 := hk0.below hb2 hk0.size
  have hk2 := hk2.below hb2 hk2.size
  have hz2 : (scs M2).size = 24 := scs_size h42
  have hi2 : (Try.prog.info? 32).map (·.size) = some (scs M2).size := by rw [hz2]; rfl
  have ho2 := scs_one h42
  have hk0' := hk0.row (scs M2)
  have hk2' := hk2.row_other (k := w.heap.size) (by omega) (scs M2)
  have hT2 := ((hT1.below hb2).rowS hk0 (by omega) (scs M2)).rowS hk2' (by omega) (scs M2)
  have hM3 := (hM2.rowS hk0 (scs M2)).rowS hk2' (scs M2)
  have hon := ((((Only.of_below (g := g) (ob := none) hb).trans hn1).trans (Only.of_below hb2)).farRow (Nat.le_refl _) (scs M2)).farRow (Nat.le_add_right _ 2) (scs M2)
  clear n0 n1 n2 n3 n4 n5 n6
  go_wp2_with (first
    | (refine wpList_store_row rfl _ _ _ rfl w.heap.size (scs M2) rfl rfl _ _ hk0.out hi2 (by rw [hz0, hz2]) ho2 ?_)
    | (refine wpList_load_row rfl _ _ rfl w.heap.size rfl _ (scs M2) _ _ hk0'.out Try.underlying32 rfl hi2 ?_)
    | (refine wpList_store_row rfl _ _ _ rfl (w.heap.size + 2) (scs M2) rfl rfl _ _ hk2'.out hi2 (by rw [hz1, hz2]) ho2 ?_))
  refine bodyPost_ret (results_cell_pair rfl _ _ (w.heap.size + 2) _ _ _ _ rfl (hk2'.row (scs M2)).out Try.underlying32 rfl hi2) rfl ?_
  exact ⟨L1, M2, rfl, ⟨hT2, h42, hc2.trans hc1.symm, hM3, by rw [hc1]; exact hzr⟩, hc1, hon⟩
set_option maxHeartbeats 1000000 in
theorem do_sec (g : Nat) (L M : List Ln) (o : Op37) (w : World) (hB : Both w g L M) (hx : RB w o.A o.x) (ho : o.op = 3) :
    Calls Try.prog 10 #[.pointer (some ⟨g, 0, none⟩), .agg (scs M), .agg (opCells o).toArray] w (DidB g (stepC (chs L) o) w) := by
  have hr : stepC (chs L) o = (setSecC (chs L) o.n o.t.p o.t.k o.t.s o.t.l).1 := by unfold stepC; rw [if_neg (by rw [ho]; decide), if_neg (by rw [ho]; decide), if_neg (by rw [ho]; decide), if_pos ho]
  have hzr : open0 ((setSecC (chs L) o.n o.t.p o.t.k o.t.s o.t.l).1) := by rw [← hr]; exact open0_step hB.zero o
  rw [hr]
  have hT := hB.tab
  have h4 := hB.len
  have hk0 : Blk (((w.alloc (.cells (scs M) 32)).alloc (.cells #[.int .i64 o.op, .int .i64 o.n, .slice o.A o.x.length o.c, .int .i64 o.t.p, .int .i64 o.t.k, .int .i64 o.t.s, .int .i64 o.t.l] 37)).alloc (.cells #[.bool false, .slice none 0 0, .int .i64 0, .int .i64 0, .int .i64 0, .int .i64 0, .bool false, .slice none 0 0, .int .i64 0, .int .i64 0, .int .i64 0, .int .i64 0, .bool false, .slice none 0 0, .int .i64 0, .int .i64 0, .int .i64 0, .int .i64 0, .bool false, .slice none 0 0, .int .i64 0, .int .i64 0, .int .i64 0, .int .i64 0] 32)) w.heap.size 32 (scs M) := ((Blk.made w 32 (scs M)).alloc _).alloc _
  have hk1 : Blk (((w.alloc (.cells (scs M) 32)).alloc (.cells #[.int .i64 o.op, .int .i64 o.n, .slice o.A o.x.length o.c, .int .i64 o.t.p, .int .i64 o.t.k, .int .i64 o.t.s, .int .i64 o.t.l] 37)).alloc (.cells #[.bool false, .slice none 0 0, .int .i64 0, .int .i64 0, .int .i64 0, .int .i64 0, .bool false, .slice none 0 0, .int .i64 0, .int .i64 0, .int .i64 0, .int .i64 0, .bool false, .slice none 0 0, .int .i64 0, .int .i64 0, .int .i64 0, .int .i64 0, .bool false, .slice none 0 0, .int .i64 0, .int .i64 0, .int .i64 0, .int .i64 0] 32)) (w.heap.size + 1) 37 #[.int .i64 o.op, .int .i64 o.n, .slice o.A o.x.length o.c, .int .i64 o.t.p, .int .i64 o.t.k, .int .i64 o.t.s, .int .i64 o.t.l] := by
    have h := (Blk.made (w.alloc (.cells (scs M) 32)) 37 #[.int .i64 o.op, .int .i64 o.n, .slice o.A o.x.length o.c, .int .i64 o.t.p, .int .i64 o.t.k, .int .i64 o.t.s, .int .i64 o.t.l]).alloc (.cells (scs zeroL) 32)
    rw [show (w.alloc (.cells (scs M) 32)).heap.size = w.heap.size + 1 from by simp] at h
    exact h
  have hk2 : Blk (((w.alloc (.cells (scs M) 32)).alloc (.cells #[.int .i64 o.op, .int .i64 o.n, .slice o.A o.x.length o.c, .int .i64 o.t.p, .int .i64 o.t.k, .int .i64 o.t.s, .int .i64 o.t.l] 37)).alloc (.cells #[.bool false, .slice none 0 0, .int .i64 0, .int .i64 0, .int .i64 0, .int .i64 0, .bool false, .slice none 0 0, .int .i64 0, .int .i64 0, .int .i64 0, .int .i64 0, .bool false, .slice none 0 0, .int .i64 0, .int .i64 0, .int .i64 0, .int .i64 0, .bool false, .slice none 0 0, .int .i64 0, .int .i64 0, .int .i64 0, .int .i64 0] 32)) (w.heap.size + 2) 32 (scs zeroL) := by
    have h := Blk.made ((w.alloc (.cells (scs M) 32)).alloc (.cells #[.int .i64 o.op, .int .i64 o.n, .slice o.A o.x.length o.c, .int .i64 o.t.p, .int .i64 o.t.k, .int .i64 o.t.s, .int .i64 o.t.l] 37)) 32 (scs zeroL)
    rw [show ((w.alloc (.cells (scs M) 32)).alloc (.cells #[.int .i64 o.op, .int .i64 o.n, .slice o.A o.x.length o.c, .int .i64 o.t.p, .int .i64 o.t.k, .int .i64 o.t.s, .int .i64 o.t.l] 37)).heap.size = w.heap.size + 2 from by simp] at h
    exact h
  have hb : Below w.heap.size w (((w.alloc (.cells (scs M) 32)).alloc (.cells #[.int .i64 o.op, .int .i64 o.n, .slice o.A o.x.length o.c, .int .i64 o.t.p, .int .i64 o.t.k, .int .i64 o.t.s, .int .i64 o.t.l] 37)).alloc (.cells #[.bool false, .slice none 0 0, .int .i64 0, .int .i64 0, .int .i64 0, .int .i64 0, .bool false, .slice none 0 0, .int .i64 0, .int .i64 0, .int .i64 0, .int .i64 0, .bool false, .slice none 0 0, .int .i64 0, .int .i64 0, .int .i64 0, .int .i64 0, .bool false, .slice none 0 0, .int .i64 0, .int .i64 0, .int .i64 0, .int .i64 0] 32)) := (((Below.refl w.heap.size w).alloc (Nat.le_refl _) _).alloc (by simp) _).alloc (by simp; omega) _
  obtain ⟨W0, hW0⟩ : ∃ W0 : World, W0 = (((w.alloc (.cells (scs M) 32)).alloc (.cells #[.int .i64 o.op, .int .i64 o.n, .slice o.A o.x.length o.c, .int .i64 o.t.p, .int .i64 o.t.k, .int .i64 o.t.s, .int .i64 o.t.l] 37)).alloc (.cells #[.bool false, .slice none 0 0, .int .i64 0, .int .i64 0, .int .i64 0, .int .i64 0, .bool false, .slice none 0 0, .int .i64 0, .int .i64 0, .int .i64 0, .int .i64 0, .bool false, .slice none 0 0, .int .i64 0, .int .i64 0, .int .i64 0, .int .i64 0, .bool false, .slice none 0 0, .int .i64 0, .int .i64 0, .int .i64 0, .int .i64 0] 32)) := ⟨_, rfl⟩
  rw [← hW0] at hk0 hk1 hk2 hb
  have hz0 : (scs M).size = 24 := scs_size h4
  have hz1 : (scs zeroL).size = 24 := rfl
  have hi0 : (Try.prog.info? 32).map (·.size) = some (scs M).size := by rw [hz0]; rfl
  have ho0 := scs_one h4
  have hgs := hT.1.size
  have hT0 := hT.below hb
  have hM0 := hB.lns.below hb
  have hx0 := hx.below hb
  have hLM := hB.same
  have hZ := hB.zero
  have n0 : W0.cell? ⟨w.heap.size + 1, 0, none⟩ = some (.int .i64 o.op) := hk1.cell 0
  have n1 : W0.cell? ⟨w.heap.size + 1, 1, none⟩ = some (.int .i64 o.n) := hk1.cell 1
  have n2 : W0.cell? ⟨w.heap.size + 1, 2, none⟩ = some (.slice o.A o.x.length o.c) := hk1.cell 2
  have n3 : W0.cell? ⟨w.heap.size + 1, 3, none⟩ = some (.int .i64 o.t.p) := hk1.cell 3
  have n4 : W0.cell? ⟨w.heap.size + 1, 3 + 1, none⟩ = some (.int .i64 o.t.k) := hk1.cell 4
  have n5 : W0.cell? ⟨w.heap.size + 1, 3 + 2, none⟩ = some (.int .i64 o.t.s) := hk1.cell 5
  have n6 : W0.cell? ⟨w.heap.size + 1, 3 + 3, none⟩ = some (.int .i64 o.t.l) := hk1.cell 6
  unfold opCells
  have hq := setSec_any g L o.n o.t.p o.t.k o.t.s o.t.l W0 hT0
  obtain ⟨r, hrr⟩ : ∃ r, r = setSecC (chs L) o.n o.t.p o.t.k o.t.s o.t.l := ⟨_, rfl⟩
  rw [← hrr] at hq hzr ⊢
  simp only [secCs] at hq
  rw [ho] at n0
  rw [ho]
  go_enter Try.func10, Try.ntmps10
  go_upto_region 1 with fail
  rw [ho] at hW0
  rw [← hW0]
  clear hW0
  go_wp2_with fail
  refine hq.mono ?_
  clear hq
  rintro e w1 ⟨rfl, L1, hT1, hc1, hn1⟩
  have hk0 := hk0.only hn1 (by omega)
  have hk1 := hk1.only hn1 (by omega)
  have hk2 := hk2.only hn1 (by omega)
  have hM1 := hM0.tab hT0 hn1
  have hx1 := hx0.tab hT0 hn1
  have n0 : w1.cell? ⟨w.heap.size + 1, 0, none⟩ = some (.int .i64 o.op) := hk1.cell 0
  have n1 : w1.cell? ⟨w.heap.size + 1, 1, none⟩ = some (.int .i64 o.n) := hk1.cell 1
  have n2 : w1.cell? ⟨w.heap.size + 1, 2, none⟩ = some (.slice o.A o.x.length o.c) := hk1.cell 2
  have n3 : w1.cell? ⟨w.heap.size + 1, 3, none⟩ = some (.int .i64 o.t.p) := hk1.cell 3
  have n4 : w1.cell? ⟨w.heap.size + 1, 3 + 1, none⟩ = some (.int .i64 o.t.k) := hk1.cell 4
  have n5 : w1.cell? ⟨w.heap.size + 1, 3 + 2, none⟩ = some (.int .i64 o.t.s) := hk1.cell 5
  have n6 : w1.cell? ⟨w.heap.size + 1, 3 + 3, none⟩ = some (.int .i64 o.t.l) := hk1.cell 6
  rw [ho] at n0
  have hq := refSetSec_any M o.n o.t.p o.t.k o.t.s o.t.l w1 h4 hM1
  rw [hLM, ← hrr] at hq
  simp only [secCs] at hq
  go_wp2_with (refine wpList_load_row rfl _ _ rfl w.heap.size rfl _ (scs M) _ _ hk0.out Try.underlying32 rfl hi0 ?_)
  refine hq.mono ?_
  clear hq
  rintro e w2 ⟨M2, rfl, h42, hc2, hM2, hb2⟩
  have hk0 := hk0.below hb2 hk0.size
  have hk2 := hk2.below hb2 hk2.size
  have hz2 : (scs M2).size = 24 := scs_size h42
  have hi2 : (Try.prog.info? 32).map (·.size) = some (scs M2).size := by rw [hz2]; rfl
  have ho2 := scs_one h42
  have hk0' := hk0.row (scs M2)
  have hk2' := hk2.row_other (k := w.heap.size) (by omega) (scs M2)
  have hT2 := ((hT1.below hb2).rowS hk0 (by omega) (scs M2)).rowS hk2' (by omega) (scs M2)
  have hM3 := (hM2.rowS hk0 (scs M2)).rowS hk2' (scs M2)
  have hon := ((((Only.of_below (g := g) (ob := none) hb).trans hn1).trans (Only.of_below hb2)).farRow (Nat.le_refl _) (scs M2)).farRow (Nat.le_add_right _ 2) (scs M2)
  clear n0 n1 n2 n3 n4 n5 n6
  go_wp2_with (first
    | (refine wpList_store_row rfl _ _ _ rfl w.heap.size (scs M2) rfl rfl _ _ hk0.out hi2 (by rw [hz0, hz2]) ho2 ?_)
    | (refine wpList_load_row rfl _ _ rfl w.heap.size rfl _ (scs M2) _ _ hk0'.out Try.underlying32 rfl hi2 ?_)
    | (refine wpList_store_row rfl _ _ _ rfl (w.heap.size + 2) (scs M2) rfl rfl _ _ hk2'.out hi2 (by rw [hz1, hz2]) ho2 ?_))
  refine bodyPost_ret (results_cell_pair rfl _ _ (w.heap.size + 2) _ _ _ _ rfl (hk2'.row (scs M2)).out Try.underlying32 rfl hi2) rfl ?_
  exact ⟨L1, M2, rfl, ⟨hT2, h42, hc2.trans hc1.symm, hM3, by rw [hc1]; exact hzr⟩, hc1, hon⟩
end Go.Proofs.Ytpbgfiaaechiaaa
