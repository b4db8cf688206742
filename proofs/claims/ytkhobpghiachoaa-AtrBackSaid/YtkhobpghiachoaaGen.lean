/-
  Words for slices of any element type: their cells can be read; append onto a slice of the call's own, and onto one that is full; an equation against nil.
-/
import Derived.Test.YtkhobpghiachoaaWords
import Derived.Deep.RegionLaw
import Derived.Maps.AppendAt
import Derived.WalkSpells
namespace Go.Proofs.Ytkhobpghiachoaa
open Go.RowKit
set_option linter.unusedVariables false

/-- Type t is a slice with elements of type e, whose zero value is z, of s cells and so many bytes. -/
structure SliceT (P : Program) (t e : TypeId) (z : Value) (s bytes : Nat) : Prop where
  und : P.underlying t = some (.slice e)
  info : (P.info? e).map (fun i => (i.zero, i.size, i.bytes)) = some (some z, s, bytes)
  zs : z.cells.size = s
  pos : 0 < s
  few : bytes ≤ 128

/-- At the address A the cells cs can be read, one after the other; of no cells nothing is asked. -/
def RC (w : World) (A : Option Addr) (cs : List Value) : Prop :=
  cs ≠ [] → ∃ b off, A = some ⟨b, off, none⟩ ∧ ∀ j, (h : j < cs.length) → w.cell? ⟨b, off + j, none⟩ = some cs[j]

section
variable {w w' : World} {A : Option Addr} {cs : List Value}
theorem RC.nil (w : World) (A : Option Addr) : RC w A [] := fun h => absurd rfl h
theorem RC.at_ (h : RC w A cs) (h0 : 0 < cs.length) : ∃ b off, A = some ⟨b, off, none⟩ ∧ ∀ j, (h : j < cs.length) → w.cell? ⟨b, off + j, none⟩ = some cs[j] :=
  h (fun e => by subst e; simp at h0)
theorem RC.keep (h : RC w A cs) (hk : ∀ p : Addr, p.block < w.heap.size → some p.block = A.map (·.block) → w'.cell? p = w.cell? p) : RC w' A cs := by
  intro hne
  obtain ⟨b, off, rfl, hc⟩ := h hne
  exact ⟨b, off, rfl, fun j hj => (hk _ (cell?_lt (hc j hj)) rfl).trans (hc j hj)⟩
theorem RC.below (h : RC w A cs) (hb : Below w.heap.size w w') : RC w' A cs := h.keep fun _ hp _ => hb.cell hp
theorem RC.grown {row : Option Nat} (h : RC w A cs) (hg : w.grownBy w' row) (hne : cs ≠ [] → A.map (·.block) ≠ row) : RC w' A cs := by
  intro h0
  obtain ⟨b, off, rfl, hc⟩ := h h0
  refine ⟨b, off, rfl, fun j hj => ?_⟩
  exact hg.cell (hc j hj) (hne h0)
theorem RC.drewN (h : RC w A cs) (n : Nat) : RC (w.drewN n) A cs := h
theorem RC.take (h : RC w A cs) (n : Nat) : RC w A (cs.take n) := by
  intro hne
  have hx : cs ≠ [] := fun e => hne (by rw [e]; simp)
  obtain ⟨b, off, hA, hc⟩ := h hx
  refine ⟨b, off, hA, fun j hj => ?_⟩
  have hj2 : j < cs.length := by rw [List.length_take] at hj; omega
  rw [hc j hj2, List.getElem_take]
theorem RC.drop_at {b off : Nat} (h : RC w (some ⟨b, off, none⟩) cs) (n : Nat) : RC w (some ⟨b, off + n, none⟩) (cs.drop n) := by
  intro hne
  have hx : cs ≠ [] := fun e => hne (by rw [e]; simp)
  obtain ⟨b', off', hA, hc⟩ := h hx
  injection hA with hA
  injection hA with h1 h2
  subst h1 h2
  refine ⟨b, off + n, rfl, fun j hj => ?_⟩
  have hj2 : n + j < cs.length := by rw [List.length_drop] at hj; omega
  rw [Nat.add_assoc, hc _ hj2, List.getElem_drop]
theorem RC.made (w : World) (t : TypeId) (cs : List Value) (ca : Array Value) (hca : ca = cs.toArray) : RC (w.alloc (.cells ca t)) (some ⟨w.heap.size, 0, none⟩) cs := by
  intro _
  refine ⟨_, _, rfl, fun j hj => ?_⟩
  rw [World.cell?_alloc_at _ _ _ _ rfl, hca, Nat.zero_add]
  simp [hj]
theorem RC.news {a : Addr} (h : RC w (some a) cs) : ∀ j u, cs[j]? = some u → w.cell? (a.add j) = some u := by
  intro j u hu
  have hj : j < cs.length := by
    rcases Nat.lt_or_ge j cs.length with h | h
    · exact h
    · rw [List.getElem?_eq_none h] at hu; cases hu
  obtain ⟨b, off, hA, hc⟩ := h.at_ (by omega)
  injection hA with hA
  subst hA
  have hadd : (⟨b, off, none⟩ : Addr).add j = ⟨b, off + j, none⟩ := by unfold Addr.add; split <;> simp_all
  rw [hadd, hc j hj]
  simpa [hj] using hu
theorem rb_iff {xs : List UInt8} : RB w A xs ↔ RC w A (bv xs) := by
  constructor
  · intro h hne
    have hx : xs ≠ [] := fun e => hne (by rw [e]; rfl)
    obtain ⟨b, off, hA, hc⟩ := h hx
    exact ⟨b, off, hA, fun j hj => by rw [hc j (by simpa [bv] using hj)]; simp [bv]⟩
  · intro h hne
    have hx : bv xs ≠ [] := fun e => hne (by simpa [bv] using e)
    obtain ⟨b, off, hA, hc⟩ := h hx
    exact ⟨b, off, hA, fun j hj => by rw [hc j (by simpa [bv] using hj)]; simp [bv]⟩
end

section
variable {P : Program} {t e : TypeId} {z : Value} {s bytes : Nat} {w : World} {base n m c : Nat} {v : Value} {cs ds : List Value} {A : Option Addr}

theorem owns_reads (h : w.ownsRow base e s v n cs) : ∃ A c, v = .slice A n c ∧ n ≤ c ∧ RC w A cs := by
  rcases h.2 with ⟨rfl, hn⟩ | ⟨g, cap, cur, rfl, _, hg, hnc, _, _, ht⟩
  · have : cs = [] := List.eq_nil_of_length_eq_zero (by rw [h.1, hn, Nat.zero_mul])
    subst this
    subst hn
    exact ⟨_, _, rfl, Nat.le_refl _, RC.nil _ _⟩
  · refine ⟨_, _, rfl, hnc, fun _ => ⟨g, 0, rfl, fun j hj => ?_⟩⟩
    rw [Nat.zero_add, World.ownsRow.cellAt h j (by rw [← h.1]; exact hj)]
    simp [hj]
theorem owns_keep {w' : World} (h : w.ownsRow base e s v n cs) (hk : ∀ k, v.ownBlock = some k → w'.heap[k]? = w.heap[k]?) : w'.ownsRow base e s v n cs := by
  refine ⟨h.1, ?_⟩
  rcases h.2 with ⟨rfl, hn⟩ | ⟨g, cap, cur, rfl, h0, hg, hrest⟩
  · exact .inl ⟨rfl, hn⟩
  · exact .inr ⟨g, cap, cur, rfl, h0, (hk g rfl).trans hg, hrest⟩
theorem owns_lt (h : w.ownsRow base e s v n cs) : ∀ k, v.ownBlock = some k → base ≤ k ∧ k < w.heap.size := h.lt

/-- append onto a slice of the call's own; the source nil, empty or not. -/
theorem run_append_cells (hT : SliceT P t e z s bytes) (ty : TypeId) (hown : w.ownsRow base e s v n cs) (hr : RC w A ds) (hl : ds.length = m * s) (h1 : ∀ u ∈ ds, u.oneCell' = true)
    (hlen : n + m ≤ 68719476736) (hbase : base ≤ w.heap.size) :
    ∃ v' w', (Builtin.append_ #[t, t] ty #[v, .slice A m c]).run P w = .ok v' w' ∧ w'.ownsRow base e s v' (n + m) (cs ++ ds) ∧ Below base w w' ∧ w.grownBy w' v.ownBlock ∧
      (v'.ownBlock = v.ownBlock ∨ v'.ownBlock = some w.heap.size) := by
  obtain ⟨i, hi, hz, h2, h3⟩ := info_parts hT.info
  have hfew := hT.few
  have hpos := hT.pos
  have low : ∀ {w' : World}, w.grownBy w' v.ownBlock → Below base w w' := fun hg => (Below.refl _ _).grown hg hbase fun k hk => (hown.lt k hk).1
  rcases A with _ | ad
  · have hd : ds = [] := by
      rcases ds with _ | ⟨y, ys⟩
      · rfl
      · obtain ⟨_, _, hA, _⟩ := hr (by simp)
        cases hA
    subst hd
    have hm : m = 0 := by
      rcases Nat.eq_zero_or_pos m with h | h
      · exact h
      · have := Nat.mul_pos h hpos; simp at hl; omega
    subst hm
    refine ⟨v, w, ?_, by simpa using hown, Below.refl _ _, World.grownBy.refl _ _, .inl rfl⟩
    rcases hown.2 with ⟨rfl, _⟩ | ⟨g, cap, cur, rfl, _, _, hnc, _⟩
    · simp [Builtin.append_, run_underlying hT.und, sizeOf, typeInfo, hi, Builtin.lenOf, Builtin.firstCells]
    · simp [Builtin.append_, run_underlying hT.und, sizeOf, typeInfo, hi, Builtin.lenOf, Builtin.firstCells, hnc, storeCells]
  · have hb : (n + m) * bytes ≤ 140737488355328 := Nat.le_trans (Nat.mul_le_mul hlen hfew) (by omega)
    obtain ⟨v', w', hrun, hown', hg, _, h5⟩ := run_append_own_at (P := P) w base t ty e i z s bytes hT.und hi hz h2 h3 hT.zs hpos v n cs hown ad m c ds hl hr.news h1 (by unfold maxLen; omega) hb hbase
    exact ⟨v', w', hrun, hown', low hg, hg, h5⟩

theorem wp_append_cells {o : Oper} {a : Act} {K : Act → World → Prop} {Q : Exit → Act → World → Prop} (hT : SliceT P t e z s bytes) (x y : Operand)
    (ho : o.op = .call { callee := .builtin .append, args := #[x, y], argTypes := #[t, t] })
    (hx : a.eval x = v) (hy : a.eval y = .slice A m c) (hown : w.ownsRow base e s v n cs) (hr : RC w A ds) (hl : ds.length = m * s) (h1 : ∀ u ∈ ds, u.oneCell' = true)
    (hlen : n + m ≤ 68719476736) (hbase : base ≤ w.heap.size)
    (h : ∀ v' w', w'.ownsRow base e s v' (n + m) (cs ++ ds) → Below base w w' → w.grownBy w' v.ownBlock → K (a.put o.dst v') w') : o.wp P a w K Q := by
  obtain ⟨v', w', hrun, h2, h3, h4, _⟩ := run_append_cells (c := c) hT o.type hown hr hl h1 hlen hbase
  unfold Oper.wp execOp
  simp only [ho, resolve, invoke, builtin, Sem.run_bind, Sem.run_pure, Result.andThen_ok, List.map_toArray, List.map_cons, List.map_nil, hx, hy, hrun]
  exact h v' w' h2 h3 h4
theorem wpList_append_cells {ops : Array Oper} {rest : List Oper} {o : Oper} {a : Act} {Q : Exit → Act → World → Prop} (hgd : o.guard = none) (hT : SliceT P t e z s bytes) (x y : Operand)
    (ho : o.op = .call { callee := .builtin .append, args := #[x, y], argTypes := #[t, t] })
    (hx : a.eval x = v) (hy : a.eval y = .slice A m c) (hown : w.ownsRow base e s v n cs) (hr : RC w A ds) (hl : ds.length = m * s) (h1 : ∀ u ∈ ds, u.oneCell' = true)
    (hlen : n + m ≤ 68719476736) (hbase : base ≤ w.heap.size)
    (h : ∀ v' w', w'.ownsRow base e s v' (n + m) (cs ++ ds) → Below base w w' → w.grownBy w' v.ownBlock → wpList P ops Q rest (a.put o.dst v') w') : wpList P ops Q (o :: rest) a w :=
  wpList_plain hgd fun _ hK => wp_append_cells hT x y ho hx hy hown hr hl h1 hlen hbase fun v' w' h2 h3 h4 => hK _ _ (h v' w' h2 h3 h4)
theorem step_append_cells {ops : Array Oper} {o : Oper} {a : Act} {K : Act → World → Prop} {Q : Exit → Act → World → Prop} {E : Prop} (hgd : o.guard = none) (hT : SliceT P t e z s bytes) (x y : Operand)
    (ho : o.op = .call { callee := .builtin .append, args := #[x, y], argTypes := #[t, t] })
    (hx : a.eval x = v) (hy : a.eval y = .slice A m c) (hown : w.ownsRow base e s v n cs) (hr : RC w A ds) (hl : ds.length = m * s) (h1 : ∀ u ∈ ds, u.oneCell' = true)
    (hlen : n + m ≤ 68719476736) (hbase : base ≤ w.heap.size)
    (h : ∀ v' w', w'.ownsRow base e s v' (n + m) (cs ++ ds) → Below base w w' → w.grownBy w' v.ownBlock → K (a.put o.dst v') w') :
    if Region.wanted o (yielded ops a.tmps) = true then Oper.wp P o a w K Q else E := by
  have hw : Region.wanted o (yielded ops a.tmps) = true := by simp [Region.wanted, hgd]
  rw [if_pos hw]
  exact wp_append_cells hT x y ho hx hy hown hr hl h1 hlen hbase h

/-- A slice that is held in a field: at the head of a row of its own, with whatever room behind it; or full. -/
def Held (e : TypeId) (s : Nat) (w : World) (v : Value) (n : Nat) (cs : List Value) : Prop :=
  w.ownsRow 0 e s v n cs ∨ ∃ b off, v = .slice (some ⟨b, off, none⟩) n n ∧ b < w.heap.size ∧ cs.length = n * s ∧ ∀ j, (h : j < cs.length) → w.cell? ⟨b, off + j, none⟩ = some cs[j]
theorem Held.reads (h : Held e s w v n cs) : ∃ A c, v = .slice A n c ∧ n ≤ c ∧ RC w A cs := by
  rcases h with h | ⟨b, off, rfl, _, _, hc⟩
  · exact owns_reads h
  · exact ⟨_, _, rfl, Nat.le_refl _, fun _ => ⟨b, off, rfl, hc⟩⟩
theorem Held.length (h : Held e s w v n cs) : cs.length = n * s := by
  rcases h with h | ⟨b, off, rfl, _, hl, _⟩
  · exact h.1
  · exact hl
theorem Held.lt (h : Held e s w v n cs) : ∀ k, v.ownBlock = some k → k < w.heap.size := by
  rcases h with h | ⟨b, off, rfl, hb, _, _⟩
  · exact fun k hk => (h.lt k hk).2
  · intro k hk
    have : b = k := by simpa [Value.ownBlock] using hk
    omega
theorem Held.keep {w' : World} (h : Held e s w v n cs) (hs : w.heap.size ≤ w'.heap.size) (hk : ∀ k, v.ownBlock = some k → w'.heap[k]? = w.heap[k]?) : Held e s w' v n cs := by
  rcases h with h | ⟨b, off, rfl, hb, hl, hc⟩
  · refine .inl ⟨h.1, ?_⟩
    rcases h.2 with ⟨rfl, hn⟩ | ⟨g, cap, cur, rfl, h0, hg, h1, h2, h3, h4⟩
    · exact .inl ⟨rfl, hn⟩
    · exact .inr ⟨g, cap, cur, rfl, h0, (hk g rfl).trans hg, h1, h2, h3, h4⟩
  · exact .inr ⟨b, off, rfl, Nat.lt_of_lt_of_le hb hs, hl, fun j hj => (World.cell?_of_block (hk b rfl)).trans (hc j hj)⟩

theorem run_append_held (hT : SliceT P t e z s bytes) (ty : TypeId) (hown : Held e s w v n cs) (hr : RC w A ds) (hl : ds.length = m * s) (h1 : ∀ u ∈ ds, u.oneCell' = true) (hlen : n + m ≤ 68719476736) :
    ∃ v' w', (Builtin.append_ #[t, t] ty #[v, .slice A m c]).run P w = .ok v' w' ∧ Held e s w' v' (n + m) (cs ++ ds) ∧ w.grownBy w' v.ownBlock ∧
      (v'.ownBlock = v.ownBlock ∨ ∃ k, v'.ownBlock = some k ∧ w.heap.size ≤ k) := by
  obtain ⟨i, hi, hz, h2, h3⟩ := info_parts hT.info
  have hpos := hT.pos
  rcases hown with hown | ⟨b, off, rfl, hb, hcl, hc⟩
  · obtain ⟨v', w', hrun, h4, _, h5, h6⟩ := run_append_cells (c := c) hT ty hown hr hl h1 hlen (Nat.zero_le _)
    refine ⟨v', w', hrun, .inl h4, h5, ?_⟩
    rcases h6 with h6 | h6
    · exact .inl h6
    · exact .inr ⟨_, h6, Nat.le_refl _⟩
  · rcases Nat.eq_zero_or_pos m with hm | hm
    · subst hm
      have hd : ds = [] := List.eq_nil_of_length_eq_zero (by rw [hl, Nat.zero_mul])
      subst hd
      refine ⟨_, w, ?_, .inr ⟨b, off, rfl, hb, by simpa using hcl, by simpa using hc⟩, World.grownBy.refl _ _, .inl rfl⟩
      rcases A with _ | ad
      · simp [Builtin.append_, run_underlying hT.und, sizeOf, typeInfo, hi, Builtin.lenOf, Builtin.firstCells, storeCells]
      · have hlc := run_loadCells_list (P := P) w ad [] (fun j v hj => by simp at hj)
        simp only [List.length_nil] at hlc
        simp [Builtin.append_, run_underlying hT.und, sizeOf, typeInfo, hi, Builtin.lenOf, Builtin.firstCells, storeCells, hlc]
    · have hdl : 0 < ds.length := by rw [hl]; exact Nat.mul_pos hm hpos
      obtain ⟨b', off', rfl, hc'⟩ := hr.at_ hdl
      have hby : (n + m) * bytes ≤ 140737488355328 := Nat.le_trans (Nat.mul_le_mul hlen hT.few) (by omega)
      obtain ⟨v', w', hrun, h4, h5⟩ := run_append_arg_grows (P := P) w t ty e i z s bytes hT.und hi hz h2 h3 hT.zs hpos ⟨b, off, none⟩ n n cs hcl (by
          have : RC w (some ⟨b, off, none⟩) cs := fun _ => ⟨b, off, rfl, hc⟩
          exact this.news) ⟨b', off', none⟩ m c ds hl hr.news (by omega) (by unfold maxLen; omega) hby
      refine ⟨v', w', hrun, .inl ?_, ?_, ?_⟩
      · refine ⟨h4.1, ?_⟩
        rcases h4.2 with h | ⟨g, cap, cur, hv, _, hrest⟩
        · exact .inl h
        · exact .inr ⟨g, cap, cur, hv, Nat.zero_le _, hrest⟩
      · exact ⟨h5.os, h5.tape, h5.output, h5.size, fun k hk _ => h5.block k hk (by simp)⟩
      · rcases h4.2 with ⟨_, hn⟩ | ⟨g, cap, cur, hv, hg, _⟩
        · omega
        · exact .inr ⟨g, by rw [hv]; rfl, hg⟩

theorem wp_append_held {o : Oper} {a : Act} {K : Act → World → Prop} {Q : Exit → Act → World → Prop} (hT : SliceT P t e z s bytes) (x y : Operand)
    (ho : o.op = .call { callee := .builtin .append, args := #[x, y], argTypes := #[t, t] })
    (hx : a.eval x = v) (hy : a.eval y = .slice A m c) (hown : Held e s w v n cs) (hr : RC w A ds) (hl : ds.length = m * s) (h1 : ∀ u ∈ ds, u.oneCell' = true)
    (hlen : n + m ≤ 68719476736)
    (h : ∀ v' w', Held e s w' v' (n + m) (cs ++ ds) → w.grownBy w' v.ownBlock → (v'.ownBlock = v.ownBlock ∨ ∃ k, v'.ownBlock = some k ∧ w.heap.size ≤ k) → K (a.put o.dst v') w') : o.wp P a w K Q := by
  obtain ⟨v', w', hrun, h2, h3, h4⟩ := run_append_held (c := c) hT o.type hown hr hl h1 hlen
  unfold Oper.wp execOp
  simp only [ho, resolve, invoke, builtin, Sem.run_bind, Sem.run_pure, Result.andThen_ok, List.map_toArray, List.map_cons, List.map_nil, hx, hy, hrun]
  exact h v' w' h2 h3 h4
theorem wpList_append_held {ops : Array Oper} {rest : List Oper} {o : Oper} {a : Act} {Q : Exit → Act → World → Prop} (hgd : o.guard = none) (hT : SliceT P t e z s bytes) (x y : Operand)
    (ho : o.op = .call { callee := .builtin .append, args := #[x, y], argTypes := #[t, t] })
    (hx : a.eval x = v) (hy : a.eval y = .slice A m c) (hown : Held e s w v n cs) (hr : RC w A ds) (hl : ds.length = m * s) (h1 : ∀ u ∈ ds, u.oneCell' = true)
    (hlen : n + m ≤ 68719476736)
    (h : ∀ v' w', Held e s w' v' (n + m) (cs ++ ds) → w.grownBy w' v.ownBlock → (v'.ownBlock = v.ownBlock ∨ ∃ k, v'.ownBlock = some k ∧ w.heap.size ≤ k) → wpList P ops Q rest (a.put o.dst v') w') : wpList P ops Q (o :: rest) a w :=
  wpList_plain hgd fun _ hK => wp_append_held hT x y ho hx hy hown hr hl h1 hlen fun v' w' h2 h3 h4 => hK _ _ (h v' w' h2 h3 h4)
end
end Go.Proofs.Ytkhobpghiachoaa
