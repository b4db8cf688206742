/-
  The groups of an answer to reset: what they are, and their memory.
-/
import Derived.Test.YtkhobpghiachoaaPres
namespace Go.Proofs.Ytkhobpghiachoaa
open Go.RowKit
set_option linter.unusedVariables false

theorem flat_set {T : Type} (f : T → List Value) {s : Nat} (hf : ∀ t, (f t).length = s) (u : Value) : ∀ (ts : List T) (k r : Nat) (t' : T) (hk : k < ts.length), r < s → f t' = (f ts[k]).set r u → (ts.flatMap f).set (k * s + r) u = (ts.set k t').flatMap f
  | [], k, r, _, hk, _, _ => by simp at hk
  | t :: ts, 0, r, t', _, hr, he => by
    rw [Nat.zero_mul, Nat.zero_add, List.flatMap_cons, List.set_append_left _ _ (by rw [hf]; exact hr)]
    simp only [List.set_cons_zero, List.flatMap_cons]
    rw [he]
    rfl
  | t :: ts, k + 1, r, t', hk, hr, he => by
    have hle : (f t).length ≤ (k + 1) * s + r := by rw [hf, Nat.succ_mul]; omega
    rw [List.flatMap_cons, List.set_append_right _ _ hle, hf, show (k + 1) * s + r - s = k * s + r from by rw [Nat.succ_mul]; omega]
    rw [flat_set f hf u ts k r t' (by simpa using hk) hr he]
    rfl

/-- A group as it lies in memory while it is made. -/
structure Gm where
  p : Int
  v : Value
  xs : List If
def gL (m : Gm) : List Value := [.int .i64 m.p, m.v]
def gcs (G : List Gm) : Array Value := (G.flatMap gL).toArray
theorem gcs_cell {w : World} {g : Nat} {t : TypeId} {G : List Gm} (h : Blk w g t (gcs G)) (k r : Nat) (hk : k < G.length) (hr : r < 2) : w.cell? ⟨g, k * 2 + r, none⟩ = (gL G[k])[r]? := by
  rw [h.cell]
  unfold gcs
  rw [List.getElem?_toArray]
  exact flat_get gL (fun _ => rfl) G k r hk hr
theorem gcs_p {w : World} {g : Nat} {t : TypeId} {G : List Gm} (h : Blk w g t (gcs G)) (k : Nat) (hk : k < G.length) (p : Int) : Blk (w.setCell ⟨g, k * 2, none⟩ (.int .i64 p)) g t (gcs (G.set k ⟨p, G[k].v, G[k].xs⟩)) := by
  have h' := h.put (k * 2) (.int .i64 p)
  have e : (gcs G).setIfInBounds (k * 2) (.int .i64 p) = gcs (G.set k ⟨p, G[k].v, G[k].xs⟩) := by
    unfold gcs
    rw [List.setIfInBounds_toArray]
    congr 1
    exact flat_set gL (s := 2) (fun _ => rfl) _ G k 0 _ hk (by decide) rfl
  rw [e] at h'
  exact h'
theorem gcs_v {w : World} {g : Nat} {t : TypeId} {G : List Gm} (h : Blk w g t (gcs G)) (k : Nat) (hk : k < G.length) (v : Value) (xs : List If) : Blk (w.setCell ⟨g, k * 2 + 1, none⟩ v) g t (gcs (G.set k ⟨G[k].p, v, xs⟩)) := by
  have h' := h.put (k * 2 + 1) v
  have e : (gcs G).setIfInBounds (k * 2 + 1) v = gcs (G.set k ⟨G[k].p, v, xs⟩) := by
    unfold gcs
    rw [List.setIfInBounds_toArray]
    congr 1
    exact flat_set gL (s := 2) (fun _ => rfl) _ G k 1 _ hk (by decide) rfl
  rw [e] at h'
  exact h'

theorem ifT : SliceT Try.prog 24 47 (.agg #[.int .i64 0, .int .i64 0, .int .i64 0, .int .i64 0]) 4 32 := ⟨Try.underlying24, by kernel_rfl, rfl, by omega, by omega⟩
theorem ifv_length (l : List If) : (ifv l).length = l.length * 4 := flat_length ifL (fun _ => rfl) l
theorem ifv_append (a b : List If) : ifv (a ++ b) = ifv a ++ ifv b := by simp [ifv]
theorem ifv_one (l : List If) : ∀ u ∈ ifv l, u.oneCell' = true := by
  intro u hu
  simp only [ifv, List.mem_flatMap] at hu
  obtain ⟨x, _, hx⟩ := hu
  simp [ifL] at hx
  rcases hx with rfl | rfl | rfl | rfl <;> rfl

/-- The groups in memory: each with bytes of its own. -/
structure GOwn (w : World) (gb : Nat) (G : List Gm) : Prop where
  blk : Blk w gb 77 (gcs G)
  own : ∀ i, (h : i < G.length) → w.ownsRow (gb + 1) 47 4 G[i].v G[i].xs.length (ifv G[i].xs)
  apart : ∀ i j, (hi : i < G.length) → (hj : j < G.length) → i ≠ j → ∀ k, G[i].v.ownBlock = some k → G[j].v.ownBlock ≠ some k

theorem GOwn.below {w w' : World} {gb : Nat} {G : List Gm} (h : GOwn w gb G) (hb : Below w.heap.size w w') : GOwn w' gb G :=
  ⟨h.blk.below hb h.blk.size, fun i hi => owns_keep (h.own i hi) fun k hk => hb.block k (owns_lt (h.own i hi) k hk).2, h.apart⟩
theorem GOwn.setP {w : World} {gb : Nat} {G : List Gm} (h : GOwn w gb G) (q : Nat) (hq : q < G.length) (p : Int) : GOwn (w.setCell ⟨gb, q * 2, none⟩ (.int .i64 p)) gb (G.set q ⟨p, G[q].v, G[q].xs⟩) := by
  have hkeep : ∀ i, (hi : i < G.length) → (w.setCell ⟨gb, q * 2, none⟩ (.int .i64 p)).ownsRow (gb + 1) 47 4 G[i].v G[i].xs.length (ifv G[i].xs) := fun i hi =>
    owns_keep (h.own i hi) fun k hk => Below.heap_setCell _ _ _ _ (by have := (owns_lt (h.own i hi) k hk).1; simp; omega)
  refine ⟨gcs_p h.blk q hq p, fun i hi => ?_, fun i j hi hj hij k hk => ?_⟩
  · rw [List.length_set] at hi
    by_cases hiq : q = i
    · subst hiq
      simp only [List.getElem_set_self]
      exact hkeep q hi
    · simp only [List.getElem_set_ne hiq]
      exact hkeep i hi
  · rw [List.length_set] at hi hj
    have e : ∀ i, (hi : i < G.length) → ((G.set q ⟨p, G[q].v, G[q].xs⟩)[i]'(by rw [List.length_set]; exact hi)).v = G[i].v := fun i hi => by
      by_cases hiq : q = i
      · subst hiq; simp
      · simp [List.getElem_set_ne hiq]
    rw [e i hi] at hk
    rw [e j hj]
    exact h.apart i j hi hj hij k hk
/-- After an append to one group's bytes: the new slice is stored. -/
theorem GOwn.setV {w w1 : World} {gb : Nat} {G : List Gm} (h : GOwn w gb G) (q : Nat) (hq : q < G.length) (v' : Value) (x : If) (hg : w.grownBy w1 G[q].v.ownBlock) (hv : v'.ownBlock = G[q].v.ownBlock ∨ v'.ownBlock = some w.heap.size)
    (ho : w1.ownsRow (gb + 1) 47 4 v' (G[q].xs.length + 1) (ifv (G[q].xs ++ [x]))) :
    GOwn (w1.setCell ⟨gb, q * 2 + 1, none⟩ v') gb (G.set q ⟨G[q].p, v', G[q].xs ++ [x]⟩) := by
  have hbs := h.blk.size
  have hne : some gb ≠ G[q].v.ownBlock := fun e => by have := (owns_lt (h.own q hq) gb e.symm).1; omega
  have hB1 : Blk w1 gb 77 (gcs G) := (hg.block gb hbs hne).trans h.blk
  have hk1 : ∀ i, (hi : i < G.length) → i ≠ q → (w1.setCell ⟨gb, q * 2 + 1, none⟩ v').ownsRow (gb + 1) 47 4 G[i].v G[i].xs.length (ifv G[i].xs) := fun i hi hiq =>
    owns_keep (h.own i hi) fun k hk => by
      have hlt := owns_lt (h.own i hi) k hk
      rw [Below.heap_setCell _ _ _ _ (by simp; omega)]
      exact hg.block k hlt.2 (fun e => h.apart i q hi hq hiq k hk e.symm)
  have hkq : (w1.setCell ⟨gb, q * 2 + 1, none⟩ v').ownsRow (gb + 1) 47 4 v' (G[q].xs.length + 1) (ifv (G[q].xs ++ [x])) :=
    owns_keep ho fun k hk => Below.heap_setCell _ _ _ _ (by have := (owns_lt ho k hk).1; simp; omega)
  refine ⟨gcs_v hB1 q hq v' _, fun i hi => ?_, fun i j hi hj hij k hk => ?_⟩
  · rw [List.length_set] at hi
    by_cases hiq : q = i
    · subst hiq
      simp only [List.getElem_set_self, List.length_append, List.length_singleton]
      exact hkq
    · simp only [List.getElem_set_ne hiq]
      exact hk1 i hi (fun e => hiq e.symm)
  · rw [List.length_set] at hi hj
    by_cases hiq : q = i
    · subst hiq
      have hjq : q ≠ j := hij
      simp only [List.getElem_set_self] at hk
      simp only [List.getElem_set_ne hjq]
      intro e
      rcases hv with hv | hv
      · rw [hv] at hk
        exact h.apart q j hq hj hij k hk e
      · have h1 := (owns_lt (h.own j hj) k e).2
        rw [hk] at hv
        injection hv with hv
        omega
    · simp only [List.getElem_set_ne hiq] at hk
      by_cases hjq : q = j
      · subst hjq
        simp only [List.getElem_set_self]
        intro e
        rcases hv with hv | hv
        · rw [hv] at e
          exact h.apart i q hi hq hij k hk e
        · have h1 := (owns_lt (h.own i hi) k hk).2
          rw [e] at hv
          injection hv with hv
          omega
      · simp only [List.getElem_set_ne hjq]
        exact h.apart i j hi hj hij k hk

/-- append in a region that draws its order, with what the new slice's block is. -/
theorem step_append_own5 {P : Program} {t e : TypeId} {z : Value} {s bytes : Nat} {w : World} {base n m c : Nat} {v : Value} {cs ds : List Value} {A : Option Addr} {ops : Array Oper} {o : Oper} {a : Act} {K : Act → World → Prop} {Q : Exit → Act → World → Prop} {E : Prop} (hgd : o.guard = none) (hT : SliceT P t e z s bytes) (x y : Operand)
    (ho : o.op = .call { callee := .builtin .append, args := #[x, y], argTypes := #[t, t] })
    (hx : a.eval x = v) (hy : a.eval y = .slice A m c) (hown : w.ownsRow base e s v n cs) (hr : RC w A ds) (hl : ds.length = m * s) (h1 : ∀ u ∈ ds, u.oneCell' = true)
    (hlen : n + m ≤ 68719476736) (hbase : base ≤ w.heap.size)
    (h : ∀ v' w', w'.ownsRow base e s v' (n + m) (cs ++ ds) → Below base w w' → w.grownBy w' v.ownBlock → (v'.ownBlock = v.ownBlock ∨ v'.ownBlock = some w.heap.size) → K (a.put o.dst v') w') :
    if Region.wanted o (yielded ops a.tmps) = true then Oper.wp P o a w K Q else E := by
  have hw : Region.wanted o (yielded ops a.tmps) = true := by simp [Region.wanted, hgd]
  rw [if_pos hw]
  obtain ⟨v', w', hrun, h2, h3, h4, h5⟩ := run_append_cells (c := c) hT o.type hown hr hl h1 hlen hbase
  unfold Oper.wp execOp
  simp only [ho, resolve, invoke, builtin, Sem.run_bind, Sem.run_pure, Result.andThen_ok, List.map_toArray, List.map_cons, List.map_nil, hx, hy, hrun]
  exact h v' w' h2 h3 h4 h5
end Go.Proofs.Ytkhobpghiachoaa
