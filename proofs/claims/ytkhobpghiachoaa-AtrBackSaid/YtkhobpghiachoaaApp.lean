/-
  append onto bytes of the call's own, the source nil, empty or not: as a step of a walk, and of a region that draws its order.
-/
import Derived.Test.YtkhobpghiachoaaWords
import Derived.Deep.RegionLaw
namespace Go.Proofs.Ytkhobpghiachoaa
open Go.RowKit
set_option linter.unusedVariables false

/-- Type t is a slice of bytes, e its element type. -/
structure ByteSlice (P : Program) (t e : TypeId) : Prop where
  und : P.underlying t = some (.slice e)
  info : (P.info? e).map (fun i => (i.zero, i.size, i.bytes)) = some (some (.int .u8 0), 1, 1)
theorem bytesTried : ByteSlice Try.prog 22 5 := ⟨Try.underlying22, by kernel_rfl⟩

/-- The slice v is nil, or begins a block from base on, and holds the bytes xs. -/
def Own (e : TypeId) (w : World) (base : Nat) (v : Value) (xs : List UInt8) : Prop := w.ownsRow base e 1 v xs.length (bv xs)

section
variable {P : Program} {t e : TypeId} {w : World} {base : Nat} {v : Value} {xs ys : List UInt8} {A : Option Addr} {c : Nat}

theorem Own.empty (e : TypeId) (w : World) (base : Nat) : Own e w base (.slice none 0 0) [] := World.ownsRow_nil _ _ _ _
theorem Own.reads (h : Own e w base v xs) : ∃ A c, v = .slice A xs.length c ∧ xs.length ≤ c ∧ RB w A xs := by
  rcases h.2 with ⟨rfl, hn⟩ | ⟨g, cap, cur, rfl, _, hg, hnc, _, _, ht⟩
  · obtain rfl := List.eq_nil_of_length_eq_zero hn
    exact ⟨_, _, rfl, Nat.le_refl _, RB.nil _ _⟩
  · refine ⟨_, _, rfl, hnc, fun _ => ⟨g, 0, rfl, fun j hj => ?_⟩⟩
    rw [Nat.zero_add, World.ownsRow.cellAt h j (by omega)]
    simp [bv, hj]
theorem Own.rb {n : Nat} (h : Own e w base (.slice A n c) xs) : RB w A xs := by
  obtain ⟨A', c', he, _, hr⟩ := h.reads
  injection he with h1
  rw [h1]; exact hr
theorem Own.form (h : Own e w base v xs) (h0 : 0 < xs.length) : ∃ g cap, v = .slice (some ⟨g, 0, none⟩) xs.length cap ∧ xs.length ≤ cap ∧ base ≤ g ∧
    (∀ j, (hj : j < xs.length) → w.cell? ⟨g, j, none⟩ = some (.int .u8 (xs[j].toNat : Int))) ∧ ∀ j, w.frozen? ⟨g, j, none⟩ = false := by
  have h' := h
  rcases h.2 with ⟨rfl, hn⟩ | ⟨g, cap, cur, rfl, hb, hg, hnc, _, _, ht⟩
  · omega
  · refine ⟨g, cap, rfl, hnc, hb, fun j hj => ?_, fun j => World.ownsRow.frozenAt h' j⟩
    rw [World.ownsRow.cellAt h' j (by omega)]
    simp [bv, hj]
theorem Own.set {g cap : Nat} (h : Own e w base (.slice (some ⟨g, 0, none⟩) xs.length cap) xs) (j : Nat) (b : UInt8) :
    Own e (w.setCell ⟨g, j, none⟩ (.int .u8 (b.toNat : Int))) base (.slice (some ⟨g, 0, none⟩) xs.length cap) (xs.set j b) := by
  have h2 := World.ownsRow.stored h j (.int .u8 (b.toNat : Int))
  unfold Own
  rw [List.length_set]
  have e : bv (xs.set j b) = (bv xs).set j (.int .u8 (b.toNat : Int)) := by simp [bv, List.map_set]
  rw [e]
  exact h2.1
theorem Own.made (hb : base ≤ w.heap.size) (cs : Array Value) (hcs : cs = (bv xs).toArray) (hl : xs.length ≤ 65536) : Own e (w.alloc (.cells cs e)) base (.slice (some ⟨w.heap.size, 0, none⟩) xs.length xs.length) xs := by
  have h := World.ownsRow_lit (size := 1) (base := base) (e := e) w cs xs.length hb (by unfold maxLen; omega) (by subst hcs; simp [bv])
  subst hcs
  exact h

theorem run_append_bytes (hB : ByteSlice P t e) (ty : TypeId) (hown : Own e w base v xs) (hr : RB w A ys) (hlen : xs.length + ys.length ≤ 1099511627776) (hbase : base ≤ w.heap.size) :
    ∃ v' w', (Builtin.append_ #[t, t] ty #[v, .slice A ys.length c]).run P w = .ok v' w' ∧ Own e w' base v' (xs ++ ys) ∧ Below base w w' := by
  obtain ⟨i, hi, hz, h1, h2⟩ := info_parts hB.info
  have low : ∀ {w' : World}, w.grownBy w' v.ownBlock → Below base w w' := fun hg =>
    (Below.refl _ _).grown hg hbase fun k hk => (hown.lt k hk).1
  rcases A with _ | ad
  · have h0 : ys = [] := by
      rcases ys with _ | ⟨y, ys⟩
      · rfl
      · obtain ⟨_, _, hA, _⟩ := hr (by simp)
        cases hA
    subst h0
    refine ⟨v, w, ?_, by simpa using hown, Below.refl _ _⟩
    rcases hown.2 with ⟨rfl, _⟩ | ⟨g, cap, cur, rfl, _, _, hnc, _⟩
    · simp [Builtin.append_, run_underlying hB.und, sizeOf, typeInfo, hi, Builtin.lenOf, Builtin.firstCells]
    · simp [Builtin.append_, run_underlying hB.und, sizeOf, typeInfo, hi, Builtin.lenOf, Builtin.firstCells, hnc, storeCells]
  · have hnews : ∀ j u, (bv ys)[j]? = some u → w.cell? (ad.add j) = some u := by
      intro j u hu
      have hj : j < ys.length := by
        rcases Nat.lt_or_ge j ys.length with h | h
        · exact h
        · rw [List.getElem?_eq_none (by rw [bv_length]; exact h)] at hu; cases hu
      obtain ⟨b, off, hA, hc⟩ := hr.at_ (by omega)
      injection hA with hA
      subst hA
      have hadd : (⟨b, off, none⟩ : Addr).add j = ⟨b, off + j, none⟩ := by unfold Addr.add; split <;> simp_all
      rw [hadd, hc j hj]
      simpa [bv, hj] using hu
    obtain ⟨v', w', hrun, hown', hg, _⟩ := run_append_own (P := P) w base t ty e i _ 1 1 hB.und hi hz h1 h2 rfl (by omega) v xs.length (bv xs) hown ad ys.length c (bv ys)
      (by rw [bv_length]; omega) hnews (bv_one ys) (by unfold maxLen; omega) (by omega) hbase
    refine ⟨v', w', hrun, ?_, low hg⟩
    unfold Own
    rw [List.length_append, bv_append]
    exact hown'

theorem wp_append_bytes {o : Oper} {a : Act} {K : Act → World → Prop} {Q : Exit → Act → World → Prop} (hB : ByteSlice P t e) (s x : Operand)
    (ho : o.op = .call { callee := .builtin .append, args := #[s, x], argTypes := #[t, t] })
    (hs : a.eval s = v) (hx : a.eval x = .slice A ys.length c) (hown : Own e w base v xs) (hr : RB w A ys) (hlen : xs.length + ys.length ≤ 1099511627776) (hbase : base ≤ w.heap.size)
    (h : ∀ v' w', Own e w' base v' (xs ++ ys) → Below base w w' → K (a.put o.dst v') w') : o.wp P a w K Q := by
  obtain ⟨v', w', hrun, h2, h3⟩ := run_append_bytes (c := c) hB o.type hown hr hlen hbase
  unfold Oper.wp execOp
  simp only [ho, resolve, invoke, builtin, Sem.run_bind, Sem.run_pure, Result.andThen_ok, List.map_toArray, List.map_cons, List.map_nil, hs, hx, hrun]
  exact h v' w' h2 h3
theorem wpList_append_bytes {ops : Array Oper} {rest : List Oper} {o : Oper} {a : Act} {Q : Exit → Act → World → Prop} (hgd : o.guard = none) (hB : ByteSlice P t e) (s x : Operand)
    (ho : o.op = .call { callee := .builtin .append, args := #[s, x], argTypes := #[t, t] })
    (hs : a.eval s = v) (hx : a.eval x = .slice A ys.length c) (hown : Own e w base v xs) (hr : RB w A ys) (hlen : xs.length + ys.length ≤ 1099511627776) (hbase : base ≤ w.heap.size)
    (h : ∀ v' w', Own e w' base v' (xs ++ ys) → Below base w w' → wpList P ops Q rest (a.put o.dst v') w') : wpList P ops Q (o :: rest) a w :=
  wpList_plain hgd fun _ hK => wp_append_bytes hB s x ho hs hx hown hr hlen hbase fun v' w' h2 h3 => hK _ _ (h v' w' h2 h3)
theorem step_append_bytes {ops : Array Oper} {o : Oper} {a : Act} {K : Act → World → Prop} {Q : Exit → Act → World → Prop} {E : Prop} (hgd : o.guard = none) (hB : ByteSlice P t e) (s x : Operand)
    (ho : o.op = .call { callee := .builtin .append, args := #[s, x], argTypes := #[t, t] })
    (hs : a.eval s = v) (hx : a.eval x = .slice A ys.length c) (hown : Own e w base v xs) (hr : RB w A ys) (hlen : xs.length + ys.length ≤ 1099511627776) (hbase : base ≤ w.heap.size)
    (h : ∀ v' w', Own e w' base v' (xs ++ ys) → Below base w w' → K (a.put o.dst v') w') :
    if Region.wanted o (yielded ops a.tmps) = true then Oper.wp P o a w K Q else E := by
  have hw : Region.wanted o (yielded ops a.tmps) = true := by simp [Region.wanted, hgd]
  rw [if_pos hw]
  exact wp_append_bytes hB s x ho hs hx hown hr hlen hbase h
end
end Go.Proofs.Ytkhobpghiachoaa
