/-
  The channels: what the calls so far have left.
-/
import Derived.Test.YtpbgfiaaechiaaaSeen37
import Derived.RegionTactic
namespace Go.Proofs.Ytpbgfiaaechiaaa
open Go.RowKit
set_option linter.unusedVariables false

theorem Both.below {w w' : World} {g : Nat} {L M : List Ln} (h : Both w g L M) (hb : Below w.heap.size w w') : Both w' g L M := ⟨h.tab.below hb, h.len, h.same, h.lns.below hb, h.zero⟩
theorem Both.rowS {w : World} {g k : Nat} {t : TypeId} {L M N : List Ln} (h : Both w g L M) (hk : Blk w k t (scs N)) (hne : g ≠ k) (cs : Array Value) : Both (w.setRow k cs) g L M := ⟨h.tab.rowS hk hne cs, h.len, h.same, h.lns.rowS hk cs, h.zero⟩
theorem Both.start {w : World} {g : Nat} (h : TabAt w g true firstL) : Both w g firstL firstL := ⟨h, rfl, rfl, h.2.2, rfl⟩
theorem below_row {B k : Nat} {w0 w : World} (hb : Below B w0 w) (hk : B ≤ k) (cs : Array Value) : Below B w0 (w.setRow k cs) := below_setRow hb hk cs
/-- The state after the calls so far. -/
def Upto (w : World) (g sb : Nat) (wx : World) : Prop := ∃ L M, Both wx g L M ∧ Blk wx sb 32 (scs M) ∧ Below w.heap.size w wx

/-- 'wpAny_take', the temporary said by the caller. -/
theorem takeA {P : Program} {ops : Array Oper} {Q : Exit → Act → World → Prop} {md : Region.Mode} (i : Nat) (d : Option Tmp) (v : Value) {oi : Oper} {fuel : Nat} {listed : Array Bool} {a : Act} {w : World} (hi : ops[i]? = some oi) (hd : oi.dst = d)
    (hs : Region.noSelect ops = true) (hf : Region.free md ops listed i = true) (hr : (Region.ready md ops listed).contains i = true)
    (hQ : ∀ c a w, Q (.panic c) (a.put oi.dst v) w → Q (.panic c) a w) (hy : Yields P ops oi v a)
    (h : wpAny P md ops Q fuel (listed.setIfInBounds i true) (a.put d v) w) : wpAny P md ops Q (fuel + 1) listed a w :=
  wpAny_take hi hs hf hr hQ hy (by rw [hd]; exact h)
/-- The load of a whole variable, guarded. -/
theorem wpList_load_rowG {P : Program} {ops : Array Oper} {rest : List Oper} {o : Oper} {a : Act} {w : World} {Q : Exit → Act → World → Prop} (hgd : Region.wanted o (yielded ops a.tmps) = true) (ty : TypeId) (x : Operand) (ho : o.op = .load ty x)
    (g : Nat) (hx : a.eval x = .pointer (some ⟨g, 0, none⟩)) (t : TypeId) (cs : Array Value) (fr : Nat × Nat) (d : TypeDesc) (hg : w.heap[g]? = some (.cells cs t fr))
    (hu : P.underlying ty = some d) (hd : (match d with | .struct _ | .array _ _ => true | _ => false) = true) (hi : (P.info? ty).map (·.size) = some cs.size)
    (h : wpList P ops Q rest (a.put o.dst (.agg cs)) w) : wpList P ops Q (o :: rest) a w :=
  wpList_step fun K hK => by
    rw [if_pos hgd]
    exact wp_load_row ty x ho g hx t cs fr d hg hu hd hi (hK _ _ h)
/-- Among the operations that only read: the load of a whole variable. -/
theorem wpStill_load_row {P : Program} {ops : Array Oper} {w : World} {Q : Act → Prop} {a : Act} {o : Oper} {rest : List Oper} (hgd : o.guard = none) (ty : TypeId) (x : Operand) (ho : o.op = .load ty x)
    (g : Nat) (hx : a.eval x = .pointer (some ⟨g, 0, none⟩)) (t : TypeId) (cs : Array Value) (fr : Nat × Nat) (d : TypeDesc) (hg : w.heap[g]? = some (.cells cs t fr))
    (hu : P.underlying ty = some d) (hd : (match d with | .struct _ | .array _ _ => true | _ => false) = true) (hi : (P.info? ty).map (·.size) = some cs.size)
    (h : wpStill P ops w Q rest (a.put o.dst (.agg cs))) : wpStill P ops w Q (o :: rest) a := by
  have hw : Region.wanted o (yielded ops a.tmps) = true := by simp [Region.wanted, hgd]
  unfold wpStill
  rw [if_pos hw]
  unfold Oper.still execOp
  simp only [ho, hx, Instr.loadAt, Instr.sureAddr, Sem.run_bind, Sem.run_pure, Result.andThen_ok, run_loadVar_row w g t ty cs fr d hg hu hd hi, Oper.stillUpon_value]
  exact h
end Go.Proofs.Ytpbgfiaaechiaaa
