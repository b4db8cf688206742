/-
  The arguments of the statements about the channels, as the rows read them.
-/
import Derived.Test.YtpbgfiaaechiaaaOpenL
import Derived.Test.YtpbgfiaaechiaaaChan4
import Derived.Lib.SmallJoins
namespace Go.Proofs.Ytpbgfiaaechiaaa
open Go.RowKit Go.ChangeShapes Go.WideShapes Go.Deep
set_option linter.unusedVariables false

theorem cell1_int : Try.prog.cellsOf 3 = 1 := by kernel_rfl
theorem cell1_bytes : Try.prog.cellsOf 23 = 1 := by kernel_rfl
theorem cell4_sec : Try.prog.cellsOf 27 = 4 := by kernel_rfl

/-- A security status. -/
structure Sec where
  p : Int
  k : Int
  s : Int
  l : Int
/-- A call of the statements about the channels. -/
structure Op37 where
  op : Int
  n : Int
  A : Option Addr
  c : Nat
  x : List UInt8
  t : Sec
def secOk (t : Sec) : Prop := (Lit.int .i64 t.p).wf = true ∧ (Lit.int .i64 t.k).wf = true ∧ (Lit.int .i64 t.s).wf = true ∧ (Lit.int .i64 t.l).wf = true
def opCells (o : Op37) : List Value := [.int .i64 o.op, .int .i64 o.n, .slice o.A o.x.length o.c, .int .i64 o.t.p, .int .i64 o.t.k, .int .i64 o.t.s, .int .i64 o.t.l]
def opOk (w : World) (o : Op37) : Prop := (Lit.int .i64 o.op).wf = true ∧ (Lit.int .i64 o.n).wf = true ∧ secOk o.t ∧ RB w o.A o.x

section
variable {H : Type} {enc : TypeId × Value → H} {w : World}
theorem open_bytes {fuel : Nat} {a : Option Addr} {len cap : Nat} {x : DataW H × List MemPlace} (hf : DataW.trod enc Try.prog w 0 (fun _ => true) true fuel 23 (Value.slice a len cap).cells.toList = some x) :
    ∃ xs : List UInt8, xs.length = len ∧ len ≤ cap ∧ RB w a xs := by
  rcases open_ints Try.underlying23 Try.underlying5 (by kernel_rfl) hf with ⟨hcs, _⟩ | ⟨x, l, c, zs, hcs, _, hl, hm, hz, _, hcell, hwz⟩
  · simp [Value.cells] at hcs
    obtain ⟨rfl, rfl, rfl⟩ := hcs
    exact ⟨[], rfl, Nat.le_refl _, RB.nil _ _⟩
  · simp [Value.cells] at hcs
    obtain ⟨rfl, rfl, rfl⟩ := hcs
    exact bytes_of_ints hl (by simpa using hz) hcell hwz
theorem dec_sec (n : Nat) (cs' : List Value) (y : DataW H × List MemPlace) (hl : cs'.length = 4) (h : DataW.trod enc Try.prog w 0 (fun _ => true) true n 27 cs' = some y) :
    ∃ t : Sec, cs' = [.int .i64 t.p, .int .i64 t.k, .int .i64 t.s, .int .i64 t.l] ∧ secOk t := by
  obtain ⟨xs, m, _, _, _, hxl, hx⟩ := DataW.trod_struct Try.underlying27 h
  match cs', hl, xs, hxl with
  | [c0, c1, c2, c3], _, [y0, y1, y2, y3], _ =>
    have h0 : DataW.trod enc Try.prog w 0 (fun _ => true) true m 3 [c0] = some y0 := by
      have k : DataW.trod enc Try.prog w 0 (fun _ => true) true m 3 (List.take (Try.prog.cellsOf 3) (List.drop 0 [c0, c1, c2, c3])) = some y0 := hx 0 _ rfl
      rw [cell1_int] at k; exact k
    have h1 : DataW.trod enc Try.prog w 0 (fun _ => true) true m 3 [c1] = some y1 := by
      have k : DataW.trod enc Try.prog w 0 (fun _ => true) true m 3 (List.take (Try.prog.cellsOf 3) (List.drop 1 [c0, c1, c2, c3])) = some y1 := hx 1 _ rfl
      rw [cell1_int] at k; exact k
    have h2 : DataW.trod enc Try.prog w 0 (fun _ => true) true m 3 [c2] = some y2 := by
      have k : DataW.trod enc Try.prog w 0 (fun _ => true) true m 3 (List.take (Try.prog.cellsOf 3) (List.drop 2 [c0, c1, c2, c3])) = some y2 := hx 2 _ rfl
      rw [cell1_int] at k; exact k
    have h3 : DataW.trod enc Try.prog w 0 (fun _ => true) true m 3 [c3] = some y3 := by
      have k : DataW.trod enc Try.prog w 0 (fun _ => true) true m 3 (List.take (Try.prog.cellsOf 3) (List.drop 3 [c0, c1, c2, c3])) = some y3 := hx 3 _ rfl
      rw [cell1_int] at k; exact k
    obtain ⟨z0, e0, _, w0⟩ := DataW.trod_int Try.underlying3 h0
    obtain ⟨z1, e1, _, w1⟩ := DataW.trod_int Try.underlying3 h1
    obtain ⟨z2, e2, _, w2⟩ := DataW.trod_int Try.underlying3 h2
    obtain ⟨z3, e3, _, w3⟩ := DataW.trod_int Try.underlying3 h3
    injection e0 with e0
    injection e1 with e1
    injection e2 with e2
    injection e3 with e3
    subst e0 e1 e2 e3
    exact ⟨⟨z0, z1, z2, z3⟩, rfl, w0, w1, w2, w3⟩
theorem dec_op (n : Nat) (cs' : List Value) (y : DataW H × List MemPlace) (hl : cs'.length = 7) (h : DataW.trod enc Try.prog w 0 (fun _ => true) true n 37 cs' = some y) :
    ∃ t : Op37, cs' = opCells t ∧ opOk w t := by
  obtain ⟨xs, m, _, _, _, hxl, hx⟩ := DataW.trod_struct Try.underlying37 h
  match cs', hl, xs, hxl with
  | [c0, c1, c2, c3, c4, c5, c6], _, [y0, y1, y2, y3], _ =>
    have h0 : DataW.trod enc Try.prog w 0 (fun _ => true) true m 3 [c0] = some y0 := by
      have k : DataW.trod enc Try.prog w 0 (fun _ => true) true m 3 (List.take (Try.prog.cellsOf 3) (List.drop 0 [c0, c1, c2, c3, c4, c5, c6])) = some y0 := hx 0 _ rfl
      rw [cell1_int] at k; exact k
    have h1 : DataW.trod enc Try.prog w 0 (fun _ => true) true m 3 [c1] = some y1 := by
      have k : DataW.trod enc Try.prog w 0 (fun _ => true) true m 3 (List.take (Try.prog.cellsOf 3) (List.drop 1 [c0, c1, c2, c3, c4, c5, c6])) = some y1 := hx 1 _ rfl
      rw [cell1_int] at k; exact k
    have h2 : DataW.trod enc Try.prog w 0 (fun _ => true) true m 23 [c2] = some y2 := by
      have k : DataW.trod enc Try.prog w 0 (fun _ => true) true m 23 (List.take (Try.prog.cellsOf 23) (List.drop 2 [c0, c1, c2, c3, c4, c5, c6])) = some y2 := hx 2 _ rfl
      rw [cell1_bytes] at k; exact k
    have h3 : DataW.trod enc Try.prog w 0 (fun _ => true) true m 27 [c3, c4, c5, c6] = some y3 := by
      have k : DataW.trod enc Try.prog w 0 (fun _ => true) true m 27 (List.take (Try.prog.cellsOf 27) (List.drop 3 [c0, c1, c2, c3, c4, c5, c6])) = some y3 := hx 3 _ rfl
      rw [cell4_sec] at k; exact k
    obtain ⟨z0, e0, _, w0⟩ := DataW.trod_int Try.underlying3 h0
    obtain ⟨z1, e1, _, w1⟩ := DataW.trod_int Try.underlying3 h1
    injection e0 with e0
    injection e1 with e1
    have k2 : ∃ a n c, c2 = .slice a n c := by
      rcases open_slice Try.underlying23 h2 with ⟨e, _⟩ | ⟨ad, l, c, _, _, _, _, e, _⟩
      · injection e with e; exact ⟨_, _, _, e⟩
      · injection e with e; exact ⟨_, _, _, e⟩
    obtain ⟨a2, n2, d2, rfl⟩ := k2
    obtain ⟨bs, hl2, _, hr2⟩ := open_bytes (enc := enc) h2
    obtain ⟨t, e3, w3⟩ := dec_sec m _ _ rfl h3
    injection e3 with e3 e4
    injection e4 with e4 e5
    injection e5 with e5 e6
    injection e6 with e6
    subst e0 e1 hl2 e3 e4 e5 e6
    exact ⟨⟨z0, z1, a2, d2, bs, t⟩, rfl, w0, w1, w3, hr2⟩
theorem open_ops {fuel : Nat} {a : Option Addr} {len cap : Nat} {x : DataW H × List MemPlace} (h : DataW.trod enc Try.prog w 0 (fun _ => true) true fuel 22 (Value.slice a len cap).cells.toList = some x) :
    ∃ os : List Op37, os.length = len ∧ len ≤ cap ∧ (∀ o ∈ os, opOk w o) ∧ RC w a (os.flatMap opCells) := by
  obtain ⟨ts, h1, h2, _, h3, h4⟩ := open_list opCells (opOk w) (s := 7) (fun _ => rfl) (by omega) Try.underlying22 (by kernel_rfl) (fun n cs' y hl h => dec_op n cs' y hl h) h
  exact ⟨ts, h1, h2, h3, h4⟩
theorem open_sec {r : Reach} {b0 : Nat} {v : Value} {d : DataW H} {p : List MemPlace} (hv : Value.okWide Try.prog w r b0 27 v) (h : DataW.Trod enc Try.prog w 0 (fun _ => true) true 27 v d p) :
    ∃ t : Sec, v = .agg (secCs t.p t.k t.s t.l) ∧ secOk t := by
  obtain ⟨cs, rfl, hsz⟩ := okWide_struct Try.underlying27 hv
  obtain ⟨fuel, hf⟩ := h
  rw [cell4_sec] at hsz
  obtain ⟨t, e, hk⟩ := dec_sec fuel cs.toList _ (by simpa using hsz) hf
  refine ⟨t, ?_, hk⟩
  unfold secCs
  rw [← e]
theorem open_op {r : Reach} {b0 : Nat} {v : Value} {d : DataW H} {p : List MemPlace} (hv : Value.okWide Try.prog w r b0 37 v) (h : DataW.Trod enc Try.prog w 0 (fun _ => true) true 37 v d p) :
    ∃ t : Op37, v = .agg (opCells t).toArray ∧ opOk w t := by
  obtain ⟨cs, rfl, hsz⟩ := okWide_struct Try.underlying37 hv
  obtain ⟨fuel, hf⟩ := h
  have h7 : Try.prog.cellsOf 37 = 7 := by kernel_rfl
  rw [h7] at hsz
  obtain ⟨t, e, hk⟩ := dec_op fuel cs.toList _ (by simpa using hsz) hf
  refine ⟨t, ?_, hk⟩
  rw [← e]
end
end Go.Proofs.Ytpbgfiaaechiaaa
