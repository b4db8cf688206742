/-
  The arguments of the statements about the line, as the rows read them.
-/
import Derived.Test.YtlkbbalidlhgmaaOpenL
import Derived.Test.YtlkbbalidlhgmaaLine
import Derived.Lib.SmallJoins
namespace Go.Proofs.Ytlkbbalidlhgmaa
open Go.RowKit Go.ChangeShapes Go.WideShapes Go.Deep
set_option linter.unusedVariables false

theorem cell1_int : Try.prog.cellsOf 3 = 1 := by kernel_rfl
theorem cell1_bool : Try.prog.cellsOf 4 = 1 := by kernel_rfl
theorem cell1_links : Try.prog.cellsOf 28 = 1 := by kernel_rfl
theorem cell1_bytes : Try.prog.cellsOf 22 = 1 := by kernel_rfl

section
variable {H : Type} {enc : TypeId × Value → H} {w : World}
theorem dec_link (n : Nat) (cs' : List Value) (y : DataW H × List MemPlace) (hl : cs'.length = 2) (h : DataW.trod enc Try.prog w 0 (fun _ => true) true n 24 cs' = some y) :
    ∃ t : Lk, cs' = [.bool t.lost, .int .i64 t.flip] ∧ (Lit.int .i64 t.flip).wf = true := by
  obtain ⟨xs, m, _, _, _, hxl, hx⟩ := DataW.trod_struct Try.underlying24 h
  match cs', hl, xs, hxl with
  | [c0, c1], _, [y0, y1], _ =>
    have h0 : DataW.trod enc Try.prog w 0 (fun _ => true) true m 4 [c0] = some y0 := by
      have k : DataW.trod enc Try.prog w 0 (fun _ => true) true m 4 (List.take (Try.prog.cellsOf 4) (List.drop 0 [c0, c1])) = some y0 := hx 0 _ rfl
      rw [cell1_bool] at k; exact k
    have h1 : DataW.trod enc Try.prog w 0 (fun _ => true) true m 3 [c1] = some y1 := by
      have k : DataW.trod enc Try.prog w 0 (fun _ => true) true m 3 (List.take (Try.prog.cellsOf 3) (List.drop 1 [c0, c1])) = some y1 := hx 1 _ rfl
      rw [cell1_int] at k; exact k
    obtain ⟨b, e0, _⟩ := DataW.trod_bool Try.underlying4 h0
    obtain ⟨z, e1, _, hz⟩ := DataW.trod_int Try.underlying3 h1
    injection e0 with e0
    injection e1 with e1
    subst e0 e1
    exact ⟨⟨b, z⟩, rfl, hz⟩
def flipsOk (ls : List Lk) : Prop := ∀ l ∈ ls, (Lit.int .i64 l.flip).wf = true
theorem open_links {fuel : Nat} {a : Option Addr} {len cap : Nat} {x : DataW H × List MemPlace} (h : DataW.trod enc Try.prog w 0 (fun _ => true) true fuel 28 (Value.slice a len cap).cells.toList = some x) :
    ∃ ls : List Lk, ls.length = len ∧ len ≤ cap ∧ flipsOk ls ∧ RC w a (lv ls) := by
  obtain ⟨ts, h1, h2, _, h3, h4⟩ := open_list (fun t : Lk => [.bool t.lost, .int .i64 t.flip]) (fun t => (Lit.int .i64 t.flip).wf = true) (s := 2) (fun _ => rfl) (by omega) Try.underlying28 (by kernel_rfl) (fun n cs' y hl h => dec_link n cs' y hl h) h
  exact ⟨ts, h1, h2, h3, h4⟩
theorem open_bytes {fuel : Nat} {a : Option Addr} {len cap : Nat} {x : DataW H × List MemPlace} (hf : DataW.trod enc Try.prog w 0 (fun _ => true) true fuel 22 (Value.slice a len cap).cells.toList = some x) :
    ∃ xs : List UInt8, xs.length = len ∧ len ≤ cap ∧ RB w a xs := by
  rcases open_ints Try.underlying22 Try.underlying5 (by kernel_rfl) hf with ⟨hcs, _⟩ | ⟨x, l, c, zs, hcs, _, hl, hm, hz, _, hcell, hwz⟩
  · simp [Value.cells] at hcs
    obtain ⟨rfl, rfl, rfl⟩ := hcs
    exact ⟨[], rfl, Nat.le_refl _, RB.nil _ _⟩
  · simp [Value.cells] at hcs
    obtain ⟨rfl, rfl, rfl⟩ := hcs
    exact bytes_of_ints hl (by simpa using hz) hcell hwz
/-- A call of the statement LineCarries. -/
structure Op45 where
  adds : Bool
  A : Option Addr
  c : Nat
  more : List Lk
  B : Option Addr
  d : Nat
  b : List UInt8
def opCells (o : Op45) : List Value := [.bool o.adds, .slice o.A o.more.length o.c, .slice o.B o.b.length o.d]
def opOk (w : World) (o : Op45) : Prop := flipsOk o.more ∧ RC w o.A (lv o.more) ∧ RB w o.B o.b
theorem dec_op (n : Nat) (cs' : List Value) (y : DataW H × List MemPlace) (hl : cs'.length = 3) (h : DataW.trod enc Try.prog w 0 (fun _ => true) true n 38 cs' = some y) :
    ∃ t : Op45, cs' = opCells t ∧ opOk w t := by
  obtain ⟨xs, m, _, _, _, hxl, hx⟩ := DataW.trod_struct Try.underlying38 h
  match cs', hl, xs, hxl with
  | [c0, c1, c2], _, [y0, y1, y2], _ =>
    have h0 : DataW.trod enc Try.prog w 0 (fun _ => true) true m 4 [c0] = some y0 := by
      have k : DataW.trod enc Try.prog w 0 (fun _ => true) true m 4 (List.take (Try.prog.cellsOf 4) (List.drop 0 [c0, c1, c2])) = some y0 := hx 0 _ rfl
      rw [cell1_bool] at k; exact k
    have h1 : DataW.trod enc Try.prog w 0 (fun _ => true) true m 28 [c1] = some y1 := by
      have k : DataW.trod enc Try.prog w 0 (fun _ => true) true m 28 (List.take (Try.prog.cellsOf 28) (List.drop 1 [c0, c1, c2])) = some y1 := hx 1 _ rfl
      rw [cell1_links] at k; exact k
    have h2 : DataW.trod enc Try.prog w 0 (fun _ => true) true m 22 [c2] = some y2 := by
      have k : DataW.trod enc Try.prog w 0 (fun _ => true) true m 22 (List.take (Try.prog.cellsOf 22) (List.drop 2 [c0, c1, c2])) = some y2 := hx 2 _ rfl
      rw [cell1_bytes] at k; exact k
    obtain ⟨b, e0, _⟩ := DataW.trod_bool Try.underlying4 h0
    injection e0 with e0
    have k1 : ∃ a n c, c1 = .slice a n c := by
      rcases open_slice Try.underlying28 h1 with ⟨e, _⟩ | ⟨ad, l, c, _, _, _, _, e, _⟩
      · injection e with e; exact ⟨_, _, _, e⟩
      · injection e with e; exact ⟨_, _, _, e⟩
    have k2 : ∃ a n c, c2 = .slice a n c := by
      rcases open_slice Try.underlying22 h2 with ⟨e, _⟩ | ⟨ad, l, c, _, _, _, _, e, _⟩
      · injection e with e; exact ⟨_, _, _, e⟩
      · injection e with e; exact ⟨_, _, _, e⟩
    obtain ⟨a1, n1, d1, rfl⟩ := k1
    obtain ⟨a2, n2, d2, rfl⟩ := k2
    obtain ⟨ls, hl1, _, hf, hr1⟩ := open_links (enc := enc) h1
    obtain ⟨bs, hl2, _, hr2⟩ := open_bytes (enc := enc) h2
    subst e0 hl1 hl2
    exact ⟨⟨b, a1, d1, ls, a2, d2, bs⟩, rfl, hf, hr1, hr2⟩
theorem open_ops {fuel : Nat} {a : Option Addr} {len cap : Nat} {x : DataW H × List MemPlace} (h : DataW.trod enc Try.prog w 0 (fun _ => true) true fuel 32 (Value.slice a len cap).cells.toList = some x) :
    ∃ os : List Op45, os.length = len ∧ len ≤ cap ∧ (∀ o ∈ os, opOk w o) ∧ RC w a (os.flatMap opCells) := by
  obtain ⟨ts, h1, h2, _, h3, h4⟩ := open_list opCells (opOk w) (s := 3) (fun _ => rfl) (by omega) Try.underlying32 (by kernel_rfl) (fun n cs' y hl h => dec_op n cs' y hl h) h
  exact ⟨ts, h1, h2, h3, h4⟩
theorem linkOne : ∀ {r : Reach} {b0 : Nat} {v : Value} {d : DataW H} {p : List MemPlace}, Value.okWide Try.prog w r b0 24 v → DataW.Trod enc Try.prog w 0 (fun _ => true) true 24 v d p →
    ∃ t : Lk, v = .agg #[.bool t.lost, .int .i64 t.flip] ∧ (Lit.int .i64 t.flip).wf = true := by
  intro r b0 v d p hv h
  obtain ⟨v0, v1, y0, y1, n, rfl, _, _, h0, h1⟩ := Joins.open_agg2 Try.underlying24 (by kernel_rfl) (by kernel_rfl) hv h
  obtain ⟨b, e0, _⟩ := DataW.trod_bool Try.underlying4 h0
  obtain ⟨z, e1, _, hz⟩ := DataW.trod_int Try.underlying3 h1
  injection e0 with e0
  injection e1 with e1
  subst e0 e1
  exact ⟨⟨b, z⟩, rfl, hz⟩
theorem open_link {r : Reach} {b0 : Nat} {v : Value} {d : DataW H} {p : List MemPlace} (hv : Value.okWide Try.prog w r b0 24 v) (h : DataW.Trod enc Try.prog w 0 (fun _ => true) true 24 v d p) :
    ∃ t : Lk, v = .agg #[.bool t.lost, .int .i64 t.flip] ∧ (Lit.int .i64 t.flip).wf = true := linkOne hv h
end
end Go.Proofs.Ytlkbbalidlhgmaa
