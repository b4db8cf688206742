/-
  An answer to reset that came in, as the rows read it.
-/
import Derived.Test.YtkhobpghiachoaaOpenL
import Derived.Test.YtkhobpghiachoaaAtr
import Derived.Lib.SmallJoins
namespace Go.Proofs.Ytkhobpghiachoaa
open Go.RowKit Go.ChangeShapes Go.WideShapes Go.Deep
set_option linter.unusedVariables false

theorem cell1_int : Try.prog.cellsOf 3 = 1 := by kernel_rfl
theorem cell1_bool : Try.prog.cellsOf 4 = 1 := by kernel_rfl
theorem cell1_bytes : Try.prog.cellsOf 22 = 1 := by kernel_rfl
theorem cell1_ints : Try.prog.cellsOf 25 = 1 := by kernel_rfl
theorem cell1_ifs : Try.prog.cellsOf 24 = 1 := by kernel_rfl
theorem cell4_atr : Try.prog.cellsOf 27 = 4 := by kernel_rfl

theorem nv_flat : ∀ ts : List Int, ts.flatMap (fun t : Int => [Value.int .i64 t]) = nv ts
  | [] => rfl
  | t :: ts => by
    rw [List.flatMap_cons, nv_flat ts]
    rfl
section
variable {H : Type} {enc : TypeId × Value → H} {w : World}
theorem open_bytes {fuel : Nat} {a : Option Addr} {len cap : Nat} {x : DataW H × List MemPlace} (hf : DataW.trod enc Try.prog w 0 (fun _ => true) true fuel 22 (Value.slice a len cap).cells.toList = some x) :
    ∃ xs : List UInt8, xs.length = len ∧ len ≤ cap ∧ RB w a xs := by
  rcases open_ints Try.underlying22 Try.underlying5 (by kernel_rfl) hf with ⟨hcs, _⟩ | ⟨x, l, c, zs, hcs, _, hl, hm, hz, _, hcell, hwz⟩
  · simp [Value.cells] at hcs
    obtain ⟨rfl, rfl, rfl⟩ := hcs
    exact ⟨[], rfl, Nat.le_refl _, RB.nil _ _⟩
  · simp [Value.cells] at hcs
    obtain ⟨rfl, rfl, rfl⟩ := hcs
    exact bytes_of_ints hl (by simpa using hz) hcell hwz
theorem dec_int (n : Nat) (cs' : List Value) (y : DataW H × List MemPlace) (hl : cs'.length = 1) (h : DataW.trod enc Try.prog w 0 (fun _ => true) true n 3 cs' = some y) :
    ∃ t : Int, cs' = [.int .i64 t] ∧ True := by
  match cs', hl with
  | [c0], _ =>
    obtain ⟨z, e, _, _⟩ := DataW.trod_int Try.underlying3 h
    exact ⟨z, e, trivial⟩
theorem open_nums {fuel : Nat} {a : Option Addr} {len cap : Nat} {x : DataW H × List MemPlace} (h : DataW.trod enc Try.prog w 0 (fun _ => true) true fuel 25 (Value.slice a len cap).cells.toList = some x) :
    ∃ zs : List Int, zs.length = len ∧ len ≤ cap ∧ RC w a (nv zs) := by
  obtain ⟨ts, h1, h2, _, _, h4⟩ := open_list (fun t : Int => [.int .i64 t]) (fun _ => True) (s := 1) (fun _ => rfl) (by omega) Try.underlying25 (by kernel_rfl) (fun n cs' y hl h => dec_int n cs' y hl h) h
  refine ⟨ts, h1, h2, ?_⟩
  rw [nv_flat] at h4
  exact h4
theorem dec_if (n : Nat) (cs' : List Value) (y : DataW H × List MemPlace) (hl : cs'.length = 4) (h : DataW.trod enc Try.prog w 0 (fun _ => true) true n 47 cs' = some y) :
    ∃ t : If, cs' = ifL t ∧ t.g ≤ 9223372036854775807 := by
  obtain ⟨xs, m, _, _, _, hxl, hx⟩ := DataW.trod_struct Try.underlying47 h
  match cs', hl, xs, hxl with
  | [c0, c1, c2, c3], _, [y0, y1, y2, y3], _ =>
    have h0 : DataW.trod enc Try.prog w 0 (fun _ => true) true m 3 [c0] = some y0 := by
      have k : DataW.trod enc Try.prog w 0 (fun _ => true) true m 3 (List.take (Try.prog.cellsOf 3) (List.drop 0 [c0, c1, c2, c3])) = some y0 := hx 0 _ rfl
      rw [cell1_int] at k; exact k
    have h1 : DataW.trod enc Try.prog w 0 (fun _ => true) true m 3 [c1] = some y1 := by
      have k : DataW.trod enc Try.prog w 0 (fun _ => true) true m 3 (List.take (Try.prog.cellsOf 3) (List.drop 1 [c0, c1, c2, c3])) = some y1 := hx 1 _ rfl
      rw [cell1_int] at k; exact k
    have h2 : DataW.trod enc Try.prog w 0 (fun _ => true) true m 3 [c2] = some y2 := by
      have k : DataW.trod enc Try.prog w 0 (fun _ => true) true m 3 (List.take (Try.prog.cellsOf 3) (List.drop 2 [c0, c1, c2, c3])) = some y2 := hx 2 _ rfl
      rw [cell1_int] at k; exact k
    have h3 : DataW.trod enc Try.prog w 0 (fun _ => true) true m 3 [c3] = some y3 := by
      have k : DataW.trod enc Try.prog w 0 (fun _ => true) true m 3 (List.take (Try.prog.cellsOf 3) (List.drop 3 [c0, c1, c2, c3])) = some y3 := hx 3 _ rfl
      rw [cell1_int] at k; exact k
    obtain ⟨z0, e0, _, w0⟩ := DataW.trod_int Try.underlying3 h0
    obtain ⟨z1, e1, _, w1⟩ := DataW.trod_int Try.underlying3 h1
    obtain ⟨z2, e2, _, w2⟩ := DataW.trod_int Try.underlying3 h2
    obtain ⟨z3, e3, _, w3⟩ := DataW.trod_int Try.underlying3 h3
    injection e0 with e0
    injection e1 with e1
    injection e2 with e2
    injection e3 with e3
    subst e0 e1 e2 e3
    have hb := bounds_i64 w0
    exact ⟨⟨z0, z1, z2, z3⟩, rfl, by simp only; omega⟩
theorem open_ifs {fuel : Nat} {a : Option Addr} {len cap : Nat} {x : DataW H × List MemPlace} (h : DataW.trod enc Try.prog w 0 (fun _ => true) true fuel 24 (Value.slice a len cap).cells.toList = some x) :
    ∃ zs : List If, zs.length = len ∧ len ≤ cap ∧ (∀ x ∈ zs, x.g ≤ 9223372036854775807) ∧ RC w a (ifv zs) := by
  obtain ⟨ts, h1, h2, _, h3, h4⟩ := open_list ifL (fun t => t.g ≤ 9223372036854775807) (s := 4) (fun _ => rfl) (by omega) Try.underlying24 (by kernel_rfl) (fun n cs' y hl h => dec_if n cs' y hl h) h
  exact ⟨ts, h1, h2, h3, h4⟩
theorem open_atr {r : Reach} {b0 : Nat} {v : Value} {d : DataW H} {p : List MemPlace} (hv : Value.okWide Try.prog w r b0 27 v) (h : DataW.Trod enc Try.prog w 0 (fun _ => true) true 27 v d p) :
    ∃ t : Atr, v = .agg (atrCs t) ∧ AtrIn w t := by
  obtain ⟨cs, rfl, hsz⟩ := okWide_struct Try.underlying27 hv
  obtain ⟨fuel, hf⟩ := h
  rw [cell4_atr] at hsz
  have hl : cs.toList.length = 4 := by simpa using hsz
  have hcs : cs = cs.toList.toArray := by simp
  rw [show (Value.agg cs).cells.toList = cs.toList from rfl] at hf
  rw [hcs]
  generalize cs.toList = cs' at hl hf
  obtain ⟨xs, m, _, _, _, hxl, hx⟩ := DataW.trod_struct Try.underlying27 hf
  match cs', hl, xs, hxl with
  | [c0, c1, c2, c3], _, [y0, y1, y2, y3], _ =>
    have h0 : DataW.trod enc Try.prog w 0 (fun _ => true) true m 4 [c0] = some y0 := by
      have k : DataW.trod enc Try.prog w 0 (fun _ => true) true m 4 (List.take (Try.prog.cellsOf 4) (List.drop 0 [c0, c1, c2, c3])) = some y0 := hx 0 _ rfl
      rw [cell1_bool] at k; exact k
    have h1 : DataW.trod enc Try.prog w 0 (fun _ => true) true m 24 [c1] = some y1 := by
      have k : DataW.trod enc Try.prog w 0 (fun _ => true) true m 24 (List.take (Try.prog.cellsOf 24) (List.drop 1 [c0, c1, c2, c3])) = some y1 := hx 1 _ rfl
      rw [cell1_ifs] at k; exact k
    have h2 : DataW.trod enc Try.prog w 0 (fun _ => true) true m 25 [c2] = some y2 := by
      have k : DataW.trod enc Try.prog w 0 (fun _ => true) true m 25 (List.take (Try.prog.cellsOf 25) (List.drop 2 [c0, c1, c2, c3])) = some y2 := hx 2 _ rfl
      rw [cell1_ints] at k; exact k
    have h3 : DataW.trod enc Try.prog w 0 (fun _ => true) true m 22 [c3] = some y3 := by
      have k : DataW.trod enc Try.prog w 0 (fun _ => true) true m 22 (List.take (Try.prog.cellsOf 22) (List.drop 3 [c0, c1, c2, c3])) = some y3 := hx 3 _ rfl
      rw [cell1_bytes] at k; exact k
    obtain ⟨b, e0, _⟩ := DataW.trod_bool Try.underlying4 h0
    injection e0 with e0
    have k1 : ∃ a n c, c1 = .slice a n c := by
      rcases open_slice Try.underlying24 h1 with ⟨e, _⟩ | ⟨ad, l, c, _, _, _, _, e, _⟩
      · injection e with e; exact ⟨_, _, _, e⟩
      · injection e with e; exact ⟨_, _, _, e⟩
    have k2 : ∃ a n c, c2 = .slice a n c := by
      rcases open_slice Try.underlying25 h2 with ⟨e, _⟩ | ⟨ad, l, c, _, _, _, _, e, _⟩
      · injection e with e; exact ⟨_, _, _, e⟩
      · injection e with e; exact ⟨_, _, _, e⟩
    have k3 : ∃ a n c, c3 = .slice a n c := by
      rcases open_slice Try.underlying22 h3 with ⟨e, _⟩ | ⟨ad, l, c, _, _, _, _, e, _⟩
      · injection e with e; exact ⟨_, _, _, e⟩
      · injection e with e; exact ⟨_, _, _, e⟩
    obtain ⟨a1, n1, d1, rfl⟩ := k1
    obtain ⟨a2, n2, d2, rfl⟩ := k2
    obtain ⟨a3, n3, d3, rfl⟩ := k3
    obtain ⟨bs, l1, _, hf1, r1⟩ := open_ifs (enc := enc) h1
    obtain ⟨ps, l2, _, r2⟩ := open_nums (enc := enc) h2
    obtain ⟨hs, l3, _, r3⟩ := open_bytes (enc := enc) h3
    subst e0 l1 l2 l3
    exact ⟨⟨b, a1, d1, bs, a2, d2, ps, a3, d3, hs⟩, rfl, ⟨r1, r2, r3, hf1⟩⟩
end
end Go.Proofs.Ytkhobpghiachoaa
