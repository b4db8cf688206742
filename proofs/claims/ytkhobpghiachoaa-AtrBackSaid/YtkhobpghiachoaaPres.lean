/-
  The presence byte of a group.
-/
import Derived.Test.YtkhobpghiachoaaAtr
namespace Go.Proofs.Ytkhobpghiachoaa
open Go.RowKit
set_option linter.unusedVariables false

/-- The bits of a group's bytes. -/
def presS (xs : List If) : Int := xs.foldl (fun z x => bits BinOp.or IntKind.i64 z (wrap64 (16 * 2 ^ x.k.toNat))) 0
/-- The presence of a group, the last one or not. -/
def presF (xs : List If) (b : Bool) : Int := if b = true then presS xs else bits BinOp.or IntKind.i64 (presS xs) 128
theorem presS_take {xs : List If} {k : Nat} (h : k < xs.length) : presS (xs.take (k + 1)) = bits BinOp.or IntKind.i64 (presS (xs.take k)) (wrap64 (16 * 2 ^ xs[k].k.toNat)) := by
  unfold presS
  rw [List.take_succ_eq_append_getElem h, List.foldl_append]
  rfl
theorem pres_any (pr : Int) (A : Option Addr) (c : Nat) (xs : List If) (b : Bool) (w : World) (hl : xs.length ≤ 1048576) (hk : ∀ x ∈ xs, 0 ≤ x.k ∧ x.k < 3) (hr : RC w A (ifv xs)) :
    Calls Try.prog 53 #[.agg #[.int .i64 pr, .slice A xs.length c], .bool b] w fun e w' => e = .returned (.int .i64 (presF xs b)) ∧ Below w.heap.size w w' := by
  have hb0 := (Below.refl w.heap.size w).alloc (Nat.le_refl _) (.cells #[.int .i64 pr, .slice A xs.length c] 77)
  go_enter Try.func53, Try.ntmps53
  go_wp2
  go_loopw [5, 11] (fun v i wr => ∃ k : Nat, ∃ z : Int, k ≤ xs.length ∧ v = .int .i64 z ∧ Hid (z = presS (xs.take k)) ∧ i = .int .i64 k ∧ Below w.heap.size w wr) (fun _ i _ => xs.length - (intOf i).toNat)
  case atStart => exact ⟨0, 0, Nat.zero_le _, rfl, rfl, rfl, hb0⟩
  case round =>
    obtain ⟨k, z, hkl, rfl, hz, rfl, hbr⟩ := hrel
    by_cases h1 : k < xs.length
    · obtain ⟨bb, bo, rfl, hbx⟩ := RC.elem ifL (s := 4) (fun _ => rfl) (hr.below hbr) k h1 (by decide)
      have hkk := hk xs[k] (List.getElem_mem h1)
      have z0 : wr.cell? ⟨bb, bo + k * 4, none⟩ = some (.int .i64 xs[k].g) := hbx 0 (by decide)
      have z1 : wr.cell? ⟨bb, bo + k * 4 + 1, none⟩ = some (.int .i64 xs[k].k) := by rw [Nat.add_assoc]; exact hbx 1 (by decide)
      have z2 : wr.cell? ⟨bb, bo + k * 4 + 2, none⟩ = some (.int .i64 xs[k].v) := by rw [Nat.add_assoc]; exact hbx 2 (by decide)
      have z3 : wr.cell? ⟨bb, bo + k * 4 + 3, none⟩ = some (.int .i64 xs[k].p) := by rw [Nat.add_assoc]; exact hbx 3 (by decide)
      have hbb : bb < wr.heap.size := cell?_lt z0
      have HP := Lib.hid (presS_take h1)
      clear hbx
      generalize xs[k] = x at z0 z1 z2 z3 hkk HP
      obtain ⟨g, kd, v, p⟩ := x
      simp only at z0 z1 z2 z3 hkk HP
      obtain ⟨h0, h3⟩ := hkk
      have hi1 : (0 : Int) ≤ (k : Int) := by omega
      have hi2 : (k : Int) < (xs.length : Int) := by omega
      go_wp2
      go_roundw
      case rel => exact ⟨k + 1, _, by omega, rfl, by rw [HP.out, ← hz.out]; exact rfl, by go_num, hbr.alloc hbr.size _⟩
      case measure => simp [intOf]; omega
    · have hz' : Hid (z = presS xs) := by
        have h := hz.out
        rw [List.take_of_length_le (by omega)] at h
        exact h
      clear hz
      cases b
      · have HF : Hid (presF xs false = bits BinOp.or IntKind.i64 z 128) := by
          show _ = _
          unfold presF
          rw [if_neg (by decide), hz'.out]
        go_wp2
        go_ret
        exact ⟨ret_int HF.out.symm, hbr⟩
      · have HF : Hid (presF xs true = z) := by
          show _ = _
          unfold presF
          rw [if_pos rfl, hz'.out]
        go_wp2
        go_ret
        exact ⟨ret_int HF.out.symm, hbr⟩
end Go.Proofs.Ytkhobpghiachoaa
