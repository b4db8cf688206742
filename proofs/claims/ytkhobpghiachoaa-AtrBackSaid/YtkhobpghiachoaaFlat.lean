/-
  Slices and arrays of structs: one element's cells.
-/
import Derived.Test.YtkhobpghiachoaaGen
namespace Go.Proofs.Ytkhobpghiachoaa
open Go.RowKit
set_option linter.unusedVariables false

/-- One element of a slice. -/
theorem flat_get {T : Type} (f : T → List Value) {s : Nat} (hf : ∀ t, (f t).length = s) : ∀ (ts : List T) (k r : Nat) (hk : k < ts.length), r < s → (ts.flatMap f)[k * s + r]? = (f ts[k])[r]?
  | [], k, r, hk, _ => by simp at hk
  | t :: ts, 0, r, _, hr => by
    rw [Nat.zero_mul, Nat.zero_add, List.flatMap_cons, List.getElem?_append_left (by rw [hf]; exact hr)]
    rfl
  | t :: ts, k + 1, r, hk, hr => by
    rw [List.flatMap_cons, List.getElem?_append_right (by rw [hf, Nat.succ_mul]; omega), hf, show (k + 1) * s + r - s = k * s + r from by rw [Nat.succ_mul]; omega]
    rw [flat_get f hf ts k r (by simpa using hk) hr]
    rfl
theorem flat_length {T : Type} (f : T → List Value) {s : Nat} (hf : ∀ t, (f t).length = s) (ts : List T) : (ts.flatMap f).length = ts.length * s := by
  induction ts with
  | nil => simp
  | cons t ts ih => rw [List.flatMap_cons, List.length_append, ih, hf, List.length_cons, Nat.succ_mul]; omega
theorem RC.elem {T : Type} (f : T → List Value) {s : Nat} (hf : ∀ t, (f t).length = s) {w : World} {A : Option Addr} {ts : List T} (h : RC w A (ts.flatMap f)) (k : Nat) (hk : k < ts.length) (h0 : 0 < s) :
    ∃ b off, A = some ⟨b, off, none⟩ ∧ ∀ r, r < s → w.cell? ⟨b, off + (k * s + r), none⟩ = (f ts[k])[r]? := by
  have hl := flat_length f hf ts
  have hks : k * s + s ≤ ts.length * s := by rw [← Nat.succ_mul]; exact Nat.mul_le_mul_right s hk
  obtain ⟨b, off, rfl, hc⟩ := h.at_ (by rw [hl]; omega)
  refine ⟨b, off, rfl, fun r hr => ?_⟩
  have hj : k * s + r < (ts.flatMap f).length := by rw [hl]; omega
  rw [hc _ hj, ← List.getElem?_eq_getElem hj, flat_get f hf ts k r hk hr]

end Go.Proofs.Ytkhobpghiachoaa
