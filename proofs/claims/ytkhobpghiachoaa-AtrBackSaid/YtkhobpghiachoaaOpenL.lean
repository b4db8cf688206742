/-
  A slice that came in, whatever its element type: its elements, and their cells at its address.
-/
import Derived.Test.YtkhobpghiachoaaGen
import Derived.Test.YtkhobpghiachoaaOpen
import Derived.Deep.Slices
import Derived.Deep.Fields
namespace Go.Proofs.Ytkhobpghiachoaa
open Go.RowKit Go.ChangeShapes Go.WideShapes Go.Deep
set_option linter.unusedVariables false

theorem rc_of_elems {T : Type} {w : World} {b : Nat} (f : T → List Value) {s : Nat} (hf : ∀ t, (f t).length = s) : ∀ (ts : List T) (off : Nat),
    (∀ i r, (hi : i < ts.length) → (hr : r < s) → w.cell? ⟨b, off + (i * s + r), none⟩ = (f ts[i])[r]?) → ∀ j, (hj : j < (ts.flatMap f).length) → w.cell? ⟨b, off + j, none⟩ = some (ts.flatMap f)[j]
  | [], _, _, j, hj => by simp at hj
  | t :: ts, off, h, j, hj => by
    by_cases hjs : j < s
    · have h0 := h 0 j (by simp) hjs
      rw [Nat.zero_mul, Nat.zero_add] at h0
      rw [h0]
      have hl : j < (f t).length := by rw [hf]; exact hjs
      simp only [List.flatMap_cons]
      rw [List.getElem_append_left hl]
      simp [hl]
    · have hj2 : j - s < (ts.flatMap f).length := by
        simp only [List.flatMap_cons, List.length_append, hf] at hj
        omega
      have ih := rc_of_elems f hf ts (off + s) (fun i r hi hr => by
        have := h (i + 1) r (by simp; omega) hr
        rw [Nat.succ_mul] at this
        rw [show off + s + (i * s + r) = off + (i * s + s + r) from by omega, this]
        rfl) (j - s) hj2
      rw [show off + j = off + s + (j - s) from by omega, ih]
      simp only [List.flatMap_cons]
      rw [List.getElem_append_right (by rw [hf]; omega)]
      simp only [hf]

theorem choose_list {T : Type} (n : Nat) (p : Nat → T → Prop) (h : ∀ i, i < n → ∃ t, p i t) : ∃ ts : List T, ts.length = n ∧ ∀ i, (hi : i < ts.length) → p i ts[i] := by
  induction n with
  | zero => exact ⟨[], rfl, fun i hi => by simp at hi⟩
  | succ n ih =>
    obtain ⟨ts, hl, hp⟩ := ih fun i hi => h i (by omega)
    obtain ⟨t, ht⟩ := h n (by omega)
    refine ⟨ts ++ [t], by simp [hl], fun i hi => ?_⟩
    by_cases hin : i < ts.length
    · rw [List.getElem_append_left hin]; exact hp i hin
    · have : i = n := by simp at hi; omega
      subst this
      rw [List.getElem_append_right (by omega)]
      simpa [hl] using ht

section
variable {H : Type} {enc : TypeId × Value → H} {P : Program} {w : World}
theorem open_list {T : Type} (f : T → List Value) (ok : T → Prop) {s : Nat} (hf : ∀ t, (f t).length = s) (h0 : 0 < s) {t e : TypeId} (ht : P.underlying t = some (.slice e)) (hs : P.cellsOf e = s)
    (hdec : ∀ n cs' y, cs'.length = s → DataW.trod enc P w 0 (fun _ => true) true n e cs' = some y → ∃ t, cs' = f t ∧ ok t)
    {a : Option Addr} {len cap fuel : Nat} {x : DataW H × List MemPlace} (h : DataW.trod enc P w 0 (fun _ => true) true fuel t (Value.slice a len cap).cells.toList = some x) :
    ∃ ts : List T, ts.length = len ∧ len ≤ cap ∧ cap ≤ maxLen ∧ (∀ t ∈ ts, ok t) ∧ RC w a (ts.flatMap f) := by
  rcases open_slice ht h with ⟨hcs, _⟩ | ⟨ad, l, c, m, n, D, Pl, hcs, _, hl, hm, hmm, _, hx⟩
  · simp [Value.cells] at hcs
    obtain ⟨rfl, rfl, rfl⟩ := hcs
    exact ⟨[], rfl, Nat.le_refl _, Nat.zero_le _, fun t ht => by simp at ht, RC.nil _ _⟩
  · simp [Value.cells] at hcs
    obtain ⟨rfl, rfl, rfl⟩ := hcs
    have hmc : m = cap := by rw [hmm]; simp
    subst hmc
    rw [hs] at hx
    obtain ⟨ts, htl, hts⟩ := choose_list len (fun i t => w.cells? 0 (ad.add (i * s)) s = some (f t) ∧ ok t) (fun i hi => by
      obtain ⟨cs', h1, h2⟩ := hx i (by omega)
      obtain ⟨_, hlen, _⟩ := World.cells?_some h1
      obtain ⟨t, rfl, hok⟩ := hdec n cs' _ hlen h2
      exact ⟨t, h1, hok⟩)
    refine ⟨ts, htl, hl, hm, fun t ht => ?_, fun hne => ?_⟩
    · obtain ⟨i, hi, rfl⟩ := List.mem_iff_getElem.1 ht
      exact (hts i hi).2
    · have hl0 : 0 < ts.length := by
        rcases ts with _ | ⟨t, ts⟩
        · simp at hne
        · simp
      have hcell : ∀ i r, (hi : i < ts.length) → r < s → w.cell? ((ad.add (i * s)).add r) = (f ts[i])[r]? := fun i r hi hr => (World.cells?_some (hts i hi).1).2.2 r hr
      obtain ⟨b, off, spot⟩ := ad
      have hc0 := hcell 0 0 hl0 h0
      rw [Nat.zero_mul] at hc0
      have hl2 : 0 < (f ts[0]).length := by rw [hf]; exact h0
      rw [List.getElem?_eq_getElem hl2] at hc0
      have hspot : spot = none := by simpa [Addr.add] using World.cell?_spot hc0
      subst hspot
      refine ⟨b, off, rfl, rc_of_elems f hf ts off fun i r hi hr => ?_⟩
      rw [← hcell i r hi hr]
      have hadd : ∀ (o n : Nat), (⟨b, o, none⟩ : Addr).add n = ⟨b, o + n, none⟩ := fun o n => by
        unfold Addr.add
        by_cases hn : n = 0
        · subst hn; rfl
        · rw [if_neg hn]
      rw [hadd, hadd, Nat.add_assoc]
end
end Go.Proofs.Ytkhobpghiachoaa
