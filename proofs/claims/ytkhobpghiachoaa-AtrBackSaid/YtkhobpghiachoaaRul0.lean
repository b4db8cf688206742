/-
  Which answers to reset are valid: what the program's rules say, plainly.
-/
import Derived.Test.YtkhobpghiachoaaAtr
namespace Go.Proofs.Ytkhobpghiachoaa
open Go.RowKit
set_option linter.unusedVariables false

def okPs (ps : List Int) : Bool := decide (ps = [0]) || decide (ps = [1]) || decide (ps = [0, 1])
/-- One step of the program's rules; none: not valid. -/
def stepR (p0 : Int) (ps : List Int) (st : Int × If) (x : If) : Option (Int × If) :=
  if x.g < 1 ∨ x.k < 0 ∨ 3 ≤ x.k ∨ x.v < 0 ∨ 255 < x.v then none
  else if x.g < st.2.g ∨ (x.g = st.2.g ∧ x.k ≤ st.2.k) then none
  else if (x.g = 1 ∧ x.p ≠ 0) ∨ (x.g = 2 ∧ x.p ≠ p0) then none
  else if 3 ≤ x.g ∧ x.p ∉ ps then none
  else if 3 ≤ x.g ∧ x.g = st.2.g ∧ x.p ≠ st.2.p then none
  else if 3 ≤ x.g ∧ x.p < st.1 then none
  else if 4 ≤ x.g ∧ st.2.g ≠ x.g ∧ st.2.g ≠ x.g - 1 then none
  else some (if 3 ≤ x.g then x.p else st.1, x)
def runR (p0 : Int) (ps : List Int) : Int × If → List If → Bool
  | _, [] => true
  | st, x :: l => match stepR p0 ps st x with | some st' => runR p0 ps st' l | none => false
def rulesF (a : Atr) : Bool := okPs a.ps && decide (a.hs.length ≤ 15) && runR (a.ps.headD 0) a.ps (a.ps.headD 0, ⟨0, 3, 0, 0⟩) a.bs
theorem runR_step {p0 : Int} {ps : List Int} {st : Int × If} {l : List If} {k : Nat} (h : k < l.length) : runR p0 ps st (l.drop k) = (match stepR p0 ps st l[k] with | some st' => runR p0 ps st' (l.drop (k + 1)) | none => false) := by
  rw [List.drop_eq_getElem_cons h]
  rfl

/-- What one step that is taken tells. -/
theorem stepR_some {p0 : Int} {ps : List Int} {st st' : Int × If} {x : If} (h : stepR p0 ps st x = some st') :
    (1 ≤ x.g ∧ 0 ≤ x.k ∧ x.k < 3 ∧ 0 ≤ x.v ∧ x.v ≤ 255) ∧ (st.2.g < x.g ∨ (x.g = st.2.g ∧ st.2.k < x.k)) ∧ (x.g = 1 → x.p = 0) ∧ (x.g = 2 → x.p = p0) ∧ (3 ≤ x.g → x.p ∈ ps ∧ (x.g = st.2.g → x.p = st.2.p) ∧ st.1 ≤ x.p) ∧
      (4 ≤ x.g → st.2.g = x.g ∨ st.2.g = x.g - 1) ∧ st' = (if 3 ≤ x.g then x.p else st.1, x) := by
  unfold stepR at h
  split at h
  · cases h
  split at h
  · cases h
  split at h
  · cases h
  split at h
  · cases h
  split at h
  · cases h
  split at h
  · cases h
  split at h
  · cases h
  rename_i h1 h2 h3 h4 h5 h6 h7
  refine ⟨by omega, by omega, fun e => ?_, fun e => ?_, fun e => ⟨?_, fun e2 => ?_, ?_⟩, fun e => by omega, by simpa using h.symm⟩
  · exact Classical.byContradiction fun hn => h3 (.inl ⟨e, hn⟩)
  · exact Classical.byContradiction fun hn => h3 (.inr ⟨e, hn⟩)
  · exact Classical.byContradiction fun hn => h4 ⟨e, hn⟩
  · exact Classical.byContradiction fun hn => h5 ⟨e, e2, hn⟩
  · exact Int.not_lt.1 fun hn => h6 ⟨e, hn⟩
theorem runR_cons {p0 : Int} {ps : List Int} {st : Int × If} {x : If} {l : List If} (h : runR p0 ps st (x :: l) = true) :
    stepR p0 ps st x = some (if 3 ≤ x.g then x.p else st.1, x) ∧ runR p0 ps (if 3 ≤ x.g then x.p else st.1, x) l = true := by
  unfold runR at h
  rcases hs : stepR p0 ps st x with _ | st'
  · rw [hs] at h; cases h
  · rw [hs] at h
    obtain ⟨_, _, _, _, _, _, rfl⟩ := stepR_some hs
    exact ⟨rfl, h⟩

/-- What the rules tell of all interface bytes. -/
structure Ruled (p0 : Int) (ps : List Int) (st : Int × If) (l : List If) : Prop where
  basic : ∀ x ∈ l, 1 ≤ x.g ∧ 0 ≤ x.k ∧ x.k < 3 ∧ 0 ≤ x.v ∧ x.v ≤ 255
  after : ∀ x ∈ l, st.2.g < x.g ∨ (x.g = st.2.g ∧ st.2.k < x.k)
  sorted : l.Pairwise fun x y => x.g < y.g ∨ (y.g = x.g ∧ x.k < y.k)
  one : ∀ x ∈ l, x.g = 1 → x.p = 0
  two : ∀ x ∈ l, x.g = 2 → x.p = p0
  inPs : ∀ x ∈ l, 3 ≤ x.g → x.p ∈ ps
  low : ∀ x ∈ l, 3 ≤ x.g → st.1 ≤ x.p
  up : l.Pairwise fun x y => 3 ≤ x.g → x.p ≤ y.p
  same0 : ∀ x ∈ l, 3 ≤ x.g → x.g = st.2.g → x.p = st.2.p
  same : l.Pairwise fun x y => 3 ≤ x.g → y.g = x.g → y.p = x.p
  next : ∀ x ∈ l, 4 ≤ x.g → (∃ y ∈ l, y.g = x.g - 1) ∨ st.2.g = x.g ∨ st.2.g = x.g - 1

theorem ruled {p0 : Int} {ps : List Int} : ∀ (l : List If) (st : Int × If), runR p0 ps st l = true → Ruled p0 ps st l
  | [], st, _ => by constructor <;> simp
  | x :: l, st, h => by
    obtain ⟨hs, hr⟩ := runR_cons h
    obtain ⟨h1, h2, h3, h4, h5, h6, _⟩ := stepR_some hs
    have ih := ruled l _ hr
    have haf := ih.after
    simp only at haf
    constructor
    · intro y hy
      rcases List.mem_cons.1 hy with rfl | hy
      · exact h1
      · exact ih.basic y hy
    · intro y hy
      rcases List.mem_cons.1 hy with rfl | hy
      · exact h2
      · have := haf y hy
        omega
    · refine List.pairwise_cons.2 ⟨fun y hy => ?_, ih.sorted⟩
      exact haf y hy
    · intro y hy
      rcases List.mem_cons.1 hy with rfl | hy
      · exact h3
      · exact ih.one y hy
    · intro y hy
      rcases List.mem_cons.1 hy with rfl | hy
      · exact h4
      · exact ih.two y hy
    · intro y hy hh
      rcases List.mem_cons.1 hy with rfl | hy
      · exact (h5 hh).1
      · exact ih.inPs y hy hh
    · intro y hy hh
      rcases List.mem_cons.1 hy with rfl | hy
      · exact (h5 hh).2.2
      · have h7 := ih.low y hy hh
        simp only at h7
        by_cases hx : 3 ≤ x.g
        · rw [if_pos hx] at h7
          exact Int.le_trans (h5 hx).2.2 h7
        · rw [if_neg hx] at h7
          exact h7
    · refine List.pairwise_cons.2 ⟨fun y hy hx => ?_, ih.up⟩
      have h7 := ih.low y hy (by have := haf y hy; omega)
      simp only at h7
      rw [if_pos hx] at h7
      exact h7
    · intro y hy hh e
      rcases List.mem_cons.1 hy with rfl | hy
      · exact (h5 hh).2.1 e
      · have h8 := haf y hy
        have hxg : x.g = st.2.g := by omega
        rw [ih.same0 y hy hh (by simp only; omega)]
        exact (h5 (by omega)).2.1 hxg
    · refine List.pairwise_cons.2 ⟨fun y hy hx e => ?_, ih.same⟩
      exact ih.same0 y hy (by omega) e
    · intro y hy hh
      rcases List.mem_cons.1 hy with rfl | hy
      · exact .inr (h6 hh)
      · rcases ih.next y hy hh with ⟨z, hz, e⟩ | e | e
        · exact .inl ⟨z, List.mem_cons_of_mem _ hz, e⟩
        · simp only at e
          have h4x : 4 ≤ x.g := by omega
          rcases h6 h4x with h9 | h9
          · exact .inr (.inl (by omega))
          · exact .inr (.inr (by omega))
        · simp only at e
          exact .inl ⟨x, List.mem_cons_self .., e⟩
theorem rules_ruled {a : Atr} (h : rulesF a = true) : okPs a.ps = true ∧ a.hs.length ≤ 15 ∧ Ruled (a.ps.headD 0) a.ps (a.ps.headD 0, ⟨0, 3, 0, 0⟩) a.bs := by
  unfold rulesF at h
  simp only [Bool.and_eq_true, decide_eq_true_eq] at h
  exact ⟨h.1.1, h.1.2, ruled _ _ h.2⟩
/-- No group is left out behind the third: an element's group is at most two more than its place. -/
theorem ruled_few {p0 : Int} {ps : List Int} : ∀ (l : List If) (st : Int × If), runR p0 ps st l = true → ∀ x ∈ l, x.g ≤ (l.length : Int) + (if st.2.g < 3 then 3 else st.2.g)
  | [], st, _ => by simp
  | x :: l, st, h => by
    obtain ⟨hs, hr⟩ := runR_cons h
    obtain ⟨h1, h2, h3, h4, h5, h6, _⟩ := stepR_some hs
    have ih := ruled_few l _ hr
    simp only at ih
    have hx : x.g ≤ 1 + (if st.2.g < 3 then 3 else st.2.g) := by split <;> omega
    have hm : (if x.g < 3 then 3 else x.g) ≤ 1 + (if st.2.g < 3 then 3 else st.2.g) := by split <;> split <;> omega
    intro y hy
    rw [List.length_cons]
    rcases List.mem_cons.1 hy with rfl | hy
    · push_cast
      omega
    · have := ih y hy
      push_cast
      omega
end Go.Proofs.Ytkhobpghiachoaa
