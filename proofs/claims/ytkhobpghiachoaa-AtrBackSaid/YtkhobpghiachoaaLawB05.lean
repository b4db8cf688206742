/-
  The reference's Check agrees with the program's: lengths of the encoding.
-/
import Derived.Test.YtkhobpghiachoaaLaw05
namespace Go.Proofs.Ytkhobpghiachoaa
open Go.RowKit Crc
set_option linter.unusedVariables false

theorem split_last : ∀ (l : List If) (n : Int), (l.Pairwise fun x y => x.g ≤ y.g) → (∀ x ∈ l, x.g ≤ n + 1) → l = (l.filter fun x => decide (x.g ≤ n)) ++ gp l (n + 1)
  | [], n, _, _ => by simp [gp]
  | x :: l, n, hs, h1 => by
    have hs2 := List.pairwise_cons.1 hs
    have ih := split_last l n hs2.2 (fun y hy => h1 y (List.mem_cons_of_mem _ hy))
    rw [gp_cons, List.filter_cons]
    by_cases hx : x.g ≤ n
    · rw [if_pos (by simpa using hx), if_neg (by omega)]
      simp only [List.nil_append, List.cons_append]
      rw [← ih]
    · rw [if_neg (by simpa using hx), if_pos (by have := h1 x (by simp); omega)]
      have e : l.filter (fun x => decide (x.g ≤ n)) = [] := by
        apply List.filter_eq_nil_iff.2
        intro y hy
        have := hs2.1 y hy
        simp
        omega
      rw [e] at ih ⊢
      simp only [List.nil_append, List.cons_append]
      simp only [List.nil_append] at ih
      rw [← ih]
theorem flat_gp : ∀ (n : Nat) (l : List If), (l.Pairwise fun x y => x.g ≤ y.g) → (∀ x ∈ l, 1 ≤ x.g ∧ x.g ≤ n) → (List.range n).flatMap (fun i : Nat => gp l ((i : Int) + 1)) = l
  | 0, l, _, h => by
    rcases l with _ | ⟨x, l⟩
    · rfl
    · have := h x (by simp); omega
  | n + 1, l, hs, h => by
    have hsp := split_last l n hs (fun x hx => by have := h x hx; omega)
    have ih := flat_gp n (l.filter fun x => decide (x.g ≤ n)) (hs.sublist List.filter_sublist) (fun x hx => by
      have h2 := List.mem_filter.1 hx
      have h3 : x.g ≤ (n : Int) := by simpa using h2.2
      exact ⟨(h x h2.1).1, h3⟩)
    rw [List.range_succ, List.flatMap_append]
    simp only [List.flatMap_cons, List.flatMap_nil, List.append_nil]
    have e : (List.range n).flatMap (fun i : Nat => gp l ((i : Int) + 1)) = (List.range n).flatMap (fun i : Nat => gp (l.filter fun x => decide (x.g ≤ n)) ((i : Int) + 1)) := by
      apply flatMap_same
      intro i hi
      have hi2 := List.mem_range.1 hi
      unfold gp
      rw [List.filter_filter]
      apply List.filter_congr
      intro x hx
      by_cases hxg : x.g = (i : Int) + 1
      · simp [hxg]; omega
      · simp [hxg]
    rw [e, ih]
    exact hsp.symm
theorem flat_len {α : Type} (f g : Nat → List α) : ∀ n, ((List.range n).flatMap fun i => f i ++ g i).length = ((List.range n).flatMap f).length + ((List.range n).flatMap g).length
  | 0 => rfl
  | n + 1 => by
    simp only [List.range_succ, List.flatMap_append, List.flatMap_cons, List.flatMap_nil, List.append_nil, List.length_append]
    rw [flat_len f g n]
    omega
theorem flat_heads (n : Nat) (f : Nat → UInt8) : ∀ k, ((List.range k).flatMap fun i => if i + 1 < n then [f i] else []).length = min k (n - 1)
  | 0 => by simp
  | k + 1 => by
    simp only [List.range_succ, List.flatMap_append, List.flatMap_cons, List.flatMap_nil, List.append_nil, List.length_append]
    rw [flat_heads n f k]
    split
    · simp; omega
    · simp; omega
theorem flat_map_len {α β : Type} (f : α → β) (g : Nat → List α) : ∀ n, ((List.range n).flatMap fun i => (g i).map f).length = ((List.range n).flatMap g).length
  | 0 => rfl
  | n + 1 => by
    simp only [List.range_succ, List.flatMap_append, List.flatMap_cons, List.flatMap_nil, List.append_nil, List.length_append, List.length_map]
    rw [flat_map_len f g n]
theorem encS_len {l : List If} {n : Nat} (hs1 : l.Pairwise fun x y => x.g ≤ y.g) (hg : ∀ x ∈ l, 1 ≤ x.g ∧ x.g ≤ n) (hn : 1 ≤ n) (inv : Bool) (p0 : Int) (hs : List UInt8) (one : Bool) :
    (encS inv p0 l hs n one).length = 2 + l.length + (n - 1) + hs.length + (if one = true then 1 else 0) := by
  unfold encS
  have h1 := flat_len (fun i : Nat => (gp l ((i : Int) + 1)).map (fun x => byteI x.v)) (fun i => if i + 1 < n then [byteI (presR l n ((i : Int) + 2) + protR p0 l ((i : Int) + 2))] else []) n
  rw [flat_map_len, flat_gp n l hs1 hg, flat_heads] at h1
  have h2 : min n (n - 1) = n - 1 := by omega
  rw [h2] at h1
  cases one
  · simp only [Bool.false_eq_true, if_false, List.length_append, h1, List.length_cons, List.length_nil]
    omega
  · simp only [if_true, List.length_append, h1, List.length_cons, List.length_nil]
    omega

/-- All that validity gives, at once. -/
structure Valid (a : Atr) : Prop where
  ps : okPs a.ps = true
  hs : a.hs.length ≤ 15
  r : Ruled (a.ps.headD 0) a.ps (a.ps.headD 0, ⟨0, 3, 0, 0⟩) a.bs
def nG (a : Atr) : Nat := (lastN (a.ps.headD 0) a.ps.length a.bs).toNat
theorem valid_of {a : Atr} (h : rulesF a = true) : Valid a := by
  obtain ⟨h1, h2, h3⟩ := rules_ruled h
  exact ⟨h1, h2, h3⟩
theorem Valid.n1 {a : Atr} (h : Valid a) : 1 ≤ nG a ∧ (nG a : Int) = lastN (a.ps.headD 0) a.ps.length a.bs ∧ lastG a.bs ≤ nG a ∧ (nG a : Int) ≤ (if lastG a.bs < 2 then 3 else lastG a.bs + 1) := by
  have h1 := lastN_ge h.r a.ps.length
  unfold nG
  omega
theorem Valid.sorted {a : Atr} (h : Valid a) : a.bs.Pairwise fun x y => x.g ≤ y.g := h.r.sorted.imp (by intro x y hxy; omega)
theorem Valid.le {a : Atr} (h : Valid a) : ∀ x ∈ a.bs, 1 ≤ x.g ∧ x.g ≤ nG a := fun x hx => ⟨(h.r.basic x hx).1, Int.le_trans (lastG_all h.r x hx) h.n1.2.2.1⟩
def encR (a : Atr) : List UInt8 := encS a.inv (a.ps.headD 0) a.bs a.hs (nG a) (decide (1 ∈ a.ps))
theorem encF_same {a : Atr} (h : Valid a) : encF a = encR a := by
  unfold encF encR
  rw [numF_last h.r]
  have h1 := okPs_one h.ps
  exact enc_same h.r h1.1 h1.2 a.inv a.hs h.hs (nG a) h.n1.1 _
theorem encR_lenV {a : Atr} (h : Valid a) : (encR a).length = 2 + a.bs.length + (nG a - 1) + a.hs.length + (if 1 ∈ a.ps then 1 else 0) := by
  unfold encR
  rw [encS_len h.sorted h.le h.n1.1]
  simp
/-- What the reference's Check answers is what the program's answers. -/
theorem chk_same {a : Atr} (h : rulesF a = true) : chkF a = if 33 < a.bs.length ∨ 40 < lastN (a.ps.headD 0) a.ps.length a.bs ∨ 33 < (encR a).length then 3 else 0 := by
  have hv := valid_of h
  have hl := encR_lenV hv
  have hn := hv.n1
  unfold chkF
  rw [if_neg (by rw [h]; decide), encF_same hv]
  by_cases hc : 33 < a.bs.length ∨ 40 < lastN (a.ps.headD 0) a.ps.length a.bs ∨ 33 < (encR a).length
  · rw [if_pos hc]
    by_cases h1 : 33 < lastG a.bs
    · rw [if_pos h1]
    · rw [if_neg h1, if_pos ?_]
      rcases hc with hc | hc | hc
      · omega
      · have h2 := hn.2.2.2
        split at h2 <;> omega
      · exact hc
  · rw [if_neg hc]
    have h3 : ¬ 33 < (encR a).length := fun h => hc (.inr (.inr h))
    rw [if_neg h3, if_neg (by omega)]
end Go.Proofs.Ytkhobpghiachoaa
