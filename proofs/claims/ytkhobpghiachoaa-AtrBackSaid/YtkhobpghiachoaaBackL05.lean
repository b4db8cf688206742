/-
  What is encoded is read unchanged: the plain law.
-/
import Derived.Test.YtkhobpghiachoaaDec05
import Derived.Test.YtkhobpghiachoaaBytes05
namespace Go.Proofs.Ytkhobpghiachoaa
open Go.RowKit Crc
set_option linter.unusedVariables false

theorem byteI_val {z : Int} (h0 : 0 ≤ z) (h1 : z ≤ 255) : ((byteI z).toNat : Int) = z := by
  rw [byteI_toNat]
  omega
theorem bit_of {t j k : Nat} (h : t / 16 % 8 = j) (hk : k < 3) : bitB t k = decide (j / 2 ^ k % 2 = 1) := by
  unfold bitB
  rcases (show k = 0 ∨ k = 1 ∨ k = 2 from by omega) with rfl | rfl | rfl
  · have e : t / (16 * 2 ^ 0) % 2 = j / 2 ^ 0 % 2 := by simp; omega
    rw [e]
  · have e : t / (16 * 2 ^ 1) % 2 = j / 2 ^ 1 % 2 := by simp; omega
    rw [e]
  · have e : t / (16 * 2 ^ 2) % 2 = j / 2 ^ 2 % 2 := by simp; omega
    rw [e]
theorem rdG_yes {g prot : Int} {t k : Nat} {ks : List Nat} {bs : List If} {v : UInt8} {r : List UInt8} (h : bitB t k = true) : rdG g prot t (k :: ks) bs (v :: r) = rdG g prot t ks (bs ++ [⟨g, k, (v.toNat : Int), prot⟩]) r := by
  conv => lhs; unfold rdG
  rw [if_pos h]
theorem rdG_no {g prot : Int} {t k : Nat} {ks : List Nat} {bs : List If} {r : List UInt8} (h : bitB t k = false) : rdG g prot t (k :: ks) bs r = rdG g prot t ks bs r := by
  conv => lhs; unfold rdG
  rw [if_neg (by rw [h]; decide)]
theorem rdG_end {g prot : Int} {t : Nat} {bs : List If} {r : List UInt8} : rdG g prot t [] bs r = some (bs, r) := by
  unfold rdG
  rfl
/-- One group is read back. -/
theorem rdG_back (g prot : Int) (t : Nat) (xs bs : List If) (r : List UInt8) (hk : ∀ x ∈ xs, 0 ≤ x.k ∧ x.k < 3) (hs : xs.Pairwise fun x y => x.k < y.k) (hg : ∀ x ∈ xs, x.g = g) (hv : ∀ x ∈ xs, 0 ≤ x.v ∧ x.v ≤ 255) (hp : ∀ x ∈ xs, x.p = prot)
    (ht : ((t / 16 % 8 : Nat) : Int) * 16 = sumK xs) : rdG g prot t [0, 1, 2] bs (xs.map (fun x => byteI x.v) ++ r) = some (bs ++ xs, r) := by
  have h8 := kinds8 xs hk hs
  have hone : ∀ x ∈ xs, ∀ k : Nat, x.k = (k : Int) → (⟨g, (k : Int), ((byteI x.v).toNat : Int), prot⟩ : If) = x := by
    intro x hx k e
    rw [byteI_val (hv x hx).1 (hv x hx).2, ← hg x hx, ← hp x hx, ← e]
  rw [sumK_map] at ht
  generalize hj : t / 16 % 8 = j at ht
  have b0 := bit_of (k := 0) hj (by omega)
  have b1 := bit_of (k := 1) hj (by omega)
  have b2 := bit_of (k := 2) hj (by omega)
  clear hj hk hs hg hv hp
  simp only [List.mem_cons, List.not_mem_nil, or_false] at h8
  rcases h8 with h | h | h | h | h | h | h | h <;> rw [h] at ht <;> simp at ht
  · obtain rfl : j = 0 := by omega
    obtain rfl : xs = [] := List.map_eq_nil_iff.1 h
    rw [rdG_no b0, rdG_no b1, rdG_no b2, rdG_end]
    simp
  · obtain rfl : j = 1 := by omega
    obtain ⟨x, l, rfl, e, hl⟩ := List.map_eq_cons_iff.1 h
    obtain rfl : l = [] := List.map_eq_nil_iff.1 hl
    simp only [List.map_cons, List.map_nil, List.cons_append, List.nil_append]
    rw [rdG_yes b0, rdG_no b1, rdG_no b2, rdG_end, hone x (by simp) 0 e]
  · obtain rfl : j = 2 := by omega
    obtain ⟨x, l, rfl, e, hl⟩ := List.map_eq_cons_iff.1 h
    obtain rfl : l = [] := List.map_eq_nil_iff.1 hl
    simp only [List.map_cons, List.map_nil, List.cons_append, List.nil_append]
    rw [rdG_no b0, rdG_yes b1, rdG_no b2, rdG_end, hone x (by simp) 1 e]
  · obtain rfl : j = 4 := by omega
    obtain ⟨x, l, rfl, e, hl⟩ := List.map_eq_cons_iff.1 h
    obtain rfl : l = [] := List.map_eq_nil_iff.1 hl
    simp only [List.map_cons, List.map_nil, List.cons_append, List.nil_append]
    rw [rdG_no b0, rdG_no b1, rdG_yes b2, rdG_end, hone x (by simp) 2 e]
  · obtain rfl : j = 3 := by omega
    obtain ⟨x, l, rfl, e, hl⟩ := List.map_eq_cons_iff.1 h
    obtain ⟨y, l, rfl, e2, hl⟩ := List.map_eq_cons_iff.1 hl
    obtain rfl : l = [] := List.map_eq_nil_iff.1 hl
    simp only [List.map_cons, List.map_nil, List.cons_append, List.nil_append]
    rw [rdG_yes b0, rdG_yes b1, rdG_no b2, rdG_end, hone x (by simp) 0 e, hone y (by simp) 1 e2]
    simp
  · obtain rfl : j = 5 := by omega
    obtain ⟨x, l, rfl, e, hl⟩ := List.map_eq_cons_iff.1 h
    obtain ⟨y, l, rfl, e2, hl⟩ := List.map_eq_cons_iff.1 hl
    obtain rfl : l = [] := List.map_eq_nil_iff.1 hl
    simp only [List.map_cons, List.map_nil, List.cons_append, List.nil_append]
    rw [rdG_yes b0, rdG_no b1, rdG_yes b2, rdG_end, hone x (by simp) 0 e, hone y (by simp) 2 e2]
    simp
  · obtain rfl : j = 6 := by omega
    obtain ⟨x, l, rfl, e, hl⟩ := List.map_eq_cons_iff.1 h
    obtain ⟨y, l, rfl, e2, hl⟩ := List.map_eq_cons_iff.1 hl
    obtain rfl : l = [] := List.map_eq_nil_iff.1 hl
    simp only [List.map_cons, List.map_nil, List.cons_append, List.nil_append]
    rw [rdG_no b0, rdG_yes b1, rdG_yes b2, rdG_end, hone x (by simp) 1 e, hone y (by simp) 2 e2]
    simp
  · obtain rfl : j = 7 := by omega
    obtain ⟨x, l, rfl, e, hl⟩ := List.map_eq_cons_iff.1 h
    obtain ⟨y, l, rfl, e2, hl⟩ := List.map_eq_cons_iff.1 hl
    obtain ⟨z, l, rfl, e3, hl⟩ := List.map_eq_cons_iff.1 hl
    obtain rfl : l = [] := List.map_eq_nil_iff.1 hl
    simp only [List.map_cons, List.map_nil, List.cons_append, List.nil_append]
    rw [rdG_yes b0, rdG_yes b1, rdG_yes b2, rdG_end, hone x (by simp) 0 e, hone y (by simp) 1 e2, hone z (by simp) 2 e3]
    simp

/-- The bytes of the groups behind number i, k more of them. -/
def tl (p0 : Int) (l : List If) (n : Nat) : Nat → Nat → List UInt8
  | i, 0 => valsR l ((i : Int) + 1)
  | i, k + 1 => valsR l ((i : Int) + 1) ++ (byteI (presR l n ((i : Int) + 2) + protR p0 l ((i : Int) + 2)) :: tl p0 l n (i + 1) k)
def fl (l : List If) : Nat → Nat → List If
  | i, 0 => gp l ((i : Int) + 1)
  | i, k + 1 => gp l ((i : Int) + 1) ++ fl l (i + 1) k
/-- The protocols named. -/
def prs (p0 : Int) (l : List If) : Nat → Nat → List Int
  | _, 0 => []
  | i, k + 1 => protR p0 l ((i : Int) + 2) :: prs p0 l (i + 1) k
def addPs (ps L : List Int) : List Int := L.foldl (fun ps p => if p ∈ ps then ps else ps ++ [p]) ps
def addSm (sm : Bool) (L : List Int) : Bool := L.foldl (fun s p => s || decide (p ≠ 0)) sm
theorem tl_flat (p0 : Int) (l : List If) (n : Nat) : ∀ (k i : Nat), i + 1 + k = n → (List.range' i (k + 1)).flatMap (stepS p0 l n) = tl p0 l n i k
  | 0, i, h => by
    simp only [List.range'_succ, List.range'_zero, List.flatMap_cons, List.flatMap_nil, List.append_nil]
    unfold tl stepS
    rw [if_neg (by omega), List.append_nil]
  | k + 1, i, h => by
    rw [List.range'_succ, List.flatMap_cons, tl_flat p0 l n k (i + 1) (by omega)]
    unfold stepS
    rw [if_pos (by omega)]
    conv => rhs; unfold tl
    simp
theorem fl_flat (l : List If) : ∀ (k i : Nat), (List.range' i (k + 1)).flatMap (fun i : Nat => gp l ((i : Int) + 1)) = fl l i k
  | 0, i => by
    simp only [List.range'_succ, List.range'_zero, List.flatMap_cons, List.flatMap_nil, List.append_nil]
    unfold fl
    rfl
  | k + 1, i => by
    rw [List.range'_succ, List.flatMap_cons, fl_flat l k (i + 1)]
    conv => rhs; unfold fl
theorem prs_mem (p0 : Int) (l : List If) (p : Int) : ∀ (k i : Nat), p ∈ prs p0 l i k ↔ ∃ j : Nat, j < k ∧ p = protR p0 l (((i + j : Nat) : Int) + 2)
  | 0, i => by
    unfold prs
    simp
  | k + 1, i => by
    unfold prs
    rw [List.mem_cons, prs_mem p0 l p k (i + 1)]
    constructor
    · rintro (h | ⟨j, hj, h⟩)
      · exact ⟨0, by omega, h⟩
      · exact ⟨j + 1, by omega, by rw [h, show i + 1 + j = i + (j + 1) from by omega]⟩
    · rintro ⟨j, hj, h⟩
      rcases j with _ | j
      · exact .inl h
      · exact .inr ⟨j, by omega, by rw [h, show i + 1 + j = i + (j + 1) from by omega]⟩

/-- The presence byte of a group. -/
theorem pres_byte {p0 : Int} {ps : List Int} {st : Int × If} {l : List If} (h : Ruled p0 ps st l) (n g q : Int) (h0 : 0 ≤ q) (h1 : q < 16) :
    (((byteI (presR l n g + q)).toNat / 16 % 8 : Nat) : Int) * 16 = sumK (gp l g) ∧ (g < n ↔ ¬ (byteI (presR l n g + q)).toNat < 128) ∧ (((byteI (presR l n g + q)).toNat % 16 : Nat) : Int) = q := by
  have hk : ∀ x ∈ gp l g, 0 ≤ x.k ∧ x.k < 3 := fun x hx => by have := h.basic x (gp_mem hx).1; omega
  obtain ⟨j, _, h3⟩ := pres_eight _ hk (gp_kinds h g)
  have hj := j.isLt
  have hb := byteI_toNat (presR l n g + q)
  unfold presR at hb ⊢
  rw [h3] at hb ⊢
  generalize byteI (16 * (j.val : Int) + (if g < n then 128 else 0) + q) = b at hb ⊢
  by_cases hgn : g < n
  · rw [if_pos hgn] at hb
    refine ⟨by omega, ⟨fun _ => by omega, fun _ => hgn⟩, by omega⟩
  · rw [if_neg hgn] at hb
    refine ⟨by omega, ⟨fun h => absurd h hgn, fun hh => absurd (show b.toNat < 128 by omega) hh⟩, by omega⟩

/-- The groups are read back. -/
theorem rdA_back {p0 : Int} {ps0 : List Int} {st : Int × If} {l : List If} (hr : Ruled p0 ps0 st l) (hP : ∀ g, protR p0 l g = 0 ∨ protR p0 l g = 1) (n : Nat) (rest : List UInt8) :
    ∀ (k i f t : Nat) (prot : Int) (bs : List If) (ps : List Int) (sm : Bool), i + 1 + k = n → k < f → ((t / 16 % 8 : Nat) : Int) * 16 = sumK (gp l ((i : Int) + 1)) → (((i : Int) + 1 < n) ↔ ¬ t < 128) → (∀ x ∈ gp l ((i : Int) + 1), x.p = prot) →
    rdA f ((i : Int) + 1) t prot bs ps sm (tl p0 l n i k ++ rest) = some ⟨bs ++ fl l i k, addPs ps (prs p0 l i k), addSm sm (prs p0 l i k), rest⟩ := by
  have hG : ∀ (i t : Nat) (prot : Int) (bs : List If) (r : List UInt8), ((t / 16 % 8 : Nat) : Int) * 16 = sumK (gp l ((i : Int) + 1)) → (∀ x ∈ gp l ((i : Int) + 1), x.p = prot) → rdG ((i : Int) + 1) prot t [0, 1, 2] bs (valsR l ((i : Int) + 1) ++ r) = some (bs ++ gp l ((i : Int) + 1), r) := by
    intro i t prot bs r ht hp
    refine rdG_back _ _ t (gp l ((i : Int) + 1)) bs r (fun x hx => by have := hr.basic x (gp_mem hx).1; omega) (gp_kinds hr _) (fun x hx => (gp_mem hx).2) (fun x hx => by have := hr.basic x (gp_mem hx).1; omega) hp ht
  intro k
  induction k with
  | zero =>
    intro i f t prot bs ps sm hn hf ht hm hp
    obtain ⟨f, rfl⟩ : ∃ f', f = f' + 1 := ⟨f - 1, by omega⟩
    have ht8 : t < 128 := by
      rcases Nat.lt_or_ge t 128 with h | h
      · exact h
      · have := hm.2 (by omega); omega
    unfold rdA tl
    rw [hG i t prot bs rest ht hp]
    simp only
    rw [if_pos ht8]
    rfl
  | succ k ih =>
    intro i f t prot bs ps sm hn hf ht hm hp
    obtain ⟨f, rfl⟩ : ∃ f', f = f' + 1 := ⟨f - 1, by omega⟩
    have ht8 : ¬ t < 128 := hm.1 (by omega)
    have hq : 0 ≤ protR p0 l ((i : Int) + 2) ∧ protR p0 l ((i : Int) + 2) < 16 := by
      rcases hP ((i : Int) + 2) with e | e <;> rw [e] <;> omega
    obtain ⟨q1, q2, q3⟩ := pres_byte hr n ((i : Int) + 2) _ hq.1 hq.2
    have e1 : ((i + 1 : Nat) : Int) + 1 = (i : Int) + 2 := by push_cast; omega
    have e3 : ((byteI (presR l n ((i : Int) + 2) + protR p0 l ((i : Int) + 2))).toNat : Int) % 16 = protR p0 l ((i : Int) + 2) := by
      omega
    have hp2 : ∀ x ∈ gp l (((i + 1 : Nat) : Int) + 1), x.p = protR p0 l ((i : Int) + 2) := by
      rw [e1]
      exact gp_prot hr _
    have hz := ih (i + 1) f (byteI (presR l n ((i : Int) + 2) + protR p0 l ((i : Int) + 2))).toNat (protR p0 l ((i : Int) + 2)) (bs ++ gp l ((i : Int) + 1))
      (if protR p0 l ((i : Int) + 2) ∈ ps then ps else ps ++ [protR p0 l ((i : Int) + 2)]) (sm || decide (protR p0 l ((i : Int) + 2) ≠ 0)) (by omega) (by omega) (by rw [e1]; exact q1) (by rw [e1]; exact q2) hp2
    conv => lhs; unfold rdA tl
    rw [List.append_assoc, hG i t prot bs _ ht hp]
    simp only [List.cons_append]
    rw [if_neg ht8, e3, show (i : Int) + 1 + 1 = ((i + 1 : Nat) : Int) + 1 from by push_cast; rfl, hz]
    conv => rhs; unfold fl prs
    rw [List.append_assoc]
    rfl

theorem addPs_same : ∀ (L ps : List Int), (∀ p ∈ L, p ∈ ps) → addPs ps L = ps
  | [], ps, _ => rfl
  | p :: L, ps, h => by
    have e : addPs ps (p :: L) = addPs (if p ∈ ps then ps else ps ++ [p]) L := rfl
    rw [e, if_pos (h p (by simp))]
    exact addPs_same L ps (fun q hq => h q (by simp [hq]))
theorem addPs_all : ∀ (L : List Int) (c : Int), (∀ p ∈ L, p = c) → L ≠ [] → addPs [] L = [c]
  | [], _, _, h => absurd rfl h
  | p :: L, c, h, _ => by
    obtain rfl := h p (by simp)
    have e : addPs [] (p :: L) = addPs [p] L := rfl
    rw [e]
    exact addPs_same L [p] (fun q hq => by rw [h q (by simp [hq])]; simp)
theorem addPs_both : ∀ (L : List Int), (∀ p ∈ L, p = 0 ∨ p = 1) → 1 ∈ L → addPs [0] L = [0, 1]
  | [], _, h => by cases h
  | p :: L, h, h1 => by
    have e : addPs [0] (p :: L) = addPs (if p ∈ [(0 : Int)] then [0] else [0] ++ [p]) L := rfl
    rw [e]
    rcases h p (by simp) with rfl | rfl
    · rw [if_pos (by simp)]
      refine addPs_both L (fun q hq => h q (by simp [hq])) ?_
      rcases List.mem_cons.1 h1 with h2 | h2
      · cases h2
      · exact h2
    · rw [if_neg (by decide)]
      exact addPs_same L [0, 1] (fun q hq => by rcases h q (by simp [hq]) with rfl | rfl <;> simp)
theorem addSm_eq : ∀ (L : List Int) (sm : Bool), addSm sm L = (sm || L.any fun p => decide (p ≠ 0))
  | [], sm => by simp [addSm]
  | p :: L, sm => by
    have e : addSm sm (p :: L) = addSm (sm || decide (p ≠ 0)) L := rfl
    rw [e, addSm_eq L]
    simp [Bool.or_assoc]
/-- Behind the third no group is empty up to the last. -/
theorem no_gap {p0 : Int} {ps : List Int} {st : Int × If} {l : List If} (h : Ruled p0 ps st l) (hst : st.2.g = 0) : ∀ (d : Nat) (x : If), x ∈ l → 3 ≤ x.g - d → ∃ y ∈ l, y.g = x.g - d
  | 0, x, hx, _ => ⟨x, hx, by simp⟩
  | d + 1, x, hx, h3 => by
    obtain ⟨y, hy, e⟩ := no_gap h hst d x hx (by push_cast at h3; omega)
    push_cast at h3
    rcases h.next y hy (by omega) with ⟨z, hz, e2⟩ | e2 | e2
    · exact ⟨z, hz, by push_cast; omega⟩
    · omega
    · omega
theorem lastG_mem {l : List If} (h : l ≠ []) : ∃ x ∈ l, x.g = lastG l := by
  rcases List.eq_nil_or_concat l with e | ⟨l', z, e⟩
  · exact absurd e h
  · refine ⟨z, by rw [e]; simp, ?_⟩
    unfold lastG
    rw [e]
    simp
theorem gp_some {p0 : Int} {ps : List Int} {st : Int × If} {l : List If} (h : Ruled p0 ps st l) (hst : st.2.g = 0) (g : Int) (h3 : 3 ≤ g) (hg : g ≤ lastG l) : protR p0 l g ∈ ps := by
  have hl : l ≠ [] := by
    rintro rfl
    have : lastG [] = 1 := rfl
    omega
  obtain ⟨x, hx, e⟩ := lastG_mem hl
  obtain ⟨y, hy, e2⟩ := no_gap h hst (x.g - g).toNat x hx (by omega)
  have hyg : y.g = g := by omega
  have hm : y ∈ gp l g := by
    unfold gp
    exact List.mem_filter.2 ⟨hy, by simpa using hyg⟩
  have hp := gp_prot h g y hm
  unfold protR
  rw [← hp]
  exact h.inPs y hy (by omega)
theorem protR_two {p0 : Int} {ps : List Int} {st : Int × If} {l : List If} (h : Ruled p0 ps st l) : protR p0 l 2 = p0 := by
  unfold protR
  rcases List.eq_nil_or_concat (gp l 2) with e | ⟨l', z, e⟩
  · rw [e]
    simp
  · have hz : z ∈ gp l 2 := by rw [e]; simp
    rw [e]
    simp
    exact h.two z (gp_mem hz).1 (gp_mem hz).2
theorem protR_none {p0 : Int} {l : List If} {g : Int} (h : gp l g = []) (h2 : g ≠ 2) : protR p0 l g = 1 := by
  unfold protR
  rw [h, if_neg h2]
  rfl
/-- The protocols that are named are those of the answer. -/
theorem prs_back {a : Atr} (h : Valid a) : (if addPs [] (prs (a.ps.headD 0) a.bs 0 (nG a - 1)) = [] then [0] else addPs [] (prs (a.ps.headD 0) a.bs 0 (nG a - 1))) = a.ps ∧ addSm false (prs (a.ps.headD 0) a.bs 0 (nG a - 1)) = decide (1 ∈ a.ps) := by
  obtain ⟨hn1, hn2, hn3, hn4⟩ := h.n1
  have hr := h.r
  have hle := h.le
  have hst : ((a.ps.headD 0, (⟨0, 3, 0, 0⟩ : If)) : Int × If).2.g = 0 := rfl
  have h2 := protR_two hr
  have hin := fun g => gp_some hr hst g
  rw [addSm_eq, Bool.false_or]
  rcases okPs_mem h.ps with e | e | e
  · rw [e] at hr h2 hin hn2 ⊢
    have hlast : (nG a : Int) = lastG a.bs := by
      rw [hn2]
      unfold lastN
      simp
    have hall : ∀ p ∈ prs (([0] : List Int).headD 0) a.bs 0 (nG a - 1), p = 0 := by
      intro p hp
      obtain ⟨j, hj, rfl⟩ := (prs_mem _ _ _ _ _).1 hp
      rcases (show j = 0 ∨ 1 ≤ j from by omega) with rfl | h1
      · exact h2
      · have := hin (((0 + j : Nat) : Int) + 2) (by push_cast; omega) (by push_cast; omega)
        simpa using this
    constructor
    · by_cases h0 : prs (([0] : List Int).headD 0) a.bs 0 (nG a - 1) = []
      · rw [h0]
        rfl
      · rw [addPs_all _ 0 hall h0]
        rfl
    · rw [Bool.eq_iff_iff]
      simp
      intro p hp
      exact hall p hp
  · rw [e] at hr h2 hin hn2 ⊢
    have hlast : (nG a : Int) = if lastG a.bs < 2 then 2 else lastG a.bs := by
      rw [hn2]
      unfold lastN
      simp
    have hall : ∀ p ∈ prs (([1] : List Int).headD 0) a.bs 0 (nG a - 1), p = 1 := by
      intro p hp
      obtain ⟨j, hj, rfl⟩ := (prs_mem _ _ _ _ _).1 hp
      rcases (show j = 0 ∨ 1 ≤ j from by omega) with rfl | h1
      · exact h2
      · have := hin (((0 + j : Nat) : Int) + 2) (by push_cast; omega) (by push_cast; split at hlast <;> omega)
        simpa using this
    have h1m : (1 : Int) ∈ prs (([1] : List Int).headD 0) a.bs 0 (nG a - 1) := (prs_mem _ _ _ _ _).2 ⟨0, by split at hlast <;> omega, h2.symm⟩
    constructor
    · rw [addPs_all _ 1 hall (List.ne_nil_of_mem h1m)]
      rfl
    · rw [Bool.eq_iff_iff]
      simp
      exact ⟨1, h1m, by decide⟩
  · rw [e] at hr h2 hin hn2 ⊢
    have hP : ∀ g, protR (([0, 1] : List Int).headD 0) a.bs g = 0 ∨ protR (([0, 1] : List Int).headD 0) a.bs g = 1 := fun g => protR_one hr (by simp) (by simp) g
    have hone : ∃ g : Int, 3 ≤ g ∧ g ≤ nG a ∧ protR (([0, 1] : List Int).headD 0) a.bs g = 1 := by
      by_cases hs : secB a.bs = true
      · unfold secB at hs
        obtain ⟨x, hx, hx2⟩ := List.any_eq_true.1 hs
        simp only [Bool.and_eq_true, decide_eq_true_eq] at hx2
        refine ⟨x.g, hx2.1, (hle x hx).2, ?_⟩
        have hm : x ∈ gp a.bs x.g := by
          unfold gp
          exact List.mem_filter.2 ⟨hx, by simp⟩
        have hp := gp_prot hr x.g x hm
        unfold protR
        rw [← hp]
        exact hx2.2
      · have hs' : secB a.bs = false := by simpa using hs
        have hlast : (nG a : Int) = if lastG a.bs + 1 < 3 then 3 else lastG a.bs + 1 := by
          rw [hn2]
          unfold lastN
          rw [if_pos ⟨rfl, hs'⟩]
          simp
        have hgt : 3 ≤ (nG a : Int) ∧ lastG a.bs < (nG a : Int) := by split at hlast <;> omega
        refine ⟨nG a, hgt.1, Int.le_refl _, protR_none ?_ (by omega)⟩
        unfold gp
        apply List.filter_eq_nil_iff.2
        intro x hx
        have := lastG_all hr x hx
        simp
        omega
    obtain ⟨g, hg3, hgn, hg1⟩ := hone
    obtain ⟨m, hm⟩ : ∃ m, nG a - 1 = m + 1 := ⟨nG a - 2, by omega⟩
    rw [hm]
    have e1 : prs (([0, 1] : List Int).headD 0) a.bs 0 (m + 1) = 0 :: prs (([0, 1] : List Int).headD 0) a.bs 1 m := by
      conv => lhs; unfold prs
      congr 1
    have h1m : (1 : Int) ∈ prs (([0, 1] : List Int).headD 0) a.bs 1 m := (prs_mem _ _ _ _ _).2 ⟨(g - 3).toNat, by omega, by
      rw [show (((1 + (g - 3).toNat : Nat) : Int) + 2) = g from by omega]
      exact hg1.symm⟩
    have hall : ∀ p ∈ prs (([0, 1] : List Int).headD 0) a.bs 1 m, p = 0 ∨ p = 1 := by
      intro p hp
      obtain ⟨j, hj, rfl⟩ := (prs_mem _ _ _ _ _).1 hp
      exact hP _
    rw [e1]
    have e2 : addPs [] ((0 : Int) :: prs (([0, 1] : List Int).headD 0) a.bs 1 m) = addPs [0] (prs (([0, 1] : List Int).headD 0) a.bs 1 m) := rfl
    rw [e2, addPs_both _ hall h1m]
    refine ⟨rfl, ?_⟩
    rw [Bool.eq_iff_iff]
    simp
    exact ⟨1, h1m, by decide⟩

/-- What is encoded is read unchanged. -/
theorem whole_back {a : Atr} (h : Valid a) (hn : nG a ≤ 40) (hl : (encR a).length ≤ 33) : wholeS (encR a) = ⟨0, a.inv, a.bs, a.ps, a.hs⟩ := by
  obtain ⟨hn1, hn2, hn3, hn4⟩ := h.n1
  have hr := h.r
  have hP : ∀ g, protR (a.ps.headD 0) a.bs g = 0 ∨ protR (a.ps.headD 0) a.bs g = 1 := fun g => protR_one hr (okPs_one h.ps).1 (okPs_one h.ps).2 g
  obtain ⟨hp1, hp2⟩ := prs_back h
  obtain ⟨q1, q2, q3⟩ := pres_byte hr (nG a) 1 (a.hs.length : Int) (by omega) (by have := h.hs; omega)
  have hfl : fl a.bs 0 (nG a - 1) = a.bs := by
    rw [← fl_flat, ← List.range_eq_range', show nG a - 1 + 1 = nG a from by omega]
    exact flat_gp _ _ h.sorted h.le
  have htl : (List.range (nG a)).flatMap (fun i : Nat => (gp a.bs ((i : Int) + 1)).map (fun x => byteI x.v) ++ (if i + 1 < nG a then [byteI (presR a.bs (nG a) ((i : Int) + 2) + protR (a.ps.headD 0) a.bs ((i : Int) + 2))] else [])) = tl (a.ps.headD 0) a.bs (nG a) 0 (nG a - 1) := by
    rw [← tl_flat _ _ _ _ _ (by omega), ← List.range_eq_range', show nG a - 1 + 1 = nG a from by omega]
    rfl
  have hB := fun rest => rdA_back hr hP (nG a) rest (nG a - 1) 0 40 (byteI (presR a.bs (nG a) 1 + a.hs.length)).toNat 0 [] [] false (by omega) (by omega) q1 q2 (fun x hx => hr.one x (gp_mem hx).1 (by have := (gp_mem hx).2; simpa using this))
  have hB' : ∀ rest, rdA 40 1 (byteI (presR a.bs (nG a) 1 + a.hs.length)).toNat 0 [] [] false (tl (a.ps.headD 0) a.bs (nG a) 0 (nG a - 1) ++ rest) = some ⟨a.bs, addPs [] (prs (a.ps.headD 0) a.bs 0 (nG a - 1)), decide (1 ∈ a.ps), rest⟩ := by
    intro rest
    have e := hB rest
    rw [hfl, hp2] at e
    exact e
  have q3' : (byteI (presR a.bs (nG a) 1 + a.hs.length)).toNat % 16 = a.hs.length := by omega
  unfold encR encS at hl ⊢
  simp only at hl ⊢
  rw [htl] at hl ⊢
  generalize byteI (presR a.bs (nG a) 1 + a.hs.length) = hd at hB' q3' hl ⊢
  generalize tl (a.ps.headD 0) a.bs (nG a) 0 (nG a - 1) = T at hB' hl ⊢
  generalize addPs [] (prs (a.ps.headD 0) a.bs 0 (nG a - 1)) = PS at hB' hp1
  have hf : (if a.inv = true then (63 : UInt8) else 59) = 59 ∨ (if a.inv = true then (63 : UInt8) else 59) = 63 := by
    cases a.inv <;> simp
  have hfd : decide ((if a.inv = true then (63 : UInt8) else 59) = 63) = a.inv := by
    cases a.inv <;> decide
  generalize (if a.inv = true then (63 : UInt8) else 59) = F at hf hfd hl ⊢
  by_cases h1 : (1 : Int) ∈ a.ps
  · rw [decide_eq_true h1, if_pos rfl] at hl ⊢
    have eo : [F, hd] ++ T ++ a.hs = F :: hd :: (T ++ a.hs) := by simp
    rw [eo] at hl ⊢
    have ew : F :: hd :: (T ++ a.hs) ++ [lrc ((F :: hd :: (T ++ a.hs)).drop 1)] = F :: hd :: (T ++ (a.hs ++ [lrc (hd :: (T ++ a.hs))])) := by simp
    rw [ew] at hl ⊢
    have hB2 := hB' (a.hs ++ [lrc (hd :: (T ++ a.hs))])
    rw [decide_eq_true h1] at hB2
    unfold wholeS
    rw [if_neg (by omega)]
    simp only
    rw [if_pos hf, hB2]
    simp only
    unfold wholeE
    simp only
    rw [if_neg (by rw [q3', List.length_append]; omega), if_pos trivial, q3', List.drop_left, List.take_left]
    simp only
    rw [if_pos ?_, hfd, hp1]
    have e5 : (hd :: (T ++ (a.hs ++ [lrc (hd :: (T ++ a.hs))]))) = (hd :: (T ++ a.hs)) ++ [lrc (hd :: (T ++ a.hs))] := by simp
    rw [List.drop_succ_cons, List.drop_zero]
    generalize hc : lrc (hd :: (T ++ a.hs)) = c at e5 ⊢
    rw [e5]
    have e6 : (F :: (hd :: (T ++ a.hs) ++ [c])).length - 1 - (([] : List UInt8).length + 1) = (hd :: (T ++ a.hs)).length := by simp; omega
    rw [e6, List.take_left]
    exact hc
  · rw [decide_eq_false h1, if_neg (by decide)] at hl ⊢
    have eo : [F, hd] ++ T ++ a.hs = F :: hd :: (T ++ a.hs) := by simp
    rw [eo] at hl ⊢
    have hB2 := hB' a.hs
    rw [decide_eq_false h1] at hB2
    unfold wholeS
    rw [if_neg (by omega)]
    simp only
    rw [if_pos hf, hB2]
    simp only
    unfold wholeE
    simp only
    rw [if_neg (by rw [q3']; omega), if_neg (by decide), q3', List.take_length, hfd, hp1]
theorem decS_back {a : Atr} (h : chkF a = 0) : decS (encF a) = ⟨0, a.inv, a.bs, a.ps, a.hs⟩ := by
  obtain ⟨h1, h2, h3⟩ := chkF_zero h
  have hv := valid_of h1
  have hs := encF_same hv
  obtain ⟨hn1, hn2, hn3, hn4⟩ := hv.n1
  have hw := whole_back hv (by split at hn4 <;> omega) (by rw [← hs]; exact h3)
  rw [← hs] at hw
  unfold decS
  rw [hw]
  rw [if_pos rfl, if_pos]
  exact ⟨h, rfl⟩
end Go.Proofs.Ytkhobpghiachoaa
