/-
  The groups of a valid answer to reset, plainly; and its encoding as the reference has it.
-/
import Derived.Test.YtkhobpghiachoaaEncode
import Derived.Test.YtkhobpghiachoaaRul0
namespace Go.Proofs.Ytkhobpghiachoaa
open Go.RowKit Crc
set_option linter.unusedVariables false

/-- The interface bytes of one group. -/
def gp (l : List If) (g : Int) : List If := l.filter fun x => decide (x.g = g)
def protL (d : Int) (xs : List If) : Int := xs.foldl (fun p x => if 3 ≤ x.g then x.p else p) d
theorem gp_cons (x : If) (l : List If) (g : Int) : gp (x :: l) g = (if x.g = g then [x] else []) ++ gp l g := by
  unfold gp
  rw [List.filter_cons]
  by_cases h : x.g = g <;> simp [h]
theorem addG_get {G : List (Int × List If)} {x : If} (hx : 1 ≤ x.g) (i : Nat) :
    (addG G x)[i]? = (G[i]?).map fun e => (protL e.1 (if x.g = (i : Int) + 1 then [x] else []), e.2 ++ (if x.g = (i : Int) + 1 then [x] else [])) := by
  unfold addG
  by_cases hi : x.g = (i : Int) + 1
  · have e : (x.g - 1).toNat = i := by omega
    rw [e]
    rcases hG : G[i]? with _ | ⟨p, l⟩
    · simp [hG]
    · have hl : i < G.length := by
        rcases Nat.lt_or_ge i G.length with h | h
        · exact h
        · rw [List.getElem?_eq_none h] at hG; cases hG
      simp [hi, hl, protL]
  · have e : (x.g - 1).toNat ≠ i := by omega
    rcases hG : G[(x.g - 1).toNat]? with _ | ⟨p, l⟩
    · simp [hi, protL]
    · simp only [List.getElem?_set_ne e]
      simp [hi, protL]
theorem protL_append (d : Int) (xs ys : List If) : protL d (xs ++ ys) = protL (protL d xs) ys := by unfold protL; rw [List.foldl_append]
theorem foldG_get : ∀ (l : List If) (G : List (Int × List If)) (i : Nat), (∀ x ∈ l, 1 ≤ x.g) →
    (l.foldl addG G)[i]? = (G[i]?).map fun e => (protL e.1 (gp l ((i : Int) + 1)), e.2 ++ gp l ((i : Int) + 1))
  | [], G, i, _ => by simp [gp, protL]
  | x :: l, G, i, h => by
    rw [List.foldl_cons, foldG_get l _ i (fun y hy => h y (List.mem_cons_of_mem _ hy)), addG_get (h x (List.mem_cons_self ..)), gp_cons, Option.map_map]
    congr 1
    funext e
    simp only [Function.comp, protL_append, List.append_assoc]
theorem grpF_get (p0 : Int) (m : Nat) (l : List If) (h : ∀ x ∈ l, 1 ≤ x.g) (i : Nat) :
    (grpF p0 m l)[i]? = if i < m then some (protL (pI p0 i) (gp l ((i : Int) + 1)), gp l ((i : Int) + 1)) else none := by
  unfold grpF
  rw [foldG_get l _ i h]
  by_cases hi : i < m
  · simp [hi, gS, gI]
  · simp [hi, gS, gI]
theorem grpF_length (p0 : Int) (m : Nat) (l : List If) (h : ∀ x ∈ l, 1 ≤ x.g) : (grpF p0 m l).length = m := by
  have h1 := grpF_get p0 m l h m
  have h2 := grpF_get p0 m l h (m - 1)
  rw [if_neg (by omega)] at h1
  have h3 := List.getElem?_eq_none_iff.1 h1
  rcases Nat.eq_zero_or_pos m with h0 | h0
  · omega
  · rw [if_pos (by omega)] at h2
    have h4 : m - 1 < (grpF p0 m l).length := by
      rcases Nat.lt_or_ge (m - 1) (grpF p0 m l).length with h | h
      · exact h
      · rw [List.getElem?_eq_none h] at h2; cases h2
    omega

/-- The sum of the bits of a group's bytes. -/
def sumK (xs : List If) : Int := xs.foldl (fun z x => z + 16 * 2 ^ x.k.toNat) 0
theorem kinds8 (xs : List If) (hk : ∀ x ∈ xs, 0 ≤ x.k ∧ x.k < 3) (hs : xs.Pairwise fun x y => x.k < y.k) :
    (xs.map (·.k)) ∈ ([[], [0], [1], [2], [0, 1], [0, 2], [1, 2], [0, 1, 2]] : List (List Int)) := by
  match xs, hk, hs with
  | [], _, _ => simp
  | [a], hk, _ =>
    have h1 := hk a (by simp)
    have : a.k = 0 ∨ a.k = 1 ∨ a.k = 2 := by omega
    rcases this with e | e | e <;> simp [e]
  | [a, b], hk, hs =>
    have h1 := hk a (by simp)
    have h2 := hk b (by simp)
    have h3 : a.k < b.k := by simp at hs; exact hs
    have : (a.k = 0 ∧ b.k = 1) ∨ (a.k = 0 ∧ b.k = 2) ∨ (a.k = 1 ∧ b.k = 2) := by omega
    rcases this with ⟨e, e2⟩ | ⟨e, e2⟩ | ⟨e, e2⟩ <;> simp [e, e2]
  | [a, b, c], hk, hs =>
    have h1 := hk a (by simp)
    have h2 := hk b (by simp)
    have h5 := hk c (by simp)
    have h3 : (a.k < b.k ∧ a.k < c.k) ∧ b.k < c.k := by simpa using hs
    have : a.k = 0 ∧ b.k = 1 ∧ c.k = 2 := by omega
    obtain ⟨e, e2, e3⟩ := this
    simp [e, e2, e3]
  | a :: b :: c :: d :: l, hk, hs =>
    have h1 := hk a (by simp)
    have h2 := hk b (by simp)
    have h5 := hk c (by simp)
    have h6 := hk d (by simp)
    have h3 : a.k < b.k := (List.pairwise_cons.1 hs).1 b (by simp)
    have h4 := (List.pairwise_cons.1 (List.pairwise_cons.1 hs).2).1 c (by simp)
    have h7 := (List.pairwise_cons.1 (List.pairwise_cons.1 (List.pairwise_cons.1 hs).2).2).1 d (by simp)
    omega
theorem presS_map (xs : List If) : presS xs = (xs.map (·.k)).foldl (fun z k => bits BinOp.or IntKind.i64 z (wrap64 (16 * 2 ^ k.toNat))) 0 := by
  unfold presS; rw [List.foldl_map]
theorem sumK_map (xs : List If) : sumK xs = (xs.map (·.k)).foldl (fun z k => z + 16 * 2 ^ k.toNat) 0 := by
  unfold sumK; rw [List.foldl_map]
/-- Or and sum are one, of a sorted group's bits. -/
theorem pres_eight (xs : List If) (hk : ∀ x ∈ xs, 0 ≤ x.k ∧ x.k < 3) (hs : xs.Pairwise fun x y => x.k < y.k) :
    ∃ j : Fin 8, presS xs = 16 * (j.val : Int) ∧ sumK xs = 16 * (j.val : Int) := by
  have h := kinds8 xs hk hs
  rw [presS_map, sumK_map]
  simp only [List.mem_cons, List.not_mem_nil, or_false] at h
  rcases h with h | h | h | h | h | h | h | h <;> rw [h]
  · exact ⟨0, by decide +kernel, by decide +kernel⟩
  · exact ⟨1, by decide +kernel, by decide +kernel⟩
  · exact ⟨2, by decide +kernel, by decide +kernel⟩
  · exact ⟨4, by decide +kernel, by decide +kernel⟩
  · exact ⟨3, by decide +kernel, by decide +kernel⟩
  · exact ⟨5, by decide +kernel, by decide +kernel⟩
  · exact ⟨6, by decide +kernel, by decide +kernel⟩
  · exact ⟨7, by decide +kernel, by decide +kernel⟩
theorem or_more : ∀ j : Fin 8, bits BinOp.or IntKind.i64 (16 * (j.val : Int)) 128 = 16 * (j.val : Int) + 128 := by decide +kernel
theorem or_low : ∀ (j : Fin 16) (n : Fin 16), bits BinOp.or IntKind.i64 (16 * (j.val : Int)) (n.val : Int) = 16 * (j.val : Int) + (n.val : Int) := by decide +kernel
theorem presF_sum (xs : List If) (hk : ∀ x ∈ xs, 0 ≤ x.k ∧ x.k < 3) (hs : xs.Pairwise fun x y => x.k < y.k) (b : Bool) (n : Int) (h0 : 0 ≤ n) (h1 : n < 16) :
    bits BinOp.or IntKind.i64 (presF xs b) n = sumK xs + (if b = true then 0 else 128) + n := by
  obtain ⟨j, h2, h3⟩ := pres_eight xs hk hs
  obtain ⟨i, rfl⟩ : ∃ i : Fin 16, n = (i.val : Int) := ⟨⟨n.toNat, by omega⟩, by simp; omega⟩
  unfold presF
  rw [h2, h3]
  cases b
  · simp only [Bool.false_eq_true, if_false]
    rw [or_more]
    have h := or_low ⟨j.val + 8, by omega⟩ i
    simp only at h
    have e : (16 * (((j.val + 8 : Nat) : Int))) = 16 * (j.val : Int) + 128 := by push_cast; omega
    rw [e] at h
    rw [h]
  · simp only [if_true]
    have h := or_low ⟨j.val, by omega⟩ i
    simp only at h
    rw [h]
    omega

/-- The last group. -/
def lastG (l : List If) : Int := l.foldl (fun _ x => x.g) 1
def lastN (p0 : Int) (pn : Nat) (l : List If) : Int :=
  if pn = 2 ∧ secB l = false then (if (if p0 = 1 ∧ lastG l < 2 then 2 else lastG l) + 1 < 3 then 3 else (if p0 = 1 ∧ lastG l < 2 then 2 else lastG l) + 1) else (if p0 = 1 ∧ lastG l < 2 then 2 else lastG l)
theorem lastG_max : ∀ (l : List If) (n0 : Int), (l.Pairwise fun x y => x.g ≤ y.g) → (∀ x ∈ l, 1 ≤ x.g) → ∀ n1 : Int, (∀ x ∈ l, n1 ≤ x.g) →
    maxG n0 l = (if l.foldl (fun _ x => x.g) n1 < n0 then n0 else if l = [] then n0 else l.foldl (fun _ x => x.g) n1)
  | [], n0, _, _, n1, _ => by simp [maxG]
  | x :: l, n0, hs, h1, n1, h2 => by
    have hs2 := List.pairwise_cons.1 hs
    have e : maxG n0 (x :: l) = maxG (if n0 < x.g then x.g else n0) l := rfl
    have ih := lastG_max l (if n0 < x.g then x.g else n0) hs2.2 (fun y hy => h1 y (List.mem_cons_of_mem _ hy)) x.g hs2.1
    have eF : List.foldl (fun _ (x : If) => x.g) n1 (x :: l) = List.foldl (fun _ (x : If) => x.g) x.g l := rfl
    rw [e, ih, eF]
    have hge : x.g ≤ l.foldl (fun _ x => x.g) x.g := by
      rcases List.eq_nil_or_concat l with rfl | ⟨l', z, rfl⟩
      · simp
      · simp only [List.concat_eq_append, List.foldl_append, List.foldl_cons, List.foldl_nil]
        exact hs2.1 z (by simp)
    by_cases hl : l = []
    · subst hl
      simp only [List.foldl_nil]
      simp
      split <;> split <;> omega
    · have hne : ¬ (x :: l = []) := by simp
      rw [if_neg hl, if_neg hne]
      by_cases h3 : n0 < x.g
      · rw [if_pos h3, if_neg (by omega), if_neg (by omega)]
      · rw [if_neg h3]
theorem lastG_ge (l : List If) (h1 : ∀ x ∈ l, 1 ≤ x.g) : 1 ≤ lastG l := by
  unfold lastG
  rcases List.eq_nil_or_concat l with rfl | ⟨l', z, rfl⟩
  · simp
  · simp only [List.concat_eq_append, List.foldl_append, List.foldl_cons, List.foldl_nil]
    exact h1 z (by simp)
theorem numF_last {p0 : Int} {ps : List Int} {st : Int × If} {l : List If} (h : Ruled p0 ps st l) (pn : Nat) : numF p0 pn l = lastN p0 pn l := by
  have h1 : ∀ x ∈ l, 1 ≤ x.g := fun x hx => (h.basic x hx).1
  have hs : l.Pairwise fun x y => x.g ≤ y.g := h.sorted.imp (by intro x y hxy; omega)
  have hm := lastG_max l (if p0 = 1 then 2 else 1) hs h1 1 h1
  have hg := lastG_ge l h1
  have e : maxG (if p0 = 1 then 2 else 1) l = (if p0 = 1 ∧ lastG l < 2 then 2 else lastG l) := by
    rw [hm]
    change (if lastG l < _ then _ else _) = _
    by_cases hl : l = []
    · subst hl
      simp [lastG]
    · rw [if_neg hl]
      change (if lastG l < _ then _ else lastG l) = _
      by_cases hp : p0 = 1
      · rw [if_pos hp]
        by_cases h2 : lastG l < 2
        · rw [if_pos h2, if_pos ⟨hp, h2⟩]
        · rw [if_neg h2, if_neg (fun h => h2 h.2)]
      · rw [if_neg hp, if_neg (by omega), if_neg (fun h => hp h.1)]
  unfold numF lastN
  rw [e]

/-- The reference's presence of group g of n, and its protocol. -/
def presR (l : List If) (n g : Int) : Int := sumK (gp l g) + (if g < n then 128 else 0)
def protR (p0 : Int) (l : List If) (g : Int) : Int := (gp l g).foldl (fun _ x => x.p) (if g = 2 then p0 else 1)
def encS (inv : Bool) (p0 : Int) (l : List If) (hs : List UInt8) (n : Nat) (one : Bool) : List UInt8 :=
  let o := [if inv = true then 63 else 59, byteI (presR l n 1 + hs.length)] ++
    (List.range n).flatMap (fun i : Nat => (gp l ((i : Int) + 1)).map (fun x => byteI x.v) ++ (if i + 1 < n then [byteI (presR l n ((i : Int) + 2) + protR p0 l ((i : Int) + 2))] else [])) ++ hs
  if one = true then o ++ [lrc (o.drop 1)] else o
theorem gp_mem {l : List If} {g : Int} {x : If} (h : x ∈ gp l g) : x ∈ l ∧ x.g = g := by
  unfold gp at h
  simpa using List.mem_filter.1 h
theorem gp_kinds {p0 : Int} {ps : List Int} {st : Int × If} {l : List If} (h : Ruled p0 ps st l) (g : Int) : (gp l g).Pairwise fun x y => x.k < y.k := by
  have h1 : (gp l g).Pairwise fun x y => x.g < y.g ∨ (y.g = x.g ∧ x.k < y.k) := h.sorted.sublist List.filter_sublist
  refine List.Pairwise.imp_of_mem (fun {x y} hx hy hxy => ?_) h1
  have e1 := (gp_mem hx).2
  have e2 := (gp_mem hy).2
  omega
/-- All bytes of a group have one protocol. -/
theorem gp_prot {p0 : Int} {ps : List Int} {st : Int × If} {l : List If} (h : Ruled p0 ps st l) (g : Int) : ∀ x ∈ gp l g, x.p = (gp l g).foldl (fun _ x => x.p) (if g = 2 then p0 else 1) := by
  intro x hx
  rcases List.eq_nil_or_concat (gp l g) with e | ⟨l', z, e⟩
  · rw [e] at hx; simp at hx
  · have hz : z ∈ gp l g := by rw [e]; simp
    have e2 : (gp l g).foldl (fun _ x => x.p) (if g = 2 then p0 else 1) = z.p := by
      rw [e]
      simp
    rw [e2]
    have hxg := gp_mem hx
    have hzg := gp_mem hz
    have hb := h.basic x hxg.1
    rcases (show g = 1 ∨ g = 2 ∨ 3 ≤ g from by omega) with h1 | h1 | h1
    · rw [h.one x hxg.1 (by omega), h.one z hzg.1 (by omega)]
    · rw [h.two x hxg.1 (by omega), h.two z hzg.1 (by omega)]
    · have hp : (gp l g).Pairwise fun x y => 3 ≤ x.g → y.g = x.g → y.p = x.p := h.same.sublist List.filter_sublist
      rw [e] at hx
      rw [e, List.concat_eq_append, List.pairwise_append] at hp
      rcases List.mem_append.1 (by simpa using hx : x ∈ l' ++ [z]) with hx' | hx'
      · exact (hp.2.2 x hx' z (by simp) (by omega) (by omega)).symm
      · rw [List.mem_singleton.1 hx']
/-- The protocols of the program's groups are the reference's. -/
theorem prot_same {p0 : Int} {ps : List Int} {st : Int × If} {l : List If} (h : Ruled p0 ps st l) (i : Nat) (hi : 1 ≤ i) : protL (pI p0 i) (gp l ((i : Int) + 1)) = protR p0 l ((i : Int) + 1) := by
  unfold protR
  have hq := gp_prot h ((i : Int) + 1)
  rcases List.eq_nil_or_concat (gp l ((i : Int) + 1)) with e | ⟨l', z, e⟩
  · rw [e]
    simp only [protL, List.foldl_nil]
    unfold pI
    by_cases h1 : i = 1
    · rw [if_pos h1, if_pos (by omega)]
    · rw [if_neg h1, if_pos (by omega), if_neg (by omega)]
  · have hz : z ∈ gp l ((i : Int) + 1) := by rw [e]; simp
    have hzg := gp_mem hz
    have e1 : (gp l ((i : Int) + 1)).foldl (fun _ x => x.p) (if (i : Int) + 1 = 2 then p0 else 1) = z.p := by rw [e]; simp
    rw [e1]
    by_cases h1 : i = 1
    · have hall : ∀ x ∈ gp l ((i : Int) + 1), ¬ 3 ≤ x.g := fun x hx => by have := (gp_mem hx).2; omega
      have e2 : ∀ (xs : List If) (d : Int), (∀ x ∈ xs, ¬ 3 ≤ x.g) → protL d xs = d := fun xs => by
        induction xs with
        | nil => intro d _; rfl
        | cons x xs ih =>
          intro d hx
          have : protL d (x :: xs) = protL (if 3 ≤ x.g then x.p else d) xs := rfl
          rw [this, if_neg (hx x (by simp)), ih d (fun y hy => hx y (by simp [hy]))]
      rw [e2 _ _ hall, h1]
      rw [h.two z hzg.1 (by omega)]
      rfl
    · rw [e, List.concat_eq_append, protL_append]
      simp only [protL, List.foldl_cons, List.foldl_nil]
      rw [if_pos (by omega)]

theorem okPs_mem {ps : List Int} (h : okPs ps = true) : ps = [0] ∨ ps = [1] ∨ ps = [0, 1] := by
  unfold okPs at h
  simp only [Bool.or_eq_true, decide_eq_true_eq] at h
  rcases h with (h | h) | h
  · exact .inl h
  · exact .inr (.inl h)
  · exact .inr (.inr h)
theorem flatMap_same {α β : Type} {f g : α → List β} : ∀ (l : List α), (∀ x ∈ l, f x = g x) → l.flatMap f = l.flatMap g
  | [], _ => rfl
  | x :: l, h => by rw [List.flatMap_cons, List.flatMap_cons, h x (by simp), flatMap_same l (fun y hy => h y (by simp [hy]))]
theorem okPs_one {ps : List Int} (h : okPs ps = true) : (∀ x ∈ ps, x = 0 ∨ x = 1) ∧ (ps.headD 0 = 0 ∨ ps.headD 0 = 1) := by
  rcases okPs_mem h with rfl | rfl | rfl <;> simp
theorem protR_one {p0 : Int} {ps : List Int} {st : Int × If} {l : List If} (h : Ruled p0 ps st l) (h1 : ∀ x ∈ ps, x = 0 ∨ x = 1) (h0 : p0 = 0 ∨ p0 = 1) (g : Int) : protR p0 l g = 0 ∨ protR p0 l g = 1 := by
  unfold protR
  rcases List.eq_nil_or_concat (gp l g) with e | ⟨l', z, e⟩
  · rw [e]
    simp only [List.foldl_nil]
    split
    · exact h0
    · exact .inr rfl
  · have hz : z ∈ gp l g := by rw [e]; simp
    have hzg := gp_mem hz
    have e1 : (gp l g).foldl (fun _ x => x.p) (if g = 2 then p0 else 1) = z.p := by rw [e]; simp
    rw [e1]
    have hb := h.basic z hzg.1
    rcases (show g = 1 ∨ g = 2 ∨ 3 ≤ g from by omega) with h1' | h1' | h1'
    · exact .inl (h.one z hzg.1 (by omega))
    · rw [h.two z hzg.1 (by omega)]
      exact h0
    · exact h1 _ (h.inPs z hzg.1 (by omega))
/-- The program's encoding is the reference's. -/
theorem enc_same {p0 : Int} {ps : List Int} {st : Int × If} {l : List If} (h : Ruled p0 ps st l) (h1 : ∀ x ∈ ps, x = 0 ∨ x = 1) (h0 : p0 = 0 ∨ p0 = 1) (inv : Bool) (hs : List UInt8) (hh : hs.length ≤ 15) (m : Nat) (hm : 1 ≤ m) (one : Bool) :
    encAll inv (grpF p0 m l) hs one = encS inv p0 l hs m one := by
  have hg1 : ∀ x ∈ l, 1 ≤ x.g := fun x hx => (h.basic x hx).1
  have hL := grpF_length p0 m l hg1
  have hk : ∀ g, ∀ x ∈ gp l g, 0 ≤ x.k ∧ x.k < 3 := fun g x hx => by have := h.basic x (gp_mem hx).1; omega
  have hhead : encHead inv (grpF p0 m l) hs.length = [if inv = true then 63 else 59, byteI (presR l m 1 + hs.length)] := by
    unfold encHead
    have e0 : (grpF p0 m l)[0]? = some (protL (pI p0 0) (gp l 1), gp l 1) := by rw [grpF_get p0 m l hg1 0, if_pos (show 0 < m by omega)]; rfl
    rw [e0, hL]
    simp only
    rw [presF_sum _ (hk 1) (gp_kinds h 1) _ _ (by omega) (by omega)]
    unfold presR
    have e : (if decide (m = 1) = true then (0 : Int) else 128) = (if (1 : Int) < (m : Int) then 128 else 0) := by
      by_cases hm1 : m = 1
      · subst hm1; simp
      · rw [if_neg (by simpa using hm1), if_pos (by omega)]
    rw [e]
  have hG : ∀ i, i < m → encG (grpF p0 m l) i = (gp l ((i : Int) + 1)).map (fun x => byteI x.v) ++ (if i + 1 < m then [byteI (presR l m ((i : Int) + 2) + protR p0 l ((i : Int) + 2))] else []) := fun i hi => by
    unfold encG
    rw [grpF_get p0 m l hg1 i, if_pos hi, grpF_get p0 m l hg1 (i + 1), hL]
    simp only
    congr 1
    by_cases h2 : i + 1 < m
    · rw [if_pos h2, if_pos h2]
      simp only
      have e1 : (((i + 1 : Nat) : Int) + 1) = (i : Int) + 2 := by push_cast; omega
      have e2 := prot_same h (i + 1) (by omega)
      rw [e2, e1]
      have hp := protR_one h h1 h0 ((i : Int) + 2)
      rw [presF_sum _ (hk _) (gp_kinds h _) _ _ (by omega) (by omega)]
      unfold presR
      have e : (if decide (i + 2 = m) = true then (0 : Int) else 128) = (if (i : Int) + 2 < (m : Int) then 128 else 0) := by
        by_cases hm1 : i + 2 = m
        · rw [if_pos (by simpa using hm1), if_neg (by omega)]
        · rw [if_neg (by simpa using hm1), if_pos (by omega)]
      rw [e]
    · rw [if_neg h2, if_neg h2]
  have hR : (List.range m).flatMap (encG (grpF p0 m l)) = (List.range m).flatMap (fun i : Nat => (gp l ((i : Int) + 1)).map (fun x => byteI x.v) ++ (if i + 1 < m then [byteI (presR l m ((i : Int) + 2) + protR p0 l ((i : Int) + 2))] else [])) := by
    exact flatMap_same _ fun i hi => hG i (List.mem_range.1 hi)
  unfold encAll encS encUpto
  simp only
  rw [hL, hhead, hR]

/-- The bytes of a valid answer to reset. -/
def encF (a : Atr) : List UInt8 := encAll a.inv (grpF (a.ps.headD 0) (numF (a.ps.headD 0) a.ps.length a.bs).toNat a.bs) a.hs (decide (1 ∈ a.ps))
/-- What Check answers. -/
def chkF (a : Atr) : Int := if rulesF a = false then 1 else if 33 < lastG a.bs then 3 else if 33 < (encF a).length then 3 else 0
theorem lastG_all {p0 : Int} {ps : List Int} {st : Int × If} {l : List If} (h : Ruled p0 ps st l) : ∀ x ∈ l, x.g ≤ lastG l := by
  intro x hx
  unfold lastG
  rcases List.eq_nil_or_concat l with e | ⟨l', z, e⟩
  · rw [e] at hx; simp at hx
  · subst e
    simp only [List.concat_eq_append, List.foldl_append, List.foldl_cons, List.foldl_nil]
    have hs := h.sorted
    rw [List.concat_eq_append, List.pairwise_append] at hs
    rcases List.mem_append.1 (by simpa using hx : x ∈ l' ++ [z]) with hx' | hx'
    · have := hs.2.2 x hx' z (by simp)
      omega
    · rw [List.mem_singleton.1 hx']
      exact Int.le_refl _
theorem lastN_ge {p0 : Int} {ps : List Int} {st : Int × If} {l : List If} (h : Ruled p0 ps st l) (pn : Nat) : 1 ≤ lastN p0 pn l ∧ lastG l ≤ lastN p0 pn l ∧ lastN p0 pn l ≤ (if lastG l < 2 then 3 else lastG l + 1) := by
  have h1 := lastG_ge l (fun x hx => (h.basic x hx).1)
  unfold lastN
  refine ⟨?_, ?_, ?_⟩
  all_goals split
  all_goals split
  all_goals try split
  all_goals try split
  all_goals omega
end Go.Proofs.Ytkhobpghiachoaa
