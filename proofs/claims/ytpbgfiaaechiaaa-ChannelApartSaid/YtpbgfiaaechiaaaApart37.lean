/-
  ChannelApart: what has been noted of a table; that a call for one channel leaves the others as they are.
-/
import Derived.Test.YtpbgfiaaechiaaaUpto37
import Derived.Test.YtpbgfiaaechiaaaOpen37
namespace Go.Proofs.Ytpbgfiaaechiaaa
open Go.RowKit
set_option linter.unusedVariables false

abbrev S4 := Int × Int × Int × Int
def bcs (bs : List Bool) : Array Value := (bs.map fun b => Value.bool b).toArray
def pcs (ap : List Part) : Array Value := (ap.map fun p => Value.slice p.A p.xs.length p.c).toArray
def s4L (s : S4) : List Value := [.int .i64 s.1, .int .i64 s.2.1, .int .i64 s.2.2.1, .int .i64 s.2.2.2]
def qcs (se : List S4) : Array Value := (se.flatMap s4L).toArray

/-- What lies in memory while the channels are noted and compared. -/
structure Snap (w : World) (g X sb ob pb qb : Nat) (x : Op37) (L M N : List Ln) (bs : List Bool) (ap : List Part) (se : List S4) (w' : World) : Prop where
  both : Both w' g L M
  xb : Blk w' X 37 (opCells x).toArray
  sk : Blk w' sb 32 (scs N)
  ok : Blk w' ob 52 (bcs bs)
  pk : Blk w' pb 53 (pcs ap)
  qk : Blk w' qb 54 (qcs se)
  rb : ∀ p ∈ ap, RB w' p.A p.xs
  bel : Below w.heap.size w w'
  rx : RB w' x.A x.x
theorem Snap.keep {w : World} {g X sb ob pb qb : Nat} {x : Op37} {L M N : List Ln} {bs : List Bool} {ap : List Part} {se : List S4} {w1 w2 : World} (h : Snap w g X sb ob pb qb x L M N bs ap se w1) (hb : Below w1.heap.size w1 w2) : Snap w g X sb ob pb qb x L M N bs ap se w2 :=
  ⟨h.both.below hb, h.xb.below hb h.xb.size, h.sk.below hb h.sk.size, h.ok.below hb h.ok.size, h.pk.below hb h.pk.size, h.qk.below hb h.qk.size, fun p hp => (h.rb p hp).below hb, h.bel.trans (hb.mono h.bel.size), h.rx.below hb⟩
theorem Snap.drewN {w : World} {g X sb ob pb qb : Nat} {x : Op37} {L M N : List Ln} {bs : List Bool} {ap : List Part} {se : List S4} {w1 : World} (h : Snap w g X sb ob pb qb x L M N bs ap se w1) (q : Nat) : Snap w g X sb ob pb qb x L M N bs ap se (w1.drewN q) := h.keep (below_drewN (Below.refl _ _) q)

theorem Blk.noByte {w : World} {g : Nat} {t : TypeId} {cs : Array Value} (h : Blk w g t cs) (hc : ∀ v ∈ cs.toList, ∀ b, v ≠ .int .u8 b) (j : Nat) (b : Int) : w.cell? ⟨g, j, none⟩ ≠ some (.int .u8 b) := by
  rw [h.cell]
  intro e
  exact hc _ (List.mem_of_getElem? (by simpa using e)) b rfl
theorem bcs_no (bs : List Bool) : ∀ v ∈ (bcs bs).toList, ∀ b, v ≠ .int .u8 b := by
  intro v hv b
  simp only [bcs, List.mem_map] at hv
  obtain ⟨c, _, rfl⟩ := hv
  simp
theorem pcs_no (ap : List Part) : ∀ v ∈ (pcs ap).toList, ∀ b, v ≠ .int .u8 b := by
  intro v hv b
  simp only [pcs, List.mem_map] at hv
  obtain ⟨c, _, rfl⟩ := hv
  simp
theorem qcs_no (se : List S4) : ∀ v ∈ (qcs se).toList, ∀ b, v ≠ .int .u8 b := by
  intro v hv b
  simp only [qcs, List.mem_flatMap] at hv
  obtain ⟨c, _, hc⟩ := hv
  simp [s4L] at hc
  rcases hc with rfl | rfl | rfl | rfl <;> simp
theorem LnsIn.onlyK {w w' : World} {k : Nat} {M : List Ln} (h : LnsIn w M) (hn : ∀ j b, w.cell? ⟨k, j, none⟩ ≠ some (.int .u8 b)) (ho : Only k none w w') : LnsIn w' M := fun x hx => ⟨(h x hx).1.only1 hn ho, (h x hx).2⟩
theorem Both.onlyK {w w' : World} {g k : Nat} {L M : List Ln} (h : Both w g L M) (hn : ∀ j b, w.cell? ⟨k, j, none⟩ ≠ some (.int .u8 b)) (ho : Only k none w w') (hne : g ≠ k) : Both w' g L M :=
  ⟨⟨h.tab.1.only ho hne, h.tab.2.1, LnsIn.onlyK h.tab.2.2 hn ho⟩, h.len, h.same, h.lns.onlyK hn ho, h.zero⟩

theorem bcs_set {w : World} {ob : Nat} {t : TypeId} {bs : List Bool} (h : Blk w ob t (bcs bs)) (k : Nat) (b : Bool) : Blk (w.setCell ⟨ob, k, none⟩ (.bool b)) ob t (bcs (bs.set k b)) := by
  have h' := h.put k (.bool b)
  unfold bcs at *
  simpa [List.map_set] using h'
theorem pcs_set {w : World} {pb : Nat} {t : TypeId} {ap : List Part} (h : Blk w pb t (pcs ap)) (k : Nat) (p : Part) : Blk (w.setCell ⟨pb, k, none⟩ (.slice p.A p.xs.length p.c)) pb t (pcs (ap.set k p)) := by
  have h' := h.put k (.slice p.A p.xs.length p.c)
  unfold pcs at *
  simpa [List.map_set] using h'
theorem four' {T : Type} {L : List T} (h : L.length = 4) : ∃ a b c d, L = [a, b, c, d] := by
  match L, h with
  | [a, b, c, d], _ => exact ⟨a, b, c, d, rfl⟩
theorem qcs_set {w : World} {qb : Nat} {t : TypeId} {se : List S4} (h : Blk w qb t (qcs se)) (h4 : se.length = 4) {k : Nat} (hk : k < 4) (s : S4) :
    Blk ((((w.setCell ⟨qb, k * 4, none⟩ (.int .i64 s.1)).setCell ⟨qb, k * 4 + 1, none⟩ (.int .i64 s.2.1)).setCell ⟨qb, k * 4 + 2, none⟩ (.int .i64 s.2.2.1)).setCell ⟨qb, k * 4 + 3, none⟩ (.int .i64 s.2.2.2)) qb t (qcs (se.set k s)) := by
  have hp := (((h.put (k * 4) (.int .i64 s.1)).put (k * 4 + 1) (.int .i64 s.2.1)).put (k * 4 + 2) (.int .i64 s.2.2.1)).put (k * 4 + 3) (.int .i64 s.2.2.2)
  obtain ⟨a, b, c, d, rfl⟩ := four' h4
  have e : ((((qcs [a, b, c, d]).setIfInBounds (k * 4) (.int .i64 s.1)).setIfInBounds (k * 4 + 1) (.int .i64 s.2.1)).setIfInBounds (k * 4 + 2) (.int .i64 s.2.2.1)).setIfInBounds (k * 4 + 3) (.int .i64 s.2.2.2) = qcs (List.set [a, b, c, d] k s) := by
    have h5 : k = 0 ∨ k = 1 ∨ k = 2 ∨ k = 3 := by omega
    rcases h5 with rfl | rfl | rfl | rfl <;> simp [qcs, s4L]
  rw [e] at hp
  exact hp
theorem bcs_cell {w : World} {ob : Nat} {t : TypeId} {bs : List Bool} (h : Blk w ob t (bcs bs)) {k : Nat} {b : Bool} (hk : bs[k]? = some b) : w.cell? ⟨ob, k, none⟩ = some (.bool b) := by
  rw [h.cell]; simp [bcs, hk]
theorem pcs_cell {w : World} {pb : Nat} {t : TypeId} {ap : List Part} (h : Blk w pb t (pcs ap)) {k : Nat} {p : Part} (hk : ap[k]? = some p) : w.cell? ⟨pb, k, none⟩ = some (.slice p.A p.xs.length p.c) := by
  rw [h.cell]; simp [pcs, hk]
theorem qcs_cell {w : World} {qb : Nat} {t : TypeId} {se : List S4} (h : Blk w qb t (qcs se)) {k : Nat} (hk : k < se.length) (r : Nat) (hr : r < 4) : w.cell? ⟨qb, k * 4 + r, none⟩ = (s4L se[k])[r]? := by
  rw [h.cell]
  unfold qcs
  rw [List.getElem?_toArray]
  exact flat_get s4L (fun _ => rfl) se k r hk hr

/-- The first k channels have been noted. -/
def Noted (S : List Ch) (k : Nat) (bs : List Bool) (ap : List Part) (se : List S4) : Prop :=
  bs.length = 4 ∧ ap.length = 4 ∧ se.length = 4 ∧ ∀ j : Nat, j < k → bs[j]? = some (decide (whichC S (j : Int) = 0)) ∧ ap[j]?.map (·.xs) = some (appOf S (j : Int)) ∧ se[j]? = some (secOf S (j : Int))
theorem Noted.next {S : List Ch} {k : Nat} {bs : List Bool} {ap : List Part} {se : List S4} (h : Noted S k bs ap se) (hk : k < 4) {p : Part} (hp : p.xs = appOf S (k : Int)) :
    Noted S (k + 1) (bs.set k (decide (whichC S (k : Int) = 0))) (ap.set k p) (se.set k (secOf S (k : Int))) := by
  obtain ⟨h1, h2, h3, h4⟩ := h
  refine ⟨by simp [h1], by simp [h2], by simp [h3], fun j hj => ?_⟩
  by_cases hjk : j = k
  · subst hjk
    refine ⟨by rw [List.getElem?_set_self (by omega)], by rw [List.getElem?_set_self (by omega)]; simp [hp], by rw [List.getElem?_set_self (by omega)]⟩
  · have hne : k ≠ j := fun e => hjk e.symm
    rw [List.getElem?_set_ne hne, List.getElem?_set_ne hne, List.getElem?_set_ne hne]
    exact h4 j (by omega)

theorem which_set {S : List Ch} {m n : Nat} (hne : m ≠ n) (c : Ch) : whichC (S.set m c) (n : Int) = whichC S (n : Int) := by
  unfold whichC
  rw [Int.toNat_natCast, List.getElem?_set_ne hne]
theorem app_set {S : List Ch} {m n : Nat} (hne : m ≠ n) (c : Ch) : appOf (S.set m c) (n : Int) = appOf S (n : Int) := by
  unfold appOf
  rw [which_set hne, Int.toNat_natCast, List.getElem?_set_ne hne]
theorem sec_set {S : List Ch} {m n : Nat} (hne : m ≠ n) (c : Ch) : secOf (S.set m c) (n : Int) = secOf S (n : Int) := by
  unfold secOf
  rw [which_set hne, Int.toNat_natCast, List.getElem?_set_ne hne]
/-- What a call for one channel does: nothing, or another entry for it. -/
theorem step_shape {S : List Ch} {o : Op37} (h1 : 1 ≤ o.op) (h3 : o.op ≤ 3) : stepC S o = S ∨ ∃ c, ∃ m : Nat, o.n = (m : Int) ∧ stepC S o = S.set m c := by
  have key : whichC S o.n = 0 → ∃ m : Nat, o.n = (m : Int) := fun h => by
    unfold whichC at h
    by_cases hr : o.n < 0 ∨ 4 ≤ o.n
    · rw [if_pos hr] at h; cases h
    · exact ⟨o.n.toNat, by omega⟩
  unfold stepC
  rw [if_neg (by omega)]
  by_cases e1 : o.op = 1
  · rw [if_pos e1]
    unfold closeC
    by_cases h0 : o.n = 0
    · rw [if_pos h0]; exact .inl rfl
    · rw [if_neg h0]
      by_cases hw : whichC S o.n = 0
      · rw [if_pos hw]
        obtain ⟨m, hm⟩ := key hw
        exact .inr ⟨_, m, hm, by rw [hm, Int.toNat_natCast]⟩
      · rw [if_neg hw]; exact .inl rfl
  · rw [if_neg e1]
    by_cases e2 : o.op = 2
    · rw [if_pos e2]
      unfold setAppC
      by_cases hw : whichC S o.n = 0
      · rw [if_pos hw]
        by_cases hx : o.x.length ≠ 0 ∧ (o.x.length < 5 ∨ 16 < o.x.length)
        · rw [if_pos hx]; exact .inl rfl
        · rw [if_neg hx]
          obtain ⟨m, hm⟩ := key hw
          rcases hS : S[o.n.toNat]? with _ | c
          · exact .inl rfl
          · exact .inr ⟨_, m, hm, by rw [hm, Int.toNat_natCast]⟩
      · rw [if_neg hw]; exact .inl rfl
    · rw [if_neg e2, if_pos (by omega)]
      unfold setSecC
      by_cases hw : whichC S o.n = 0
      · rw [if_pos hw]
        obtain ⟨m, hm⟩ := key hw
        rcases hS : S[o.n.toNat]? with _ | c
        · exact .inl rfl
        · exact .inr ⟨_, m, hm, by rw [hm, Int.toNat_natCast]⟩
      · rw [if_neg hw]; exact .inl rfl
theorem step_apart {S : List Ch} {o : Op37} (h1 : 1 ≤ o.op) (h3 : o.op ≤ 3) {n : Nat} (hn : (n : Int) ≠ o.n) : whichC (stepC S o) (n : Int) = whichC S (n : Int) ∧ appOf (stepC S o) (n : Int) = appOf S (n : Int) ∧ secOf (stepC S o) (n : Int) = secOf S (n : Int) := by
  rcases step_shape (S := S) h1 h3 with h | ⟨c, m, hm, h⟩
  · rw [h]; exact ⟨rfl, rfl, rfl⟩
  · rw [h]
    have hne : m ≠ n := fun e => hn (by rw [hm, e])
    exact ⟨which_set hne c, app_set hne c, sec_set hne c⟩

theorem Snap.setO {w : World} {g X sb ob : Nat} {x : Op37} {L M N : List Ln} {bs : List Bool} {ap : List Part} {se : List S4} {w1 : World} (h : Snap w g X sb ob (ob + 1) (ob + 2) x L M N bs ap se w1) (hX : X < g) (hg : g < sb) (hs : sb < ob) (hw : w.heap.size ≤ ob) (k : Nat) (b : Bool) :
    Snap w g X sb ob (ob + 1) (ob + 2) x L M N (bs.set k b) ap se (w1.setCell ⟨ob, k, none⟩ (.bool b)) := by
  have hn := h.ok.noByte (bcs_no bs)
  have ho : Only ob none w1 (w1.setCell ⟨ob, k, none⟩ (.bool b)) := (Only.refl ob none w1).put k (.bool b)
  exact ⟨h.both.onlyK hn ho (by omega), h.xb.only ho (by omega), h.sk.only ho (by omega), bcs_set h.ok k b, h.pk.only ho (by omega), h.qk.only ho (by omega), fun p hp => (h.rb p hp).only1 hn ho, h.bel.setCell (by simpa using hw) _, h.rx.only1 hn ho⟩
theorem Snap.setP {w : World} {g X sb ob : Nat} {x : Op37} {L M N : List Ln} {bs : List Bool} {ap : List Part} {se : List S4} {w1 : World} (h : Snap w g X sb ob (ob + 1) (ob + 2) x L M N bs ap se w1) (hX : X < g) (hg : g < sb) (hs : sb < ob) (hw : w.heap.size ≤ ob) (k : Nat) (p : Part) (hp : RB w1 p.A p.xs) :
    Snap w g X sb ob (ob + 1) (ob + 2) x L M N bs (ap.set k p) se (w1.setCell ⟨ob + 1, k, none⟩ (.slice p.A p.xs.length p.c)) := by
  have hn := h.pk.noByte (pcs_no ap)
  have ho : Only (ob + 1) none w1 (w1.setCell ⟨ob + 1, k, none⟩ (.slice p.A p.xs.length p.c)) := (Only.refl (ob + 1) none w1).put k _
  exact ⟨h.both.onlyK hn ho (by omega), h.xb.only ho (by omega), h.sk.only ho (by omega), h.ok.only ho (by omega), pcs_set h.pk k p, h.qk.only ho (by omega), fun q hq => by
    rcases List.mem_or_eq_of_mem_set hq with hq | rfl
    · exact (h.rb q hq).only1 hn ho
    · exact hp.only1 hn ho, h.bel.setCell (by simp; omega) _, h.rx.only1 hn ho⟩
theorem Snap.setQ {w : World} {g X sb ob : Nat} {x : Op37} {L M N : List Ln} {bs : List Bool} {ap : List Part} {se : List S4} {w1 : World} (h : Snap w g X sb ob (ob + 1) (ob + 2) x L M N bs ap se w1) (hX : X < g) (hg : g < sb) (hs : sb < ob) (hw : w.heap.size ≤ ob) (k : Nat) (s : S4) (h4 : se.length = 4) (hk : k < 4) :
    Snap w g X sb ob (ob + 1) (ob + 2) x L M N bs ap (se.set k s) ((((w1.setCell ⟨ob + 2, k * 4, none⟩ (.int .i64 s.1)).setCell ⟨ob + 2, k * 4 + 1, none⟩ (.int .i64 s.2.1)).setCell ⟨ob + 2, k * 4 + 2, none⟩ (.int .i64 s.2.2.1)).setCell ⟨ob + 2, k * 4 + 3, none⟩ (.int .i64 s.2.2.2)) := by
  have hn := h.qk.noByte (qcs_no se)
  have ho : Only (ob + 2) none w1 ((((w1.setCell ⟨ob + 2, k * 4, none⟩ (.int .i64 s.1)).setCell ⟨ob + 2, k * 4 + 1, none⟩ (.int .i64 s.2.1)).setCell ⟨ob + 2, k * 4 + 2, none⟩ (.int .i64 s.2.2.1)).setCell ⟨ob + 2, k * 4 + 3, none⟩ (.int .i64 s.2.2.2)) := ((((Only.refl (ob + 2) none w1).put (k * 4) _).put (k * 4 + 1) _).put (k * 4 + 2) _).put (k * 4 + 3) _
  exact ⟨h.both.onlyK hn ho (by omega), h.xb.only ho (by omega), h.sk.only ho (by omega), h.ok.only ho (by omega), h.pk.only ho (by omega), qcs_set h.qk h4 hk s, fun p hp => (h.rb p hp).only1 hn ho, (((h.bel.setCell (by simp; omega) _).setCell (by simp; omega) _).setCell (by simp; omega) _).setCell (by simp; omega) _, h.rx.only1 hn ho⟩
theorem Snap.did {w : World} {g X sb ob pb qb : Nat} {x : Op37} {L M N L' M' : List Ln} {bs : List Bool} {ap : List Part} {se : List S4} {w1 w2 : World} (h : Snap w g X sb ob pb qb x L M N bs ap se w1) (hB : Both w2 g L' M') (ho : Only g none w1 w2) (hX : X ≠ g) (hs : sb ≠ g) (h1 : ob ≠ g) (h2 : pb ≠ g) (h3 : qb ≠ g) (hg : w.heap.size ≤ g) :
    Snap w g X sb ob pb qb x L' M' N bs ap se w2 :=
  ⟨hB, h.xb.only ho hX, h.sk.only ho hs, h.ok.only ho h1, h.pk.only ho h2, h.qk.only ho h3, fun p hp => (h.rb p hp).tab h.both.tab ho, h.bel.trans (ho.bel hg h.bel.size), h.rx.tab h.both.tab ho⟩
end Go.Proofs.Ytpbgfiaaechiaaa
