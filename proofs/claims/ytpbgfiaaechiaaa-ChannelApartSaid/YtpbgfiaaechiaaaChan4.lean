/-
  The channels: Security, SetSecurity, App, Reset, New.
-/
import Derived.Test.YtpbgfiaaechiaaaChan3
namespace Go.Proofs.Ytpbgfiaaechiaaa
open Go.RowKit
set_option linter.unusedVariables false

/-- Results: a struct that lies in a cell. -/
theorem results_cell_one {P : Program} {fn : Func} {p : Tmp} {ty : TypeId} (h : fn.results = #[.cell p ty]) (tmps : Array Value) (w : World) (g : Nat) (t : TypeId) (cs : Array Value) (fr : Nat × Nat) (d : TypeDesc)
    (hp : tmps.getD p undef = .pointer (some ⟨g, 0, none⟩)) (hg : w.heap[g]? = some (.cells cs t fr))
    (hu : P.underlying ty = some d) (hd : (match d with | .struct _ | .array _ _ => true | _ => false) = true) (hi : (P.info? ty).map (·.size) = some cs.size) :
    (results fn tmps).run P w = .ok (.agg cs) w := by
  have hp' : tmps[p]?.getD undef = .pointer (some ⟨g, 0, none⟩) := by simpa using hp
  simp [results, h, hp', asAddr, run_loadVar_row w g t ty cs fr d hg hu hd hi]

theorem sec_info : (Try.prog.info? 27).map (·.size) = some 4 := rfl

def secCs (p k s l : Int) : Array Value := #[.int .i64 p, .int .i64 k, .int .i64 s, .int .i64 l]
def secOf (S : List Ch) (n : Int) : Int × Int × Int × Int := if whichC S n = 0 then (match S[n.toNat]? with | some c => (c.p, c.k, c.s, c.l) | none => (0, 0, 0, 0)) else (0, 0, 0, 0)

theorem security_bad (v : Value) (n : Int) (w : World) (h : IsOk w v false) : Calls Try.prog 19 #[v, .int .i64 n] w fun e w' => e = .returned (.agg (secCs 0 0 0 0)) ∧ Below w.heap.size w w' := by
  have h' : IsOk (w.alloc (.cells (secCs 0 0 0 0) 27)) v false := by
    rcases h with h | ⟨g, rfl, hc⟩
    · exact .inl h
    · exact .inr ⟨g, rfl, (((Below.refl w.heap.size w).alloc (Nat.le_refl _) _).cell (cell?_lt hc)).trans hc⟩
  have k0 := Blk.made w 27 (secCs 0 0 0 0)
  have n0 : (w.alloc (.cells (secCs 0 0 0 0) 27)).cell? ⟨w.heap.size, 0, none⟩ = some (.int .i64 0) := k0.cell 0
  have n1 : (w.alloc (.cells (secCs 0 0 0 0) 27)).cell? ⟨w.heap.size, 1, none⟩ = some (.int .i64 0) := k0.cell 1
  have n2 : (w.alloc (.cells (secCs 0 0 0 0) 27)).cell? ⟨w.heap.size, 2, none⟩ = some (.int .i64 0) := k0.cell 2
  have n3 : (w.alloc (.cells (secCs 0 0 0 0) 27)).cell? ⟨w.heap.size, 3, none⟩ = some (.int .i64 0) := k0.cell 3
  have hb := (Below.refl w.heap.size w).alloc (Nat.le_refl _) (.cells (secCs 0 0 0 0) 27)
  simp only [secCs] at k0 n0 n1 n2 n3 hb h' ⊢
  go_enter Try.func19, Try.ntmps19
  go_wp2_with fail
  refine (at_bad v n _ h').mono ?_
  rintro e w1 ⟨rfl, rfl⟩
  go_wp2
  refine bodyPost_ret (results_cell_one rfl _ _ w.heap.size _ _ _ _ rfl k0.out Try.underlying27 rfl sec_info) rfl ?_
  exact ⟨rfl, hb⟩

theorem IsOk.below {w w' : World} {v : Value} {b : Bool} (h : IsOk w v b) (hb : Below w.heap.size w w') : IsOk w' v b := by
  rcases h with h | ⟨g, rfl, hc⟩
  · exact .inl h
  · exact .inr ⟨g, rfl, (hb.cell (cell?_lt hc)).trans hc⟩
theorem secOf_in {L : List Ln} {k : Nat} (hk : k < L.length) (h4 : L.length = 4) (ho : L[k].ch.o = true) : secOf (chs L) (k : Int) = (L[k].ch.p, L[k].ch.k, L[k].ch.s, L[k].ch.l) := by
  unfold secOf
  rw [which_in hk h4, if_pos ho, if_pos rfl, Int.toNat_natCast, chs_get L k hk]
theorem security_any (g : Nat) (L : List Ln) (n : Int) (w : World) (h : TabAt w g true L) :
    Calls Try.prog 19 #[.pointer (some ⟨g, 0, none⟩), .int .i64 n] w fun e w' =>
      e = .returned (.agg (secCs (secOf (chs L) n).1 (secOf (chs L) n).2.1 (secOf (chs L) n).2.2.1 (secOf (chs L) n).2.2.2)) ∧ Below w.heap.size w w' := by
  have hb := (Below.refl w.heap.size w).alloc (Nat.le_refl _) (.cells (secCs 0 0 0 0) 27)
  have h' := h.below hb
  have k0 := Blk.made w 27 (secCs 0 0 0 0)
  have n0 : (w.alloc (.cells (secCs 0 0 0 0) 27)).cell? ⟨w.heap.size, 0, none⟩ = some (.int .i64 0) := k0.cell 0
  have n1 : (w.alloc (.cells (secCs 0 0 0 0) 27)).cell? ⟨w.heap.size, 1, none⟩ = some (.int .i64 0) := k0.cell 1
  have n2 : (w.alloc (.cells (secCs 0 0 0 0) 27)).cell? ⟨w.heap.size, 2, none⟩ = some (.int .i64 0) := k0.cell 2
  have n3 : (w.alloc (.cells (secCs 0 0 0 0) 27)).cell? ⟨w.heap.size, 3, none⟩ = some (.int .i64 0) := k0.cell 3
  by_cases hz : whichC (chs L) n = 0
  · obtain ⟨k, hk, rfl, ho⟩ := which_zero h.2.1 hz
    have h4 := h.2.1
    rw [secOf_in hk h4 ho]
    have c2 : w.cell? ⟨g, 1 + k * 6 + 2, none⟩ = some (.int .i64 L[k].ch.p) := h.cell k 2 hk (by omega)
    have c3 : w.cell? ⟨g, 1 + k * 6 + 2 + 1, none⟩ = some (.int .i64 L[k].ch.k) := h.cell k 3 hk (by omega)
    have c4 : w.cell? ⟨g, 1 + k * 6 + 2 + 2, none⟩ = some (.int .i64 L[k].ch.s) := h.cell k 4 hk (by omega)
    have c5 : w.cell? ⟨g, 1 + k * 6 + 2 + 3, none⟩ = some (.int .i64 L[k].ch.l) := h.cell k 5 hk (by omega)
    have hg := h.1.size
    have hk0 := Blk.made w 27 (secCs L[k].ch.p L[k].ch.k L[k].ch.s L[k].ch.l)
    have hb1 := (Below.refl w.heap.size w).alloc (Nat.le_refl _) (.cells (secCs L[k].ch.p L[k].ch.k L[k].ch.s L[k].ch.l) 27)
    simp only [secCs] at k0 n0 n1 n2 n3 h' hk0 hb1 ⊢
    go_enter Try.func19, Try.ntmps19
    go_wp2_with fail
    refine (at_zero g L k _ h' hk ho).mono ?_
    rintro e w1 ⟨rfl, rfl⟩
    go_wp2
    refine bodyPost_ret (results_cell_one rfl _ _ w.heap.size _ _ _ _ rfl hk0.out Try.underlying27 rfl sec_info) rfl ?_
    exact ⟨rfl, hb1⟩
  · have hs : secOf (chs L) n = (0, 0, 0, 0) := by unfold secOf; rw [if_neg hz]
    rw [hs]
    obtain ⟨z, hzz⟩ : ∃ z, whichC (chs L) n = z := ⟨_, rfl⟩
    rw [hzz] at hz
    have HZ := Lib.hid hzz
    clear hzz hs
    simp only [secCs] at k0 n0 n1 n2 n3 h' hb ⊢
    go_enter Try.func19, Try.ntmps19
    go_wp2_with fail
    refine (at_err g L n z _ h' HZ.out hz).mono ?_
    rintro e w1 ⟨rfl, rfl⟩
    go_wp2
    refine bodyPost_ret (results_cell_one rfl _ _ w.heap.size _ _ _ _ rfl k0.out Try.underlying27 rfl sec_info) rfl ?_
    exact ⟨rfl, hb⟩

def setSecC (S : List Ch) (n p k s l : Int) : List Ch × Int := if whichC S n = 0 then (match S[n.toNat]? with | some c => (S.set n.toNat ⟨c.o, c.app, p, k, s, l⟩, 0) | none => (S, 0)) else (S, whichC S n)
theorem setSec_bad (v : Value) (n p k s l : Int) (w : World) (h : IsOk w v false) : Calls Try.prog 23 #[v, .int .i64 n, .agg (secCs p k s l)] w fun e w' => e = .returned (.int .i64 31) ∧ Below w.heap.size w w' := by
  have hb := (Below.refl w.heap.size w).alloc (Nat.le_refl _) (.cells (secCs p k s l) 27)
  have h' := h.below hb
  simp only [secCs] at hb h' ⊢
  go_enter Try.func23, Try.ntmps23
  go_wp2_with fail
  refine (at_bad v n _ h').mono ?_
  rintro e w1 ⟨rfl, rfl⟩
  go_wp2
  go_ret
  exact ⟨rfl, hb⟩
theorem setSec_any (g : Nat) (L : List Ln) (n p k s l : Int) (w : World) (h : TabAt w g true L) :
    Calls Try.prog 23 #[.pointer (some ⟨g, 0, none⟩), .int .i64 n, .agg (secCs p k s l)] w (Did g (setSecC (chs L) n p k s l) w) := by
  have hb := (Below.refl w.heap.size w).alloc (Nat.le_refl _) (.cells (secCs p k s l) 27)
  have h' := h.below hb
  by_cases hz : whichC (chs L) n = 0
  · obtain ⟨m, hm, rfl, ho⟩ := which_zero h.2.1 hz
    have h4 := h.2.1
    have hr : setSecC (chs L) (m : Int) p k s l = ((chs L).set m ⟨L[m].ch.o, L[m].ch.app, p, k, s, l⟩, 0) := by
      unfold setSecC
      rw [if_pos hz, Int.toNat_natCast, chs_get L m hm]
    rw [hr]
    have d2 : (w.alloc (.cells (secCs p k s l) 27)).cell? ⟨g, 1 + m * 6 + 2, none⟩ = some (.int .i64 L[m].ch.p) := h'.cell m 2 hm (by omega)
    have d3 : (w.alloc (.cells (secCs p k s l) 27)).cell? ⟨g, 1 + m * 6 + 2 + 1, none⟩ = some (.int .i64 L[m].ch.k) := h'.cell m 3 hm (by omega)
    have d4 : (w.alloc (.cells (secCs p k s l) 27)).cell? ⟨g, 1 + m * 6 + 2 + 2, none⟩ = some (.int .i64 L[m].ch.s) := h'.cell m 4 hm (by omega)
    have d5 : (w.alloc (.cells (secCs p k s l) 27)).cell? ⟨g, 1 + m * 6 + 2 + 3, none⟩ = some (.int .i64 L[m].ch.l) := h'.cell m 5 hm (by omega)
    have f := h'.1.free
    have hk0 := Blk.made w 27 (secCs p k s l)
    have n0 : (w.alloc (.cells (secCs p k s l) 27)).cell? ⟨w.heap.size, 0, none⟩ = some (.int .i64 p) := hk0.cell 0
    have n1 : (w.alloc (.cells (secCs p k s l) 27)).cell? ⟨w.heap.size, 1, none⟩ = some (.int .i64 k) := hk0.cell 1
    have n2 : (w.alloc (.cells (secCs p k s l) 27)).cell? ⟨w.heap.size, 2, none⟩ = some (.int .i64 s) := hk0.cell 2
    have n3 : (w.alloc (.cells (secCs p k s l) 27)).cell? ⟨w.heap.size, 3, none⟩ = some (.int .i64 l) := hk0.cell 3
    have hon := (((((Only.refl g none w).alloc (.cells (secCs p k s l) 27)).put (1 + m * 6 + 2) (.int .i64 p)).put (1 + m * 6 + 2 + 1) (.int .i64 k)).put (1 + m * 6 + 2 + 2) (.int .i64 s)).put (1 + m * 6 + 2 + 3) (.int .i64 l)
    have hon' := ((((Only.refl g none (w.alloc (.cells (secCs p k s l) 27))).put (1 + m * 6 + 2) (.int .i64 p)).put (1 + m * 6 + 2 + 1) (.int .i64 k)).put (1 + m * 6 + 2 + 2) (.int .i64 s)).put (1 + m * 6 + 2 + 3) (.int .i64 l)
    have hT := h'.turned hon' m ⟨⟨L[m].ch.o, L[m].ch.app, p, k, s, l⟩, L[m].A, L[m].c⟩ ⟨(h'.2.2 L[m] (List.getElem_mem hm)).1.tab h' hon', (h'.2.2 L[m] (List.getElem_mem hm)).2⟩ (put4 h'.1 h4 hm ⟨⟨L[m].ch.o, L[m].ch.app, p, k, s, l⟩, L[m].A, L[m].c⟩ _ _ _ _ rfl)
    simp only [secCs] at hb h' f hk0 n0 n1 n2 n3 d2 d3 d4 d5 hon hT ⊢
    go_enter Try.func23, Try.ntmps23
    go_wp2_with fail
    refine (at_zero g L m _ h' hm ho).mono ?_
    rintro e w1 ⟨rfl, rfl⟩
    go_wp2
    go_ret
    exact ⟨rfl, _, hT, by rw [chs_set], hon⟩
  · have hr : setSecC (chs L) n p k s l = (chs L, whichC (chs L) n) := by unfold setSecC; rw [if_neg hz]
    rw [hr]
    obtain ⟨z, hzz⟩ : ∃ z, whichC (chs L) n = z := ⟨_, rfl⟩
    rw [hzz] at hz ⊢
    have HZ := Lib.hid hzz
    clear hzz hr
    simp only [secCs] at hb h' ⊢
    go_enter Try.func23, Try.ntmps23
    go_wp2_with fail
    refine (at_err g L n z _ h' HZ.out hz).mono ?_
    rintro e w1 ⟨rfl, rfl⟩
    go_wp2
    go_ret
    exact ⟨rfl, L, h', rfl, (Only.refl g none w).alloc _⟩
end Go.Proofs.Ytpbgfiaaechiaaa
