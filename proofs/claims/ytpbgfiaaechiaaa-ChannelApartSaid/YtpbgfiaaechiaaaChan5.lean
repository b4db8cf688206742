/-
  The channels: App, SetApp.
-/
import Derived.Test.YtpbgfiaaechiaaaChan4
import Derived.StillTailTactics
import Derived.Deep.QuietTactic
import Derived.BigQuiet
import Derived.BigRegion
import Derived.Deep.DeepCutAuto
import Derived.WalkLawsBesides
namespace Go.Proofs.Ytpbgfiaaechiaaa
open Go.RowKit
set_option linter.unusedVariables false

theorem byteT : SliceT Try.prog 23 5 (.int .u8 0) 1 1 := ⟨Try.underlying23, by kernel_rfl, rfl, by omega, by omega⟩

/-- The copy of a slice of bytes. -/
theorem cloneB_any (A : Option Addr) (c : Nat) (xs : List UInt8) (w : World) (hl : xs.length ≤ 1048576) (hr : RB w A xs) :
    Calls Try.prog 33 #[.slice A xs.length c] w fun e w' =>
      ∃ A' c', e = .returned (.slice A' xs.length c') ∧ RB w' A' xs ∧ Below w.heap.size w w' := by
  have hrc := rb_iff.1 hr
  cases A with
  | none =>
    have h0 : xs = [] := by
      rcases xs with _ | ⟨l, ls⟩
      · rfl
      · obtain ⟨_, _, hA, _⟩ := hr (by simp)
        cases hA
    subst h0
    have he := fun w => Lib.run_eql_slice_nil (P := Try.prog) w 23 _ none 0 c 0 0 Try.underlying23
    go_enter Try.func33, Try.ntmps33
    go_wp2
    go_ret
    exact ⟨_, _, rfl, RB.nil _ _, Below.refl _ _⟩
  | some ad =>
    have hT := byteT
    have he := fun w => Lib.run_eql_slice_nil (P := Try.prog) w 23 _ (some ad) xs.length c 0 0 Try.underlying23
    have hE : (w.alloc (.cells #[] 5)).ownsRow w.heap.size 5 1 (.slice (some ⟨w.heap.size, 0, none⟩) 0 0) 0 [] := World.ownsRow_lit (size := 1) w #[] 0 (Nat.le_refl _) (by simp [maxLen]) rfl
    have hb := (Below.refl w.heap.size w).alloc (Nat.le_refl _) (.cells #[] 5)
    have hr' := hrc.below hb
    have HV : Hid ((bv xs).length = xs.length * 1) := by show _ = _; rw [bv_length, Nat.mul_one]
    go_enter Try.func33, Try.ntmps33
    go_wp2_with (at_builtin; refine wpList_append_cells rfl hT (.tmp 5) (.tmp 6) rfl rfl rfl hE hr' HV.out (bv_one xs) (by omega) (by simp) ?_; intro v2 w2 hown2 hb2 hg2)
    go_ret
    obtain ⟨A2, c2, rfl, hc2, hr2⟩ := owns_reads hown2
    exact ⟨A2, c2, by simp, rb_iff.2 (by simpa using hr2), hb.trans hb2⟩

def appOf (S : List Ch) (n : Int) : List UInt8 := if whichC S n = 0 then (match S[n.toNat]? with | some c => c.app | none => []) else []
theorem appOf_in {L : List Ln} {k : Nat} (hk : k < L.length) (h4 : L.length = 4) (ho : L[k].ch.o = true) : appOf (chs L) (k : Int) = L[k].ch.app := by
  unfold appOf
  rw [which_in hk h4, if_pos ho, if_pos rfl, Int.toNat_natCast, chs_get L k hk]
theorem appOf_out {S : List Ch} {n : Int} (h : whichC S n ≠ 0) : appOf S n = [] := by unfold appOf; rw [if_neg h]

theorem app_bad (v : Value) (n : Int) (w : World) (h : IsOk w v false) : Calls Try.prog 18 #[v, .int .i64 n] w fun e w' => e = .returned (.slice none 0 0) ∧ w = w' := by
  go_enter Try.func18, Try.ntmps18
  go_wp2_with fail
  refine (at_bad v n w h).mono ?_
  rintro e w1 ⟨rfl, rfl⟩
  go_wp2
  go_ret
  exact ⟨rfl, rfl⟩
theorem app_any (g : Nat) (L : List Ln) (n : Int) (w : World) (h : TabAt w g true L) :
    Calls Try.prog 18 #[.pointer (some ⟨g, 0, none⟩), .int .i64 n] w fun e w' =>
      ∃ A c, e = .returned (.slice A (appOf (chs L) n).length c) ∧ RB w' A (appOf (chs L) n) ∧ Below w.heap.size w w' := by
  by_cases hz : whichC (chs L) n = 0
  · obtain ⟨k, hk, rfl, ho⟩ := which_zero h.2.1 hz
    have h4 := h.2.1
    rw [appOf_in hk h4 ho]
    have c1 : w.cell? ⟨g, 1 + k * 6 + 1, none⟩ = some (.slice L[k].A L[k].ch.app.length L[k].c) := h.cell k 1 hk (by omega)
    obtain ⟨hr, hl⟩ := h.2.2 L[k] (List.getElem_mem hk)
    go_enter Try.func18, Try.ntmps18
    go_wp2_with fail
    refine (at_zero g L k w h hk ho).mono ?_
    rintro e w1 ⟨rfl, rfl⟩
    go_wp2_with fail
    refine (cloneB_any L[k].A L[k].c L[k].ch.app w (by omega) hr).mono ?_
    rintro e w1 ⟨A, c, rfl, hr1, hb1⟩
    go_wp2
    go_ret
    exact ⟨A, c, rfl, hr1, hb1⟩
  · rw [appOf_out hz]
    obtain ⟨z, hzz⟩ : ∃ z, whichC (chs L) n = z := ⟨_, rfl⟩
    rw [hzz] at hz
    have HZ := Lib.hid hzz
    clear hzz
    go_enter Try.func18, Try.ntmps18
    go_wp2_with fail
    refine (at_err g L n z w h HZ.out hz).mono ?_
    rintro e w1 ⟨rfl, rfl⟩
    go_wp2
    go_ret
    exact ⟨none, 0, rfl, RB.nil _ _, Below.refl _ _⟩

def setAppC (S : List Ch) (n : Int) (xs : List UInt8) : List Ch × Int :=
  if whichC S n = 0 then (if xs.length ≠ 0 ∧ (xs.length < 5 ∨ 16 < xs.length) then (S, 1) else (match S[n.toNat]? with | some c => (S.set n.toNat ⟨c.o, xs, 0, 0, c.s, 0⟩, 0) | none => (S, 0))) else (S, whichC S n)
theorem setApp_bad (v : Value) (n : Int) (x : Value) (w : World) (h : IsOk w v false) : Calls Try.prog 22 #[v, .int .i64 n, x] w fun e w' => e = .returned (.int .i64 31) ∧ w = w' := by
  go_enter Try.func22, Try.ntmps22
  go_wp2_with fail
  refine (at_bad v n w h).mono ?_
  rintro e w1 ⟨rfl, rfl⟩
  go_wp2
  go_ret
  exact ⟨rfl, rfl⟩
theorem setApp_err (g : Nat) (L : List Ln) (n : Int) (x : Value) (w : World) (h : TabAt w g true L) (hz : whichC (chs L) n ≠ 0) :
    Calls Try.prog 22 #[.pointer (some ⟨g, 0, none⟩), .int .i64 n, x] w (Did g (chs L, whichC (chs L) n) w) := by
  obtain ⟨z, hzz⟩ : ∃ z, whichC (chs L) n = z := ⟨_, rfl⟩
  rw [hzz] at hz ⊢
  have HZ := Lib.hid hzz
  clear hzz
  go_enter Try.func22, Try.ntmps22
  go_wp2_with fail
  refine (at_err g L n z w h HZ.out hz).mono ?_
  rintro e w1 ⟨rfl, rfl⟩
  go_wp2
  go_ret
  exact ⟨rfl, L, h, rfl, Only.refl _ _ _⟩
theorem setApp_arg (g : Nat) (L : List Ln) (k : Nat) (A : Option Addr) (c m : Nat) (w : World) (h : TabAt w g true L) (hk : k < L.length) (ho : L[k].ch.o = true) (h0 : m ≠ 0) (hm : m < 5 ∨ 16 < m) :
    Calls Try.prog 22 #[.pointer (some ⟨g, 0, none⟩), .int .i64 k, .slice A m c] w (Did g (chs L, 1) w) := by
  have i0 : ¬ ((m : Int) = 0) := by omega
  rcases hm with hm | hm
  · go_enter Try.func22, Try.ntmps22
    go_wp2_with fail
    refine (at_zero g L k w h hk ho).mono ?_
    rintro e w1 ⟨rfl, rfl⟩
    go_wp2
    go_ret
    exact ⟨rfl, L, h, rfl, Only.refl _ _ _⟩
  · have hm' : ¬ ((m : Int) < 5) := by omega
    have hm2 : (16 : Int) < (m : Int) := by omega
    have i1 : (((m : Int) != 0)) = true := by simpa using h0
    go_enter Try.func22, Try.ntmps22
    go_wp2_with fail
    refine (at_zero g L k w h hk ho).mono ?_
    rintro e w1 ⟨rfl, rfl⟩
    go_wp2
    go_ret
    exact ⟨rfl, L, h, rfl, Only.refl _ _ _⟩

/-- The table after SetApp. -/
theorem setApp_end {w w2 : World} {g : Nat} {L : List Ln} {k : Nat} {A2 : Option Addr} {c2 : Nat} {xs : List UInt8} (h : TabAt w g true L) (hk : k < L.length) (hb : Below w.heap.size w w2) (hr2 : RB w2 A2 xs) (hl : xs.length ≤ 16) :
    ∃ L', TabAt (((((w2.setCell ⟨g, 1 + k * 6 + 1, none⟩ (.slice A2 xs.length c2)).setCell ⟨g, 1 + k * 6 + 2, none⟩ (.int .i64 0)).setCell ⟨g, 1 + k * 6 + 2 + 1, none⟩ (.int .i64 0)).setCell ⟨g, 1 + k * 6 + 2 + 2, none⟩ (.int .i64 L[k].ch.s)).setCell ⟨g, 1 + k * 6 + 2 + 3, none⟩ (.int .i64 0)) g true L' ∧
      chs L' = (chs L).set k ⟨L[k].ch.o, xs, 0, 0, L[k].ch.s, 0⟩ ∧ Only g none w (((((w2.setCell ⟨g, 1 + k * 6 + 1, none⟩ (.slice A2 xs.length c2)).setCell ⟨g, 1 + k * 6 + 2, none⟩ (.int .i64 0)).setCell ⟨g, 1 + k * 6 + 2 + 1, none⟩ (.int .i64 0)).setCell ⟨g, 1 + k * 6 + 2 + 2, none⟩ (.int .i64 L[k].ch.s)).setCell ⟨g, 1 + k * 6 + 2 + 3, none⟩ (.int .i64 0)) := by
  have h2 := h.below hb
  have h4 := h.2.1
  have o1 := (Only.refl g none w2).put (1 + k * 6 + 1) (.slice A2 xs.length c2)
  have t1 := h2.turned o1 k ⟨⟨L[k].ch.o, xs, L[k].ch.p, L[k].ch.k, L[k].ch.s, L[k].ch.l⟩, A2, c2⟩ ⟨hr2.tab h2 o1, hl⟩ (put1 h2.1 h4 hk ⟨⟨L[k].ch.o, xs, L[k].ch.p, L[k].ch.k, L[k].ch.s, L[k].ch.l⟩, A2, c2⟩ _ rfl)
  have o2 := ((((Only.refl g none (w2.setCell ⟨g, 1 + k * 6 + 1, none⟩ (.slice A2 xs.length c2))).put (1 + k * 6 + 2) (.int .i64 0)).put (1 + k * 6 + 2 + 1) (.int .i64 0)).put (1 + k * 6 + 2 + 2) (.int .i64 L[k].ch.s)).put (1 + k * 6 + 2 + 3) (.int .i64 0)
  have hk' : k < (L.set k ⟨⟨L[k].ch.o, xs, L[k].ch.p, L[k].ch.k, L[k].ch.s, L[k].ch.l⟩, A2, c2⟩).length := by rw [List.length_set]; exact hk
  have t2 := t1.turned o2 k ⟨⟨L[k].ch.o, xs, 0, 0, L[k].ch.s, 0⟩, A2, c2⟩ ⟨(hr2.tab h2 o1).tab t1 o2, hl⟩ (put4 t1.1 t1.2.1 hk' ⟨⟨L[k].ch.o, xs, 0, 0, L[k].ch.s, 0⟩, A2, c2⟩ _ _ _ _ (by simp [lnCells]))
  rw [List.set_set] at t2
  exact ⟨_, t2, by rw [chs_set], (Only.of_below hb).trans (o1.trans o2)⟩
set_option maxHeartbeats 2000000 in
theorem setApp_in (g : Nat) (L : List Ln) (k : Nat) (A : Option Addr) (c : Nat) (xs : List UInt8) (w : World) (h : TabAt w g true L) (hk : k < L.length) (ho : L[k].ch.o = true) (hm : xs.length = 0 ∨ (5 ≤ xs.length ∧ xs.length ≤ 16)) (hr : RB w A xs) :
    Calls Try.prog 22 #[.pointer (some ⟨g, 0, none⟩), .int .i64 k, .slice A xs.length c] w (Did g ((chs L).set k ⟨L[k].ch.o, xs, 0, 0, L[k].ch.s, 0⟩, 0) w) := by
  have HL : xs.length ≤ 16 := by omega
  have c4 : w.cell? ⟨g, 1 + k * 6 + 2 + 2, none⟩ = some (.int .i64 L[k].ch.s) := h.cell k 4 hk (by omega)
  have hbN : Below w.heap.size w (w.drewN 1) := below_drewN (Below.refl _ _) 1
  have hg := h.1.size
  have HC : Hid (∀ {A2 : Option Addr} {c2 : Nat} {w2 : World}, Below w.heap.size w w2 → RB w2 A2 xs → ∃ L', TabAt (((((w2.setCell ⟨g, 1 + k * 6 + 1, none⟩ (.slice A2 xs.length c2)).setCell ⟨g, 1 + k * 6 + 2, none⟩ (.int .i64 0)).setCell ⟨g, 1 + k * 6 + 2 + 1, none⟩ (.int .i64 0)).setCell ⟨g, 1 + k * 6 + 2 + 2, none⟩ (.int .i64 L[k].ch.s)).setCell ⟨g, 1 + k * 6 + 2 + 3, none⟩ (.int .i64 0)) g true L' ∧
      chs L' = (chs L).set k ⟨L[k].ch.o, xs, 0, 0, L[k].ch.s, 0⟩ ∧ Only g none w (((((w2.setCell ⟨g, 1 + k * 6 + 1, none⟩ (.slice A2 xs.length c2)).setCell ⟨g, 1 + k * 6 + 2, none⟩ (.int .i64 0)).setCell ⟨g, 1 + k * 6 + 2 + 1, none⟩ (.int .i64 0)).setCell ⟨g, 1 + k * 6 + 2 + 2, none⟩ (.int .i64 L[k].ch.s)).setCell ⟨g, 1 + k * 6 + 2 + 3, none⟩ (.int .i64 0))) := fun hb hr2 => setApp_end h hk hb hr2 HL
  rcases hm with h0 | ⟨h5, h16⟩
  · obtain rfl : xs = [] := List.eq_nil_of_length_eq_zero h0
    rw [List.length_nil]
    clear h0
    go_enter Try.func22, Try.ntmps22
    go_wp2_with fail
    refine (at_zero g L k w h hk ho).mono ?_
    rintro e w1 ⟨rfl, rfl⟩
    go_upto_region 6 with fail
    go_region_law (go_simp; go_at_call 33; refine (cloneB_any A c [] _ (by simp) (hr.drewN 1)).mono ?_; rintro e w2 ⟨A2, c2, rfl, hr2, hb2⟩; have h2 := h.below (hbN.trans hb2); have f2 := h2.1.free; have x1 : w2.cell? ⟨g, 1 + k * 6 + 1, none⟩ = some (.slice L[k].A L[k].ch.app.length L[k].c) := h2.cell k 1 hk (by omega); have x2 : w2.cell? ⟨g, 1 + k * 6 + 2, none⟩ = some (.int .i64 L[k].ch.p) := h2.cell k 2 hk (by omega); have x3 : w2.cell? ⟨g, 1 + k * 6 + 2 + 1, none⟩ = some (.int .i64 L[k].ch.k) := h2.cell k 3 hk (by omega); have x4 : w2.cell? ⟨g, 1 + k * 6 + 2 + 2, none⟩ = some (.int .i64 L[k].ch.s) := h2.cell k 4 hk (by omega); have x5 : w2.cell? ⟨g, 1 + k * 6 + 2 + 3, none⟩ = some (.int .i64 L[k].ch.l) := h2.cell k 5 hk (by omega))
    all_goals
      go_wp2
      go_ret
      exact ⟨rfl, HC.out (hbN.trans hb2) hr2⟩
  · have i0 : ¬ (xs.length = 0) := by omega
    have i1 : ¬ (xs.length < 5) := by omega
    have i2 : ¬ (16 < xs.length) := by omega
    go_enter Try.func22, Try.ntmps22
    go_wp2_with fail
    refine (at_zero g L k w h hk ho).mono ?_
    rintro e w1 ⟨rfl, rfl⟩
    go_upto_region 6 with fail
    go_region_law (go_simp; go_at_call 33; refine (cloneB_any A c xs _ (by omega) (hr.drewN 1)).mono ?_; rintro e w2 ⟨A2, c2, rfl, hr2, hb2⟩; have h2 := h.below (hbN.trans hb2); have f2 := h2.1.free; have x1 : w2.cell? ⟨g, 1 + k * 6 + 1, none⟩ = some (.slice L[k].A L[k].ch.app.length L[k].c) := h2.cell k 1 hk (by omega); have x2 : w2.cell? ⟨g, 1 + k * 6 + 2, none⟩ = some (.int .i64 L[k].ch.p) := h2.cell k 2 hk (by omega); have x3 : w2.cell? ⟨g, 1 + k * 6 + 2 + 1, none⟩ = some (.int .i64 L[k].ch.k) := h2.cell k 3 hk (by omega); have x4 : w2.cell? ⟨g, 1 + k * 6 + 2 + 2, none⟩ = some (.int .i64 L[k].ch.s) := h2.cell k 4 hk (by omega); have x5 : w2.cell? ⟨g, 1 + k * 6 + 2 + 3, none⟩ = some (.int .i64 L[k].ch.l) := h2.cell k 5 hk (by omega))
    all_goals
      go_wp2
      go_ret
      exact ⟨rfl, HC.out (hbN.trans hb2) hr2⟩

theorem setApp_any (g : Nat) (L : List Ln) (n : Int) (A : Option Addr) (c : Nat) (xs : List UInt8) (w : World) (h : TabAt w g true L) (hr : RB w A xs) :
    Calls Try.prog 22 #[.pointer (some ⟨g, 0, none⟩), .int .i64 n, .slice A xs.length c] w (Did g (setAppC (chs L) n xs) w) := by
  by_cases hz : whichC (chs L) n = 0
  · obtain ⟨k, hk, rfl, ho⟩ := which_zero h.2.1 hz
    by_cases hx : xs.length ≠ 0 ∧ (xs.length < 5 ∨ 16 < xs.length)
    · have hr' : setAppC (chs L) (k : Int) xs = (chs L, 1) := by unfold setAppC; rw [if_pos hz, if_pos hx]
      rw [hr']
      exact setApp_arg g L k A c xs.length w h hk ho hx.1 hx.2
    · have hr' : setAppC (chs L) (k : Int) xs = ((chs L).set k ⟨L[k].ch.o, xs, 0, 0, L[k].ch.s, 0⟩, 0) := by
        unfold setAppC
        rw [if_pos hz, if_neg hx, Int.toNat_natCast, chs_get L k hk]
      rw [hr']
      exact setApp_in g L k A c xs w h hk ho (by omega) hr
  · have hr' : setAppC (chs L) n xs = (chs L, whichC (chs L) n) := by unfold setAppC; rw [if_neg hz]
    rw [hr']
    exact setApp_err g L n _ w h hz
end Go.Proofs.Ytpbgfiaaechiaaa
