/-
  The channels: IsOpen, Close, Security, SetSecurity of a table.
-/
import Derived.Test.YtpbgfiaaechiaaaChan2
namespace Go.Proofs.Ytpbgfiaaechiaaa
open Go.RowKit
set_option linter.unusedVariables false

theorem at_zero (g : Nat) (L : List Ln) (k : Nat) (w : World) (h : TabAt w g true L) (hk : k < L.length) (ho : L[k].ch.o = true) :
    Calls Try.prog 29 #[.pointer (some ⟨g, 0, none⟩), .int .i64 k] w fun e w' => e = .returned (.tuple #[.pointer (some ⟨g, 1 + k * 6, none⟩), .int .i64 0]) ∧ w = w' := by
  have hz := at_in g L k w h hk
  simp only [if_pos ho] at hz
  exact hz
theorem at_err (g : Nat) (L : List Ln) (n z : Int) (w : World) (h : TabAt w g true L) (hz : whichC (chs L) n = z) (h0 : z ≠ 0) :
    Calls Try.prog 29 #[.pointer (some ⟨g, 0, none⟩), .int .i64 n] w fun e w' => e = .returned (.tuple #[.pointer none, .int .i64 z]) ∧ w = w' := by
  have ha := at_any g L n w h
  rw [hz, if_neg h0] at ha
  exact ha

theorem isOpen_bad (v : Value) (n : Int) (w : World) (h : IsOk w v false) : Calls Try.prog 15 #[v, .int .i64 n] w fun e w' => e = .returned (.bool false) ∧ w = w' := by
  go_enter Try.func15, Try.ntmps15
  go_wp2_with fail
  refine (at_bad v n w h).mono ?_
  rintro e w1 ⟨rfl, rfl⟩
  go_wp2
  go_ret
  exact ⟨rfl, rfl⟩
theorem isOpen_any (g : Nat) (L : List Ln) (n : Int) (w : World) (h : TabAt w g true L) :
    Calls Try.prog 15 #[.pointer (some ⟨g, 0, none⟩), .int .i64 n] w fun e w' => e = .returned (.bool (decide (whichC (chs L) n = 0))) ∧ w = w' := by
  by_cases hz : whichC (chs L) n = 0
  · obtain ⟨k, hk, rfl, ho⟩ := which_zero h.2.1 hz
    rw [hz]
    go_enter Try.func15, Try.ntmps15
    go_wp2_with fail
    refine (at_zero g L k w h hk ho).mono ?_
    rintro e w1 ⟨rfl, rfl⟩
    go_wp2
    go_ret
    exact ⟨rfl, rfl⟩
  · obtain ⟨z, hzz⟩ : ∃ z, whichC (chs L) n = z := ⟨_, rfl⟩
    rw [hzz] at hz ⊢
    rw [decide_eq_false hz]
    have HZ := Lib.hid hzz
    clear hzz
    go_enter Try.func15, Try.ntmps15
    go_wp2_with fail
    refine (at_err g L n z w h HZ.out hz).mono ?_
    rintro e w1 ⟨rfl, rfl⟩
    go_wp2
    go_ret
    exact ⟨ret_bool (beq_false_of_ne hz), rfl⟩

def zeroCh : Ch := ⟨false, [], 0, 0, 0, 0⟩
def zeroLn : Ln := ⟨zeroCh, none, 0⟩
def closeC (S : List Ch) (n : Int) : List Ch × Int := if n = 0 then (S, 2) else if whichC S n = 0 then (S.set n.toNat zeroCh, 0) else (S, whichC S n)
/-- What a call leaves that answers with an error number. -/
def Did (g : Nat) (r : List Ch × Int) (w : World) (e : Ending) (w' : World) : Prop := e = .returned (.int .i64 r.2) ∧ ∃ L', TabAt w' g true L' ∧ chs L' = r.1 ∧ Only g none w w'

theorem close_bad (v : Value) (n : Int) (w : World) (h : IsOk w v false) : Calls Try.prog 16 #[v, .int .i64 n] w fun e w' => e = .returned (.int .i64 31) ∧ w = w' := by
  go_enter Try.func16, Try.ntmps16
  go_wp2_with fail
  refine (ok_any v false w h).mono ?_
  rintro e w1 ⟨rfl, rfl⟩
  go_wp2_with fail
  refine (at_bad v n w h).mono ?_
  rintro e w1 ⟨rfl, rfl⟩
  go_wp2
  go_ret
  exact ⟨rfl, rfl⟩
theorem close_any (g : Nat) (L : List Ln) (n : Int) (w : World) (h : TabAt w g true L) :
    Calls Try.prog 16 #[.pointer (some ⟨g, 0, none⟩), .int .i64 n] w (Did g (closeC (chs L) n) w) := by
  by_cases h0 : n = 0
  · subst h0
    go_enter Try.func16, Try.ntmps16
    go_wp2_with fail
    refine (ok_any _ true w (.inr ⟨g, rfl, h.made_⟩)).mono ?_
    rintro e w1 ⟨rfl, rfl⟩
    go_wp2
    go_ret
    exact ⟨rfl, L, h, rfl, Only.refl _ _ _⟩
  · by_cases hz : whichC (chs L) n = 0
    · have hr : closeC (chs L) n = ((chs L).set n.toNat zeroCh, 0) := by unfold closeC; rw [if_neg h0, if_pos hz]
      rw [hr]
      obtain ⟨k, hk, rfl, ho⟩ := which_zero h.2.1 hz
      have h4 := h.2.1
      have hk0 : k ≠ 0 := by omega
      have hk4 : k < 4 := by omega
      have c0 : w.cell? ⟨g, 1 + k * 6, none⟩ = some (.bool L[k].ch.o) := h.cell k 0 hk (by omega)
      have c1 : w.cell? ⟨g, 1 + k * 6 + 1, none⟩ = some (.slice L[k].A L[k].ch.app.length L[k].c) := h.cell k 1 hk (by omega)
      have c2 : w.cell? ⟨g, 1 + k * 6 + 2, none⟩ = some (.int .i64 L[k].ch.p) := h.cell k 2 hk (by omega)
      have c3 : w.cell? ⟨g, 1 + k * 6 + 3, none⟩ = some (.int .i64 L[k].ch.k) := h.cell k 3 hk (by omega)
      have c4 : w.cell? ⟨g, 1 + k * 6 + 4, none⟩ = some (.int .i64 L[k].ch.s) := h.cell k 4 hk (by omega)
      have c5 : w.cell? ⟨g, 1 + k * 6 + 5, none⟩ = some (.int .i64 L[k].ch.l) := h.cell k 5 hk (by omega)
      have f := h.1.free
      go_enter Try.func16, Try.ntmps16
      go_wp2_with fail
      refine (ok_any _ true w (.inr ⟨g, rfl, h.made_⟩)).mono ?_
      rintro e w1 ⟨rfl, rfl⟩
      go_wp2_with fail
      refine (at_zero g L k w h hk ho).mono ?_
      rintro e w1 ⟨rfl, rfl⟩
      go_wp2
      go_ret
      have hon := ((((((Only.refl g none w).put (1 + k * 6) (.bool false)).put (1 + k * 6 + 1) (.slice none 0 0)).put (1 + k * 6 + 2) (.int .i64 0)).put (1 + k * 6 + 3) (.int .i64 0)).put (1 + k * 6 + 4) (.int .i64 0)).put (1 + k * 6 + 5) (.int .i64 0)
      exact ⟨rfl, L.set k zeroLn, h.turned hon k zeroLn ⟨RB.nil _ _, by decide⟩ (put6 h.1 h4 hk4 zeroLn _ _ _ _ _ _ rfl), by rw [chs_set]; rfl, hon⟩
    · have hr : closeC (chs L) n = (chs L, whichC (chs L) n) := by unfold closeC; rw [if_neg h0, if_neg hz]
      rw [hr]
      obtain ⟨z, hzz⟩ : ∃ z, whichC (chs L) n = z := ⟨_, rfl⟩
      rw [hzz] at hz ⊢
      have HZ := Lib.hid hzz
      clear hzz hr
      go_enter Try.func16, Try.ntmps16
      go_wp2_with fail
      refine (ok_any _ true w (.inr ⟨g, rfl, h.made_⟩)).mono ?_
      rintro e w1 ⟨rfl, rfl⟩
      go_wp2_with fail
      refine (at_err g L n z w h HZ.out hz).mono ?_
      rintro e w1 ⟨rfl, rfl⟩
      go_wp2
      go_ret
      exact ⟨rfl, L, h, rfl, Only.refl _ _ _⟩
end Go.Proofs.Ytpbgfiaaechiaaa
