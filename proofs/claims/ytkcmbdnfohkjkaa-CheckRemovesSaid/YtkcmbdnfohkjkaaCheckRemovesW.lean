/-
  The walk of CheckRemoves.
-/
import Derived.Test.YtkcmbdnfohkjkaaAwake
import Derived.Test.YtkcmbdnfohkjkaaRRem
namespace Go.Proofs.Ytkcmbdnfohkjkaa
open Go.RowKit Crc
set_option linter.unusedVariables false

theorem checkRemoves_walk (w : World) (kind : Int) (wf : (Lit.int .i64 kind).wf = true) (A : Option Addr) (c : Nat) (xs : List UInt8) (hc : xs.length ≤ c) (hr : RB w A xs) :
    Calls Try.prog 6 #[.int .i64 kind, .slice A xs.length c] w fun e w' => e = .returned (.bool true) ∧ Below w.heap.size w w' := by
  by_cases hl : 400 < xs.length
  · go_enter Try.func6, Try.ntmps6
    go_wp2
    go_ret
    exact ⟨rfl, Below.refl _ _⟩
  · have hs := remB_le kind xs
    go_enter Try.func6, Try.ntmps6
    go_wp2_with fail
    refine (remove_any kind A c xs w (by omega) hc hr).mono ?_
    rintro e w1 ⟨A1, c1, rfl, hc1, hr1, hb1⟩
    go_wp2_with fail
    refine (rremove_any kind A c xs w1 (by omega) hc (hr.below hb1)).mono ?_
    rintro e w2 ⟨A2, c2, rfl, hc2, hr2, hb2⟩
    go_wp2_with fail
    refine (same_any A1 A2 c1 c2 _ _ w2 (by omega) (by omega) (hr1.below hb2) hr2).mono ?_
    rintro e w3 ⟨rfl, n, rfl⟩
    have he : decide (remB kind xs = remB kind xs) = true := by simp
    rw [he]
    have hb := below_drewN (hb1.trans (hb2.mono hb1.size)) n
    go_wp2_with fail
    refine (awake_any _).mono ?_
    rintro e w3 ⟨rfl, hb3⟩
    go_wp2
    go_ret
    exact ⟨rfl, hb.trans (hb3.mono hb.size)⟩
end Go.Proofs.Ytkcmbdnfohkjkaa
