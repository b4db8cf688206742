/-
  AtrAccepts: the walk.
-/
import Derived.Test.YtkhobpghiachoaaWorks05
import Derived.Test.YtkhobpghiachoaaRAcc05
namespace Go.Proofs.Ytkhobpghiachoaa
open Go.RowKit Crc
set_option linter.unusedVariables false

set_option maxHeartbeats 2000000 in
theorem atrAccepts_walk (w : World) (A : Option Addr) (c : Nat) (r : List UInt8) (hc : r.length ≤ c) (hr : RB w A r) (B : Option Addr) (d : Nat) (q : List UInt8) (hc2 : q.length ≤ d) (hq : RB w B q) :
    Calls Try.prog 10 #[.slice A r.length c, .slice B q.length d] w fun e w' => e = .returned (.bool true) ∧ Below w.heap.size w w' := by
  by_cases h1 : (100 : Int) < (r.length : Int)
  · go_enter Try.func10, Try.ntmps10
    go_wp2_with fail
    refine (works_any w).mono ?_
    rintro e w2 ⟨rfl, hb2⟩
    go_wp2
    go_ret
    exact ⟨rfl, hb2⟩
  · have h1d := decide_eq_false h1
    by_cases h2 : (100 : Int) < (q.length : Int)
    · go_enter Try.func10, Try.ntmps10
      go_wp2_with fail
      refine (works_any w).mono ?_
      rintro e w2 ⟨rfl, hb2⟩
      go_wp2
      go_ret
      exact ⟨rfl, hb2⟩
    · have h2d := decide_eq_false h2
      have hQ := accept_go A c r B d q w (by omega) hc hr (by omega) hc2 hq
      have hR := fun w' (h : Below w.heap.size w w') => raccept_go A c r B d q w' (by omega) hc (hr.below h) (by omega) hc2 (hq.below h)
      go_enter Try.func10, Try.ntmps10
      go_wp2_with fail
      refine hQ.mono ?_
      rintro e w1 ⟨rfl, hb1⟩
      go_wp2_with fail
      refine (hR w1 hb1).mono ?_
      rintro e w2 ⟨rfl, hb2⟩
      have hb2' := hb1.trans (hb2.mono hb1.size)
      go_wp2_with fail
      refine (works_any w2).mono ?_
      rintro e w3 ⟨rfl, hb3⟩
      go_wp2
      go_ret
      exact ⟨rfl, hb2'.trans (hb3.mono hb2'.size)⟩
end Go.Proofs.Ytkhobpghiachoaa
