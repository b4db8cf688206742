/-
  AtrRequests: the walk.
-/
import Derived.Test.YtkhobpghiachoaaWorks05
namespace Go.Proofs.Ytkhobpghiachoaa
open Go.RowKit Crc
set_option linter.unusedVariables false

theorem atrRequests_walk (w : World) (p : Int) (hp : (Lit.int .i64 p).wf = true) :
    Calls Try.prog 6 #[.int .i64 p] w fun e w' => e = .returned (.bool true) ∧ Below w.heap.size w w' := by
  go_enter Try.func6, Try.ntmps6
  go_wp2_with fail
  refine (request_any p w).mono ?_
  rintro e w1 ⟨A1, c1, rfl, hr1, hb1⟩
  go_wp2_with fail
  refine (rrequest_any p w1).mono ?_
  rintro e w2 ⟨A2, c2, rfl, hr2, hb2⟩
  have q1 := hr1.below hb2
  have x1 := q1.convert (P := Try.prog) 22 9 5 c1 Try.underlying22 Try.underlying5 Try.underlying9
  have x2 := hr2.convert (P := Try.prog) 22 9 5 c2 Try.underlying22 Try.underlying5 Try.underlying9
  have hbw := hb1.trans (hb2.mono hb1.size)
  go_wp2_with fail
  refine (works_any w2).mono ?_
  rintro e w3 ⟨rfl, hb3⟩
  go_wp2
  go_ret
  exact ⟨rfl, hbw.trans (hb3.mono hbw.size)⟩
end Go.Proofs.Ytkhobpghiachoaa
