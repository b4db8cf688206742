/-
  Comparing two strings of bytes: bytes.Equal.
-/
import Derived.Test.YtkhobpghiachoaaWords
import Derived.Deep.QuietTactic
import Derived.BigQuiet
import Derived.Deep.Draws
namespace Go.Proofs.Ytkhobpghiachoaa
open Go.RowKit

theorem equal_any (A B : Option Addr) (c d : Nat) (xs ys : List UInt8) (w : World) (hr : RB w A xs) (hq : RB w B ys) :
    Calls Try.prog 33 #[.slice A xs.length c, .slice B ys.length d] w fun e w' => e = .returned (.bool (decide (xs = ys))) ∧ w = w' := by
  go_enter Try.func33, Try.ntmps33
  have h1 := hr.convert (P := Try.prog) 22 9 5 c Try.underlying22 Try.underlying5 Try.underlying9
  have h2 := hq.convert (P := Try.prog) 22 9 5 d Try.underlying22 Try.underlying5 Try.underlying9
  go_wp2
  go_ret
  refine ⟨ret_bool ?_, rfl⟩
  rw [strOf_list, strOf_list, Bool.eq_iff_iff]
  simp
end Go.Proofs.Ytkhobpghiachoaa
