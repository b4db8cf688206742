/-
  The check value of one byte: Sum of the kind 0.
-/
import Derived.Test.YtkhobpghiachoaaApp
import Derived.Test.YtkhobpghiachoaaLrc
namespace Go.Proofs.Ytkhobpghiachoaa
open Go.RowKit Crc
set_option linter.unusedVariables false

theorem sumL_any (A : Option Addr) (c : Nat) (xs : List UInt8) (w : World) (hs : xs.length ≤ 140737488351232) (hr : RB w A xs) :
    Calls Try.prog 51 #[.int .i64 0, .slice A xs.length c] w fun e w' => ∃ A' , e = .returned (.tuple #[.slice A' 1 1, .int .i64 0]) ∧ RB w' A' [lrc xs] ∧ Below w.heap.size w w' := by
  have hb := (Below.refl w.heap.size w).alloc (Nat.le_refl _) (.cells #[.int .u8 ((lrc xs).toNat : Int)] 5)
  have hr2 := RB.made w 5 #[.int .u8 ((lrc xs).toNat : Int)] [lrc xs] rfl
  go_enter Try.func51, Try.ntmps51
  go_wp2_with fail
  refine (lrc_any A c xs w hs hr).mono ?_
  rintro e w1 ⟨rfl, rfl⟩
  go_wp2
  go_ret2
  exact ⟨_, rfl, hr2, hb⟩
end Go.Proofs.Ytkhobpghiachoaa
