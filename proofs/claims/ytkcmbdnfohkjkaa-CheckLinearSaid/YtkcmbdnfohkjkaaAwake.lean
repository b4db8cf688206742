/-
  The chapter's example: awake returns true.
-/
import Derived.Test.YtkcmbdnfohkjkaaSum
namespace Go.Proofs.Ytkcmbdnfohkjkaa
open Go.RowKit Crc
set_option linter.unusedVariables false

def nine : List UInt8 := [49, 50, 51, 52, 53, 54, 55, 56, 57]
theorem nine0 : sumS 0 nine = [49] := by decide +kernel
theorem nine1 : sumS 1 nine = [110, 144] := by decide +kernel

theorem awake_any (w : World) : Calls Try.prog 11 #[] w fun e w' => e = .returned (.bool true) ∧ Below w.heap.size w w' := by
  go_enter Try.func11, Try.ntmps11
  go_wp2_with fail
  have hr0 := RB.made w 5 #[.int .u8 49, .int .u8 50, .int .u8 51, .int .u8 52, .int .u8 53, .int .u8 54, .int .u8 55, .int .u8 56, .int .u8 57] nine rfl
  have hb0 := (Below.refl w.heap.size w).alloc (Nat.le_refl _) (.cells #[.int .u8 49, .int .u8 50, .int .u8 51, .int .u8 52, .int .u8 53, .int .u8 54, .int .u8 55, .int .u8 56, .int .u8 57] 5)
  refine (sum_any 0 (some ⟨w.heap.size, 0, none⟩) 9 nine _ (by decide) hr0).mono ?_
  rw [nine0]
  rintro e w1 ⟨A1, c1, rfl, hc1, hr1, hb1⟩
  have hb01 := hb0.trans (hb1.mono (by simp))
  go_wp2_with fail
  refine (sum_any 1 (some ⟨w.heap.size, 0, none⟩) 9 nine _ (by decide) (hr0.below hb1)).mono ?_
  rw [nine1]
  rintro e w2 ⟨A2, c2, rfl, hc2, hr2, hb2⟩
  obtain ⟨b1, o1, rfl, hx1⟩ := (hr1.below hb2).at_ (by decide)
  obtain ⟨b2, o2, rfl, hx2⟩ := hr2.at_ (by decide)
  have y1 : w2.cell? ⟨b1, o1, none⟩ = some (.int .u8 49) := hx1 0 (by decide)
  have y2 : w2.cell? ⟨b2, o2, none⟩ = some (.int .u8 110) := hx2 0 (by decide)
  have y3 : w2.cell? ⟨b2, o2 + 1, none⟩ = some (.int .u8 144) := hx2 1 (by decide)
  have hb := hb01.trans (hb2.mono hb01.size)
  clear hx1 hx2 hr0 hr1 hr2 hb0 hb1 hb2 hb01
  go_wp2
  go_ret
  exact ⟨rfl, hb⟩
end Go.Proofs.Ytkcmbdnfohkjkaa
