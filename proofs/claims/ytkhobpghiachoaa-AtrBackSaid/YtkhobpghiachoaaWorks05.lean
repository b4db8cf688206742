/-
  The chapter's examples: works returns true.
-/
import Derived.Test.YtkhobpghiachoaaCheck05
import Derived.Test.YtkhobpghiachoaaReq05
namespace Go.Proofs.Ytkhobpghiachoaa
open Go.RowKit Crc
set_option linter.unusedVariables false

theorem rb_convertN {P : Program} {w : World} {A : Option Addr} {xs : List UInt8} (h : RB w A xs) (n : Nat) (hn : xs.length = n) (src dst e : TypeId) (c : Nat)
    (hs : P.underlying src = some (.slice e)) (he : P.underlying e = some (.int .u8)) (hd : P.underlying dst = some .string) :
    (convert src dst (.slice A n c)).run P w = .ok (.string (strOf xs)) w := by
  subst hn
  exact h.convert src dst e c hs he hd

theorem ex1 (w : World) : Calls Try.prog 17 #[.agg #[.bool false, .slice none 0 0, .slice (some ⟨w.heap.size, 0, none⟩) 1 1, .slice none 0 0]] (w.alloc (.cells #[.int .i64 0] 3)) fun e w' => ∃ A c, e = .returned (.tuple #[.slice A 2 c, .int .i64 0]) ∧ RB w' A [59, 0] ∧ Below w.heap.size w w' := by
  have hx : outF ⟨false, none, 0, [], some ⟨w.heap.size, 0, none⟩, 1, [0], none, 0, []⟩ = [59, 0] := (by decide +kernel : outF ⟨false, none, 0, [], none, 0, [0], none, 0, []⟩ = [59, 0])
  have hc : chkF ⟨false, none, 0, [], some ⟨w.heap.size, 0, none⟩, 1, [0], none, 0, []⟩ = 0 := (by decide +kernel : chkF ⟨false, none, 0, [], none, 0, [0], none, 0, []⟩ = 0)
  have h := encE_any ⟨false, none, 0, [], some ⟨w.heap.size, 0, none⟩, 1, [0], none, 0, []⟩ (w.alloc (.cells #[.int .i64 0] 3)) ⟨RC.nil _ _, RC.made w _ _ _ rfl, RB.nil _ _, by simp⟩ (by simp) (by simp)
  rw [hx, hc] at h
  refine h.mono ?_
  rintro e w1 ⟨A, c, rfl, hr, hb⟩
  have hb0 := ((Below.refl w.heap.size w).alloc (Nat.le_refl _) (.cells #[.int .i64 0] 3))
  exact ⟨A, c, rfl, hr, hb0.trans (hb.mono hb0.size)⟩
theorem ex2 (w : World) : Calls Try.prog 17 #[.agg #[.bool false, .slice (some ⟨w.heap.size + 1, 0, none⟩) 1 1, .slice (some ⟨w.heap.size, 0, none⟩) 1 1, .slice none 0 0]] ((w.alloc (.cells #[.int .i64 1] 3)).alloc (.cells #[.int .i64 3, .int .i64 0, .int .i64 254, .int .i64 1] 47)) fun e w' => ∃ A c, e = .returned (.tuple #[.slice A 6 c, .int .i64 0]) ∧ RB w' A [59, 128, 129, 17, 254, 238] ∧ Below w.heap.size w w' := by
  have hs1 : (w.alloc (.cells #[.int .i64 1] 3)).heap.size = w.heap.size + 1 := by simp
  have hbs : RC ((w.alloc (.cells #[.int .i64 1] 3)).alloc (.cells #[.int .i64 3, .int .i64 0, .int .i64 254, .int .i64 1] 47)) (some ⟨w.heap.size + 1, 0, none⟩) (ifv [⟨3, 0, 254, 1⟩]) := by
    have h := RC.made (w.alloc (.cells #[.int .i64 1] 3)) 47 (ifv [⟨3, 0, 254, 1⟩]) #[.int .i64 3, .int .i64 0, .int .i64 254, .int .i64 1] rfl
    rw [hs1] at h
    exact h
  have hps : RC ((w.alloc (.cells #[.int .i64 1] 3)).alloc (.cells #[.int .i64 3, .int .i64 0, .int .i64 254, .int .i64 1] 47)) (some ⟨w.heap.size, 0, none⟩) (nv [1]) := (RC.made w 3 (nv [1]) #[.int .i64 1] rfl).below ((Below.refl _ _).alloc (Nat.le_refl _) _)
  have hx : outF ⟨false, some ⟨w.heap.size + 1, 0, none⟩, 1, [⟨3, 0, 254, 1⟩], some ⟨w.heap.size, 0, none⟩, 1, [1], none, 0, []⟩ = [59, 128, 129, 17, 254, 238] := (by decide +kernel : outF ⟨false, none, 0, [⟨3, 0, 254, 1⟩], none, 0, [1], none, 0, []⟩ = [59, 128, 129, 17, 254, 238])
  have hc : chkF ⟨false, some ⟨w.heap.size + 1, 0, none⟩, 1, [⟨3, 0, 254, 1⟩], some ⟨w.heap.size, 0, none⟩, 1, [1], none, 0, []⟩ = 0 := (by decide +kernel : chkF ⟨false, none, 0, [⟨3, 0, 254, 1⟩], none, 0, [1], none, 0, []⟩ = 0)
  have h := encE_any ⟨false, some ⟨w.heap.size + 1, 0, none⟩, 1, [⟨3, 0, 254, 1⟩], some ⟨w.heap.size, 0, none⟩, 1, [1], none, 0, []⟩ ((w.alloc (.cells #[.int .i64 1] 3)).alloc (.cells #[.int .i64 3, .int .i64 0, .int .i64 254, .int .i64 1] 47)) ⟨hbs, hps, RB.nil _ _, by simp⟩ (by simp) (by simp)
  rw [hx, hc] at h
  refine h.mono ?_
  rintro e w1 ⟨A, c, rfl, hr, hb⟩
  have hb0 := (((Below.refl w.heap.size w).alloc (Nat.le_refl _) (.cells #[.int .i64 1] 3)).alloc (by simp) (.cells #[.int .i64 3, .int .i64 0, .int .i64 254, .int .i64 1] 47))
  exact ⟨A, c, rfl, hr, hb0.trans (hb.mono hb0.size)⟩
theorem ex3 (w : World) : Calls Try.prog 17 #[.agg #[.bool false, .slice none 0 0, .slice (some ⟨w.heap.size, 0, none⟩) 2 2, .slice none 0 0]] (w.alloc (.cells #[.int .i64 0, .int .i64 1] 3)) fun e w' => ∃ A c, e = .returned (.tuple #[.slice A 5 c, .int .i64 0]) ∧ RB w' A [59, 128, 128, 1, 1] ∧ Below w.heap.size w w' := by
  have hx : outF ⟨false, none, 0, [], some ⟨w.heap.size, 0, none⟩, 2, [0, 1], none, 0, []⟩ = [59, 128, 128, 1, 1] := (by decide +kernel : outF ⟨false, none, 0, [], none, 0, [0, 1], none, 0, []⟩ = [59, 128, 128, 1, 1])
  have hc : chkF ⟨false, none, 0, [], some ⟨w.heap.size, 0, none⟩, 2, [0, 1], none, 0, []⟩ = 0 := (by decide +kernel : chkF ⟨false, none, 0, [], none, 0, [0, 1], none, 0, []⟩ = 0)
  have h := encE_any ⟨false, none, 0, [], some ⟨w.heap.size, 0, none⟩, 2, [0, 1], none, 0, []⟩ (w.alloc (.cells #[.int .i64 0, .int .i64 1] 3)) ⟨RC.nil _ _, RC.made w _ _ _ rfl, RB.nil _ _, by simp⟩ (by simp) (by simp)
  rw [hx, hc] at h
  refine h.mono ?_
  rintro e w1 ⟨A, c, rfl, hr, hb⟩
  have hb0 := ((Below.refl w.heap.size w).alloc (Nat.le_refl _) (.cells #[.int .i64 0, .int .i64 1] 3))
  exact ⟨A, c, rfl, hr, hb0.trans (hb.mono hb0.size)⟩

theorem works_any (w : World) : Calls Try.prog 12 #[] w fun e w' => e = .returned (.bool true) ∧ Below w.heap.size w w' := by
  go_enter Try.func12, Try.ntmps12
  go_wp2_with fail
  refine (ex1 w).mono ?_
  rintro e w1 ⟨A1, c1, rfl, hr1, hb1⟩
  go_wp2_with fail
  refine (ex2 w1).mono ?_
  rintro e w2 ⟨A2, c2, rfl, hr2, hb2⟩
  go_wp2_with fail
  refine (ex3 w2).mono ?_
  rintro e w3 ⟨A3, c3, rfl, hr3, hb3⟩
  go_wp2_with fail
  refine (request_any 1 w3).mono ?_
  rw [show reqB 1 = [255, 1, 254] from rfl, show reqE 1 = 0 from rfl]
  rintro e w4 ⟨A4, c4, rfl, hr4, hb4⟩
  have hb13 := hb2.trans (hb3.mono hb2.size)
  have hb14 := hb13.trans (hb4.mono hb13.size)
  have hb24 := hb3.trans (hb4.mono hb3.size)
  have q1 := hr1.below hb14
  have q2 := hr2.below hb24
  have q3 := hr3.below hb4
  have hbw := hb1.trans (hb14.mono hb1.size)
  have x1 := rb_convertN (P := Try.prog) q1 2 rfl 22 9 5 c1 Try.underlying22 Try.underlying5 Try.underlying9
  have y1 : (strOf [59, 0]).toList = [59, 0] := strOf_list _
  have z1 : (⟨#[59, 0]⟩ : ByteArray).toList = [59, 0] := strOf_list [59, 0]
  have x2 := rb_convertN (P := Try.prog) q2 6 rfl 22 9 5 c2 Try.underlying22 Try.underlying5 Try.underlying9
  have y2 : (strOf [59, 128, 129, 17, 254, 238]).toList = [59, 128, 129, 17, 254, 238] := strOf_list _
  have z2 : (⟨#[59, 128, 129, 17, 254, 238]⟩ : ByteArray).toList = [59, 128, 129, 17, 254, 238] := strOf_list [59, 128, 129, 17, 254, 238]
  have x3 := rb_convertN (P := Try.prog) q3 5 rfl 22 9 5 c3 Try.underlying22 Try.underlying5 Try.underlying9
  have y3 : (strOf [59, 128, 128, 1, 1]).toList = [59, 128, 128, 1, 1] := strOf_list _
  have z3 : (⟨#[59, 128, 128, 1, 1]⟩ : ByteArray).toList = [59, 128, 128, 1, 1] := strOf_list [59, 128, 128, 1, 1]
  have x4 := rb_convertN (P := Try.prog) hr4 3 rfl 22 9 5 c4 Try.underlying22 Try.underlying5 Try.underlying9
  have y4 : (strOf [255, 1, 254]).toList = [255, 1, 254] := strOf_list _
  have z4 : (⟨#[255, 1, 254]⟩ : ByteArray).toList = [255, 1, 254] := strOf_list [255, 1, 254]
  have l4 : ([255, 1, 254] : List UInt8).length = 3 := rfl
  go_wp2
  go_ret
  exact ⟨rfl, hbw⟩
end Go.Proofs.Ytkhobpghiachoaa
