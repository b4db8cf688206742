/-
  A request for a protocol: the program's bytes and the reference's.
-/
import Derived.Test.YtkhobpghiachoaaSumL
import Derived.Test.YtkhobpghiachoaaJoin
namespace Go.Proofs.Ytkhobpghiachoaa
open Go.RowKit Crc
set_option linter.unusedVariables false

def reqB (p : Int) : List UInt8 := if p = 0 then [255, 0, 255] else if p = 1 then [255, 1, 254] else []
theorem two_partsR {w1 : World} {A A1 : Option Addr} {c c1 : Nat} {xs ys : List UInt8} {t : TypeId} (h : RB w1 A xs) (h1 : RB w1 A1 ys) :
    ∀ j, (hj : j < [Part.mk A c xs, Part.mk A1 c1 ys].length) → (w1.alloc (.cells #[.slice A xs.length c, .slice A1 ys.length c1] t)).cell? ⟨w1.heap.size, j, none⟩ =
      some (.slice [Part.mk A c xs, Part.mk A1 c1 ys][j].A [Part.mk A c xs, Part.mk A1 c1 ys][j].xs.length [Part.mk A c xs, Part.mk A1 c1 ys][j].c) ∧
      RB (w1.alloc (.cells #[.slice A xs.length c, .slice A1 ys.length c1] t)) [Part.mk A c xs, Part.mk A1 c1 ys][j].A [Part.mk A c xs, Part.mk A1 c1 ys][j].xs := by
  have hb := (Below.refl w1.heap.size w1).alloc (Nat.le_refl _) (.cells #[.slice A xs.length c, .slice A1 ys.length c1] t)
  intro j hj
  rw [World.cell?_alloc_at _ _ _ _ rfl]
  match j, hj with
  | 0, _ => exact ⟨rfl, h.below hb⟩
  | 1, _ => exact ⟨rfl, h1.below hb⟩

theorem req_go (p : Int) (b : UInt8) (hp : IntKind.u8.wrap p = (b.toNat : Int)) (w : World) :
    Calls Try.prog 40 #[.int .i64 p] w fun e w' => ∃ A c, e = .returned (.slice A 3 c) ∧ RB w' A [255, b, lrc [255, b]] ∧ Below w.heap.size w w' := by
  have hb0 := (Below.refl w.heap.size w).alloc (Nat.le_refl _) (.cells #[.int .u8 255, .int .u8 (b.toNat : Int)] 5)
  have hr0 : RB (w.alloc (.cells #[.int .u8 255, .int .u8 (b.toNat : Int)] 5)) (some ⟨w.heap.size, 0, none⟩) [255, b] := RB.made w _ _ _ rfl
  go_enter Try.func40, Try.ntmps40
  go_wp2_with fail
  refine (sumL_any (some ⟨w.heap.size, 0, none⟩) 2 [255, b] _ (by simp) hr0).mono ?_
  rintro e w1 ⟨A1, rfl, hr1, hb1⟩
  have hr0' := hr0.below hb1
  have hb1' := hb0.trans (hb1.mono hb0.size)
  go_wp2_with fail
  have hj := join_any w1.heap.size 2 [⟨some ⟨w.heap.size, 0, none⟩, 2, [255, b]⟩, ⟨A1, 1, [lrc [255, b]]⟩] (w1.alloc (.cells #[.slice (some ⟨w.heap.size, 0, none⟩) 2 2, .slice A1 1 1] 22)) (by simp) (by simp [joinS]) (two_partsR hr0' hr1)
  refine hj.mono ?_
  clear hj
  rintro e w2 ⟨A2, c2, rfl, hc2, hr2, hb2⟩
  have hr3 : RB w2 A2 [255, b, lrc [255, b]] := hr2
  go_wp2
  go_ret
  exact ⟨A2, c2, rfl, hr3, hb1'.trans (((Below.refl _ _).alloc hb1'.size _).trans (hb2.mono (by simp; exact Nat.le_succ_of_le hb1'.size)))⟩
theorem req_any (p : Int) (hp : p = 0 ∨ p = 1) (w : World) :
    Calls Try.prog 40 #[.int .i64 p] w fun e w' => ∃ A c, e = .returned (.slice A (reqB p).length c) ∧ RB w' A (reqB p) ∧ Below w.heap.size w w' := by
  rcases hp with rfl | rfl
  · exact req_go 0 0 rfl w
  · exact req_go 1 1 rfl w
def reqE (p : Int) : Int := if p = 0 ∨ p = 1 then 0 else 1
theorem request_any (p : Int) (w : World) :
    Calls Try.prog 20 #[.int .i64 p] w fun e w' => ∃ A c, e = .returned (.tuple #[.slice A (reqB p).length c, .int .i64 (reqE p)]) ∧ RB w' A (reqB p) ∧ Below w.heap.size w w' := by
  by_cases h : p = 0 ∨ p = 1
  · have hq := req_any p h
    have HE : Hid (reqE p = 0) := by show _ = _; unfold reqE; rw [if_pos h]
    rw [HE.out]
    rcases h with rfl | rfl
    all_goals
      go_enter Try.func20, Try.ntmps20
      go_wp2_with fail
      refine (hq w).mono ?_
      clear hq
      rintro e w1 ⟨A1, c1, rfl, hr1, hb1⟩
      go_wp2
      go_ret2
      exact ⟨A1, c1, rfl, hr1, hb1⟩
  · have HE : Hid (reqE p = 1) := by show _ = _; unfold reqE; rw [if_neg h]
    have HB : reqB p = [] := by unfold reqB; rw [if_neg (fun e => h (.inl e)), if_neg (fun e => h (.inr e))]
    have h0 : (p != 0) = true := by simp; exact fun e => h (.inl e)
    have h1 : (p != 1) = true := by simp; exact fun e => h (.inr e)
    rw [HE.out, HB]
    go_enter Try.func20, Try.ntmps20
    go_wp2
    go_ret2
    exact ⟨none, 0, rfl, RB.nil _ _, Below.refl _ _⟩
theorem rrequest_any (p : Int) (w : World) :
    Calls Try.prog 21 #[.int .i64 p] w fun e w' => ∃ A c, e = .returned (.tuple #[.slice A (reqB p).length c, .int .i64 (reqE p)]) ∧ RB w' A (reqB p) ∧ Below w.heap.size w w' := by
  by_cases h : p = 0 ∨ p = 1
  · have HE : Hid (reqE p = 0) := by show _ = _; unfold reqE; rw [if_pos h]
    rw [HE.out]
    rcases h with rfl | rfl
    · have hr := RB.made w 5 #[.int .u8 255, .int .u8 0, .int .u8 255] [255, 0, 255] rfl
      have hb := (Below.refl w.heap.size w).alloc (Nat.le_refl _) (.cells #[.int .u8 255, .int .u8 0, .int .u8 255] 5)
      go_enter Try.func21, Try.ntmps21
      go_wp2
      go_ret2
      exact ⟨_, _, rfl, hr, hb⟩
    · have hr := RB.made w 5 #[.int .u8 255, .int .u8 1, .int .u8 254] [255, 1, 254] rfl
      have hb := (Below.refl w.heap.size w).alloc (Nat.le_refl _) (.cells #[.int .u8 255, .int .u8 1, .int .u8 254] 5)
      go_enter Try.func21, Try.ntmps21
      go_wp2
      go_ret2
      exact ⟨_, _, rfl, hr, hb⟩
  · have HE : Hid (reqE p = 1) := by show _ = _; unfold reqE; rw [if_neg h]
    have HB : reqB p = [] := by unfold reqB; rw [if_neg (fun e => h (.inl e)), if_neg (fun e => h (.inr e))]
    have h0 : (p != 0) = true := by simp; exact fun e => h (.inl e)
    have h1 : (p != 1) = true := by simp; exact fun e => h (.inr e)
    rw [HE.out, HB]
    go_enter Try.func21, Try.ntmps21
    go_wp2
    go_ret2
    exact ⟨none, 0, rfl, RB.nil _ _, Below.refl _ _⟩
end Go.Proofs.Ytkhobpghiachoaa
