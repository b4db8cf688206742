/-
  Append and Remove of the program and of the reference.
-/
import Derived.Test.YtkcmbdnfohkjkaaSum
import Derived.Test.YtkcmbdnfohkjkaaJoin
import Derived.Test.YtkcmbdnfohkjkaaCmp
namespace Go.Proofs.Ytkcmbdnfohkjkaa
open Go.RowKit Crc
set_option linter.unusedVariables false

def appS (kind : Int) (xs : List UInt8) : List UInt8 := if kind = 0 ∨ kind = 1 then xs ++ sumS kind xs else []
theorem appS_else {kind : Int} (h0 : (kind == 0) = false) (h1 : (kind == 1) = false) (xs : List UInt8) : appS kind xs = [] := by
  unfold appS; rw [if_neg (by rintro (h | h); exact beq_eq_false_iff_ne.1 h0 h; exact beq_eq_false_iff_ne.1 h1 h)]

theorem two_parts {w1 : World} {A A1 : Option Addr} {c c1 : Nat} {xs ys : List UInt8} {t : TypeId} (h : RB w1 A xs) (h1 : RB w1 A1 ys) :
    ∀ j, (hj : j < [Part.mk A c xs, Part.mk A1 c1 ys].length) → (w1.alloc (.cells #[.slice A xs.length c, .slice A1 ys.length c1] t)).cell? ⟨w1.heap.size, j, none⟩ =
      some (.slice [Part.mk A c xs, Part.mk A1 c1 ys][j].A [Part.mk A c xs, Part.mk A1 c1 ys][j].xs.length [Part.mk A c xs, Part.mk A1 c1 ys][j].c) ∧
      RB (w1.alloc (.cells #[.slice A xs.length c, .slice A1 ys.length c1] t)) [Part.mk A c xs, Part.mk A1 c1 ys][j].A [Part.mk A c xs, Part.mk A1 c1 ys][j].xs := by
  have hb := (Below.refl w1.heap.size w1).alloc (Nat.le_refl _) (.cells #[.slice A xs.length c, .slice A1 ys.length c1] t)
  intro j hj
  rw [World.cell?_alloc_at _ _ _ _ rfl]
  match j, hj with
  | 0, _ => exact ⟨rfl, h.below hb⟩
  | 1, _ => exact ⟨rfl, h1.below hb⟩

theorem sumE_ok {kind : Int} (h : kind = 0 ∨ kind = 1) : sumE kind = 0 := by rcases h with rfl | rfl <;> rfl
theorem appS_ok {kind : Int} (h : kind = 0 ∨ kind = 1) (xs : List UInt8) : appS kind xs = xs ++ sumS kind xs := by unfold appS; rw [if_pos h]
theorem joinS_two (A A1 : Option Addr) (c c1 : Nat) (xs ys : List UInt8) : joinS [Part.mk A c xs, Part.mk A1 c1 ys] = xs ++ ys := by simp [joinS]
theorem joinS_one (A : Option Addr) (c : Nat) (xs : List UInt8) : joinS [Part.mk A c xs] = xs := by simp [joinS]

theorem append_ok (kind : Int) (hk : kind = 0 ∨ kind = 1) (A : Option Addr) (c : Nat) (xs : List UInt8) (w : World) (hs : xs.length ≤ 65536) (hr : RB w A xs) :
    Calls Try.prog 16 #[.int .i64 kind, .slice A xs.length c] w fun e w' => GivesE w w' e (xs ++ sumS kind xs) 0 := by
  have HK := Lib.hid (sumE_ok hk)
  have hl := sumS_le kind xs
  clear hk
  go_enter Try.func16, Try.ntmps16
  go_wp2_with fail
  refine (sum_any kind A c xs w (by omega) hr).mono ?_
  rintro e w1 ⟨A1, c1, rfl, hc1, hr1, hb1⟩
  rw [HK.out]
  have hr' := hr.below hb1
  go_wp2_with fail
  have hj := join_any w1.heap.size 2 [⟨A, c, xs⟩, ⟨A1, c1, sumS kind xs⟩] (w1.alloc (.cells #[.slice A xs.length c, .slice A1 (sumS kind xs).length c1] 22)) (by simp) (by simp [joinS]; omega) (two_parts hr' hr1)
  refine hj.mono ?_
  clear hj
  rw [joinS_two]
  rintro e w2 ⟨A2, c2, rfl, hc2, hr2, hb2⟩
  go_wp2
  go_ret2
  exact ⟨A2, c2, ret_slice (by simp), hc2, hr2, hb1.trans (((Below.refl _ _).alloc hb1.size _).trans (hb2.mono (by simp; exact Nat.le_succ_of_le hb1.size)))⟩

theorem append_bad (kind : Int) (h0 : (kind == 0) = false) (h1 : (kind == 1) = false) (A : Option Addr) (c : Nat) (xs : List UInt8) (w : World) (hs : xs.length ≤ 65536) (hr : RB w A xs) :
    Calls Try.prog 16 #[.int .i64 kind, .slice A xs.length c] w fun e w' => GivesE w w' e [] 1 := by
  have HK := Lib.hid (sumE_else h0 h1)
  clear h0 h1
  go_enter Try.func16, Try.ntmps16
  go_wp2_with fail
  refine (sum_any kind A c xs w (by omega) hr).mono ?_
  rintro e w1 ⟨A1, c1, rfl, hc1, hr1, hb1⟩
  rw [HK.out]
  go_wp2
  go_ret2
  exact gives_none hb1 rfl rfl

theorem append_any (kind : Int) (A : Option Addr) (c : Nat) (xs : List UInt8) (w : World) (hs : xs.length ≤ 65536) (hr : RB w A xs) :
    Calls Try.prog 16 #[.int .i64 kind, .slice A xs.length c] w fun e w' => GivesE w w' e (appS kind xs) (sumE kind) := by
  rcases kinds kind with h | h | ⟨h0, h1⟩
  · rw [appS_ok (.inl h), sumE_ok (.inl h)]; exact append_ok kind (.inl h) A c xs w hs hr
  · rw [appS_ok (.inr h), sumE_ok (.inr h)]; exact append_ok kind (.inr h) A c xs w hs hr
  · rw [appS_else h0 h1, sumE_else h0 h1]; exact append_bad kind h0 h1 A c xs w hs hr

theorem rappend_ok (kind : Int) (hk : kind = 0 ∨ kind = 1) (A : Option Addr) (c : Nat) (xs : List UInt8) (w : World) (hs : xs.length ≤ 65536) (hr : RB w A xs) :
    Calls Try.prog 17 #[.int .i64 kind, .slice A xs.length c] w fun e w' => GivesE w w' e (xs ++ sumS kind xs) 0 := by
  have HK := Lib.hid (sumE_ok hk)
  have hl := sumS_le kind xs
  have hB := bytesTried
  clear hk
  go_enter Try.func17, Try.ntmps17
  go_wp2_with fail
  refine (rsum_any kind A c xs w (by omega) hr).mono ?_
  rintro e w1 ⟨A1, c1, rfl, hc1, hr1, hb1⟩
  rw [HK.out]
  have hr' := hr.below hb1
  go_wp2_with (first
    | (at_builtin; refine wpList_append_bytes rfl hB (.tmp 18) (.tmp 19) rfl rfl rfl (Own.empty _ w1 w1.heap.size) hr' (by simp; omega) (Nat.le_refl _) ?_; intro v2 w2 hown2 hb2; rw [List.nil_append] at hown2; have hr2 := hr1.below hb2)
    | (at_builtin; refine wpList_append_bytes rfl hB (.tmp 21) (.tmp 22) rfl rfl rfl hown2 hr2 (by omega) hb2.size ?_; intro v3 w3 hown3 hb3))
  obtain ⟨A3, c3, rfl, hc3, hr3⟩ := hown3.reads
  go_ret2
  exact ⟨A3, c3, rfl, hc3, hr3, hb1.trans ((hb2.trans hb3).mono hb1.size)⟩

theorem rappend_bad (kind : Int) (h0 : (kind == 0) = false) (h1 : (kind == 1) = false) (A : Option Addr) (c : Nat) (xs : List UInt8) (w : World) (hs : xs.length ≤ 65536) (hr : RB w A xs) :
    Calls Try.prog 17 #[.int .i64 kind, .slice A xs.length c] w fun e w' => GivesE w w' e [] 1 := by
  have HK := Lib.hid (sumE_else h0 h1)
  clear h0 h1
  go_enter Try.func17, Try.ntmps17
  go_wp2_with fail
  refine (rsum_any kind A c xs w (by omega) hr).mono ?_
  rintro e w1 ⟨A1, c1, rfl, hc1, hr1, hb1⟩
  rw [HK.out]
  go_wp2
  go_ret2
  exact gives_none hb1 rfl rfl

theorem rappend_any (kind : Int) (A : Option Addr) (c : Nat) (xs : List UInt8) (w : World) (hs : xs.length ≤ 65536) (hr : RB w A xs) :
    Calls Try.prog 17 #[.int .i64 kind, .slice A xs.length c] w fun e w' => GivesE w w' e (appS kind xs) (sumE kind) := by
  rcases kinds kind with h | h | ⟨h0, h1⟩
  · rw [appS_ok (.inl h), sumE_ok (.inl h)]; exact rappend_ok kind (.inl h) A c xs w hs hr
  · rw [appS_ok (.inr h), sumE_ok (.inr h)]; exact rappend_ok kind (.inr h) A c xs w hs hr
  · rw [appS_else h0 h1, sumE_else h0 h1]; exact rappend_bad kind h0 h1 A c xs w hs hr
end Go.Proofs.Ytkcmbdnfohkjkaa
