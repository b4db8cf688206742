/-
  Remove of the program and of the reference.
-/
import Derived.Test.YtkcmbdnfohkjkaaAR
namespace Go.Proofs.Ytkcmbdnfohkjkaa
open Go.RowKit Crc
set_option linter.unusedVariables false

/-- What Remove returns of at least as many bytes as the check value has. -/
def remS (kind : Int) (n : Nat) (xs : List UInt8) : List UInt8 :=
  if sumS kind (xs.take (xs.length - n)) = xs.drop (xs.length - n) then xs.take (xs.length - n) else []
def remE (kind : Int) (n : Nat) (xs : List UInt8) : Int :=
  if sumS kind (xs.take (xs.length - n)) = xs.drop (xs.length - n) then 0 else 6

theorem one_part {w1 : World} {A : Option Addr} {c m : Nat} {xs : List UInt8} {t : TypeId} (h : RB w1 A xs) (hm : xs.length = m) :
    ∀ j, (hj : j < [Part.mk A c xs].length) → (w1.alloc (.cells #[.slice A m c] t)).cell? ⟨w1.heap.size, j, none⟩ =
      some (.slice [Part.mk A c xs][j].A [Part.mk A c xs][j].xs.length [Part.mk A c xs][j].c) ∧
      RB (w1.alloc (.cells #[.slice A m c] t)) [Part.mk A c xs][j].A [Part.mk A c xs][j].xs := by
  subst hm
  have hb := (Below.refl w1.heap.size w1).alloc (Nat.le_refl _) (.cells #[.slice A xs.length c] t)
  intro j hj
  rw [World.cell?_alloc_at _ _ _ _ rfl]
  match j, hj with
  | 0, _ => exact ⟨rfl, h.below hb⟩

theorem remove_long (kind : Int) (n : Nat) (hk : sizeS kind = n) (hn : 0 < n) (A : Option Addr) (c : Nat) (xs : List UInt8) (w : World) (hs : xs.length ≤ 65536) (hc : xs.length ≤ c) (hr : RB w A xs) (hl : n ≤ xs.length) :
    Calls Try.prog 18 #[.int .i64 kind, .slice A xs.length c] w fun e w' => GivesE w w' e (remS kind n xs) (remE kind n xs) := by
  obtain ⟨m, hm⟩ : ∃ m : Nat, m + n = xs.length := ⟨xs.length - n, by omega⟩
  have hat : (xs.length : Int) - (n : Int) = (m : Int) := by omega
  have HK := Lib.hid hk
  have hmn : xs.length - n = m := by omega
  have htl : (xs.take m).length = m := by simp; omega
  have hdl : (xs.drop m).length = xs.length - m := by simp
  have hS : remS kind n xs = if sumS kind (xs.take m) = xs.drop m then xs.take m else [] := by unfold remS; rw [hmn]
  have hE : remE kind n xs = if sumS kind (xs.take m) = xs.drop m then 0 else 6 := by unfold remE; rw [hmn]
  have HS := Lib.hid hS
  have HE := Lib.hid hE
  have HT := Lib.hid htl
  have HD := Lib.hid hdl
  have hn0 : ((n : Int) == 0) = false := by rw [beq_eq_false_iff_ne]; omega
  clear hk hmn htl hdl hS hE
  go_enter Try.func18, Try.ntmps18
  go_wp2_with fail
  refine (size_any kind w).mono ?_
  rintro e w1 ⟨rfl, rfl⟩
  rw [HK.out]
  go_wp2_with fail
  have hsum := sum_any kind A c (xs.take m) w (by rw [HT.out]; omega) (hr.take m)
  rw [HT.out] at hsum
  refine hsum.mono ?_
  clear hsum
  rintro e w1 ⟨A1, c1, rfl, hc1, hr1, hb1⟩
  go_wp2_with fail
  have hdrop := (hr.below hb1).drop m c hc
  rw [if_neg (by omega)] at hdrop
  have heq := equal_any A1 (Option.map (fun x => x.add m) A) c1 (c - m) _ _ w1 hr1 hdrop
  rw [HD.out] at heq
  refine heq.mono ?_
  clear heq hdrop
  rintro e w2 ⟨rfl, rfl⟩
  by_cases hq : sumS kind (xs.take m) = xs.drop m
  · have hq1 : decide (sumS kind (xs.take m) = xs.drop m) = true := by simp [hq]
    have HS' : Hid (remS kind n xs = xs.take m) := by have := HS.out; rwa [if_pos hq] at this
    have HE' : Hid (remE kind n xs = 0) := by have := HE.out; rwa [if_pos hq] at this
    rw [hq1]
    clear hq hq1 HS HE
    go_wp2_with fail
    have hj := join_any w1.heap.size 1 [⟨A, c, xs.take m⟩] (w1.alloc (.cells #[.slice A m c] 22)) (by simp) (by rw [joinS_one, HT.out]; omega) (one_part ((hr.below hb1).take m) HT.out)
    refine hj.mono ?_
    clear hj
    rw [joinS_one]
    rintro e w2 ⟨A2, c2, rfl, hc2, hr2, hb2⟩
    go_wp2
    go_ret2
    rw [HS'.out, HE'.out]
    exact ⟨A2, c2, ret_slice (by simp), hc2, hr2, hb1.trans (((Below.refl _ _).alloc hb1.size _).trans (hb2.mono (by simp; exact Nat.le_succ_of_le hb1.size)))⟩
  · have hq1 : decide (sumS kind (xs.take m) = xs.drop m) = false := by simp [hq]
    have HS' : Hid (remS kind n xs = []) := by have := HS.out; rwa [if_neg hq] at this
    have HE' : Hid (remE kind n xs = 6) := by have := HE.out; rwa [if_neg hq] at this
    rw [hq1]
    clear hq hq1 HS HE
    go_wp2
    go_ret2
    exact gives_none hb1 HS'.out HE'.out

theorem remove_short (kind : Int) (n : Nat) (hk : sizeS kind = n) (hn : 0 < n) (A : Option Addr) (c : Nat) (xs : List UInt8) (w : World) (hl : xs.length < n) :
    Calls Try.prog 18 #[.int .i64 kind, .slice A xs.length c] w fun e w' => GivesE w w' e [] 5 := by
  have HK := Lib.hid hk
  have hn2 : n ≤ 2 := by unfold sizeS at hk; split at hk <;> omega
  have hn0 : ((n : Int) == 0) = false := by rw [beq_eq_false_iff_ne]; omega
  clear hk
  go_enter Try.func18, Try.ntmps18
  go_wp2_with fail
  refine (size_any kind w).mono ?_
  rintro e w1 ⟨rfl, rfl⟩
  rw [HK.out]
  go_wp2
  go_ret2
  exact gives_none (Below.refl _ _) rfl rfl

theorem remove_kind (kind : Int) (hk : sizeS kind = 0) (A : Option Addr) (c : Nat) (xs : List UInt8) (w : World) :
    Calls Try.prog 18 #[.int .i64 kind, .slice A xs.length c] w fun e w' => GivesE w w' e [] 1 := by
  have HK := Lib.hid hk
  clear hk
  go_enter Try.func18, Try.ntmps18
  go_wp2_with fail
  refine (size_any kind w).mono ?_
  rintro e w1 ⟨rfl, rfl⟩
  rw [HK.out]
  go_wp2
  go_ret2
  exact gives_none (Below.refl _ _) rfl rfl
end Go.Proofs.Ytkcmbdnfohkjkaa
