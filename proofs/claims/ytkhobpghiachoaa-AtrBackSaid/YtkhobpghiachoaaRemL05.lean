/-
  Remove of a check value of one byte.
-/
import Derived.Test.YtkhobpghiachoaaSumL
import Derived.Test.YtkhobpghiachoaaEq05
import Derived.Test.YtkhobpghiachoaaJoin
namespace Go.Proofs.Ytkhobpghiachoaa
open Go.RowKit Crc
set_option linter.unusedVariables false

theorem size0_any (w : World) : Calls Try.prog 63 #[.int .i64 0] w fun e w' => e = .returned (.int .i64 1) ∧ w = w' := by
  go_enter Try.func63, Try.ntmps63
  go_wp2
  go_ret
  exact ⟨rfl, rfl⟩
theorem one_partR {w1 : World} {A : Option Addr} {c m : Nat} {xs : List UInt8} {t : TypeId} (h : RB w1 A xs) (hm : xs.length = m) :
    ∀ j, (hj : j < [Part.mk A c xs].length) → (w1.alloc (.cells #[.slice A m c] t)).cell? ⟨w1.heap.size, j, none⟩ =
      some (.slice [Part.mk A c xs][j].A [Part.mk A c xs][j].xs.length [Part.mk A c xs][j].c) ∧
      RB (w1.alloc (.cells #[.slice A m c] t)) [Part.mk A c xs][j].A [Part.mk A c xs][j].xs := by
  subst hm
  have hb := (Below.refl w1.heap.size w1).alloc (Nat.le_refl _) (.cells #[.slice A xs.length c] t)
  intro j hj
  rw [World.cell?_alloc_at _ _ _ _ rfl]
  match j, hj with
  | 0, _ => exact ⟨rfl, h.below hb⟩
theorem lrc_split (xs : List UInt8) (m : Nat) (hm : xs.length = m + 1) : lrc xs = lrc (xs.take m) ^^^ xs[m] ∧ xs.drop m = [xs[m]] := by
  have h1 : xs = xs.take m ++ [xs[m]] := by
    have h := List.take_succ_eq_append_getElem (show m < xs.length by omega)
    rw [List.take_of_length_le (by omega)] at h
    exact h
  constructor
  · have h2 : lrc xs = lrc (xs.take m ++ [xs[m]]) := by rw [← h1]
    rw [h2]
    unfold lrc
    rw [List.foldl_append]
    rfl
  · rw [List.drop_eq_getElem_cons (by omega), List.drop_eq_nil_of_le (by omega)]
theorem xor_zero {a b : UInt8} : a ^^^ b = 0 ↔ [a] = [b] := by
  constructor
  · intro h
    have : a = b := by
      have h2 : (a ^^^ b) ^^^ b = b := by rw [h]; simp
      rw [UInt8.xor_assoc, UInt8.xor_self, UInt8.xor_zero] at h2
      exact h2
    rw [this]
  · intro h
    injection h with h
    rw [h, UInt8.xor_self]
/-- What Remove answers with a check value of one byte. -/
def remE (xs : List UInt8) : Int := if lrc xs = 0 then 0 else 6
theorem remL_any (A : Option Addr) (c : Nat) (xs : List UInt8) (w : World) (hs : xs.length ≤ 65536) (hc : xs.length ≤ c) (hr : RB w A xs) (hl : 1 ≤ xs.length) :
    Calls Try.prog 58 #[.int .i64 0, .slice A xs.length c] w fun e w' => ∃ v, e = .returned (.tuple #[v, .int .i64 (remE xs)]) ∧ Below w.heap.size w w' := by
  obtain ⟨m, hm⟩ : ∃ m : Nat, xs.length = m + 1 := ⟨xs.length - 1, by omega⟩
  obtain ⟨h1, h2⟩ := lrc_split xs m hm
  have htl : (xs.take m).length = m := by simp; omega
  have HT := Lib.hid htl
  have HE : Hid (∀ b : Bool, b = decide ([lrc (xs.take m)] = xs.drop m) → remE xs = if b = true then 0 else 6) := by
    intro b hb
    unfold remE
    rw [h1, hb, h2]
    by_cases hz : lrc (xs.take m) ^^^ xs[m] = 0
    · rw [if_pos hz, if_pos (by rw [decide_eq_true (xor_zero.1 hz)])]
    · rw [if_neg hz, if_neg (by rw [decide_eq_false (fun e => hz (xor_zero.2 e))]; decide)]
  have hdl : (xs.drop m).length = 1 := by rw [h2]; rfl
  have HD := Lib.hid hdl
  have hrt := hr.take m
  have HRD := hr.drop m c hc
  rw [if_neg (by omega)] at HRD
  clear h1 h2 htl hdl
  obtain ⟨R, hR⟩ : ∃ R, R = remE xs := ⟨_, rfl⟩
  rw [← hR] at HE
  rw [← hR]
  clear hR
  obtain ⟨tk, htk⟩ : ∃ tk, tk = xs.take m := ⟨_, rfl⟩
  obtain ⟨dp, hdp⟩ : ∃ dp, dp = xs.drop m := ⟨_, rfl⟩
  rw [← htk, ← hdp] at HE
  rw [← htk] at hrt HT
  rw [← hdp] at HRD HD
  clear htk hdp
  rw [hm] at hs hc hl
  rw [hm]
  go_enter Try.func58, Try.ntmps58
  go_wp2_with fail
  refine (size0_any w).mono ?_
  rintro e w1 ⟨rfl, rfl⟩
  have hsum := sumL_any A c tk w (by rw [HT.out]; omega) hrt
  rw [HT.out] at hsum
  go_wp2_with fail
  refine hsum.mono ?_
  clear hsum
  rintro e w1 ⟨A1, rfl, hr1, hb1⟩
  have heq := equal_any A1 (Option.map (fun x => x.add m) A) 1 (c - m) _ _ w1 hr1 (HRD.below hb1)
  rw [HD.out] at heq
  go_wp2_with fail
  refine heq.mono ?_
  clear heq
  rintro e w2 ⟨rfl, rfl⟩
  by_cases hq : [lrc tk] = dp
  · have HF := Lib.hid (HE.out true (by rw [decide_eq_true hq]))
    rw [decide_eq_true hq]
    clear hq
    go_wp2_with fail
    have hj := join_any w1.heap.size 1 [⟨A, c, tk⟩] (w1.alloc (.cells #[.slice A m c] 22)) (by simp) (by simp [joinS]; rw [HT.out]; omega) (one_partR (hrt.below hb1) HT.out)
    refine hj.mono ?_
    clear hj
    rintro e w2 ⟨A2, c2, rfl, hc2, hr2, hb2⟩
    go_wp2
    go_ret2
    rw [HF.out]
    exact ⟨_, rfl, hb1.trans (((Below.refl _ _).alloc hb1.size _).trans (hb2.mono (by simp; exact Nat.le_succ_of_le hb1.size)))⟩
  · have HF := Lib.hid (HE.out false (by rw [decide_eq_false hq]))
    rw [decide_eq_false hq]
    clear hq
    go_wp2
    go_ret2
    rw [HF.out]
    exact ⟨_, rfl, hb1⟩
end Go.Proofs.Ytkhobpghiachoaa
