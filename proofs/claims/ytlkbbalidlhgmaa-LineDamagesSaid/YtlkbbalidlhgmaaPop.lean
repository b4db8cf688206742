/-
  How many bits differ: the plain law of LineDamages.
-/
import Derived.Test.YtlkbbalidlhgmaaCarry
namespace Go.Proofs.Ytlkbbalidlhgmaa
open Go.RowKit
set_option linter.unusedVariables false

/-- The bits of a number, at most f of them. -/
def pop : Nat → Nat → Nat
  | 0, _ => 0
  | f + 1, d => d % 2 + pop f (d / 2)
theorem pop_zero (f : Nat) : pop f 0 = 0 := by
  induction f with
  | zero => rfl
  | succ f ih => show 0 % 2 + pop f (0 / 2) = 0; rw [Nat.zero_div, ih]
theorem pop_two : ∀ k : Fin 8, pop 8 (2 ^ k.val) = 1 := by decide +kernel

/-- In how many bits the first k bytes differ. -/
def T (l : Lk) (xs : List UInt8) (k : Nat) : Nat :=
  if 0 < l.flip ∧ 0 < xs.length ∧ ((l.flip - 1) % (8 * (xs.length : Int))).toNat / 8 < k then 1 else 0
theorem T_le (l : Lk) (xs : List UInt8) (k : Nat) : T l xs k ≤ 1 := by unfold T; split <;> omega
theorem T_zero (l : Lk) (xs : List UInt8) : T l xs 0 = 0 := by unfold T; rw [if_neg (by omega)]
theorem T_all (l : Lk) (xs : List UInt8) : T l xs xs.length = if 0 < l.flip ∧ 0 < xs.length then 1 else 0 := by
  unfold T
  by_cases h : 0 < l.flip ∧ 0 < xs.length
  · have h1 := Int.emod_nonneg (l.flip - 1) (show 8 * (xs.length : Int) ≠ 0 from by omega)
    have h2 := Int.emod_lt_of_pos (l.flip - 1) (show 0 < 8 * (xs.length : Int) from by omega)
    rw [if_pos ⟨h.1, h.2, by omega⟩, if_pos h]
  · rw [if_neg (fun k => h ⟨k.1, k.2.1⟩), if_neg h]
theorem T_step (l : Lk) (h : l.lost = false) (xs : List UInt8) (k : Nat) (hk : k < xs.length) (hk2 : k < (arrives l xs).length) :
    T l xs k + pop 8 ((arrives l xs)[k] ^^^ xs[k]).toNat = T l xs (k + 1) := by
  by_cases hf : 0 < l.flip
  · have h1 := Int.emod_nonneg (l.flip - 1) (show 8 * (xs.length : Int) ≠ 0 from by omega)
    have h2 := Int.emod_lt_of_pos (l.flip - 1) (show 0 < 8 * (xs.length : Int) from by omega)
    obtain ⟨n, hn⟩ : ∃ n, n = ((l.flip - 1) % (8 * (xs.length : Int))).toNat := ⟨_, rfl⟩
    have hn8 : n / 8 < xs.length := by omega
    have ha : arrives l xs = xs.set (n / 8) (xs[n / 8] ^^^ UInt8.ofNat (2 ^ (n % 8))) := by
      rw [arrives_flip h hf (by omega), ← hn, flipB_set xs n hn8]
    simp only [ha]
    unfold T
    rw [← hn]
    by_cases he : n / 8 = k
    · subst he
      rw [if_neg (by omega), if_pos ⟨hf, by omega, by omega⟩]
      rw [List.getElem_set_self]
      have : (xs[n / 8] ^^^ UInt8.ofNat (2 ^ (n % 8))) ^^^ xs[n / 8] = UInt8.ofNat (2 ^ (n % 8)) := by
        rw [UInt8.xor_comm xs[n / 8], UInt8.xor_assoc, UInt8.xor_self, UInt8.xor_zero]
      rw [this, bit_nat _ (Nat.mod_lt _ (by omega)), pop_two ⟨n % 8, Nat.mod_lt _ (by omega)⟩]
    · rw [List.getElem_set_ne he, UInt8.xor_self]
      have : pop 8 (0 : UInt8).toNat = 0 := rfl
      rw [this, Nat.add_zero]
      by_cases hlt : n / 8 < k
      · rw [if_pos ⟨hf, by omega, hlt⟩, if_pos ⟨hf, by omega, by omega⟩]
      · rw [if_neg (by omega), if_neg (by omega)]
  · have ha : arrives l xs = xs := arrives_same h (by omega)
    simp only [ha]
    rw [UInt8.xor_self]
    unfold T
    rw [if_neg (by omega), if_neg (by omega)]
    rfl
theorem arrives_length (l : Lk) (h : l.lost = false) (xs : List UInt8) : (arrives l xs).length = xs.length := by
  by_cases hf : 0 < l.flip ∧ 0 < xs.length
  · rw [arrives_flip h hf.1 hf.2, flipB_length]
  · rw [arrives_same h hf]
end Go.Proofs.Ytlkbbalidlhgmaa
