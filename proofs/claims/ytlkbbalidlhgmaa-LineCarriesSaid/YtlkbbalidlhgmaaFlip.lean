/-
  One bit of a string of bytes inverted.
-/
import Derived.Test.YtlkbbalidlhgmaaWords
namespace Go.Proofs.Ytlkbbalidlhgmaa
open Go.RowKit
set_option linter.unusedVariables false

def flipB (xs : List UInt8) (n : Nat) : List UInt8 := xs.modify (n / 8) (· ^^^ UInt8.ofNat (2 ^ (n % 8)))
theorem flipB_length (xs : List UInt8) (n : Nat) : (flipB xs n).length = xs.length := by simp [flipB]
theorem flipB_set (xs : List UInt8) (n : Nat) (hn : n / 8 < xs.length) : flipB xs n = xs.set (n / 8) (xs[n / 8] ^^^ UInt8.ofNat (2 ^ (n % 8))) := by
  unfold flipB
  apply List.ext_getElem?
  intro i
  rw [List.getElem?_modify, List.getElem?_set]
  by_cases h : n / 8 = i
  · subst h
    rw [if_pos rfl, if_pos hn]
    simp [hn]
  · rw [if_neg h]
    simp only [if_neg h]
    cases xs[i]? <;> rfl
theorem bit_nat (k : Nat) (hk : k < 8) : (UInt8.ofNat (2 ^ k)).toNat = 2 ^ k := by
  have : ∀ k : Fin 8, (UInt8.ofNat (2 ^ k.val)).toNat = 2 ^ k.val := by decide +kernel
  exact this ⟨k, hk⟩
theorem pow_lt (n : Nat) : (2 : Nat) ^ (n % 8) < 256 := by
  have : 2 ^ (n % 8) ≤ 2 ^ 7 := Nat.pow_le_pow_right (by omega) (by omega)
  omega
theorem bit_val (b : UInt8) (n : Nat) : bits .xor .u8 (b.toNat : Int) ((2 : Int) ^ (n % 8) % 256) = ((b ^^^ UInt8.ofNat (2 ^ (n % 8))).toNat : Int) := by
  have hk : n % 8 < 8 := Nat.mod_lt _ (by omega)
  have hp := pow_lt n
  have e : (2 : Int) ^ (n % 8) % 256 = ((2 ^ (n % 8) : Nat) : Int) := by
    have h2 : ((2 ^ (n % 8) : Nat) : Int) = (2 : Int) ^ (n % 8) := by simp
    rw [← h2]
    generalize 2 ^ (n % 8) = p at hp
    omega
  rw [e, u8_xor_nat _ _ b.toNat_lt hp, UInt8.toNat_xor, bit_nat _ hk]
theorem xor_u8 (a b : UInt8) : bits .xor .u8 (a.toNat : Int) (b.toNat : Int) = ((a ^^^ b).toNat : Int) := by
  rw [u8_xor_nat _ _ a.toNat_lt b.toNat_lt, UInt8.toNat_xor]
end Go.Proofs.Ytlkbbalidlhgmaa
