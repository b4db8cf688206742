/-
  What is damaged is detected: the plain law of Remove.
-/
import Derived.Test.YtkcmbdnfohkjkaaRRem
namespace Go.Proofs.Ytkcmbdnfohkjkaa
open Go.RowKit Crc
set_option linter.unusedVariables false

theorem rem_bad (kind : Int) (n : Nat) (hn : sizeS kind = n) (h0 : 0 < n) (ys : List UInt8) (hl : n ≤ ys.length) (h : sumS kind (ys.take (ys.length - n)) ≠ ys.drop (ys.length - n)) :
    remB kind ys = [] ∧ remX kind ys = 6 := by
  rw [(remX_long hn h0 hl).1, (remX_long hn h0 hl).2]
  unfold remS remE
  rw [if_neg h, if_neg h]
  exact ⟨rfl, rfl⟩
theorem good0 (ys : List UInt8) (h : sumS 0 (ys.take (ys.length - 1)) = ys.drop (ys.length - 1)) : lrc ys = 0 := by
  have e : ys = ys.take (ys.length - 1) ++ ys.drop (ys.length - 1) := (List.take_append_drop _ _).symm
  rw [← h] at e
  rw [e]
  exact (lrc_code _ _).2 rfl
theorem lohi (xs : List UInt8) : (UInt8.ofNat (crc xs % 256)).toNat + 256 * (UInt8.ofNat (crc xs / 256)).toNat = crc xs := by
  have := crc_lt xs
  rw [UInt8.toNat_ofNat', UInt8.toNat_ofNat', Nat.mod_eq_of_lt (show crc xs % 256 < 2 ^ 8 from by omega), Nat.mod_eq_of_lt (show crc xs / 256 < 2 ^ 8 from by omega)]
  omega
theorem good1 (ys : List UInt8) (h : sumS 1 (ys.take (ys.length - 2)) = ys.drop (ys.length - 2)) : G 65535 ys = it 16 65535 := by
  have e : ys = ys.take (ys.length - 2) ++ ys.drop (ys.length - 2) := (List.take_append_drop _ _).symm
  rw [← h] at e
  rw [e]
  exact G_code _ _ _ (lohi _)
theorem code0 (xs : List UInt8) : lrc (xs ++ sumS 0 xs) = 0 := (lrc_code _ _).2 rfl
theorem code1 (xs : List UInt8) : G 65535 (xs ++ sumS 1 xs) = it 16 65535 := G_code _ _ _ (lohi _)

theorem detect (kind : Int) (hk : kind = 0 ∨ kind = 1) (xs : List UInt8) (n : Nat) (hn : n < 8 * (xs ++ sumS kind xs).length) :
    remB kind (flip (xs ++ sumS kind xs) n) = [] ∧ remX kind (flip (xs ++ sumS kind xs) n) = 6 := by
  rcases hk with rfl | rfl
  · have hl := sumS_length 0 1 rfl (by omega) xs
    refine rem_bad 0 1 rfl (by omega) _ (by rw [flip_length]; simp; omega) fun h => ?_
    exact lrc_flip_bad _ _ hn (code0 xs) (good0 _ h)
  · have hl := sumS_length 1 2 rfl (by omega) xs
    refine rem_bad 1 2 rfl (by omega) _ (by rw [flip_length]; simp; omega) fun h => ?_
    exact flip_bad _ _ hn (code1 xs) (good1 _ h)
theorem detect_burst (xs : List UInt8) (pat fr : Nat) (hp : pat < 65536) (h0 : pat ≠ 0) (hf : fr + 16 ≤ 8 * (xs ++ sumS 1 xs).length) :
    remB 1 (burst (xs ++ sumS 1 xs) pat fr 16) = [] ∧ remX 1 (burst (xs ++ sumS 1 xs) pat fr 16) = 6 := by
  have hl := sumS_length 1 2 rfl (by omega) xs
  refine rem_bad 1 2 rfl (by omega) _ (by rw [burst_length]; simp; omega) fun h => ?_
  exact burst_bad _ _ _ hp h0 hf (code1 xs) (good1 _ h)

/-- A flipped bit, as a store. -/
theorem flip_set (xs : List UInt8) (n : Nat) (hn : n / 8 < xs.length) : Crc.flip xs n = xs.set (n / 8) (xs[n / 8] ^^^ UInt8.ofNat (2 ^ (n % 8))) := by
  unfold Crc.flip
  apply List.ext_getElem?
  intro i
  rw [List.getElem?_modify, List.getElem?_set]
  by_cases h : n / 8 = i
  · subst h
    rw [if_pos rfl, if_pos hn]
    simp [hn]
  · rw [if_neg h]
    simp only [if_neg h]
    cases xs[i]? <;> rfl
/-- The byte with one bit. -/
theorem bit_nat (k : Nat) (hk : k < 8) : (UInt8.ofNat (2 ^ k)).toNat = 2 ^ k := by
  have : ∀ k : Fin 8, (UInt8.ofNat (2 ^ k.val)).toNat = 2 ^ k.val := by decide +kernel
  exact this ⟨k, hk⟩
theorem bit_val (b : UInt8) (n : Nat) : bits .xor .u8 (b.toNat : Int) ((2 : Int) ^ (n % 8) % 256) = ((b ^^^ UInt8.ofNat (2 ^ (n % 8))).toNat : Int) := by
  have hk : n % 8 < 8 := Nat.mod_lt _ (by omega)
  have hp : (2 : Nat) ^ (n % 8) < 256 := by
    have : 2 ^ (n % 8) ≤ 2 ^ 7 := Nat.pow_le_pow_right (by omega) (by omega)
    omega
  have e : (2 : Int) ^ (n % 8) % 256 = ((2 ^ (n % 8) : Nat) : Int) := by
    have h2 : ((2 ^ (n % 8) : Nat) : Int) = (2 : Int) ^ (n % 8) := by simp
    rw [← h2]
    generalize 2 ^ (n % 8) = p at hp
    omega
  rw [e, u8_xor_nat _ _ b.toNat_lt hp, UInt8.toNat_xor, bit_nat _ hk]
end Go.Proofs.Ytkcmbdnfohkjkaa
