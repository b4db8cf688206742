/-
  Both check values are linear: the plain law of CheckLinear.
-/
import Derived.Test.YtkcmbdnfohkjkaaDet
namespace Go.Proofs.Ytkcmbdnfohkjkaa
open Go.RowKit Crc
set_option linter.unusedVariables false

/-- The exclusive or of three strings, the first n bytes. -/
def x3 (a b c : List UInt8) (n : Nat) : List UInt8 := (List.range n).map fun i => a.getD i 0 ^^^ b.getD i 0 ^^^ c.getD i 0
theorem x3_length (a b c : List UInt8) (n : Nat) : (x3 a b c n).length = n := by simp [x3]
theorem x3_succ (a b c : List UInt8) (n : Nat) (ha : n < a.length) (hb : n < b.length) (hc : n < c.length) : x3 a b c (n + 1) = x3 a b c n ++ [a[n] ^^^ b[n] ^^^ c[n]] := by
  simp [x3, List.range_succ, ha, hb, hc]
theorem x3_at (a b c : List UInt8) (n : Nat) (ha : n ≤ a.length) (hb : n ≤ b.length) (hc : n ≤ c.length) :
    ∀ (i : Nat) (x y z : UInt8), (a.take n)[i]? = some x → (b.take n)[i]? = some y → (c.take n)[i]? = some z → (x3 a b c n)[i]? = some (x ^^^ y ^^^ z) := by
  intro i x y z hx hy hz
  have hi : i < n := by
    rcases Nat.lt_or_ge i n with h | h
    · exact h
    · rw [List.getElem?_eq_none (by simp; omega)] at hx; cases hx
  rw [List.getElem?_take, if_pos hi] at hx hy hz
  simp [x3, hi, List.getD, hx, hy, hz]

theorem ofNat_xor (x y : Nat) (hx : x < 256) (hy : y < 256) : UInt8.ofNat x ^^^ UInt8.ofNat y = UInt8.ofNat (x ^^^ y) := by
  have hxy : x ^^^ y < 256 := Nat.xor_lt_two_pow (n := 8) hx hy
  apply UInt8.toNat_inj.1
  rw [UInt8.toNat_xor, UInt8.toNat_ofNat', UInt8.toNat_ofNat', UInt8.toNat_ofNat', Nat.mod_eq_of_lt (show x < 2 ^ 8 from hx), Nat.mod_eq_of_lt (show y < 2 ^ 8 from hy), Nat.mod_eq_of_lt (show x ^^^ y < 2 ^ 8 from hxy)]
theorem div256_xor (a b : Nat) : (a ^^^ b) / 256 = a / 256 ^^^ b / 256 := by
  apply Nat.eq_of_testBit_eq
  intro i
  have h : ∀ z : Nat, (z / 256).testBit i = z.testBit (8 + i) := fun z => by
    rw [show (256 : Nat) = 2 ^ 8 from rfl, Nat.testBit_div_two_pow, Nat.add_comm]
  rw [Nat.testBit_xor, h, h, h, Nat.testBit_xor]
theorem mod256_xor (a b : Nat) : (a ^^^ b) % 256 = a % 256 ^^^ b % 256 := by
  rw [show (256 : Nat) = 2 ^ 8 from rfl]
  exact Nat.xor_mod_two_pow

theorem sums_linear (kind : Int) (hk : kind = 0 ∨ kind = 1) (a b c : List UInt8) (n : Nat) (ha : n ≤ a.length) (hb : n ≤ b.length) (hc : n ≤ c.length) :
    ∀ (i : Nat) (x y z : UInt8), (sumS kind (a.take n))[i]? = some x → (sumS kind (b.take n))[i]? = some y → (sumS kind (c.take n))[i]? = some z →
      (sumS kind (x3 a b c n))[i]? = some (x ^^^ y ^^^ z) := by
  have h3 := x3_at a b c n ha hb hc
  have la : (a.take n).length = n := by simp; omega
  have lb : (b.take n).length = n := by simp; omega
  have lc : (c.take n).length = n := by simp; omega
  intro i x y z
  rcases hk with rfl | rfl
  · have e := lrc_xor3 _ _ _ _ n la lb lc (x3_length a b c n) h3
    have s0 : ∀ l : List UInt8, sumS 0 l = [lrc l] := fun l => rfl
    simp only [s0, e]
    rcases i with _ | i
    · simp; rintro rfl rfl rfl; rfl
    · simp
  · have e := crc_xor3 _ _ _ _ n la lb lc (x3_length a b c n) h3
    have s1 : ∀ l : List UInt8, sumS 1 l = [UInt8.ofNat (crc l % 256), UInt8.ofNat (crc l / 256)] := fun l => rfl
    simp only [s1, e]
    have ba := crc_lt (a.take n)
    have bb := crc_lt (b.take n)
    have bc := crc_lt (c.take n)
    generalize crc (a.take n) = p at *
    generalize crc (b.take n) = q at *
    generalize crc (c.take n) = r at *
    have m8 : ∀ z : Nat, z % 256 < 256 := fun z => Nat.mod_lt _ (by omega)
    have x1 : (p % 256 ^^^ q % 256) < 256 := Nat.xor_lt_two_pow (n := 8) (m8 _) (m8 _)
    have x2 : (p / 256 ^^^ q / 256) < 256 := Nat.xor_lt_two_pow (n := 8) (by omega) (by omega)
    rw [mod256_xor, mod256_xor, div256_xor, div256_xor]
    rcases i with _ | _ | i
    · simp
      rintro rfl rfl rfl
      rw [ofNat_xor _ _ (m8 _) (m8 _), ofNat_xor _ _ x1 (m8 _)]
    · simp
      rintro rfl rfl rfl
      rw [ofNat_xor _ _ (by omega) (by omega), ofNat_xor _ _ x2 (by omega)]
    · simp
end Go.Proofs.Ytkcmbdnfohkjkaa
