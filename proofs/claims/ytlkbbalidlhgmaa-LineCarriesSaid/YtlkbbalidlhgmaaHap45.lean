/-
  The reference for the line: Happens.
-/
import Derived.Test.YtlkbbalidlhgmaaRef45
namespace Go.Proofs.Ytlkbbalidlhgmaa
open Go.RowKit
set_option linter.unusedVariables false

theorem own_map {A : Option Addr} {n c k : Nat} (h : A.map (·.block) = some k) : (Value.slice A n c).ownBlock = some k := by
  cases A with
  | none => cases h
  | some a => exact h
theorem map_own {A : Option Addr} {n c k : Nat} (h : (Value.slice A n c).ownBlock = some k) : A.map (·.block) = some k := by
  cases A with
  | none => cases h
  | some a => exact h

theorem bit_val2 (b : UInt8) (n : Nat) : bits .xor .u8 (b.toNat : Int) ((2 : Int) ^ (n % 8)) = ((b ^^^ UInt8.ofNat (2 ^ (n % 8))).toNat : Int) := by
  have hp := pow_lt n
  have e : (2 : Int) ^ (n % 8) % 256 = (2 : Int) ^ (n % 8) := by
    have h2 : ((2 ^ (n % 8) : Nat) : Int) = (2 : Int) ^ (n % 8) := by simp
    rw [← h2]
    generalize 2 ^ (n % 8) = p at hp
    omega
  rw [← e]
  exact bit_val b n

/-- What Happens returns. -/
def Happened (l : Lk) (xs : List UInt8) (w : World) (e : Ending) (w' : World) : Prop :=
  ∃ A1 c1, e = .returned (.tuple #[.slice A1 (arrives l xs).length c1, .bool (!l.lost)]) ∧ RB w' A1 (arrives l xs) ∧ (∀ k, A1.map (·.block) = some k → w.heap.size ≤ k) ∧ Below w.heap.size w w'

theorem happens_any (A : Option Addr) (c : Nat) (xs : List UInt8) (l : Lk) (w : World) (hf : (Lit.int .i64 l.flip).wf = true) (hl : xs.length ≤ 1048576) (hr : RB w A xs) :
    Calls Try.prog 18 #[.slice A xs.length c, .agg #[.bool l.lost, .int .i64 l.flip]] w (Happened l xs w) := by
  simp only [Lit.wf, Bool.and_eq_true, decide_eq_true_eq] at hf
  have hf1 : -9223372036854775808 ≤ l.flip := hf.1
  have hf2 : l.flip ≤ 9223372036854775807 := hf.2
  clear hf
  have hB := bytesTried
  have HC : Hid (∀ (A1 : Option Addr) (n c1 : Nat) (ok : Bool) (w' : World) (ys : List UInt8), arrives l xs = ys → n = ys.length → (!l.lost) = ok → RB w' A1 ys → (∀ k, A1.map (·.block) = some k → w.heap.size ≤ k) → Below w.heap.size w w' →
      Happened l xs w (.returned (.tuple #[.slice A1 n c1, .bool ok])) w') := by
    intro A1 n c1 ok w' ys e1 e0 e6 e2 e4 e5
    subst e1 e0 e6
    exact ⟨A1, c1, rfl, e2, e4, e5⟩
  by_cases hlost : l.lost = true
  · have ha := arrives_lost hlost xs
    have HA := Lib.hid ha
    have hb0 := (Below.refl w.heap.size w).alloc (Nat.le_refl _) (.cells #[.bool true, .int .i64 l.flip] 24)
    clear ha
    obtain ⟨lo, fl⟩ := l
    obtain rfl : lo = true := hlost
    go_enter Try.func18, Try.ntmps18
    go_wp2
    go_ret2
    exact HC.out _ _ _ _ _ [] HA.out rfl rfl (RB.nil _ _) (fun k hk => by cases hk) hb0
  · have hlost : l.lost = false := by simpa using hlost
    obtain ⟨lo, fl⟩ := l
    obtain rfl : lo = false := hlost
    change -9223372036854775808 ≤ fl at hf1
    change fl ≤ 9223372036854775807 at hf2
    have hb0 := (Below.refl w.heap.size w).alloc (Nat.le_refl _) (.cells #[.bool false, .int .i64 fl] 24)
    have hk0 := Blk.made w 24 #[.bool false, .int .i64 fl]
    have hr0 := hr.below hb0
    by_cases hfl : 1 ≤ fl
    · by_cases hxl : 0 < xs.length
      · obtain ⟨n, hat⟩ : ∃ n : Nat, (fl - 1) % (8 * (xs.length : Int)) = (n : Int) := ⟨((fl - 1) % (8 * (xs.length : Int))).toNat, by have := Int.emod_nonneg (fl - 1) (show 8 * (xs.length : Int) ≠ 0 from by omega); omega⟩
        have hnl : n < 8 * xs.length := by have := Int.emod_lt_of_pos (fl - 1) (show 0 < 8 * (xs.length : Int) from by omega); omega
        have har : arrives ⟨false, fl⟩ xs = _ := arrives_flip rfl hfl hxl
        rw [hat, Int.toNat_natCast] at har
        have HAR := Lib.hid har
        have HAT := Lib.hid hat
        have hn8 : n / 8 < xs.length := by omega
        have hm8 : n % 8 < 8 := Nat.mod_lt _ (by omega)
        clear har hat
        go_enter Try.func18, Try.ntmps18
        go_wp2_with (at_builtin; refine wpList_append_bytes rfl hB (.tmp 12) (.tmp 13) rfl rfl rfl (Own.empty _ _ (w.heap.size + 1)) hr0 (by simp; omega) (by simp) ?_; intro v2 w2 hown2 hb2; rw [List.nil_append] at hown2; have hk2 := hk0.below hb2 (by simp); have c1 : w2.cell? ⟨w.heap.size, 1, none⟩ = some (.int .i64 fl) := hk2.cell 1; have c0 : w2.cell? ⟨w.heap.size, 0, none⟩ = some (.bool false) := hk2.cell 0; have hbw := hb0.trans (hb2.mono (by simp)))
        obtain ⟨gb, cb, rfl, hcb, hgb, hcells, hfree⟩ := hown2.form hxl
        have x0 := hcells _ hn8
        have y0 := hfree (n / 8)
        have hown4 := hown2.set (n / 8) (xs[n / 8] ^^^ UInt8.ofNat (2 ^ (n % 8)))
        rw [← flipB_set xs n hn8] at hown4
        have hb4 := hbw.setCell (p := ⟨gb, n / 8, none⟩) (show w.heap.size ≤ gb by omega) (.int .u8 ((xs[n / 8] ^^^ UInt8.ofNat (2 ^ (n % 8))).toNat : Int))
        have HF := Lib.hid (HC.out (some ⟨gb, 0, none⟩) xs.length cb true _ (flipB xs n) HAR.out (by rw [flipB_length]) rfl hown4.rb (fun k hk => by simp at hk; omega) hb4)
        clear hcells hfree hown4 hb4 hown2
        rw [HAT.out]
        go_loop [8, 9] (fun p i => ∃ j : Nat, j ≤ n % 8 ∧ p = .int .u8 ((2 ^ j : Nat) : Int) ∧ i = .int .i64 j) (fun p i => n % 8 - (intOf i).toNat)
        case atStart => exact ⟨0, Nat.zero_le _, rfl, rfl⟩
        case round =>
          obtain ⟨j, hj, rfl, rfl⟩ := hrel
          have hn0 : (0 : Int) ≤ (n : Int) / 8 := by omega
          have hn1 : (n : Int) / 8 < (xs.length : Int) := by omega
          by_cases hlt : j < n % 8
          · have hp : 2 ^ j * 2 ≤ 2 ^ 7 := by rw [← Nat.pow_succ]; exact Nat.pow_le_pow_right (by omega) (by omega)
            obtain ⟨p, hpd⟩ : ∃ p, p = 2 ^ j := ⟨_, rfl⟩
            rw [← hpd] at hp ⊢
            have hp2 : p * 2 = 2 ^ (j + 1) := by rw [hpd, Nat.pow_succ]
            have HP2 := Lib.hid hp2
            clear hp2 hpd
            go_wp2
            go_round
            case rel => exact ⟨j + 1, by omega, by rw [← HP2.out]; go_num, by go_num⟩
            case measure => simp [intOf]; omega
          · obtain rfl : j = n % 8 := by omega
            go_wp2
            rw [bit_val2]
            go_ret2
            exact HF.out
      · have hx0 : xs = [] := List.eq_nil_of_length_eq_zero (by omega)
        subst hx0
        have ha : arrives ⟨false, fl⟩ [] = [] := arrives_same rfl (by simp)
        have HA := Lib.hid ha
        clear ha
        go_enter Try.func18, Try.ntmps18
        go_wp2_with (at_builtin; refine wpList_append_bytes (xs := []) (ys := []) rfl hB (.tmp 12) (.tmp 13) rfl rfl rfl (Own.empty _ _ (w.heap.size + 1)) hr0 (by simp) (by simp) ?_; intro v2 w2 hown2 hb2; rw [List.nil_append] at hown2; have hk2 := hk0.below hb2 (by simp); have c1 : w2.cell? ⟨w.heap.size, 1, none⟩ = some (.int .i64 fl) := hk2.cell 1; have c0 : w2.cell? ⟨w.heap.size, 0, none⟩ = some (.bool false) := hk2.cell 0; have hbw := hb0.trans (hb2.mono (by simp)); have hlt2 := hown2.lt; obtain ⟨A2, c2, rfl, hc2, hr2⟩ := hown2.reads)
        go_ret2
        exact HC.out _ _ _ _ _ [] HA.out rfl rfl (RB.nil _ _) (fun k hk => by have h := hlt2 k (own_map hk); omega) hbw
    · have ha : arrives ⟨false, fl⟩ xs = xs := arrives_same rfl (by simp; omega)
      have HA := Lib.hid ha
      clear ha
      go_enter Try.func18, Try.ntmps18
      go_wp2_with (at_builtin; refine wpList_append_bytes rfl hB (.tmp 12) (.tmp 13) rfl rfl rfl (Own.empty _ _ (w.heap.size + 1)) hr0 (by simp; omega) (by simp) ?_; intro v2 w2 hown2 hb2; rw [List.nil_append] at hown2; have hk2 := hk0.below hb2 (by simp); have c1 : w2.cell? ⟨w.heap.size, 1, none⟩ = some (.int .i64 fl) := hk2.cell 1; have c0 : w2.cell? ⟨w.heap.size, 0, none⟩ = some (.bool false) := hk2.cell 0; have hbw := hb0.trans (hb2.mono (by simp)); have hlt2 := hown2.lt; obtain ⟨A2, c2, rfl, hc2, hr2⟩ := hown2.reads)
      go_ret2
      exact HC.out _ _ _ _ _ xs HA.out rfl rfl hr2 (fun k hk => by have h := hlt2 k (own_map hk); omega) hbw
end Go.Proofs.Ytlkbbalidlhgmaa
