/-
  Remove of the reference.
-/
import Derived.Test.YtkcmbdnfohkjkaaRem
namespace Go.Proofs.Ytkcmbdnfohkjkaa
open Go.RowKit Crc
set_option linter.unusedVariables false

theorem sumS_length (kind : Int) (n : Nat) (hk : sizeS kind = n) (hn : 0 < n) (xs : List UInt8) : (sumS kind xs).length = n := by
  unfold sizeS at hk
  unfold sumS
  by_cases h0 : kind = 0
  · rw [if_pos h0] at hk ⊢; simp; omega
  · rw [if_neg h0] at hk ⊢
    by_cases h1 : kind = 1
    · rw [if_pos h1] at hk ⊢; simp; omega
    · rw [if_neg h1] at hk; omega

theorem rremove_long (kind : Int) (n : Nat) (hk : sizeS kind = n) (hn : 0 < n) (A : Option Addr) (c : Nat) (xs : List UInt8) (w : World) (hs : xs.length ≤ 65536) (hc : xs.length ≤ c) (hr : RB w A xs) (hl : n ≤ xs.length) :
    Calls Try.prog 19 #[.int .i64 kind, .slice A xs.length c] w fun e w' => GivesE w w' e (remS kind n xs) (remE kind n xs) := by
  obtain ⟨m, hm⟩ : ∃ m : Nat, m + n = xs.length := ⟨xs.length - n, by omega⟩
  have hat : (xs.length : Int) - (n : Int) = (m : Int) := by omega
  have HK := Lib.hid hk
  have hmn : xs.length - n = m := by omega
  have htl : (xs.take m).length = m := by simp; omega
  have hS : remS kind n xs = if sumS kind (xs.take m) = xs.drop m then xs.take m else [] := by unfold remS; rw [hmn]
  have hE : remE kind n xs = if sumS kind (xs.take m) = xs.drop m then 0 else 6 := by unfold remE; rw [hmn]
  have hsl := sumS_length kind n hk hn (xs.take m)
  have hdl : (xs.drop m).length = n := by simp; omega
  have HS := Lib.hid hS
  have HE := Lib.hid hE
  have HT := Lib.hid htl
  have HL := Lib.hid hsl
  have HD := Lib.hid hdl
  have hn0 : ((n : Int) == 0) = false := by rw [beq_eq_false_iff_ne]; omega
  have hlI : ¬ (xs.length : Int) < (n : Int) := by omega
  clear hk hmn htl hdl hS hE hsl
  go_enter Try.func19, Try.ntmps19
  go_wp2_with fail
  refine (rsize_any kind w).mono ?_
  rintro e w1 ⟨rfl, rfl⟩
  rw [HK.out]
  go_wp2_with fail
  have hsum := rsum_any kind A c (xs.take m) w (by rw [HT.out]; omega) (hr.take m)
  rw [HT.out] at hsum
  refine hsum.mono ?_
  clear hsum
  rintro e w1 ⟨A1, c1, rfl, hc1, hr1, hb1⟩
  have hr0 := hr.below hb1
  obtain ⟨S, hSd⟩ : ∃ S, S = sumS kind (xs.take m) := ⟨_, rfl⟩
  have HSd := Lib.hid hSd
  rw [← hSd] at hc1 hr1 HS HE HL ⊢
  clear hSd
  rw [HL.out]
  go_wp2
  clear hr
  have hnI : (n : Int) ≤ 65536 := by omega
  go_loopw [10] (fun i wr => ∃ k q : Nat, k ≤ n ∧ i = .int .i64 k ∧ Hid (S.take k = (xs.drop m).take k) ∧ wr = w1.drewN q) (fun i _ => n - (intOf i).toNat)
  case atStart => exact ⟨0, 0, Nat.zero_le _, rfl, rfl, rfl⟩
  case round =>
    obtain ⟨k, q, hk, rfl, ht, rfl⟩ := hrel
    by_cases hlt : k < n
    · obtain ⟨b, off, rfl, hx⟩ := hr0.at_ (by omega)
      obtain ⟨b1, off1, rfl, hx1⟩ := hr1.at_ (by have := HL.out; omega)
      have hmk : m + k < xs.length := by omega
      have hkS : k < S.length := by have := HL.out; omega
      have hkD : k < (xs.drop m).length := by have := HD.out; omega
      have hcell := hx (m + k) hmk
      have hcell1 := hx1 k hkS
      have hi0 : (0 : Int) ≤ (m : Int) + (k : Int) := by omega
      have hi1 : (m : Int) + (k : Int) < (xs.length : Int) := by omega
      have hi2 : (0 : Int) ≤ (k : Int) := by omega
      have hi3 : (k : Int) < (n : Int) := by omega
      have hdk : (xs.drop m)[k] = xs[m + k] := List.getElem_drop
      clear hx hx1
      by_cases hq : xs[m + k] = S[k]
      · have HQ : Hid (S.take (k + 1) = (xs.drop m).take (k + 1)) := by
          have := ht.out
          show S.take (k + 1) = (xs.drop m).take (k + 1)
          rw [List.take_succ_eq_append_getElem hkS, List.take_succ_eq_append_getElem hkD, this, hdk, hq]
        have hne : ((xs[m + k].toNat : Int) != (S[k].toNat : Int)) = false := by rw [hq]; simp
        clear hq hdk
        go_wp2
        go_quiet (fail)
        go_wp2
        go_roundw
        case rel => exact ⟨k + 1, _, by omega, by go_num, HQ, rfl⟩
        case measure => simp [intOf]; omega
      · have hnq : S ≠ xs.drop m := fun e => hq (by rw [← hdk]; simp only [e])
        have HS' : Hid (remS kind n xs = []) := by have := HS.out; rwa [if_neg hnq] at this
        have HE' : Hid (remE kind n xs = 6) := by have := HE.out; rwa [if_neg hnq] at this
        have hne : ((xs[m + k].toNat : Int) != (S[k].toNat : Int)) = true := by
          rw [bne_iff_ne]
          intro h
          exact hq (UInt8.toNat_inj.1 (by omega))
        clear hq hdk hnq HS HE HSd
        go_wp2
        go_quiet (fail)
        go_wp2
        go_ret2
        exact gives_none (below_drewN (below_drewN hb1 _) _) HS'.out HE'.out
    · have hkn : k = n := by omega
      subst hkn
      have heq : S = xs.drop m := by
        have := ht.out
        rwa [List.take_of_length_le (by rw [HL.out]; omega), List.take_of_length_le (by rw [HD.out]; omega)] at this
      have HS' : Hid (remS kind k xs = xs.take m) := by have := HS.out; rwa [if_pos heq] at this
      have HE' : Hid (remE kind k xs = 0) := by have := HE.out; rwa [if_pos heq] at this
      have hB := bytesTried
      have hrt : RB (w1.drewN q) A (xs.take m) := hr0.take m
      have hx : ∀ (a : Act) (A : Option Addr) (x : Operand), a.eval x = .slice A m c → a.eval x = .slice A (xs.take m).length c := fun a A x h => by rw [h, HT.out]
      clear heq HS HE HSd
      go_wp2_with (at_builtin; refine wpList_append_bytes (ys := xs.take m) rfl hB (.tmp 48) (.tmp 51) rfl rfl (hx _ _ _ rfl) (Own.empty _ (w1.drewN q) (w1.drewN q).heap.size) hrt (by have := HT.out; simp; omega) (Nat.le_refl _) ?_; intro v2 w2 hown2 hb2)
      rw [List.nil_append] at hown2
      obtain ⟨A3, c3, rfl, hc3, hr3⟩ := hown2.reads
      go_ret2
      rw [HS'.out, HE'.out]
      exact ⟨A3, c3, rfl, hc3, hr3, hb1.trans (below_drewN (Below.refl _ _) q |>.trans (hb2.mono hb1.size))⟩

theorem rremove_short (kind : Int) (n : Nat) (hk : sizeS kind = n) (hn : 0 < n) (A : Option Addr) (c : Nat) (xs : List UInt8) (w : World) (hl : xs.length < n) :
    Calls Try.prog 19 #[.int .i64 kind, .slice A xs.length c] w fun e w' => GivesE w w' e [] 5 := by
  have HK := Lib.hid hk
  have hn2 : n ≤ 2 := by unfold sizeS at hk; split at hk <;> omega
  have hn0 : ((n : Int) == 0) = false := by rw [beq_eq_false_iff_ne]; omega
  have hlI : (xs.length : Int) < (n : Int) := by omega
  clear hk
  go_enter Try.func19, Try.ntmps19
  go_wp2_with fail
  refine (rsize_any kind w).mono ?_
  rintro e w1 ⟨rfl, rfl⟩
  rw [HK.out]
  go_wp2
  go_ret2
  exact gives_none (Below.refl _ _) rfl rfl

theorem rremove_kind (kind : Int) (hk : sizeS kind = 0) (A : Option Addr) (c : Nat) (xs : List UInt8) (w : World) :
    Calls Try.prog 19 #[.int .i64 kind, .slice A xs.length c] w fun e w' => GivesE w w' e [] 1 := by
  have HK := Lib.hid hk
  clear hk
  go_enter Try.func19, Try.ntmps19
  go_wp2_with fail
  refine (rsize_any kind w).mono ?_
  rintro e w1 ⟨rfl, rfl⟩
  rw [HK.out]
  go_wp2
  go_ret2
  exact gives_none (Below.refl _ _) rfl rfl

/-- What Remove returns, and its error. -/
def remB (kind : Int) (xs : List UInt8) : List UInt8 := if sizeS kind = 0 then [] else if (xs.length : Int) < sizeS kind then [] else remS kind (sizeS kind).toNat xs
def remX (kind : Int) (xs : List UInt8) : Int := if sizeS kind = 0 then 1 else if (xs.length : Int) < sizeS kind then 5 else remE kind (sizeS kind).toNat xs
theorem sizeS_nat (kind : Int) : ∃ n : Nat, sizeS kind = n ∧ n ≤ 2 := by
  unfold sizeS; split
  · exact ⟨1, rfl, by omega⟩
  · split
    · exact ⟨2, rfl, by omega⟩
    · exact ⟨0, rfl, by omega⟩
theorem remB_le (kind : Int) (xs : List UInt8) : (remB kind xs).length ≤ xs.length := by
  unfold remB remS
  split
  · simp
  · split
    · simp
    · split
      · simp
      · simp

theorem remX_kind {kind : Int} (h : sizeS kind = 0) (xs : List UInt8) : remB kind xs = [] ∧ remX kind xs = 1 := by
  unfold remB remX; rw [if_pos h, if_pos h]; exact ⟨rfl, rfl⟩
theorem remX_short {kind : Int} {n : Nat} (h : sizeS kind = n) (hn : 0 < n) {xs : List UInt8} (hl : xs.length < n) : remB kind xs = [] ∧ remX kind xs = 5 := by
  have h0 : ¬ sizeS kind = 0 := by omega
  have h1 : (xs.length : Int) < sizeS kind := by omega
  unfold remB remX; rw [if_neg h0, if_neg h0, if_pos h1, if_pos h1]; exact ⟨rfl, rfl⟩
theorem remX_long {kind : Int} {n : Nat} (h : sizeS kind = n) (hn : 0 < n) {xs : List UInt8} (hl : n ≤ xs.length) : remB kind xs = remS kind n xs ∧ remX kind xs = remE kind n xs := by
  have h0 : ¬ sizeS kind = 0 := by omega
  have h1 : ¬ (xs.length : Int) < sizeS kind := by omega
  have h2 : (sizeS kind).toNat = n := by omega
  unfold remB remX; rw [if_neg h0, if_neg h0, if_neg h1, if_neg h1, h2]; exact ⟨rfl, rfl⟩

theorem remove_any (kind : Int) (A : Option Addr) (c : Nat) (xs : List UInt8) (w : World) (hs : xs.length ≤ 65536) (hc : xs.length ≤ c) (hr : RB w A xs) :
    Calls Try.prog 18 #[.int .i64 kind, .slice A xs.length c] w fun e w' => GivesE w w' e (remB kind xs) (remX kind xs) := by
  obtain ⟨n, hn, h2⟩ := sizeS_nat kind
  by_cases h0 : n = 0
  · subst h0
    rw [(remX_kind hn xs).1, (remX_kind hn xs).2]
    exact remove_kind kind hn A c xs w
  · by_cases hl : xs.length < n
    · rw [(remX_short hn (by omega) hl).1, (remX_short hn (by omega) hl).2]
      exact remove_short kind n hn (by omega) A c xs w hl
    · rw [(remX_long hn (by omega) (by omega)).1, (remX_long hn (by omega) (by omega)).2]
      exact remove_long kind n hn (by omega) A c xs w hs hc hr (by omega)
theorem rremove_any (kind : Int) (A : Option Addr) (c : Nat) (xs : List UInt8) (w : World) (hs : xs.length ≤ 65536) (hc : xs.length ≤ c) (hr : RB w A xs) :
    Calls Try.prog 19 #[.int .i64 kind, .slice A xs.length c] w fun e w' => GivesE w w' e (remB kind xs) (remX kind xs) := by
  obtain ⟨n, hn, h2⟩ := sizeS_nat kind
  by_cases h0 : n = 0
  · subst h0
    rw [(remX_kind hn xs).1, (remX_kind hn xs).2]
    exact rremove_kind kind hn A c xs w
  · by_cases hl : xs.length < n
    · rw [(remX_short hn (by omega) hl).1, (remX_short hn (by omega) hl).2]
      exact rremove_short kind n hn (by omega) A c xs w hl
    · rw [(remX_long hn (by omega) (by omega)).1, (remX_long hn (by omega) (by omega)).2]
      exact rremove_long kind n hn (by omega) A c xs w hs hc hr (by omega)
end Go.Proofs.Ytkcmbdnfohkjkaa
