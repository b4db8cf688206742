/-
  What an answer to reset says of T=1: the program's and the reference's.
-/
import Derived.Test.YtkhobpghiachoaaRChk05
namespace Go.Proofs.Ytkhobpghiachoaa
open Go.RowKit Crc
set_option linter.unusedVariables false

def hitF (kind : Int) (x : If) : Bool := decide (3 ≤ x.g) && decide (x.k = kind) && decide (x.p = 1)
/-- The value of the first byte of a kind for T=1. -/
def findF (kind : Int) : List If → Option Int
  | [] => none
  | x :: l => if hitF kind x = true then some x.v else findF kind l
theorem findF_drop {kind : Int} {l : List If} {k : Nat} (h : k < l.length) : findF kind (l.drop k) = if hitF kind l[k] = true then some l[k].v else findF kind (l.drop (k + 1)) := by
  rw [List.drop_eq_getElem_cons h]
  rfl
theorem findF_mem {kind : Int} : ∀ {l : List If} {v : Int}, findF kind l = some v → ∃ x ∈ l, x.v = v
  | [], v, h => by cases h
  | x :: l, v, h => by
    unfold findF at h
    split at h
    · exact ⟨x, List.mem_cons_self .., by simpa using h⟩
    · obtain ⟨y, hy, e⟩ := findF_mem h
      exact ⟨y, List.mem_cons_of_mem _ hy, e⟩
def ifsF (a : Atr) : Int := if chkF a = 0 then (match findF 0 a.bs with | some n => if n < 1 ∨ 254 < n then 32 else n | none => 32) else 0
def sumkF (a : Atr) : Int := if chkF a = 0 then (match findF 2 a.bs with | some n => if n % 2 = 1 then 1 else 0 | none => 0) else 0
theorem and_one : ∀ n : Fin 256, bits BinOp.and IntKind.i64 (n.val : Int) 1 = (n.val : Int) % 2 := by decide +kernel
theorem and_one' {n : Int} (h0 : 0 ≤ n) (h1 : n ≤ 255) : bits BinOp.and IntKind.i64 n 1 = n % 2 := by
  have h := and_one ⟨n.toNat, by omega⟩
  simp only at h
  rwa [Int.toNat_of_nonneg h0] at h

set_option maxHeartbeats 2000000 in
theorem find_go (aI : Bool) (bA : Option Addr) (bC : Nat) (bs : List If) (pA : Option Addr) (pC : Nat) (pn : Nat) (hA : Option Addr) (hC : Nat) (hn : Nat) (kind : Int) (b : Bool) (n : Int) (hf : (match findF kind bs with | some v => b = true ∧ n = v | none => b = false ∧ n = 0)) (w : World)
    (hb : RC w bA (ifv bs)) (hbl : bs.length ≤ 1048576) :
    Calls Try.prog 43 #[.agg #[.bool aI, .slice bA bs.length bC, .slice pA pn pC, .slice hA hn hC], .int .i64 kind] w fun e w' => e = .returned (.tuple #[.int .i64 n, .bool b]) ∧ Below w.heap.size w w' := by
  have hk0 := Blk.made w 27 #[.bool aI, .slice bA bs.length bC, .slice pA pn pC, .slice hA hn hC]
  have hb0 := (Below.refl w.heap.size w).alloc (Nat.le_refl _) (.cells #[.bool aI, .slice bA bs.length bC, .slice pA pn pC, .slice hA hn hC] 27)
  obtain ⟨W0, hW0⟩ : ∃ W0 : World, W0 = w.alloc (.cells #[.bool aI, .slice bA bs.length bC, .slice pA pn pC, .slice hA hn hC] 27) := ⟨_, rfl⟩
  rw [← hW0] at hk0 hb0
  have n1 : W0.cell? ⟨w.heap.size, 1, none⟩ = some (.slice bA bs.length bC) := hk0.cell 1
  have hbv := hb.below hb0
  have HFF := Lib.hid hf
  clear hf
  go_enter Try.func43, Try.ntmps43
  go_upto_region 1 with fail
  rw [← hW0]
  clear hW0
  go_wp2
  go_loopw [11] (fun i wx => ∃ k : Nat, k ≤ bs.length ∧ i = .int .i64 k ∧ Hid (findF kind (bs.drop k) = findF kind bs) ∧ Below W0.heap.size W0 wx) (fun i _ => bs.length - (intOf i).toNat)
  case atStart => exact ⟨0, Nat.zero_le _, rfl, rfl, Below.refl _ _⟩
  case round =>
    obtain ⟨k, hkl, rfl, HK, hbr⟩ := hrel
    by_cases h1 : k < bs.length
    · obtain ⟨bb, bo, rfl, hbx⟩ := RC.elem ifL (s := 4) (fun _ => rfl) (hbv.below hbr) k h1 (by decide)
      have z0 : wr.cell? ⟨bb, bo + k * 4, none⟩ = some (.int .i64 bs[k].g) := hbx 0 (by decide)
      have z1 : wr.cell? ⟨bb, bo + k * 4 + 1, none⟩ = some (.int .i64 bs[k].k) := by rw [Nat.add_assoc]; exact hbx 1 (by decide)
      have z2 : wr.cell? ⟨bb, bo + k * 4 + 2, none⟩ = some (.int .i64 bs[k].v) := by rw [Nat.add_assoc]; exact hbx 2 (by decide)
      have z3 : wr.cell? ⟨bb, bo + k * 4 + 3, none⟩ = some (.int .i64 bs[k].p) := by rw [Nat.add_assoc]; exact hbx 3 (by decide)
      have HD := Lib.hid (findF_drop (kind := kind) h1)
      clear hbx
      generalize bs[k] = x at z0 z1 z2 z3 HD
      obtain ⟨g, kd, v, p⟩ := x
      simp only at z0 z1 z2 z3 HD
      have hi1 : (0 : Int) ≤ (k : Int) := by omega
      have hi2 : (k : Int) < (bs.length : Int) := by omega
      have hbA := hbr.alloc hbr.size (.cells #[.int .i64 g, .int .i64 kd, .int .i64 v, .int .i64 p] 47)
      by_cases hh : hitF kind ⟨g, kd, v, p⟩ = true
      · have hh2 : 3 ≤ g ∧ kd = kind ∧ p = 1 := by
          unfold hitF at hh
          simp only [Bool.and_eq_true, decide_eq_true_eq] at hh
          exact ⟨hh.1.1, hh.1.2, hh.2⟩
        have HR : Hid (b = true ∧ n = v) := by
          have h := HFF.out
          rw [← HK.out, HD.out, if_pos hh] at h
          exact h
        obtain ⟨g3, e2, e3⟩ := hh2
        have e2b : (kd == kind) = true := by simpa using e2
        have e3b : (p == 1) = true := by simpa using e3
        clear e2 e3 hh
        go_wp2
        go_ret2
        exact ⟨by rw [HR.out.1, HR.out.2]; rfl, hb0.trans (hbA.mono hb0.size)⟩
      · have HR : Hid (findF kind (bs.drop (k + 1)) = findF kind bs) := by
          show _ = _
          rw [← HK.out, HD.out, if_neg hh]
        have hno : 3 ≤ g → kd = kind → p = 1 → False := fun h1 h2 h3 => hh (by unfold hitF; simp [h1, h2, h3])
        clear hh
        by_cases g3 : 3 ≤ g
        · by_cases e2 : kd = kind
          · have e2b : (kd == kind) = true := by simpa using e2
            have e3b : (p == 1) = false := by
              rw [Bool.eq_false_iff]
              intro h
              exact hno g3 e2 (by simpa using h)
            clear e2 hno
            go_wp2
            go_roundw
            case rel => exact ⟨k + 1, by omega, by go_num, HR, hbA⟩
            case measure => simp [intOf]; omega
          · have e2b : (kd == kind) = false := by simpa using e2
            clear hno
            go_wp2
            go_roundw
            case rel => exact ⟨k + 1, by omega, by go_num, HR, hbA⟩
            case measure => simp [intOf]; omega
        · clear hno
          go_wp2
          go_roundw
          case rel => exact ⟨k + 1, by omega, by go_num, HR, hbA⟩
          case measure => simp [intOf]; omega
    · have hkn : k = bs.length := by omega
      subst hkn
      have HR : Hid (b = false ∧ n = 0) := by
        have h := HFF.out
        rw [← HK.out, List.drop_length] at h
        exact h
      have hi2 : ¬ ((bs.length : Int) < (bs.length : Int)) := by omega
      go_wp2
      go_ret2
      exact ⟨by rw [HR.out.1, HR.out.2]; rfl, hb0.trans (hbr.mono hb0.size)⟩

set_option maxHeartbeats 2000000 in
theorem ifs_go (aI : Bool) (bA : Option Addr) (bC : Nat) (bs : List If) (pA : Option Addr) (pC : Nat) (ps : List Int) (hA : Option Addr) (hC : Nat) (hs : List UInt8) (R : Int) (hRR : R = ifsF ⟨aI, bA, bC, bs, pA, pC, ps, hA, hC, hs⟩) (w : World) (hi : AtrIn w ⟨aI, bA, bC, bs, pA, pC, ps, hA, hC, hs⟩) (hbl : bs.length ≤ 1000) (hpl : ps.length ≤ 1000) :
    Calls Try.prog 23 #[.agg #[.bool aI, .slice bA bs.length bC, .slice pA ps.length pC, .slice hA hs.length hC]] w fun e w' => e = .returned (.int .i64 R) ∧ Below w.heap.size w w' := by
  have hk0 := Blk.made w 27 #[.bool aI, .slice bA bs.length bC, .slice pA ps.length pC, .slice hA hs.length hC]
  have hb0 := (Below.refl w.heap.size w).alloc (Nat.le_refl _) (.cells #[.bool aI, .slice bA bs.length bC, .slice pA ps.length pC, .slice hA hs.length hC] 27)
  have HRR := Lib.hid hRR
  clear hRR
  obtain ⟨W0, hW0⟩ : ∃ W0 : World, W0 = w.alloc (.cells #[.bool aI, .slice bA bs.length bC, .slice pA ps.length pC, .slice hA hs.length hC] 27) := ⟨_, rfl⟩
  rw [← hW0] at hk0 hb0
  have hi0 := hi.below hb0
  have n0 : W0.cell? ⟨w.heap.size, 0, none⟩ = some (.bool aI) := hk0.cell 0
  have n1 : W0.cell? ⟨w.heap.size, 1, none⟩ = some (.slice bA bs.length bC) := hk0.cell 1
  have n2 : W0.cell? ⟨w.heap.size, 2, none⟩ = some (.slice pA ps.length pC) := hk0.cell 2
  have n3 : W0.cell? ⟨w.heap.size, 3, none⟩ = some (.slice hA hs.length hC) := hk0.cell 3
  have hk0s := hk0.size
  obtain ⟨C, hC0⟩ : ∃ C, C = chkF ⟨aI, bA, bC, bs, pA, pC, ps, hA, hC, hs⟩ := ⟨_, rfl⟩
  have hval : C = 0 → ∀ x ∈ bs, 0 ≤ x.v ∧ x.v ≤ 255 := fun h x hx => by
    have h1 := (chkF_zero (hC0.symm.trans h)).1
    have h2 := (valid_of h1).r.basic x hx
    omega
  go_enter Try.func23, Try.ntmps23
  go_upto_region 1 with fail
  rw [← hW0]
  clear hW0
  go_wp2_with fail
  refine (check_go aI bA bC bs pA pC ps hA hC hs C hC0 W0 hi0 hbl hpl).mono ?_
  rintro e w1 ⟨rfl, hb1⟩
  have hbw := hb0.trans (hb1.mono hb0.size)
  have HC := Lib.hid hC0
  clear hC0
  by_cases hc : C = 0
  · have hvb := hval hc
    subst hc
    clear hval
    have m0 := (hb1.cell (p := ⟨w.heap.size, 0, none⟩) hk0s).trans n0
    have m1 := (hb1.cell (p := ⟨w.heap.size, 1, none⟩) hk0s).trans n1
    have m2 := (hb1.cell (p := ⟨w.heap.size, 2, none⟩) hk0s).trans n2
    have m3 := (hb1.cell (p := ⟨w.heap.size, 3, none⟩) hk0s).trans n3
    rcases hfd : findF 0 bs with _ | v
    · have HF : Hid (R = 32) := by
        show _ = _
        rw [HRR.out]
        unfold ifsF
        rw [if_pos HC.out.symm]
        simp only [hfd]
      go_wp2_with fail
      refine (find_go aI bA bC bs pA pC ps.length hA hC hs.length 0 false 0 (by rw [hfd]; exact ⟨rfl, rfl⟩) w1 (hi0.b.below hb1) (by omega)).mono ?_
      rintro e w2 ⟨rfl, hb2⟩
      go_wp2
      go_ret
      exact ⟨by rw [HF.out]; rfl, hbw.trans (hb2.mono hbw.size)⟩
    · obtain ⟨x, hx, hxv⟩ := findF_mem hfd
      have hv := hvb x hx
      rw [hxv] at hv
      clear hxv hvb
      have HV : Hid (∀ z, (match findF 0 bs with | some n => if n < 1 ∨ 254 < n then 32 else n | none => 32) = z → R = z) := by
        intro z hz
        rw [HRR.out, ← hz]
        unfold ifsF
        rw [if_pos HC.out.symm]
      rw [hfd] at HV
      simp only at HV
      have hQ := find_go aI bA bC bs pA pC ps.length hA hC hs.length 0 true v (by rw [hfd]; exact ⟨rfl, rfl⟩) w1 (hi0.b.below hb1) (by omega)
      clear hfd
      go_wp2_with fail
      refine hQ.mono ?_
      clear hQ
      rintro e w2 ⟨rfl, hb2⟩
      have hbx := hbw.trans (hb2.mono hbw.size)
      by_cases h1 : v < 1
      · have HF := Lib.hid (HV.out 32 (by rw [if_pos (.inl h1)]))
        go_wp2
        go_ret
        exact ⟨by rw [HF.out]; rfl, hbx⟩
      · by_cases h2 : 254 < v
        · have HF := Lib.hid (HV.out 32 (by rw [if_pos (.inr h2)]))
          have h1d := decide_eq_false h1
          go_wp2
          go_ret
          exact ⟨by rw [HF.out]; rfl, hbx⟩
        · have HF := Lib.hid (HV.out v (by rw [if_neg (by omega)]))
          have h1d := decide_eq_false h1
          have h2d := decide_eq_false h2
          go_wp2
          go_ret
          exact ⟨by rw [HF.out]; rfl, hbx⟩
  · have hcb : (C != 0) = true := by simpa using hc
    have HF : Hid (R = 0) := by
      show _ = _
      rw [HRR.out]
      unfold ifsF
      rw [if_neg (by rw [← HC.out]; exact hc)]
    clear hc hval
    go_wp2
    go_ret
    exact ⟨by rw [HF.out]; rfl, hbw⟩
theorem ifs_any (a : Atr) (w : World) (hi : AtrIn w a) (hbl : a.bs.length ≤ 1000) (hpl : a.ps.length ≤ 1000) :
    Calls Try.prog 23 #[.agg (atrCs a)] w fun e w' => e = .returned (.int .i64 (ifsF a)) ∧ Below w.heap.size w w' := by
  obtain ⟨aI, bA, bC, bs, pA, pC, ps, hA, hC, hs⟩ := a
  exact ifs_go aI bA bC bs pA pC ps hA hC hs _ rfl w hi hbl hpl

set_option maxHeartbeats 2000000 in
theorem sumk_go (aI : Bool) (bA : Option Addr) (bC : Nat) (bs : List If) (pA : Option Addr) (pC : Nat) (ps : List Int) (hA : Option Addr) (hC : Nat) (hs : List UInt8) (R : Int) (hRR : R = sumkF ⟨aI, bA, bC, bs, pA, pC, ps, hA, hC, hs⟩) (w : World) (hi : AtrIn w ⟨aI, bA, bC, bs, pA, pC, ps, hA, hC, hs⟩) (hbl : bs.length ≤ 1000) (hpl : ps.length ≤ 1000) :
    Calls Try.prog 25 #[.agg #[.bool aI, .slice bA bs.length bC, .slice pA ps.length pC, .slice hA hs.length hC]] w fun e w' => e = .returned (.int .i64 R) ∧ Below w.heap.size w w' := by
  have hk0 := Blk.made w 27 #[.bool aI, .slice bA bs.length bC, .slice pA ps.length pC, .slice hA hs.length hC]
  have hb0 := (Below.refl w.heap.size w).alloc (Nat.le_refl _) (.cells #[.bool aI, .slice bA bs.length bC, .slice pA ps.length pC, .slice hA hs.length hC] 27)
  have HRR := Lib.hid hRR
  clear hRR
  obtain ⟨W0, hW0⟩ : ∃ W0 : World, W0 = w.alloc (.cells #[.bool aI, .slice bA bs.length bC, .slice pA ps.length pC, .slice hA hs.length hC] 27) := ⟨_, rfl⟩
  rw [← hW0] at hk0 hb0
  have hi0 := hi.below hb0
  have n0 : W0.cell? ⟨w.heap.size, 0, none⟩ = some (.bool aI) := hk0.cell 0
  have n1 : W0.cell? ⟨w.heap.size, 1, none⟩ = some (.slice bA bs.length bC) := hk0.cell 1
  have n2 : W0.cell? ⟨w.heap.size, 2, none⟩ = some (.slice pA ps.length pC) := hk0.cell 2
  have n3 : W0.cell? ⟨w.heap.size, 3, none⟩ = some (.slice hA hs.length hC) := hk0.cell 3
  have hk0s := hk0.size
  obtain ⟨C, hC0⟩ : ∃ C, C = chkF ⟨aI, bA, bC, bs, pA, pC, ps, hA, hC, hs⟩ := ⟨_, rfl⟩
  have hval : C = 0 → ∀ x ∈ bs, 0 ≤ x.v ∧ x.v ≤ 255 := fun h x hx => by
    have h1 := (chkF_zero (hC0.symm.trans h)).1
    have h2 := (valid_of h1).r.basic x hx
    omega
  go_enter Try.func25, Try.ntmps25
  go_upto_region 1 with fail
  rw [← hW0]
  clear hW0
  go_wp2_with fail
  refine (check_go aI bA bC bs pA pC ps hA hC hs C hC0 W0 hi0 hbl hpl).mono ?_
  rintro e w1 ⟨rfl, hb1⟩
  have hbw := hb0.trans (hb1.mono hb0.size)
  have HC := Lib.hid hC0
  clear hC0
  by_cases hc : C = 0
  · have hvb := hval hc
    subst hc
    clear hval
    have m0 := (hb1.cell (p := ⟨w.heap.size, 0, none⟩) hk0s).trans n0
    have m1 := (hb1.cell (p := ⟨w.heap.size, 1, none⟩) hk0s).trans n1
    have m2 := (hb1.cell (p := ⟨w.heap.size, 2, none⟩) hk0s).trans n2
    have m3 := (hb1.cell (p := ⟨w.heap.size, 3, none⟩) hk0s).trans n3
    rcases hfd : findF 2 bs with _ | v
    · have HF : Hid (R = 0) := by
        show _ = _
        rw [HRR.out]
        unfold sumkF
        rw [if_pos HC.out.symm]
        simp only [hfd]
      go_wp2_with fail
      refine (find_go aI bA bC bs pA pC ps.length hA hC hs.length 2 false 0 (by rw [hfd]; exact ⟨rfl, rfl⟩) w1 (hi0.b.below hb1) (by omega)).mono ?_
      rintro e w2 ⟨rfl, hb2⟩
      go_wp2
      go_ret
      exact ⟨by rw [HF.out]; rfl, hbw.trans (hb2.mono hbw.size)⟩
    · obtain ⟨x, hx, hxv⟩ := findF_mem hfd
      have hv := hvb x hx
      rw [hxv] at hv
      clear hxv hvb
      have HV : Hid (∀ z, (match findF 2 bs with | some n => if n % 2 = 1 then 1 else 0 | none => 0) = z → R = z) := by
        intro z hz
        rw [HRR.out, ← hz]
        unfold sumkF
        rw [if_pos HC.out.symm]
      rw [hfd] at HV
      simp only at HV
      have hQ := find_go aI bA bC bs pA pC ps.length hA hC hs.length 2 true v (by rw [hfd]; exact ⟨rfl, rfl⟩) w1 (hi0.b.below hb1) (by omega)
      clear hfd
      go_wp2_with fail
      refine hQ.mono ?_
      clear hQ
      rintro e w2 ⟨rfl, hb2⟩
      have hbx := hbw.trans (hb2.mono hbw.size)
      have hand := and_one' hv.1 hv.2
      by_cases h1 : v % 2 = 1
      · have HF := Lib.hid (HV.out 1 (by rw [if_pos h1]))
        have h1b : (v % 2 == 1) = true := by simpa using h1
        clear h1
        go_wp2
        go_ret
        exact ⟨by rw [HF.out]; rfl, hbx⟩
      · have HF := Lib.hid (HV.out 0 (by rw [if_neg h1]))
        have h1b : (v % 2 == 1) = false := by simpa using h1
        clear h1
        go_wp2
        go_ret
        exact ⟨by rw [HF.out]; rfl, hbx⟩
  · have hcb : (C != 0) = true := by simpa using hc
    have HF : Hid (R = 0) := by
      show _ = _
      rw [HRR.out]
      unfold sumkF
      rw [if_neg (by rw [← HC.out]; exact hc)]
    clear hc hval
    go_wp2
    go_ret
    exact ⟨by rw [HF.out]; rfl, hbw⟩
theorem sumk_any (a : Atr) (w : World) (hi : AtrIn w a) (hbl : a.bs.length ≤ 1000) (hpl : a.ps.length ≤ 1000) :
    Calls Try.prog 25 #[.agg (atrCs a)] w fun e w' => e = .returned (.int .i64 (sumkF a)) ∧ Below w.heap.size w w' := by
  obtain ⟨aI, bA, bC, bs, pA, pC, ps, hA, hC, hs⟩ := a
  exact sumk_go aI bA bC bs pA pC ps hA hC hs _ rfl w hi hbl hpl

set_option maxHeartbeats 2000000 in
theorem rifs_go (aI : Bool) (bA : Option Addr) (bC : Nat) (bs : List If) (pA : Option Addr) (pC : Nat) (ps : List Int) (hA : Option Addr) (hC : Nat) (hs : List UInt8) (R : Int) (hRR : R = ifsF ⟨aI, bA, bC, bs, pA, pC, ps, hA, hC, hs⟩) (w : World) (hi : AtrIn w ⟨aI, bA, bC, bs, pA, pC, ps, hA, hC, hs⟩) (hbl : bs.length ≤ 1000) (hpl : ps.length ≤ 1000) :
    Calls Try.prog 24 #[.agg #[.bool aI, .slice bA bs.length bC, .slice pA ps.length pC, .slice hA hs.length hC]] w fun e w' => e = .returned (.int .i64 R) ∧ Below w.heap.size w w' := by
  have hk0 := Blk.made w 27 #[.bool aI, .slice bA bs.length bC, .slice pA ps.length pC, .slice hA hs.length hC]
  have hb0 := (Below.refl w.heap.size w).alloc (Nat.le_refl _) (.cells #[.bool aI, .slice bA bs.length bC, .slice pA ps.length pC, .slice hA hs.length hC] 27)
  have HRR := Lib.hid hRR
  clear hRR
  obtain ⟨W0, hW0⟩ : ∃ W0 : World, W0 = w.alloc (.cells #[.bool aI, .slice bA bs.length bC, .slice pA ps.length pC, .slice hA hs.length hC] 27) := ⟨_, rfl⟩
  rw [← hW0] at hk0 hb0
  have hi0 := hi.below hb0
  have n0 : W0.cell? ⟨w.heap.size, 0, none⟩ = some (.bool aI) := hk0.cell 0
  have n1 : W0.cell? ⟨w.heap.size, 1, none⟩ = some (.slice bA bs.length bC) := hk0.cell 1
  have n2 : W0.cell? ⟨w.heap.size, 2, none⟩ = some (.slice pA ps.length pC) := hk0.cell 2
  have n3 : W0.cell? ⟨w.heap.size, 3, none⟩ = some (.slice hA hs.length hC) := hk0.cell 3
  have hk0s := hk0.size
  obtain ⟨C, hC0⟩ : ∃ C, C = chkF ⟨aI, bA, bC, bs, pA, pC, ps, hA, hC, hs⟩ := ⟨_, rfl⟩
  have hval : C = 0 → ∀ x ∈ bs, 0 ≤ x.v ∧ x.v ≤ 255 := fun h x hx => by
    have h1 := (chkF_zero (hC0.symm.trans h)).1
    have h2 := (valid_of h1).r.basic x hx
    omega
  go_enter Try.func24, Try.ntmps24
  go_upto_region 1 with fail
  rw [← hW0]
  clear hW0
  go_wp2_with fail
  refine (rcheck_go aI bA bC bs pA pC ps hA hC hs C hC0 W0 hi0 hbl hpl).mono ?_
  rintro e w1 ⟨rfl, hb1⟩
  have hbw := hb0.trans (hb1.mono hb0.size)
  have HC := Lib.hid hC0
  clear hC0
  by_cases hc : C = 0
  · have hvb := hval hc
    subst hc
    clear hval
    have m0 := (hb1.cell (p := ⟨w.heap.size, 0, none⟩) hk0s).trans n0
    have m1 := (hb1.cell (p := ⟨w.heap.size, 1, none⟩) hk0s).trans n1
    have m2 := (hb1.cell (p := ⟨w.heap.size, 2, none⟩) hk0s).trans n2
    have m3 := (hb1.cell (p := ⟨w.heap.size, 3, none⟩) hk0s).trans n3
    have HV : Hid (∀ z, (match findF 0 bs with | some n => if n < 1 ∨ 254 < n then 32 else n | none => 32) = z → R = z) := by
      intro z hz
      rw [HRR.out, ← hz]
      unfold ifsF
      rw [if_pos HC.out.symm]
    have hbv := hi0.b.below hb1
    have hk1s : w.heap.size < w1.heap.size := Nat.lt_of_lt_of_le hk0s hb1.size
    go_wp2
    go_loopw [3] (fun i wx => ∃ k : Nat, k ≤ bs.length ∧ i = .int .i64 k ∧ Hid (findF 0 (bs.drop k) = findF 0 bs) ∧ Below w1.heap.size w1 wx) (fun i _ => bs.length - (intOf i).toNat)
    case atStart => exact ⟨0, Nat.zero_le _, rfl, rfl, Below.refl _ _⟩
    case round =>
      obtain ⟨k, hkl, rfl, HK, hbr⟩ := hrel
      clear m0 m1 m2 m3
      have c1 := ((hbr.cell (p := ⟨w.heap.size, 1, none⟩) hk1s).trans ((hb1.cell (p := ⟨w.heap.size, 1, none⟩) hk0s).trans n1))
      by_cases h1 : k < bs.length
      · obtain ⟨bb, bo, rfl, hbx⟩ := RC.elem ifL (s := 4) (fun _ => rfl) (hbv.below hbr) k h1 (by decide)
        have hvx := hvb bs[k] (List.getElem_mem h1)
        have z0 : wr.cell? ⟨bb, bo + k * 4, none⟩ = some (.int .i64 bs[k].g) := hbx 0 (by decide)
        have z1 : wr.cell? ⟨bb, bo + k * 4 + 1, none⟩ = some (.int .i64 bs[k].k) := by rw [Nat.add_assoc]; exact hbx 1 (by decide)
        have z2 : wr.cell? ⟨bb, bo + k * 4 + 2, none⟩ = some (.int .i64 bs[k].v) := by rw [Nat.add_assoc]; exact hbx 2 (by decide)
        have z3 : wr.cell? ⟨bb, bo + k * 4 + 3, none⟩ = some (.int .i64 bs[k].p) := by rw [Nat.add_assoc]; exact hbx 3 (by decide)
        have HD := Lib.hid (findF_drop (kind := 0) h1)
        clear hbx
        generalize bs[k] = x at z0 z1 z2 z3 HD hvx
        obtain ⟨g, kd, v, p⟩ := x
        simp only at z0 z1 z2 z3 HD hvx
        have hi1 : (0 : Int) ≤ (k : Int) := by omega
        have hi2 : (k : Int) < (bs.length : Int) := by omega
        have hbA := hbr.alloc hbr.size (.cells #[.int .i64 g, .int .i64 kd, .int .i64 v, .int .i64 p] 47)
        have hbZ := hbw.trans (hbA.mono hbw.size)
        by_cases hh : hitF 0 ⟨g, kd, v, p⟩ = true
        · have hh2 : 3 ≤ g ∧ kd = 0 ∧ p = 1 := by
            unfold hitF at hh
            simp only [Bool.and_eq_true, decide_eq_true_eq] at hh
            exact ⟨hh.1.1, hh.1.2, hh.2⟩
          have HW : Hid (∀ z, (match some v with | some n => if n < 1 ∨ 254 < n then 32 else n | none => 32) = z → R = z) := by
            have h := HV.out
            rw [← HK.out, HD.out, if_pos hh] at h
            exact h
          simp only at HW
          obtain ⟨g3, e2, e3⟩ := hh2
          have e2b : (kd == 0) = true := by simpa using e2
          have e3b : (p == 1) = true := by simpa using e3
          clear e2 e3 hh HV
          obtain ⟨hv0, hv1⟩ := hvx
          by_cases h1 : 1 ≤ v
          · by_cases h2 : v ≤ 254
            · have HF := Lib.hid (HW.out v (by rw [if_neg (by omega)]))
              go_wp2
              go_ret
              exact ⟨by rw [HF.out]; rfl, hbZ⟩
            · have HF := Lib.hid (HW.out 32 (by rw [if_pos (by omega)]))
              have h2d := decide_eq_false h2
              go_wp2
              go_ret
              exact ⟨by rw [HF.out]; rfl, hbZ⟩
          · have HF := Lib.hid (HW.out 32 (by rw [if_pos (by omega)]))
            have h1d := decide_eq_false h1
            go_wp2
            go_ret
            exact ⟨by rw [HF.out]; rfl, hbZ⟩
        · have HR : Hid (findF 0 (bs.drop (k + 1)) = findF 0 bs) := by
            show _ = _
            rw [← HK.out, HD.out, if_neg hh]
          have hno : 3 ≤ g → kd = 0 → p = 1 → False := fun h1 h2 h3 => hh (by unfold hitF; simp [h1, h2, h3])
          clear hh
          by_cases g3 : 3 ≤ g
          · by_cases e2 : kd = 0
            · have e2b : (kd == 0) = true := by simpa using e2
              have e3b : (p == 1) = false := by
                rw [Bool.eq_false_iff]
                intro h
                exact hno g3 e2 (by simpa using h)
              clear e2 hno
              go_wp2
              go_roundw
              case rel => exact ⟨k + 1, by omega, by go_num, HR, hbA⟩
              case measure => simp [intOf]; omega
            · have e2b : (kd == 0) = false := by simpa using e2
              clear hno
              go_wp2
              go_roundw
              case rel => exact ⟨k + 1, by omega, by go_num, HR, hbA⟩
              case measure => simp [intOf]; omega
          · clear hno
            go_wp2
            go_roundw
            case rel => exact ⟨k + 1, by omega, by go_num, HR, hbA⟩
            case measure => simp [intOf]; omega
      · have hkn : k = bs.length := by omega
        subst hkn
        have HF := Lib.hid (HV.out 32 (by rw [← HK.out, List.drop_length]; rfl))
        have hi2 : ¬ ((bs.length : Int) < (bs.length : Int)) := by omega
        go_wp2
        go_ret
        exact ⟨by rw [HF.out]; rfl, hbw.trans (hbr.mono hbw.size)⟩
  · have hcb : (C != 0) = true := by simpa using hc
    have HF : Hid (R = 0) := by
      show _ = _
      rw [HRR.out]
      unfold ifsF
      rw [if_neg (by rw [← HC.out]; exact hc)]
    clear hc hval
    go_wp2
    go_ret
    exact ⟨by rw [HF.out]; rfl, hbw⟩
theorem rifs_any (a : Atr) (w : World) (hi : AtrIn w a) (hbl : a.bs.length ≤ 1000) (hpl : a.ps.length ≤ 1000) :
    Calls Try.prog 24 #[.agg (atrCs a)] w fun e w' => e = .returned (.int .i64 (ifsF a)) ∧ Below w.heap.size w w' := by
  obtain ⟨aI, bA, bC, bs, pA, pC, ps, hA, hC, hs⟩ := a
  exact rifs_go aI bA bC bs pA pC ps hA hC hs _ rfl w hi hbl hpl

set_option maxHeartbeats 2000000 in
theorem rsumk_go (aI : Bool) (bA : Option Addr) (bC : Nat) (bs : List If) (pA : Option Addr) (pC : Nat) (ps : List Int) (hA : Option Addr) (hC : Nat) (hs : List UInt8) (R : Int) (hRR : R = sumkF ⟨aI, bA, bC, bs, pA, pC, ps, hA, hC, hs⟩) (w : World) (hi : AtrIn w ⟨aI, bA, bC, bs, pA, pC, ps, hA, hC, hs⟩) (hbl : bs.length ≤ 1000) (hpl : ps.length ≤ 1000) :
    Calls Try.prog 26 #[.agg #[.bool aI, .slice bA bs.length bC, .slice pA ps.length pC, .slice hA hs.length hC]] w fun e w' => e = .returned (.int .i64 R) ∧ Below w.heap.size w w' := by
  have hk0 := Blk.made w 27 #[.bool aI, .slice bA bs.length bC, .slice pA ps.length pC, .slice hA hs.length hC]
  have hb0 := (Below.refl w.heap.size w).alloc (Nat.le_refl _) (.cells #[.bool aI, .slice bA bs.length bC, .slice pA ps.length pC, .slice hA hs.length hC] 27)
  have HRR := Lib.hid hRR
  clear hRR
  obtain ⟨W0, hW0⟩ : ∃ W0 : World, W0 = w.alloc (.cells #[.bool aI, .slice bA bs.length bC, .slice pA ps.length pC, .slice hA hs.length hC] 27) := ⟨_, rfl⟩
  rw [← hW0] at hk0 hb0
  have hi0 := hi.below hb0
  have n0 : W0.cell? ⟨w.heap.size, 0, none⟩ = some (.bool aI) := hk0.cell 0
  have n1 : W0.cell? ⟨w.heap.size, 1, none⟩ = some (.slice bA bs.length bC) := hk0.cell 1
  have n2 : W0.cell? ⟨w.heap.size, 2, none⟩ = some (.slice pA ps.length pC) := hk0.cell 2
  have n3 : W0.cell? ⟨w.heap.size, 3, none⟩ = some (.slice hA hs.length hC) := hk0.cell 3
  have hk0s := hk0.size
  obtain ⟨C, hC0⟩ : ∃ C, C = chkF ⟨aI, bA, bC, bs, pA, pC, ps, hA, hC, hs⟩ := ⟨_, rfl⟩
  have hval : C = 0 → ∀ x ∈ bs, 0 ≤ x.v ∧ x.v ≤ 255 := fun h x hx => by
    have h1 := (chkF_zero (hC0.symm.trans h)).1
    have h2 := (valid_of h1).r.basic x hx
    omega
  go_enter Try.func26, Try.ntmps26
  go_upto_region 1 with fail
  rw [← hW0]
  clear hW0
  go_wp2_with fail
  refine (rcheck_go aI bA bC bs pA pC ps hA hC hs C hC0 W0 hi0 hbl hpl).mono ?_
  rintro e w1 ⟨rfl, hb1⟩
  have hbw := hb0.trans (hb1.mono hb0.size)
  have HC := Lib.hid hC0
  clear hC0
  by_cases hc : C = 0
  · have hvb := hval hc
    subst hc
    clear hval
    have m0 := (hb1.cell (p := ⟨w.heap.size, 0, none⟩) hk0s).trans n0
    have m1 := (hb1.cell (p := ⟨w.heap.size, 1, none⟩) hk0s).trans n1
    have m2 := (hb1.cell (p := ⟨w.heap.size, 2, none⟩) hk0s).trans n2
    have m3 := (hb1.cell (p := ⟨w.heap.size, 3, none⟩) hk0s).trans n3
    have HV : Hid (∀ z, (match findF 2 bs with | some n => if n % 2 = 1 then 1 else 0 | none => 0) = z → R = z) := by
      intro z hz
      rw [HRR.out, ← hz]
      unfold sumkF
      rw [if_pos HC.out.symm]
    have hbv := hi0.b.below hb1
    have hk1s : w.heap.size < w1.heap.size := Nat.lt_of_lt_of_le hk0s hb1.size
    go_wp2
    go_loopw [3] (fun i wx => ∃ k : Nat, k ≤ bs.length ∧ i = .int .i64 k ∧ Hid (findF 2 (bs.drop k) = findF 2 bs) ∧ Below w1.heap.size w1 wx) (fun i _ => bs.length - (intOf i).toNat)
    case atStart => exact ⟨0, Nat.zero_le _, rfl, rfl, Below.refl _ _⟩
    case round =>
      obtain ⟨k, hkl, rfl, HK, hbr⟩ := hrel
      clear m0 m1 m2 m3
      have c1 := ((hbr.cell (p := ⟨w.heap.size, 1, none⟩) hk1s).trans ((hb1.cell (p := ⟨w.heap.size, 1, none⟩) hk0s).trans n1))
      by_cases h1 : k < bs.length
      · obtain ⟨bb, bo, rfl, hbx⟩ := RC.elem ifL (s := 4) (fun _ => rfl) (hbv.below hbr) k h1 (by decide)
        have hvx := hvb bs[k] (List.getElem_mem h1)
        have z0 : wr.cell? ⟨bb, bo + k * 4, none⟩ = some (.int .i64 bs[k].g) := hbx 0 (by decide)
        have z1 : wr.cell? ⟨bb, bo + k * 4 + 1, none⟩ = some (.int .i64 bs[k].k) := by rw [Nat.add_assoc]; exact hbx 1 (by decide)
        have z2 : wr.cell? ⟨bb, bo + k * 4 + 2, none⟩ = some (.int .i64 bs[k].v) := by rw [Nat.add_assoc]; exact hbx 2 (by decide)
        have z3 : wr.cell? ⟨bb, bo + k * 4 + 3, none⟩ = some (.int .i64 bs[k].p) := by rw [Nat.add_assoc]; exact hbx 3 (by decide)
        have HD := Lib.hid (findF_drop (kind := 2) h1)
        clear hbx
        generalize bs[k] = x at z0 z1 z2 z3 HD hvx
        obtain ⟨g, kd, v, p⟩ := x
        simp only at z0 z1 z2 z3 HD hvx
        have hi1 : (0 : Int) ≤ (k : Int) := by omega
        have hi2 : (k : Int) < (bs.length : Int) := by omega
        have hbA := hbr.alloc hbr.size (.cells #[.int .i64 g, .int .i64 kd, .int .i64 v, .int .i64 p] 47)
        have hbZ := hbw.trans (hbA.mono hbw.size)
        by_cases hh : hitF 2 ⟨g, kd, v, p⟩ = true
        · have hh2 : 3 ≤ g ∧ kd = 2 ∧ p = 1 := by
            unfold hitF at hh
            simp only [Bool.and_eq_true, decide_eq_true_eq] at hh
            exact ⟨hh.1.1, hh.1.2, hh.2⟩
          have HW : Hid (∀ z, (match some v with | some n => if n % 2 = 1 then 1 else 0 | none => 0) = z → R = z) := by
            have h := HV.out
            rw [← HK.out, HD.out, if_pos hh] at h
            exact h
          simp only at HW
          obtain ⟨g3, e2, e3⟩ := hh2
          have e2b : (kd == 2) = true := by simpa using e2
          have e3b : (p == 1) = true := by simpa using e3
          clear e2 e3 hh HV
          obtain ⟨hv0, hv1⟩ := hvx
          by_cases h1 : v % 2 = 1
          · have HF := Lib.hid (HW.out 1 (by rw [if_pos h1]))
            have h1b : (v % 2 == 1) = true := by simpa using h1
            clear h1
            go_wp2
            go_ret
            exact ⟨by rw [HF.out]; rfl, hbZ⟩
          · have HF := Lib.hid (HW.out 0 (by rw [if_neg h1]))
            have h1b : (v % 2 == 1) = false := by simpa using h1
            clear h1
            go_wp2
            go_ret
            exact ⟨by rw [HF.out]; rfl, hbZ⟩
        · have HR : Hid (findF 2 (bs.drop (k + 1)) = findF 2 bs) := by
            show _ = _
            rw [← HK.out, HD.out, if_neg hh]
          have hno : 3 ≤ g → kd = 2 → p = 1 → False := fun h1 h2 h3 => hh (by unfold hitF; simp [h1, h2, h3])
          clear hh
          by_cases g3 : 3 ≤ g
          · by_cases e2 : kd = 2
            · have e2b : (kd == 2) = true := by simpa using e2
              have e3b : (p == 1) = false := by
                rw [Bool.eq_false_iff]
                intro h
                exact hno g3 e2 (by simpa using h)
              clear e2 hno
              go_wp2
              go_roundw
              case rel => exact ⟨k + 1, by omega, by go_num, HR, hbA⟩
              case measure => simp [intOf]; omega
            · have e2b : (kd == 2) = false := by simpa using e2
              clear hno
              go_wp2
              go_roundw
              case rel => exact ⟨k + 1, by omega, by go_num, HR, hbA⟩
              case measure => simp [intOf]; omega
          · clear hno
            go_wp2
            go_roundw
            case rel => exact ⟨k + 1, by omega, by go_num, HR, hbA⟩
            case measure => simp [intOf]; omega
      · have hkn : k = bs.length := by omega
        subst hkn
        have HF := Lib.hid (HV.out 0 (by rw [← HK.out, List.drop_length]; rfl))
        have hi2 : ¬ ((bs.length : Int) < (bs.length : Int)) := by omega
        go_wp2
        go_ret
        exact ⟨by rw [HF.out]; rfl, hbw.trans (hbr.mono hbw.size)⟩
  · have hcb : (C != 0) = true := by simpa using hc
    have HF : Hid (R = 0) := by
      show _ = _
      rw [HRR.out]
      unfold sumkF
      rw [if_neg (by rw [← HC.out]; exact hc)]
    clear hc hval
    go_wp2
    go_ret
    exact ⟨by rw [HF.out]; rfl, hbw⟩
theorem rsumk_any (a : Atr) (w : World) (hi : AtrIn w a) (hbl : a.bs.length ≤ 1000) (hpl : a.ps.length ≤ 1000) :
    Calls Try.prog 26 #[.agg (atrCs a)] w fun e w' => e = .returned (.int .i64 (sumkF a)) ∧ Below w.heap.size w w' := by
  obtain ⟨aI, bA, bC, bs, pA, pC, ps, hA, hC, hs⟩ := a
  exact rsumk_go aI bA bC bs pA pC ps hA hC hs _ rfl w hi hbl hpl
end Go.Proofs.Ytkhobpghiachoaa
