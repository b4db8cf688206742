/-
  The card's answer to a request: the program's and the reference's.
-/
import Derived.Test.YtkhobpghiachoaaFurther05
import Derived.Test.YtkhobpghiachoaaRChk05
import Derived.Test.YtkhobpghiachoaaReq05
namespace Go.Proofs.Ytkhobpghiachoaa
open Go.RowKit Crc Go.Maps
set_option linter.unusedVariables false

def ansE (a : Atr) (q : List UInt8) : Int := if chkF a = 0 then (if parE q = 0 then (if (tB q : Int) % 16 ∈ a.ps then 0 else 28) else parE q) else 1
def ansN (a : Atr) (q : List UInt8) : Int := if ansE a q = 0 then (tB q : Int) % 16 else 0
def ansB (a : Atr) (q : List UInt8) : List UInt8 := if ansE a q = 0 then reqB ((tB q : Int) % 16) else []
/-- What Answer hands back. -/
def Answered (a : Atr) (q : List UInt8) (w : World) (e : Ending) (w' : World) : Prop :=
  ∃ A c, e = .returned (.tuple #[.slice A (ansB a q).length c, .int .i64 (ansN a q), .int .i64 (ansE a q)]) ∧ RB w' A (ansB a q) ∧ Below w.heap.size w w'
theorem answered_bad {a : Atr} {q : List UInt8} {w w' : World} {E : Int} (h : ansE a q = E) (h0 : E ≠ 0) (hb : Below w.heap.size w w') : Answered a q w (.returned (.tuple #[.slice none 0 0, .int .i64 0, .int .i64 E])) w' := by
  have hB : ansB a q = [] := by unfold ansB; rw [h, if_neg h0]
  have hN : ansN a q = 0 := by unfold ansN; rw [h, if_neg h0]
  refine ⟨none, 0, ?_, ?_, hb⟩
  · rw [hB, hN, h]; rfl
  · rw [hB]; exact RB.nil _ _
theorem answered_ok {a : Atr} {q : List UInt8} {w w' : World} {A : Option Addr} {c : Nat} (h : ansE a q = 0) (hr : RB w' A (reqB ((tB q : Int) % 16))) (hb : Below w.heap.size w w') :
    Answered a q w (.returned (.tuple #[.slice A (reqB ((tB q : Int) % 16)).length c, .int .i64 ((tB q : Int) % 16), .int .i64 0])) w' := by
  have hB : ansB a q = reqB ((tB q : Int) % 16) := by unfold ansB; rw [h, if_pos rfl]
  have hN : ansN a q = (tB q : Int) % 16 := by unfold ansN; rw [h, if_pos rfl]
  refine ⟨A, c, ?_, ?_, hb⟩
  · rw [hB, hN, h]
  · rw [hB]; exact hr
theorem parE_pos {q : List UInt8} (h : parE q = 0) : 2 ≤ q.length := by
  unfold parE at h
  split at h
  · cases h
  · rename_i h2
    unfold headBad at h2
    simp only [Bool.or_eq_true, decide_eq_true_eq] at h2
    omega

set_option maxRecDepth 100000 in
set_option maxHeartbeats 4000000 in
theorem answer_go (aI : Bool) (bA : Option Addr) (bC : Nat) (bs : List If) (pA : Option Addr) (pC : Nat) (ps : List Int) (hA : Option Addr) (hC : Nat) (hs : List UInt8) (B : Option Addr) (d : Nat) (q : List UInt8) (w : World) (hi : AtrIn w ⟨aI, bA, bC, bs, pA, pC, ps, hA, hC, hs⟩) (hbl : bs.length ≤ 1000) (hpl : ps.length ≤ 1000) (hql : q.length ≤ 60000) (hqd : q.length ≤ d) (hq : RB w B q) :
    Calls Try.prog 27 #[.agg #[.bool aI, .slice bA bs.length bC, .slice pA ps.length pC, .slice hA hs.length hC], .slice B q.length d] w (Answered ⟨aI, bA, bC, bs, pA, pC, ps, hA, hC, hs⟩ q w) := by
  have hk0 := Blk.made w 27 #[.bool aI, .slice bA bs.length bC, .slice pA ps.length pC, .slice hA hs.length hC]
  have hb0 := (Below.refl w.heap.size w).alloc (Nat.le_refl _) (.cells #[.bool aI, .slice bA bs.length bC, .slice pA ps.length pC, .slice hA hs.length hC] 27)
  obtain ⟨W0, hW0⟩ : ∃ W0 : World, W0 = w.alloc (.cells #[.bool aI, .slice bA bs.length bC, .slice pA ps.length pC, .slice hA hs.length hC] 27) := ⟨_, rfl⟩
  rw [← hW0] at hk0 hb0
  have hi0 := hi.below hb0
  have n0 : W0.cell? ⟨w.heap.size, 0, none⟩ = some (.bool aI) := hk0.cell 0
  have n1 : W0.cell? ⟨w.heap.size, 1, none⟩ = some (.slice bA bs.length bC) := hk0.cell 1
  have n2 : W0.cell? ⟨w.heap.size, 2, none⟩ = some (.slice pA ps.length pC) := hk0.cell 2
  have n3 : W0.cell? ⟨w.heap.size, 3, none⟩ = some (.slice hA hs.length hC) := hk0.cell 3
  have hk0s := hk0.size
  have hqW := hq.below hb0
  obtain ⟨a, ha⟩ : ∃ a : Atr, a = ⟨aI, bA, bC, bs, pA, pC, ps, hA, hC, hs⟩ := ⟨_, rfl⟩
  have hal : a.ps = ps := by rw [ha]
  rw [← ha]
  obtain ⟨C, hC0⟩ : ∃ C, C = chkF ⟨aI, bA, bC, bs, pA, pC, ps, hA, hC, hs⟩ := ⟨_, rfl⟩
  have hCa : C = chkF a := by rw [hC0, ha]
  have hps01 : C = 0 → ∀ x ∈ ps, x = 0 ∨ x = 1 := fun h => by
    have h1 := (chkF_zero (hC0.symm.trans h)).1
    exact (okPs_one (valid_of h1).ps).1
  have hCE : Hid (C = chkF ⟨aI, bA, bC, bs, pA, pC, ps, hA, hC, hs⟩) := hC0
  clear ha hC0
  go_enter Try.func27, Try.ntmps27
  go_upto_region 1 with fail
  rw [← hW0]
  clear hW0
  go_wp2_with fail
  refine (check_go aI bA bC bs pA pC ps hA hC hs C hCE.out W0 hi0 hbl hpl).mono ?_
  rintro e w1 ⟨rfl, hb1⟩
  have hbw := hb0.trans (hb1.mono hb0.size)
  have HCA := Lib.hid hCa
  clear hCa hCE
  by_cases hc : C = 0
  · have h01 := hps01 hc
    have HC0 : Hid (chkF a = 0) := by show _ = _; rw [← HCA.out, hc]
    subst hc
    clear hps01
    have hq1 := hqW.below hb1
    have m2 := (hb1.cell (p := ⟨w.heap.size, 2, none⟩) hk0s).trans n2
    go_wp2_with fail
    refine (parse_go B d q w1 hql hqd hq1).mono ?_
    rintro e w2 ⟨mv, rfl, _, hb2⟩
    have hb2' := hb1.trans (hb2.mono hb1.size)
    have hbw2 := hb0.trans (hb2'.mono hb0.size)
    by_cases hz : parE q = 0
    · rw [hz, if_pos rfl]
      have HZ := Lib.hid hz
      clear hz m2
      have m2 := (hb2'.cell (p := ⟨w.heap.size, 2, none⟩) hk0s).trans n2
      have hE : ansE a q = if (tB q : Int) % 16 ∈ ps then 0 else 28 := by
        unfold ansE
        rw [HC0.out, if_pos rfl, HZ.out, if_pos rfl, hal]
      have hrq : (tB q : Int) % 16 ∈ ps → _ := fun h => req_any ((tB q : Int) % 16) (h01 _ h) w2
      have hok : ∀ A c w', ansE a q = 0 → RB w' A (reqB ((tB q : Int) % 16)) → Below w.heap.size w w' → Hid (Answered a q w (.returned (.tuple #[.slice A (reqB ((tB q : Int) % 16)).length c, .int .i64 ((tB q : Int) % 16), .int .i64 0])) w') := fun A c w' h1 h2 h3 => answered_ok h1 h2 h3
      have HOK := Lib.hid hok
      clear hok
      have hcon := contains_any pA pC ps ((tB q : Int) % 16) w2 (by omega) (hi0.p.below hb2')
      generalize (tB q : Int) % 16 = p at hE hrq HOK hcon
      go_wp2_with fail
      refine hcon.mono ?_
      rintro e w3 ⟨rfl, rfl⟩
      clear hcon
      by_cases hm : p ∈ ps
      · have HE : Hid (ansE a q = 0) := by show _ = _; rw [hE, if_pos hm]
        have hrq' := hrq hm
        rw [decide_eq_true hm]
        clear hE hrq hm
        go_wp2_with fail
        refine hrq'.mono ?_
        clear hrq'
        rintro e w3 ⟨A3, c3, rfl, hr3, hb3⟩
        have hbw3 := hbw2.trans (hb3.mono hbw2.size)
        go_wp2
        go_ret3
        exact (HOK.out A3 c3 w3 HE.out hr3 hbw3).out
      · have HE : Hid (ansE a q = 28) := by show _ = _; rw [hE, if_neg hm]
        rw [decide_eq_false hm]
        clear hE hrq hm
        go_wp2
        go_ret3
        exact answered_bad HE.out (by decide) hbw2
    · have HE : Hid (ansE a q = parE q) := by
        show _ = _
        unfold ansE
        rw [HC0.out, if_pos rfl, if_neg hz]
      rw [if_neg hz]
      have HZ := Lib.hid hz
      have hzb : (parE q != 0) = true := by simpa using hz
      clear hz
      obtain ⟨pe, hpe⟩ : ∃ pe, pe = parE q := ⟨_, rfl⟩
      rw [← hpe] at hzb
      rw [← hpe]
      have HPE := Lib.hid hpe
      clear hpe
      go_wp2
      go_ret3
      exact answered_bad (E := pe) (HE.out.trans HPE.out.symm) (by rw [HPE.out]; exact HZ.out) hbw2
  · have hcb : (C != 0) = true := by simpa using hc
    have HF : Hid (ansE a q = 1) := by
      show _ = _
      unfold ansE
      rw [if_neg (by rw [← HCA.out]; exact hc)]
    clear hc hps01
    go_wp2
    go_ret3
    exact answered_bad HF.out (by decide) hbw

set_option maxRecDepth 100000 in
set_option maxHeartbeats 4000000 in
theorem ranswer_go (aI : Bool) (bA : Option Addr) (bC : Nat) (bs : List If) (pA : Option Addr) (pC : Nat) (ps : List Int) (hA : Option Addr) (hC : Nat) (hs : List UInt8) (B : Option Addr) (d : Nat) (q : List UInt8) (w : World) (hi : AtrIn w ⟨aI, bA, bC, bs, pA, pC, ps, hA, hC, hs⟩) (hbl : bs.length ≤ 1000) (hpl : ps.length ≤ 1000) (hql : q.length ≤ 60000) (hqd : q.length ≤ d) (hq : RB w B q) :
    Calls Try.prog 28 #[.agg #[.bool aI, .slice bA bs.length bC, .slice pA ps.length pC, .slice hA hs.length hC], .slice B q.length d] w (Answered ⟨aI, bA, bC, bs, pA, pC, ps, hA, hC, hs⟩ q w) := by
  have hk0 := Blk.made w 27 #[.bool aI, .slice bA bs.length bC, .slice pA ps.length pC, .slice hA hs.length hC]
  have hb0 := (Below.refl w.heap.size w).alloc (Nat.le_refl _) (.cells #[.bool aI, .slice bA bs.length bC, .slice pA ps.length pC, .slice hA hs.length hC] 27)
  obtain ⟨W0, hW0⟩ : ∃ W0 : World, W0 = w.alloc (.cells #[.bool aI, .slice bA bs.length bC, .slice pA ps.length pC, .slice hA hs.length hC] 27) := ⟨_, rfl⟩
  rw [← hW0] at hk0 hb0
  have hi0 := hi.below hb0
  have n0 : W0.cell? ⟨w.heap.size, 0, none⟩ = some (.bool aI) := hk0.cell 0
  have n1 : W0.cell? ⟨w.heap.size, 1, none⟩ = some (.slice bA bs.length bC) := hk0.cell 1
  have n2 : W0.cell? ⟨w.heap.size, 2, none⟩ = some (.slice pA ps.length pC) := hk0.cell 2
  have n3 : W0.cell? ⟨w.heap.size, 3, none⟩ = some (.slice hA hs.length hC) := hk0.cell 3
  have hk0s := hk0.size
  have hqW := hq.below hb0
  obtain ⟨a, ha⟩ : ∃ a : Atr, a = ⟨aI, bA, bC, bs, pA, pC, ps, hA, hC, hs⟩ := ⟨_, rfl⟩
  have hal : a.ps = ps := by rw [ha]
  rw [← ha]
  obtain ⟨C, hC0⟩ : ∃ C, C = chkF ⟨aI, bA, bC, bs, pA, pC, ps, hA, hC, hs⟩ := ⟨_, rfl⟩
  have hCa : C = chkF a := by rw [hC0, ha]
  have hps01 : C = 0 → ∀ x ∈ ps, x = 0 ∨ x = 1 := fun h => by
    have h1 := (chkF_zero (hC0.symm.trans h)).1
    exact (okPs_one (valid_of h1).ps).1
  have hCE : Hid (C = chkF ⟨aI, bA, bC, bs, pA, pC, ps, hA, hC, hs⟩) := hC0
  clear ha hC0
  go_enter Try.func28, Try.ntmps28
  go_upto_region 1 with fail
  rw [← hW0]
  clear hW0
  go_wp2_with fail
  refine (rcheck_go aI bA bC bs pA pC ps hA hC hs C hCE.out W0 hi0 hbl hpl).mono ?_
  rintro e w1 ⟨rfl, hb1⟩
  have hbw := hb0.trans (hb1.mono hb0.size)
  have HCA := Lib.hid hCa
  clear hCa hCE
  by_cases hc : C = 0
  · have h01 := hps01 hc
    have HC0 : Hid (chkF a = 0) := by show _ = _; rw [← HCA.out, hc]
    subst hc
    clear hps01
    have hq1 := hqW.below hb1
    have m2 := (hb1.cell (p := ⟨w.heap.size, 2, none⟩) hk0s).trans n2
    go_wp2_with fail
    refine (further_go B d q w1 hql hqd hq1).mono ?_
    rintro e w2 ⟨x0, x1, x2, rfl, _, hb2⟩
    have hb2' := hb1.trans (hb2.mono hb1.size)
    have hbw2 := hb0.trans (hb2'.mono hb0.size)
    have hbA := (Below.refl w2.heap.size w2).alloc (Nat.le_refl _) (.cells #[.int .i64 x0, .int .i64 x1, .int .i64 x2] 65)
    have hbA' := hb2'.trans (hbA.mono hb2'.size)
    have hbwA := hb0.trans (hbA'.mono hb0.size)
    by_cases hz : parE q = 0
    · have hql2 := parE_pos hz
      rw [hz]
      have HZ := Lib.hid hz
      clear hz m2
      have hE : ansE a q = if (tB q : Int) % 16 ∈ ps then 0 else 28 := by
        unfold ansE
        rw [HC0.out, if_pos rfl, HZ.out, if_pos rfl, hal]
      have hok : ∀ A c w', ansE a q = 0 → RB w' A (reqB ((tB q : Int) % 16)) → Below w.heap.size w w' → Hid (Answered a q w (.returned (.tuple #[.slice A (reqB ((tB q : Int) % 16)).length c, .int .i64 ((tB q : Int) % 16), .int .i64 0])) w') := fun A c w' h1 h2 h3 => answered_ok h1 h2 h3
      have HOK := Lib.hid hok
      clear hok
      obtain ⟨qb, qo, rfl, hcel⟩ := hqW.at_ (by omega)
      have e1 : tB q = (q[1]'(by omega)).toNat := by unfold tB; simp [List.getD, show 1 < q.length from by omega]
      have z1 := hcel 1 (by omega)
      clear hcel
      generalize q[1]'(by omega) = t at z1 e1
      rw [e1] at hE HOK
      have hqi : (1 : Int) < (q.length : Int) := by omega
      obtain ⟨W5, hW5⟩ : ∃ W5 : World, W5 = w2.alloc (.cells #[.int .i64 x0, .int .i64 x1, .int .i64 x2] 65) := ⟨_, rfl⟩
      go_upto_region 4 with fail
      rw [← hW5] at hbA hbA' hbwA
      rw [← hW5]
      clear hW5
      have y1 := (hbA'.cell (cell?_lt z1)).trans z1
      have m2 := (hbA'.cell (p := ⟨w.heap.size, 2, none⟩) hk0s).trans n2
      have htb : (t.toNat : Int) ≤ 255 := by have := t.toNat_lt; omega
      have hrq := rrequest_any ((t.toNat : Int) % 16) W5
      have hcon := has_any pA pC ps ((t.toNat : Int) % 16) W5 (by omega) (hi0.p.below hbA')
      obtain ⟨p, hp⟩ : ∃ p, p = (t.toNat : Int) % 16 := ⟨_, rfl⟩
      rw [← hp] at hE HOK hrq hcon
      have HPQ := Lib.hid hp
      go_upto_region 7 with fail
      rw [← hp]
      clear hp
      go_wp2_with fail
      refine hcon.mono ?_
      rintro e w6 ⟨rfl, rfl⟩
      clear hcon
      by_cases hm : p ∈ ps
      · have HE : Hid (ansE a q = 0) := by show _ = _; rw [hE, if_pos hm]
        have h01p := h01 p hm
        have hre : reqE p = 0 := by unfold reqE; rw [if_pos h01p]
        rw [hre] at hrq
        rw [decide_eq_true hm]
        clear hE hm hre
        go_wp2_with fail
        refine hrq.mono ?_
        clear hrq
        rintro e w7 ⟨A7, c7, rfl, hr7, hb7⟩
        have hbw7 := hbwA.trans (hb7.mono hbwA.size)
        clear h01p
        go_wp2
        go_ret3
        exact (HOK.out A7 c7 w7 HE.out hr7 hbw7).out
      · have HE : Hid (ansE a q = 28) := by show _ = _; rw [hE, if_neg hm]
        rw [decide_eq_false hm]
        clear hE hm
        go_wp2
        go_ret3
        exact answered_bad HE.out (by decide) hbwA
    · have HE : Hid (ansE a q = parE q) := by
        show _ = _
        unfold ansE
        rw [HC0.out, if_pos rfl, if_neg hz]
      have HZ := Lib.hid hz
      have hzb : (parE q != 0) = true := by simpa using hz
      clear hz
      obtain ⟨pe, hpe⟩ : ∃ pe, pe = parE q := ⟨_, rfl⟩
      rw [← hpe] at hzb
      rw [← hpe]
      have HPE := Lib.hid hpe
      clear hpe
      go_wp2
      go_ret3
      exact answered_bad (E := pe) (HE.out.trans HPE.out.symm) (by rw [HPE.out]; exact HZ.out) hbwA
  · have hcb : (C != 0) = true := by simpa using hc
    have HF : Hid (ansE a q = 1) := by
      show _ = _
      unfold ansE
      rw [if_neg (by rw [← HCA.out]; exact hc)]
    clear hc hps01
    go_wp2
    go_ret3
    exact answered_bad HF.out (by decide) hbw
end Go.Proofs.Ytkhobpghiachoaa
