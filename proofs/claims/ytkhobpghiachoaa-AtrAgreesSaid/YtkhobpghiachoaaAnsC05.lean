/-
  The card's answer to a request, with the capacity of what is handed back.
-/
import Derived.Test.YtkhobpghiachoaaAns05
namespace Go.Proofs.Ytkhobpghiachoaa
open Go.RowKit Crc Go.Maps
set_option linter.unusedVariables false

theorem reqC_go (p : Int) (b : UInt8) (hp : IntKind.u8.wrap p = (b.toNat : Int)) (w : World) :
    Calls Try.prog 40 #[.int .i64 p] w fun e w' => ∃ A c, e = .returned (.slice A 3 c) ∧ RB w' A [255, b, lrc [255, b]] ∧ 3 ≤ c ∧ Below w.heap.size w w' := by
  have hb0 := (Below.refl w.heap.size w).alloc (Nat.le_refl _) (.cells #[.int .u8 255, .int .u8 (b.toNat : Int)] 5)
  have hr0 : RB (w.alloc (.cells #[.int .u8 255, .int .u8 (b.toNat : Int)] 5)) (some ⟨w.heap.size, 0, none⟩) [255, b] := RB.made w _ _ _ rfl
  go_enter Try.func40, Try.ntmps40
  go_wp2_with fail
  refine (sumL_any (some ⟨w.heap.size, 0, none⟩) 2 [255, b] _ (by simp) hr0).mono ?_
  rintro e w1 ⟨A1, rfl, hr1, hb1⟩
  have hr0' := hr0.below hb1
  have hb1' := hb0.trans (hb1.mono hb0.size)
  go_wp2_with fail
  have hj := join_any w1.heap.size 2 [⟨some ⟨w.heap.size, 0, none⟩, 2, [255, b]⟩, ⟨A1, 1, [lrc [255, b]]⟩] (w1.alloc (.cells #[.slice (some ⟨w.heap.size, 0, none⟩) 2 2, .slice A1 1 1] 22)) (by simp) (by simp [joinS]) (two_partsR hr0' hr1)
  refine hj.mono ?_
  clear hj
  rintro e w2 ⟨A2, c2, rfl, hc2, hr2, hb2⟩
  have hr3 : RB w2 A2 [255, b, lrc [255, b]] := hr2
  go_wp2
  go_ret
  exact ⟨A2, c2, rfl, hr3, hc2, hb1'.trans (((Below.refl _ _).alloc hb1'.size _).trans (hb2.mono (by simp; exact Nat.le_succ_of_le hb1'.size)))⟩
theorem reqC_any (p : Int) (hp : p = 0 ∨ p = 1) (w : World) :
    Calls Try.prog 40 #[.int .i64 p] w fun e w' => ∃ A c, e = .returned (.slice A (reqB p).length c) ∧ RB w' A (reqB p) ∧ (reqB p).length ≤ c ∧ Below w.heap.size w w' := by
  rcases hp with rfl | rfl
  · exact reqC_go 0 0 rfl w
  · exact reqC_go 1 1 rfl w
/-- What Answer hands back. -/
def AnsweredC (a : Atr) (q : List UInt8) (w : World) (e : Ending) (w' : World) : Prop :=
  ∃ A c, e = .returned (.tuple #[.slice A (ansB a q).length c, .int .i64 (ansN a q), .int .i64 (ansE a q)]) ∧ RB w' A (ansB a q) ∧ (ansB a q).length ≤ c ∧ Below w.heap.size w w'
theorem answeredC_bad {a : Atr} {q : List UInt8} {w w' : World} {E : Int} (h : ansE a q = E) (h0 : E ≠ 0) (hb : Below w.heap.size w w') : AnsweredC a q w (.returned (.tuple #[.slice none 0 0, .int .i64 0, .int .i64 E])) w' := by
  have hB : ansB a q = [] := by unfold ansB; rw [h, if_neg h0]
  have hN : ansN a q = 0 := by unfold ansN; rw [h, if_neg h0]
  refine ⟨none, 0, ?_, ?_, ?_, hb⟩
  · rw [hB, hN, h]; rfl
  · rw [hB]; exact RB.nil _ _
  · rw [hB]; exact Nat.le_refl _
theorem answeredC_ok {a : Atr} {q : List UInt8} {w w' : World} {A : Option Addr} {c : Nat} (h : ansE a q = 0) (hr : RB w' A (reqB ((tB q : Int) % 16))) (hc : (reqB ((tB q : Int) % 16)).length ≤ c) (hb : Below w.heap.size w w') :
    AnsweredC a q w (.returned (.tuple #[.slice A (reqB ((tB q : Int) % 16)).length c, .int .i64 ((tB q : Int) % 16), .int .i64 0])) w' := by
  have hB : ansB a q = reqB ((tB q : Int) % 16) := by unfold ansB; rw [h, if_pos rfl]
  have hN : ansN a q = (tB q : Int) % 16 := by unfold ansN; rw [h, if_pos rfl]
  refine ⟨A, c, ?_, ?_, ?_, hb⟩
  · rw [hB, hN, h]
  · rw [hB]; exact hr
  · rw [hB]; exact hc
set_option maxRecDepth 100000 in
set_option maxHeartbeats 4000000 in
theorem answerC_go (aI : Bool) (bA : Option Addr) (bC : Nat) (bs : List If) (pA : Option Addr) (pC : Nat) (ps : List Int) (hA : Option Addr) (hC : Nat) (hs : List UInt8) (B : Option Addr) (d : Nat) (q : List UInt8) (w : World) (hi : AtrIn w ⟨aI, bA, bC, bs, pA, pC, ps, hA, hC, hs⟩) (hbl : bs.length ≤ 1000) (hpl : ps.length ≤ 1000) (hql : q.length ≤ 60000) (hqd : q.length ≤ d) (hq : RB w B q) :
    Calls Try.prog 27 #[.agg #[.bool aI, .slice bA bs.length bC, .slice pA ps.length pC, .slice hA hs.length hC], .slice B q.length d] w (AnsweredC ⟨aI, bA, bC, bs, pA, pC, ps, hA, hC, hs⟩ q w) := by
  have hk0 := Blk.made w 27 #[.bool aI, .slice bA bs.length bC, .slice pA ps.length pC, .slice hA hs.length hC]
  have hb0 := (Below.refl w.heap.size w).alloc (Nat.le_refl _) (.cells #[.bool aI, .slice bA bs.length bC, .slice pA ps.length pC, .slice hA hs.length hC] 27)
  obtain ⟨W0, hW0⟩ : ∃ W0 : World, W0 = w.alloc (.cells #[.bool aI, .slice bA bs.length bC, .slice pA ps.length pC, .slice hA hs.length hC] 27) := ⟨_, rfl⟩
  rw [← hW0] at hk0 hb0
  have hi0 := hi.below hb0
  have n0 : W0.cell? ⟨w.heap.size, 0, none⟩ = some (.bool aI) := hk0.cell 0
  have n1 : W0.cell? ⟨w.heap.size, 1, none⟩ = some (.slice bA bs.length bC) := hk0.cell 1
  have n2 : W0.cell? ⟨w.heap.size, 2, none⟩ = some (.slice pA ps.length pC) := hk0.cell 2
  have n3 : W0.cell? ⟨w.heap.size, 3, none⟩ = some (.slice hA hs.length hC) := hk0.cell 3
  have hk0s := hk0.size
  have hqW := hq.below hb0
  obtain ⟨a, ha⟩ : ∃ a : Atr, a = ⟨aI, bA, bC, bs, pA, pC, ps, hA, hC, hs⟩ := ⟨_, rfl⟩
  have hal : a.ps = ps := by rw [ha]
  rw [← ha]
  obtain ⟨C, hC0⟩ : ∃ C, C = chkF ⟨aI, bA, bC, bs, pA, pC, ps, hA, hC, hs⟩ := ⟨_, rfl⟩
  have hCa : C = chkF a := by rw [hC0, ha]
  have hps01 : C = 0 → ∀ x ∈ ps, x = 0 ∨ x = 1 := fun h => by
    have h1 := (chkF_zero (hC0.symm.trans h)).1
    exact (okPs_one (valid_of h1).ps).1
  have hCE : Hid (C = chkF ⟨aI, bA, bC, bs, pA, pC, ps, hA, hC, hs⟩) := hC0
  clear ha hC0
  go_enter Try.func27, Try.ntmps27
  go_upto_region 1 with fail
  rw [← hW0]
  clear hW0
  go_wp2_with fail
  refine (check_go aI bA bC bs pA pC ps hA hC hs C hCE.out W0 hi0 hbl hpl).mono ?_
  rintro e w1 ⟨rfl, hb1⟩
  have hbw := hb0.trans (hb1.mono hb0.size)
  have HCA := Lib.hid hCa
  clear hCa hCE
  by_cases hc : C = 0
  · have h01 := hps01 hc
    have HC0 : Hid (chkF a = 0) := by show _ = _; rw [← HCA.out, hc]
    subst hc
    clear hps01
    have hq1 := hqW.below hb1
    have m2 := (hb1.cell (p := ⟨w.heap.size, 2, none⟩) hk0s).trans n2
    go_wp2_with fail
    refine (parse_go B d q w1 hql hqd hq1).mono ?_
    rintro e w2 ⟨mv, rfl, _, hb2⟩
    have hb2' := hb1.trans (hb2.mono hb1.size)
    have hbw2 := hb0.trans (hb2'.mono hb0.size)
    by_cases hz : parE q = 0
    · rw [hz, if_pos rfl]
      have HZ := Lib.hid hz
      clear hz m2
      have m2 := (hb2'.cell (p := ⟨w.heap.size, 2, none⟩) hk0s).trans n2
      have hE : ansE a q = if (tB q : Int) % 16 ∈ ps then 0 else 28 := by
        unfold ansE
        rw [HC0.out, if_pos rfl, HZ.out, if_pos rfl, hal]
      have hrq : (tB q : Int) % 16 ∈ ps → _ := fun h => reqC_any ((tB q : Int) % 16) (h01 _ h) w2
      have hok : ∀ A c w', ansE a q = 0 → RB w' A (reqB ((tB q : Int) % 16)) → (reqB ((tB q : Int) % 16)).length ≤ c → Below w.heap.size w w' → Hid (AnsweredC a q w (.returned (.tuple #[.slice A (reqB ((tB q : Int) % 16)).length c, .int .i64 ((tB q : Int) % 16), .int .i64 0])) w') := fun A c w' h1 h2 h4 h3 => answeredC_ok h1 h2 h4 h3
      have HOK := Lib.hid hok
      clear hok
      have hcon := contains_any pA pC ps ((tB q : Int) % 16) w2 (by omega) (hi0.p.below hb2')
      generalize (tB q : Int) % 16 = p at hE hrq HOK hcon
      go_wp2_with fail
      refine hcon.mono ?_
      rintro e w3 ⟨rfl, rfl⟩
      clear hcon
      by_cases hm : p ∈ ps
      · have HE : Hid (ansE a q = 0) := by show _ = _; rw [hE, if_pos hm]
        have hrq' := hrq hm
        rw [decide_eq_true hm]
        clear hE hrq hm
        go_wp2_with fail
        refine hrq'.mono ?_
        clear hrq'
        rintro e w3 ⟨A3, c3, rfl, hr3, hc3, hb3⟩
        have hbw3 := hbw2.trans (hb3.mono hbw2.size)
        go_wp2
        go_ret3
        exact (HOK.out A3 c3 w3 HE.out hr3 hc3 hbw3).out
      · have HE : Hid (ansE a q = 28) := by show _ = _; rw [hE, if_neg hm]
        rw [decide_eq_false hm]
        clear hE hrq hm
        go_wp2
        go_ret3
        exact answeredC_bad HE.out (by decide) hbw2
    · have HE : Hid (ansE a q = parE q) := by
        show _ = _
        unfold ansE
        rw [HC0.out, if_pos rfl, if_neg hz]
      rw [if_neg hz]
      have HZ := Lib.hid hz
      have hzb : (parE q != 0) = true := by simpa using hz
      clear hz
      obtain ⟨pe, hpe⟩ : ∃ pe, pe = parE q := ⟨_, rfl⟩
      rw [← hpe] at hzb
      rw [← hpe]
      have HPE := Lib.hid hpe
      clear hpe
      go_wp2
      go_ret3
      exact answeredC_bad (E := pe) (HE.out.trans HPE.out.symm) (by rw [HPE.out]; exact HZ.out) hbw2
  · have hcb : (C != 0) = true := by simpa using hc
    have HF : Hid (ansE a q = 1) := by
      show _ = _
      unfold ansE
      rw [if_neg (by rw [← HCA.out]; exact hc)]
    clear hc hps01
    go_wp2
    go_ret3
    exact answeredC_bad HF.out (by decide) hbw

end Go.Proofs.Ytkhobpghiachoaa
