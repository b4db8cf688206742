/-
  Check and Encode: which answers to reset are valid, and their bytes.
-/
import Derived.Test.YtkhobpghiachoaaLaw05
import Derived.Test.YtkhobpghiachoaaRules
namespace Go.Proofs.Ytkhobpghiachoaa
open Go.RowKit Crc
set_option linter.unusedVariables false

theorem encode_any (a : Atr) (w : World) (hi : AtrIn w a) (hbl : a.bs.length ≤ 1000) (hr : rulesF a = true) (hg : lastG a.bs ≤ 33) :
    Calls Try.prog 36 #[.agg (atrCs a)] w fun e w' => ∃ A c, e = .returned (.slice A (encF a).length c) ∧ RB w' A (encF a) ∧ Below w.heap.size w w' := by
  obtain ⟨aI, bA, bC, bs, pA, pC, ps, hA, hC, hs⟩ := a
  obtain ⟨h1, h2, h3⟩ := rules_ruled hr
  simp only at h1 h2 h3 hg hbl
  have hp0 : 0 < ps.length ∧ ps.length ≤ 2 := by rcases okPs_mem h1 with rfl | rfl | rfl <;> simp
  obtain ⟨pb, po, rfl, hc⟩ := hi.p.at_ (by rw [nv_length]; exact hp0.1)
  have hc0 : w.cell? ⟨pb, po, none⟩ = some (.int .i64 (ps.headD 0)) := by
    have h := hc 0 (by rw [nv_length]; exact hp0.1)
    rw [Nat.add_zero] at h
    rw [h]
    rcases okPs_mem h1 with rfl | rfl | rfl <;> rfl
  exact encode_go aI bA bC bs pb po pC (ps.headD 0) ps hA hC hs w hi.b hi.p hc0 hi.h hbl hp0.1 hp0.2 h2 (fun x hx => ⟨(h3.basic x hx).1, Int.le_trans (lastG_all h3 x hx) hg⟩) (fun x hx => by have := h3.basic x hx; omega)

theorem lastG_get {l : List If} {m : Nat} (h : l.length = m + 1) : lastG l = (l[m]'(by omega)).g := by
  unfold lastG
  rcases List.eq_nil_or_concat l with rfl | ⟨l', z, rfl⟩
  · simp at h
  · simp only [List.concat_eq_append, List.foldl_append, List.foldl_cons, List.foldl_nil]
    have : m = l'.length := by simpa using h.symm
    subst this
    simp
set_option maxHeartbeats 2000000 in
theorem check_go (aI : Bool) (bA : Option Addr) (bC : Nat) (bs : List If) (pA : Option Addr) (pC : Nat) (ps : List Int) (hA : Option Addr) (hC : Nat) (hs : List UInt8) (R : Int) (hRR : R = chkF ⟨aI, bA, bC, bs, pA, pC, ps, hA, hC, hs⟩) (w : World) (hi : AtrIn w ⟨aI, bA, bC, bs, pA, pC, ps, hA, hC, hs⟩) (hbl : bs.length ≤ 1000) (hpl : ps.length ≤ 1000) :
    Calls Try.prog 19 #[.agg #[.bool aI, .slice bA bs.length bC, .slice pA ps.length pC, .slice hA hs.length hC]] w fun e w' => e = .returned (.int .i64 R) ∧ Below w.heap.size w w' := by
  have hk0 := Blk.made w 27 #[.bool aI, .slice bA bs.length bC, .slice pA ps.length pC, .slice hA hs.length hC]
  have hb0 := (Below.refl w.heap.size w).alloc (Nat.le_refl _) (.cells #[.bool aI, .slice bA bs.length bC, .slice pA ps.length pC, .slice hA hs.length hC] 27)
  have HRR := Lib.hid hRR
  clear hRR
  obtain ⟨W0, hW0⟩ : ∃ W0 : World, W0 = w.alloc (.cells #[.bool aI, .slice bA bs.length bC, .slice pA ps.length pC, .slice hA hs.length hC] 27) := ⟨_, rfl⟩
  rw [← hW0] at hk0 hb0
  have hi0 := hi.below hb0
  have n0 : W0.cell? ⟨w.heap.size, 0, none⟩ = some (.bool aI) := hk0.cell 0
  have n1 : W0.cell? ⟨w.heap.size, 1, none⟩ = some (.slice bA bs.length bC) := hk0.cell 1
  have n2 : W0.cell? ⟨w.heap.size, 2, none⟩ = some (.slice pA ps.length pC) := hk0.cell 2
  have n3 : W0.cell? ⟨w.heap.size, 3, none⟩ = some (.slice hA hs.length hC) := hk0.cell 3
  go_enter Try.func19, Try.ntmps19
  go_upto_region 1 with fail
  rw [← hW0]
  clear hW0
  go_wp2_with fail
  refine (rules_any ⟨aI, bA, bC, bs, pA, pC, ps, hA, hC, hs⟩ W0 hi0 (by simp only; omega) (by simp only; omega)).mono ?_
  rintro e w1 ⟨rfl, hb1⟩
  have hbw := hb0.trans (hb1.mono hb0.size)
  by_cases hr : rulesF ⟨aI, bA, bC, bs, pA, pC, ps, hA, hC, hs⟩ = true
  · rw [hr]
    have HR := Lib.hid hr
    clear hr
    have m0 := (hb1.cell (p := ⟨w.heap.size, 0, none⟩) hk0.size).trans n0
    have m1 := (hb1.cell (p := ⟨w.heap.size, 1, none⟩) hk0.size).trans n1
    have m2 := (hb1.cell (p := ⟨w.heap.size, 2, none⟩) hk0.size).trans n2
    have m3 := (hb1.cell (p := ⟨w.heap.size, 3, none⟩) hk0.size).trans n3
    have hi1 := hi0.below hb1
    by_cases hg : 33 < lastG bs
    · have HF : Hid (R = 3) := by
        show _ = _
        rw [HRR.out]
        unfold chkF
        rw [if_neg (by rw [HR.out]; decide), if_pos hg]
      obtain ⟨m, hm⟩ : ∃ m, bs.length = m + 1 := by
        rcases bs with _ | ⟨x, xs⟩
        · exact absurd hg (by decide)
        · exact ⟨xs.length, rfl⟩
      obtain ⟨bb, bo, rfl, hbx⟩ := RC.elem ifL (s := 4) (fun _ => rfl) hi1.b m (by simp only; omega) (by decide)
      have z0 : w1.cell? ⟨bb, bo + m * 4, none⟩ = some (.int .i64 (lastG bs)) := by rw [lastG_get hm]; exact hbx 0 (by decide)
      clear hbx
      rw [hm] at m1
      go_wp2
      go_ret
      exact ⟨by rw [HF.out]; rfl, hbw⟩
    · have hen : Calls Try.prog 36 #[.agg #[.bool aI, .slice bA bs.length bC, .slice pA ps.length pC, .slice hA hs.length hC]] w1 fun e w' => ∃ A c, e = .returned (.slice A (encF ⟨aI, bA, bC, bs, pA, pC, ps, hA, hC, hs⟩).length c) ∧ RB w' A (encF ⟨aI, bA, bC, bs, pA, pC, ps, hA, hC, hs⟩) ∧ Below w1.heap.size w1 w' := encode_any ⟨aI, bA, bC, bs, pA, pC, ps, hA, hC, hs⟩ w1 hi1 hbl HR.out (by simp only; omega)
      obtain ⟨E, hE⟩ : ∃ E, E = encF ⟨aI, bA, bC, bs, pA, pC, ps, hA, hC, hs⟩ := ⟨_, rfl⟩
      rw [← hE] at hen
      have HF : Hid (R = if 33 < E.length then 3 else 0) := by
        show _ = _
        rw [HRR.out, hE]
        unfold chkF
        rw [if_neg (by rw [HR.out]; decide), if_neg hg]
      clear hE
      rcases Nat.eq_zero_or_pos bs.length with h0 | h0
      · rw [h0] at m1 hen
        go_wp2_with fail
        refine hen.mono ?_
        rintro e w2 ⟨A2, c2, rfl, _, hb2⟩
        have hbx := hbw.trans (hb2.mono hbw.size)
        by_cases h33 : 33 < E.length
        · rw [if_pos h33] at HF
          have h33i : (33 : Int) < (E.length : Int) := by omega
          go_wp2
          go_ret
          exact ⟨by rw [HF.out]; rfl, hbx⟩
        · rw [if_neg h33] at HF
          have h33i : ¬ ((33 : Int) < (E.length : Int)) := by omega
          go_wp2
          go_ret
          exact ⟨by rw [HF.out]; rfl, hbx⟩
      · obtain ⟨m, hm⟩ : ∃ m, bs.length = m + 1 := ⟨bs.length - 1, by omega⟩
        obtain ⟨bb, bo, rfl, hbx⟩ := RC.elem ifL (s := 4) (fun _ => rfl) hi1.b m (by simp only; omega) (by decide)
        have z0 : w1.cell? ⟨bb, bo + m * 4, none⟩ = some (.int .i64 (lastG bs)) := by rw [lastG_get hm]; exact hbx 0 (by decide)
        clear hbx
        rw [hm] at m1 hen
        go_wp2_with fail
        refine hen.mono ?_
        rintro e w2 ⟨A2, c2, rfl, _, hb2⟩
        have hbx := hbw.trans (hb2.mono hbw.size)
        by_cases h33 : 33 < E.length
        · rw [if_pos h33] at HF
          have h33i : (33 : Int) < (E.length : Int) := by omega
          go_wp2
          go_ret
          exact ⟨by rw [HF.out]; rfl, hbx⟩
        · rw [if_neg h33] at HF
          have h33i : ¬ ((33 : Int) < (E.length : Int)) := by omega
          go_wp2
          go_ret
          exact ⟨by rw [HF.out]; rfl, hbx⟩
  · rw [Bool.eq_false_iff.2 hr]
    have HF : Hid (R = 1) := by
      show _ = _
      rw [HRR.out]
      unfold chkF
      rw [if_pos (Bool.eq_false_iff.2 hr)]
    clear hr
    go_wp2
    go_ret
    exact ⟨by rw [HF.out]; rfl, hbw⟩
theorem check_any (a : Atr) (w : World) (hi : AtrIn w a) (hbl : a.bs.length ≤ 1000) (hpl : a.ps.length ≤ 1000) :
    Calls Try.prog 19 #[.agg (atrCs a)] w fun e w' => e = .returned (.int .i64 (chkF a)) ∧ Below w.heap.size w w' := by
  obtain ⟨aI, bA, bC, bs, pA, pC, ps, hA, hC, hs⟩ := a
  exact check_go aI bA bC bs pA pC ps hA hC hs _ rfl w hi hbl hpl

/-- What Encode gives: the bytes, or none and the error. -/
def outF (a : Atr) : List UInt8 := if chkF a = 0 then encF a else []
theorem chkF_zero {a : Atr} (h : chkF a = 0) : rulesF a = true ∧ lastG a.bs ≤ 33 ∧ (encF a).length ≤ 33 := by
  unfold chkF at h
  split at h
  · cases h
  split at h
  · cases h
  split at h
  · cases h
  rename_i h1 h2 h3
  exact ⟨by simpa using h1, by omega, by omega⟩
set_option maxHeartbeats 2000000 in
theorem encE_go (aI : Bool) (bA : Option Addr) (bC : Nat) (bs : List If) (pA : Option Addr) (pC : Nat) (ps : List Int) (hA : Option Addr) (hC : Nat) (hs : List UInt8) (R : Int) (hRR : R = chkF ⟨aI, bA, bC, bs, pA, pC, ps, hA, hC, hs⟩) (E : List UInt8) (hE : E = outF ⟨aI, bA, bC, bs, pA, pC, ps, hA, hC, hs⟩) (w : World) (hi : AtrIn w ⟨aI, bA, bC, bs, pA, pC, ps, hA, hC, hs⟩) (hbl : bs.length ≤ 1000) (hpl : ps.length ≤ 1000) :
    Calls Try.prog 17 #[.agg #[.bool aI, .slice bA bs.length bC, .slice pA ps.length pC, .slice hA hs.length hC]] w fun e w' => ∃ A c, e = .returned (.tuple #[.slice A E.length c, .int .i64 R]) ∧ RB w' A E ∧ Below w.heap.size w w' := by
  have hk0 := Blk.made w 27 #[.bool aI, .slice bA bs.length bC, .slice pA ps.length pC, .slice hA hs.length hC]
  have hb0 := (Below.refl w.heap.size w).alloc (Nat.le_refl _) (.cells #[.bool aI, .slice bA bs.length bC, .slice pA ps.length pC, .slice hA hs.length hC] 27)
  have HRR := Lib.hid hRR
  have hq := check_go aI bA bC bs pA pC ps hA hC hs R hRR
  have HE := Lib.hid hE
  clear hRR hE
  obtain ⟨W0, hW0⟩ : ∃ W0 : World, W0 = w.alloc (.cells #[.bool aI, .slice bA bs.length bC, .slice pA ps.length pC, .slice hA hs.length hC] 27) := ⟨_, rfl⟩
  rw [← hW0] at hk0 hb0
  have hi0 := hi.below hb0
  have n0 : W0.cell? ⟨w.heap.size, 0, none⟩ = some (.bool aI) := hk0.cell 0
  have n1 : W0.cell? ⟨w.heap.size, 1, none⟩ = some (.slice bA bs.length bC) := hk0.cell 1
  have n2 : W0.cell? ⟨w.heap.size, 2, none⟩ = some (.slice pA ps.length pC) := hk0.cell 2
  have n3 : W0.cell? ⟨w.heap.size, 3, none⟩ = some (.slice hA hs.length hC) := hk0.cell 3
  go_enter Try.func17, Try.ntmps17
  go_upto_region 1 with fail
  rw [← hW0]
  clear hW0
  go_wp2_with fail
  refine (hq W0 hi0 hbl hpl).mono ?_
  clear hq
  rintro e w1 ⟨rfl, hb1⟩
  have hbw := hb0.trans (hb1.mono hb0.size)
  have hi1 := hi0.below hb1
  by_cases h0 : R = 0
  · have hc0 : chkF ⟨aI, bA, bC, bs, pA, pC, ps, hA, hC, hs⟩ = 0 := by rw [← HRR.out, h0]
    obtain ⟨h1, h2, h3⟩ := chkF_zero hc0
    have hen : Calls Try.prog 36 #[.agg #[.bool aI, .slice bA bs.length bC, .slice pA ps.length pC, .slice hA hs.length hC]] w1 fun e w' => ∃ A c, e = .returned (.slice A E.length c) ∧ RB w' A E ∧ Below w1.heap.size w1 w' := by
      have h := encode_any ⟨aI, bA, bC, bs, pA, pC, ps, hA, hC, hs⟩ w1 hi1 hbl h1 h2
      rw [HE.out]
      unfold outF
      rw [if_pos hc0]
      exact h
    have m0 := (hb1.cell (p := ⟨w.heap.size, 0, none⟩) hk0.size).trans n0
    have m1 := (hb1.cell (p := ⟨w.heap.size, 1, none⟩) hk0.size).trans n1
    have m2 := (hb1.cell (p := ⟨w.heap.size, 2, none⟩) hk0.size).trans n2
    have m3 := (hb1.cell (p := ⟨w.heap.size, 3, none⟩) hk0.size).trans n3
    subst h0
    clear hc0 h1 h2 h3
    go_wp2_with fail
    refine hen.mono ?_
    rintro e w2 ⟨A2, c2, rfl, hr2, hb2⟩
    have hbx := hbw.trans (hb2.mono hbw.size)
    clear hen
    go_wp2
    go_ret2
    exact ⟨A2, c2, rfl, hr2, hbx⟩
  · have hE0 : E = [] := by
      rw [HE.out]
      unfold outF
      rw [if_neg (by rw [← HRR.out]; exact h0)]
    have h0b : (R != 0) = true := by simpa using h0
    subst hE0
    go_wp2
    go_ret2
    exact ⟨none, 0, rfl, RB.nil _ _, hbw⟩
theorem encE_any (a : Atr) (w : World) (hi : AtrIn w a) (hbl : a.bs.length ≤ 1000) (hpl : a.ps.length ≤ 1000) :
    Calls Try.prog 17 #[.agg (atrCs a)] w fun e w' => ∃ A c, e = .returned (.tuple #[.slice A (outF a).length c, .int .i64 (chkF a)]) ∧ RB w' A (outF a) ∧ Below w.heap.size w w' := by
  obtain ⟨aI, bA, bC, bs, pA, pC, ps, hA, hC, hs⟩ := a
  exact encE_go aI bA bC bs pA pC ps hA hC hs _ rfl _ rfl w hi hbl hpl
end Go.Proofs.Ytkhobpghiachoaa
