/-
  The reference's rules.
-/
import Derived.Test.YtkhobpghiachoaaRefA05
namespace Go.Proofs.Ytkhobpghiachoaa
open Go.RowKit
set_option linter.unusedVariables false

def badR (p0 : Int) (ps : List Int) (st : Int × If) (x : If) : Prop :=
  (x.g < 1 ∨ x.k < 0 ∨ 3 ≤ x.k ∨ x.v < 0 ∨ 255 < x.v) ∨ (x.g < st.2.g ∨ (x.g = st.2.g ∧ x.k ≤ st.2.k)) ∨ ((x.g = 1 ∧ x.p ≠ 0) ∨ (x.g = 2 ∧ x.p ≠ p0)) ∨ (3 ≤ x.g ∧ x.p ∉ ps) ∨
    (3 ≤ x.g ∧ x.g = st.2.g ∧ x.p ≠ st.2.p) ∨ (3 ≤ x.g ∧ x.p < st.1) ∨ (4 ≤ x.g ∧ st.2.g ≠ x.g ∧ st.2.g ≠ x.g - 1)
theorem stepR_bad {p0 : Int} {ps : List Int} {st : Int × If} {x : If} (h : badR p0 ps st x) : stepR p0 ps st x = none := by
  rcases hs : stepR p0 ps st x with _ | st'
  · rfl
  · exfalso
    obtain ⟨h1, h2, h3, h4, h5, h6, _⟩ := stepR_some hs
    rcases h with h | h | h | h | h | h | h
    · omega
    · omega
    · rcases h with h | h
      · exact h.2 (h3 h.1)
      · exact h.2 (h4 h.1)
    · exact h.2 (h5 h.1).1
    · exact h.2.2 ((h5 h.1).2.1 h.2.1)
    · have := (h5 h.1).2.2; omega
    · have := h6 h.1; omega
theorem stepR_good {p0 : Int} {ps : List Int} {st : Int × If} {x : If} (h : ¬ badR p0 ps st x) : stepR p0 ps st x = some (if 3 ≤ x.g then x.p else st.1, x) := by
  unfold stepR
  rw [if_neg (fun e => h (.inl e)), if_neg (fun e => h (.inr (.inl e))), if_neg (fun e => h (.inr (.inr (.inl e)))), if_neg (fun e => h (.inr (.inr (.inr (.inl e))))),
    if_neg (fun e => h (.inr (.inr (.inr (.inr (.inl e)))))), if_neg (fun e => h (.inr (.inr (.inr (.inr (.inr (.inl e))))))), if_neg (fun e => h (.inr (.inr (.inr (.inr (.inr (.inr e)))))))]

set_option maxRecDepth 100000 in
set_option maxHeartbeats 16000000 in
theorem right_go (aI : Bool) (bA : Option Addr) (bC : Nat) (bs : List If) (pA : Option Addr) (pC : Nat) (ps : List Int) (hA : Option Addr) (hC : Nat) (hs : List UInt8) (R : Bool) (hRR : R = rulesF ⟨aI, bA, bC, bs, pA, pC, ps, hA, hC, hs⟩) (w : World) (hi : AtrIn w ⟨aI, bA, bC, bs, pA, pC, ps, hA, hC, hs⟩) (hbl : bs.length ≤ 1048576) (hpl : ps.length ≤ 1048576) :
    Calls Try.prog 54 #[.agg #[.bool aI, .slice bA bs.length bC, .slice pA ps.length pC, .slice hA hs.length hC]] w fun e w' => e = .returned (.bool R) ∧ Below w.heap.size w w' := by
  have hk0 := Blk.made w 27 #[.bool aI, .slice bA bs.length bC, .slice pA ps.length pC, .slice hA hs.length hC]
  have hb0 := (Below.refl w.heap.size w).alloc (Nat.le_refl _) (.cells #[.bool aI, .slice bA bs.length bC, .slice pA ps.length pC, .slice hA hs.length hC] 27)
  have HRR := Lib.hid hRR
  clear hRR
  obtain ⟨W0, hW0⟩ : ∃ W0 : World, W0 = w.alloc (.cells #[.bool aI, .slice bA bs.length bC, .slice pA ps.length pC, .slice hA hs.length hC] 27) := ⟨_, rfl⟩
  rw [← hW0] at hk0 hb0
  have hi0 := hi.below hb0
  have n1 : W0.cell? ⟨w.heap.size, 1, none⟩ = some (.slice bA bs.length bC) := hk0.cell 1
  have n2 : W0.cell? ⟨w.heap.size, 2, none⟩ = some (.slice pA ps.length pC) := hk0.cell 2
  have n3 : W0.cell? ⟨w.heap.size, 3, none⟩ = some (.slice hA hs.length hC) := hk0.cell 3
  go_enter Try.func54, Try.ntmps54
  go_upto_region 1 with fail
  rw [← hW0]
  clear hW0
  by_cases hok : (okPs ps && decide (hs.length ≤ 15)) = true
  · obtain ⟨hok1, hok2⟩ : okPs ps = true ∧ hs.length ≤ 15 := by simpa using hok
    have hp0 : 0 < ps.length := by
      rcases hps : ps with _ | ⟨y, ys⟩
      · rw [hps] at hok1; cases hok1
      · simp
    obtain ⟨pb, po, rfl, hpc⟩ := hi0.p.at_ (by rw [nv_length]; exact hp0)
    obtain ⟨p0, hp0d⟩ : ∃ p0, p0 = ps.headD 0 := ⟨_, rfl⟩
    have hpc0 : W0.cell? ⟨pb, po, none⟩ = some (.int .i64 p0) := by
      have h := hpc 0 (by rw [nv_length]; exact hp0)
      rw [Nat.add_zero] at h
      rw [h, hp0d]
      rcases ps with _ | ⟨y, ys⟩
      · simp at hp0
      · rfl
    have hpi : (0 : Int) < (ps.length : Int) := by omega
    have HRF : Hid (R = runR p0 ps (p0, ⟨0, 3, 0, 0⟩) bs) := by
      show _ = _
      rw [HRR.out]
      unfold rulesF
      rw [hok1, decide_eq_true hok2, hp0d]
      rfl
    have hh15 : ¬ ((15 : Int) < (hs.length : Int)) := by omega
    have hbv := hi0.b
    have hk0s := hk0.size
    have hq := protocols_any (some ⟨pb, po, none⟩) pC ps W0 hpl hi0.p
    rw [hok1] at hq
    clear hok hok1 hok2 hp0d hpc
    go_wp2_with fail
    refine hq.mono ?_
    clear hq
    rintro e w1 ⟨rfl, rfl⟩
    go_wp2
    go_loopw [3, 4, 5, 6] (fun vg vk pr i wx => ∃ (k : Nat) (prot : Int) (last : If) (kk : Int), k ≤ bs.length ∧ vg = .int .i64 last.g ∧ vk = .int .i64 kk ∧ pr = .int .i64 prot ∧ i = .int .i64 k ∧ Below W0.heap.size W0 wx ∧ 0 ≤ last.g ∧ (1 ≤ last.g → kk = last.k) ∧ (3 ≤ last.g → prot = last.p) ∧ Hid (runR p0 ps (prot, last) (bs.drop k) = runR p0 ps (p0, ⟨0, 3, 0, 0⟩) bs)) (fun _ _ _ i _ => bs.length - (intOf i).toNat)
    case atStart => exact ⟨0, p0, ⟨0, 3, 0, 0⟩, 0, Nat.zero_le _, rfl, rfl, rfl, rfl, Below.refl _ _, by decide, by decide, fun h => absurd h (by decide), rfl⟩
    case round =>
      obtain ⟨k, prot, last, kk, hkl, rfl, rfl, rfl, rfl, hbr, hl0, hlk, hlp, HRun⟩ := hrel
      by_cases hk : k < bs.length
      · obtain ⟨bb, bo, rfl, hbx⟩ := RC.elem ifL (s := 4) (fun _ => rfl) (hbv.below hbr) k hk (by decide)
        have hgf : bs[k].g ≤ 9223372036854775807 := hi.f bs[k] (List.getElem_mem hk)
        have HST := Lib.hid (runR_step (p0 := p0) (ps := ps) (st := (prot, last)) hk)
        have z0 : wr.cell? ⟨bb, bo + k * 4, none⟩ = some (.int .i64 bs[k].g) := hbx 0 (by decide)
        have z1 : wr.cell? ⟨bb, bo + k * 4 + 1, none⟩ = some (.int .i64 bs[k].k) := by rw [Nat.add_assoc]; exact hbx 1 (by decide)
        have z2 : wr.cell? ⟨bb, bo + k * 4 + 2, none⟩ = some (.int .i64 bs[k].v) := by rw [Nat.add_assoc]; exact hbx 2 (by decide)
        have z3 : wr.cell? ⟨bb, bo + k * 4 + 3, none⟩ = some (.int .i64 bs[k].p) := by rw [Nat.add_assoc]; exact hbx 3 (by decide)
        clear hbx
        generalize bs[k] = x at z0 z1 z2 z3 HST hgf
        obtain ⟨g, kd, v, p⟩ := x
        obtain ⟨lg, lk, lv, lp⟩ := last
        simp only at z0 z1 z2 z3 hgf hl0 hlk hlp
        have c1 := (hbr.cell (p := ⟨w.heap.size, 1, none⟩) hk0s).trans n1
        have c2 := (hbr.cell (p := ⟨w.heap.size, 2, none⟩) hk0s).trans n2
        have yp := (hbr.cell (cell?_lt hpc0)).trans hpc0
        have hi1 : (0 : Int) ≤ (k : Int) := by omega
        have hi2 : (k : Int) < (bs.length : Int) := by omega
        go_upto_region 9 with fail
        have hXB0 := Blk.made wr 47 (ifL ⟨g, kd, v, p⟩).toArray
        have hbA := (Below.refl wr.heap.size wr).alloc (Nat.le_refl _) (.cells (ifL ⟨g, kd, v, p⟩).toArray 47)
        obtain ⟨W1, hW1⟩ : ∃ W1 : World, W1 = (wr.alloc (.cells #[.int .i64 g, .int .i64 kd, .int .i64 v, .int .i64 p] 47)) := ⟨_, rfl⟩
        have hXB : Blk W1 wr.heap.size 47 (ifL ⟨g, kd, v, p⟩).toArray := by rw [hW1]; exact hXB0
        have hbr1 : Below W0.heap.size W0 W1 := by rw [hW1]; exact hbr.trans (hbA.mono hbr.size)
        rw [← hW1]
        clear hW1 hXB0 hbA z0 z1 z2 z3 c1 c2 yp
        have c1 := (hbr1.cell (p := ⟨w.heap.size, 1, none⟩) hk0s).trans n1
        have c2 := (hbr1.cell (p := ⟨w.heap.size, 2, none⟩) hk0s).trans n2
        have yp := (hbr1.cell (cell?_lt hpc0)).trans hpc0
        have hip := hi0.p.below hbr1
        have x0 : W1.cell? ⟨wr.heap.size, 0, none⟩ = some (.int .i64 g) := hXB.cell 0
        have x1 : W1.cell? ⟨wr.heap.size, 1, none⟩ = some (.int .i64 kd) := hXB.cell 1
        have x2 : W1.cell? ⟨wr.heap.size, 2, none⟩ = some (.int .i64 v) := hXB.cell 2
        have x3 : W1.cell? ⟨wr.heap.size, 3, none⟩ = some (.int .i64 p) := hXB.cell 3
        have hbx := hb0.trans (hbr1.mono hb0.size)
        have HNO : badR p0 ps (prot, ⟨lg, lk, lv, lp⟩) ⟨g, kd, v, p⟩ → Hid (R = false) := fun h => by
          show _ = _
          rw [HRF.out, ← HRun.out, HST.out, stepR_bad h]
        have HYES : ¬ badR p0 ps (prot, ⟨lg, lk, lv, lp⟩) ⟨g, kd, v, p⟩ → Hid (runR p0 ps (if 3 ≤ g then p else prot, ⟨g, kd, v, p⟩) (bs.drop (k + 1)) = runR p0 ps (p0, ⟨0, 3, 0, 0⟩) bs) := fun h => by
          show _ = _
          rw [← HRun.out, HST.out, stepR_good h]
        have hhas := fun n => has_any (some ⟨pb, po, none⟩) pC ps p (W1.drewN n) hpl (hip.drewN n)
        obtain ⟨xb, hxb⟩ : ∃ xb, xb = wr.heap.size := ⟨_, rfl⟩
        rw [← hxb]
        rw [← hxb] at x0 x1 x2 x3
        clear hxb hXB hip HST HRun
        go_cut [56] (fun s wx => s = .bool (decide (g < 1 ∨ kd < 0 ∨ 3 ≤ kd ∨ v < 0 ∨ 255 < v)) ∧ wx = W1)
        case first =>
          as_aux_lemma =>
            by_cases d1 : g < 1
            · skip
              have hd := Lib.hid (decide_eq_true (show (g < 1 ∨ kd < 0 ∨ 3 ≤ kd ∨ v < 0 ∨ 255 < v) from by omega))
              go_wp2_with fail
              go_meet
              exact ⟨by first | (rw [hd.out]; done) | rw [hd.out, decide_eq_false (by omega)], rfl⟩
            · skip
              by_cases d2 : kd < 0
              · skip
                have hd := Lib.hid (decide_eq_true (show (g < 1 ∨ kd < 0 ∨ 3 ≤ kd ∨ v < 0 ∨ 255 < v) from by omega))
                go_wp2_with fail
                go_meet
                exact ⟨by first | (rw [hd.out]; done) | rw [hd.out, decide_eq_false (by omega)], rfl⟩
              · skip
                by_cases d3 : 2 < kd
                · skip
                  have hd := Lib.hid (decide_eq_true (show (g < 1 ∨ kd < 0 ∨ 3 ≤ kd ∨ v < 0 ∨ 255 < v) from by omega))
                  go_wp2_with fail
                  go_meet
                  exact ⟨by first | (rw [hd.out]; done) | rw [hd.out, decide_eq_false (by omega)], rfl⟩
                · skip
                  by_cases d4 : v < 0
                  · skip
                    have hd := Lib.hid (decide_eq_true (show (g < 1 ∨ kd < 0 ∨ 3 ≤ kd ∨ v < 0 ∨ 255 < v) from by omega))
                    go_wp2_with fail
                    go_meet
                    exact ⟨by first | (rw [hd.out]; done) | rw [hd.out, decide_eq_false (by omega)], rfl⟩
                  · skip
                    by_cases d5 : 255 < v
                    · skip
                      have hd := Lib.hid (decide_eq_true (show (g < 1 ∨ kd < 0 ∨ 3 ≤ kd ∨ v < 0 ∨ 255 < v) from by omega))
                      go_wp2_with fail
                      go_meet
                      exact ⟨by first | (rw [hd.out]; done) | rw [hd.out, decide_eq_false (by omega)], rfl⟩
                    · skip
                      have hd := Lib.hid (decide_eq_false (show ¬ (g < 1 ∨ kd < 0 ∨ 3 ≤ kd ∨ v < 0 ∨ 255 < v) from by omega))
                      go_wp2_with fail
                      go_meet
                      exact ⟨by first | (rw [hd.out]; done) | rw [hd.out, decide_eq_false (by omega)], rfl⟩
        case rest =>
          as_aux_lemma =>
            obtain ⟨rfl, hw⟩ := hcut
            have hw := hw.symm
            subst hw
            clear hw
            by_cases c1 : (g < 1 ∨ kd < 0 ∨ 3 ≤ kd ∨ v < 0 ∨ 255 < v)
            · have HF := HNO (by exact .inl c1)
              rw [decide_eq_true c1]
              clear HNO HYES hhas c1
              go_wp2
              go_ret
              exact ⟨by rw [HF.out]; rfl, hbx⟩
            rw [decide_eq_false c1]
            have N1 := Lib.hid c1
            clear c1
            go_upto_region 11 with fail
            go_cut [72] (fun s wx => s = .bool (decide (g < lg ∨ (g = lg ∧ kd ≤ kk))) ∧ wx = W1)
            case first =>
              as_aux_lemma =>
                by_cases f1 : g < lg
                · skip
                  have hd := Lib.hid (decide_eq_true (show (g < lg ∨ (g = lg ∧ kd ≤ kk)) from by omega))
                  go_wp2_with fail
                  go_meet
                  exact ⟨by first | (rw [hd.out]; done) | rw [hd.out, decide_eq_false (by omega)], rfl⟩
                · skip
                  by_cases f2 : g = lg
                  · skip
                    have f2b : (g == lg) = true := by simpa using f2
                    by_cases f3 : kd ≤ kk
                    · skip
                      have hd := Lib.hid (decide_eq_true (show (g < lg ∨ (g = lg ∧ kd ≤ kk)) from by omega))
                      go_wp2_with fail
                      go_meet
                      exact ⟨by first | (rw [hd.out]; done) | rw [hd.out, decide_eq_false (by omega)], rfl⟩
                    · skip
                      have hd := Lib.hid (decide_eq_false (show ¬ (g < lg ∨ (g = lg ∧ kd ≤ kk)) from by omega))
                      go_wp2_with fail
                      go_meet
                      exact ⟨by first | (rw [hd.out]; done) | rw [hd.out, decide_eq_false (by omega)], rfl⟩
                  · skip
                    have f2b : (g == lg) = false := by simpa using f2
                    have hd := Lib.hid (decide_eq_false (show ¬ (g < lg ∨ (g = lg ∧ kd ≤ kk)) from by omega))
                    go_wp2_with fail
                    go_meet
                    exact ⟨by first | (rw [hd.out]; done) | rw [hd.out, decide_eq_false (by omega)], rfl⟩
            case rest =>
              as_aux_lemma =>
                obtain ⟨rfl, hw⟩ := hcut
                have hw := hw.symm
                subst hw
                clear hw
                by_cases c2 : (g < lg ∨ (g = lg ∧ kd ≤ kk))
                · have HF := HNO (by exact .inr (.inl (by have h := N1.out; simp only; rcases c2 with h2 | ⟨h2, h3⟩; exact .inl h2; exact .inr ⟨h2, by rw [hlk (by omega)] at h3; exact h3⟩)))
                  rw [decide_eq_true c2]
                  clear HNO HYES hhas c2
                  go_wp2
                  go_ret
                  exact ⟨by rw [HF.out]; rfl, hbx⟩
                rw [decide_eq_false c2]
                have N2 := Lib.hid c2
                clear c2
                go_upto_region 13 with fail
                go_cut [94] (fun s wx => s = .bool (decide ((g = 1 ∧ p ≠ 0) ∨ (g = 2 ∧ p ≠ p0))) ∧ ∃ nd : Nat, wx = W1.drewN nd)
                case first =>
                  as_aux_lemma =>
                    by_cases f1 : g = 1
                    · skip
                      have f1b : (g == 1) = true := by simpa using f1
                      by_cases f2 : p = 0
                      · skip
                        have f2b : (p != 0) = false := by simpa using f2
                        have g2b : (g == 2) = false := by simp; omega
                        have hd := Lib.hid (decide_eq_false (show ¬ ((g = 1 ∧ p ≠ 0) ∨ (g = 2 ∧ p ≠ p0)) from by omega))
                        go_quiet (fail)
                        go_wp2_with fail
                        go_meet
                        exact ⟨by first | (rw [hd.out]; done) | rw [hd.out, decide_eq_false (by omega)], _, rfl⟩
                      · skip
                        have f2b : (p != 0) = true := by simpa using f2
                        have hd := Lib.hid (decide_eq_true (show ((g = 1 ∧ p ≠ 0) ∨ (g = 2 ∧ p ≠ p0)) from by omega))
                        go_quiet (fail)
                        go_wp2_with fail
                        go_meet
                        exact ⟨by first | (rw [hd.out]; done) | rw [hd.out, decide_eq_false (by omega)], _, rfl⟩
                    · skip
                      have f1b : (g == 1) = false := by simpa using f1
                      by_cases f3 : g = 2
                      · skip
                        have f3b : (g == 2) = true := by simpa using f3
                        by_cases f4 : p = p0
                        · skip
                          have f4b : (p != p0) = false := by simpa using f4
                          have hd := Lib.hid (decide_eq_false (show ¬ ((g = 1 ∧ p ≠ 0) ∨ (g = 2 ∧ p ≠ p0)) from by omega))
                          go_quiet (fail)
                          go_wp2_with fail
                          go_meet
                          exact ⟨by first | (rw [hd.out]; done) | rw [hd.out, decide_eq_false (by omega)], _, rfl⟩
                        · skip
                          have f4b : (p != p0) = true := by simpa using f4
                          have hd := Lib.hid (decide_eq_true (show ((g = 1 ∧ p ≠ 0) ∨ (g = 2 ∧ p ≠ p0)) from by omega))
                          go_quiet (fail)
                          go_wp2_with fail
                          go_meet
                          exact ⟨by first | (rw [hd.out]; done) | rw [hd.out, decide_eq_false (by omega)], _, rfl⟩
                      · skip
                        have f3b : (g == 2) = false := by simpa using f3
                        have hd := Lib.hid (decide_eq_false (show ¬ ((g = 1 ∧ p ≠ 0) ∨ (g = 2 ∧ p ≠ p0)) from by omega))
                        go_quiet (fail)
                        go_wp2_with fail
                        go_meet
                        exact ⟨by first | (rw [hd.out]; done) | rw [hd.out, decide_eq_false (by omega)], _, rfl⟩
                case rest =>
                  as_aux_lemma =>
                    obtain ⟨rfl, nd, rfl⟩ := hcut
                    by_cases c3 : ((g = 1 ∧ p ≠ 0) ∨ (g = 2 ∧ p ≠ p0))
                    · have HF := HNO (by exact .inr (.inr (.inl c3)))
                      rw [decide_eq_true c3]
                      clear HNO HYES hhas c3
                      go_wp2
                      go_ret
                      exact ⟨by rw [HF.out]; rfl, below_drewN hbx nd⟩
                    rw [decide_eq_false c3]
                    have N3 := Lib.hid c3
                    clear c3
                    by_cases g3 : 3 ≤ g
                    · skip
                      go_upto_region 16 with fail
                      go_cut [121] (fun s wx => s = .bool (decide (p ∉ ps ∨ p < prot ∨ (g = lg ∧ p ≠ prot))) ∧ wx = W1.drewN nd)
                      case first =>
                        as_aux_lemma =>
                          by_cases m : p ∈ ps
                          · skip
                            go_wp2_with fail
                            refine (hhas nd).mono ?_
                            rintro e w9 ⟨rfl, rfl⟩
                            rw [decide_eq_true m]
                            by_cases f1 : p < prot
                            · skip
                              have hd := Lib.hid (decide_eq_true (show (p ∉ ps ∨ p < prot ∨ (g = lg ∧ p ≠ prot)) from .inr (.inl f1)))
                              go_wp2_with fail
                              go_meet
                              exact ⟨by first | (rw [hd.out]; done) | rw [hd.out, decide_eq_false (by omega)], rfl⟩
                            · skip
                              by_cases f2 : g = lg
                              · skip
                                have f2b : (g == lg) = true := by simpa using f2
                                by_cases f3 : p = prot
                                · skip
                                  have f3b : (p != prot) = false := by simpa using f3
                                  have hd := Lib.hid (decide_eq_false (show ¬ (p ∉ ps ∨ p < prot ∨ (g = lg ∧ p ≠ prot)) from fun h => by rcases h with h | h | h; exact h m; exact f1 h; exact h.2 f3))
                                  go_wp2_with fail
                                  go_meet
                                  exact ⟨by first | (rw [hd.out]; done) | rw [hd.out, decide_eq_false (by omega)], rfl⟩
                                · skip
                                  have f3b : (p != prot) = true := by simpa using f3
                                  have hd := Lib.hid (decide_eq_true (show (p ∉ ps ∨ p < prot ∨ (g = lg ∧ p ≠ prot)) from .inr (.inr ⟨f2, f3⟩)))
                                  go_wp2_with fail
                                  go_meet
                                  exact ⟨by first | (rw [hd.out]; done) | rw [hd.out, decide_eq_false (by omega)], rfl⟩
                              · skip
                                have f2b : (g == lg) = false := by simpa using f2
                                have hd := Lib.hid (decide_eq_false (show ¬ (p ∉ ps ∨ p < prot ∨ (g = lg ∧ p ≠ prot)) from fun h => by rcases h with h | h | h; exact h m; exact f1 h; exact f2 h.1))
                                go_wp2_with fail
                                go_meet
                                exact ⟨by first | (rw [hd.out]; done) | rw [hd.out, decide_eq_false (by omega)], rfl⟩
                          · skip
                            go_wp2_with fail
                            refine (hhas nd).mono ?_
                            rintro e w9 ⟨rfl, rfl⟩
                            rw [decide_eq_false m]
                            have hd := Lib.hid (decide_eq_true (show (p ∉ ps ∨ p < prot ∨ (g = lg ∧ p ≠ prot)) from .inl m))
                            go_wp2_with fail
                            go_meet
                            exact ⟨by first | (rw [hd.out]; done) | rw [hd.out, decide_eq_false (by omega)], rfl⟩
                      case rest =>
                        as_aux_lemma =>
                          obtain ⟨rfl, rfl⟩ := hcut
                          by_cases c4 : (p ∉ ps ∨ p < prot ∨ (g = lg ∧ p ≠ prot))
                          · have HF := HNO (by rcases c4 with h | h | h; exact .inr (.inr (.inr (.inl ⟨g3, h⟩))); exact .inr (.inr (.inr (.inr (.inr (.inl ⟨g3, h⟩))))); exact .inr (.inr (.inr (.inr (.inl ⟨g3, h.1, by rw [hlp (by omega)] at h; exact h.2⟩)))))
                            rw [decide_eq_true c4]
                            clear HNO HYES hhas c4
                            go_wp2
                            go_ret
                            exact ⟨by rw [HF.out]; rfl, below_drewN hbx nd⟩
                          rw [decide_eq_false c4]
                          have N4 := Lib.hid c4
                          clear c4
                          go_upto_region 18 with fail
                          go_cut [137] (fun s wx => s = .bool (decide (4 ≤ g ∧ g ≠ lg ∧ g - 1 ≠ lg)) ∧ wx = W1.drewN nd)
                          case first =>
                            as_aux_lemma =>
                              by_cases f1 : 4 ≤ g
                              · skip
                                have hwr : wrap64 (g - 1) = g - 1 := IntWalk.wrap64_in _ (by omega)
                                by_cases f2 : g = lg
                                · skip
                                  have f2b : (g != lg) = false := by simpa using f2
                                  have hd := Lib.hid (decide_eq_false (show ¬ (4 ≤ g ∧ g ≠ lg ∧ g - 1 ≠ lg) from by omega))
                                  go_wp2_with fail
                                  go_meet
                                  exact ⟨by first | (rw [hd.out]; done) | rw [hd.out, decide_eq_false (by omega)], rfl⟩
                                · skip
                                  have f2b : (g != lg) = true := by simpa using f2
                                  by_cases f3 : g - 1 = lg
                                  · skip
                                    have f3b : (g - 1 != lg) = false := by simpa using f3
                                    have hd := Lib.hid (decide_eq_false (show ¬ (4 ≤ g ∧ g ≠ lg ∧ g - 1 ≠ lg) from by omega))
                                    go_wp2_with fail
                                    go_meet
                                    exact ⟨by first | (rw [hd.out]; done) | rw [hd.out, decide_eq_false (by omega)], rfl⟩
                                  · skip
                                    have f3b : (g - 1 != lg) = true := by simpa using f3
                                    have hd := Lib.hid (decide_eq_true (show (4 ≤ g ∧ g ≠ lg ∧ g - 1 ≠ lg) from by omega))
                                    go_wp2_with fail
                                    go_meet
                                    exact ⟨by first | (rw [hd.out]; done) | rw [hd.out, decide_eq_false (by omega)], rfl⟩
                              · skip
                                have hd := Lib.hid (decide_eq_false (show ¬ (4 ≤ g ∧ g ≠ lg ∧ g - 1 ≠ lg) from by omega))
                                go_wp2_with fail
                                go_meet
                                exact ⟨by first | (rw [hd.out]; done) | rw [hd.out, decide_eq_false (by omega)], rfl⟩
                          case rest =>
                            as_aux_lemma =>
                              obtain ⟨rfl, rfl⟩ := hcut
                              by_cases c5 : (4 ≤ g ∧ g ≠ lg ∧ g - 1 ≠ lg)
                              · have HF := HNO (by exact .inr (.inr (.inr (.inr (.inr (.inr ⟨c5.1, fun e => c5.2.1 e.symm, fun e => c5.2.2 e.symm⟩))))))
                                rw [decide_eq_true c5]
                                clear HNO HYES hhas c5
                                go_wp2
                                go_ret
                                exact ⟨by rw [HF.out]; rfl, below_drewN hbx nd⟩
                              rw [decide_eq_false c5]
                              have N5 := Lib.hid c5
                              clear c5
                              have HR := HYES (by
                                rintro (h | h | h | h | h | h | h)
                                · exact N1.out h
                                · exact N2.out (by simp only at h; rcases h with h2 | ⟨h2, h3⟩; exact .inl h2; exact .inr ⟨h2, by have := N1.out; rw [hlk (by omega)]; exact h3⟩)
                                · exact N3.out h
                                · exact N4.out (.inl h.2)
                                · exact N4.out (.inr (.inr ⟨h.2.1, by have h2 := h.2.1; simp only at h2; rw [hlp (by omega)]; exact h.2.2⟩))
                                · exact N4.out (.inr (.inl h.2))
                                · exact N5.out ⟨h.1, fun e => h.2.1 e.symm, fun e => h.2.2 e.symm⟩)
                              rw [if_pos g3] at HR
                              have hg0 : 0 ≤ g := by have := N1.out; omega
                              clear HNO HYES hhas N1 N2 N3 N4 N5
                              go_upto_region 21 with fail
                              go_quiet (fail)
                              go_wp2
                              go_roundw
                              case rel => exact ⟨k + 1, p, ⟨g, kd, v, p⟩, kd, by omega, rfl, rfl, rfl, by go_num, below_drewN hbr1 _, hg0, fun _ => rfl, fun _ => rfl, HR⟩
                              case measure => simp [intOf]; omega
                    · skip
                      have HR := HYES (by
                        rintro (h | h | h | h | h | h | h)
                        · exact N1.out h
                        · exact N2.out (by simp only at h; rcases h with h2 | ⟨h2, h3⟩; exact .inl h2; exact .inr ⟨h2, by have := N1.out; rw [hlk (by omega)]; exact h3⟩)
                        · exact N3.out h
                        · exact g3 h.1
                        · exact g3 h.1
                        · exact g3 h.1
                        · have h2 := h.1; simp only at h2; omega)
                      rw [if_neg g3] at HR
                      have hg0 : 0 ≤ g := by have := N1.out; omega
                      clear HNO HYES hhas N1 N2 N3
                      go_upto_region 21 with fail
                      go_quiet (fail)
                      go_wp2
                      go_roundw
                      case rel => exact ⟨k + 1, prot, ⟨g, kd, v, p⟩, kd, by omega, rfl, rfl, rfl, by go_num, below_drewN hbr1 _, hg0, fun _ => rfl, fun h => absurd h g3, HR⟩
                      case measure => simp [intOf]; omega
      · have hkn : k = bs.length := by omega
        have HF : Hid (R = true) := by
          show _ = _
          have h := HRun.out
          rw [hkn, List.drop_length] at h
          rw [HRF.out, ← h]
          rfl
        have c1 := (hbr.cell (p := ⟨w.heap.size, 1, none⟩) hk0s).trans n1
        have hi3 : ¬ ((k : Int) < (bs.length : Int)) := by omega
        go_wp2
        go_ret
        exact ⟨by rw [HF.out]; rfl, hb0.trans (hbr.mono hb0.size)⟩
  · have HR : Hid (R = false) := by
      show _ = _
      have hok' : (okPs ps && decide (hs.length ≤ 15)) = false := Bool.eq_false_iff.2 hok
      rw [HRR.out]
      unfold rulesF
      rw [hok']
      rfl
    have hq := protocols_any pA pC ps W0 hpl hi0.p
    by_cases ho : okPs ps = true
    · have h15 : ¬ hs.length ≤ 15 := fun h => hok (by rw [ho, decide_eq_true h]; rfl)
      have h15i : (15 : Int) < (hs.length : Int) := by omega
      rw [ho] at hq
      go_wp2_with fail
      refine hq.mono ?_
      rintro e w1 ⟨rfl, rfl⟩
      go_wp2
      go_ret
      exact ⟨by rw [HR.out]; rfl, hb0⟩
    · rw [Bool.eq_false_iff.2 ho] at hq
      go_wp2_with fail
      refine hq.mono ?_
      rintro e w1 ⟨rfl, rfl⟩
      go_wp2
      go_ret
      exact ⟨by rw [HR.out]; rfl, hb0⟩
theorem right_any (a : Atr) (w : World) (hi : AtrIn w a) (hbl : a.bs.length ≤ 1048576) (hpl : a.ps.length ≤ 1048576) :
    Calls Try.prog 54 #[.agg (atrCs a)] w fun e w' => e = .returned (.bool (rulesF a)) ∧ Below w.heap.size w w' := by
  obtain ⟨aI, bA, bC, bs, pA, pC, ps, hA, hC, hs⟩ := a
  exact right_go aI bA bC bs pA pC ps hA hC hs _ rfl w hi hbl hpl
end Go.Proofs.Ytkhobpghiachoaa
