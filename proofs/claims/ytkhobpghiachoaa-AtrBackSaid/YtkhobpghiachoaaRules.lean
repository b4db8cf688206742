/-
  Which answers to reset are valid: rules.
-/
import Derived.Test.YtkhobpghiachoaaRul0
import Derived.IntWalk
namespace Go.Proofs.Ytkhobpghiachoaa
open Go.RowKit
set_option linter.unusedVariables false

theorem drawnN_below {w w' : World} (h : ∃ n, w' = w.drewN n) : Below w.heap.size w w' := by
  obtain ⟨n, rfl⟩ := h
  exact below_drewN (Below.refl _ _) n
theorem eqInts_b (A B : Option Addr) (c d : Nat) (xs ys : List Int) (w : World) (hs : ys.length ≤ 1048576) (hr : RC w A (nv xs)) (hq : RC w B (nv ys)) :
    Calls Try.prog 42 #[.slice A xs.length c, .slice B ys.length d] w fun e w' => e = .returned (.bool (decide (xs = ys))) ∧ Below w.heap.size w w' :=
  (eqInts_any A B c d xs ys w hs hr hq).mono fun e w' ⟨h, hn⟩ => ⟨h, drawnN_below hn⟩

theorem nv_head (l : List Int) (h : 0 < (nv l).length) : (nv l)[0] = .int .i64 (l.headD 0) := by
  rcases l with _ | ⟨y, ys⟩
  · simp [nv] at h
  · rfl
theorem last_setN {W0 w : World} {lb : Nat} {c0 : Array Value} (hB : Blk w lb 47 c0) (h4 : c0.size = 4) (hb : Below W0.heap.size W0 w) (hl : W0.heap.size ≤ lb) (n : Nat) (g k v p : Int) :
    Blk (((((w.drewN n).setCell ⟨lb, 0, none⟩ (.int .i64 g)).setCell ⟨lb, 1, none⟩ (.int .i64 k)).setCell ⟨lb, 2, none⟩ (.int .i64 v)).setCell ⟨lb, 3, none⟩ (.int .i64 p)) lb 47 (ifL ⟨g, k, v, p⟩).toArray ∧
    Below W0.heap.size W0 (((((w.drewN n).setCell ⟨lb, 0, none⟩ (.int .i64 g)).setCell ⟨lb, 1, none⟩ (.int .i64 k)).setCell ⟨lb, 2, none⟩ (.int .i64 v)).setCell ⟨lb, 3, none⟩ (.int .i64 p)) := by
  have h0 : Blk (w.drewN n) lb 47 c0 := hB.below (below_drewN (Below.refl _ _) n) hB.size
  have h1 := (((h0.put 0 (.int .i64 g)).put 1 (.int .i64 k)).put 2 (.int .i64 v)).put 3 (.int .i64 p)
  have e : (((c0.setIfInBounds 0 (.int .i64 g)).setIfInBounds 1 (.int .i64 k)).setIfInBounds 2 (.int .i64 v)).setIfInBounds 3 (.int .i64 p) = (ifL ⟨g, k, v, p⟩).toArray := by
    rcases c0 with ⟨l⟩
    match l, h4 with
    | [a, b, c, d], _ => rfl
  rw [e] at h1
  exact ⟨h1, ((((below_drewN hb n).setCell (p := ⟨lb, 0, none⟩) hl _).setCell (p := ⟨lb, 1, none⟩) hl _).setCell (p := ⟨lb, 2, none⟩) hl _).setCell (p := ⟨lb, 3, none⟩) hl _⟩
theorem last_set {W0 w : World} {lb : Nat} {c0 : Array Value} (hB : Blk w lb 47 c0) (h4 : c0.size = 4) (hb : Below W0.heap.size W0 w) (hl : W0.heap.size ≤ lb) (o : Obj) (n : Nat) (g k v p : Int) :
    Blk ((((((w.alloc o).drewN n).setCell ⟨lb, 0, none⟩ (.int .i64 g)).setCell ⟨lb, 1, none⟩ (.int .i64 k)).setCell ⟨lb, 2, none⟩ (.int .i64 v)).setCell ⟨lb, 3, none⟩ (.int .i64 p)) lb 47 (ifL ⟨g, k, v, p⟩).toArray ∧
    Below W0.heap.size W0 ((((((w.alloc o).drewN n).setCell ⟨lb, 0, none⟩ (.int .i64 g)).setCell ⟨lb, 1, none⟩ (.int .i64 k)).setCell ⟨lb, 2, none⟩ (.int .i64 v)).setCell ⟨lb, 3, none⟩ (.int .i64 p)) := by
  have h0 : Blk ((w.alloc o).drewN n) lb 47 c0 := (hB.alloc o).below (below_drewN (Below.refl _ _) n) (hB.alloc o).size
  have h1 := (((h0.put 0 (.int .i64 g)).put 1 (.int .i64 k)).put 2 (.int .i64 v)).put 3 (.int .i64 p)
  have e : (((c0.setIfInBounds 0 (.int .i64 g)).setIfInBounds 1 (.int .i64 k)).setIfInBounds 2 (.int .i64 v)).setIfInBounds 3 (.int .i64 p) = (ifL ⟨g, k, v, p⟩).toArray := by
    rcases c0 with ⟨l⟩
    match l, h4 with
    | [a, b, c, d], _ => rfl
  rw [e] at h1
  exact ⟨h1, ((((below_drewN (hb.alloc hb.size o) n).setCell (p := ⟨lb, 0, none⟩) hl _).setCell (p := ⟨lb, 1, none⟩) hl _).setCell (p := ⟨lb, 2, none⟩) hl _).setCell (p := ⟨lb, 3, none⟩) hl _⟩

set_option maxRecDepth 100000 in
set_option maxHeartbeats 16000000 in
theorem rules_go (aI : Bool) (bA : Option Addr) (bC : Nat) (bs : List If) (pA : Option Addr) (pC : Nat) (ps : List Int) (hA : Option Addr) (hC : Nat) (hs : List UInt8) (R : Bool) (hRR : R = rulesF ⟨aI, bA, bC, bs, pA, pC, ps, hA, hC, hs⟩) (w : World) (hi : AtrIn w ⟨aI, bA, bC, bs, pA, pC, ps, hA, hC, hs⟩) (hbl : bs.length ≤ 1048576) (hpl : ps.length ≤ 1048576) :
    Calls Try.prog 39 #[.agg (atrCs ⟨aI, bA, bC, bs, pA, pC, ps, hA, hC, hs⟩)] w fun e w' => e = .returned (.bool R) ∧ Below w.heap.size w w' := by
  have hk0 := Blk.made w 27 (atrCs ⟨aI, bA, bC, bs, pA, pC, ps, hA, hC, hs⟩)
  have hb0 := (Below.refl w.heap.size w).alloc (Nat.le_refl _) (.cells (atrCs ⟨aI, bA, bC, bs, pA, pC, ps, hA, hC, hs⟩) 27)
  have HRR := Lib.hid hRR
  clear hRR
  obtain ⟨W0, hW0⟩ : ∃ W0 : World, W0 = w.alloc (.cells (atrCs ⟨aI, bA, bC, bs, pA, pC, ps, hA, hC, hs⟩) 27) := ⟨_, rfl⟩
  rw [← hW0] at hk0 hb0
  have hi0 := hi.below hb0
  have n1 : W0.cell? ⟨w.heap.size, 1, none⟩ = some (.slice bA bs.length bC) := hk0.cell 1
  have n2 : W0.cell? ⟨w.heap.size, 2, none⟩ = some (.slice pA ps.length pC) := hk0.cell 2
  have n3 : W0.cell? ⟨w.heap.size, 3, none⟩ = some (.slice hA hs.length hC) := hk0.cell 3
  go_enter Try.func39, Try.ntmps39
  go_upto_region 1 with fail
  rw [← hW0]
  clear hW0
  go_upto_region 2 with fail
  go_cut [31] (fun s wx => s = .bool (!(okPs ps && decide (hs.length ≤ 15))) ∧ Below W0.heap.size W0 wx)
  case first =>
    as_aux_lemma =>
      have m1 := (Below.refl W0.heap.size W0).alloc (Nat.le_refl _) (.cells #[.int .i64 0] 3)
      have q1 := eqInts_b pA (some ⟨W0.heap.size, 0, none⟩) pC 1 ps [0] (W0.alloc (.cells #[.int .i64 0] 3)) (by decide) (hi0.p.below m1) (RC.made W0 _ _ _ rfl)
      go_wp2_with fail
      refine q1.mono ?_
      clear q1
      rintro e w1 ⟨rfl, hb1⟩
      have hb1' := m1.trans (hb1.mono m1.size)
      by_cases e0 : ps = [0]
      · rw [decide_eq_true e0]
        have E0 := Lib.hid e0
        clear e0
        have k3 := ((hb1').cell (p := ⟨w.heap.size, 3, none⟩) hk0.size).trans n3
        by_cases hh : 15 < hs.length
        · have hh2 : (15 : Int) < (hs.length : Int) := by omega
          have HF : Hid ((!(okPs ps && decide (hs.length ≤ 15))) = true) := by
            show _ = _
            rw [decide_eq_false (by omega : ¬ hs.length ≤ 15)]
            simp [okPs, E0.out]
          go_wp2_with fail
          go_meet
          exact ⟨by rw [HF.out]; try (simp; omega), hb1'⟩
        · have hh2 : ¬ ((15 : Int) < (hs.length : Int)) := by omega
          have HF : Hid ((!(okPs ps && decide (hs.length ≤ 15))) = false) := by
            show _ = _
            rw [decide_eq_true (by omega : hs.length ≤ 15)]
            simp [okPs, E0.out]
          go_wp2_with fail
          go_meet
          exact ⟨by rw [HF.out]; try (simp; omega), hb1'⟩
      rw [decide_eq_false e0]
      have m2 := (Below.refl w1.heap.size w1).alloc (Nat.le_refl _) (.cells #[.int .i64 1] 3)
      have q2 := eqInts_b pA (some ⟨w1.heap.size, 0, none⟩) pC 1 ps [1] (w1.alloc (.cells #[.int .i64 1] 3)) (by decide) ((hi0.p.below hb1').below m2) (RC.made w1 _ _ _ rfl)
      have E0 := Lib.hid e0
      clear e0
      go_wp2_with fail
      refine q2.mono ?_
      clear q2
      rintro e w2 ⟨rfl, hb2⟩
      have hb2' := hb1'.trans ((m2.trans (hb2.mono m2.size)).mono hb1'.size)
      by_cases e1 : ps = [1]
      · rw [decide_eq_true e1]
        have E1 := Lib.hid e1
        clear e1
        have k3 := ((hb2').cell (p := ⟨w.heap.size, 3, none⟩) hk0.size).trans n3
        by_cases hh : 15 < hs.length
        · have hh2 : (15 : Int) < (hs.length : Int) := by omega
          have HF : Hid ((!(okPs ps && decide (hs.length ≤ 15))) = true) := by
            show _ = _
            rw [decide_eq_false (by omega : ¬ hs.length ≤ 15)]
            simp [okPs, E1.out]
          go_wp2_with fail
          go_meet
          exact ⟨by rw [HF.out]; try (simp; omega), hb2'⟩
        · have hh2 : ¬ ((15 : Int) < (hs.length : Int)) := by omega
          have HF : Hid ((!(okPs ps && decide (hs.length ≤ 15))) = false) := by
            show _ = _
            rw [decide_eq_true (by omega : hs.length ≤ 15)]
            simp [okPs, E1.out]
          go_wp2_with fail
          go_meet
          exact ⟨by rw [HF.out]; try (simp; omega), hb2'⟩
      rw [decide_eq_false e1]
      have m3 := (Below.refl w2.heap.size w2).alloc (Nat.le_refl _) (.cells #[.int .i64 0, .int .i64 1] 3)
      have q3 := eqInts_b pA (some ⟨w2.heap.size, 0, none⟩) pC 2 ps [0, 1] (w2.alloc (.cells #[.int .i64 0, .int .i64 1] 3)) (by decide) ((hi0.p.below hb2').below m3) (RC.made w2 _ _ _ rfl)
      have E1 := Lib.hid e1
      clear e1
      go_wp2_with fail
      refine q3.mono ?_
      clear q3
      rintro e w3 ⟨rfl, hb3⟩
      have hb3' := hb2'.trans ((m3.trans (hb3.mono m3.size)).mono hb2'.size)
      by_cases e2 : ps = [0, 1]
      · rw [decide_eq_true e2]
        have E2 := Lib.hid e2
        clear e2
        have k3 := ((hb3').cell (p := ⟨w.heap.size, 3, none⟩) hk0.size).trans n3
        by_cases hh : 15 < hs.length
        · have hh2 : (15 : Int) < (hs.length : Int) := by omega
          have HF : Hid ((!(okPs ps && decide (hs.length ≤ 15))) = true) := by
            show _ = _
            rw [decide_eq_false (by omega : ¬ hs.length ≤ 15)]
            simp [okPs, E2.out]
          go_wp2_with fail
          go_meet
          exact ⟨by rw [HF.out]; try (simp; omega), hb3'⟩
        · have hh2 : ¬ ((15 : Int) < (hs.length : Int)) := by omega
          have HF : Hid ((!(okPs ps && decide (hs.length ≤ 15))) = false) := by
            show _ = _
            rw [decide_eq_true (by omega : hs.length ≤ 15)]
            simp [okPs, E2.out]
          go_wp2_with fail
          go_meet
          exact ⟨by rw [HF.out]; try (simp; omega), hb3'⟩
      · rw [decide_eq_false e2]
        have HF : Hid ((!(okPs ps && decide (hs.length ≤ 15))) = true) := by
          show _ = _
          have e0 := E0.out
          have e1 := E1.out
          simp [okPs, e0, e1, e2]
        clear e2
        go_wp2_with fail
        go_meet
        exact ⟨by rw [HF.out], hb3'⟩
  case rest =>
    as_aux_lemma =>
      obtain ⟨rfl, hbc⟩ := hcut
      by_cases hok : (okPs ps && decide (hs.length ≤ 15)) = true
      · obtain ⟨hok1, hok2⟩ : okPs ps = true ∧ hs.length ≤ 15 := by simpa using hok
        have hp0 : 0 < ps.length := by
          rcases hps : ps with _ | ⟨y, ys⟩
          · rw [hps] at hok1; cases hok1
          · simp
        obtain ⟨pb, po, rfl, hpc⟩ := (hi0.p.below hbc).at_ (by rw [nv_length]; exact hp0)
        obtain ⟨p0, hp0d⟩ : ∃ p0, p0 = ps.headD 0 := ⟨_, rfl⟩
        have hpc0 : wc.cell? ⟨pb, po, none⟩ = some (.int .i64 p0) := by
          have h := hpc 0 (by rw [nv_length]; exact hp0)
          rw [Nat.add_zero] at h
          rw [h, hp0d, nv_head]
        have hpi : (0 : Int) < (ps.length : Int) := by omega
        have HRF : Hid (R = runR p0 ps (p0, ⟨0, 3, 0, 0⟩) bs) := by
          show _ = _
          rw [HRR.out]
          unfold rulesF
          rw [hok1, decide_eq_true hok2, hp0d]
          rfl
        have hbv := (hi0.b.below hbc)
        have k1 := (hbc.cell (p := ⟨w.heap.size, 1, none⟩) hk0.size).trans n1
        have hbw := hb0.trans (hbc.mono hb0.size)
        have hok' : (!(okPs ps && decide (hs.length ≤ 15))) = false := by rw [hok]; rfl
        rw [hok']
        have hl0 := Blk.made wc 47 (ifL ⟨0, 3, 0, 0⟩).toArray
        have hbl0 := (Below.refl wc.heap.size wc).alloc (Nat.le_refl _) (.cells (ifL ⟨0, 3, 0, 0⟩).toArray 47)
        have hxl := hk0.size
        have hxl2 : w.heap.size < wc.heap.size := Nat.lt_of_lt_of_le hk0.size hbc.size
        clear hok hok' hok1 hok2 hp0d hpc n2 n3
        go_wp2
        go_loopw [4, 39] (fun pr i wx => ∃ (k : Nat) (prot : Int) (last : If), k ≤ bs.length ∧ pr = .int .i64 prot ∧ i = .int .i64 k ∧ Blk wx wc.heap.size 47 (ifL last).toArray ∧ Below wc.heap.size wc wx ∧ Hid (runR p0 ps (prot, last) (bs.drop k) = runR p0 ps (p0, ⟨0, 3, 0, 0⟩) bs)) (fun _ i _ => bs.length - (intOf i).toNat)
        case atStart => exact ⟨0, p0, ⟨0, 3, 0, 0⟩, Nat.zero_le _, rfl, rfl, hl0, hbl0, rfl⟩
        case round =>
          obtain ⟨k, prot, last, hkl, rfl, rfl, hL, hbr, HRun⟩ := hrel
          by_cases hk : k < bs.length
          · obtain ⟨bb, bo, rfl, hbx⟩ := RC.elem ifL (s := 4) (fun _ => rfl) (hbv.below hbr) k hk (by decide)
            have hgf : bs[k].g ≤ 9223372036854775807 := hi.f bs[k] (List.getElem_mem hk)
            have HST := Lib.hid (runR_step (p0 := p0) (ps := ps) (st := (prot, last)) hk)
            have z0 : wr.cell? ⟨bb, bo + k * 4, none⟩ = some (.int .i64 bs[k].g) := hbx 0 (by decide)
            have z1 : wr.cell? ⟨bb, bo + k * 4 + 1, none⟩ = some (.int .i64 bs[k].k) := by rw [Nat.add_assoc]; exact hbx 1 (by decide)
            have z2 : wr.cell? ⟨bb, bo + k * 4 + 2, none⟩ = some (.int .i64 bs[k].v) := by rw [Nat.add_assoc]; exact hbx 2 (by decide)
            have z3 : wr.cell? ⟨bb, bo + k * 4 + 3, none⟩ = some (.int .i64 bs[k].p) := by rw [Nat.add_assoc]; exact hbx 3 (by decide)
            clear hbx
            generalize bs[k] = x at z0 z1 z2 z3 HST hgf
            obtain ⟨g, kd, v, p⟩ := x
            obtain ⟨lg, lk, lv, lp⟩ := last
            simp only at z0 z1 z2 z3 hgf
            have y0 : wr.cell? ⟨wc.heap.size, 0, none⟩ = some (.int .i64 lg) := hL.cell 0
            have y1 : wr.cell? ⟨wc.heap.size, 1, none⟩ = some (.int .i64 lk) := hL.cell 1
            have y2 : wr.cell? ⟨wc.heap.size, 2, none⟩ = some (.int .i64 lv) := hL.cell 2
            have y3 : wr.cell? ⟨wc.heap.size, 3, none⟩ = some (.int .i64 lp) := hL.cell 3
            have yp := (hbr.cell (cell?_lt hpc0)).trans hpc0
            have hpb : pb < wr.heap.size := cell?_lt yp
            have hls := hL.size
            have fl := hL.free
            have hi1 : (0 : Int) ≤ (k : Int) := by omega
            have hi2 : (k : Int) < (bs.length : Int) := by omega
            have hbx0 := Blk.made wr 47 (ifL ⟨g, kd, v, p⟩).toArray
            have hbA := (Below.refl wr.heap.size wr).alloc (Nat.le_refl _) (.cells (ifL ⟨g, kd, v, p⟩).toArray 47)
            have hi7 := hi0.p.below (hbc.trans ((hbr.trans (hbA.mono hbr.size)).mono hbc.size))
            go_upto_region 8 with fail
            obtain ⟨W1, hW1⟩ : ∃ W1 : World, W1 = (wr.alloc (.cells #[.int .i64 g, .int .i64 kd, .int .i64 v, .int .i64 p] 47)) := ⟨_, rfl⟩
            have hXB : Blk W1 wr.heap.size 47 (ifL ⟨g, kd, v, p⟩).toArray := by rw [hW1]; exact hbx0
            have hLB : Blk W1 wc.heap.size 47 (ifL ⟨lg, lk, lv, lp⟩).toArray := by rw [hW1]; exact hL.alloc _
            have hbr1 : Below wc.heap.size wc W1 := by rw [hW1]; exact hbr.trans (hbA.mono hbr.size)
            have yp1 : W1.cell? ⟨pb, po, none⟩ = some (.int .i64 p0) := by rw [hW1]; exact (hbA.cell hpb).trans yp
            have hip : RC W1 (some ⟨pb, po, none⟩) (nv ps) := by rw [hW1]; exact hi7
            rw [← hW1]
            clear hW1 hbA hbx0 hi7 z0 z1 z2 z3 y0 y1 y2 y3 yp fl hL hbv
            have x0 : W1.cell? ⟨wr.heap.size, 0, none⟩ = some (.int .i64 g) := hXB.cell 0
            have x1 : W1.cell? ⟨wr.heap.size, 1, none⟩ = some (.int .i64 kd) := hXB.cell 1
            have x2 : W1.cell? ⟨wr.heap.size, 2, none⟩ = some (.int .i64 v) := hXB.cell 2
            have x3 : W1.cell? ⟨wr.heap.size, 3, none⟩ = some (.int .i64 p) := hXB.cell 3
            have y0 : W1.cell? ⟨wc.heap.size, 0, none⟩ = some (.int .i64 lg) := hLB.cell 0
            have y1 : W1.cell? ⟨wc.heap.size, 1, none⟩ = some (.int .i64 lk) := hLB.cell 1
            have y2 : W1.cell? ⟨wc.heap.size, 2, none⟩ = some (.int .i64 lv) := hLB.cell 2
            have y3 : W1.cell? ⟨wc.heap.size, 3, none⟩ = some (.int .i64 lp) := hLB.cell 3
            have fl := hLB.free
            have hbx := hbw.trans (hbr1.mono hbw.size)
            have HNO : stepR p0 ps (prot, ⟨lg, lk, lv, lp⟩) ⟨g, kd, v, p⟩ = none → Hid (R = false) := fun h => by
              show _ = _
              rw [HRF.out, ← HRun.out, HST.out, h]
            have HYES : ∀ st, stepR p0 ps (prot, ⟨lg, lk, lv, lp⟩) ⟨g, kd, v, p⟩ = some st → Hid (runR p0 ps st (bs.drop (k + 1)) = runR p0 ps (p0, ⟨0, 3, 0, 0⟩) bs) := fun st h => by
              show _ = _
              rw [← HRun.out, HST.out, h]
            have hLS := fun n => last_setN hLB rfl hbr1 (Nat.le_refl _) n g kd v p
            have hcon := fun n => contains_any (some ⟨pb, po, none⟩) pC ps p (W1.drewN n) hpl (hip.drewN n)
            have hxbs := hXB.size
            have hlbs := hLB.size
            have hne : wr.heap.size ≠ wc.heap.size := by omega
            obtain ⟨xb, hxb⟩ : ∃ xb, xb = wr.heap.size := ⟨_, rfl⟩
            rw [← hxb]
            rw [← hxb] at x0 x1 x2 x3 hne
            clear hxb hXB hLB hip hpc0 hls hpb k1 HST HRun hbw hbr hbr1
            go_cut [65] (fun s wx => s = .bool (decide (g < 1 ∨ kd < 0 ∨ 3 ≤ kd ∨ v < 0 ∨ 255 < v)) ∧ wx = W1)
            case first =>
              as_aux_lemma =>
                by_cases d1 : g < 1
                · have hd := Lib.hid (decide_eq_true (show (g < 1 ∨ kd < 0 ∨ 3 ≤ kd ∨ v < 0 ∨ 255 < v) from by omega))
                  go_wp2_with fail
                  go_meet
                  exact ⟨by rw [hd.out], rfl⟩
                by_cases d2 : kd < 0
                · have hd := Lib.hid (decide_eq_true (show (g < 1 ∨ kd < 0 ∨ 3 ≤ kd ∨ v < 0 ∨ 255 < v) from by omega))
                  go_wp2_with fail
                  go_meet
                  exact ⟨by rw [hd.out], rfl⟩
                by_cases d3 : 3 ≤ kd
                · have hd := Lib.hid (decide_eq_true (show (g < 1 ∨ kd < 0 ∨ 3 ≤ kd ∨ v < 0 ∨ 255 < v) from by omega))
                  go_wp2_with fail
                  go_meet
                  exact ⟨by rw [hd.out], rfl⟩
                by_cases d4 : v < 0
                · have hd := Lib.hid (decide_eq_true (show (g < 1 ∨ kd < 0 ∨ 3 ≤ kd ∨ v < 0 ∨ 255 < v) from by omega))
                  go_wp2_with fail
                  go_meet
                  exact ⟨by rw [hd.out], rfl⟩
                by_cases d5 : 255 < v
                · have hd := Lib.hid (decide_eq_true (show (g < 1 ∨ kd < 0 ∨ 3 ≤ kd ∨ v < 0 ∨ 255 < v) from by omega))
                  go_wp2_with fail
                  go_meet
                  exact ⟨by rw [hd.out], rfl⟩
                have hd := Lib.hid (decide_eq_false (show ¬ (g < 1 ∨ kd < 0 ∨ 3 ≤ kd ∨ v < 0 ∨ 255 < v) from by omega))
                go_wp2_with fail
                go_meet
                exact ⟨by rw [hd.out], rfl⟩
            case rest =>
              as_aux_lemma =>
                obtain ⟨rfl, hw⟩ := hcut
                have hw := hw.symm
                subst hw
                by_cases c1 : (g < 1 ∨ kd < 0 ∨ 3 ≤ kd ∨ v < 0 ∨ 255 < v)
                · have HF := HNO (by unfold stepR; rw [if_pos c1])
                  rw [decide_eq_true c1]
                  clear HNO HYES hLS hcon c1
                  go_wp2
                  go_ret
                  exact ⟨by rw [HF.out]; rfl, hbx⟩
                rw [decide_eq_false c1]
                have b1 : ¬ g < 1 := fun h => c1 (by omega)
                have b2 : ¬ kd < 0 := fun h => c1 (by omega)
                have b3 : ¬ 3 ≤ kd := fun h => c1 (by omega)
                have b4 : ¬ v < 0 := fun h => c1 (by omega)
                have b5 : ¬ 255 < v := fun h => c1 (by omega)
                have N1 := Lib.hid c1
                clear c1
                go_upto_region 10 with fail
                go_cut [84] (fun s wx => s = .bool (decide (g < lg ∨ (g = lg ∧ kd ≤ lk))) ∧ wx = W1)
                case first =>
                  as_aux_lemma =>
                    by_cases f1 : g < lg
                    · skip
                      have hd := Lib.hid (decide_eq_true (show (g < lg ∨ (g = lg ∧ kd ≤ lk)) from by omega))
                      go_wp2_with fail
                      go_meet
                      exact ⟨by rw [hd.out], rfl⟩
                    · skip
                      by_cases f2 : g = lg
                      · skip
                        have f2b : (g == lg) = true := by simpa using f2
                        by_cases f3 : kd ≤ lk
                        · skip
                          have hd := Lib.hid (decide_eq_true (show (g < lg ∨ (g = lg ∧ kd ≤ lk)) from by omega))
                          go_wp2_with fail
                          go_meet
                          exact ⟨by rw [hd.out], rfl⟩
                        · skip
                          have hd := Lib.hid (decide_eq_false (show ¬ (g < lg ∨ (g = lg ∧ kd ≤ lk)) from by omega))
                          go_wp2_with fail
                          go_meet
                          exact ⟨by rw [hd.out], rfl⟩
                      · skip
                        have f2b : (g == lg) = false := by simpa using f2
                        have hd := Lib.hid (decide_eq_false (show ¬ (g < lg ∨ (g = lg ∧ kd ≤ lk)) from by omega))
                        go_wp2_with fail
                        go_meet
                        exact ⟨by rw [hd.out], rfl⟩
                case rest =>
                  as_aux_lemma =>
                    obtain ⟨rfl, hw⟩ := hcut
                    have hw := hw.symm
                    subst hw
                    by_cases c2 : (g < lg ∨ (g = lg ∧ kd ≤ lk))
                    · have HF := HNO (by unfold stepR; rw [if_neg N1.out, if_pos c2])
                      rw [decide_eq_true c2]
                      clear HNO HYES hLS hcon c2
                      go_wp2
                      go_ret
                      exact ⟨by rw [HF.out]; rfl, hbx⟩
                    rw [decide_eq_false c2]
                    have N2 := Lib.hid c2
                    clear c2
                    go_upto_region 12 with fail
                    go_cut [85] (fun s wx => s = .bool (decide (g = 1 ∧ p ≠ 0)) ∧ wx = W1)
                    case first =>
                      as_aux_lemma =>
                        by_cases f1 : g = 1
                        · skip
                          have f1b : (g == 1) = true := by simpa using f1
                          by_cases f2 : p = 0
                          · skip
                            have f2b : (p != 0) = false := by simpa using f2
                            have hd := Lib.hid (decide_eq_false (show ¬ (g = 1 ∧ p ≠ 0) from by omega))
                            go_wp2_with fail
                            go_meet
                            exact ⟨by rw [hd.out], rfl⟩
                          · skip
                            have f2b : (p != 0) = true := by simpa using f2
                            have hd := Lib.hid (decide_eq_true (show (g = 1 ∧ p ≠ 0) from by omega))
                            go_wp2_with fail
                            go_meet
                            exact ⟨by rw [hd.out], rfl⟩
                        · skip
                          have f1b : (g == 1) = false := by simpa using f1
                          have hd := Lib.hid (decide_eq_false (show ¬ (g = 1 ∧ p ≠ 0) from by omega))
                          go_wp2_with fail
                          go_meet
                          exact ⟨by rw [hd.out], rfl⟩
                    case rest =>
                      as_aux_lemma =>
                        obtain ⟨rfl, hw⟩ := hcut
                        have hw := hw.symm
                        subst hw
                        by_cases c3 : (g = 1 ∧ p ≠ 0)
                        · have HF := HNO (by unfold stepR; rw [if_neg N1.out, if_neg N2.out, if_pos (.inl c3)])
                          rw [decide_eq_true c3]
                          clear HNO HYES hLS hcon c3
                          go_wp2
                          go_ret
                          exact ⟨by rw [HF.out]; rfl, hbx⟩
                        rw [decide_eq_false c3]
                        have N3 := Lib.hid c3
                        clear c3
                        go_upto_region 13 with fail
                        go_cut [85] (fun s wx => s = .bool (decide (g = 2 ∧ p ≠ p0)) ∧ ∃ nd : Nat, wx = W1.drewN nd)
                        case first =>
                          as_aux_lemma =>
                            by_cases f1 : g = 2
                            · skip
                              have f1b : (g == 2) = true := by simpa using f1
                              by_cases f2 : p = p0
                              · skip
                                have f2b : (p != p0) = false := by simpa using f2
                                have hd := Lib.hid (decide_eq_false (show ¬ (g = 2 ∧ p ≠ p0) from by omega))
                                go_quiet (fail)
                                go_wp2_with fail
                                go_meet
                                exact ⟨by rw [hd.out], _, rfl⟩
                              · skip
                                have f2b : (p != p0) = true := by simpa using f2
                                have hd := Lib.hid (decide_eq_true (show (g = 2 ∧ p ≠ p0) from by omega))
                                go_quiet (fail)
                                go_wp2_with fail
                                go_meet
                                exact ⟨by rw [hd.out], _, rfl⟩
                            · skip
                              have f1b : (g == 2) = false := by simpa using f1
                              have hd := Lib.hid (decide_eq_false (show ¬ (g = 2 ∧ p ≠ p0) from by omega))
                              go_quiet (fail)
                              go_wp2_with fail
                              go_meet
                              exact ⟨by rw [hd.out], _, rfl⟩
                        case rest =>
                          as_aux_lemma =>
                            obtain ⟨rfl, nd, rfl⟩ := hcut
                            by_cases c4 : (g = 2 ∧ p ≠ p0)
                            · have HF := HNO (by unfold stepR; rw [if_neg N1.out, if_neg N2.out, if_pos (.inr c4)])
                              rw [decide_eq_true c4]
                              clear HNO HYES hLS hcon c4
                              go_wp2
                              go_ret
                              exact ⟨by rw [HF.out]; rfl, below_drewN hbx nd⟩
                            rw [decide_eq_false c4]
                            have N4 := Lib.hid c4
                            clear c4
                            go_upto_region 15 with fail
                            go_cut [105] (fun s wx => s = .bool (decide (3 ≤ g ∧ p ∉ ps)) ∧ wx = W1.drewN nd)
                            case first =>
                              as_aux_lemma =>
                                by_cases f1 : 3 ≤ g
                                · skip
                                  by_cases m : p ∈ ps
                                  · have hd := Lib.hid (decide_eq_false (show ¬ (3 ≤ g ∧ p ∉ ps) from fun h => h.2 m))
                                    go_wp2_with fail
                                    refine (hcon nd).mono ?_
                                    rintro e w9 ⟨rfl, rfl⟩
                                    rw [decide_eq_true m]
                                    go_wp2_with fail
                                    go_meet
                                    exact ⟨by rw [hd.out], rfl⟩
                                  · have hd := Lib.hid (decide_eq_true (show (3 ≤ g ∧ p ∉ ps) from ⟨f1, m⟩))
                                    go_wp2_with fail
                                    refine (hcon nd).mono ?_
                                    rintro e w9 ⟨rfl, rfl⟩
                                    rw [decide_eq_false m]
                                    go_wp2_with fail
                                    go_meet
                                    exact ⟨by rw [hd.out], rfl⟩
                                · skip
                                  have hd := Lib.hid (decide_eq_false (show ¬ (3 ≤ g ∧ p ∉ ps) from fun h => f1 h.1))
                                  go_wp2_with fail
                                  go_meet
                                  exact ⟨by rw [hd.out], rfl⟩
                            case rest =>
                              as_aux_lemma =>
                                obtain ⟨rfl, rfl⟩ := hcut
                                by_cases c5 : (3 ≤ g ∧ p ∉ ps)
                                · have HF := HNO (by unfold stepR; rw [if_neg N1.out, if_neg N2.out, if_neg (fun h => h.elim N3.out N4.out), if_pos c5])
                                  rw [decide_eq_true c5]
                                  clear HNO HYES hLS hcon c5
                                  go_wp2
                                  go_ret
                                  exact ⟨by rw [HF.out]; rfl, below_drewN hbx nd⟩
                                rw [decide_eq_false c5]
                                have N5 := Lib.hid c5
                                clear c5
                                go_upto_region 17 with fail
                                go_cut [116] (fun s wx => s = .bool (decide (3 ≤ g ∧ g = lg ∧ p ≠ lp)) ∧ wx = W1.drewN nd)
                                case first =>
                                  as_aux_lemma =>
                                    by_cases f1 : 3 ≤ g
                                    · skip
                                      by_cases f2 : g = lg
                                      · skip
                                        have f2b : (g == lg) = true := by simpa using f2
                                        by_cases f3 : p = lp
                                        · skip
                                          have f3b : (p != lp) = false := by simpa using f3
                                          have hd := Lib.hid (decide_eq_false (show ¬ (3 ≤ g ∧ g = lg ∧ p ≠ lp) from by omega))
                                          go_wp2_with fail
                                          go_meet
                                          exact ⟨by rw [hd.out], rfl⟩
                                        · skip
                                          have f3b : (p != lp) = true := by simpa using f3
                                          have hd := Lib.hid (decide_eq_true (show (3 ≤ g ∧ g = lg ∧ p ≠ lp) from by omega))
                                          go_wp2_with fail
                                          go_meet
                                          exact ⟨by rw [hd.out], rfl⟩
                                      · skip
                                        have f2b : (g == lg) = false := by simpa using f2
                                        have hd := Lib.hid (decide_eq_false (show ¬ (3 ≤ g ∧ g = lg ∧ p ≠ lp) from by omega))
                                        go_wp2_with fail
                                        go_meet
                                        exact ⟨by rw [hd.out], rfl⟩
                                    · skip
                                      have hd := Lib.hid (decide_eq_false (show ¬ (3 ≤ g ∧ g = lg ∧ p ≠ lp) from by omega))
                                      go_wp2_with fail
                                      go_meet
                                      exact ⟨by rw [hd.out], rfl⟩
                                case rest =>
                                  as_aux_lemma =>
                                    obtain ⟨rfl, rfl⟩ := hcut
                                    by_cases c6 : (3 ≤ g ∧ g = lg ∧ p ≠ lp)
                                    · have HF := HNO (by unfold stepR; rw [if_neg N1.out, if_neg N2.out, if_neg (fun h => h.elim N3.out N4.out), if_neg N5.out, if_pos c6])
                                      rw [decide_eq_true c6]
                                      clear HNO HYES hLS hcon c6
                                      go_wp2
                                      go_ret
                                      exact ⟨by rw [HF.out]; rfl, below_drewN hbx nd⟩
                                    rw [decide_eq_false c6]
                                    have N6 := Lib.hid c6
                                    clear c6
                                    go_upto_region 19 with fail
                                    go_cut [134] (fun s wx => s = .bool (decide (3 ≤ g ∧ p < prot)) ∧ wx = W1.drewN nd)
                                    case first =>
                                      as_aux_lemma =>
                                        by_cases f1 : 3 ≤ g
                                        · skip
                                          by_cases f2 : p < prot
                                          · skip
                                            have hd := Lib.hid (decide_eq_true (show (3 ≤ g ∧ p < prot) from by omega))
                                            go_wp2_with fail
                                            go_meet
                                            exact ⟨by rw [hd.out], rfl⟩
                                          · skip
                                            have hd := Lib.hid (decide_eq_false (show ¬ (3 ≤ g ∧ p < prot) from by omega))
                                            go_wp2_with fail
                                            go_meet
                                            exact ⟨by rw [hd.out], rfl⟩
                                        · skip
                                          have hd := Lib.hid (decide_eq_false (show ¬ (3 ≤ g ∧ p < prot) from by omega))
                                          go_wp2_with fail
                                          go_meet
                                          exact ⟨by rw [hd.out], rfl⟩
                                    case rest =>
                                      as_aux_lemma =>
                                        obtain ⟨rfl, rfl⟩ := hcut
                                        by_cases c7 : (3 ≤ g ∧ p < prot)
                                        · have HF := HNO (by unfold stepR; rw [if_neg N1.out, if_neg N2.out, if_neg (fun h => h.elim N3.out N4.out), if_neg N5.out, if_neg N6.out, if_pos c7])
                                          rw [decide_eq_true c7]
                                          clear HNO HYES hLS hcon c7
                                          go_wp2
                                          go_ret
                                          exact ⟨by rw [HF.out]; rfl, below_drewN hbx nd⟩
                                        rw [decide_eq_false c7]
                                        have N7 := Lib.hid c7
                                        clear c7
                                        go_upto_region 21 with fail
                                        go_cut [144] (fun s wx => s = .bool (decide (4 ≤ g ∧ lg ≠ g ∧ lg ≠ g - 1)) ∧ wx = W1.drewN nd)
                                        case first =>
                                          as_aux_lemma =>
                                            have hwr : wrap64 (g - 1) = g - 1 := IntWalk.wrap64_in _ (by omega)
                                            by_cases f1 : 4 ≤ g
                                            · skip
                                              by_cases f2 : lg = g
                                              · skip
                                                have f2b : (lg != g) = false := by simpa using f2
                                                have hd := Lib.hid (decide_eq_false (show ¬ (4 ≤ g ∧ lg ≠ g ∧ lg ≠ g - 1) from by omega))
                                                go_wp2_with fail
                                                go_meet
                                                exact ⟨by rw [hd.out], rfl⟩
                                              · skip
                                                have f2b : (lg != g) = true := by simpa using f2
                                                by_cases f3 : lg = g - 1
                                                · skip
                                                  have f3b : (lg != g - 1) = false := by simpa using f3
                                                  have hd := Lib.hid (decide_eq_false (show ¬ (4 ≤ g ∧ lg ≠ g ∧ lg ≠ g - 1) from by omega))
                                                  go_wp2_with fail
                                                  go_meet
                                                  exact ⟨by rw [hd.out], rfl⟩
                                                · skip
                                                  have f3b : (lg != g - 1) = true := by simpa using f3
                                                  have hd := Lib.hid (decide_eq_true (show (4 ≤ g ∧ lg ≠ g ∧ lg ≠ g - 1) from by omega))
                                                  go_wp2_with fail
                                                  go_meet
                                                  exact ⟨by rw [hd.out], rfl⟩
                                            · skip
                                              have hd := Lib.hid (decide_eq_false (show ¬ (4 ≤ g ∧ lg ≠ g ∧ lg ≠ g - 1) from by omega))
                                              go_wp2_with fail
                                              go_meet
                                              exact ⟨by rw [hd.out], rfl⟩
                                        case rest =>
                                          as_aux_lemma =>
                                            obtain ⟨rfl, rfl⟩ := hcut
                                            by_cases c8 : (4 ≤ g ∧ lg ≠ g ∧ lg ≠ g - 1)
                                            · have HF := HNO (by unfold stepR; rw [if_neg N1.out, if_neg N2.out, if_neg (fun h => h.elim N3.out N4.out), if_neg N5.out, if_neg N6.out, if_neg N7.out, if_pos c8])
                                              rw [decide_eq_true c8]
                                              clear HNO HYES hLS hcon c8
                                              go_wp2
                                              go_ret
                                              exact ⟨by rw [HF.out]; rfl, below_drewN hbx nd⟩
                                            rw [decide_eq_false c8]
                                            have N8 := Lib.hid c8
                                            clear c8
                                            by_cases g3 : 3 ≤ g
                                            · have HR := HYES _ (by unfold stepR; rw [if_neg N1.out, if_neg N2.out, if_neg (fun h => h.elim N3.out N4.out), if_neg N5.out, if_neg N6.out, if_neg N7.out, if_neg N8.out, if_pos g3])
                                              clear HNO HYES hcon
                                              go_wp2
                                              go_roundw
                                              case rel => exact ⟨k + 1, p, ⟨g, kd, v, p⟩, by omega, rfl, by go_num, (hLS nd).1, (hLS nd).2, HR⟩
                                              case measure => simp [intOf]; omega
                                            · have HR := HYES _ (by unfold stepR; rw [if_neg N1.out, if_neg N2.out, if_neg (fun h => h.elim N3.out N4.out), if_neg N5.out, if_neg N6.out, if_neg N7.out, if_neg N8.out, if_neg g3])
                                              clear HNO HYES hcon
                                              go_wp2
                                              go_roundw
                                              case rel => exact ⟨k + 1, prot, ⟨g, kd, v, p⟩, by omega, rfl, by go_num, (hLS nd).1, (hLS nd).2, HR⟩
                                              case measure => simp [intOf]; omega
          · have hkn : k = bs.length := by omega
            have HF : Hid (R = true) := by
              show _ = _
              have h := HRun.out
              rw [hkn, List.drop_length] at h
              rw [HRF.out, ← h]
              rfl
            have hi3 : ¬ ((k : Int) < (bs.length : Int)) := by omega
            go_wp2
            go_ret
            exact ⟨by rw [HF.out]; rfl, hbw.trans (hbr.mono hbw.size)⟩
      · have HR : Hid (R = false) := by
          show _ = _
          have hok' : (okPs ps && decide (hs.length ≤ 15)) = false := Bool.eq_false_iff.2 hok
          rw [HRR.out]
          unfold rulesF
          rw [hok']
          rfl
        have hok' : (!(okPs ps && decide (hs.length ≤ 15))) = true := by rw [Bool.eq_false_iff.2 hok]; rfl
        rw [hok']
        go_wp2
        go_ret
        exact ⟨by rw [HR.out]; rfl, hb0.trans (hbc.mono hb0.size)⟩
theorem rules_any (a : Atr) (w : World) (hi : AtrIn w a) (hbl : a.bs.length ≤ 1048576) (hpl : a.ps.length ≤ 1048576) :
    Calls Try.prog 39 #[.agg (atrCs a)] w fun e w' => e = .returned (.bool (rulesF a)) ∧ Below w.heap.size w w' := by
  obtain ⟨aI, bA, bC, bs, pA, pC, ps, hA, hC, hs⟩ := a
  exact rules_go aI bA bC bs pA pC ps hA hC hs _ rfl w hi hbl hpl
end Go.Proofs.Ytkhobpghiachoaa
