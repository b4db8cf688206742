/-
  The reference's number of groups.
-/
import Derived.Test.YtkhobpghiachoaaLawB05
import Derived.Test.YtkhobpghiachoaaRefA05
namespace Go.Proofs.Ytkhobpghiachoaa
open Go.RowKit
set_option linter.unusedVariables false

theorem lastG_take {l : List If} {k : Nat} (h : k < l.length) : lastG (l.take (k + 1)) = l[k].g := by
  unfold lastG
  rw [List.take_succ_eq_append_getElem h, List.foldl_append]
  rfl
set_option maxRecDepth 100000 in
set_option maxHeartbeats 4000000 in
theorem last_go (aI : Bool) (bA : Option Addr) (bC : Nat) (bs : List If) (pb po pC : Nat) (p0 : Int) (pn : Nat) (hA : Option Addr) (hC : Nat) (hs : List UInt8) (R : Int) (hRR : R = lastN p0 pn bs) (w : World)
    (hb : RC w bA (ifv bs)) (hp : w.cell? ⟨pb, po, none⟩ = some (.int .i64 p0)) (hbl : bs.length ≤ 1048576) (hpn : 0 < pn) (hpn2 : pn ≤ 1048576) (hg : ∀ x ∈ bs, 1 ≤ x.g ∧ x.g ≤ 2000000) :
    Calls Try.prog 55 #[.agg #[.bool aI, .slice bA bs.length bC, .slice (some ⟨pb, po, none⟩) pn pC, .slice hA hs.length hC]] w fun e w' => e = .returned (.int .i64 R) ∧ Below w.heap.size w w' := by
  have hk0 := Blk.made w 27 #[.bool aI, .slice bA bs.length bC, .slice (some ⟨pb, po, none⟩) pn pC, .slice hA hs.length hC]
  have hb0 := (Below.refl w.heap.size w).alloc (Nat.le_refl _) (.cells #[.bool aI, .slice bA bs.length bC, .slice (some ⟨pb, po, none⟩) pn pC, .slice hA hs.length hC] 27)
  have HRR := Lib.hid hRR
  clear hRR
  obtain ⟨W0, hW0⟩ : ∃ W0 : World, W0 = w.alloc (.cells #[.bool aI, .slice bA bs.length bC, .slice (some ⟨pb, po, none⟩) pn pC, .slice hA hs.length hC] 27) := ⟨_, rfl⟩
  rw [← hW0] at hk0 hb0
  have hbv := hb.below hb0
  have n1 : W0.cell? ⟨w.heap.size, 1, none⟩ = some (.slice bA bs.length bC) := hk0.cell 1
  have n2 : W0.cell? ⟨w.heap.size, 2, none⟩ = some (.slice (some ⟨pb, po, none⟩) pn pC) := hk0.cell 2
  have hp0 := (hb0.cell (cell?_lt hp)).trans hp
  have hpi : (0 : Int) < (pn : Int) := by omega
  have hk0s := hk0.size
  go_enter Try.func55, Try.ntmps55
  go_upto_region 1 with fail
  rw [← hW0]
  clear hW0
  go_wp2
  go_loopw [3, 4, 5] (fun n s i wx => ∃ k : Nat, ∃ z : Int, ∃ c : Bool, k ≤ bs.length ∧ n = .int .i64 z ∧ s = .bool c ∧ i = .int .i64 k ∧ Hid (z = lastG (bs.take k)) ∧ Hid (c = secB (bs.take k)) ∧ 1 ≤ z ∧ z ≤ 2000000 ∧ Below W0.heap.size W0 wx) (fun _ _ i _ => bs.length - (intOf i).toNat)
  case atStart => exact ⟨0, 1, false, Nat.zero_le _, rfl, rfl, rfl, rfl, rfl, by omega, by omega, Below.refl _ _⟩
  case round =>
    obtain ⟨k, z, c, hkl, rfl, rfl, rfl, hz, hcc, hz1, hz2, hbr⟩ := hrel
    have c1 := (hbr.cell (p := ⟨w.heap.size, 1, none⟩) hk0s).trans n1
    by_cases h1 : k < bs.length
    · obtain ⟨bb, bo, rfl, hbx⟩ := RC.elem ifL (s := 4) (fun _ => rfl) (hbv.below hbr) k h1 (by decide)
      have hkk := hg bs[k] (List.getElem_mem h1)
      have z0 : wr.cell? ⟨bb, bo + k * 4, none⟩ = some (.int .i64 bs[k].g) := hbx 0 (by decide)
      have z1 : wr.cell? ⟨bb, bo + k * 4 + 1, none⟩ = some (.int .i64 bs[k].k) := by rw [Nat.add_assoc]; exact hbx 1 (by decide)
      have z2 : wr.cell? ⟨bb, bo + k * 4 + 2, none⟩ = some (.int .i64 bs[k].v) := by rw [Nat.add_assoc]; exact hbx 2 (by decide)
      have z3 : wr.cell? ⟨bb, bo + k * 4 + 3, none⟩ = some (.int .i64 bs[k].p) := by rw [Nat.add_assoc]; exact hbx 3 (by decide)
      have hbb : bb < wr.heap.size := cell?_lt z0
      have HM := Lib.hid (lastG_take h1)
      have HS := Lib.hid (secB_take h1)
      clear hbx
      generalize bs[k] = x at z0 z1 z2 z3 hkk HM HS
      obtain ⟨g, kd, v, p⟩ := x
      simp only at z0 z1 z2 z3 hkk HM HS
      obtain ⟨hg1, hg33⟩ := hkk
      have hi1 : (0 : Int) ≤ (k : Int) := by omega
      have hi2 : (k : Int) < (bs.length : Int) := by omega
      cases c
      · by_cases h3 : 3 ≤ g
        · have HB : Hid ((p == 1) = (false || (decide (3 ≤ g) && decide (p = 1)))) := by
            show _ = _
            rw [decide_eq_true h3, Bool.eq_iff_iff]
            simp
          go_wp2
          go_roundw
          case rel => exact ⟨k + 1, _, _, by omega, rfl, rfl, by go_num, by rw [HM.out]; exact rfl, by rw [HS.out, ← hcc.out]; exact HB.out, by omega, by omega, hbr.alloc hbr.size _⟩
          case measure => simp [intOf]; omega
        · have HB : Hid (false = (false || (decide (3 ≤ g) && decide (p = 1)))) := by
            show _ = _
            rw [decide_eq_false h3]
            simp
          go_wp2
          go_roundw
          case rel => exact ⟨k + 1, _, _, by omega, rfl, rfl, by go_num, by rw [HM.out]; exact rfl, by rw [HS.out, ← hcc.out]; exact HB.out, by omega, by omega, hbr.alloc hbr.size _⟩
          case measure => simp [intOf]; omega
      · have HB : Hid (true = (true || (decide (3 ≤ g) && decide (p = 1)))) := rfl
        go_wp2
        go_roundw
        case rel => exact ⟨k + 1, _, _, by omega, rfl, rfl, by go_num, by rw [HM.out]; exact rfl, by rw [HS.out, ← hcc.out]; exact HB.out, by omega, by omega, hbr.alloc hbr.size _⟩
        case measure => simp [intOf]; omega
    · have hkn : k = bs.length := by omega
      subst hkn
      rw [List.take_length] at hz hcc
      have c2 := (hbr.cell (p := ⟨w.heap.size, 2, none⟩) hk0s).trans n2
      have cp := (hbr.cell (cell?_lt hp0)).trans hp0
      have hi2 : ¬ ((bs.length : Int) < (bs.length : Int)) := by omega
      obtain ⟨m, hm⟩ : ∃ m : Int, m = (if p0 = 1 ∧ z < 2 then 2 else z) := ⟨_, rfl⟩
      have HR2 : Hid (R = if pn = 2 ∧ c = false then (if m + 1 < 3 then 3 else m + 1) else m) := by
        show _ = _
        rw [HRR.out, hm, hz.out, hcc.out]
        rfl
      have hmb : 1 ≤ m ∧ m ≤ 2000000 := by rw [hm]; split <;> omega
      have HM := Lib.hid hm
      clear hm hz hcc HRR
      have hbx := hb0.trans (hbr.mono hb0.size)
      go_upto_region 8 with fail
      go_cut [40] (fun s wx => s = .bool (decide (p0 = 1 ∧ z < 2)) ∧ wx = wr)
      case first =>
        by_cases h1 : p0 = 1
        · have h1b : (p0 == 1) = true := by simpa using h1
          by_cases h2 : z < 2
          · have hd := Lib.hid (decide_eq_true (show p0 = 1 ∧ z < 2 from ⟨h1, h2⟩))
            clear h1
            go_wp2_with fail
            go_meet
            exact ⟨by rw [hd.out], rfl⟩
          · have hd := Lib.hid (decide_eq_false (show ¬ (p0 = 1 ∧ z < 2) from fun h => h2 h.2))
            clear h1
            go_wp2_with fail
            go_meet
            exact ⟨by rw [hd.out], rfl⟩
        · have h1b : (p0 == 1) = false := by simpa using h1
          have hd := Lib.hid (decide_eq_false (show ¬ (p0 = 1 ∧ z < 2) from fun h => h1 h.1))
          go_wp2_with fail
          go_meet
          exact ⟨by rw [hd.out], rfl⟩
      case rest =>
        obtain ⟨rfl, hw⟩ := hcut
        have hw := hw.symm
        subst hw
        clear hw
        go_upto_if 40 with fail
        go_cut [3] (fun s wx => s = .int .i64 m ∧ wx = wr)
        case first =>
          by_cases h1 : p0 = 1 ∧ z < 2
          · have h2 : Hid (m = 2) := by rw [HM.out, if_pos h1]; rfl
            rw [decide_eq_true h1]
            clear h1
            go_wp2_with fail
            go_meet
            exact ⟨by rw [h2.out], rfl⟩
          · have h2 : Hid (m = z) := by rw [HM.out, if_neg h1]; rfl
            rw [decide_eq_false h1]
            clear h1
            go_wp2_with fail
            go_meet
            exact ⟨by rw [h2.out], rfl⟩
        case rest =>
          obtain ⟨rfl, hw⟩ := hcut
          have hw := hw.symm
          subst hw
          clear hw
          by_cases h2 : pn = 2
          · have h2b : ((pn : Int) == 2) = true := by simp; omega
            cases c
            · by_cases h4 : m + 1 < 3
              · have HF : Hid (R = 3) := by rw [HR2.out, if_pos ⟨h2, rfl⟩, if_pos h4]; rfl
                clear h2
                go_wp2
                go_ret
                exact ⟨by rw [HF.out]; rfl, hbx⟩
              · have HF : Hid (R = m + 1) := by rw [HR2.out, if_pos ⟨h2, rfl⟩, if_neg h4]; rfl
                clear h2
                go_wp2
                go_ret
                exact ⟨by rw [HF.out]; rfl, hbx⟩
            · have HF : Hid (R = m) := by rw [HR2.out, if_neg (fun h => by cases h.2)]; rfl
              clear h2
              go_wp2
              go_ret
              exact ⟨by rw [HF.out]; rfl, hbx⟩
          · have h2b : ((pn : Int) == 2) = false := by simp; omega
            have HF : Hid (R = m) := by rw [HR2.out, if_neg (fun h => h2 h.1)]; rfl
            go_wp2
            go_ret
            exact ⟨by rw [HF.out]; rfl, hbx⟩
/-- The groups of a valid answer are few. -/
theorem valid_few {a : Atr} (h : rulesF a = true) : ∀ x ∈ a.bs, x.g ≤ a.bs.length + 3 := by
  unfold rulesF at h
  simp only [Bool.and_eq_true] at h
  have h2 := ruled_few _ _ h.2
  simpa using h2
theorem last_any (a : Atr) (w : World) (hi : AtrIn w a) (hbl : a.bs.length ≤ 1000) (hr : rulesF a = true) :
    Calls Try.prog 55 #[.agg (atrCs a)] w fun e w' => e = .returned (.int .i64 (lastN (a.ps.headD 0) a.ps.length a.bs)) ∧ Below w.heap.size w w' := by
  have hf := valid_few hr
  have hv := valid_of hr
  obtain ⟨aI, bA, bC, bs, pA, pC, ps, hA, hC, hs⟩ := a
  simp only at hf hbl
  have h1 := hv.ps
  have h3 := hv.r
  simp only at h1 h3
  have hp0 : 0 < ps.length ∧ ps.length ≤ 2 := by rcases okPs_mem h1 with rfl | rfl | rfl <;> simp
  obtain ⟨pb, po, rfl, hc⟩ := hi.p.at_ (by rw [nv_length]; exact hp0.1)
  have hc0 : w.cell? ⟨pb, po, none⟩ = some (.int .i64 (ps.headD 0)) := by
    have h := hc 0 (by rw [nv_length]; exact hp0.1)
    rw [Nat.add_zero] at h
    rw [h]
    rcases okPs_mem h1 with rfl | rfl | rfl <;> rfl
  exact last_go aI bA bC bs pb po pC (ps.headD 0) ps.length hA hC hs _ rfl w hi.b hc0 (by omega) hp0.1 (by omega) (fun x hx => ⟨(h3.basic x hx).1, by have := hf x hx; omega⟩)
end Go.Proofs.Ytkhobpghiachoaa
