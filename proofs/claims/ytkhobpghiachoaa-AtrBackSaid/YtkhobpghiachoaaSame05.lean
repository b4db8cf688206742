/-
  Whether two answers to reset are the same: the program's and the reference's.
-/
import Derived.Test.YtkhobpghiachoaaAtr
import Derived.Test.YtkhobpghiachoaaEq05
namespace Go.Proofs.Ytkhobpghiachoaa
open Go.RowKit
set_option linter.unusedVariables false

def sameF (a b : Atr) : Bool := decide (a.inv = b.inv) && decide (a.bs = b.bs) && decide (a.ps = b.ps) && decide (a.hs = b.hs)
theorem sameF_comm (a b : Atr) : sameF a b = sameF b a := by
  unfold sameF
  rw [Bool.eq_iff_iff]
  simp only [Bool.and_eq_true, decide_eq_true_eq]
  constructor
  · rintro ⟨⟨⟨h1, h2⟩, h3⟩, h4⟩; exact ⟨⟨⟨h1.symm, h2.symm⟩, h3.symm⟩, h4.symm⟩
  · rintro ⟨⟨⟨h1, h2⟩, h3⟩, h4⟩; exact ⟨⟨⟨h1.symm, h2.symm⟩, h3.symm⟩, h4.symm⟩
theorem sameF_self (a : Atr) : sameF a a = true := by unfold sameF; simp

set_option maxRecDepth 100000 in
set_option maxHeartbeats 4000000 in
theorem eqIfs_any (A B : Option Addr) (c d : Nat) (xs ys : List If) (w : World) (hs : ys.length ≤ 1048576) (hr : RC w A (ifv xs)) (hq : RC w B (ifv ys)) :
    Calls Try.prog 41 #[.slice A xs.length c, .slice B ys.length d] w fun e w' => e = .returned (.bool (decide (xs = ys))) ∧ ∃ n, w' = w.drewN n := by
  by_cases hl : xs.length = ys.length
  · go_enter Try.func41, Try.ntmps41
    have hl' : (xs.length : Int) = (ys.length : Int) := by omega
    rw [hl]
    go_wp2
    go_loopw [13] (fun i wr => ∃ k n : Nat, k ≤ ys.length ∧ i = .int .i64 k ∧ wr = w.drewN n ∧ Hid (xs.take k = ys.take k)) (fun i _ => ys.length - (intOf i).toNat)
    case atStart => exact ⟨0, 0, Nat.zero_le _, rfl, rfl, rfl⟩
    case round =>
      obtain ⟨k, n, hk, rfl, rfl, ht⟩ := hrel
      by_cases h2 : k < ys.length
      · have h1 : k < xs.length := by omega
        obtain ⟨b, off, rfl, hbx⟩ := RC.elem ifL (s := 4) (fun _ => rfl) hr k h1 (by decide)
        obtain ⟨b', off', rfl, hbx'⟩ := RC.elem ifL (s := 4) (fun _ => rfl) hq k h2 (by decide)
        have z0 : w.cell? ⟨b, off + k * 4, none⟩ = some (.int .i64 xs[k].g) := hbx 0 (by decide)
        have z1 : w.cell? ⟨b, off + k * 4 + 1, none⟩ = some (.int .i64 xs[k].k) := by rw [Nat.add_assoc]; exact hbx 1 (by decide)
        have z2 : w.cell? ⟨b, off + k * 4 + 2, none⟩ = some (.int .i64 xs[k].v) := by rw [Nat.add_assoc]; exact hbx 2 (by decide)
        have z3 : w.cell? ⟨b, off + k * 4 + 3, none⟩ = some (.int .i64 xs[k].p) := by rw [Nat.add_assoc]; exact hbx 3 (by decide)
        have y0 : w.cell? ⟨b', off' + k * 4, none⟩ = some (.int .i64 ys[k].g) := hbx' 0 (by decide)
        have y1 : w.cell? ⟨b', off' + k * 4 + 1, none⟩ = some (.int .i64 ys[k].k) := by rw [Nat.add_assoc]; exact hbx' 1 (by decide)
        have y2 : w.cell? ⟨b', off' + k * 4 + 2, none⟩ = some (.int .i64 ys[k].v) := by rw [Nat.add_assoc]; exact hbx' 2 (by decide)
        have y3 : w.cell? ⟨b', off' + k * 4 + 3, none⟩ = some (.int .i64 ys[k].p) := by rw [Nat.add_assoc]; exact hbx' 3 (by decide)
        have hi0 : (0 : Int) ≤ (k : Int) := by omega
        have hi1 : (k : Int) < (ys.length : Int) := by omega
        clear hbx hbx' hr hq
        by_cases he : xs[k] = ys[k]
        · have HD : Hid (xs.take (k + 1) = ys.take (k + 1)) := by
            show _ = _
            rw [List.take_succ_eq_append_getElem h1, List.take_succ_eq_append_getElem h2, ht.out, he]
          rw [he] at z0 z1 z2 z3
          clear he hl
          generalize ys[k] = y at z0 z1 z2 z3 y0 y1 y2 y3
          obtain ⟨g, kd, v, p⟩ := y
          simp only at z0 z1 z2 z3 y0 y1 y2 y3
          go_wp2
          go_quiet (fail)
          go_wp2
          go_roundw
          case rel => exact ⟨k + 1, _, by omega, by go_num, rfl, HD⟩
          case measure => simp [intOf]; omega
        · have HN : Hid (xs ≠ ys) := fun e => he (by subst e; rfl)
          clear hl
          generalize ys[k] = y at y0 y1 y2 y3 he
          generalize xs[k] = x at z0 z1 z2 z3 he
          obtain ⟨g, kd, v, p⟩ := y
          obtain ⟨g', kd', v', p'⟩ := x
          simp only at z0 z1 z2 z3 y0 y1 y2 y3
          have he2 : g' = g → kd' = kd → v' = v → p' = p → False := fun h1 h2 h3 h4 => he (by rw [h1, h2, h3, h4])
          clear he
          by_cases c0 : g' = g
          · subst c0
            by_cases c1 : kd' = kd
            · subst c1
              by_cases c2 : v' = v
              · subst c2
                have c3b : (p' == p) = false := by simp; exact fun h => he2 rfl rfl rfl h
                clear he2
                go_wp2
                go_quiet (fail)
                go_wp2
                go_ret
                exact ⟨by rw [decide_eq_false HN.out]; rfl, _, by simp only [World.drewN_drewN]; rfl⟩
              · have c2b : (v' == v) = false := by simpa using c2
                clear he2
                go_wp2
                go_quiet (fail)
                go_wp2
                go_ret
                exact ⟨by rw [decide_eq_false HN.out]; rfl, _, by simp only [World.drewN_drewN]; rfl⟩
            · have c1b : (kd' == kd) = false := by simpa using c1
              clear he2
              go_wp2
              go_quiet (fail)
              go_wp2
              go_ret
              exact ⟨by rw [decide_eq_false HN.out]; rfl, _, by simp only [World.drewN_drewN]; rfl⟩
          · have c0b : (g' == g) = false := by simpa using c0
            clear he2
            go_wp2
            go_quiet (fail)
            go_wp2
            go_ret
            exact ⟨by rw [decide_eq_false HN.out]; rfl, _, by simp only [World.drewN_drewN]; rfl⟩
      · have HE : Hid (xs = ys) := by
          have := ht.out
          rwa [List.take_of_length_le (by omega), List.take_of_length_le (by omega)] at this
        go_wp2
        go_ret
        exact ⟨by rw [decide_eq_true HE.out]; rfl, n, rfl⟩
  · have HN : Hid (xs ≠ ys) := fun e => hl (by rw [e])
    have hl' : ((xs.length : Int) != (ys.length : Int)) = true := by simp; omega
    go_enter Try.func41, Try.ntmps41
    go_wp2
    go_ret
    exact ⟨by rw [decide_eq_false HN.out]; rfl, 0, rfl⟩

set_option maxRecDepth 100000 in
set_option maxHeartbeats 4000000 in
theorem same_go (aI : Bool) (bA : Option Addr) (bC : Nat) (bs : List If) (pA : Option Addr) (pC : Nat) (ps : List Int) (hA : Option Addr) (hC : Nat) (hs : List UInt8) (aI2 : Bool) (bA2 : Option Addr) (bC2 : Nat) (bs2 : List If) (pA2 : Option Addr) (pC2 : Nat) (ps2 : List Int) (hA2 : Option Addr) (hC2 : Nat) (hs2 : List UInt8) (w : World) (hi : AtrIn w ⟨aI, bA, bC, bs, pA, pC, ps, hA, hC, hs⟩) (hj : AtrIn w ⟨aI2, bA2, bC2, bs2, pA2, pC2, ps2, hA2, hC2, hs2⟩) (hl : bs.length ≤ 1000 ∧ ps.length ≤ 1000) (hl2 : bs2.length ≤ 1000 ∧ ps2.length ≤ 1000) (R : Bool) (hRR : R = sameF ⟨aI, bA, bC, bs, pA, pC, ps, hA, hC, hs⟩ ⟨aI2, bA2, bC2, bs2, pA2, pC2, ps2, hA2, hC2, hs2⟩) :
    Calls Try.prog 22 #[.agg #[.bool aI, .slice bA bs.length bC, .slice pA ps.length pC, .slice hA hs.length hC], .agg #[.bool aI2, .slice bA2 bs2.length bC2, .slice pA2 ps2.length pC2, .slice hA2 hs2.length hC2]] w fun e w' => e = .returned (.bool R) ∧ Below w.heap.size w w' := by
  have hk0 := (Blk.made w 27 #[.bool aI, .slice bA bs.length bC, .slice pA ps.length pC, .slice hA hs.length hC]).alloc (.cells #[.bool aI2, .slice bA2 bs2.length bC2, .slice pA2 ps2.length pC2, .slice hA2 hs2.length hC2] 27)
  have hk1 := Blk.made (w.alloc (.cells #[.bool aI, .slice bA bs.length bC, .slice pA ps.length pC, .slice hA hs.length hC] 27)) 27 #[.bool aI2, .slice bA2 bs2.length bC2, .slice pA2 ps2.length pC2, .slice hA2 hs2.length hC2]
  rw [show (w.alloc (.cells #[.bool aI, .slice bA bs.length bC, .slice pA ps.length pC, .slice hA hs.length hC] 27)).heap.size = w.heap.size + 1 from by simp] at hk1
  have hb0 := ((Below.refl w.heap.size w).alloc (Nat.le_refl _) (.cells #[.bool aI, .slice bA bs.length bC, .slice pA ps.length pC, .slice hA hs.length hC] 27)).alloc (by simp) (.cells #[.bool aI2, .slice bA2 bs2.length bC2, .slice pA2 ps2.length pC2, .slice hA2 hs2.length hC2] 27)
  have HR : Hid (R = (decide (aI = aI2) && decide (bs = bs2) && decide (ps = ps2) && decide (hs = hs2))) := hRR
  clear hRR
  obtain ⟨W0, hW0⟩ : ∃ W0 : World, W0 = (w.alloc (.cells #[.bool aI, .slice bA bs.length bC, .slice pA ps.length pC, .slice hA hs.length hC] 27)).alloc (.cells #[.bool aI2, .slice bA2 bs2.length bC2, .slice pA2 ps2.length pC2, .slice hA2 hs2.length hC2] 27) := ⟨_, rfl⟩
  go_enter Try.func22, Try.ntmps22
  go_upto_region 1 with fail
  rw [← hW0] at hk0 hk1 hb0
  rw [← hW0]
  clear hW0
  obtain ⟨ab, hab⟩ : ∃ ab, ab = w.heap.size := ⟨_, rfl⟩
  obtain ⟨cb, hcb⟩ : ∃ cb, cb = w.heap.size + 1 := ⟨_, rfl⟩
  rw [← hab] at hk0
  rw [← hcb] at hk1
  rw [← hcb, ← hab]
  clear hcb hab
  have hi0 := hi.below hb0
  have hj0 := hj.below hb0
  have n0 : W0.cell? ⟨ab, 0, none⟩ = some (.bool aI) := hk0.cell 0
  have n1 : W0.cell? ⟨ab, 1, none⟩ = some (.slice bA bs.length bC) := hk0.cell 1
  have n2 : W0.cell? ⟨ab, 2, none⟩ = some (.slice pA ps.length pC) := hk0.cell 2
  have n3 : W0.cell? ⟨ab, 3, none⟩ = some (.slice hA hs.length hC) := hk0.cell 3
  have m0 : W0.cell? ⟨cb, 0, none⟩ = some (.bool aI2) := hk1.cell 0
  have m1 : W0.cell? ⟨cb, 1, none⟩ = some (.slice bA2 bs2.length bC2) := hk1.cell 1
  have m2 : W0.cell? ⟨cb, 2, none⟩ = some (.slice pA2 ps2.length pC2) := hk1.cell 2
  have m3 : W0.cell? ⟨cb, 3, none⟩ = some (.slice hA2 hs2.length hC2) := hk1.cell 3
  by_cases hI : aI = aI2
  · subst hI
    have hIb : (aI == aI) = true := by simp
    go_wp2_with fail
    refine (eqIfs_any bA bA2 bC bC2 bs bs2 W0 (by omega) hi0.b hj0.b).mono ?_
    rintro e w1 ⟨rfl, n, rfl⟩
    by_cases hB : bs = bs2
    · have HB := Lib.hid hB
      rw [decide_eq_true hB]
      clear hB
      go_wp2_with fail
      refine (eqInts_any pA pA2 pC pC2 ps ps2 (W0.drewN n) (by omega) (hi0.p.drewN n) (hj0.p.drewN n)).mono ?_
      rintro e w1 ⟨rfl, n2, rfl⟩
      by_cases hP : ps = ps2
      · have HP := Lib.hid hP
        rw [decide_eq_true hP]
        clear hP
        go_wp2_with fail
        refine (equal_any hA hA2 hC hC2 hs hs2 _ (hi0.h.drewN _) (hj0.h.drewN _)).mono ?_
        rintro e w1 ⟨rfl, rfl⟩
        have HF : Hid (R = decide (hs = hs2)) := by show _ = _; rw [HR.out, decide_eq_true HB.out, decide_eq_true HP.out]; simp
        go_wp2
        go_ret
        exact ⟨by rw [HF.out]; rfl, below_drewN hb0 _⟩
      · have HF : Hid (R = false) := by show _ = _; rw [HR.out, decide_eq_false hP]; simp
        rw [decide_eq_false hP]
        clear hP
        go_wp2
        go_ret
        exact ⟨by rw [HF.out]; rfl, below_drewN hb0 _⟩
    · have HF : Hid (R = false) := by show _ = _; rw [HR.out, decide_eq_false hB]; simp
      rw [decide_eq_false hB]
      clear hB
      go_wp2
      go_ret
      exact ⟨by rw [HF.out]; rfl, below_drewN hb0 _⟩
  · have hIb : (aI == aI2) = false := by simpa using hI
    have HF : Hid (R = false) := by show _ = _; rw [HR.out, decide_eq_false hI]; simp
    clear hI
    go_wp2
    go_ret
    exact ⟨by rw [HF.out]; rfl, hb0⟩

set_option maxRecDepth 100000 in
set_option maxHeartbeats 4000000 in
theorem rsame_go (aI : Bool) (bA : Option Addr) (bC : Nat) (bs : List If) (pA : Option Addr) (pC : Nat) (ps : List Int) (hA : Option Addr) (hC : Nat) (hs : List UInt8) (aI2 : Bool) (bA2 : Option Addr) (bC2 : Nat) (bs2 : List If) (pA2 : Option Addr) (pC2 : Nat) (ps2 : List Int) (hA2 : Option Addr) (hC2 : Nat) (hs2 : List UInt8) (w : World) (hi : AtrIn w ⟨aI, bA, bC, bs, pA, pC, ps, hA, hC, hs⟩) (hj : AtrIn w ⟨aI2, bA2, bC2, bs2, pA2, pC2, ps2, hA2, hC2, hs2⟩) (hl : bs.length ≤ 1000 ∧ ps.length ≤ 1000) (hl2 : bs2.length ≤ 1000 ∧ ps2.length ≤ 1000) (R : Bool) (hRR : R = sameF ⟨aI, bA, bC, bs, pA, pC, ps, hA, hC, hs⟩ ⟨aI2, bA2, bC2, bs2, pA2, pC2, ps2, hA2, hC2, hs2⟩) :
    Calls Try.prog 15 #[.agg #[.bool aI, .slice bA bs.length bC, .slice pA ps.length pC, .slice hA hs.length hC], .agg #[.bool aI2, .slice bA2 bs2.length bC2, .slice pA2 ps2.length pC2, .slice hA2 hs2.length hC2]] w fun e w' => e = .returned (.bool R) ∧ Below w.heap.size w w' := by
  have hk0 := (Blk.made w 27 #[.bool aI, .slice bA bs.length bC, .slice pA ps.length pC, .slice hA hs.length hC]).alloc (.cells #[.bool aI2, .slice bA2 bs2.length bC2, .slice pA2 ps2.length pC2, .slice hA2 hs2.length hC2] 27)
  have hk1 := Blk.made (w.alloc (.cells #[.bool aI, .slice bA bs.length bC, .slice pA ps.length pC, .slice hA hs.length hC] 27)) 27 #[.bool aI2, .slice bA2 bs2.length bC2, .slice pA2 ps2.length pC2, .slice hA2 hs2.length hC2]
  rw [show (w.alloc (.cells #[.bool aI, .slice bA bs.length bC, .slice pA ps.length pC, .slice hA hs.length hC] 27)).heap.size = w.heap.size + 1 from by simp] at hk1
  have hb0 := ((Below.refl w.heap.size w).alloc (Nat.le_refl _) (.cells #[.bool aI, .slice bA bs.length bC, .slice pA ps.length pC, .slice hA hs.length hC] 27)).alloc (by simp) (.cells #[.bool aI2, .slice bA2 bs2.length bC2, .slice pA2 ps2.length pC2, .slice hA2 hs2.length hC2] 27)
  have HR : Hid (R = (decide (aI = aI2) && decide (bs = bs2) && decide (ps = ps2) && decide (hs = hs2))) := hRR
  clear hRR
  obtain ⟨W0, hW0⟩ : ∃ W0 : World, W0 = (w.alloc (.cells #[.bool aI, .slice bA bs.length bC, .slice pA ps.length pC, .slice hA hs.length hC] 27)).alloc (.cells #[.bool aI2, .slice bA2 bs2.length bC2, .slice pA2 ps2.length pC2, .slice hA2 hs2.length hC2] 27) := ⟨_, rfl⟩
  go_enter Try.func15, Try.ntmps15
  go_upto_region 1 with fail
  rw [← hW0] at hk0 hk1 hb0
  rw [← hW0]
  clear hW0
  obtain ⟨ab, hab⟩ : ∃ ab, ab = w.heap.size := ⟨_, rfl⟩
  obtain ⟨cb, hcb⟩ : ∃ cb, cb = w.heap.size + 1 := ⟨_, rfl⟩
  rw [← hab] at hk0
  rw [← hcb] at hk1
  rw [← hcb, ← hab]
  clear hcb hab
  have hi0 := hi.below hb0
  have hj0 := hj.below hb0
  have n0 : W0.cell? ⟨ab, 0, none⟩ = some (.bool aI) := hk0.cell 0
  have n1 : W0.cell? ⟨ab, 1, none⟩ = some (.slice bA bs.length bC) := hk0.cell 1
  have n2 : W0.cell? ⟨ab, 2, none⟩ = some (.slice pA ps.length pC) := hk0.cell 2
  have n3 : W0.cell? ⟨ab, 3, none⟩ = some (.slice hA hs.length hC) := hk0.cell 3
  have m0 : W0.cell? ⟨cb, 0, none⟩ = some (.bool aI2) := hk1.cell 0
  have m1 : W0.cell? ⟨cb, 1, none⟩ = some (.slice bA2 bs2.length bC2) := hk1.cell 1
  have m2 : W0.cell? ⟨cb, 2, none⟩ = some (.slice pA2 ps2.length pC2) := hk1.cell 2
  have m3 : W0.cell? ⟨cb, 3, none⟩ = some (.slice hA2 hs2.length hC2) := hk1.cell 3
  have x1 := hi0.h.convert (P := Try.prog) 22 9 5 hC Try.underlying22 Try.underlying5 Try.underlying9
  have x2 := hj0.h.convert (P := Try.prog) 22 9 5 hC2 Try.underlying22 Try.underlying5 Try.underlying9
  simp only at x1 x2
  have s1 : (strOf hs).toList = hs := strOf_list hs
  have s2 : (strOf hs2).toList = hs2 := strOf_list hs2
  by_cases hI : aI = aI2
  · subst hI
    have hIb : (aI != aI) = false := by simp
    by_cases hBl : bs.length = bs2.length
    · have hBlb : ((bs.length : Int) != (bs2.length : Int)) = false := by simp; omega
      by_cases hPl : ps.length = ps2.length
      · have hPlb : ((ps.length : Int) != (ps2.length : Int)) = false := by simp; omega
        by_cases hH : hs = hs2
        · have hHb : (hs == hs2) = true := by rw [hH]; simp
          have HR2 : Hid (R = (decide (bs = bs2) && decide (ps = ps2))) := by show _ = _; rw [HR.out, decide_eq_true hH]; simp
          clear hH
          go_wp2
          go_loopw [5] (fun i wx => ∃ k n : Nat, k ≤ bs.length ∧ i = .int .i64 k ∧ wx = W0.drewN n ∧ Hid (bs.take k = bs2.take k)) (fun i _ => bs.length - (intOf i).toNat)
          case atStart => exact ⟨0, 0, Nat.zero_le _, rfl, rfl, rfl⟩
          case round =>
            obtain ⟨k, n, hk, rfl, rfl, ht⟩ := hrel
            by_cases h1 : k < bs.length
            · have h2 : k < bs2.length := by omega
              obtain ⟨b, off, rfl, hbx⟩ := RC.elem ifL (s := 4) (fun _ => rfl) hi0.b k h1 (by decide)
              obtain ⟨b', off', rfl, hbx'⟩ := RC.elem ifL (s := 4) (fun _ => rfl) hj0.b k h2 (by decide)
              have z0 : W0.cell? ⟨b, off + k * 4, none⟩ = some (.int .i64 bs[k].g) := hbx 0 (by decide)
              have z1 : W0.cell? ⟨b, off + k * 4 + 1, none⟩ = some (.int .i64 bs[k].k) := by rw [Nat.add_assoc]; exact hbx 1 (by decide)
              have z2 : W0.cell? ⟨b, off + k * 4 + 2, none⟩ = some (.int .i64 bs[k].v) := by rw [Nat.add_assoc]; exact hbx 2 (by decide)
              have z3 : W0.cell? ⟨b, off + k * 4 + 3, none⟩ = some (.int .i64 bs[k].p) := by rw [Nat.add_assoc]; exact hbx 3 (by decide)
              have y0 : W0.cell? ⟨b', off' + k * 4, none⟩ = some (.int .i64 bs2[k].g) := hbx' 0 (by decide)
              have y1 : W0.cell? ⟨b', off' + k * 4 + 1, none⟩ = some (.int .i64 bs2[k].k) := by rw [Nat.add_assoc]; exact hbx' 1 (by decide)
              have y2 : W0.cell? ⟨b', off' + k * 4 + 2, none⟩ = some (.int .i64 bs2[k].v) := by rw [Nat.add_assoc]; exact hbx' 2 (by decide)
              have y3 : W0.cell? ⟨b', off' + k * 4 + 3, none⟩ = some (.int .i64 bs2[k].p) := by rw [Nat.add_assoc]; exact hbx' 3 (by decide)
              have hi1 : (0 : Int) ≤ (k : Int) := by omega
              have hi2 : (k : Int) < (bs.length : Int) := by omega
              have hi3 : (k : Int) < (bs2.length : Int) := by omega
              clear hbx hbx'
              by_cases he : bs[k] = bs2[k]
              · have HD : Hid (bs.take (k + 1) = bs2.take (k + 1)) := by
                  show _ = _
                  rw [List.take_succ_eq_append_getElem h1, List.take_succ_eq_append_getElem h2, ht.out, he]
                rw [he] at z0 z1 z2 z3
                clear he hBl hPl
                generalize bs2[k] = y at z0 z1 z2 z3 y0 y1 y2 y3
                obtain ⟨g, kd, v, p⟩ := y
                simp only at z0 z1 z2 z3 y0 y1 y2 y3
                go_wp2
                go_quiet (fail)
                go_wp2
                go_roundw
                case rel => exact ⟨k + 1, _, by omega, by go_num, rfl, HD⟩
                case measure => simp [intOf]; omega
              · have HF : Hid (R = false) := by
                  show _ = _
                  rw [HR2.out, decide_eq_false (fun e => he (by subst e; rfl) : ¬ bs = bs2)]
                  rfl
                clear hBl hPl
                generalize bs2[k] = y at y0 y1 y2 y3 he
                generalize bs[k] = x at z0 z1 z2 z3 he
                obtain ⟨g, kd, v, p⟩ := y
                obtain ⟨g', kd', v', p'⟩ := x
                simp only at z0 z1 z2 z3 y0 y1 y2 y3
                have he2 : g' = g → kd' = kd → v' = v → p' = p → False := fun h1 h2 h3 h4 => he (by rw [h1, h2, h3, h4])
                clear he
                by_cases c0 : g' = g
                · subst c0
                  by_cases c1 : kd' = kd
                  · subst c1
                    by_cases c2 : v' = v
                    · subst c2
                      have c3b : (p' == p) = false := by simp; exact fun h => he2 rfl rfl rfl h
                      clear he2
                      go_wp2
                      go_quiet (fail)
                      go_wp2
                      go_ret
                      exact ⟨by rw [HF.out]; rfl, below_drewN (below_drewN hb0 _) _⟩
                    · have c2b : (v' == v) = false := by simpa using c2
                      clear he2
                      go_wp2
                      go_quiet (fail)
                      go_wp2
                      go_ret
                      exact ⟨by rw [HF.out]; rfl, below_drewN (below_drewN hb0 _) _⟩
                  · have c1b : (kd' == kd) = false := by simpa using c1
                    clear he2
                    go_wp2
                    go_quiet (fail)
                    go_wp2
                    go_ret
                    exact ⟨by rw [HF.out]; rfl, below_drewN (below_drewN hb0 _) _⟩
                · have c0b : (g' == g) = false := by simpa using c0
                  clear he2
                  go_wp2
                  go_quiet (fail)
                  go_wp2
                  go_ret
                  exact ⟨by rw [HF.out]; rfl, below_drewN (below_drewN hb0 _) _⟩
            · have HE : Hid (bs = bs2) := by
                have := ht.out
                rwa [List.take_of_length_le (by omega), List.take_of_length_le (by omega)] at this
              have HR3 : Hid (R = decide (ps = ps2)) := by show _ = _; rw [HR2.out, decide_eq_true HE.out]; simp
              have hi3 : ¬ ((k : Int) < (bs.length : Int)) := by omega
              clear HR2
              go_wp2
              go_loopw [6] (fun i wx => ∃ j n : Nat, j ≤ ps.length ∧ i = .int .i64 j ∧ wx = W0.drewN n ∧ Hid (ps.take j = ps2.take j)) (fun i _ => ps.length - (intOf i).toNat)
              case atStart => exact ⟨0, n, Nat.zero_le _, rfl, rfl, rfl⟩
              case round =>
                obtain ⟨j, n3, hj3, rfl, rfl, ht2⟩ := hrel
                by_cases h1 : j < ps.length
                · have h2 : j < ps2.length := by omega
                  have hp1 : 0 < ps.length := by omega
                  have hp2 : 0 < ps2.length := by omega
                  obtain ⟨b, off, rfl, hc⟩ := hi0.p.at_ (by rw [nv_length]; exact hp1)
                  obtain ⟨b', off', rfl, hc'⟩ := hj0.p.at_ (by rw [nv_length]; exact hp2)
                  have hcell : W0.cell? ⟨b, off + j, none⟩ = some (.int .i64 ps[j]) := by rw [hc j (by rw [nv_length]; exact h1)]; simp [nv]
                  have hcell' : W0.cell? ⟨b', off' + j, none⟩ = some (.int .i64 ps2[j]) := by rw [hc' j (by rw [nv_length]; exact h2)]; simp [nv]
                  have hi1 : (0 : Int) ≤ (j : Int) := by omega
                  have hi2 : (j : Int) < (ps.length : Int) := by omega
                  have hi4 : (j : Int) < (ps2.length : Int) := by omega
                  clear hc hc'
                  by_cases he : ps[j] = ps2[j]
                  · have HD : Hid (ps.take (j + 1) = ps2.take (j + 1)) := by
                      show _ = _
                      rw [List.take_succ_eq_append_getElem h1, List.take_succ_eq_append_getElem h2, ht2.out, he]
                    rw [he] at hcell
                    clear he hBl hPl
                    generalize ps2[j] = y at hcell hcell'
                    go_wp2
                    go_quiet (fail)
                    go_wp2
                    go_roundw
                    case rel => exact ⟨j + 1, _, by omega, by go_num, rfl, HD⟩
                    case measure => simp [intOf]; omega
                  · have HF : Hid (R = false) := by
                      show _ = _
                      rw [HR3.out, decide_eq_false (fun e => he (by subst e; rfl) : ¬ ps = ps2)]
                    have he' : (ps[j] != ps2[j]) = true := by simpa using he
                    clear hBl hPl
                    generalize ps2[j] = y at hcell' he he'
                    generalize ps[j] = x at hcell he he'
                    go_wp2
                    go_quiet (fail)
                    go_wp2
                    go_ret
                    exact ⟨by rw [HF.out]; rfl, below_drewN (below_drewN hb0 _) _⟩
                · have HE2 : ps = ps2 := by
                    have := ht2.out
                    rwa [List.take_of_length_le (by omega), List.take_of_length_le (by omega)] at this
                  have HF : Hid (R = true) := by show _ = _; rw [HR3.out, decide_eq_true HE2]
                  have hi5 : ¬ ((j : Int) < (ps.length : Int)) := by omega
                  clear HE2
                  go_wp2
                  go_ret
                  exact ⟨by rw [HF.out]; rfl, below_drewN hb0 _⟩
        · have hHb : (hs == hs2) = false := by simpa using hH
          have HF : Hid (R = false) := by show _ = _; rw [HR.out, decide_eq_false hH]; simp
          clear hH
          go_wp2
          go_ret
          exact ⟨by rw [HF.out]; rfl, hb0⟩
      · have hPlb : ((ps.length : Int) != (ps2.length : Int)) = true := by simp; omega
        have HF : Hid (R = false) := by show _ = _; rw [HR.out, decide_eq_false (fun e => hPl (by rw [e]) : ¬ ps = ps2)]; simp
        clear hPl
        go_wp2
        go_ret
        exact ⟨by rw [HF.out]; rfl, hb0⟩
    · have hBlb : ((bs.length : Int) != (bs2.length : Int)) = true := by simp; omega
      have HF : Hid (R = false) := by show _ = _; rw [HR.out, decide_eq_false (fun e => hBl (by rw [e]) : ¬ bs = bs2)]; simp
      clear hBl
      go_wp2
      go_ret
      exact ⟨by rw [HF.out]; rfl, hb0⟩
  · have hIb : (aI != aI2) = true := by simpa using hI
    have hIc : (aI == aI2) = false := by simpa using hI
    have HF : Hid (R = false) := by show _ = _; rw [HR.out, decide_eq_false hI]; simp
    clear hI
    go_wp2
    go_ret
    exact ⟨by rw [HF.out]; rfl, hb0⟩
theorem same_any (a b : Atr) (w : World) (hi : AtrIn w a) (hj : AtrIn w b) (hl : a.bs.length ≤ 1000 ∧ a.ps.length ≤ 1000) (hl2 : b.bs.length ≤ 1000 ∧ b.ps.length ≤ 1000) :
    Calls Try.prog 22 #[.agg (atrCs a), .agg (atrCs b)] w fun e w' => e = .returned (.bool (sameF a b)) ∧ Below w.heap.size w w' := by
  obtain ⟨aI, bA, bC, bs, pA, pC, ps, hA, hC, hs⟩ := a
  obtain ⟨aI2, bA2, bC2, bs2, pA2, pC2, ps2, hA2, hC2, hs2⟩ := b
  exact same_go aI bA bC bs pA pC ps hA hC hs aI2 bA2 bC2 bs2 pA2 pC2 ps2 hA2 hC2 hs2 w hi hj hl hl2 _ rfl
theorem rsame_any (a b : Atr) (w : World) (hi : AtrIn w a) (hj : AtrIn w b) (hl : a.bs.length ≤ 1000 ∧ a.ps.length ≤ 1000) (hl2 : b.bs.length ≤ 1000 ∧ b.ps.length ≤ 1000) :
    Calls Try.prog 15 #[.agg (atrCs a), .agg (atrCs b)] w fun e w' => e = .returned (.bool (sameF a b)) ∧ Below w.heap.size w w' := by
  obtain ⟨aI, bA, bC, bs, pA, pC, ps, hA, hC, hs⟩ := a
  obtain ⟨aI2, bA2, bC2, bs2, pA2, pC2, ps2, hA2, hC2, hs2⟩ := b
  exact rsame_go aI bA bC bs pA pC ps hA hC hs aI2 bA2 bC2 bs2 pA2 pC2 ps2 hA2 hC2 hs2 w hi hj hl hl2 _ rfl
end Go.Proofs.Ytkhobpghiachoaa
