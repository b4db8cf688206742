/-
  Reading an answer to reset: the reference's walk.
-/
import Derived.Test.YtkhobpghiachoaaRDecA05
import Derived.Test.YtkhobpghiachoaaFurther05
import Derived.Test.YtkhobpghiachoaaWorks05
namespace Go.Proofs.Ytkhobpghiachoaa
open Go.RowKit Crc
set_option linter.unusedVariables false

theorem byte_at {wx : World} {bb bo m : Nat} {f h : UInt8} {b : List UInt8} (hr : RB wx (some ⟨bb, bo, none⟩) (f :: h :: b)) (h2 : 2 ≤ m) (hm : m < b.length + 2) :
    ∃ x : UInt8, b.drop (m - 2) = x :: b.drop (m + 1 - 2) ∧ wx.cell? ⟨bb, bo + m, none⟩ = some (.int .u8 (x.toNat : Int)) := by
  obtain ⟨j, rfl⟩ : ∃ j, m = j + 2 := ⟨m - 2, by omega⟩
  obtain ⟨_, _, hA, hcel⟩ := hr.at_ (by simp)
  injection hA with hA
  injection hA with hA1 hA2
  subst hA1 hA2
  have hj : j < b.length := by omega
  refine ⟨b[j], ?_, ?_⟩
  · rw [show j + 2 - 2 = j from by omega, show j + 2 + 1 - 2 = j + 1 from by omega]
    exact List.drop_eq_getElem_cons hj
  · have z := hcel (j + 2) (by simp; omega)
    simpa using z
theorem wholeE_short {f h : UInt8} {b : List UInt8} {G : Grps} (hlt : G.r.length < h.toNat % 16) : wholeE f h b G = .bad 5 := by
  unfold wholeE
  rw [if_pos hlt]
theorem wholeE_plain {f h : UInt8} {b : List UInt8} {bs : List If} {ps : List Int} {r : List UInt8} (hlt : ¬ r.length < h.toNat % 16) : wholeE f h b ⟨bs, ps, false, r⟩ = ⟨0, decide (f = 63), bs, if ps = [] then [0] else ps, r.take (h.toNat % 16)⟩ := by
  unfold wholeE
  simp only
  rw [if_neg hlt, if_neg (by decide)]
/-- Where the reference's loop stands: reading on, or done. -/
def RunS (h : UInt8) (b : List UInt8) (m : Nat) (gz u prot : Int) (sm : Bool) (bs : List If) (ps : List Int) : Prop :=
  (∃ q t : Nat, t < 256 ∧ u = ((t / (16 * 2 ^ 0) : Nat) : Int) ∧ (0 ≤ u ∧ u ≤ 15) ∧ gz = (q : Int) + 1 ∧ q + 2 ≤ m ∧ Hid (rdA (40 - q) ((q : Int) + 1) t prot bs ps sm (b.drop (m - 2)) = rdA 40 1 h.toNat 0 [] [] false b)) ∨
  (u = -1 ∧ Hid (rdA 40 1 h.toNat 0 [] [] false b = some ⟨bs, ps, sm, b.drop (m - 2)⟩))
theorem RunS.start {h : UInt8} {b : List UInt8} {u : Int} (hu : u = ((h.toNat / (16 * 2 ^ 0) : Nat) : Int)) (hb : 0 ≤ u ∧ u ≤ 15) : RunS h b 2 1 u 0 false [] [] :=
  .inl ⟨0, h.toNat, h.toNat_lt, hu, hb, by simp, by omega, rfl⟩

theorem RunS.more {h x : UInt8} {b : List UInt8} {m q : Nat} {u P : Int} {sm : Bool} {bs : List If} {ps : List Int} (hx : x.toNat < 256) (hu : u = ((x.toNat / (16 * 2 ^ 0) : Nat) : Int)) (hb : 0 ≤ u ∧ u ≤ 15) (hq : q + 2 ≤ m)
    (H : rdA (39 - q) ((q : Int) + 1 + 1) x.toNat P bs ps sm (b.drop (m + 1 - 2)) = rdA 40 1 h.toNat 0 [] [] false b) : RunS h b (m + 1) ((q : Int) + 1 + 1) u P sm bs ps := by
  refine .inl ⟨q + 1, x.toNat, hx, hu, hb, by push_cast; rfl, by omega, ?_⟩
  show _ = _
  rw [show 40 - (q + 1) = 39 - q from by omega, show ((q + 1 : Nat) : Int) + 1 = (q : Int) + 1 + 1 from by push_cast; rfl]
  exact H

set_option maxRecDepth 100000 in
set_option maxHeartbeats 8000000 in
theorem rdec_main (c : Nat) (f h : UInt8) (b : List UInt8) (w : World) (bb bo : Nat) (inv : Bool) (hr : RB w (some ⟨bb, bo, none⟩) (f :: h :: b)) (hl : b.length ≤ 31) (hc : b.length + 2 ≤ c)
    (HF : Hid (f = 59 ∨ f = 63)) (HI : Hid (decide (f = 63) = inv)) (qi : ((f.toNat : Int) == 63) = inv) :
    Calls Try.prog 14 #[.slice (some ⟨bb, bo, none⟩) (b.length + 2) c] w (DRes (f :: h :: b) w) := by
  have HN : Hid (rdA 40 1 h.toNat 0 [] [] false b = none → decS (f :: h :: b) = .bad 5) := fun e => decS_of (wholeS_none hl HF.out e) (by decide)
  have HS : Hid (∀ G, rdA 40 1 h.toNat 0 [] [] false b = some G → wholeS (f :: h :: b) = wholeE f h (f :: h :: b) G) := fun G hG => wholeS_some hl HF.out hG
  have hz := (Blk.made w 27 #[.bool false, .slice none 0 0, .slice none 0 0, .slice none 0 0]).alloc (.cells #[.bool false, .slice none 0 0, .slice none 0 0, .slice none 0 0] 27)
  have hn := Blk.made (w.alloc (.cells #[.bool false, .slice none 0 0, .slice none 0 0, .slice none 0 0] 27)) 27 #[.bool false, .slice none 0 0, .slice none 0 0, .slice none 0 0]
  have hs1 : (w.alloc (.cells #[.bool false, .slice none 0 0, .slice none 0 0, .slice none 0 0] 27)).heap.size = w.heap.size + 1 := by simp
  rw [hs1] at hn
  have hb0 := ((Below.refl w.heap.size w).alloc (Nat.le_refl _) (.cells #[.bool false, .slice none 0 0, .slice none 0 0, .slice none 0 0] 27)).alloc (by simp) (.cells #[.bool false, .slice none 0 0, .slice none 0 0, .slice none 0 0] 27)
  have hs2 : ((w.alloc (.cells #[.bool false, .slice none 0 0, .slice none 0 0, .slice none 0 0] 27)).alloc (.cells #[.bool false, .slice none 0 0, .slice none 0 0, .slice none 0 0] 27)).heap.size = w.heap.size + 1 + 1 := by simp
  have hx : ¬ ((33 : Int) < ((b.length + 2 : Nat) : Int)) := by omega
  go_enter Try.func14, Try.ntmps14
  go_upto_region 4 with fail
  obtain ⟨W1, hW1⟩ : ∃ W1 : World, W1 = (w.alloc (.cells #[.bool false, .slice none 0 0, .slice none 0 0, .slice none 0 0] 27)).alloc (.cells #[.bool false, .slice none 0 0, .slice none 0 0, .slice none 0 0] 27) := ⟨_, rfl⟩
  rw [← hW1] at hz hn hb0 hs2
  rw [← hW1]
  obtain ⟨rb, hrb⟩ : ∃ rb, rb = w.heap.size := ⟨_, rfl⟩
  obtain ⟨nb, hnb⟩ : ∃ nb, nb = w.heap.size + 1 := ⟨_, rfl⟩
  have hrb0 : w.heap.size ≤ rb ∧ rb < W1.heap.size := by omega
  have hnb0 : w.heap.size ≤ nb ∧ nb < W1.heap.size := by omega
  have hrn : ¬ (rb = nb) := by omega
  have hnr : ¬ (nb = rb) := by omega
  rw [← hrb] at hz
  rw [← hnb] at hn
  rw [← hnb, ← hrb]
  clear hrb hnb hs1 hs2 hW1
  have hr1 := hr.below hb0
  obtain ⟨_, _, hA, hcel⟩ := hr1.at_ (by simp)
  injection hA with hA
  injection hA with hA1 hA2
  subst hA1 hA2
  have z0 : W1.cell? ⟨bb, bo, none⟩ = some (.int .u8 (f.toNat : Int)) := hcel 0 (by simp)
  have z1 : W1.cell? ⟨bb, bo + 1, none⟩ = some (.int .u8 (h.toNat : Int)) := hcel 1 (by simp)
  have i0 : (0 : Int) < (b.length : Int) + 2 := by omega
  have i1 : (1 : Int) < (b.length : Int) + 2 := by omega
  have i2 : ¬ ((b.length : Int) + 2 < 2) := by omega
  have i3 : decide ((33 : Int) < (b.length : Int) + 2) = false := decide_eq_false (by omega)
  clear hcel
  go_cut [34] (fun s wx => s = .bool false ∧ wx = W1)
  case first =>
    rcases HF.out with rfl | rfl
    · go_wp2_with fail
      go_meet
      exact ⟨rfl, rfl⟩
    · go_wp2_with fail
      go_meet
      exact ⟨rfl, rfl⟩
  case rest =>
    obtain ⟨rfl, hw⟩ := hcut
    have hw := hw.symm
    subst hw
    clear hw
    have hh : (h.toNat : Int) ≤ 255 ∧ (0 : Int) ≤ (h.toNat : Int) := by have := h.toNat_lt; omega
    have hba := (Below.refl W1.heap.size W1).alloc (Nat.le_refl _) (.cells #[.bool inv, .slice none 0 0, .slice none 0 0, .slice none 0 0] 27)
    have y1 : (W1.alloc (.cells #[.bool inv, .slice none 0 0, .slice none 0 0, .slice none 0 0] 27)).cell? ⟨bb, bo + 1, none⟩ = some (.int .u8 (h.toNat : Int)) := (hba.cell (p := ⟨bb, bo + 1, none⟩) (cell?_lt z1)).trans z1
    have hR : Rn w (W1.alloc (.cells #[.bool inv, .slice none 0 0, .slice none 0 0, .slice none 0 0] 27)) rb nb W1.heap.size inv (.slice none 0 0) (.slice none 0 0) (.slice none 0 0) [] [] :=
      ⟨⟨Blk.made W1 _ _, World.ownsRow_nil _ _ _ _, World.ownsRow_nil _ _ _ _, (fun k hk => by cases hk), by omega⟩, hz.below hba hrb0.2, hn.below hba hnb0.2, hrb0.2, hnb0.2, hrb0.1, hnb0.1, by simp, hb0.trans (hba.mono hb0.size)⟩
    obtain ⟨ab, hab⟩ : ∃ ab, ab = W1.heap.size := ⟨_, rfl⟩
    have hnr1 : ¬ (ab = rb) := by have := hrb0.2; omega
    have hnr2 : ¬ (rb = ab) := by have := hrb0.2; omega
    rw [← hab] at hR
    go_upto_region 11 with fail
    rw [← hab]
    clear hab y1 z0 z1 i0 i1 i2 i3 hx qi hba hz hn hr1 hrb0 hnb0 hb0
    generalize W1.alloc (.cells #[.bool inv, .slice none 0 0, .slice none 0 0, .slice none 0 0] 27) = W2 at hR ⊢
    have hu16 : (h.toNat : Int) / 16 = ((h.toNat / (16 * 2 ^ 0) : Nat) : Int) := by simp
    obtain ⟨u0, hu0⟩ : ∃ u0 : Int, u0 = (h.toNat : Int) / 16 := ⟨_, rfl⟩
    obtain ⟨N, hN⟩ : ∃ N : Nat, N = h.toNat % 16 := ⟨_, rfl⟩
    have hNi : (h.toNat : Int) % 16 = (N : Int) := by omega
    rw [← hu0] at hu16
    rw [← hu0, hNi]
    have hu0b : 0 ≤ u0 ∧ u0 ≤ 15 := by omega
    have hN16 : N < 16 := by omega
    have HU0 := Lib.hid hu16
    have HN2 := Lib.hid hN
    clear hu16 hu0 hNi hN hh
    go_wp2_with fail
    go_loopw [6, 7, 8, 10, 11] (fun p pr a ch g wx => ∃ (m : Nat) (u prot gz : Int) (sm : Bool) (v1 v2 : Value) (bs : List If) (ps : List Int), p = .int .i64 u ∧ pr = .int .i64 prot ∧ a = .int .i64 (m : Int) ∧ ch = .bool sm ∧ g = .int .i64 gz ∧ 0 ≤ gz ∧ gz ≤ 40 ∧ m ≤ b.length + 2 ∧ bs.length + ps.length + 2 ≤ m ∧
      Rn w wx rb nb ab inv v1 v2 (.slice none 0 0) bs ps ∧ RunS h b m gz u prot sm bs ps) (fun _ _ _ _ g _ => 50 - (intOf g).toNat)
    case atStart => exact ⟨2, u0, 0, 1, false, _, _, [], [], rfl, rfl, rfl, rfl, rfl, by omega, by omega, by omega, by simp, hR, RunS.start HU0.out hu0b⟩
    case round =>
      obtain ⟨m, u, prot, gz, sm, v1, v2, bs, ps, rfl, rfl, rfl, rfl, rfl, hg0, hg1, hm, hlen, hst, hrun⟩ := hrel
      clear hR HU0 hu0b
      rcases hrun with ⟨q, t, ht, hu, hub, hgz, hq, HR⟩ | ⟨hu, HR⟩
      · subst hgz
        obtain ⟨hu1, hu2⟩ := hub
        have HU := Lib.hid hu
        clear hu hg0 hg1
        go_wp2_with fail
        go_loopw [8, 12, 13] (fun a bt i wx => ∃ (k m' : Nat) (z : Int) (v1' : Value) (bs' : List If), k ≤ 3 ∧ a = .int .i64 (m' : Int) ∧ bt = .int .i64 z ∧ i = .int .i64 (k : Int) ∧ Hid (z = ((t / (16 * 2 ^ k) : Nat) : Int)) ∧ 0 ≤ z ∧ z ≤ 255 ∧ m' ≤ b.length + 2 ∧ bs'.length + ps.length + 2 ≤ m' ∧ q + 2 ≤ m' ∧
          Rn w wx rb nb ab inv v1' v2 (.slice none 0 0) bs' ps ∧ Hid (rdG ((q : Int) + 1) prot t (([0, 1, 2] : List Nat).drop k) bs' (b.drop (m' - 2)) = rdG ((q : Int) + 1) prot t [0, 1, 2] bs (b.drop (m - 2)))) (fun _ _ i _ => 10 - (intOf i).toNat)
        case atStart => exact ⟨0, m, u, v1, bs, by omega, rfl, rfl, rfl, HU, hu1, by omega, hm, hlen, hq, hst, rfl⟩
        case round =>
          obtain ⟨k, m', z, v1', bs', hk3, rfl, rfl, rfl, HZ, hz0, hz1, hm1, hlen', hq', hst', HG⟩ := hrel
          clear hst HU hu1 hu2 hm hlen hq
          have m0 : (0 : Int) ≤ (m' : Int) := by omega
          by_cases hk : k < 3
          · have hki : (k : Int) < 3 := by omega
            rcases hbt : bitB t k with _ | _
            · have hb : (z % 2 == 1) = false := by rw [q_bit HZ.out, hbt]
              have HZ2 : Hid (z / 2 = ((t / (16 * 2 ^ (k + 1)) : Nat) : Int)) := q_half HZ.out
              have HG2 : Hid (rdG ((q : Int) + 1) prot t (([0, 1, 2] : List Nat).drop (k + 1)) bs' (b.drop (m' - 2)) = rdG ((q : Int) + 1) prot t [0, 1, 2] bs (b.drop (m - 2))) := by
                show _ = _
                rw [rdG_skip hk hbt]
                exact HG.out
              clear hbt
              go_wp2
              go_roundw
              case rel => exact ⟨k + 1, m', z / 2, v1', bs', by omega, rfl, rfl, by go_num, HZ2, by omega, by omega, hm1, hlen', hq', hst', HG2⟩
              case measure => simp [intOf]; omega
            · have hb : (z % 2 == 1) = true := by rw [q_bit HZ.out, hbt]
              by_cases hml : m' < b.length + 2
              · obtain ⟨x, hxd, hxc⟩ := byte_at (hr.below hst'.bel) (by omega) hml
                have HZ2 : Hid (z / 2 = ((t / (16 * 2 ^ (k + 1)) : Nat) : Int)) := q_half HZ.out
                have HG2 : Hid (rdG ((q : Int) + 1) prot t (([0, 1, 2] : List Nat).drop (k + 1)) (bs' ++ [⟨(q : Int) + 1, k, (x.toNat : Int), prot⟩]) (b.drop (m' + 1 - 2)) = rdG ((q : Int) + 1) prot t [0, 1, 2] bs (b.drop (m - 2))) := by
                  show _ = _
                  rw [rdG_take hk hbt, ← hxd]
                  exact HG.out
                have hmi : ¬ ((b.length : Int) + 2 ≤ (m' : Int)) := by omega
                have hmi2 : (m' : Int) < (b.length : Int) + 2 := by omega
                have hT := ifT
                have hlq : bs'.length + 1 ≤ 68719476736 := by omega
                have hba := (below_drewN (Below.refl wr.heap.size wr) 1).alloc (Nat.le_refl _) (.cells #[.int .i64 ((q : Int) + 1), .int .i64 (k : Int), .int .i64 (x.toNat : Int), .int .i64 prot] 47)
                have h3 := hst'.below hba
                have x0 : wr.cell? ⟨ab, 1, none⟩ = some v1' := hst'.m.blk.cell 1
                have x2 : ((wr.drewN 1).alloc (.cells #[.int .i64 ((q : Int) + 1), .int .i64 (k : Int), .int .i64 (x.toNat : Int), .int .i64 prot] 47)).cell? ⟨ab, 1, none⟩ = some v1' := h3.m.blk.cell 1
                have x3 : (wr.alloc (.cells #[.int .i64 ((q : Int) + 1), .int .i64 (k : Int), .int .i64 (x.toNat : Int), .int .i64 prot] 47)).cell? ⟨ab, 1, none⟩ = some v1' := x2
                have y2 : ((wr.drewN 1).alloc (.cells #[.int .i64 ((q : Int) + 1), .int .i64 (k : Int), .int .i64 (x.toNat : Int), .int .i64 prot] 47)).cell? ⟨bb, bo + m', none⟩ = some (.int .u8 (x.toNat : Int)) := (hba.cell (p := ⟨bb, bo + m', none⟩) (cell?_lt hxc)).trans hxc
                have hra : RC ((wr.drewN 1).alloc (.cells #[.int .i64 ((q : Int) + 1), .int .i64 (k : Int), .int .i64 (x.toNat : Int), .int .i64 prot] 47)) (some ⟨wr.heap.size, 0, none⟩) (ifv [⟨(q : Int) + 1, k, (x.toNat : Int), prot⟩]) := RC.made (wr.drewN 1) _ _ _ rfl
                have hx255 : (x.toNat : Int) ≤ 255 := by have := x.toNat_lt; omega
                have hwx := wrap_u x
                have hoq := h3.m.own1
                have hhi := h3.hi
                clear hbt hxd hba hst'
                go_upto_region 22 with fail
                go_region_law (refine step_append_own5 rfl hT (.tmp 73) (.tmp 83) rfl rfl rfl hoq hra rfl (ifv_one _) hlq hhi ?_; intro v4 w4 ho4 hb4 hg4 hv4; obtain ⟨e1, e2, e3⟩ := h3.app1 ho4 hb4 hg4 hv4; obtain ⟨A4, c4, rfl, _, _⟩ := owns_reads ho4)
                all_goals
                  go_wp2
                  go_roundw
                  case rel => exact ⟨k + 1, m' + 1, z / 2, _, _, by omega, by go_num, rfl, by go_num, HZ2, by omega, by omega, by omega, by simp; omega, by omega, e3, HG2⟩
                  case measure => simp [intOf]; omega
              · have hnil : b.drop (m' - 2) = [] := List.drop_eq_nil_of_le (by omega)
                have hD : decS (f :: h :: b) = .bad 5 := by
                  refine HN.out ?_
                  rw [← HR.out, show 40 - q = (39 - q) + 1 from by omega]
                  refine rdA_none ?_
                  rw [← HG.out, hnil]
                  exact rdG_out hk hbt
                obtain ⟨kR, hDR⟩ := hst'.bad hD
                have HK := Lib.hid kR
                have HDR := Lib.hid hDR
                have hmi : (b.length : Int) + 2 ≤ (m' : Int) := by omega
                have p0 : wr.cell? ⟨nb, 0, none⟩ = some (.bool false) := hst'.nz.cell 0
                have p1 : wr.cell? ⟨nb, 1, none⟩ = some (.slice none 0 0) := hst'.nz.cell 1
                have p2 : wr.cell? ⟨nb, 2, none⟩ = some (.slice none 0 0) := hst'.nz.cell 2
                have p3 : wr.cell? ⟨nb, 3, none⟩ = some (.slice none 0 0) := hst'.nz.cell 3
                have r0 : wr.cell? ⟨rb, 0, none⟩ = some (.bool false) := hst'.rz.cell 0
                have r1 : wr.cell? ⟨rb, 1, none⟩ = some (.slice none 0 0) := hst'.rz.cell 1
                have r2 : wr.cell? ⟨rb, 2, none⟩ = some (.slice none 0 0) := hst'.rz.cell 2
                have r3 : wr.cell? ⟨rb, 3, none⟩ = some (.slice none 0 0) := hst'.rz.cell 3
                have fR := hst'.rz.free
                clear hbt hnil hD kR hDR
                go_wp2
                refine bodyPost_ret (results_cell_one rfl _ _ rb _ _ _ _ rfl HK.out.out Try.underlying27 rfl atr_info) rfl ?_
                exact HDR.out
          · obtain rfl : k = 3 := by omega
            have hG : rdG ((q : Int) + 1) prot t [0, 1, 2] bs (b.drop (m - 2)) = some (bs', b.drop (m' - 2)) := by
              rw [← HG.out]
              show rdG _ _ _ [] _ _ = _
              unfold rdG
              rfl
            have hz3 := q_last ht HZ.out
            have hq39 : 40 - q = (39 - q) + 1 := by omega
            by_cases h8 : t < 128
            · have hb : (z == 1) = false := by rw [hz3, decide_eq_false (fun hh => hh h8)]
              have HD : Hid (rdA 40 1 h.toNat 0 [] [] false b = some ⟨bs', ps, sm, b.drop (m' - 2)⟩) := by
                show _ = _
                rw [← HR.out, hq39]
                exact rdA_last hG h8
              clear hz3 hG hq39 HG HZ HR
              go_wp2
              go_roundw
              case rel => exact ⟨m', -1, prot, (q : Int) + 1 + 1, sm, _, v2, bs', ps, rfl, rfl, rfl, rfl, rfl, by omega, by omega, hm1, hlen', hst', .inr ⟨rfl, HD⟩⟩
              case measure => simp [intOf]; omega
            · have hb : (z == 1) = true := by rw [hz3, decide_eq_true h8]
              by_cases hml : m' < b.length + 2
              · obtain ⟨x, hxd, hxc⟩ := byte_at (hr.below hst'.bel) (by omega) hml
                rw [hxd] at hG
                have hRA := rdA_more (f := 39 - q) (ps := ps) (sm := sm) hG h8
                rw [← hq39, HR.out] at hRA
                have HRA := Lib.hid hRA
                have hwx := wrap_u x
                have hx255 : (x.toNat : Int) ≤ 255 := by have := x.toNat_lt; omega
                have hx0 : (0 : Int) ≤ (x.toNat : Int) := by omega
                have hmi : ¬ ((b.length : Int) + 2 ≤ (m' : Int)) := by omega
                have hmi2 : (m' : Int) < (b.length : Int) + 2 := by omega
                clear hz3 hG hq39 HG HZ HR hRA hxd
                go_upto_region 29 with fail
                go_quiet (fail)
                have hstN := hst'.below (below_drewN (Below.refl wr.heap.size wr) nq)
                go_upto_region 30 with fail
                clear hst'
                generalize wr.drewN nq = W at hstN ⊢
                obtain ⟨P, hP⟩ : ∃ P : Int, P = (x.toNat : Int) % 16 := ⟨_, rfl⟩
                obtain ⟨u', hu'⟩ : ∃ u' : Int, u' = (x.toNat : Int) / 16 := ⟨_, rfl⟩
                rw [← hP] at HRA
                rw [← hP, ← hu']
                have hP0 : 0 ≤ P ∧ P < 16 := by omega
                have hu'2 : 0 ≤ u' ∧ u' ≤ 15 := by omega
                have HU2 : Hid (u' = ((x.toNat / (16 * 2 ^ 0) : Nat) : Int)) := by
                  show _ = _
                  rw [hu']
                  simp
                have hx256 := x.toNat_lt
                clear hP hu' hwx hx255 hx0 hxc
                obtain ⟨A6, c6, rfl, hc6, hr6⟩ := owns_reads hstN.m.own2
                obtain ⟨hP1, hP2⟩ := hP0
                have hT := intT
                have hba := (Below.refl W.heap.size W).alloc (Nat.le_refl _) (.cells #[.int .i64 P] 3)
                have h3 := hstN.below hba
                have x2 : W.cell? ⟨ab, 2, none⟩ = some (.slice A6 ps.length c6) := hstN.m.blk.cell 2
                have x3 : (W.alloc (.cells #[.int .i64 P] 3)).cell? ⟨ab, 2, none⟩ = some (.slice A6 ps.length c6) := h3.m.blk.cell 2
                have hra : RC (W.alloc (.cells #[.int .i64 P] 3)) (some ⟨W.heap.size, 0, none⟩) (nv [P]) := RC.made W _ _ _ rfl
                have hoq := h3.m.own2
                have hhi := h3.hi
                clear hba
                go_cut [10] (fun s wx => s = .bool (sm || decide (P ≠ 0)) ∧ wx = W)
                case first =>
                  rcases sm with _ | _
                  · go_wp2_with fail
                    go_meet
                    refine ⟨?_, rfl⟩
                    rw [Bool.false_or]
                    congr 1
                    by_cases e : P = 0 <;> simp [e]
                  · go_wp2_with fail
                    go_meet
                    exact ⟨by rw [Bool.true_or], rfl⟩
                case rest =>
                  obtain ⟨rfl, hw⟩ := hcut
                  have hw := hw.symm
                  subst hw
                  clear hw
                  generalize (sm || decide (P ≠ 0)) = sm2 at HRA ⊢
                  by_cases hpn : ps = []
                  · subst hpn
                    rw [if_neg (by simp)] at HRA
                    go_wp2_with (at_builtin; refine wpList_append5 rfl hT (.tmp 126) (.tmp 128) rfl rfl rfl hoq hra rfl (by intro u hu; simp [nv] at hu; subst hu; rfl) (by first | omega | (simp only [List.length_nil]; omega)) hhi ?_; intro v7 w7 ho7 hb7 hg7 hv7; obtain ⟨e1, e2, e3⟩ := h3.app2 ho7 hb7 hg7 hv7; obtain ⟨A7, c7, rfl, _, _⟩ := owns_reads ho7)
                    go_roundw
                    case rel => exact ⟨m' + 1, u', P, (q : Int) + 1 + 1, _, _, _, bs', _, rfl, rfl, by go_num, rfl, rfl, by omega, by omega, by omega, by simp at hlen' ⊢; omega, e3, RunS.more hx256 HU2.out hu'2 hq' HRA.out.symm⟩
                    case measure => simp [intOf]; omega
                  · have hl0 : ((ps.length : Int) == 0) = false := by
                      have : ps.length ≠ 0 := fun e => hpn (List.length_eq_zero_iff.1 e)
                      simp
                      exact hpn
                    have hl1 : ¬ ps.length = 0 := fun e => hpn (List.length_eq_zero_iff.1 e)
                    have hhas := has_any A6 c6 ps P W (by omega) hr6
                    by_cases hin : P ∈ ps
                    · rw [if_pos hin] at HRA
                      rw [decide_eq_true hin] at hhas
                      clear hpn hin hra
                      go_wp2_with fail
                      refine hhas.mono ?_
                      clear hhas
                      rintro e w5 ⟨rfl, rfl⟩
                      go_wp2
                      go_roundw
                      case rel => exact ⟨m' + 1, u', P, (q : Int) + 1 + 1, _, _, _, bs', _, rfl, rfl, by go_num, rfl, rfl, by omega, by omega, by omega, by omega, hstN, RunS.more hx256 HU2.out hu'2 hq' HRA.out.symm⟩
                      case measure => simp [intOf]; omega
                    · rw [if_neg hin] at HRA
                      rw [decide_eq_false hin] at hhas
                      clear hpn hin
                      go_wp2_with fail
                      refine hhas.mono ?_
                      clear hhas
                      rintro e w5 ⟨rfl, rfl⟩
                      go_wp2_with (at_builtin; refine wpList_append5 rfl hT (.tmp 126) (.tmp 128) rfl rfl rfl hoq hra rfl (by intro u hu; simp [nv] at hu; subst hu; rfl) (by first | omega | (simp only [List.length_nil]; omega)) hhi ?_; intro v7 w7 ho7 hb7 hg7 hv7; obtain ⟨e1, e2, e3⟩ := h3.app2 ho7 hb7 hg7 hv7; obtain ⟨A7, c7, rfl, _, _⟩ := owns_reads ho7)
                      go_roundw
                      case rel => exact ⟨m' + 1, u', P, (q : Int) + 1 + 1, _, _, _, bs', _, rfl, rfl, by go_num, rfl, rfl, by omega, by omega, by omega, by simp at hlen' ⊢; omega, e3, RunS.more hx256 HU2.out hu'2 hq' HRA.out.symm⟩
                      case measure => simp [intOf]; omega
              · have hnil : b.drop (m' - 2) = [] := List.drop_eq_nil_of_le (by omega)
                rw [hnil] at hG
                have hD : decS (f :: h :: b) = .bad 5 := by
                  refine HN.out ?_
                  rw [← HR.out, hq39]
                  exact rdA_short hG h8
                obtain ⟨kR, hDR⟩ := hst'.bad hD
                have hmi : (b.length : Int) + 2 ≤ (m' : Int) := by omega
                clear hz3 hG hq39 HG HZ HR hnil
                have HK := Lib.hid kR
                have HDR := Lib.hid hDR
                have p0 : wr.cell? ⟨nb, 0, none⟩ = some (.bool false) := hst'.nz.cell 0
                have p1 : wr.cell? ⟨nb, 1, none⟩ = some (.slice none 0 0) := hst'.nz.cell 1
                have p2 : wr.cell? ⟨nb, 2, none⟩ = some (.slice none 0 0) := hst'.nz.cell 2
                have p3 : wr.cell? ⟨nb, 3, none⟩ = some (.slice none 0 0) := hst'.nz.cell 3
                have r0 : wr.cell? ⟨rb, 0, none⟩ = some (.bool false) := hst'.rz.cell 0
                have r1 : wr.cell? ⟨rb, 1, none⟩ = some (.slice none 0 0) := hst'.rz.cell 1
                have r2 : wr.cell? ⟨rb, 2, none⟩ = some (.slice none 0 0) := hst'.rz.cell 2
                have r3 : wr.cell? ⟨rb, 3, none⟩ = some (.slice none 0 0) := hst'.rz.cell 3
                have fR := hst'.rz.free
                clear hD kR hDR
                go_wp2
                refine bodyPost_ret (results_cell_one rfl _ _ rb _ _ _ _ rfl HK.out.out Try.underlying27 rfl atr_info) rfl ?_
                exact HDR.out
      · obtain ⟨A9, c9, rfl, hc9, hr9⟩ := owns_reads hst.m.own1
        obtain ⟨A6, c6, rfl, hc6, hr6⟩ := owns_reads hst.m.own2
        have hWS := HS.out _ HR.out
        have HWS := Lib.hid hWS
        subst hu
        have x2 : wr.cell? ⟨ab, 2, none⟩ = some (.slice A6 ps.length c6) := hst.m.blk.cell 2
        obtain ⟨ps2, hps2⟩ : ∃ ps2, ps2 = if ps = [] then [0] else ps := ⟨_, rfl⟩
        have HPS := Lib.hid hps2
        have hp2 : ps2.length ≤ 40 := by rw [hps2]; split <;> first | omega | simp
        have hm2 : 2 ≤ m := by omega
        have hbs : bs.length ≤ 33 := by omega
        clear hWS hps2 HN HS HR hg0 hg1 hc9 hr9 hc6 hr6
        go_upto_if 136 with fail
        go_cut [] (fun wx => ∃ A c, Rn w wx rb nb ab inv (.slice A9 bs.length c9) (.slice A ps2.length c) (.slice none 0 0) bs ps2)
        case first =>
          by_cases hp : ps = []
          · subst hp
            obtain rfl : ps2 = [0] := by rw [HPS.out, if_pos rfl]
            have hba := hst.below ((Below.refl wr.heap.size wr).alloc (Nat.le_refl _) (.cells #[.int .i64 0] 3))
            have y2 : (wr.alloc (.cells #[.int .i64 0] 3)).cell? ⟨ab, 2, none⟩ = some (.slice A6 0 c6) := hba.m.blk.cell 2
            have f2 := hba.m.blk.free 2
            have hS := hst.single
            clear hba
            go_wp2_with fail
            go_meet
            exact ⟨_, _, hS⟩
          · obtain rfl : ps2 = ps := by rw [HPS.out, if_neg hp]
            have hn0 : ((ps2.length : Int) == 0) = false := by simpa using hp
            have hn1 : ¬ ps2.length = 0 := fun e => hp (List.length_eq_zero_iff.1 e)
            clear hp
            go_wp2_with fail
            go_meet
            exact ⟨_, _, hst⟩
        case rest =>
          obtain ⟨A6', c6', hst2⟩ := hcut
          clear hst x2
          have hrl : (b.drop (m - 2)).length = b.length + 2 - m := by simp; omega
          go_upto_region 36 with fail
          by_cases hlt : b.length + 2 < m + N
          · have hD : decS (f :: h :: b) = .bad 5 := by
              refine decS_of ?_ (by decide)
              rw [HWS.out]
              exact wholeE_short (by simp only; rw [hrl, ← HN2.out]; omega)
            obtain ⟨kR, hDR⟩ := hst2.bad hD
            have hmi : (b.length : Int) + 2 < (m : Int) + (N : Int) := by omega
            clear hlt hrl
            have HK := Lib.hid kR
            have HDR := Lib.hid hDR
            have p0 : wc.cell? ⟨nb, 0, none⟩ = some (.bool false) := hst2.nz.cell 0
            have p1 : wc.cell? ⟨nb, 1, none⟩ = some (.slice none 0 0) := hst2.nz.cell 1
            have p2 : wc.cell? ⟨nb, 2, none⟩ = some (.slice none 0 0) := hst2.nz.cell 2
            have p3 : wc.cell? ⟨nb, 3, none⟩ = some (.slice none 0 0) := hst2.nz.cell 3
            have r0 : wc.cell? ⟨rb, 0, none⟩ = some (.bool false) := hst2.rz.cell 0
            have r1 : wc.cell? ⟨rb, 1, none⟩ = some (.slice none 0 0) := hst2.rz.cell 1
            have r2 : wc.cell? ⟨rb, 2, none⟩ = some (.slice none 0 0) := hst2.rz.cell 2
            have r3 : wc.cell? ⟨rb, 3, none⟩ = some (.slice none 0 0) := hst2.rz.cell 3
            have fR := hst2.rz.free
            clear hD kR hDR
            go_wp2
            refine bodyPost_ret (results_cell_one rfl _ _ rb _ _ _ _ rfl HK.out.out Try.underlying27 rfl atr_info) rfl ?_
            exact HDR.out
          · have hmi : ¬ ((b.length : Int) + 2 < (m : Int) + (N : Int)) := by omega
            have hmi2 : (m : Int) + (N : Int) ≤ (b.length : Int) + 2 := by omega
            have hmi3 : (m : Int) + (N : Int) ≤ (c : Int) := by omega
            have hmi4 : (m : Int) ≤ (m : Int) + (N : Int) := by omega
            have hT := byteT
            have hlq : 0 + N ≤ 68719476736 := by omega
            obtain ⟨hs, hhs⟩ : ∃ hs, hs = (b.drop (m - 2)).take N := ⟨_, rfl⟩
            have hsl : hs.length = N := by rw [hhs, List.length_take, hrl]; omega
            have HHS := Lib.hid hhs
            have hrb := hr.below hst2.bel
            have hba := hst2.below (below_drewN (Below.refl wc.heap.size wc) 1)
            have x3 : wc.cell? ⟨ab, 3, none⟩ = some (.slice none 0 0) := hst2.m.blk.cell 3
            have hRC : ∀ a' : Addr, a' = (if c = m then (⟨bb, bo, none⟩ : Addr) else ⟨bb, bo + m, none⟩) → RC (wc.drewN 1) (some a') (bv hs) := by
              intro a' ha
              have hd := (hrb.drop m c (by simp; omega)).take N
              have e : (f :: h :: b).drop m = b.drop (m - 2) := by
                obtain ⟨j, rfl⟩ : ∃ j, m = j + 2 := ⟨m - 2, by omega⟩
                simp
              rw [e, ← hhs] at hd
              have ea : (if c = m then some (⟨bb, bo, none⟩ : Addr) else (some (⟨bb, bo, none⟩ : Addr)).map (·.add m)) = some a' := by
                rw [ha]
                split
                · rfl
                · simp [Addr.add]
                  omega
              rw [ea] at hd
              exact rb_iff.1 hd
            have hlv : (bv hs).length = N * 1 := by rw [bv_length, hsl, Nat.mul_one]
            have hoq : (wc.drewN 1).ownsRow (ab + 1) 5 1 (.slice none 0 0) 0 [] := World.ownsRow_nil _ _ _ _
            have hhi := hba.hi
            have HLV := Lib.hid hlv
            have HSL := Lib.hid hsl
            clear hlt hrl hhs hrb hlv hsl
            obtain ⟨M, hM⟩ : ∃ M : Nat, M = m + N := ⟨_, rfl⟩
            have hM1 : (0 : Int) ≤ (M : Int) := by omega
            have hM2 : (M : Int) ≤ (b.length : Int) + 2 := by omega
            have hM3 : (M : Int) ≤ (c : Int) := by omega
            have hM4 : (m : Int) ≤ (M : Int) := by omega
            have hM5 : m ≤ M := by omega
            have hM6 : M ≤ 33 := by omega
            have hMm : M - m = N := by omega
            have hMi : (m : Int) + (N : Int) = (M : Int) := by omega
            have hw2 : IntKind.i64.wrap (M : Int) = (M : Int) := IntWalk.i64_in _ (by omega)
            have hw1 : IntKind.i64.wrap ((m : Int) + (N : Int)) = (M : Int) := by
              rw [hMi]
              exact hw2
            have HM := Lib.hid hM
            clear hM hmi hmi2 hmi3 hmi4
            go_upto_region 38 with fail
            go_cut [] (fun wx => ∃ A4 c4, Rn w wx rb nb ab inv (.slice A9 bs.length c9) (.slice A6' ps2.length c6') (.slice A4 N c4) bs ps2 ∧ wx.ownsRow (ab + 1) 5 1 (.slice A4 N c4) N (bv hs))
            case first =>
              by_cases hcm : c = m
              · have hra := hRC ⟨bb, bo, none⟩ (by rw [if_pos hcm])
                subst hcm
                clear hRC
                go_region_law (refine step_append_own5 rfl hT (.tmp 147) (.tmp 153) rfl rfl rfl hoq hra HLV.out (bv_one hs) hlq hhi ?_; intro v4 w4 ho4 hb4 hg4 hv4; rw [Nat.zero_add, List.nil_append] at ho4; obtain ⟨e1, e2, e3, e4⟩ := hba.app3 ho4 hb4 hg4; obtain ⟨A4, c4, rfl, _, _⟩ := owns_reads ho4)
                all_goals
                  go_wp2_with fail
                  go_meet
                  exact ⟨_, _, e3, e4⟩
              · have hra := hRC ⟨bb, bo + m, none⟩ (by rw [if_neg hcm])
                clear hRC
                go_region_law (refine step_append_own5 rfl hT (.tmp 147) (.tmp 153) rfl rfl rfl hoq hra HLV.out (bv_one hs) hlq hhi ?_; intro v4 w4 ho4 hb4 hg4 hv4; rw [Nat.zero_add, List.nil_append] at ho4; obtain ⟨e1, e2, e3, e4⟩ := hba.app3 ho4 hb4 hg4; obtain ⟨A4, c4, rfl, _, _⟩ := owns_reads ho4)
                all_goals
                  go_wp2_with fail
                  go_meet
                  exact ⟨_, _, e3, e4⟩
            case rest =>
              obtain ⟨A4, c4, hst3, ho3⟩ := hcut
              clear hst2 hba hoq hhi x3 hRC
              have hnl : ¬ (b.drop (m - 2)).length < h.toNat % 16 := by rw [← HN2.out]; have := HM.out; simp; omega
              rcases sm with _ | _
              · have HW : Hid (wholeS (f :: h :: b) = ⟨0, inv, bs, ps2, hs⟩) := by
                  show _ = _
                  rw [HWS.out, wholeE_plain hnl, HI.out, ← HPS.out, ← HN2.out, ← HHS.out]
                clear hnl hw1 hw2
                go_upto_region 42 with fail
                go_quiet (fail)
                have hst4 := hst3.below (below_drewN (Below.refl wc.heap.size wc) nq)
                have ho4 : (wc.drewN nq).ownsRow (ab + 1) 5 1 (.slice A4 N c4) N (bv hs) := owns_keep ho3 (fun k hk => rfl)
                go_upto_region 44 with fail
                clear hst3 ho3
                generalize wc.drewN nq = W4 at hst4 ho4 ⊢
                have hbd := whole_bd (f :: h :: b)
                rw [HW.out] at hbd
                have s1 : RC W4 A9 (ifv bs) := owns_rc hst4.m.own1
                have s2 : RC W4 A6' (nv ps2) := owns_rc hst4.m.own2
                have s3 : RB W4 A4 hs := rb_iff.2 (owns_rc ho4)
                have hen : Calls Try.prog 18 #[.agg #[.bool inv, .slice A9 bs.length c9, .slice A6' ps2.length c6', .slice A4 N c4]] W4 fun e w' => ∃ A c, e = .returned (.tuple #[.slice A (outF ⟨inv, A9, c9, bs, A6', c6', ps2, A4, c4, hs⟩).length c, .int .i64 (chkF ⟨inv, A9, c9, bs, A6', c6', ps2, A4, c4, hs⟩)]) ∧ RB w' A (outF ⟨inv, A9, c9, bs, A6', c6', ps2, A4, c4, hs⟩) ∧ Below W4.heap.size W4 w' := by
                  have z := rencE_any ⟨inv, A9, c9, bs, A6', c6', ps2, A4, c4, hs⟩ W4 ⟨s1, s2, s3, fun x hx => by have := hbd.2.2 x hx; omega⟩ (by simp only; omega) (by simp only; omega)
                  unfold atrCs at z
                  simp only at z
                  rw [HSL.out] at z
                  exact z
                obtain ⟨e1, e2⟩ := chkF_addr ⟨0, inv, bs, ps2, hs⟩ A9 c9 A6' c6' A4 c4
                simp only at e1 e2
                have HC : Hid (decS (f :: h :: b) = if chkF (⟨inv, A9, c9, bs, A6', c6', ps2, A4, c4, hs⟩ : Atr) = 0 ∧ encF (⟨inv, A9, c9, bs, A6', c6', ps2, A4, c4, hs⟩ : Atr) = f :: h :: b then ⟨0, inv, bs, ps2, hs⟩ else .bad 4) := by
                  show _ = _
                  unfold decS
                  rw [HW.out, if_pos rfl, e1, e2]
                have HO : Hid (∀ a : Atr, chkF a = 0 → outF a = encF a) := fun a h => by unfold outF; rw [if_pos h]
                have m0 : W4.cell? ⟨ab, 0, none⟩ = some (.bool inv) := hst4.m.blk.cell 0
                have m1 : W4.cell? ⟨ab, 1, none⟩ = some (.slice A9 bs.length c9) := hst4.m.blk.cell 1
                have m2 : W4.cell? ⟨ab, 2, none⟩ = some (.slice A6' ps2.length c6') := hst4.m.blk.cell 2
                have m3 : W4.cell? ⟨ab, 3, none⟩ = some (.slice A4 N c4) := hst4.m.blk.cell 3
                clear hbd s1 s2 s3 e1 e2 HW
                generalize (⟨inv, A9, c9, bs, A6', c6', ps2, A4, c4, hs⟩ : Atr) = a at hen HC
                go_wp2_with fail
                refine hen.mono ?_
                clear hen
                rintro e w5 ⟨A5, c5, rfl, hr5, hb5⟩
                have hst5 := hst4.below hb5
                have ho5 := owns_keep ho4 (fun k hk => hb5.block k (owns_lt ho4 k hk).2)
                have hrb5 := hr.below hst5.bel
                clear m0 m1 m2 m3 hst4 ho4
                by_cases hz : chkF a = 0
                · have ho := HO.out a hz
                  rw [ho] at hr5
                  rw [ho, hz]
                  clear ho HO
                  have v1 := hr5.convert (P := Try.prog) 22 9 5 c5 Try.underlying22 Try.underlying5 Try.underlying9
                  have v2 := rb_convertN (P := Try.prog) hrb5 (b.length + 2) (by simp) 22 9 5 c Try.underlying22 Try.underlying5 Try.underlying9
                  by_cases hz2 : encF a = f :: h :: b
                  · have hD : decS (f :: h :: b) = ⟨0, inv, bs, ps2, hs⟩ := by rw [HC.out, if_pos ⟨hz, hz2⟩]
                    rw [hz2] at v1
                    rw [hz2]
                    obtain ⟨kR, hDR⟩ := Rn.done HSL.out hst5 ho5 hD
                    have HK := Lib.hid kR
                    have HDR := Lib.hid hDR
                    have hl2 : (f :: h :: b).length = b.length + 2 := by simp
                    rw [hl2] at v1
                    rw [hl2]
                    generalize strOf (f :: h :: b) = S at v1 v2
                    have m0 : w5.cell? ⟨ab, 0, none⟩ = some (.bool inv) := hst5.m.blk.cell 0
                    have m1 : w5.cell? ⟨ab, 1, none⟩ = some (.slice A9 bs.length c9) := hst5.m.blk.cell 1
                    have m2 : w5.cell? ⟨ab, 2, none⟩ = some (.slice A6' ps2.length c6') := hst5.m.blk.cell 2
                    have m3 : w5.cell? ⟨ab, 3, none⟩ = some (.slice A4 N c4) := hst5.m.blk.cell 3
                    have r0 : w5.cell? ⟨rb, 0, none⟩ = some (.bool false) := hst5.rz.cell 0
                    have r1 : w5.cell? ⟨rb, 1, none⟩ = some (.slice none 0 0) := hst5.rz.cell 1
                    have r2 : w5.cell? ⟨rb, 2, none⟩ = some (.slice none 0 0) := hst5.rz.cell 2
                    have r3 : w5.cell? ⟨rb, 3, none⟩ = some (.slice none 0 0) := hst5.rz.cell 3
                    have fR := hst5.rz.free
                    clear hz hz2 HC hD kR hDR ho5 hrb5 hr5 hl2
                    go_wp2
                    refine bodyPost_ret (results_cell_one rfl _ _ rb _ _ _ _ rfl HK.out.out Try.underlying27 rfl atr_info) rfl ?_
                    exact HDR.out
                  · have hD : decS (f :: h :: b) = .bad 4 := by rw [HC.out, if_neg (fun h => hz2 h.2)]
                    obtain ⟨kR, hDR⟩ := hst5.bad hD
                    have hne : strOf (encF a) ≠ strOf (f :: h :: b) := fun e => hz2 (strOf_inj e)
                    have hnl2 : (strOf (encF a)).toList ≠ (strOf (f :: h :: b)).toList := by rw [strOf_list, strOf_list]; exact hz2
                    obtain ⟨S1, hS1⟩ : ∃ S1, S1 = strOf (encF a) := ⟨_, rfl⟩
                    obtain ⟨S2, hS2⟩ : ∃ S2, S2 = strOf (f :: h :: b) := ⟨_, rfl⟩
                    rw [← hS1, ← hS2] at hne hnl2
                    rw [← hS1] at v1
                    rw [← hS2] at v2
                    have hq3 : (S1.toList == S2.toList) = false := by simpa using hnl2
                    have hq4 : (S1.toList != S2.toList) = true := by simpa using hnl2
                    clear hS1 hS2
                    clear hz hz2 HC ho5 hrb5 hr5
                    have HK := Lib.hid kR
                    have HDR := Lib.hid hDR
                    have p0 : w5.cell? ⟨nb, 0, none⟩ = some (.bool false) := hst5.nz.cell 0
                    have p1 : w5.cell? ⟨nb, 1, none⟩ = some (.slice none 0 0) := hst5.nz.cell 1
                    have p2 : w5.cell? ⟨nb, 2, none⟩ = some (.slice none 0 0) := hst5.nz.cell 2
                    have p3 : w5.cell? ⟨nb, 3, none⟩ = some (.slice none 0 0) := hst5.nz.cell 3
                    have r0 : w5.cell? ⟨rb, 0, none⟩ = some (.bool false) := hst5.rz.cell 0
                    have r1 : w5.cell? ⟨rb, 1, none⟩ = some (.slice none 0 0) := hst5.rz.cell 1
                    have r2 : w5.cell? ⟨rb, 2, none⟩ = some (.slice none 0 0) := hst5.rz.cell 2
                    have r3 : w5.cell? ⟨rb, 3, none⟩ = some (.slice none 0 0) := hst5.rz.cell 3
                    have fR := hst5.rz.free
                    clear hD kR hDR
                    go_wp2
                    refine bodyPost_ret (results_cell_one rfl _ _ rb _ _ _ _ rfl HK.out.out Try.underlying27 rfl atr_info) rfl ?_
                    exact HDR.out
                · have hD : decS (f :: h :: b) = .bad 4 := by rw [HC.out, if_neg (fun h => hz h.1)]
                  obtain ⟨kR, hDR⟩ := hst5.bad hD
                  have hzb : (chkF a != 0) = true := by simpa using hz
                  clear hz HC HO ho5 hrb5 hr5
                  have HK := Lib.hid kR
                  have HDR := Lib.hid hDR
                  have p0 : w5.cell? ⟨nb, 0, none⟩ = some (.bool false) := hst5.nz.cell 0
                  have p1 : w5.cell? ⟨nb, 1, none⟩ = some (.slice none 0 0) := hst5.nz.cell 1
                  have p2 : w5.cell? ⟨nb, 2, none⟩ = some (.slice none 0 0) := hst5.nz.cell 2
                  have p3 : w5.cell? ⟨nb, 3, none⟩ = some (.slice none 0 0) := hst5.nz.cell 3
                  have r0 : w5.cell? ⟨rb, 0, none⟩ = some (.bool false) := hst5.rz.cell 0
                  have r1 : w5.cell? ⟨rb, 1, none⟩ = some (.slice none 0 0) := hst5.rz.cell 1
                  have r2 : w5.cell? ⟨rb, 2, none⟩ = some (.slice none 0 0) := hst5.rz.cell 2
                  have r3 : w5.cell? ⟨rb, 3, none⟩ = some (.slice none 0 0) := hst5.rz.cell 3
                  have fR := hst5.rz.free
                  clear hD kR hDR
                  go_wp2
                  refine bodyPost_ret (results_cell_one rfl _ _ rb _ _ _ _ rfl HK.out.out Try.underlying27 rfl atr_info) rfl ?_
                  exact HDR.out
              · by_cases hMl : M < b.length + 2
                · obtain ⟨x, hxd, hxc⟩ := byte_at (hr.below hst3.bel) (by omega) hMl
                  have hdr : (b.drop (m - 2)).drop (h.toNat % 16) = x :: b.drop (M + 1 - 2) := by
                    rw [List.drop_drop, ← hxd, ← HN2.out]
                    congr 1
                    have := HM.out
                    omega
                  obtain ⟨xs, hxs⟩ : ∃ xs, xs = (h :: b).take (M - 1) := ⟨_, rfl⟩
                  have hxsl : xs.length = M - 1 := by rw [hxs, List.length_take]; simp; omega
                  have hWC := wholeE_cons (f := f) (b := f :: h :: b) (bs := bs) (ps := ps) hnl hdr
                  have ex : ((f :: h :: b).drop 1).take ((f :: h :: b).length - 1 - ((b.drop (M + 1 - 2)).length + 1)) = xs := by
                    rw [hxs, List.drop_succ_cons, List.drop_zero]
                    congr 1
                    simp
                    omega
                  rw [ex] at hWC
                  have hrx : RB wc (some ⟨bb, bo + 1, none⟩) xs := by
                    have hd := (((hr.below hst3.bel).drop 1 c (by simp; omega))).take (M - 1)
                    rw [if_neg (by omega), List.drop_succ_cons, List.drop_zero, ← hxs] at hd
                    have ea : (some (⟨bb, bo, none⟩ : Addr)).map (·.add 1) = some ⟨bb, bo + 1, none⟩ := by simp [Addr.add]
                    rw [ea] at hd
                    exact hd
                  have hsum : ∀ k, Calls Try.prog 35 #[.slice (some ⟨bb, bo + 1, none⟩) (M - 1) (c - 1)] (wc.drewN k) fun e w' => e = .returned (.int .u8 ((lrc xs).toNat : Int)) ∧ w' = wc.drewN k := fun k => by
                    have z := rsum_any (some ⟨bb, bo + 1, none⟩) (c - 1) xs (wc.drewN k) (by omega) (hrx.drewN k)
                    rw [hxsl] at z
                    exact z.mono fun _ _ h => ⟨h.1, h.2.symm⟩
                  have hc1 : (1 : Int) ≤ (M : Int) := by omega
                  have hmi : ¬ ((b.length : Int) + 2 ≤ (M : Int)) := by omega
                  have hmid := decide_eq_false hmi
                  have hmi2 : (M : Int) < (b.length : Int) + 2 := by omega
                  generalize lrc xs = L at hsum hWC
                  clear hdr hxs ex hrx hxd hnl hw1 hw2
                  by_cases hLx : L = x
                  · rw [if_pos hLx] at hWC
                    have hLb : ((L.toNat : Int) != (x.toNat : Int)) = false := by rw [hLx]; simp
                    have HW : Hid (wholeS (f :: h :: b) = ⟨0, inv, bs, ps2, hs⟩) := by
                      show _ = _
                      rw [HWS.out, hWC, HI.out, ← HPS.out, ← HN2.out, ← HHS.out]
                    clear hWC hLx
                    go_upto_region 42 with fail
                    go_quiet ((go_at_call 35; exact Calls.quiet_of_same (hsum _)))
                    have hst4 := hst3.below (below_drewN (Below.refl wc.heap.size wc) nq)
                    have ho4 : (wc.drewN nq).ownsRow (ab + 1) 5 1 (.slice A4 N c4) N (bv hs) := owns_keep ho3 (fun k hk => rfl)
                    clear hsum
                    go_upto_region 44 with fail
                    clear hst3 ho3
                    generalize wc.drewN nq = W4 at hst4 ho4 ⊢
                    have hbd := whole_bd (f :: h :: b)
                    rw [HW.out] at hbd
                    have s1 : RC W4 A9 (ifv bs) := owns_rc hst4.m.own1
                    have s2 : RC W4 A6' (nv ps2) := owns_rc hst4.m.own2
                    have s3 : RB W4 A4 hs := rb_iff.2 (owns_rc ho4)
                    have hen : Calls Try.prog 18 #[.agg #[.bool inv, .slice A9 bs.length c9, .slice A6' ps2.length c6', .slice A4 N c4]] W4 fun e w' => ∃ A c, e = .returned (.tuple #[.slice A (outF ⟨inv, A9, c9, bs, A6', c6', ps2, A4, c4, hs⟩).length c, .int .i64 (chkF ⟨inv, A9, c9, bs, A6', c6', ps2, A4, c4, hs⟩)]) ∧ RB w' A (outF ⟨inv, A9, c9, bs, A6', c6', ps2, A4, c4, hs⟩) ∧ Below W4.heap.size W4 w' := by
                      have z := rencE_any ⟨inv, A9, c9, bs, A6', c6', ps2, A4, c4, hs⟩ W4 ⟨s1, s2, s3, fun x hx => by have := hbd.2.2 x hx; omega⟩ (by simp only; omega) (by simp only; omega)
                      unfold atrCs at z
                      simp only at z
                      rw [HSL.out] at z
                      exact z
                    obtain ⟨e1, e2⟩ := chkF_addr ⟨0, inv, bs, ps2, hs⟩ A9 c9 A6' c6' A4 c4
                    simp only at e1 e2
                    have HC : Hid (decS (f :: h :: b) = if chkF (⟨inv, A9, c9, bs, A6', c6', ps2, A4, c4, hs⟩ : Atr) = 0 ∧ encF (⟨inv, A9, c9, bs, A6', c6', ps2, A4, c4, hs⟩ : Atr) = f :: h :: b then ⟨0, inv, bs, ps2, hs⟩ else .bad 4) := by
                      show _ = _
                      unfold decS
                      rw [HW.out, if_pos rfl, e1, e2]
                    have HO : Hid (∀ a : Atr, chkF a = 0 → outF a = encF a) := fun a h => by unfold outF; rw [if_pos h]
                    have m0 : W4.cell? ⟨ab, 0, none⟩ = some (.bool inv) := hst4.m.blk.cell 0
                    have m1 : W4.cell? ⟨ab, 1, none⟩ = some (.slice A9 bs.length c9) := hst4.m.blk.cell 1
                    have m2 : W4.cell? ⟨ab, 2, none⟩ = some (.slice A6' ps2.length c6') := hst4.m.blk.cell 2
                    have m3 : W4.cell? ⟨ab, 3, none⟩ = some (.slice A4 N c4) := hst4.m.blk.cell 3
                    clear hbd s1 s2 s3 e1 e2 HW
                    generalize (⟨inv, A9, c9, bs, A6', c6', ps2, A4, c4, hs⟩ : Atr) = a at hen HC
                    go_wp2_with fail
                    refine hen.mono ?_
                    clear hen
                    rintro e w5 ⟨A5, c5, rfl, hr5, hb5⟩
                    have hst5 := hst4.below hb5
                    have ho5 := owns_keep ho4 (fun k hk => hb5.block k (owns_lt ho4 k hk).2)
                    have hrb5 := hr.below hst5.bel
                    clear m0 m1 m2 m3 hst4 ho4
                    by_cases hz : chkF a = 0
                    · have ho := HO.out a hz
                      rw [ho] at hr5
                      rw [ho, hz]
                      clear ho HO
                      have v1 := hr5.convert (P := Try.prog) 22 9 5 c5 Try.underlying22 Try.underlying5 Try.underlying9
                      have v2 := rb_convertN (P := Try.prog) hrb5 (b.length + 2) (by simp) 22 9 5 c Try.underlying22 Try.underlying5 Try.underlying9
                      by_cases hz2 : encF a = f :: h :: b
                      · have hD : decS (f :: h :: b) = ⟨0, inv, bs, ps2, hs⟩ := by rw [HC.out, if_pos ⟨hz, hz2⟩]
                        rw [hz2] at v1
                        rw [hz2]
                        obtain ⟨kR, hDR⟩ := Rn.done HSL.out hst5 ho5 hD
                        have HK := Lib.hid kR
                        have HDR := Lib.hid hDR
                        have hl2 : (f :: h :: b).length = b.length + 2 := by simp
                        rw [hl2] at v1
                        rw [hl2]
                        generalize strOf (f :: h :: b) = S at v1 v2
                        have m0 : w5.cell? ⟨ab, 0, none⟩ = some (.bool inv) := hst5.m.blk.cell 0
                        have m1 : w5.cell? ⟨ab, 1, none⟩ = some (.slice A9 bs.length c9) := hst5.m.blk.cell 1
                        have m2 : w5.cell? ⟨ab, 2, none⟩ = some (.slice A6' ps2.length c6') := hst5.m.blk.cell 2
                        have m3 : w5.cell? ⟨ab, 3, none⟩ = some (.slice A4 N c4) := hst5.m.blk.cell 3
                        have r0 : w5.cell? ⟨rb, 0, none⟩ = some (.bool false) := hst5.rz.cell 0
                        have r1 : w5.cell? ⟨rb, 1, none⟩ = some (.slice none 0 0) := hst5.rz.cell 1
                        have r2 : w5.cell? ⟨rb, 2, none⟩ = some (.slice none 0 0) := hst5.rz.cell 2
                        have r3 : w5.cell? ⟨rb, 3, none⟩ = some (.slice none 0 0) := hst5.rz.cell 3
                        have fR := hst5.rz.free
                        clear hz hz2 HC hD kR hDR ho5 hrb5 hr5 hl2
                        go_wp2
                        refine bodyPost_ret (results_cell_one rfl _ _ rb _ _ _ _ rfl HK.out.out Try.underlying27 rfl atr_info) rfl ?_
                        exact HDR.out
                      · have hD : decS (f :: h :: b) = .bad 4 := by rw [HC.out, if_neg (fun h => hz2 h.2)]
                        obtain ⟨kR, hDR⟩ := hst5.bad hD
                        have hne : strOf (encF a) ≠ strOf (f :: h :: b) := fun e => hz2 (strOf_inj e)
                        have hnl2 : (strOf (encF a)).toList ≠ (strOf (f :: h :: b)).toList := by rw [strOf_list, strOf_list]; exact hz2
                        obtain ⟨S1, hS1⟩ : ∃ S1, S1 = strOf (encF a) := ⟨_, rfl⟩
                        obtain ⟨S2, hS2⟩ : ∃ S2, S2 = strOf (f :: h :: b) := ⟨_, rfl⟩
                        rw [← hS1, ← hS2] at hne hnl2
                        rw [← hS1] at v1
                        rw [← hS2] at v2
                        have hq3 : (S1.toList == S2.toList) = false := by simpa using hnl2
                        have hq4 : (S1.toList != S2.toList) = true := by simpa using hnl2
                        clear hS1 hS2
                        clear hz hz2 HC ho5 hrb5 hr5
                        have HK := Lib.hid kR
                        have HDR := Lib.hid hDR
                        have p0 : w5.cell? ⟨nb, 0, none⟩ = some (.bool false) := hst5.nz.cell 0
                        have p1 : w5.cell? ⟨nb, 1, none⟩ = some (.slice none 0 0) := hst5.nz.cell 1
                        have p2 : w5.cell? ⟨nb, 2, none⟩ = some (.slice none 0 0) := hst5.nz.cell 2
                        have p3 : w5.cell? ⟨nb, 3, none⟩ = some (.slice none 0 0) := hst5.nz.cell 3
                        have r0 : w5.cell? ⟨rb, 0, none⟩ = some (.bool false) := hst5.rz.cell 0
                        have r1 : w5.cell? ⟨rb, 1, none⟩ = some (.slice none 0 0) := hst5.rz.cell 1
                        have r2 : w5.cell? ⟨rb, 2, none⟩ = some (.slice none 0 0) := hst5.rz.cell 2
                        have r3 : w5.cell? ⟨rb, 3, none⟩ = some (.slice none 0 0) := hst5.rz.cell 3
                        have fR := hst5.rz.free
                        clear hD kR hDR
                        go_wp2
                        refine bodyPost_ret (results_cell_one rfl _ _ rb _ _ _ _ rfl HK.out.out Try.underlying27 rfl atr_info) rfl ?_
                        exact HDR.out
                    · have hD : decS (f :: h :: b) = .bad 4 := by rw [HC.out, if_neg (fun h => hz h.1)]
                      obtain ⟨kR, hDR⟩ := hst5.bad hD
                      have hzb : (chkF a != 0) = true := by simpa using hz
                      clear hz HC HO ho5 hrb5 hr5
                      have HK := Lib.hid kR
                      have HDR := Lib.hid hDR
                      have p0 : w5.cell? ⟨nb, 0, none⟩ = some (.bool false) := hst5.nz.cell 0
                      have p1 : w5.cell? ⟨nb, 1, none⟩ = some (.slice none 0 0) := hst5.nz.cell 1
                      have p2 : w5.cell? ⟨nb, 2, none⟩ = some (.slice none 0 0) := hst5.nz.cell 2
                      have p3 : w5.cell? ⟨nb, 3, none⟩ = some (.slice none 0 0) := hst5.nz.cell 3
                      have r0 : w5.cell? ⟨rb, 0, none⟩ = some (.bool false) := hst5.rz.cell 0
                      have r1 : w5.cell? ⟨rb, 1, none⟩ = some (.slice none 0 0) := hst5.rz.cell 1
                      have r2 : w5.cell? ⟨rb, 2, none⟩ = some (.slice none 0 0) := hst5.rz.cell 2
                      have r3 : w5.cell? ⟨rb, 3, none⟩ = some (.slice none 0 0) := hst5.rz.cell 3
                      have fR := hst5.rz.free
                      clear hD kR hDR
                      go_wp2
                      refine bodyPost_ret (results_cell_one rfl _ _ rb _ _ _ _ rfl HK.out.out Try.underlying27 rfl atr_info) rfl ?_
                      exact HDR.out
                  · rw [if_neg hLx] at hWC
                    have hLb : ((L.toNat : Int) != (x.toNat : Int)) = true := by
                      have : L.toNat ≠ x.toNat := fun e => hLx (UInt8.toNat_inj.1 e)
                      simp
                      omega
                    have HW : Hid (wholeS (f :: h :: b) = .bad 6) := by
                      show _ = _
                      rw [HWS.out, hWC]
                    clear hWC hLx
                    go_upto_region 42 with fail
                    go_quiet ((go_at_call 35; exact Calls.quiet_of_same (hsum _)))
                    have hst4 := hst3.below (below_drewN (Below.refl wc.heap.size wc) nq)
                    clear hsum
                    have hD : decS (f :: h :: b) = .bad 6 := decS_of HW.out (by decide)
                    go_upto_region 43 with fail
                    generalize wc.drewN nq = W4 at hst4 ⊢
                    obtain ⟨kR, hDR⟩ := hst4.bad hD
                    have HK := Lib.hid kR
                    have HDR := Lib.hid hDR
                    have p0 : W4.cell? ⟨nb, 0, none⟩ = some (.bool false) := hst4.nz.cell 0
                    have p1 : W4.cell? ⟨nb, 1, none⟩ = some (.slice none 0 0) := hst4.nz.cell 1
                    have p2 : W4.cell? ⟨nb, 2, none⟩ = some (.slice none 0 0) := hst4.nz.cell 2
                    have p3 : W4.cell? ⟨nb, 3, none⟩ = some (.slice none 0 0) := hst4.nz.cell 3
                    have r0 : W4.cell? ⟨rb, 0, none⟩ = some (.bool false) := hst4.rz.cell 0
                    have r1 : W4.cell? ⟨rb, 1, none⟩ = some (.slice none 0 0) := hst4.rz.cell 1
                    have r2 : W4.cell? ⟨rb, 2, none⟩ = some (.slice none 0 0) := hst4.rz.cell 2
                    have r3 : W4.cell? ⟨rb, 3, none⟩ = some (.slice none 0 0) := hst4.rz.cell 3
                    have fR := hst4.rz.free
                    clear hD kR hDR
                    go_wp2
                    refine bodyPost_ret (results_cell_one rfl _ _ rb _ _ _ _ rfl HK.out.out Try.underlying27 rfl atr_info) rfl ?_
                    exact HDR.out
                · have hnil : (b.drop (m - 2)).drop (h.toNat % 16) = [] := by
                    rw [List.drop_drop]
                    refine List.drop_eq_nil_of_le ?_
                    have := HM.out
                    rw [← HN2.out]
                    omega
                  have hD : decS (f :: h :: b) = .bad 5 := by
                    refine decS_of ?_ (by decide)
                    rw [HWS.out]
                    exact wholeE_nil hnl hnil
                  obtain ⟨kR, hDR⟩ := hst3.bad hD
                  have hmi : (b.length : Int) + 2 ≤ (M : Int) := by omega
                  clear hnil hnl hw1 hw2
                  have HK := Lib.hid kR
                  have HDR := Lib.hid hDR
                  have p0 : wc.cell? ⟨nb, 0, none⟩ = some (.bool false) := hst3.nz.cell 0
                  have p1 : wc.cell? ⟨nb, 1, none⟩ = some (.slice none 0 0) := hst3.nz.cell 1
                  have p2 : wc.cell? ⟨nb, 2, none⟩ = some (.slice none 0 0) := hst3.nz.cell 2
                  have p3 : wc.cell? ⟨nb, 3, none⟩ = some (.slice none 0 0) := hst3.nz.cell 3
                  have r0 : wc.cell? ⟨rb, 0, none⟩ = some (.bool false) := hst3.rz.cell 0
                  have r1 : wc.cell? ⟨rb, 1, none⟩ = some (.slice none 0 0) := hst3.rz.cell 1
                  have r2 : wc.cell? ⟨rb, 2, none⟩ = some (.slice none 0 0) := hst3.rz.cell 2
                  have r3 : wc.cell? ⟨rb, 3, none⟩ = some (.slice none 0 0) := hst3.rz.cell 3
                  have fR := hst3.rz.free
                  clear hD kR hDR
                  go_wp2
                  refine bodyPost_ret (results_cell_one rfl _ _ rb _ _ _ _ rfl HK.out.out Try.underlying27 rfl atr_info) rfl ?_
                  exact HDR.out
end Go.Proofs.Ytkhobpghiachoaa
