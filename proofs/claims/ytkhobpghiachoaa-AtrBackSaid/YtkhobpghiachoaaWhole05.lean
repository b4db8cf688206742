/-
  Reading an answer to reset: the program's walk.
-/
import Derived.Test.YtkhobpghiachoaaWholeA05
namespace Go.Proofs.Ytkhobpghiachoaa
open Go.RowKit Crc
set_option linter.unusedVariables false

theorem wb_15 : ∀ t : Fin 256, bits BinOp.and IntKind.i64 (t.val : Int) 15 = (t.val : Int) % 16 := by decide +kernel
theorem wrap_i : ∀ t : Fin 256, IntKind.i64.wrap (t.val : Int) = (t.val : Int) := by decide +kernel
theorem wrap_u (l : UInt8) : IntKind.i64.wrap (l.toNat : Int) = (l.toNat : Int) := wrap_i ⟨l.toNat, l.toNat_lt⟩
theorem wholeS_none {f h : UInt8} {b : List UInt8} (hl : b.length ≤ 31) (hf : f = 59 ∨ f = 63) (hr : rdA 40 1 h.toNat 0 [] [] false b = none) : wholeS (f :: h :: b) = .bad 5 := by
  unfold wholeS
  rw [if_neg (by simp; omega)]
  simp only
  rw [if_pos hf, hr]
theorem wholeS_some {f h : UInt8} {b : List UInt8} (hl : b.length ≤ 31) (hf : f = 59 ∨ f = 63) {G : Grps} (hr : rdA 40 1 h.toNat 0 [] [] false b = some G) : wholeS (f :: h :: b) = wholeE f h (f :: h :: b) G := by
  unfold wholeS
  rw [if_neg (by simp; omega)]
  simp only
  rw [if_pos hf, hr]
theorem rdA_none {f : Nat} {g prot : Int} {t : Nat} {bs : List If} {ps : List Int} {sm : Bool} {r : List UInt8} (h : rdG g prot t [0, 1, 2] bs r = none) : rdA (f + 1) g t prot bs ps sm r = none := by
  unfold rdA
  rw [h]
theorem rdA_last {f : Nat} {g prot : Int} {t : Nat} {bs bs' : List If} {ps : List Int} {sm : Bool} {r r' : List UInt8} (h : rdG g prot t [0, 1, 2] bs r = some (bs', r')) (ht : t < 128) : rdA (f + 1) g t prot bs ps sm r = some ⟨bs', ps, sm, r'⟩ := by
  unfold rdA
  rw [h]
  simp only
  rw [if_pos ht]
theorem rdA_short {f : Nat} {g prot : Int} {t : Nat} {bs bs' : List If} {ps : List Int} {sm : Bool} {r : List UInt8} (h : rdG g prot t [0, 1, 2] bs r = some (bs', [])) (ht : ¬ t < 128) : rdA (f + 1) g t prot bs ps sm r = none := by
  unfold rdA
  rw [h]
  simp only
  rw [if_neg ht]
theorem rdA_more {f : Nat} {g prot : Int} {t : Nat} {bs bs' : List If} {ps : List Int} {sm : Bool} {r r' : List UInt8} {td : UInt8} (h : rdG g prot t [0, 1, 2] bs r = some (bs', td :: r')) (ht : ¬ t < 128) :
    rdA (f + 1) g t prot bs ps sm r = rdA f (g + 1) td.toNat ((td.toNat : Int) % 16) bs' (if (td.toNat : Int) % 16 ∈ ps then ps else ps ++ [(td.toNat : Int) % 16]) (sm || decide ((td.toNat : Int) % 16 ≠ 0)) r' := by
  conv => lhs; unfold rdA
  rw [h]
  simp only
  rw [if_neg ht]
theorem wholeE_nil {f h : UInt8} {b : List UInt8} {bs : List If} {ps : List Int} {r : List UInt8} (hlt : ¬ r.length < h.toNat % 16) (hd : r.drop (h.toNat % 16) = []) : wholeE f h b ⟨bs, ps, true, r⟩ = .bad 5 := by
  unfold wholeE
  simp only
  rw [if_neg hlt, hd]
  simp
theorem wholeE_cons {f h : UInt8} {b : List UInt8} {bs : List If} {ps : List Int} {r r3 : List UInt8} {x : UInt8} (hlt : ¬ r.length < h.toNat % 16) (hd : r.drop (h.toNat % 16) = x :: r3) :
    wholeE f h b ⟨bs, ps, true, r⟩ = if lrc ((b.drop 1).take (b.length - 1 - (r3.length + 1))) = x then ⟨0, decide (f = 63), bs, if ps = [] then [0] else ps, r.take (h.toNat % 16)⟩ else .bad 6 := by
  unfold wholeE
  simp only
  rw [if_neg hlt, hd]
  simp

set_option maxRecDepth 100000 in
set_option maxHeartbeats 8000000 in
theorem whole_f (rdb B : Nat) (A : Option Addr) (c : Nat) (f h : UInt8) (b : List UInt8) (w : World) (hrd : Rdr w rdb A c (f :: h :: b)) (hB : B ≤ rdb) (ha : ∀ z, A.map (·.block) = some z → z < B) (hl : b.length ≤ 31) (hc : c ≤ c)
    (q59 : ((f.toNat : Int) != 59) = false) (q63 : ((f.toNat : Int) == 63) = false) (HF : Hid (f = 59 ∨ f = 63)) (HI : Hid (decide (f = 63) = false)) :
    Calls Try.prog 32 #[.pointer (some ⟨rdb, 0, none⟩), .slice A (b.length + 2) c] w (WRes (f :: h :: b) B w) := by
  have hsz := hrd.blk.size
  have hb0 := (Below.refl w.heap.size w).alloc (Nat.le_refl _) (.cells #[.bool false, .slice none 0 0, .slice none 0 0, .slice none 0 0] 27)
  have hrd0 := hrd.below hb0
  have hk0 := Blk.made w 27 #[.bool false, .slice none 0 0, .slice none 0 0, .slice none 0 0]
  have hx : ¬ ((33 : Int) < ((b.length + 2 : Nat) : Int)) := by omega
  have HN : Hid (rdA 40 1 h.toNat 0 [] [] false b = none → wholeS (f :: h :: b) = .bad 5) := wholeS_none hl HF.out
  have HS : Hid (∀ G, rdA 40 1 h.toNat 0 [] [] false b = some G → wholeS (f :: h :: b) = wholeE f h (f :: h :: b) G) := fun G hG => wholeS_some hl HF.out hG
  have hrbb := hrd.rb
  have hcb := hrd.cap
  go_enter Try.func32, Try.ntmps32
  go_wp2_with fail
  refine (number_ok hrd0 (by simp; omega) hc).mono ?_
  rintro e w1 ⟨rfl, A1, c1, hc1, hr1, hw1, hA1⟩
  have hs1 : w1.heap.size = w.heap.size + 1 := by rw [hw1]; simp
  have hk1 : Blk w1 w.heap.size 27 #[.bool false, .slice none 0 0, .slice none 0 0, .slice none 0 0] := by
    rw [hw1]
    exact hk0.other (by simp; omega) _
  have hb1 : Below B w w1 := by
    rw [hw1]
    exact (hb0.mono (by omega)).setCell (p := ⟨rdb, 0, none⟩) hB _
  clear hw1 hb0 hrd0 hk0
  have Hs1 := Lib.hid hs1
  have hst : Sta (w1.alloc (.cells #[.bool false, .slice none 0 0, .slice none 0 0, .slice none 0 0] 27)) B rdb w1.heap.size (w1.heap.size + 1) false (.slice none 0 0) (.slice none 0 0) (.slice none 0 0) [] [] A1 c1 (h :: b) := by
    have hba := (Below.refl w1.heap.size w1).alloc (Nat.le_refl _) (.cells #[.bool false, .slice none 0 0, .slice none 0 0, .slice none 0 0] 27)
    exact ⟨⟨Blk.made w1 _ _, World.ownsRow_nil _ _ _ _, World.ownsRow_nil _ _ _ _, (fun k hk => by cases hk), by omega⟩, hr1.below hba, (fun z hz => ha z (by rw [← hA1]; exact hz)), hB, by omega, by omega, by omega, by omega⟩
  have hb2 : Below B w (w1.alloc (.cells #[.bool false, .slice none 0 0, .slice none 0 0, .slice none 0 0] 27)) := hb1.alloc (by omega) _
  have hk2 := hk1.below ((Below.refl w1.heap.size w1).alloc (Nat.le_refl _) (.cells #[.bool false, .slice none 0 0, .slice none 0 0, .slice none 0 0] 27)) (by omega)
  have hbz2 : w1.heap.size + 1 ≤ (w1.alloc (.cells #[.bool false, .slice none 0 0, .slice none 0 0, .slice none 0 0] 27)).heap.size := by simp
  clear hs1
  go_wp2_with fail
  refine (number_ok hst.rd (by omega) hst.cap).mono ?_
  rintro e w3 ⟨rfl, A3, c3, hc3, hr3, hw3, hA3⟩
  obtain ⟨hst3, hb3⟩ := hst.number hc3 hr3 hw3 hA3
  have hk3 : Blk w3 w.heap.size 27 #[.bool false, .slice none 0 0, .slice none 0 0, .slice none 0 0] := by
    rw [hw3]
    exact hk2.other (by simp; omega) _
  have hbz3 : w1.heap.size + 1 ≤ w3.heap.size := by rw [hw3]; simp
  have hbw3 := hb2.trans hb3
  obtain ⟨ab, hab⟩ : ∃ ab, ab = w1.heap.size := ⟨_, rfl⟩
  rw [← hab] at hst3 hbz3 ⊢
  have Hab : Hid (ab = w.heap.size + 1) := by show _ = _; rw [hab]; exact Hs1.out
  clear hw3 hst hk1 hk2 hr1 hb1 hb2 hb3 hr3 hA3 hbz2 hab Hs1
  go_wp2
  go_loopw [8, 9, 10, 11] (fun s n p i wx => ∃ (q t : Nat) (prot : Int) (sm : Bool) (v1 v2 : Value) (bs : List If) (ps : List Int) (A' : Option Addr) (c' : Nat) (r : List UInt8), s = .bool sm ∧ n = .int .i64 (t : Int) ∧ p = .int .i64 prot ∧ i = .int .i64 ((q : Int) + 1) ∧ q + bs.length + r.length ≤ b.length ∧ t < 256 ∧ ps.length ≤ q ∧ (Hid (ps = [] → sm = false)) ∧
      Sta wx B rdb ab (ab + 1) false v1 v2 (.slice none 0 0) bs ps A' c' r ∧ Hid (rdA (40 - q) ((q : Int) + 1) t prot bs ps sm r = rdA 40 1 h.toNat 0 [] [] false b) ∧ Below B w wx ∧ ab + 1 ≤ wx.heap.size ∧ Blk wx w.heap.size 27 #[.bool false, .slice none 0 0, .slice none 0 0, .slice none 0 0]) (fun _ _ _ i _ => 40 - (intOf i).toNat)
  case atStart => exact ⟨0, h.toNat, 0, false, _, _, [], [], A3, c3, b, rfl, rfl, rfl, rfl, by simp, h.toNat_lt, by simp, fun _ => rfl, hst3, rfl, hbw3, hbz3, hk3⟩
  case round =>
    obtain ⟨q, t, prot, sm, u1, u2, bs, ps, A', c', r, rfl, rfl, rfl, rfl, hq, ht, hps, HSM, hst, HR, hbr, hbz, hkr⟩ := hrel
    clear hst3 hbw3 hbz3 hk3
    have HQ : Hid (40 - q = (39 - q) + 1) := by show _ = _; omega
    go_wp2_with fail
    refine (group_go rdb ab (ab + 1) B ((q : Int) + 1) prot t ht false u1 u2 (.slice none 0 0) bs ps A' c' r _ hst (by omega) (by omega) hbz).mono ?_
    clear hst
    rintro e w4 ⟨hb4, hkp4, hbz4, ⟨hn, rfl⟩ | ⟨bs', r', hs, hcase⟩⟩
    · have HZ : Hid (WRes (f :: h :: b) B w (badP 5) w4) := WRes.no (HN.out (by rw [← HR.out, HQ.out]; exact rdA_none hn)) (by decide) (hbr.trans hb4)
      refine ⟨rfl, ?_⟩
      exact HZ.out
    · have hk4 : Blk w4 w.heap.size 27 #[.bool false, .slice none 0 0, .slice none 0 0, .slice none 0 0] := (hkp4 _ (by have := Hab.out; omega) (by omega) (by have := Hab.out; omega)).trans hkr
      have hb5 := hbr.trans hb4
      obtain ⟨pp, hr1, hr2⟩ := rdG_suffix _ _ _ _ _ hs
      have hr3 : r.length = pp.length + r'.length := by rw [hr1, List.length_append]
      have hq' : q + bs'.length + r'.length ≤ b.length := by omega
      clear hr1 hr2 hr3 hkr hbr hb4 hkp4
      rcases hcase with ⟨h8, rfl, v1', A5, c5, hst5⟩ | ⟨h8, rfl, rfl⟩ | ⟨h8, td, r2, v1', A5, c5, rfl, rfl, hst5⟩
      · have HG : Hid (wholeS (f :: h :: b) = wholeE f h (f :: h :: b) ⟨bs', ps, sm, r'⟩) := HS.out _ (by rw [← HR.out, HQ.out]; exact rdA_last hs h8)
        clear hs HR HN HS
        obtain ⟨N, hN⟩ : ∃ N, N = h.toNat % 16 := ⟨_, rfl⟩
        have hm15 : bits BinOp.and IntKind.i64 (h.toNat : Int) 15 = (N : Int) := by
          have z := wb_15 ⟨h.toNat, h.toNat_lt⟩
          simp only at z
          rw [z]
          omega
        have hN16 : N < 16 := by omega
        have HN2 := Lib.hid hN
        clear hN
        obtain ⟨A6, c6, rfl, hc6, hr6⟩ := owns_reads hst5.m.own2
        obtain ⟨A9, c9, rfl, hc9, hr9⟩ := owns_reads hst5.m.own1
        have x2 : w4.cell? ⟨ab, 2, none⟩ = some (.slice A6 ps.length c6) := hst5.m.blk.cell 2
        by_cases hp : ps = []
        · have hsm := HSM.out hp
          subst hsm
          subst hp
          have hba7 := hst5.below ((Below.refl w4.heap.size w4).alloc (Nat.le_refl _) (.cells #[.int .i64 0] 3))
          have y2 : (w4.alloc (.cells #[.int .i64 0] 3)).cell? ⟨ab, 2, none⟩ = some (.slice A6 0 c6) := hba7.m.blk.cell 2
          have f2 := hba7.m.blk.free 2
          clear hba7
          obtain ⟨hS, hbS⟩ := hst5.single hbz4
          have hkS := (hk4.alloc (.cells #[.int .i64 0] 3)).other (p := ⟨ab, 2, none⟩) (by have := Hab.out; simp; omega) (.slice (some ⟨w4.heap.size, 0, none⟩) 1 1)
          have hbzS : ab + 1 ≤ ((w4.alloc (.cells #[.int .i64 0] 3)).setCell ⟨ab, 2, none⟩ (.slice (some ⟨w4.heap.size, 0, none⟩) 1 1)).heap.size := by simp; omega
          have hb6 := hb5.trans hbS
          have hlo : ¬ (w4.heap.size = ab) := by omega
          go_upto_region 20 with fail
          clear x2 y2 f2 hst5 hk4 hb5 hr6 hbS
          generalize (w4.alloc (.cells #[.int .i64 0] 3)).setCell ⟨ab, 2, none⟩ (.slice (some ⟨w4.heap.size, 0, none⟩) 1 1) = w5 at hS hkS hbzS hb6 ⊢
          by_cases hlt : r'.length < N
          · have HZ : Hid (WRes (f :: h :: b) B w (badP 5) w5) := WRes.no (by rw [HG.out]; unfold wholeE; rw [if_pos (by rw [← HN2.out]; exact hlt)]) (by decide) hb6
            go_wp2_with fail
            refine (take_bad hS.rd N hlt (by omega)).mono ?_
            rintro e w7 ⟨rfl, rfl⟩
            refine ⟨rfl, ?_⟩
            exact HZ.out
          · have hle : N ≤ r'.length := by omega
            obtain ⟨hS7, hb7⟩ := hS.take N hle
            have hrt := (hS.rd.rb.take N).belowB hS.a hb7
            have hk7 := hkS.other (p := ⟨rdb, 0, none⟩) (by simp; omega) (.slice (if c5 = N then A5 else A5.map (·.add N)) (r'.length - N) (c5 - N))
            have hbz7 : ab + 1 ≤ (w5.setCell ⟨rdb, 0, none⟩ (.slice (if c5 = N then A5 else A5.map (·.add N)) (r'.length - N) (c5 - N))).heap.size := by simp; exact hbzS
            have htl : (r'.take N).length = N := by simp; omega
            have hq := cloneB_any A5 c5 (r'.take N) _ (by omega) hrt
            rw [htl] at hq
            have hb8 := hb6.trans hb7
            clear hb7 hrt
            have hq0 := take_ok hS.rd N hle (by omega) hS.cap
            obtain ⟨A7, hA7⟩ : ∃ A7, A7 = (if c5 = N then A5 else A5.map (·.add N)) := ⟨_, rfl⟩
            obtain ⟨w7, hw7⟩ : ∃ w7, w7 = w5.setCell ⟨rdb, 0, none⟩ (.slice (if c5 = N then A5 else A5.map (·.add N)) (r'.length - N) (c5 - N)) := ⟨_, rfl⟩
            rw [← hw7] at hq0 hq hk7 hbz7 hS7 hb8
            rw [← hA7] at hS7
            clear hw7 hA7 hS hkS hbzS hb6
            go_wp2_with fail
            refine hq0.mono ?_
            rintro e w7 ⟨rfl, rfl⟩
            go_wp2_with fail
            refine hq.mono ?_
            clear hq hq0
            rintro e w8 ⟨v8, rfl, ho8, hb9⟩
            have hS8 := hS7.below hb9
            have hk8 := hk7.below hb9 hk7.size
            have hbz8 := Nat.le_trans hbz7 hb9.size
            have hb10 := hb8.trans (hb9.mono (Nat.le_trans hS7.base_le hbz7))
            obtain ⟨A8, c8, rfl, hc8, hr8⟩ := owns_reads ho8
            obtain ⟨hS9, hb11⟩ := hS8.put3 (.slice A8 N c8)
            have hk9 := hk8.other (p := ⟨ab, 3, none⟩) (by have := Hab.out; simp; omega) (.slice A8 N c8)
            have hb12 := hb10.trans hb11
            have ho9 : (w8.setCell ⟨ab, 3, none⟩ (.slice A8 N c8)).ownsRow w7.heap.size 5 1 (.slice A8 N c8) N (bv (r'.take N)) := owns_keep ho8 (fun k hk => Below.heap_setCell _ _ _ _ (by have := (owns_lt ho8 k hk).1; simp; omega))
            have y3 : w8.cell? ⟨ab, 3, none⟩ = some (.slice none 0 0) := hS8.m.blk.cell 3
            have f3 := hS8.m.blk.free 3
            have y0 : w8.cell? ⟨ab, 0, none⟩ = some (.bool false) := hS8.m.blk.cell 0
            have y1 := hS8.m.blk.cell 1
            have y2 := hS8.m.blk.cell 2
            have n1 : ¬ (w.heap.size = ab) := by have := Hab.out; omega
            have n2 : ¬ (ab = w.heap.size) := fun e => n1 e.symm
            have d0 : w8.cell? ⟨w.heap.size, 0, none⟩ = some (.bool false) := hk8.cell 0
            have d1 : w8.cell? ⟨w.heap.size, 1, none⟩ = some (.slice none 0 0) := hk8.cell 1
            have d2 : w8.cell? ⟨w.heap.size, 2, none⟩ = some (.slice none 0 0) := hk8.cell 2
            have d3 : w8.cell? ⟨w.heap.size, 3, none⟩ = some (.slice none 0 0) := hk8.cell 3
            have e0 := hk8.free 0
            have e1 := hk8.free 1
            have e2 := hk8.free 2
            have e3 := hk8.free 3
            simp only [List.getElem?_toArray, List.getElem?_cons_succ, List.getElem?_cons_zero] at y1 y2
            clear hb8 hb9 hb10 hb11 hS8 hk8 hk7 hS7 hr8
            go_wp2
            have kR := (((hk9.put 0 (.bool false)).put 1 (.slice A9 bs'.length c9)).put 2 (.slice (some ⟨w4.heap.size, 0, none⟩) 1 1)).put 3 (.slice A8 N c8)
            refine bodyPost_ret (results_c1 rfl _ _ w.heap.size _ _ _ _ rfl kR.out Try.underlying27 rfl atr_info) rfl ?_
            refine WRes.ret (bs := bs') (ps := [0]) ?_ hS9 ho9 htl hb12 (by have := Hab.out; omega) (by have := Hab.out; omega) (by omega) _ _ _ _
            rw [HG.out]
            unfold wholeE
            rw [if_neg (by rw [← HN2.out]; exact hlt), if_neg (by simp), HI.out, ← HN2.out]
            simp
        · have hS := hst5
          have hbzS := hbz4
          have hkS := hk4
          have hb6 := hb5
          have hn0 : ¬ ps.length = 0 := fun e => hp (List.length_eq_zero_iff.1 e)
          go_upto_region 20 with fail
          clear x2 hst5 hk4 hb5
          rcases sm with _ | _
          · by_cases hlt : r'.length < N
            · have HZ : Hid (WRes (f :: h :: b) B w (badP 5) w4) := WRes.no (by rw [HG.out]; unfold wholeE; rw [if_pos (by rw [← HN2.out]; exact hlt)]) (by decide) hb6
              go_wp2_with fail
              refine (take_bad hS.rd N hlt (by omega)).mono ?_
              rintro e w7 ⟨rfl, rfl⟩
              refine ⟨rfl, ?_⟩
              exact HZ.out
            · have hle : N ≤ r'.length := by omega
              obtain ⟨hS7, hb7⟩ := hS.take N hle
              have hrt := (hS.rd.rb.take N).belowB hS.a hb7
              have hk7 := hkS.other (p := ⟨rdb, 0, none⟩) (by simp; omega) (.slice (if c5 = N then A5 else A5.map (·.add N)) (r'.length - N) (c5 - N))
              have hbz7 : ab + 1 ≤ (w4.setCell ⟨rdb, 0, none⟩ (.slice (if c5 = N then A5 else A5.map (·.add N)) (r'.length - N) (c5 - N))).heap.size := by simp; exact hbzS
              have htl : (r'.take N).length = N := by simp; omega
              have hq := cloneB_any A5 c5 (r'.take N) _ (by omega) hrt
              rw [htl] at hq
              have hb8 := hb6.trans hb7
              clear hb7 hrt
              have hq0 := take_ok hS.rd N hle (by omega) hS.cap
              obtain ⟨A7, hA7⟩ : ∃ A7, A7 = (if c5 = N then A5 else A5.map (·.add N)) := ⟨_, rfl⟩
              obtain ⟨w7, hw7⟩ : ∃ w7, w7 = w4.setCell ⟨rdb, 0, none⟩ (.slice (if c5 = N then A5 else A5.map (·.add N)) (r'.length - N) (c5 - N)) := ⟨_, rfl⟩
              rw [← hw7] at hq0 hq hk7 hbz7 hS7 hb8
              rw [← hA7] at hS7
              clear hw7 hA7 hS hkS hbzS hb6
              go_wp2_with fail
              refine hq0.mono ?_
              rintro e w7 ⟨rfl, rfl⟩
              go_wp2_with fail
              refine hq.mono ?_
              clear hq hq0
              rintro e w8 ⟨v8, rfl, ho8, hb9⟩
              have hS8 := hS7.below hb9
              have hk8 := hk7.below hb9 hk7.size
              have hbz8 := Nat.le_trans hbz7 hb9.size
              have hb10 := hb8.trans (hb9.mono (Nat.le_trans hS7.base_le hbz7))
              obtain ⟨A8, c8, rfl, hc8, hr8⟩ := owns_reads ho8
              obtain ⟨hS9, hb11⟩ := hS8.put3 (.slice A8 N c8)
              have hk9 := hk8.other (p := ⟨ab, 3, none⟩) (by have := Hab.out; simp; omega) (.slice A8 N c8)
              have hb12 := hb10.trans hb11
              have ho9 : (w8.setCell ⟨ab, 3, none⟩ (.slice A8 N c8)).ownsRow w7.heap.size 5 1 (.slice A8 N c8) N (bv (r'.take N)) := owns_keep ho8 (fun k hk => Below.heap_setCell _ _ _ _ (by have := (owns_lt ho8 k hk).1; simp; omega))
              have y3 : w8.cell? ⟨ab, 3, none⟩ = some (.slice none 0 0) := hS8.m.blk.cell 3
              have f3 := hS8.m.blk.free 3
              have y0 : w8.cell? ⟨ab, 0, none⟩ = some (.bool false) := hS8.m.blk.cell 0
              have y1 := hS8.m.blk.cell 1
              have y2 := hS8.m.blk.cell 2
              have n1 : ¬ (w.heap.size = ab) := by have := Hab.out; omega
              have n2 : ¬ (ab = w.heap.size) := fun e => n1 e.symm
              have d0 : w8.cell? ⟨w.heap.size, 0, none⟩ = some (.bool false) := hk8.cell 0
              have d1 : w8.cell? ⟨w.heap.size, 1, none⟩ = some (.slice none 0 0) := hk8.cell 1
              have d2 : w8.cell? ⟨w.heap.size, 2, none⟩ = some (.slice none 0 0) := hk8.cell 2
              have d3 : w8.cell? ⟨w.heap.size, 3, none⟩ = some (.slice none 0 0) := hk8.cell 3
              have e0 := hk8.free 0
              have e1 := hk8.free 1
              have e2 := hk8.free 2
              have e3 := hk8.free 3
              simp only [List.getElem?_toArray, List.getElem?_cons_succ, List.getElem?_cons_zero] at y1 y2
              clear hb8 hb9 hb10 hb11 hS8 hk8 hk7 hS7 hr8
              go_wp2
              have kR := (((hk9.put 0 (.bool false)).put 1 (.slice A9 bs'.length c9)).put 2 (.slice A6 ps.length c6)).put 3 (.slice A8 N c8)
              refine bodyPost_ret (results_c1 rfl _ _ w.heap.size _ _ _ _ rfl kR.out Try.underlying27 rfl atr_info) rfl ?_
              refine WRes.ret (bs := bs') (ps := ps) ?_ hS9 ho9 htl hb12 (by have := Hab.out; omega) (by have := Hab.out; omega) (by omega) _ _ _ _
              rw [HG.out]
              unfold wholeE
              rw [if_neg (by rw [← HN2.out]; exact hlt), if_neg (by simp), HI.out, ← HN2.out]
              simp [hp]
          · by_cases hlt : r'.length < N
            · have HZ : Hid (WRes (f :: h :: b) B w (badP 5) w4) := WRes.no (by rw [HG.out]; unfold wholeE; rw [if_pos (by rw [← HN2.out]; exact hlt)]) (by decide) hb6
              go_wp2_with fail
              refine (take_bad hS.rd N hlt (by omega)).mono ?_
              rintro e w7 ⟨rfl, rfl⟩
              refine ⟨rfl, ?_⟩
              exact HZ.out
            · have hle : N ≤ r'.length := by omega
              obtain ⟨hS7, hb7⟩ := hS.take N hle
              have hrt := (hS.rd.rb.take N).belowB hS.a hb7
              have hk7 := hkS.other (p := ⟨rdb, 0, none⟩) (by simp; omega) (.slice (if c5 = N then A5 else A5.map (·.add N)) (r'.length - N) (c5 - N))
              have hbz7 : ab + 1 ≤ (w4.setCell ⟨rdb, 0, none⟩ (.slice (if c5 = N then A5 else A5.map (·.add N)) (r'.length - N) (c5 - N))).heap.size := by simp; exact hbzS
              have htl : (r'.take N).length = N := by simp; omega
              have hq := cloneB_any A5 c5 (r'.take N) _ (by omega) hrt
              rw [htl] at hq
              have hb8 := hb6.trans hb7
              clear hb7 hrt
              have hq0 := take_ok hS.rd N hle (by omega) hS.cap
              obtain ⟨A7, hA7⟩ : ∃ A7, A7 = (if c5 = N then A5 else A5.map (·.add N)) := ⟨_, rfl⟩
              obtain ⟨w7, hw7⟩ : ∃ w7, w7 = w4.setCell ⟨rdb, 0, none⟩ (.slice (if c5 = N then A5 else A5.map (·.add N)) (r'.length - N) (c5 - N)) := ⟨_, rfl⟩
              rw [← hw7] at hq0 hq hk7 hbz7 hS7 hb8
              rw [← hA7] at hS7
              clear hw7 hA7 hS hkS hbzS hb6
              go_wp2_with fail
              refine hq0.mono ?_
              rintro e w7 ⟨rfl, rfl⟩
              go_wp2_with fail
              refine hq.mono ?_
              clear hq hq0
              rintro e w8 ⟨v8, rfl, ho8, hb9⟩
              have hS8 := hS7.below hb9
              have hk8 := hk7.below hb9 hk7.size
              have hbz8 := Nat.le_trans hbz7 hb9.size
              have hb10 := hb8.trans (hb9.mono (Nat.le_trans hS7.base_le hbz7))
              obtain ⟨A8, c8, rfl, hc8, hr8⟩ := owns_reads ho8
              obtain ⟨hS9, hb11⟩ := hS8.put3 (.slice A8 N c8)
              have hk9 := hk8.other (p := ⟨ab, 3, none⟩) (by have := Hab.out; simp; omega) (.slice A8 N c8)
              have hb12 := hb10.trans hb11
              have ho9 : (w8.setCell ⟨ab, 3, none⟩ (.slice A8 N c8)).ownsRow w7.heap.size 5 1 (.slice A8 N c8) N (bv (r'.take N)) := owns_keep ho8 (fun k hk => Below.heap_setCell _ _ _ _ (by have := (owns_lt ho8 k hk).1; simp; omega))
              have y3 : w8.cell? ⟨ab, 3, none⟩ = some (.slice none 0 0) := hS8.m.blk.cell 3
              have f3 := hS8.m.blk.free 3
              have y0 : w8.cell? ⟨ab, 0, none⟩ = some (.bool false) := hS8.m.blk.cell 0
              have y1 := hS8.m.blk.cell 1
              have y2 := hS8.m.blk.cell 2
              have n1 : ¬ (w.heap.size = ab) := by have := Hab.out; omega
              have n2 : ¬ (ab = w.heap.size) := fun e => n1 e.symm
              have d0 : w8.cell? ⟨w.heap.size, 0, none⟩ = some (.bool false) := hk8.cell 0
              have d1 : w8.cell? ⟨w.heap.size, 1, none⟩ = some (.slice none 0 0) := hk8.cell 1
              have d2 : w8.cell? ⟨w.heap.size, 2, none⟩ = some (.slice none 0 0) := hk8.cell 2
              have d3 : w8.cell? ⟨w.heap.size, 3, none⟩ = some (.slice none 0 0) := hk8.cell 3
              have e0 := hk8.free 0
              have e1 := hk8.free 1
              have e2 := hk8.free 2
              have e3 := hk8.free 3
              simp only [List.getElem?_toArray, List.getElem?_cons_succ, List.getElem?_cons_zero] at y1 y2
              clear hb8 hb9 hb10 hb11 hS8 hk8 hk7 hS7 hr8
              obtain ⟨rs, hrs⟩ : ∃ rs, rs = r'.drop N := ⟨_, rfl⟩
              rw [← hrs] at hS9
              have hrsl : rs.length ≤ b.length := by rw [hrs]; simp; omega
              have HRS := Lib.hid hrs
              clear hrs
              have n3 : ¬ (rdb = ab) := fun e => hS9.ne e.symm
              have y5 : (w8.setCell ⟨ab, 3, none⟩ (.slice A8 N c8)).cell? ⟨rdb, 0, none⟩ = some (.slice A7 rs.length (c5 - N)) := hS9.rd.blk.cell 0
              have y6 : w8.cell? ⟨rdb, 0, none⟩ = some (.slice A7 rs.length (c5 - N)) := by
                rw [← y5]
                exact (World.cell?_of_block (Below.heap_setCell _ _ _ _ (by exact n3))).symm
              have hcc : b.length + 2 ≤ c := by simpa using hcb
              have i1 : (1 : Int) ≤ (b.length : Int) + 2 - (rs.length : Int) := by omega
              have i2 : (b.length : Int) + 2 - (rs.length : Int) ≤ (c : Int) := by omega
              have i3 : (0 : Int) ≤ (b.length : Int) + 2 - (rs.length : Int) := by omega
              have i4 : ¬ (c = 1) := by omega
              obtain ⟨b0, off, rfl, _⟩ := hrbb.at_ (by simp)
              obtain ⟨xs, hxs⟩ : ∃ xs, xs = ((f :: h :: b).drop 1).take (b.length + 2 - rs.length - 1) := ⟨_, rfl⟩
              have hxl : xs.length = b.length + 2 - rs.length - 1 := by rw [hxs]; simp
              have hrx : RB (w8.setCell ⟨ab, 3, none⟩ (.slice A8 N c8)) (some ⟨b0, off + 1, none⟩) xs := by
                have z := ((hrbb.belowB ha hb12).drop 1 c hcb).take (b.length + 2 - rs.length - 1)
                rw [if_neg i4] at z
                rw [hxs]
                exact z
              have hq2 := sumL_any (some ⟨b0, off + 1, none⟩) (c - 1) xs _ (by omega) hrx
              rw [hxl] at hq2
              have HXS := Lib.hid hxs
              clear hxs hrx
              go_wp2_with fail
              refine hq2.mono ?_
              clear hq2
              rintro e w10 ⟨A10, rfl, hr10, hb13⟩
              have hS10 := hS9.below hb13
              have hk10 := hk9.below hb13 hk9.size
              have hb14 := hb12.trans (hb13.mono (Nat.le_trans hS9.base_le (by simpa using hbz8)))
              have ho10 : w10.ownsRow w7.heap.size 5 1 (.slice A8 N c8) N (bv (r'.take N)) := owns_keep ho9 (fun k hk => hb13.block k (owns_lt ho9 k hk).2)
              obtain ⟨b10, o10, rfl, hc10⟩ := hr10.at_ (by simp)
              obtain ⟨l, hl0⟩ : ∃ l, l = lrc xs := ⟨_, rfl⟩
              have z10 := hc10 0 (by simp)
              simp only [List.getElem_cons_zero, Nat.add_zero] at z10
              rw [← hl0] at z10
              have HL := Lib.hid hl0
              have n4 : b10 ≠ rdb := fun e => by
                rw [e] at z10
                have z := hS10.rd.blk.cell o10
                rw [z10] at z
                rcases o10 with _ | o10 <;> simp at z
              have l255 : (l.toNat : Int) ≤ 255 := by have := l.toNat_lt; omega
              have h11 := hS10.below (below_drewN (Below.refl w10.heap.size w10) 1)
              clear y0 y1 y2 y3 y5 y6 f3 d0 d1 d2 d3 e0 e1 e2 e3 hc10 hr10 hl0 hS9 hk9 ho9 hb13 ho8 hb12
              go_wp2_with fail
              rcases rs with _ | ⟨x, r3⟩
              · have HZ : Hid (WRes (f :: h :: b) B w (badP 5) (w10.drewN 1)) := WRes.no (by rw [HG.out]; exact wholeE_nil (by rw [← HN2.out]; exact hlt) (by rw [← HN2.out]; exact HRS.out.symm)) (by decide) (below_drewN hb14 1)
                go_region_dies
                all_goals
                  go_at_call 47
                  refine (number_bad h11.rd).mono ?_
                  rintro e w12 ⟨rfl, rfl⟩
                  dsimp (config := {zetaDelta := true}) only [Exit.then, Exit.inBlock, bodyPost, badP]
                  exact ⟨rfl, HZ.out⟩
              · have hrl3 : r3.length ≤ 31 := by simp at hrsl; omega
                have HC : Hid (wholeS (f :: h :: b) = if l = x then ⟨0, decide (f = 63), bs', if (ps : List Int) = [] then [0] else ps, r'.take N⟩ else .bad 6) := by
                  show _ = _
                  rw [HG.out, wholeE_cons (r3 := r3) (x := x) (by rw [← HN2.out]; exact hlt) (by rw [← HN2.out]; exact HRS.out.symm), HL.out, HXS.out, ← HN2.out, show (f :: h :: b).length - 1 - (r3.length + 1) = b.length + 2 - (x :: r3).length - 1 from by simp; omega]
                clear HL HXS HG HRS
                by_cases hlx : l = x
                · have qx : ((x.toNat : Int) != (l.toNat : Int)) = false := by rw [hlx]; simp
                  have HW2 : Hid (wholeS (f :: h :: b) = ⟨0, false, bs', ps, r'.take N⟩) := by
                    show _ = _
                    rw [HC.out, if_pos hlx, HI.out, if_neg hp]
                  clear HC
                  subst hlx
                  clear qx
                  have qw : ((l.toNat : Int) != IntKind.i64.wrap (l.toNat : Int)) = false := by rw [wrap_u]; simp
                  go_region_law (go_simp; go_at_call 47; refine (number_ok h11.rd (by omega) h11.cap).mono ?_; rintro e w12 ⟨rfl, A12, c12, hc12, hr12, hw12, hA12⟩; obtain ⟨hS12, hb15⟩ := h11.number hc12 hr12 hw12 hA12; have z12 : w12.cell? ⟨b10, o10, none⟩ = some (.int .u8 (l.toNat : Int)) := (by rw [hw12, World.cell?_of_block (Below.heap_setCell _ _ _ _ (by exact n4))]; exact z10); have hk12 : Blk w12 w.heap.size 27 #[.bool false, .slice none 0 0, .slice none 0 0, .slice none 0 0] := (by rw [hw12]; exact (hk10.below (below_drewN (Below.refl w10.heap.size w10) 1) hk10.size).other (by simp; omega) _); have ho12 : w12.ownsRow w7.heap.size 5 1 (.slice A8 N c8) N (bv (r'.take N)) := owns_keep ho10 (fun k hk => by rw [hw12]; exact Below.heap_setCell (w10.drewN 1) _ _ _ (by have := (owns_lt ho10 k hk).1; have := h11.rlo; have := h11.ne; have := hbz7; simp; omega)); have hb16 := (below_drewN hb14 1).trans hb15; clear hw12 hr12)
                  all_goals
                    have y0 : w12.cell? ⟨ab, 0, none⟩ = some (.bool false) := hS12.m.blk.cell 0
                    have y1 : w12.cell? ⟨ab, 1, none⟩ = some (.slice A9 bs'.length c9) := hS12.m.blk.cell 1
                    have y2 : w12.cell? ⟨ab, 2, none⟩ = some (.slice A6 ps.length c6) := hS12.m.blk.cell 2
                    have y3 : w12.cell? ⟨ab, 3, none⟩ = some (.slice A8 N c8) := hS12.m.blk.cell 3
                    have d0 : w12.cell? ⟨w.heap.size, 0, none⟩ = some (.bool false) := hk12.cell 0
                    have d1 : w12.cell? ⟨w.heap.size, 1, none⟩ = some (.slice none 0 0) := hk12.cell 1
                    have d2 : w12.cell? ⟨w.heap.size, 2, none⟩ = some (.slice none 0 0) := hk12.cell 2
                    have d3 : w12.cell? ⟨w.heap.size, 3, none⟩ = some (.slice none 0 0) := hk12.cell 3
                    have e0 := hk12.free 0
                    have e1 := hk12.free 1
                    have e2 := hk12.free 2
                    have e3 := hk12.free 3
                    go_wp2
                    have kR := (((hk12.put 0 (.bool false)).put 1 (.slice A9 bs'.length c9)).put 2 (.slice A6 ps.length c6)).put 3 (.slice A8 N c8)
                    refine bodyPost_ret (results_c1 rfl _ _ w.heap.size _ _ _ _ rfl kR.out Try.underlying27 rfl atr_info) rfl ?_
                    exact WRes.ret (bs := bs') (ps := ps) HW2.out hS12 ho12 htl hb16 (by have := Hab.out; omega) (by have := Hab.out; omega) (by omega) _ _ _ _
                · have qx : ((x.toNat : Int) != (l.toNat : Int)) = true := by
                    have hne : x.toNat ≠ l.toNat := fun e => hlx (UInt8.toNat_inj.1 e.symm)
                    simp
                    omega
                  have hne1 : ¬ x.toNat = l.toNat := fun e => hlx (UInt8.toNat_inj.1 e.symm)
                  have hne2 : ¬ l.toNat = x.toNat := fun e => hlx (UInt8.toNat_inj.1 e)
                  have hne3 : ¬ (x.toNat : Int) = (l.toNat : Int) := by omega
                  have qw : ((x.toNat : Int) != IntKind.i64.wrap (l.toNat : Int)) = true := by rw [wrap_u]; exact qx
                  have hne4 : ¬ x = l := fun e => hlx e.symm
                  have HW2 : Hid (wholeS (f :: h :: b) = .bad 6) := by
                    show _ = _
                    rw [HC.out, if_neg hlx]
                  clear HC
                  clear hlx
                  go_region_law (go_simp; go_at_call 47; refine (number_ok h11.rd (by omega) h11.cap).mono ?_; rintro e w12 ⟨rfl, A12, c12, hc12, hr12, hw12, hA12⟩; obtain ⟨hS12, hb15⟩ := h11.number hc12 hr12 hw12 hA12; have z12 : w12.cell? ⟨b10, o10, none⟩ = some (.int .u8 (l.toNat : Int)) := (by rw [hw12, World.cell?_of_block (Below.heap_setCell _ _ _ _ (by exact n4))]; exact z10); have hk12 : Blk w12 w.heap.size 27 #[.bool false, .slice none 0 0, .slice none 0 0, .slice none 0 0] := (by rw [hw12]; exact (hk10.below (below_drewN (Below.refl w10.heap.size w10) 1) hk10.size).other (by simp; omega) _); have ho12 : w12.ownsRow w7.heap.size 5 1 (.slice A8 N c8) N (bv (r'.take N)) := owns_keep ho10 (fun k hk => by rw [hw12]; exact Below.heap_setCell (w10.drewN 1) _ _ _ (by have := (owns_lt ho10 k hk).1; have := h11.rlo; have := h11.ne; have := hbz7; simp; omega)); have hb16 := (below_drewN hb14 1).trans hb15; clear hw12 hr12)
                  all_goals
                    have HZ : Hid (WRes (f :: h :: b) B w (badP 6) w12) := WRes.no HW2.out (by decide) hb16
                    go_wp2
                    refine ⟨rfl, ?_⟩
                    exact HZ.out
      · have HZ : Hid (WRes (f :: h :: b) B w (badP 5) w4) := WRes.no (HN.out (by rw [← HR.out, HQ.out]; exact rdA_short hs h8)) (by decide) hb5
        refine ⟨rfl, ?_⟩
        exact HZ.out
      · have HR2 : Hid (rdA (40 - (q + 1)) (((q + 1 : Nat) : Int) + 1) td.toNat ((td.toNat : Int) % 16) bs' (if (td.toNat : Int) % 16 ∈ ps then ps else ps ++ [(td.toNat : Int) % 16]) (sm || decide ((td.toNat : Int) % 16 ≠ 0)) r2 = rdA 40 1 h.toNat 0 [] [] false b) := by
          show _ = _
          rw [← HR.out, HQ.out, rdA_more hs h8, show 40 - (q + 1) = 39 - q from by omega, show (((q + 1 : Nat) : Int) + 1) = (q : Int) + 1 + 1 from by push_cast; rfl]
        have hm15 := wb_15 ⟨td.toNat, td.toNat_lt⟩
        simp only at hm15
        have htd := td.toNat_lt
        have hq2 : q + 1 + bs'.length + r2.length ≤ b.length := by simp at hq'; omega
        obtain ⟨P, hP⟩ : ∃ P : Int, P = (td.toNat : Int) % 16 := ⟨_, rfl⟩
        rw [← hP] at hm15 HR2
        have hP0 : 0 ≤ P := by omega
        have hP1 : P < 16 := by omega
        clear hs HR hq' hP
        obtain ⟨A6, c6, rfl, hc6, hr6⟩ := owns_reads hst5.m.own2
        have x2 : w4.cell? ⟨ab, 2, none⟩ = some (.slice A6 ps.length c6) := hst5.m.blk.cell 2
        have hT := intT
        have hba := (Below.refl w4.heap.size w4).alloc (Nat.le_refl _) (.cells #[.int .i64 P] 3)
        have hst6 := hst5.below hba
        have x3 : (w4.alloc (.cells #[.int .i64 P] 3)).cell? ⟨ab, 2, none⟩ = some (.slice A6 ps.length c6) := hst6.m.blk.cell 2
        have hra : RC (w4.alloc (.cells #[.int .i64 P] 3)) (some ⟨w4.heap.size, 0, none⟩) (nv [P]) := RC.made w4 _ _ _ rfl
        have hbz6 : ab + 1 ≤ (w4.alloc (.cells #[.int .i64 P] 3)).heap.size := Nat.le_trans hbz4 hba.size
        have hb6 : Below B w (w4.alloc (.cells #[.int .i64 P] 3)) := hb5.trans (hba.mono (Nat.le_trans hst5.base_le hbz4))
        have hk6 := hk4.alloc (.cells #[.int .i64 P] 3)
        clear HN HS HF HI HSM hrbb HQ
        rcases sm with _ | _
        · rw [Bool.false_or, show decide (P ≠ 0) = (P != 0) from by by_cases e : P = 0 <;> simp [e]] at HR2
          by_cases hin : P ∈ ps
          · rw [if_pos hin] at HR2
            go_wp2_with fail
            refine (contains_any A6 c6 ps P w4 (by omega) hr6).mono ?_
            rintro e w5 ⟨rfl, rfl⟩
            rw [decide_eq_true hin]
            go_wp2
            go_roundw
            case rel => exact ⟨q + 1, td.toNat, P, _, v1', _, bs', ps, A5, c5, r2, rfl, rfl, rfl, by go_num, by omega, htd, by omega, fun e => by (rw [e] at hin; cases hin), hst5, HR2, hb5, hbz4, hk4⟩
            case measure => simp [intOf]; omega
          · rw [if_neg hin] at HR2
            go_wp2_with fail
            refine (contains_any A6 c6 ps P w4 (by omega) hr6).mono ?_
            rintro e w5 ⟨rfl, rfl⟩
            rw [decide_eq_false hin]
            go_wp2_with (at_builtin; refine wpList_append5 rfl hT (.tmp 61) (.tmp 63) rfl rfl rfl hst6.m.own2 hra rfl (by intro u hu; simp [nv] at hu; subst hu; rfl) (by omega) hbz6 ?_; intro v7 w7 ho7 hb7 hg7 hv7; obtain ⟨e1, e2, e3, e4⟩ := hst6.app2 hbz6 ho7 hb7 hg7 hv7; obtain ⟨A7, c7, rfl, _, _⟩ := owns_reads ho7)
            go_roundw
            case rel => exact ⟨q + 1, td.toNat, P, _, v1', _, bs', ps ++ [P], A5, c5, r2, rfl, rfl, rfl, by go_num, by omega, htd, by simp; omega, fun e => by simp at e, e3, HR2, hb6.trans e4, Nat.le_trans hbz6 (by have z := hb7.size; simp at z ⊢; exact z), (hk6.below hb7 (by have := Hab.out; omega)).other (by have := Hab.out; simp; omega) _⟩
            case measure => simp [intOf]; omega
        · rw [Bool.true_or] at HR2
          by_cases hin : P ∈ ps
          · rw [if_pos hin] at HR2
            go_wp2_with fail
            refine (contains_any A6 c6 ps P w4 (by omega) hr6).mono ?_
            rintro e w5 ⟨rfl, rfl⟩
            rw [decide_eq_true hin]
            go_wp2
            go_roundw
            case rel => exact ⟨q + 1, td.toNat, P, _, v1', _, bs', ps, A5, c5, r2, rfl, rfl, rfl, by go_num, by omega, htd, by omega, fun e => by (rw [e] at hin; cases hin), hst5, HR2, hb5, hbz4, hk4⟩
            case measure => simp [intOf]; omega
          · rw [if_neg hin] at HR2
            go_wp2_with fail
            refine (contains_any A6 c6 ps P w4 (by omega) hr6).mono ?_
            rintro e w5 ⟨rfl, rfl⟩
            rw [decide_eq_false hin]
            go_wp2_with (at_builtin; refine wpList_append5 rfl hT (.tmp 61) (.tmp 63) rfl rfl rfl hst6.m.own2 hra rfl (by intro u hu; simp [nv] at hu; subst hu; rfl) (by omega) hbz6 ?_; intro v7 w7 ho7 hb7 hg7 hv7; obtain ⟨e1, e2, e3, e4⟩ := hst6.app2 hbz6 ho7 hb7 hg7 hv7; obtain ⟨A7, c7, rfl, _, _⟩ := owns_reads ho7)
            go_roundw
            case rel => exact ⟨q + 1, td.toNat, P, _, v1', _, bs', ps ++ [P], A5, c5, r2, rfl, rfl, rfl, by go_num, by omega, htd, by simp; omega, fun e => by simp at e, e3, HR2, hb6.trans e4, Nat.le_trans hbz6 (by have z := hb7.size; simp at z ⊢; exact z), (hk6.below hb7 (by have := Hab.out; omega)).other (by have := Hab.out; simp; omega) _⟩
            case measure => simp [intOf]; omega
end Go.Proofs.Ytkhobpghiachoaa
