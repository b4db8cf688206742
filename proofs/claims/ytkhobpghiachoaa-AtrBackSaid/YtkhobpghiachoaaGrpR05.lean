/-
  The reference's group: the values of a group, its presence, and its protocol.
-/
import Derived.Test.YtkhobpghiachoaaLast05
namespace Go.Proofs.Ytkhobpghiachoaa
open Go.RowKit Crc
set_option linter.unusedVariables false

theorem gp_take {l : List If} {g : Int} {k : Nat} (h : k < l.length) : gp (l.take (k + 1)) g = gp (l.take k) g ++ (if l[k].g = g then [l[k]] else []) := by
  unfold gp
  rw [List.take_succ_eq_append_getElem h, List.filter_append]
  congr 1
  by_cases hg : l[k].g = g <;> simp [hg]
theorem byteT : SliceT Try.prog 22 5 (.int .u8 0) 1 1 := ⟨Try.underlying22, by kernel_rfl, rfl, by omega, by omega⟩
def valsR (l : List If) (g : Int) : List UInt8 := (gp l g).map fun x => byteI x.v
/-- append of bytes onto bytes of the call's own, with what it leaves alone. -/
theorem wpList_append_g {P : Program} {t e : TypeId} {w : World} {base m c : Nat} {v : Value} {xs ys : List UInt8} {A : Option Addr} {ops : Array Oper} {rest : List Oper} {o : Oper} {a : Act} {Q : Exit → Act → World → Prop} (hgd : o.guard = none) (hT : SliceT P t e (.int .u8 0) 1 1) (x y : Operand)
    (ho : o.op = .call { callee := .builtin .append, args := #[x, y], argTypes := #[t, t] })
    (hx : a.eval x = v) (hy : a.eval y = .slice A m c) (hown : Own e w base v xs) (hr : RB w A ys) (hm : ys.length = m)
    (hlen : xs.length + m ≤ 68719476736) (hbase : base ≤ w.heap.size)
    (h : ∀ v' w', Own e w' base v' (xs ++ ys) → Below base w w' → w.grownBy w' v.ownBlock → wpList P ops Q rest (a.put o.dst v') w') : wpList P ops Q (o :: rest) a w := by
  refine wpList_append_cells hgd hT x y ho hx hy hown (rb_iff.1 hr) (by simp [bv, hm]) (bv_one _) hlen hbase fun v' w' h1 h2 h3 => h v' w' ?_ h2 h3
  unfold Own
  rw [bv_append, List.length_append, hm]
  exact h1
theorem RB.grown {w w' : World} {A : Option Addr} {xs : List UInt8} {row : Option Nat} (h : RB w A xs) (hg : w.grownBy w' row) (hne : ∀ a : Addr, A = some a → row ≠ some a.block) : RB w' A xs := by
  refine rb_iff.2 ((rb_iff.1 h).grown hg fun hx e => ?_)
  obtain ⟨b, off, rfl, _⟩ := (rb_iff.1 h) hx
  exact hne ⟨b, off, none⟩ rfl e.symm
set_option maxRecDepth 100000 in
set_option maxHeartbeats 4000000 in
theorem rgroup_go (aI : Bool) (bA : Option Addr) (bC : Nat) (bs : List If) (pb po pC : Nat) (p0 : Int) (pn : Nat) (hA : Option Addr) (hC : Nat) (hs : List UInt8) (g n : Int) (w : World)
    (hb : RC w bA (ifv bs)) (hp : w.cell? ⟨pb, po, none⟩ = some (.int .i64 p0)) (hbl : bs.length ≤ 1000) (hpn : 0 < pn) (hk : ∀ x ∈ bs, 0 ≤ x.k ∧ x.k < 3) :
    Calls Try.prog 56 #[.agg #[.bool aI, .slice bA bs.length bC, .slice (some ⟨pb, po, none⟩) pn pC, .slice hA hs.length hC], .int .i64 g, .int .i64 n] w fun e w' =>
      ∃ A c, e = .returned (.tuple #[.slice A (valsR bs g).length c, .int .i64 (presR bs n g), .int .i64 (protR p0 bs g)]) ∧ RB w' A (valsR bs g) ∧ (∀ a : Addr, A = some a → w.heap.size ≤ a.block) ∧ Below w.heap.size w w' := by
  have hk0 := Blk.made w 27 #[.bool aI, .slice bA bs.length bC, .slice (some ⟨pb, po, none⟩) pn pC, .slice hA hs.length hC]
  have hb0 := (Below.refl w.heap.size w).alloc (Nat.le_refl _) (.cells #[.bool aI, .slice bA bs.length bC, .slice (some ⟨pb, po, none⟩) pn pC, .slice hA hs.length hC] 27)
  obtain ⟨W0, hW0⟩ : ∃ W0 : World, W0 = w.alloc (.cells #[.bool aI, .slice bA bs.length bC, .slice (some ⟨pb, po, none⟩) pn pC, .slice hA hs.length hC] 27) := ⟨_, rfl⟩
  rw [← hW0] at hk0 hb0
  have n1 : W0.cell? ⟨w.heap.size, 1, none⟩ = some (.slice bA bs.length bC) := hk0.cell 1
  have n2 : W0.cell? ⟨w.heap.size, 2, none⟩ = some (.slice (some ⟨pb, po, none⟩) pn pC) := hk0.cell 2
  have hp0 := (hb0.cell (cell?_lt hp)).trans hp
  have hbW := hb.below hb0
  have hpi : (0 : Int) < (pn : Int) := by omega
  have hk0s := hk0.size
  have hGT : Hid (∃ d, d = if g = 2 then p0 else 1) := ⟨_, rfl⟩
  obtain ⟨d, hd⟩ := hGT.out
  have HD := Lib.hid hd
  clear hd hGT
  go_enter Try.func56, Try.ntmps56
  go_upto_region 1 with fail
  rw [← hW0]
  clear hW0
  go_upto_region 3 with fail
  go_upto_if 16 with fail
  go_cut [11] (fun s wx => s = .int .i64 d ∧ wx = W0)
  case first =>
    by_cases h2 : g = 2
    · have h2b : (g == 2) = true := by simpa using h2
      have HE : Hid (d = p0) := by rw [HD.out, if_pos h2]; rfl
      clear h2
      go_wp2_with fail
      go_meet
      exact ⟨by rw [HE.out], rfl⟩
    · have h2b : (g == 2) = false := by simpa using h2
      have HE : Hid (d = 1) := by rw [HD.out, if_neg h2]; rfl
      go_wp2_with fail
      go_meet
      exact ⟨by rw [HE.out], rfl⟩
  case rest =>
    obtain ⟨rfl, hw⟩ := hcut
    have hw := hw.symm
    subst hw
    clear hw
    have hkb := Blk.made W0 3 #[.int .i64 16, .int .i64 32, .int .i64 64]
    have hbb := (Below.refl W0.heap.size W0).alloc (Nat.le_refl _) (.cells #[.int .i64 16, .int .i64 32, .int .i64 64] 3)
    go_upto_region 6 with fail
    obtain ⟨W2, hW2⟩ : ∃ W2 : World, W2 = W0.alloc (.cells #[.int .i64 16, .int .i64 32, .int .i64 64] 3) := ⟨_, rfl⟩
    rw [← hW2] at hkb hbb
    rw [← hW2]
    clear hW2
    obtain ⟨tb, htb⟩ : ∃ tb, tb = W0.heap.size := ⟨_, rfl⟩
    rw [← htb] at hkb
    rw [← htb]
    clear htb
    have hbW2 := hb0.trans (hbb.mono hb0.size)
    have m1 := (hbb.cell (p := ⟨w.heap.size, 1, none⟩) hk0s).trans n1
    have hbv := hbW.below hbb
    have hk2s : w.heap.size < W2.heap.size := Nat.lt_of_lt_of_le hk0s hbb.size
    have hkbs := hkb.size
    clear n1 n2 hbW hk0 hp0
    go_wp2
    go_loopw [9, 10, 11, 13] (fun v pz q i wx => ∃ k : Nat, ∃ z qq : Int, k ≤ bs.length ∧ pz = .int .i64 z ∧ q = .int .i64 qq ∧ i = .int .i64 k ∧ Own 5 wx W2.heap.size v (valsR (bs.take k) g) ∧ Hid (z = sumK (gp (bs.take k) g)) ∧ Hid (qq = (gp (bs.take k) g).foldl (fun _ x => x.p) d) ∧ 0 ≤ z ∧ z ≤ 64 * (k : Int) ∧ Below W2.heap.size W2 wx) (fun _ _ _ i _ => bs.length - (intOf i).toNat)
    case atStart => exact ⟨0, 0, d, Nat.zero_le _, rfl, rfl, rfl, Own.empty _ _ _, rfl, rfl, by omega, by omega, Below.refl _ _⟩
    case round =>
      obtain ⟨k, z, qq, hkl, rfl, rfl, rfl, hown, hz, hq, hz0, hz1, hbr⟩ := hrel
      have c1 := (hbr.cell (p := ⟨w.heap.size, 1, none⟩) hk2s).trans m1
      by_cases h1 : k < bs.length
      · obtain ⟨bb, bo, rfl, hbx⟩ := RC.elem ifL (s := 4) (fun _ => rfl) (hbv.below hbr) k h1 (by decide)
        have hkk := hk bs[k] (List.getElem_mem h1)
        have z0 : wr.cell? ⟨bb, bo + k * 4, none⟩ = some (.int .i64 bs[k].g) := hbx 0 (by decide)
        have z1 : wr.cell? ⟨bb, bo + k * 4 + 1, none⟩ = some (.int .i64 bs[k].k) := by rw [Nat.add_assoc]; exact hbx 1 (by decide)
        have z2 : wr.cell? ⟨bb, bo + k * 4 + 2, none⟩ = some (.int .i64 bs[k].v) := by rw [Nat.add_assoc]; exact hbx 2 (by decide)
        have z3 : wr.cell? ⟨bb, bo + k * 4 + 3, none⟩ = some (.int .i64 bs[k].p) := by rw [Nat.add_assoc]; exact hbx 3 (by decide)
        have HG := Lib.hid (gp_take (g := g) h1)
        clear hbx
        generalize bs[k] = x at z0 z1 z2 z3 hkk HG
        obtain ⟨xg, kd, v, p⟩ := x
        simp only at z0 z1 z2 z3 hkk HG
        obtain ⟨hkd0, hkd3⟩ := hkk
        obtain ⟨q, rfl⟩ : ∃ q : Nat, kd = (q : Int) := ⟨kd.toNat, by omega⟩
        have hq3 : q < 3 := by omega
        have hi1 : (0 : Int) ≤ (k : Int) := by omega
        have hi2 : (k : Int) < (bs.length : Int) := by omega
        have hi3 : (q : Int) < 3 := by omega
        have hi4 : (0 : Int) ≤ (q : Int) := by omega
        have hXB0 := Blk.made wr 47 (ifL ⟨xg, q, v, p⟩).toArray
        have hbA := (Below.refl wr.heap.size wr).alloc (Nat.le_refl _) (.cells (ifL ⟨xg, q, v, p⟩).toArray 47)
        go_upto_region 10 with fail
        obtain ⟨W1, hW1⟩ : ∃ W1 : World, W1 = (wr.alloc (.cells #[.int .i64 xg, .int .i64 q, .int .i64 v, .int .i64 p] 47)) := ⟨_, rfl⟩
        have hXB : Blk W1 wr.heap.size 47 (ifL ⟨xg, q, v, p⟩).toArray := by rw [hW1]; exact hXB0
        have hbA1 : Below wr.heap.size wr W1 := by rw [hW1]; exact hbA
        have hbr1 : Below W2.heap.size W2 W1 := hbr.trans (hbA1.mono hbr.size)
        have hownX := owns_keep hown (fun k hk => hbA1.block k (owns_lt hown k hk).2)
        have hne : ∀ k, u9.ownBlock = some k → k < wr.heap.size := fun k hk => (owns_lt hown k hk).2
        rw [← hW1]
        clear hW1 hXB0 hbA z0 z1 z2 z3 c1 hown
        have c1 := (hbr1.cell (p := ⟨w.heap.size, 1, none⟩) hk2s).trans m1
        have hxs : wr.heap.size < W1.heap.size := hXB.size
        have hsw := hbr1.size
        have htw : tb ≠ wr.heap.size := by have := hbr.size; omega
        obtain ⟨xb, hxb⟩ : ∃ xb, xb = wr.heap.size := ⟨_, rfl⟩
        rw [← hxb] at hXB hne hxs htw
        rw [← hxb]
        clear hxb hbA1
        have x0 : W1.cell? ⟨xb, 0, none⟩ = some (.int .i64 xg) := hXB.cell 0
        by_cases hg : xg = g
        · have hgb : (xg == g) = true := by simpa using hg
          rw [if_pos hg] at HG
          have x2 : W1.cell? ⟨xb, 2, none⟩ = some (.int .i64 v) := hXB.cell 2
          have hT := byteT
          obtain ⟨cs0, hcs0⟩ : ∃ cs0, cs0 = bv (valsR (bs.take k) g) := ⟨_, rfl⟩
          have hvl : (valsR (bs.take k) g).length ≤ 1000 := by
            unfold valsR gp
            rw [List.length_map]
            exact Nat.le_trans (List.length_filter_le _ _) (by rw [List.length_take]; omega)
          have hbz := (Below.refl W1.heap.size W1).alloc (Nat.le_refl _) (.cells #[.int .u8 (IntKind.u8.wrap v)] 5)
          have hownZ : (W1.alloc (.cells #[.int .u8 (IntKind.u8.wrap v)] 5)).ownsRow W2.heap.size 5 1 u9 (valsR (bs.take k) g).length (bv (valsR (bs.take k) g)) := owns_keep hownX (fun k hk => hbz.block k (owns_lt hownX k hk).2)
          have hrZ : RC (W1.alloc (.cells #[.int .u8 (IntKind.u8.wrap v)] 5)) (some ⟨W1.heap.size, 0, none⟩) (bv [byteI v]) := rb_iff.1 (RB.made W1 _ _ _ (by rw [wrap_byte]; rfl))
          have hXZ := hXB.below hbz hXB.size
          have hTZ := (hkb.below hbr1 hkbs).below hbz (Nat.lt_of_lt_of_le hkbs hsw)
          have hbzs : W2.heap.size ≤ (W1.alloc (.cells #[.int .u8 (IntKind.u8.wrap v)] 5)).heap.size := by simp; omega
          have hb1z := hbr1.trans (hbz.mono hbr1.size)
          obtain ⟨tv, htv⟩ : ∃ tv : Int, tv = 16 * 2 ^ q := ⟨_, rfl⟩
          have htb : 16 ≤ tv ∧ tv ≤ 64 := by
            rw [htv]
            rcases (show q = 0 ∨ q = 1 ∨ q = 2 from by omega) with rfl | rfl | rfl <;> decide
          have HTC : Hid (∀ W : World, Blk W tb 3 #[.int .i64 16, .int .i64 32, .int .i64 64] → W.cell? ⟨tb, q, none⟩ = some (.int .i64 tv)) := fun W hW => by
            rw [hW.cell, htv]
            rcases (show q = 0 ∨ q = 1 ∨ q = 2 from by omega) with rfl | rfl | rfl <;> rfl
          have HS : Hid (sumK (gp (bs.take (k + 1)) g) = z + tv) := by
            show _ = _
            rw [HG.out, htv, hz.out]
            unfold sumK
            rw [List.foldl_append]
            rfl
          have HQ : Hid ((gp (bs.take (k + 1)) g).foldl (fun _ x => x.p) d = p) := by
            show _ = _
            rw [HG.out, List.foldl_append]
            rfl
          have HV : Hid (valsR (bs.take (k + 1)) g = valsR (bs.take k) g ++ [byteI v]) := by
            show _ = _
            unfold valsR
            rw [HG.out, List.map_append]
            rfl
          clear hcs0 HG hg htv hownX
          obtain ⟨vl, hvlE⟩ : ∃ vl, vl = valsR (bs.take k) g := ⟨_, rfl⟩
          rw [← hvlE] at hownZ HV hvl
          clear hvlE
          go_wp2_with (at_builtin; refine wpList_append_cells rfl hT (.tmp 38) (.tmp 42) rfl rfl rfl hownZ hrZ rfl (bv_one _) (by omega) hbzs ?_; intro v' w' hown' hb' hgr'; have hX2 : Blk w' xb 47 (ifL ⟨xg, q, v, p⟩).toArray := (hgr'.block xb hXZ.size (fun e => by have := hne xb e.symm; omega)).trans hXZ; have hT2 : Blk w' tb 3 #[.int .i64 16, .int .i64 32, .int .i64 64] := hTZ.below hb' hkbs; have y1 : w'.cell? ⟨xb, 1, none⟩ = some (.int .i64 q) := hX2.cell 1; have y3 : w'.cell? ⟨xb, 3, none⟩ = some (.int .i64 p) := hX2.cell 3; have yt := HTC.out w' hT2)
          have hownF : Own 5 w' W2.heap.size v' (valsR (bs.take (k + 1)) g) := by
            rw [HV.out]
            unfold Own
            rw [bv_append, List.length_append]
            exact hown'
          have hbF := hb1z.trans hb'
          go_roundw
          case rel => exact ⟨k + 1, z + tv, p, by omega, rfl, rfl, by go_num, hownF, HS.out.symm, HQ.out.symm, by omega, by omega, hbF⟩
          case measure => simp [intOf]; omega
        · have hgb : (xg == g) = false := by simpa using hg
          rw [if_neg hg, List.append_nil] at HG
          have HV : Hid (valsR (bs.take (k + 1)) g = valsR (bs.take k) g) := by show _ = _; unfold valsR; rw [HG.out]
          go_wp2
          go_roundw
          case rel => exact ⟨k + 1, z, qq, by omega, rfl, rfl, by go_num, by rw [HV.out]; exact hownX, by rw [HG.out]; exact hz, by rw [HG.out]; exact hq, by omega, by omega, hbr1⟩
          case measure => simp [intOf]; omega
      · have hkn : k = bs.length := by omega
        subst hkn
        rw [List.take_length] at hown hz hq
        have hi2 : ¬ ((bs.length : Int) < (bs.length : Int)) := by omega
        have hbx := hbW2.trans (hbr.mono hbW2.size)
        obtain ⟨A5, c5, rfl, hc5, hr5⟩ := hown.reads
        have hfr : ∀ a : Addr, A5 = some a → w.heap.size ≤ a.block := fun b hb => by
          subst hb
          have h := (owns_lt hown b.block rfl).1
          exact Nat.le_trans hbW2.size h
        have HQ : Hid (protR p0 bs g = qq) := by
          show _ = _
          unfold protR
          rw [hq.out, HD.out]
        by_cases hgn : g < n
        · have HP : Hid (presR bs n g = z + 128) := by show _ = _; unfold presR; rw [if_pos hgn, hz.out]
          go_wp2
          go_ret3
          rw [HQ.out, HP.out]
          first | exact ⟨A5, c5, rfl, hr5, hfr, hbx⟩ | exact ⟨A5, ⟨c5, rfl⟩, hr5, hfr, hbx⟩
        · have HP : Hid (presR bs n g = z) := by show _ = _; unfold presR; rw [if_neg hgn, hz.out]; omega
          go_wp2
          go_ret3
          rw [HQ.out, HP.out]
          first | exact ⟨A5, c5, rfl, hr5, hfr, hbx⟩ | exact ⟨A5, ⟨c5, rfl⟩, hr5, hfr, hbx⟩
theorem rgroup_any (a : Atr) (w : World) (hi : AtrIn w a) (hbl : a.bs.length ≤ 1000) (hr : rulesF a = true) (g n : Int) :
    Calls Try.prog 56 #[.agg (atrCs a), .int .i64 g, .int .i64 n] w fun e w' =>
      ∃ A c, e = .returned (.tuple #[.slice A (valsR a.bs g).length c, .int .i64 (presR a.bs n g), .int .i64 (protR (a.ps.headD 0) a.bs g)]) ∧ RB w' A (valsR a.bs g) ∧ (∀ a : Addr, A = some a → w.heap.size ≤ a.block) ∧ Below w.heap.size w w' := by
  have hv := valid_of hr
  obtain ⟨aI, bA, bC, bs, pA, pC, ps, hA, hC, hs⟩ := a
  have h1 := hv.ps
  have h3 := hv.r
  simp only at h1 h3 hbl
  have hp0 : 0 < ps.length ∧ ps.length ≤ 2 := by rcases okPs_mem h1 with rfl | rfl | rfl <;> simp
  obtain ⟨pb, po, rfl, hc⟩ := hi.p.at_ (by rw [nv_length]; exact hp0.1)
  have hc0 : w.cell? ⟨pb, po, none⟩ = some (.int .i64 (ps.headD 0)) := by
    have h := hc 0 (by rw [nv_length]; exact hp0.1)
    rw [Nat.add_zero] at h
    rw [h]
    rcases okPs_mem h1 with rfl | rfl | rfl <;> rfl
  exact rgroup_go aI bA bC bs pb po pC (ps.headD 0) ps.length hA hC hs g n w hi.b hc0 hbl hp0.1 (fun x hx => by have := h3.basic x hx; omega)
end Go.Proofs.Ytkhobpghiachoaa
