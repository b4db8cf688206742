/-
  The walk of CheckLinear.
-/
import Derived.Test.YtkcmbdnfohkjkaaAwake
import Derived.Test.YtkcmbdnfohkjkaaLin
import Derived.Deep.QuietTactic
import Derived.BigQuiet
import Derived.Deep.DeepCutAuto
import Derived.BigRegion
import Derived.WalkLawsBesides
import Derived.StillTailTactics
namespace Go.Proofs.Ytkcmbdnfohkjkaa
open Go.RowKit Crc
set_option linter.unusedVariables false

/-- The least of four numbers, as the program finds it. -/
def min4 (x y z u : Int) : Int := if u < (if z < (if y < x then y else x) then z else (if y < x then y else x)) then u else (if z < (if y < x then y else x) then z else (if y < x then y else x))
theorem run_min_int4 {P : Program} (w : World) (ts : Array TypeId) (t : TypeId) (k k' k'' k3 : IntKind) (x y z u : Int) : (Builtin.min_ ts t #[.int k x, .int k' y, .int k'' z, .int k3 u]).run P w = .ok (.int k (min4 x y z u)) w := by
  simp [Builtin.min_, Builtin.min2, min4]
attribute [local go_sem] run_min_int4
theorem min4_nat (x y z : Nat) : ∃ n : Nat, min4 x y z 400 = n ∧ n ≤ x ∧ n ≤ y ∧ n ≤ z ∧ n ≤ 400 := by
  unfold min4
  refine ⟨min (min (min x y) z) 400, ?_, by omega, by omega, by omega, by omega⟩
  repeat' split
  all_goals omega

set_option maxRecDepth 100000 in
set_option maxHeartbeats 4000000 in
theorem checkLinear_walk (w : World) (A : Option Addr) (ca : Nat) (a : List UInt8) (hca : a.length ≤ ca) (hra : RB w A a) (B : Option Addr) (cb : Nat) (b : List UInt8) (hcb : b.length ≤ cb) (hrb : RB w B b)
    (C : Option Addr) (cc : Nat) (c : List UInt8) (hcc : c.length ≤ cc) (hrc : RB w C c) :
    Calls Try.prog 3 #[.slice A a.length ca, .slice B b.length cb, .slice C c.length cc] w fun e w' => e = .returned (.bool true) ∧ Below w.heap.size w w' := by
  have hB := bytesTried
  obtain ⟨n, hn, hna, hnb, hnc, hn4⟩ := min4_nat a.length b.length c.length
  go_enter Try.func3, Try.ntmps3
  go_wp2
  clear hn
  go_loopw [8, 9] (fun v i wr => ∃ k : Nat, k ≤ n ∧ i = .int .i64 k ∧ Own 5 wr w.heap.size v (x3 a b c k) ∧ Below w.heap.size w wr) (fun _ i _ => n - (intOf i).toNat)
  case atStart => exact ⟨0, Nat.zero_le _, rfl, Own.empty _ _ _, Below.refl _ _⟩
  case round =>
    obtain ⟨k, hk, rfl, hown, hbel⟩ := hrel
    by_cases hlt : k < n
    · obtain ⟨ba, oa, rfl, hxa⟩ := hra.at_ (by omega)
      obtain ⟨bb, ob, rfl, hxb⟩ := hrb.at_ (by omega)
      obtain ⟨bc, oc, rfl, hxc⟩ := hrc.at_ (by omega)
      have hka : k < a.length := by omega
      have hkb : k < b.length := by omega
      have hkc : k < c.length := by omega
      have ga : wr.cell? ⟨ba, oa + k, none⟩ = some (.int .u8 (a[k].toNat : Int)) := (hbel.cell (cell?_lt (hxa k hka))).trans (hxa k hka)
      have gb : wr.cell? ⟨bb, ob + k, none⟩ = some (.int .u8 (b[k].toNat : Int)) := (hbel.cell (cell?_lt (hxb k hkb))).trans (hxb k hkb)
      have gc : wr.cell? ⟨bc, oc + k, none⟩ = some (.int .u8 (c[k].toNat : Int)) := (hbel.cell (cell?_lt (hxc k hkc))).trans (hxc k hkc)
      have hs := x3_succ a b c k hka hkb hkc
      have hxl := x3_length a b c k
      have e1 := xor_u8 a[k] b[k]
      have e2 := xor_u8 (a[k] ^^^ b[k]) c[k]
      obtain ⟨y, hy⟩ : ∃ y, y = a[k] ^^^ b[k] ^^^ c[k] := ⟨_, rfl⟩
      rw [← hy] at e2 hs
      obtain ⟨x, hx⟩ : ∃ x, x = a[k] ^^^ b[k] := ⟨_, rfl⟩
      rw [← hx] at e1 e2
      have HS := Lib.hid hs
      clear hs hx hy
      have i0 : (0 : Int) ≤ (k : Int) := by omega
      have ia : (k : Int) < (a.length : Int) := by omega
      have ib : (k : Int) < (b.length : Int) := by omega
      have ic : (k : Int) < (c.length : Int) := by omega
      clear hxa hxb hxc hra hrb hrc
      go_wp2
      have hlt' : k < n := by omega
      have hlen : (x3 a b c k).length + [y].length ≤ 1099511627776 := by rw [hxl, List.length_singleton]; omega
      have hO : ∀ q : Nat, Own 5 ((wr.alloc (.cells #[.int .u8 (y.toNat : Int)] 5)).drewN q) w.heap.size u8 (x3 a b c k) := fun q => World.ownsRow.alloc hown _
      have hN : ∀ q : Nat, RB ((wr.alloc (.cells #[.int .u8 (y.toNat : Int)] 5)).drewN q) (some ⟨wr.heap.size, 0, none⟩) [y] := fun q => RB.made wr _ _ [y] rfl
      have hbel3 := hbel.alloc hbel.size (.cells #[.int .u8 (y.toNat : Int)] 5)
      go_region_law (refine step_append_bytes (ys := [y]) rfl hB (.tmp 38) (.tmp 53) rfl rfl rfl (hO 1) (hN 1) hlen hbel3.size ?_; intro v4 w4 hown4 hb4)
      all_goals
        go_wp2
        go_roundw
        case rel => exact ⟨k + 1, by omega, by go_num, by rw [HS.out]; exact hown4, hbel3.drew.trans hb4⟩
        case measure => simp [intOf]; omega
    · have hkn : k = n := by omega
      subst hkn
      obtain ⟨D, cd, rfl, hcd, hrd⟩ := hown.reads
      obtain ⟨ds, hds⟩ : ∃ ds, ds = x3 a b c k := ⟨_, rfl⟩
      have hdl : ds.length = k := by rw [hds]; exact x3_length a b c k
      have HL := Lib.hid (sums_linear · · a b c k hna hnb hnc)
      rw [← hds] at hcd hrd HL ⊢
      have HDL := Lib.hid hdl
      have hta : (a.take k).length = k := by simp; omega
      have htb : (b.take k).length = k := by simp; omega
      have htc : (c.take k).length = k := by simp; omega
      have HA := Lib.hid hta
      have HB := Lib.hid htb
      have HC := Lib.hid htc
      rw [hdl]
      have hra' := (hra.below hbel).take k
      have hrb' := (hrb.below hbel).take k
      have hrc' := (hrc.below hbel).take k
      clear hown hds hdl hta htb htc hlt hk hra hrb hrc
      obtain ⟨wo, rfl⟩ : ∃ wo : World, wo = wr := ⟨_, rfl⟩
      go_wp2
      go_loopw [10] (fun i wx => ∃ q : Nat, q ≤ 2 ∧ i = .int .i64 q ∧ Below w.heap.size w wx ∧ Below wo.heap.size wo wx) (fun i _ => 2 - (intOf i).toNat)
      case atStart => exact ⟨0, Nat.zero_le _, rfl, hbel, Below.refl _ _⟩
      case round =>
        obtain ⟨q, hq, rfl, hbx, hbr⟩ := hrel
        by_cases hq2 : q < 2
        · have hkind : (q : Int) = 0 ∨ (q : Int) = 1 := by omega
          obtain ⟨m, hm0, hm1⟩ : ∃ m : Nat, sizeS q = m ∧ 0 < m := by
            rcases hkind with h | h <;> rw [h]
            · exact ⟨1, rfl, by omega⟩
            · exact ⟨2, rfl, by omega⟩
          have hm2 : m ≤ 2 := by obtain ⟨m', e1, e2⟩ := sizeS_nat q; omega
          have HE : Hid (sumE q = 0) := sumE_ok hkind
          have law := HL.out q hkind
          obtain ⟨Sa, hSa⟩ : ∃ S, S = sumS (q : Int) (a.take k) := ⟨_, rfl⟩
          obtain ⟨Sb, hSb⟩ : ∃ S, S = sumS (q : Int) (b.take k) := ⟨_, rfl⟩
          obtain ⟨Sc, hSc⟩ : ∃ S, S = sumS (q : Int) (c.take k) := ⟨_, rfl⟩
          obtain ⟨Sd, hSd⟩ : ∃ S, S = sumS (q : Int) ds := ⟨_, rfl⟩
          have hla : Sa.length = m := by rw [hSa]; exact sumS_length q m hm0 hm1 _
          have hlb : Sb.length = m := by rw [hSb]; exact sumS_length q m hm0 hm1 _
          have hlc : Sc.length = m := by rw [hSc]; exact sumS_length q m hm0 hm1 _
          have hld : Sd.length = m := by rw [hSd]; exact sumS_length q m hm0 hm1 _
          rw [← hSa, ← hSb, ← hSc, ← hSd] at law
          have LAW := Lib.hid law
          have HSa := Lib.hid hSa
          have HSb := Lib.hid hSb
          have HSc := Lib.hid hSc
          have HSd := Lib.hid hSd
          have HLa := Lib.hid hla
          have HLb := Lib.hid hlb
          have HLc := Lib.hid hlc
          have HLd := Lib.hid hld
          clear hm0 hkind law hSa hSb hSc hSd hla hlb hlc hld
          go_wp2_with fail
          have h1 := sum_any q A ca (a.take k) wr (by have := HA.out; omega) (hra'.below hbr)
          rw [HA.out, ← HSa.out, HE.out] at h1
          refine h1.mono ?_
          clear h1
          rintro e w1 ⟨A1, c1, rfl, hc1, hr1, hb1⟩
          have hbr1 := hbr.trans (hb1.mono hbr.size)
          rw [HLa.out]
          go_wp2_with fail
          have h1 := sum_any q B cb (b.take k) w1 (by have := HB.out; omega) (hrb'.below hbr1)
          rw [HB.out, ← HSb.out, HE.out] at h1
          refine h1.mono ?_
          clear h1
          rintro e w2 ⟨A2, c2, rfl, hc2, hr2, hb2⟩
          have hbr2 := hbr1.trans (hb2.mono hbr1.size)
          rw [HLb.out]
          go_wp2_with fail
          have h1 := sum_any q C cc (c.take k) w2 (by have := HC.out; omega) (hrc'.below hbr2)
          rw [HC.out, ← HSc.out, HE.out] at h1
          refine h1.mono ?_
          clear h1
          rintro e w3 ⟨A3, c3, rfl, hc3, hr3, hb3⟩
          have hbr3 := hbr2.trans (hb3.mono hbr2.size)
          rw [HLc.out]
          go_wp2_with fail
          have h1 := sum_any q D cd ds w3 (by have := HDL.out; omega) (hrd.below hbr3)
          rw [HDL.out, ← HSd.out, HE.out] at h1
          refine h1.mono ?_
          clear h1
          rintro e w4 ⟨A4, c4, rfl, hc4, hr4, hb4⟩
          have hbr4 := hbr3.trans (hb4.mono hbr3.size)
          have hbw := ((hbx.trans (hb1.mono hbx.size)).trans (hb2.mono (hbx.trans (hb1.mono hbx.size)).size))
          have hbw3 := hbw.trans (hb3.mono hbw.size)
          have hbw4 := hbw3.trans (hb4.mono hbw3.size)
          have hr1' := ((hr1.below hb2).below hb3).below hb4
          have hr2' := (hr2.below hb3).below hb4
          have hr3' := hr3.below hb4
          rw [HLd.out]
          clear hr1 hr2 hr3 hb1 hb2 hb3 hb4 hbr1 hbr2 hbr3 hbw hbw3 hbx hbr
          go_wp2
          obtain ⟨wi, rfl⟩ : ∃ wi : World, wi = w4 := ⟨_, rfl⟩
          go_loopw [19] (fun i wx => ∃ j p : Nat, j ≤ m ∧ i = .int .i64 j ∧ wx = wi.drewN p) (fun i _ => m - (intOf i).toNat)
          case atStart => exact ⟨0, 0, Nat.zero_le _, rfl, rfl⟩
          case round =>
            obtain ⟨j, p, hj, rfl, rfl⟩ := hrel
            by_cases hjm : j < m
            · have ja : j < Sa.length := by have := HLa.out; omega
              have jb : j < Sb.length := by have := HLb.out; omega
              have jc : j < Sc.length := by have := HLc.out; omega
              have jd : j < Sd.length := by have := HLd.out; omega
              obtain ⟨b1, o1, rfl, hx1⟩ := hr1'.at_ (by omega)
              obtain ⟨b2, o2, rfl, hx2⟩ := hr2'.at_ (by omega)
              obtain ⟨b3, o3, rfl, hx3⟩ := hr3'.at_ (by omega)
              obtain ⟨b4, o4, rfl, hx4⟩ := hr4.at_ (by omega)
              have g1 := hx1 j ja
              have g2 := hx2 j jb
              have g3 := hx3 j jc
              have g4 := hx4 j jd
              have hl := LAW.out j _ _ _ (List.getElem?_eq_getElem ja) (List.getElem?_eq_getElem jb) (List.getElem?_eq_getElem jc)
              rw [List.getElem?_eq_getElem jd] at hl
              injection hl with hl
              have e1 := xor_u8 Sa[j] Sb[j]
              have e2 := xor_u8 (Sa[j] ^^^ Sb[j]) Sc[j]
              rw [← hl] at e2
              clear hl
              generalize Sa[j] = sa at g1 e1 e2
              generalize Sb[j] = sb at g2 e1 e2
              generalize Sc[j] = sc at g3 e2
              generalize Sd[j] = sd at g4 e2
              generalize sa ^^^ sb = x at e1 e2
              have hi0 : (0 : Int) ≤ (j : Int) := by omega
              have hi1 : (j : Int) < (m : Int) := by omega
              clear hx1 hx2 hx3 hx4 hr1' hr2' hr3' hr4
              go_wp2
              go_quiet (fail)
              go_wp2
              go_roundw
              case rel => exact ⟨j + 1, _, by omega, by go_num, rfl⟩
              case measure => simp [intOf]; omega
            · have hbw5 := below_drewN hbw4 p
              have hbr5 := below_drewN hbr4 p
              go_wp2
              go_roundw
              case rel => exact ⟨q + 1, by omega, by go_num, hbw5, hbr5⟩
              case measure => simp [intOf]; omega
        · go_wp2_with fail
          have h1 := sum_any 0 A ca (a.take k) wr (by have := HA.out; omega) (hra'.below hbr)
          rw [HA.out] at h1
          refine h1.mono ?_
          clear h1
          rintro e w1 ⟨A1, c1, rfl, hc1, hr1, hb1⟩
          have hbr1 := hbr.trans (hb1.mono hbr.size)
          have hbw1 := hbx.trans (hb1.mono hbx.size)
          go_wp2_with fail
          have h1 := sum_any 0 B cb (b.take k) w1 (by have := HB.out; omega) (hrb'.below hbr1)
          rw [HB.out] at h1
          refine h1.mono ?_
          clear h1
          rintro e w2 ⟨A2, c2, rfl, hc2, hr2, hb2⟩
          have hbr2 := hbr1.trans (hb2.mono hbr1.size)
          have hbw2 := hbw1.trans (hb2.mono hbw1.size)
          have hra2 := hra'.below hbr2
          have hrb2 := hrb'.below hbr2
          have hO : ∀ z : Nat, Own 5 ((w2.alloc (.cells #[] 5)).drewN z) w2.heap.size (.slice (some ⟨w2.heap.size, 0, none⟩) 0 0) [] := fun z => Own.made (e := 5) (base := w2.heap.size) (xs := []) (Nat.le_refl _) #[] rfl (by simp)
          have hbN : ∀ z : Nat, Below w2.heap.size w2 ((w2.alloc (.cells #[] 5)).drewN z) := fun z => below_drewN ((Below.refl _ _).alloc (Nat.le_refl _) _) z
          have hxa : ∀ (ac : Act) (x : Operand), ac.eval x = .slice A k ca → ac.eval x = .slice A (a.take k).length ca := fun ac x h => by rw [h, HA.out]
          have hxb : ∀ (ac : Act) (x : Operand), ac.eval x = .slice B k cb → ac.eval x = .slice B (b.take k).length cb := fun ac x h => by rw [h, HB.out]
          have hla1 : ([] : List UInt8).length + (a.take k).length ≤ 1099511627776 := by have := HA.out; simp only [List.length_nil]; omega
          have hla2 : ([] ++ a.take k).length + (b.take k).length ≤ 1099511627776 := by have := HA.out; have := HB.out; simp only [List.nil_append]; omega
          have hla3 : ([] ++ a.take k ++ b.take k).length ≤ 140737488351232 := by have := HA.out; have := HB.out; simp only [List.nil_append, List.length_append]; omega
          have HAB : Hid (([] ++ a.take k ++ b.take k).length = k + k) := by show _ = _; have := HA.out; have := HB.out; simp only [List.nil_append, List.length_append]; omega
          have hi0 : (0 : Int) ≤ (k : Int) := by omega
          have hi1 : (k : Int) ≤ (ca : Int) := by omega
          have hi2 : (k : Int) ≤ (cb : Int) := by omega
          go_upto_region 23 with fail
          go_cut [24] (fun s wx => ∃ A5 c5, s = .slice A5 1 c5 ∧ RB wx A5 [lrc (a.take k ++ b.take k)] ∧ RB wx A1 [lrc (a.take k)] ∧ RB wx A2 [lrc (b.take k)] ∧ Below w.heap.size w wx)
          case first =>
            go_region_law (first
              | (refine step_append_bytes (ys := a.take k) rfl hB (.tmp 164) (.tmp 167) rfl rfl (hxa _ _ rfl) (hO 1) (hra2.below (hbN 1)) hla1 (hbN 1).size ?_; intro v5 w5 hown5 hb5)
              | (refine step_append_bytes (ys := b.take k) rfl hB (.tmp 168) (.tmp 171) rfl rfl (hxb _ _ rfl) hown5 (hrb2.below ((hbN 1).trans hb5)) hla2 ((hbN 1).trans hb5).size ?_; intro v6 w6 hown6 hb6; obtain ⟨A6, c6, rfl, hc6, hr6⟩ := hown6.reads)
              | (go_simp; go_at_call 10; have hz := sum_any 0 A6 c6 ([] ++ a.take k ++ b.take k) w6 hla3 hr6; rw [HAB.out] at hz; refine hz.mono ?_; clear hz; rintro e w7 ⟨A7, c7, rfl, hc7, hr7, hb7⟩))
            all_goals
              go_wp2_with fail
              go_meet
              have hb27 := (((hbN 1).trans hb5).trans hb6).trans (hb7.mono (((hbN 1).trans hb5).trans hb6).size)
              exact ⟨A7, c7, rfl, hr7, (hr1.below hb2).below hb27, hr2.below hb27, hbw2.trans (hb27.mono hbw2.size)⟩
          case rest =>
            obtain ⟨A5, c5, rfl, hr5, hr1', hr2', hb5⟩ := hcut
            obtain ⟨x1, y1, rfl, hc1⟩ := hr1'.at_ (by simp)
            obtain ⟨x2, y2, rfl, hc2⟩ := hr2'.at_ (by simp)
            obtain ⟨x5, y5, rfl, hc5⟩ := hr5.at_ (by simp)
            have g1 : wc.cell? ⟨x1, y1, none⟩ = some (.int .u8 ((lrc (a.take k)).toNat : Int)) := hc1 0 (by simp)
            have g2 : wc.cell? ⟨x2, y2, none⟩ = some (.int .u8 ((lrc (b.take k)).toNat : Int)) := hc2 0 (by simp)
            have g5 : wc.cell? ⟨x5, y5, none⟩ = some (.int .u8 ((lrc (a.take k ++ b.take k)).toNat : Int)) := hc5 0 (by simp)
            have s1 : (sumS 0 (a.take k)).length = 1 := rfl
            have s2 : (sumS 0 (b.take k)).length = 1 := rfl
            rw [s1, s2]
            have e1 := xor_u8 (lrc (a.take k)) (lrc (b.take k))
            rw [lrc_append] at g5
            generalize lrc (a.take k) = z1 at g1 g5 e1
            generalize lrc (b.take k) = z2 at g2 g5 e1
            generalize z1 ^^^ z2 = z5 at g5 e1
            clear hc1 hc2 hc5 s1 s2 hr1' hr2' hr5 hr1 hr2 hO hbN hxa hxb hla1 hla2 hla3 hra2 hrb2 hra' hrb' hrc'
            go_wp2
            go_still_tail 27, (by kernel_rfl)
            change wpList _ _ _ _ _ wc.drew
            have hb5' := hb5.drew
            go_wp2_with fail
            refine (awake_any _).mono ?_
            rintro e w7 ⟨rfl, hb7⟩
            go_wp2
            go_ret
            exact ⟨rfl, hb5'.trans (hb7.mono hb5'.size)⟩
end Go.Proofs.Ytkcmbdnfohkjkaa
