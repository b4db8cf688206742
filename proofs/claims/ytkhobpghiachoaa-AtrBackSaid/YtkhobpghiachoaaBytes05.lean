/-
  The reference's encoding: the walk.
-/
import Derived.Test.YtkhobpghiachoaaGrpR05
namespace Go.Proofs.Ytkhobpghiachoaa
open Go.RowKit Crc
set_option linter.unusedVariables false

theorem presR_bd {p0 : Int} {ps : List Int} {st : Int × If} {l : List If} (h : Ruled p0 ps st l) (n g : Int) : 0 ≤ presR l n g ∧ presR l n g ≤ 240 := by
  obtain ⟨j, _, h2⟩ := pres_eight (gp l g) (fun x hx => by have := h.basic x (gp_mem hx).1; omega) (gp_kinds h g)
  unfold presR
  rw [h2]
  split <;> omega
/-- One round of the reference's encoding: the values of group i + 1, and the byte that tells of the next. -/
def stepS (p0 : Int) (l : List If) (n i : Nat) : List UInt8 := valsR l ((i : Int) + 1) ++ (if i + 1 < n then [byteI (presR l n ((i : Int) + 2) + protR p0 l ((i : Int) + 2))] else [])
theorem stepS_len (p0 : Int) (l : List If) (n i : Nat) : (stepS p0 l n i).length ≤ l.length + 1 := by
  unfold stepS valsR gp
  rw [List.length_append, List.length_map]
  have := List.length_filter_le (fun x : If => decide (x.g = (i : Int) + 1)) l
  split
  · simp; omega
  · simp; omega
theorem byteI_in {z : Int} (h0 : 0 ≤ z) (h1 : z ≤ 255) : (#[Value.int .u8 z] : Array Value) = (bv [byteI z]).toArray := by
  simp only [bv, List.map_cons, List.map_nil, byteI_toNat]
  rw [Int.emod_eq_of_lt h0 (by omega)]
theorem stepsS_len (p0 : Int) (l : List If) (n : Nat) : ∀ k : Nat, ((List.range k).flatMap (stepS p0 l n)).length ≤ k * (l.length + 1)
  | 0 => by simp
  | k + 1 => by
    have h1 := stepsS_len p0 l n k
    have h2 := stepS_len p0 l n k
    rw [List.range_succ, List.flatMap_append, List.length_append]
    simp only [List.flatMap_cons, List.flatMap_nil, List.append_nil]
    rw [Nat.succ_mul]
    omega

set_option maxRecDepth 100000 in
set_option maxHeartbeats 8000000 in
theorem bytes_go (aI : Bool) (bA : Option Addr) (bC : Nat) (bs : List If) (pA : Option Addr) (pC : Nat) (ps : List Int) (hA : Option Addr) (hC : Nat) (hs : List UInt8) (E : List UInt8) (N : Nat)
    (hEE : E = encR ⟨aI, bA, bC, bs, pA, pC, ps, hA, hC, hs⟩) (hNN : N = nG ⟨aI, bA, bC, bs, pA, pC, ps, hA, hC, hs⟩) (w : World) (hi : AtrIn w ⟨aI, bA, bC, bs, pA, pC, ps, hA, hC, hs⟩) (hbl : bs.length ≤ 1000)
    (hr : rulesF ⟨aI, bA, bC, bs, pA, pC, ps, hA, hC, hs⟩ = true) (hN2 : N ≤ 200) :
    Calls Try.prog 38 #[.agg #[.bool aI, .slice bA bs.length bC, .slice pA ps.length pC, .slice hA hs.length hC]] w fun e w' =>
      ∃ A c, e = .returned (.slice A E.length c) ∧ RB w' A E ∧ Below w.heap.size w w' := by
  have hv := valid_of hr
  have hk0 := Blk.made w 27 #[.bool aI, .slice bA bs.length bC, .slice pA ps.length pC, .slice hA hs.length hC]
  have hb0 := (Below.refl w.heap.size w).alloc (Nat.le_refl _) (.cells #[.bool aI, .slice bA bs.length bC, .slice pA ps.length pC, .slice hA hs.length hC] 27)
  obtain ⟨W0, hW0⟩ : ∃ W0 : World, W0 = w.alloc (.cells #[.bool aI, .slice bA bs.length bC, .slice pA ps.length pC, .slice hA hs.length hC] 27) := ⟨_, rfl⟩
  rw [← hW0] at hk0 hb0
  have hi0 := hi.below hb0
  have n0 : W0.cell? ⟨w.heap.size, 0, none⟩ = some (.bool aI) := hk0.cell 0
  have n1 : W0.cell? ⟨w.heap.size, 1, none⟩ = some (.slice bA bs.length bC) := hk0.cell 1
  have n2 : W0.cell? ⟨w.heap.size, 2, none⟩ = some (.slice pA ps.length pC) := hk0.cell 2
  have n3 : W0.cell? ⟨w.heap.size, 3, none⟩ = some (.slice hA hs.length hC) := hk0.cell 3
  have hk0s := hk0.size
  obtain ⟨fb, hfb⟩ : ∃ fb : UInt8, fb = (if aI = true then 63 else 59) := ⟨_, rfl⟩
  obtain ⟨p0, hp0d⟩ : ∃ p0, p0 = ps.headD 0 := ⟨_, rfl⟩
  obtain ⟨ob, hob⟩ : ∃ ob, ob = [fb, byteI (presR bs N 1 + (hs.length : Int))] := ⟨_, rfl⟩
  have hE : Hid (E = (let o := ob ++ (List.range N).flatMap (stepS p0 bs N) ++ hs; if decide (1 ∈ ps) = true then o ++ [lrc (o.drop 1)] else o)) := by
    show _ = _
    rw [hEE, hob, hfb, hp0d, hNN]
    rfl
  have hhs := hv.hs
  have hrr := hv.r
  have hps := hv.ps
  simp only at hhs hrr hps
  rw [← hp0d] at hrr
  have hn1 := hv.n1
  rw [← hNN] at hn1
  simp only at hn1
  rw [← hp0d] at hn1
  obtain ⟨hN1, hNL, _, _⟩ := hn1
  have hprot := fun g => protR_one hrr (okPs_one hps).1 (by rw [hp0d]; exact (okPs_one hps).2) g
  have hpres := fun g => presR_bd hrr (N : Int) g
  have hlast : ∀ w', AtrIn w' ⟨aI, bA, bC, bs, pA, pC, ps, hA, hC, hs⟩ → Hid (Calls Try.prog 55 #[.agg #[.bool aI, .slice bA bs.length bC, .slice pA ps.length pC, .slice hA hs.length hC]] w' fun e w2 => e = .returned (.int .i64 (N : Int)) ∧ Below w'.heap.size w' w2) := fun w' h => by
    show Calls _ _ _ _ _
    rw [hNL, hp0d]
    exact last_any _ w' h hbl hr
  have hgrp : ∀ w' g, AtrIn w' ⟨aI, bA, bC, bs, pA, pC, ps, hA, hC, hs⟩ → Hid (Calls Try.prog 56 #[.agg #[.bool aI, .slice bA bs.length bC, .slice pA ps.length pC, .slice hA hs.length hC], .int .i64 g, .int .i64 (N : Int)] w' fun e w2 =>
      ∃ A c, e = .returned (.tuple #[.slice A (valsR bs g).length c, .int .i64 (presR bs N g), .int .i64 (protR p0 bs g)]) ∧ RB w2 A (valsR bs g) ∧ (∀ a : Addr, A = some a → w'.heap.size ≤ a.block) ∧ Below w'.heap.size w' w2) := fun w' g h => by
    show Calls _ _ _ _ _
    rw [hp0d]
    exact rgroup_any _ w' h hbl hr g N
  have hpl : ps.length ≤ 2 := by rcases okPs_mem hps with h | h | h <;> rw [h] <;> simp
  have hT := byteT
  have HOB := Lib.hid hob
  have hobl : ob.length = 2 := by rw [hob]; rfl
  have HFB := Lib.hid hfb
  have hvl : ∀ g, (valsR bs g).length ≤ 1000 := fun g => by
    unfold valsR gp
    rw [List.length_map]
    exact Nat.le_trans (List.length_filter_le _ _) hbl
  clear hEE hNN hv hob hfb hp0d hNL hps hrr hr
  go_enter Try.func38, Try.ntmps38
  go_upto_region 1 with fail
  rw [← hW0]
  clear hW0
  have hown1 : Own 5 (W0.alloc (.cells #[.int .u8 59] 5)) W0.heap.size (.slice (some ⟨W0.heap.size, 0, none⟩) 1 1) [59] := Own.made (xs := [59]) (Nat.le_refl _) _ rfl (by decide)
  have hb1 := (Below.refl W0.heap.size W0).alloc (Nat.le_refl _) (.cells #[.int .u8 59] 5)
  have m0 := (hb1.cell (p := ⟨w.heap.size, 0, none⟩) hk0s).trans n0
  go_upto_region 2 with fail
  go_upto_if 14 with fail
  go_cut [] (fun wx => Own 5 wx W0.heap.size (.slice (some ⟨W0.heap.size, 0, none⟩) 1 1) [fb] ∧ Below W0.heap.size W0 wx)
  case first =>
    cases aI
    · have h2 : Hid (fb = 59) := by rw [HFB.out]; exact rfl
      go_wp2_with fail
      go_meet
      exact ⟨by rw [h2.out]; exact hown1, hb1⟩
    · have h2 : Hid (fb = 63) := by rw [HFB.out]; exact rfl
      have hs1 : Own 5 (W0.alloc (.cells #[.int .u8 63] 5)) W0.heap.size (.slice (some ⟨W0.heap.size, 0, none⟩) 1 1) [63] := Own.made (xs := [63]) (Nat.le_refl _) _ rfl (by decide)
      have hb1' := (Below.refl W0.heap.size W0).alloc (Nat.le_refl _) (.cells #[.int .u8 63] 5)
      have hfz : (W0.alloc (.cells #[.int .u8 59] 5)).frozen? ⟨W0.heap.size, 0, none⟩ = false := (Blk.made W0 _ _).free 0
      go_wp2_with fail
      go_meet
      exact ⟨by rw [h2.out]; exact hs1, hb1'⟩
  case rest =>
    obtain ⟨hown2, hb2⟩ := hcut
    have hs2 := hb2.size
    have hiC := hi0.below hb2
    have c0 := (hb2.cell (p := ⟨w.heap.size, 0, none⟩) hk0s).trans n0
    have c1 := (hb2.cell (p := ⟨w.heap.size, 1, none⟩) hk0s).trans n1
    have c2 := (hb2.cell (p := ⟨w.heap.size, 2, none⟩) hk0s).trans n2
    have c3 := (hb2.cell (p := ⟨w.heap.size, 3, none⟩) hk0s).trans n3
    clear hown1 hb1 m0 HFB
    go_wp2_with fail
    refine (hlast wc hiC).out.mono ?_
    rintro e w3 ⟨rfl, hb3⟩
    have hb3' := hb2.trans (hb3.mono hb2.size)
    have hown3 := owns_keep hown2 (fun k hk => hb3.block k (owns_lt hown2 k hk).2)
    clear c0 c1 c2 c3 hown2 hlast hiC
    have hi3 := hi0.below hb3'
    have c0 := (hb3'.cell (p := ⟨w.heap.size, 0, none⟩) hk0s).trans n0
    have c1 := (hb3'.cell (p := ⟨w.heap.size, 1, none⟩) hk0s).trans n1
    have c2 := (hb3'.cell (p := ⟨w.heap.size, 2, none⟩) hk0s).trans n2
    have c3 := (hb3'.cell (p := ⟨w.heap.size, 3, none⟩) hk0s).trans n3
    go_wp2_with fail
    refine (hgrp w3 1 hi3).out.mono ?_
    rintro e w4 ⟨A4, c4, rfl, hr4, hf4, hb4⟩
    have hb4' := hb3'.trans (hb4.mono hb3'.size)
    have hne4 : ∀ k, (Value.slice (some ⟨W0.heap.size, 0, none⟩) 1 1).ownBlock = some k → k < w3.heap.size := fun k hk => (owns_lt hown3 k hk).2
    have hown4 := owns_keep hown3 (fun k hk => hb4.block k (owns_lt hown3 k hk).2)
    clear c0 c1 c2 c3 hown3 hi3 hb2 hs2 hb3 hb3'
    have c3 := (hb4'.cell (p := ⟨w.heap.size, 3, none⟩) hk0s).trans n3
    obtain ⟨pz, hpz⟩ : ∃ pz, pz = presR bs N 1 := ⟨_, rfl⟩
    have hpzb := hpres 1
    rw [← hpz] at hpzb HOB
    rw [← hpz]
    clear hpz
    have hbz := (Below.refl w4.heap.size w4).alloc (Nat.le_refl _) (.cells #[.int .u8 (pz + (hs.length : Int))] 5)
    have hownZ : Own 5 (w4.alloc (.cells #[.int .u8 (pz + (hs.length : Int))] 5)) W0.heap.size (.slice (some ⟨W0.heap.size, 0, none⟩) 1 1) [fb] := owns_keep hown4 (fun k hk => hbz.block k (owns_lt hown4 k hk).2)
    have hrZ : RB (w4.alloc (.cells #[.int .u8 (pz + (hs.length : Int))] 5)) (some ⟨w4.heap.size, 0, none⟩) [byteI (pz + (hs.length : Int))] := RB.made w4 _ _ _ (byteI_in (by omega) (by omega))
    have hr4Z := hr4.below hbz
    have hbzs := (hb4'.trans (hbz.mono hb4'.size))
    obtain ⟨vl1, hvl1⟩ : ∃ vl1, vl1 = valsR bs 1 := ⟨_, rfl⟩
    rw [← hvl1] at hr4 hr4Z
    rw [← hvl1]
    have HV1 := Lib.hid hvl1
    clear hvl1
    have he1 : IntKind.i64.wrap (pz + (hs.length : Int)) = pz + (hs.length : Int) := IntWalk.i64_in _ (by omega)
    go_wp2_with (at_builtin; refine wpList_append_g rfl hT (.tmp 26) (.tmp 33) rfl rfl rfl hownZ hrZ rfl (by simp) hbzs.size ?_; intro v5 w5 hown5 hb5 hg5; have hr5 := hr4Z.grown hg5 (fun a ha e => by have h1 := hf4 a ha; have h2 := hne4 a.block e; omega))
    have hb5' := hbzs.trans hb5
    have hown5' : Own 5 w5 W0.heap.size v5 (ob ++ (List.range 0).flatMap (stepS p0 bs N)) := by
      rw [HOB.out]
      simpa using hown5
    have hvl1' : vl1.length ≤ 1000 := by rw [HV1.out]; exact hvl 1
    have HV1' : 0 < N → Hid (vl1 = valsR bs (((0 : Nat) : Int) + 1)) := fun _ => HV1
    clear hr4 hr4Z hf4 hb4 hb4' hne4 hown4 c3 HOB hpzb hbz hownZ hrZ hbzs hown5 hb5 he1 HV1
    go_wp2
    go_loopw [3, 5, 8] (fun v vv i wx => ∃ (k : Nat) (vl : List UInt8) (A : Option Addr) (c : Nat), k ≤ N ∧ i = .int .i64 ((k : Int) + 1) ∧ vv = .slice A vl.length c ∧ vl.length ≤ 1000 ∧ (k < N → RB wx A vl ∧ Hid (vl = valsR bs ((k : Int) + 1))) ∧
      Own 5 wx W0.heap.size v (ob ++ (List.range k).flatMap (stepS p0 bs N)) ∧ Below W0.heap.size W0 wx) (fun _ _ i _ => (N + 1) - (intOf i).toNat)
    case atStart => exact ⟨0, vl1, A4, c4, Nat.zero_le _, rfl, rfl, hvl1', fun h => ⟨hr5, HV1' h⟩, hown5', hb5'⟩
    case round =>
      obtain ⟨k, vl, A, c, hkN, rfl, rfl, hvll, HVL, hown, hbr⟩ := hrel
      clear hr5 hvl1' HV1' hown5' hb5'
      have c0 := (hbr.cell (p := ⟨w.heap.size, 0, none⟩) hk0s).trans n0
      have c1 := (hbr.cell (p := ⟨w.heap.size, 1, none⟩) hk0s).trans n1
      have c2 := (hbr.cell (p := ⟨w.heap.size, 2, none⟩) hk0s).trans n2
      have c3 := (hbr.cell (p := ⟨w.heap.size, 3, none⟩) hk0s).trans n3
      have hOl : (ob ++ (List.range k).flatMap (stepS p0 bs N)).length ≤ 300000 := by
        have h := stepsS_len p0 bs N k
        have h2 : k * (bs.length + 1) ≤ 200 * 1001 := Nat.mul_le_mul (by omega) (by omega)
        rw [List.length_append]
        omega
      obtain ⟨O, hO⟩ : ∃ O, O = ob ++ (List.range k).flatMap (stepS p0 bs N) := ⟨_, rfl⟩
      have HO1 : Hid (ob ++ (List.range (k + 1)).flatMap (stepS p0 bs N) = O ++ stepS p0 bs N k) := by
        show _ = _
        rw [List.range_succ, List.flatMap_append, hO]
        simp
      rw [← hO] at hown hOl
      have HO := Lib.hid hO
      clear hO
      have hi1 : (0 : Int) ≤ (k : Int) := by omega
      by_cases hk : k < N
      · have hkI : (k : Int) + 1 ≤ (N : Int) := by omega
        obtain ⟨hrv, HVK⟩ := HVL hk
        clear HVL c0 c1 c2 c3
        by_cases hk1 : k + 1 < N
        · have hk1I : (k : Int) + 1 < (N : Int) := by omega
          have HSS : Hid (stepS p0 bs N k = vl ++ [byteI (presR bs N ((k : Int) + 2) + protR p0 bs ((k : Int) + 2))]) := by
            show _ = _
            unfold stepS
            rw [if_pos hk1, ← HVK.out]
          have hpb := hpres ((k : Int) + 2)
          have hqb := hprot ((k : Int) + 2)
          have hG2 := fun w6 => hgrp w6 ((k : Int) + 2)
          have hv2 := hvl ((k : Int) + 2)
          obtain ⟨vl2, hvl2⟩ : ∃ vl2, vl2 = valsR bs ((k : Int) + 2) := ⟨_, rfl⟩
          obtain ⟨pz, hpz⟩ : ∃ pz, pz = presR bs N ((k : Int) + 2) := ⟨_, rfl⟩
          obtain ⟨qz, hqz⟩ : ∃ qz, qz = protR p0 bs ((k : Int) + 2) := ⟨_, rfl⟩
          rw [← hpz] at hpb HSS
          rw [← hqz] at hqb HSS
          rw [← hvl2] at hv2
          simp only [← hpz, ← hqz, ← hvl2] at hG2
          have HVN : Hid (vl2 = valsR bs (((k + 1 : Nat) : Int) + 1)) := by
            show _ = _
            rw [hvl2, show (((k + 1 : Nat) : Int) + 1) = (k : Int) + 2 from by omega]
          clear hpz hqz hvl2 hprot hpres hvl hgrp
          go_wp2_with (at_builtin; refine wpList_append_g rfl hT (.tmp 40) (.tmp 41) rfl rfl rfl hown hrv rfl (by omega) hbr.size ?_; intro v6 w6 hown6 hb6 hg6; have hb6' := hbr.trans hb6; have hi6 := hi0.below hb6'; have c0 := (hb6'.cell (p := ⟨w.heap.size, 0, none⟩) hk0s).trans n0; have c1 := (hb6'.cell (p := ⟨w.heap.size, 1, none⟩) hk0s).trans n1; have c2 := (hb6'.cell (p := ⟨w.heap.size, 2, none⟩) hk0s).trans n2; have c3 := (hb6'.cell (p := ⟨w.heap.size, 3, none⟩) hk0s).trans n3)
          refine (hG2 w6 hi6).out.mono ?_
          rintro e w7 ⟨A7, c7, rfl, hr7, hf7, hb7⟩
          have hb7' := hb6'.trans (hb7.mono hb6'.size)
          have hne7 : ∀ k, v6.ownBlock = some k → k < w6.heap.size := fun k hk => (owns_lt hown6 k hk).2
          have hown7 := owns_keep hown6 (fun k hk => hb7.block k (owns_lt hown6 k hk).2)
          clear c0 c1 c2 c3 hi6 hown6 hb6 hg6 hG2 hown hrv
          have hpq : 0 ≤ pz + qz ∧ pz + qz ≤ 255 := by omega
          have hbz := (Below.refl w7.heap.size w7).alloc (Nat.le_refl _) (.cells #[.int .u8 (pz + qz)] 5)
          have hownZ : Own 5 (w7.alloc (.cells #[.int .u8 (pz + qz)] 5)) W0.heap.size v6 (O ++ vl) := owns_keep hown7 (fun k hk => hbz.block k (owns_lt hown7 k hk).2)
          have hrZ : RB (w7.alloc (.cells #[.int .u8 (pz + qz)] 5)) (some ⟨w7.heap.size, 0, none⟩) [byteI (pz + qz)] := RB.made w7 _ _ _ (byteI_in (by omega) (by omega))
          have hr7Z := hr7.below hbz
          have hbzs := (hb7'.trans (hbz.mono hb7'.size))
          have hll : (O ++ vl).length + 1 ≤ 68719476736 := by rw [List.length_append]; omega
          go_wp2_with (at_builtin; refine wpList_append_g rfl hT (.tmp 55) (.tmp 60) rfl rfl rfl hownZ hrZ rfl hll hbzs.size ?_; intro v8 w8 hown8 hb8 hg8; have hr8 := hr7Z.grown hg8 (fun a ha e => by have h1 := hf7 a ha; have h2 := hne7 a.block e; omega))
          go_roundw
          case rel => exact ⟨k + 1, vl2, A7, c7, by omega, by go_num, rfl, hv2, fun _ => ⟨hr8, HVN⟩, by rw [HO1.out, HSS.out, ← List.append_assoc]; exact hown8, hbzs.trans hb8⟩
          case measure => simp [intOf]; omega
        · have hk1I : ¬ ((k : Int) + 1 < (N : Int)) := by omega
          have HSS : Hid (stepS p0 bs N k = vl) := by
            show _ = _
            unfold stepS
            rw [if_neg hk1, List.append_nil]
            exact HVK.out.symm
          go_wp2_with (at_builtin; refine wpList_append_g rfl hT (.tmp 40) (.tmp 41) rfl rfl rfl hown hrv rfl (by omega) hbr.size ?_; intro v6 w6 hown6 hb6 hg6; have hb6' := hbr.trans hb6; have hi6 := hi0.below hb6')
          go_roundw
          case rel => exact ⟨k + 1, vl, A, c, by omega, by go_num, rfl, hvll, fun h => absurd h hk1, by rw [HO1.out, HSS.out]; exact hown6, hb6'⟩
          case measure => simp [intOf]; omega
      · have hkn : k = N := by omega
        subst hkn
        have hkI : ¬ ((k : Int) + 1 ≤ (k : Int)) := by omega
        have hO0 : 2 ≤ O.length := by rw [HO.out, List.length_append]; omega
        have hhR := hi0.h.below hbr
        simp only at hhR
        have hb6w := hb0.trans (hbr.mono hb0.size)
        clear HVL
        go_wp2_with (at_builtin; refine wpList_append_g rfl hT (.tmp 63) (.tmp 65) rfl rfl rfl hown hhR rfl (by omega) hbr.size ?_; intro v6 w6 hown6 hb6 hg6; have hb6' := hbr.trans hb6; have hi6 := hi0.below hb6'; have d2 := (hb6'.cell (p := ⟨w.heap.size, 2, none⟩) hk0s).trans n2)
        refine (has_any pA pC ps 1 w6 (by omega) hi6.p).mono ?_
        rintro e w7 ⟨rfl, rfl⟩
        obtain ⟨T, hTT⟩ : ∃ T, T = O ++ hs := ⟨_, rfl⟩
        rw [← hTT] at hown6
        have hTl : 1 < T.length ∧ T.length ≤ 400000 := by rw [hTT, List.length_append]; omega
        have HT := Lib.hid hTT
        clear hTT
        obtain ⟨g2, cap2, rfl, hcap2, hbase2, hcell2, hfr2⟩ := hown6.form (by omega)
        have hbE := hb0.trans (hb6'.mono hb0.size)
        by_cases h1 : (1 : Int) ∈ ps
        · rw [decide_eq_true h1]
          have HF : Hid (E = T ++ [lrc (T.drop 1)]) := by
            show _ = _
            rw [hE.out, if_pos (by rw [decide_eq_true h1]), HT.out, HO.out]
          clear h1
          have hcn : ¬ cap2 = 1 := by omega
          have hrb : RB w6 (some ⟨g2, 1, none⟩) (T.drop 1) := by
            have h := hown6.rb.drop 1 cap2 hcap2
            rw [if_neg hcn] at h
            exact h
          have hdl : (T.drop 1).length = T.length - 1 := List.length_drop
          have hq := rsum_any (some ⟨g2, 1, none⟩) (cap2 - 1) (T.drop 1) w6 (by omega) hrb
          rw [hdl] at hq
          go_wp2_with fail
          refine hq.mono ?_
          rintro e w8 ⟨rfl, rfl⟩
          clear hq
          obtain ⟨lz, hlz⟩ : ∃ lz, lz = lrc (T.drop 1) := ⟨_, rfl⟩
          rw [← hlz] at HF
          rw [← hlz]
          clear hlz
          have hbz := (Below.refl w6.heap.size w6).alloc (Nat.le_refl _) (.cells #[.int .u8 (lz.toNat : Int)] 5)
          have hownZ : Own 5 (w6.alloc (.cells #[.int .u8 (lz.toNat : Int)] 5)) W0.heap.size (.slice (some ⟨g2, 0, none⟩) T.length cap2) T := owns_keep hown6 (fun k hk => hbz.block k (owns_lt hown6 k hk).2)
          have hrZ : RB (w6.alloc (.cells #[.int .u8 (lz.toNat : Int)] 5)) (some ⟨w6.heap.size, 0, none⟩) [lz] := RB.made w6 _ _ _ rfl
          have hbzs := hb6'.trans (hbz.mono hb6'.size)
          go_wp2_with (at_builtin; refine wpList_append_g rfl hT (.tmp 70) (.tmp 74) rfl rfl rfl hownZ hrZ rfl (by omega) hbzs.size ?_; intro v9 w9 hown9 hb9 hg9; have hbF := hb0.trans ((hbzs.trans hb9).mono hb0.size); obtain ⟨A5, c5, hv5, hlc5, hr5⟩ := hown9.reads; subst hv5)
          go_ret
          rw [HF.out]
          exact ⟨A5, c5, by rw [List.length_append]; rfl, hr5, hbF⟩
        · rw [decide_eq_false h1]
          have HF : Hid (E = T) := by
            show _ = _
            rw [hE.out, if_neg (by rw [decide_eq_false h1]; decide), HT.out, HO.out]
          clear h1
          go_wp2
          go_ret
          rw [HF.out]
          exact ⟨_, _, rfl, hown6.rb, hbE⟩
theorem bytes_any (a : Atr) (w : World) (hi : AtrIn w a) (hbl : a.bs.length ≤ 100) (hr : rulesF a = true) :
    Calls Try.prog 38 #[.agg (atrCs a)] w fun e w' => ∃ A c, e = .returned (.slice A (encR a).length c) ∧ RB w' A (encR a) ∧ Below w.heap.size w w' := by
  have hv := valid_of hr
  have hn := hv.n1
  have hf := valid_few hr
  have hN : nG a ≤ 200 := by
    have h1 : lastG a.bs ≤ 103 := by
      unfold lastG
      rcases List.eq_nil_or_concat a.bs with e | ⟨l', z, e⟩
      · rw [e]; decide
      · have hz := hf z (by rw [e]; simp)
        rw [e]
        simp only [List.concat_eq_append, List.foldl_append, List.foldl_cons, List.foldl_nil]
        omega
    have h2 := hn.2.2.2
    split at h2 <;> omega
  obtain ⟨aI, bA, bC, bs, pA, pC, ps, hA, hC, hs⟩ := a
  exact bytes_go aI bA bC bs pA pC ps hA hC hs _ _ rfl rfl w hi (by simp only at hbl ⊢; omega) hr hN
end Go.Proofs.Ytkhobpghiachoaa
