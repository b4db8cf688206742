/-
  The encoding of an answer to reset: the walk.
-/
import Derived.Test.YtkhobpghiachoaaGroups
import Derived.Test.YtkhobpghiachoaaApp
import Derived.Test.YtkhobpghiachoaaLrc
import Derived.Test.YtkhobpghiachoaaSumL
import Derived.IntWalk
namespace Go.Proofs.Ytkhobpghiachoaa
open Go.RowKit Crc
set_option linter.unusedVariables false

def byteI (z : Int) : UInt8 := UInt8.ofNat (z % 256).toNat
theorem byteI_toNat (z : Int) : ((byteI z).toNat : Int) = z % 256 := by
  unfold byteI
  rw [UInt8.toNat_ofNat', Nat.mod_eq_of_lt (by omega)]
  omega
theorem wrap_byte (z : Int) : IntKind.u8.wrap z = ((byteI z).toNat : Int) := by
  rw [byteI_toNat]
  rfl
/-- A step of the encoding: the bytes of group i, and the byte that tells of the next. -/
def encG (L : List (Int × List If)) (i : Nat) : List UInt8 :=
  (match L[i]? with | some (_, xs) => xs.map fun x => byteI x.v | none => []) ++
  (match L[i + 1]? with | some (p, xs) => [byteI (bits BinOp.or IntKind.i64 (presF xs (decide (i + 2 = L.length))) p)] | none => [])
def encHead (inv : Bool) (L : List (Int × List If)) (n : Nat) : List UInt8 :=
  [if inv = true then 63 else 59, byteI (bits BinOp.or IntKind.i64 (presF (match L[0]? with | some (_, xs) => xs | none => []) (decide (L.length = 1))) (n : Int))]
def encUpto (inv : Bool) (L : List (Int × List If)) (n k : Nat) : List UInt8 := encHead inv L n ++ (List.range k).flatMap (encG L)
def encAll (inv : Bool) (L : List (Int × List If)) (hs : List UInt8) (one : Bool) : List UInt8 :=
  let o := encUpto inv L hs.length L.length ++ hs
  if one = true then o ++ [lrc (o.drop 1)] else o

theorem encG_len {L : List (Int × List If)} (h : ∀ e ∈ L, e.2.length ≤ 1000) (i : Nat) : (encG L i).length ≤ 1001 := by
  unfold encG
  rw [List.length_append]
  have h1 : (match L[i]? with | some (_, xs) => xs.map fun x : If => byteI x.v | none => []).length ≤ 1000 := by
    rcases hi : L[i]? with _ | ⟨p, xs⟩
    · simp
    · have := h _ (List.mem_of_getElem? hi)
      simpa using this
  have h2 : (match L[i + 1]? with | some (p, xs) => [byteI (bits BinOp.or IntKind.i64 (presF xs (decide (i + 2 = L.length))) p)] | none => []).length ≤ 1 := by
    rcases hi : L[i + 1]? with _ | ⟨p, xs⟩ <;> simp
  omega
theorem encR_len {L : List (Int × List If)} (h : ∀ e ∈ L, e.2.length ≤ 1000) : ∀ k : Nat, ((List.range k).flatMap (encG L)).length ≤ k * 1001
  | 0 => by simp
  | k + 1 => by
    have h1 := encR_len h k
    have h2 := encG_len h k
    rw [List.range_succ, List.flatMap_append, List.length_append]
    simp only [List.flatMap_cons, List.flatMap_nil, List.append_nil]
    omega

theorem addG_mem {G : List (Int × List If)} {x : If} : ∀ e ∈ addG G x, ∀ y ∈ e.2, y = x ∨ ∃ e' ∈ G, y ∈ e'.2 := by
  intro e he y hy
  unfold addG at he
  rcases hq : G[(x.g - 1).toNat]? with _ | ⟨p, l⟩
  · rw [hq] at he
    exact .inr ⟨e, he, hy⟩
  · rw [hq] at he
    rcases List.mem_or_eq_of_mem_set he with he | rfl
    · exact .inr ⟨e, he, hy⟩
    · rcases List.mem_append.1 hy with hy | hy
      · exact .inr ⟨_, List.mem_of_getElem? hq, hy⟩
      · exact .inl (by simpa using hy)
theorem grpF_memK (p0 : Int) (m : Nat) (l : List If) : ∀ k, k ≤ l.length → ∀ e ∈ grpF p0 m (l.take k), ∀ y ∈ e.2, y ∈ l
  | 0, _ => by
    intro e he
    simp [grpF, gS, gI] at he
    obtain ⟨j, _, rfl⟩ := he
    simp
  | k + 1, hk => by
    rw [grpF_take (by omega)]
    intro e he y hy
    rcases addG_mem e he y hy with rfl | ⟨e', he', hy'⟩
    · exact List.getElem_mem _
    · exact grpF_memK p0 m l k (by omega) e' he' y hy'
theorem grpF_mem (p0 : Int) (m : Nat) (l : List If) : ∀ e ∈ grpF p0 m l, ∀ y ∈ e.2, y ∈ l := by
  have h := grpF_memK p0 m l l.length (Nat.le_refl _)
  rwa [List.take_length] at h
theorem grpF_lenA (p0 : Int) (m : Nat) (l : List If) : ∀ e ∈ grpF p0 m l, e.2.length ≤ l.length := by
  have h := grpF_len p0 m l l.length (Nat.le_refl _)
  rwa [List.take_length] at h
theorem gS_mem (G : List Gm) (i : Nat) (h : i < G.length) : (G[i].p, G[i].xs) ∈ gS G := List.mem_map.2 ⟨G[i], List.getElem_mem h, rfl⟩

set_option maxRecDepth 100000 in
set_option maxHeartbeats 8000000 in
theorem encode_go (aI : Bool) (bA : Option Addr) (bC : Nat) (bs : List If) (pb po pC : Nat) (p0 : Int) (ps : List Int) (hA : Option Addr) (hC : Nat) (hs : List UInt8) (w : World)
    (hb : RC w bA (ifv bs)) (hp : RC w (some ⟨pb, po, none⟩) (nv ps)) (hp0 : w.cell? ⟨pb, po, none⟩ = some (.int .i64 p0)) (hh : RB w hA hs) (hbl : bs.length ≤ 1000) (hpn : 0 < ps.length) (hpn2 : ps.length ≤ 2) (hhl : hs.length ≤ 15)
    (hg : ∀ x ∈ bs, 1 ≤ x.g ∧ x.g ≤ 33) (hkk : ∀ x ∈ bs, 0 ≤ x.k ∧ x.k < 3) :
    Calls Try.prog 36 #[.agg #[.bool aI, .slice bA bs.length bC, .slice (some ⟨pb, po, none⟩) ps.length pC, .slice hA hs.length hC]] w fun e w' => ∃ A c, e = .returned (.slice A (encAll aI (grpF p0 (numF p0 ps.length bs).toNat bs) hs (decide (1 ∈ ps))).length c) ∧ RB w' A (encAll aI (grpF p0 (numF p0 ps.length bs).toNat bs) hs (decide (1 ∈ ps))) ∧ Below w.heap.size w w' := by
  have hk0 := Blk.made w 27 #[.bool aI, .slice bA bs.length bC, .slice (some ⟨pb, po, none⟩) ps.length pC, .slice hA hs.length hC]
  have hb0 := (Below.refl w.heap.size w).alloc (Nat.le_refl _) (.cells #[.bool aI, .slice bA bs.length bC, .slice (some ⟨pb, po, none⟩) ps.length pC, .slice hA hs.length hC] 27)
  obtain ⟨W0, hW0⟩ : ∃ W0 : World, W0 = w.alloc (.cells #[.bool aI, .slice bA bs.length bC, .slice (some ⟨pb, po, none⟩) ps.length pC, .slice hA hs.length hC] 27) := ⟨_, rfl⟩
  rw [← hW0] at hk0 hb0
  have n0 : W0.cell? ⟨w.heap.size, 0, none⟩ = some (.bool aI) := hk0.cell 0
  have n1 : W0.cell? ⟨w.heap.size, 1, none⟩ = some (.slice bA bs.length bC) := hk0.cell 1
  have n2 : W0.cell? ⟨w.heap.size, 2, none⟩ = some (.slice (some ⟨pb, po, none⟩) ps.length pC) := hk0.cell 2
  have n3 : W0.cell? ⟨w.heap.size, 3, none⟩ = some (.slice hA hs.length hC) := hk0.cell 3
  have hbW := hb.below hb0
  have hpW := hp.below hb0
  have hhW := hh.below hb0
  have hp0W := (hb0.cell (cell?_lt hp0)).trans hp0
  obtain ⟨fb, hfb⟩ : ∃ fb : UInt8, fb = (if aI = true then 63 else 59) := ⟨_, rfl⟩
  have HFB := Lib.hid hfb
  clear hfb
  go_enter Try.func36, Try.ntmps36
  go_upto_region 1 with fail
  rw [← hW0]
  clear hW0
  go_upto_region 2 with fail
  go_upto_if 13 with fail
  go_cut [3] (fun s wx => s = .int .u8 (fb.toNat : Int) ∧ wx = W0)
  case first =>
    cases aI
    · have h2 : Hid (fb = 59) := by rw [HFB.out]; exact rfl
      go_wp2_with fail
      go_meet
      exact ⟨by rw [h2.out]; rfl, rfl⟩
    · have h2 : Hid (fb = 63) := by rw [HFB.out]; exact rfl
      go_wp2_with fail
      go_meet
      exact ⟨by rw [h2.out]; rfl, rfl⟩
  case rest =>
    obtain ⟨rfl, hw⟩ := hcut
    have hw := hw.symm
    subst hw
    clear hw
    go_wp2_with fail
    refine (groups_go aI bA bC bs pb po pC p0 ps.length hA hC hs W0 hbW hp0W (by omega) hpn hpn2 hg).mono ?_
    rintro e w1 ⟨m, gb, G, hmN, hm1, hm34, rfl, hG, hGl, hGS, hgb, hb1⟩
    have HMN := Lib.hid hmN
    clear hmN
    have hmi : (0 : Int) < (m : Int) := by omega
    have hmn : 0 < m := by omega
    have h0G : 0 < G.length := by omega
    obtain ⟨A0, c0, hv0, hlc0, hr0⟩ := owns_reads (hG.own 0 h0G)
    have y0 : w1.cell? ⟨gb, 0, none⟩ = some (.int .i64 G[0].p) := gcs_cell hG.blk 0 0 h0G (by decide)
    have y1 : w1.cell? ⟨gb, 1, none⟩ = some (.slice A0 G[0].xs.length c0) := by
      have h := gcs_cell hG.blk 0 1 h0G (by decide)
      rw [show (gL G[0])[1]? = some G[0].v from rfl, hv0] at h
      exact h
    have c3 := (hb1.cell (p := ⟨w.heap.size, 3, none⟩) hk0.size).trans n3
    have hbs := hk0.size
    have hbsl : w.heap.size < w1.heap.size := Nat.lt_of_lt_of_le hk0.size hb1.size
    have hXM : ∀ i, (hi : i < G.length) → ∀ x ∈ G[i].xs, 0 ≤ x.k ∧ x.k < 3 := fun i hi x hx => by
      have h1 := gS_mem G i hi
      rw [hGS] at h1
      exact hkk x (grpF_mem p0 m bs _ h1 x hx)
    have hXL : ∀ i, (hi : i < G.length) → G[i].xs.length ≤ 1000 := fun i hi => by
      have h1 := gS_mem G i hi
      rw [hGS] at h1
      have h2 := grpF_lenA p0 m bs _ h1
      simp only at h2
      omega
    have hpm := hXM 0 h0G
    have HGS := Lib.hid hGS
    clear hGS
    have hxl : G[0].xs.length ≤ 1048576 := by have := hXL 0 h0G; omega
    have hLm : G.length = m := hGl
    obtain ⟨g0p, hg0p⟩ : ∃ z, z = G[0].p := ⟨_, rfl⟩
    obtain ⟨g0x, hg0x⟩ : ∃ z, z = G[0].xs := ⟨_, rfl⟩
    rw [← hg0p] at y0
    rw [← hg0x] at y1 hr0 hpm hxl
    have HGX := Lib.hid hg0x
    clear hg0p hg0x hv0 hlc0
    obtain ⟨pz, hpz⟩ : ∃ pz : Int, pz = presF g0x (decide (m = 1)) := ⟨_, rfl⟩
    have hone : ((m : Int) == 1) = decide (m = 1) := by rw [Bool.eq_iff_iff]; simp; omega
    have hQ : ∀ w', Below w1.heap.size w1 w' → Hid (Calls Try.prog 53 #[.agg #[.int .i64 g0p, .slice A0 g0x.length c0], .bool ((m : Int) == 1)] w' fun e w2 => e = .returned (.int .i64 pz) ∧ Below w'.heap.size w' w2) := fun w' hb => by
      show Calls _ _ _ _ _
      rw [hone, hpz]
      exact pres_any g0p A0 c0 g0x _ w' hxl hpm (hr0.below hb)
    clear hpm hone
    have HPZ := Lib.hid hpz
    clear hpz
    go_upto_region 5 with fail
    go_cut [5] (fun v wx => Own 5 wx w1.heap.size v [fb, byteI (bits BinOp.or IntKind.i64 pz (hs.length : Int))] ∧ Below w1.heap.size w1 wx)
    case first =>
      go_region_law (go_simp; go_at_call 53; refine (hQ _ (below_drewN (Below.refl _ _) 1)).out.mono ?_; rintro e w2 ⟨rfl, hb2⟩; have hb3 := (below_drewN (Below.refl w1.heap.size w1) 1).trans hb2; have c3' := (hb3.cell (p := ⟨w.heap.size, 3, none⟩) hbsl).trans c3)
      all_goals
        go_wp2_with fail
        go_meet
        exact ⟨Own.made (xs := [fb, byteI (bits BinOp.or IntKind.i64 pz (hs.length : Int))]) hb3.size _ (by rw [wrap_byte]; rfl) (by simp), hb3.alloc hb3.size _⟩
    case rest =>
      obtain ⟨hown, hbc⟩ := hcut
      have hs1 := hbc.size
      have hGc := hG.below hbc
      have hB := bytesTried
      -- every group's memory, in words
      have hRD : ∀ i, (hi : i < G.length) → ∃ A c, w1.cell? ⟨gb, i * 2, none⟩ = some (.int .i64 G[i].p) ∧ w1.cell? ⟨gb, i * 2 + 1, none⟩ = some (.slice A G[i].xs.length c) ∧ RC w1 A (ifv G[i].xs) := fun i hi => by
        obtain ⟨A, c, hv, _, hr⟩ := owns_reads (hG.own i hi)
        refine ⟨A, c, gcs_cell hG.blk i 0 hi (by decide), ?_, hr⟩
        have h := gcs_cell hG.blk i 1 hi (by decide)
        rw [show (gL G[i])[1]? = some G[i].v from rfl, hv] at h
        exact h
      have hlg : gb < w1.heap.size := hG.blk.size
      obtain ⟨ob, hob⟩ : ∃ ob, ob = [fb, byteI (bits BinOp.or IntKind.i64 pz (hs.length : Int))] := ⟨_, rfl⟩
      rw [← hob] at hown
      have hobl : ob.length = 2 := by rw [hob]; rfl
      have HOB := Lib.hid hob
      clear hob hQ hr0 y0 y1 hG hGc
      go_wp2
      go_loopw [5, 32] (fun v i wx => ∃ k : Nat, k ≤ m ∧ i = .int .i64 k ∧ Own 5 wx w1.heap.size v (ob ++ (List.range k).flatMap (encG (gS G))) ∧ Below w1.heap.size w1 wx) (fun _ i _ => m - (intOf i).toNat)
      case atStart => exact ⟨0, Nat.zero_le _, rfl, by simpa using hown, hbc⟩
      case round =>
        clear hown hbc hs1
        obtain ⟨k, hkm, rfl, hown, hbr⟩ := hrel
        by_cases hk : k < m
        · have hkG : k < G.length := by omega
          obtain ⟨A1, c1, z0, z1, hr1⟩ := hRD k hkG
          have hxl1 := hXL k hkG
          have y0 := (hbr.cell (p := ⟨gb, k * 2, none⟩) hlg).trans z0
          have y1 := (hbr.cell (p := ⟨gb, k * 2 + 1, none⟩) hlg).trans z1
          have hr1' := hr1.below hbr
          have hi1 : (0 : Int) ≤ (k : Int) := by omega
          have hi2 : (k : Int) < (m : Int) := by omega
          have hgw : gb < wr.heap.size := Nat.lt_of_lt_of_le hlg hbr.size
          obtain ⟨O, hO⟩ : ∃ O, O = ob ++ (List.range k).flatMap (encG (gS G)) := ⟨_, rfl⟩
          have hOl : O.length ≤ 40000 := by
            have h1 := encR_len (L := gS G) (fun e he => by
              obtain ⟨mm, hmm, rfl⟩ := List.mem_map.1 he
              obtain ⟨ii, hii, rfl⟩ := List.mem_iff_getElem.1 hmm
              exact hXL ii hii) k
            rw [hO, List.length_append]
            omega
          have HO1 : Hid (ob ++ (List.range (k + 1)).flatMap (encG (gS G)) = O ++ encG (gS G) k) := by
            show _ = _
            rw [List.range_succ, List.flatMap_append, hO]
            simp
          rw [← hO] at hown
          clear hO
          have hsw := hbr.size
          obtain ⟨gx, hgx⟩ : ∃ gx, gx = G[k].xs := ⟨_, rfl⟩
          obtain ⟨gp, hgp⟩ : ∃ gp, gp = G[k].p := ⟨_, rfl⟩
          have HGK : Hid ((gS G)[k]? = some (gp, gx)) := by
            show _ = _
            rw [hgx, hgp]
            simp [gS, hkG]
          rw [← hgx] at y1 hr1' hxl1 hr1
          rw [← hgp] at y0
          clear hgx hgp z0 z1
          go_upto_region 9 with fail
          have hba := (Below.refl wr.heap.size wr).alloc (Nat.le_refl _) (.cells #[.int .i64 gp, .slice A1 gx.length c1] 77)
          have hkA := Blk.made wr 77 #[.int .i64 gp, .slice A1 gx.length c1]
          obtain ⟨W6, hW6⟩ : ∃ W6 : World, W6 = wr.alloc (.cells #[.int .i64 gp, .slice A1 gx.length c1] 77) := ⟨_, rfl⟩
          rw [← hW6]
          rw [← hW6] at hba hkA
          clear hW6
          have a1 : W6.cell? ⟨wr.heap.size, 1, none⟩ = some (.slice A1 gx.length c1) := hkA.cell 1
          have hown6 : Own 5 W6 w1.heap.size u5 O := owns_keep hown (fun k hk => hba.block k (owns_lt hown k hk).2)
          have hr6 := hr1'.below hba
          have hb6 := hbr.trans (hba.mono hbr.size)
          have hsw6 : w1.heap.size ≤ W6.heap.size := hb6.size
          go_wp2
          go_loopw [5, 40] (fun v i wx => ∃ j : Nat, j ≤ gx.length ∧ i = .int .i64 j ∧ Own 5 wx w1.heap.size v (O ++ (gx.take j).map fun x => byteI x.v) ∧ Below w1.heap.size w1 wx) (fun _ i _ => gx.length - (intOf i).toNat)
          case atStart => exact ⟨0, Nat.zero_le _, rfl, by simpa using hown6, hb6⟩
          case round =>
            clear hown hown6
            obtain ⟨j, hjl, rfl, hown, hbr2⟩ := hrel
            by_cases hj : j < gx.length
            · obtain ⟨bb, bo, rfl, hbx⟩ := RC.elem ifL (s := 4) (fun _ => rfl) (hr1.below hbr2) j hj (by decide)
              have z0 : wr.cell? ⟨bb, bo + j * 4, none⟩ = some (.int .i64 gx[j].g) := hbx 0 (by decide)
              have z1 : wr.cell? ⟨bb, bo + j * 4 + 1, none⟩ = some (.int .i64 gx[j].k) := by rw [Nat.add_assoc]; exact hbx 1 (by decide)
              have z2 : wr.cell? ⟨bb, bo + j * 4 + 2, none⟩ = some (.int .i64 gx[j].v) := by rw [Nat.add_assoc]; exact hbx 2 (by decide)
              have z3 : wr.cell? ⟨bb, bo + j * 4 + 3, none⟩ = some (.int .i64 gx[j].p) := by rw [Nat.add_assoc]; exact hbx 3 (by decide)
              have hbb : bb < wr.heap.size := cell?_lt z0
              have HT : Hid ((gx.take (j + 1)).map (fun x => byteI x.v) = (gx.take j).map (fun x => byteI x.v) ++ [byteI gx[j].v]) := by
                show _ = _
                rw [List.take_succ_eq_append_getElem hj, List.map_append]
                rfl
              clear hbx
              generalize gx[j] = x at z0 z1 z2 z3 HT
              obtain ⟨g, kd, v, p⟩ := x
              simp only at z0 z1 z2 z3 HT
              have hi3 : (0 : Int) ≤ (j : Int) := by omega
              have hi4 : (j : Int) < (gx.length : Int) := by omega
              have hbz := ((Below.refl wr.heap.size wr).alloc (Nat.le_refl _) (.cells #[.int .i64 g, .int .i64 kd, .int .i64 v, .int .i64 p] 47)).alloc (by simp) (.cells #[.int .u8 (IntKind.u8.wrap v)] 5)
              have hownz : Own 5 ((wr.alloc (.cells #[.int .i64 g, .int .i64 kd, .int .i64 v, .int .i64 p] 47)).alloc (.cells #[.int .u8 (IntKind.u8.wrap v)] 5)) w1.heap.size u5 (O ++ (gx.take j).map fun x => byteI x.v) := owns_keep hown (fun k hk => hbz.block k (owns_lt hown k hk).2)
              have hrz : RB ((wr.alloc (.cells #[.int .i64 g, .int .i64 kd, .int .i64 v, .int .i64 p] 47)).alloc (.cells #[.int .u8 (IntKind.u8.wrap v)] 5)) (some ⟨wr.heap.size + 1, 0, none⟩) [byteI v] := by
                have h := RB.made (wr.alloc (.cells #[.int .i64 g, .int .i64 kd, .int .i64 v, .int .i64 p] 47)) 5 #[.int .u8 (IntKind.u8.wrap v)] [byteI v] (by rw [wrap_byte]; rfl)
                rw [show (wr.alloc (.cells #[.int .i64 g, .int .i64 kd, .int .i64 v, .int .i64 p] 47)).heap.size = wr.heap.size + 1 from by simp] at h
                exact h
              have hbz2 := hbr2.trans (hbz.mono hbr2.size)
              have hll : (O ++ (gx.take j).map fun x => byteI x.v).length + [byteI v].length ≤ 1099511627776 := by
                simp only [List.length_append, List.length_map, List.length_take, List.length_singleton]
                omega
              have HOJ : Hid (∀ v' w', Own 5 w' w1.heap.size v' ((O ++ (gx.take j).map fun x => byteI x.v) ++ [byteI v]) → Own 5 w' w1.heap.size v' (O ++ (gx.take (j + 1)).map fun x => byteI x.v)) := fun v' w' h => by
                rw [HT.out, ← List.append_assoc]
                exact h
              go_wp2_with (at_builtin; refine wpList_append_bytes rfl hB (.tmp 44) (.tmp 48) rfl rfl rfl hownz hrz hll hbz2.size ?_; intro v' w' hown' hb')
              go_roundw
              case rel => exact ⟨j + 1, by omega, by go_num, HOJ.out _ _ hown', hbz2.trans hb'⟩
              case measure => simp [intOf]; omega
            · have hjn : j = gx.length := by omega
              subst hjn
              rw [List.take_length] at hown
              have hkL : k < (gS G).length := by simp [gS]; omega
              have hLL : (gS G).length = m := by simp [gS, hLm]
              by_cases hk1 : k + 1 < m
              · have hk1G : k + 1 < G.length := by omega
                obtain ⟨A2, c2, q0, q1, hr2⟩ := hRD (k + 1) hk1G
                have hx2 := hXM (k + 1) hk1G
                have hxl2 := hXL (k + 1) hk1G
                obtain ⟨gx2, hgx2⟩ : ∃ gx2, gx2 = G[k + 1].xs := ⟨_, rfl⟩
                obtain ⟨gp2, hgp2⟩ : ∃ gp2, gp2 = G[k + 1].p := ⟨_, rfl⟩
                have HGK2 : Hid ((gS G)[k + 1]? = some (gp2, gx2)) := by
                  show _ = _
                  rw [hgx2, hgp2]
                  simp [gS, hk1G]
                rw [← hgx2] at q1 hr2 hx2 hxl2
                rw [← hgp2] at q0
                clear hgx2 hgp2
                obtain ⟨pz2, hpz2⟩ : ∃ pz2 : Int, pz2 = presF gx2 (decide (k + 2 = m)) := ⟨_, rfl⟩
                have HENC : Hid (encG (gS G) k = gx.map (fun x => byteI x.v) ++ [byteI (bits BinOp.or IntKind.i64 pz2 gp2)]) := by
                  show _ = _
                  unfold encG
                  rw [HGK.out, HGK2.out, hLL, hpz2]
                have hone : ((k : Int) + 2 == (m : Int)) = decide (k + 2 = m) := by rw [Bool.eq_iff_iff]; simp; omega
                have hQ : ∀ w', Below w1.heap.size w1 w' → Hid (Calls Try.prog 53 #[.agg #[.int .i64 gp2, .slice A2 gx2.length c2], .bool ((k : Int) + 2 == (m : Int))] w' fun e w2 => e = .returned (.int .i64 pz2) ∧ Below w'.heap.size w' w2) := fun w' hb => by
                  show Calls _ _ _ _ _
                  rw [hone, hpz2]
                  exact pres_any gp2 A2 c2 gx2 _ w' (by omega) hx2 (hr2.below hb)
                clear hone hpz2 hx2 hRD hXM hXL
                have u0 := (hbr2.cell (p := ⟨gb, (k + 1) * 2, none⟩) hlg).trans q0
                have u1 := (hbr2.cell (p := ⟨gb, (k + 1) * 2 + 1, none⟩) hlg).trans q1
                have hgw2 : gb < wr.heap.size := Nat.lt_of_lt_of_le hlg hbr2.size
                have e1 : IntKind.i64.wrap ((k : Int) + 1) = (k : Int) + 1 := IntWalk.i64_in _ (by omega)
                have e2 : IntKind.i64.wrap ((k : Int) + 2) = (k : Int) + 2 := IntWalk.i64_in _ (by omega)
                have e3 : ((k : Int) + 1).toNat = k + 1 := by omega
                have e4 : (0 : Int) ≤ (k : Int) + 1 := by omega
                have e5 : (k : Int) + 1 < (m : Int) := by omega
                have hll : (O ++ gx.map fun x => byteI x.v).length + [byteI (bits BinOp.or IntKind.i64 pz2 gp2)].length ≤ 1099511627776 := by
                  simp only [List.length_append, List.length_map, List.length_singleton]
                  omega
                go_upto_region 15 with fail
                go_region_law (first
                  | (refine step_append_bytes rfl hB (.tmp 56) (.tmp 76) rfl rfl rfl hownz hrz hll hba.size ?_; intro v' w' hown' hb')
                  | (go_simp; go_at_call 53; refine (hQ _ (below_drewN hbr2 1)).out.mono ?_; rintro e w2 ⟨rfl, hb2⟩; have hb3 := (below_drewN (Below.refl wr.heap.size wr) 1).trans hb2; have u0' := (hb3.cell (p := ⟨gb, (k + 1) * 2, none⟩) hgw2).trans u0; have hba := hb3.alloc hb3.size (.cells #[.int .u8 (IntKind.u8.wrap (bits BinOp.or IntKind.i64 pz2 gp2))] 5); have hba := (hbr2.trans (hba.mono hbr2.size)); have hownz : Own 5 (w2.alloc (.cells #[.int .u8 (IntKind.u8.wrap (bits BinOp.or IntKind.i64 pz2 gp2))] 5)) w1.heap.size u5 (O ++ gx.map fun x => byteI x.v) := owns_keep hown (fun k hk => (hb3.alloc hb3.size (.cells #[.int .u8 (IntKind.u8.wrap (bits BinOp.or IntKind.i64 pz2 gp2))] 5)).block k (owns_lt hown k hk).2); have hrz := RB.made w2 5 #[.int .u8 (IntKind.u8.wrap (bits BinOp.or IntKind.i64 pz2 gp2))] [byteI (bits BinOp.or IntKind.i64 pz2 gp2)] (by rw [wrap_byte]; rfl)))
                all_goals
                  clear hQ e1 e2 e3 e4 e5 u0 u1 u0'
                  go_wp2
                  go_roundw
                  case rel => exact ⟨k + 1, by omega, by go_num, by rw [HO1.out, HENC.out, ← List.append_assoc]; exact hown', hba.trans hb'⟩
                  case measure => simp [intOf]; omega
              · have HGK2 : Hid ((gS G)[k + 1]? = none) := List.getElem?_eq_none (by omega)
                have HENC : Hid (encG (gS G) k = gx.map (fun x => byteI x.v)) := by
                  show _ = _
                  unfold encG
                  rw [HGK.out, HGK2.out]
                  simp
                have e5 : ¬ ((k : Int) + 1 < (m : Int)) := by omega
                go_wp2
                go_roundw
                case rel => exact ⟨k + 1, by omega, by go_num, by rw [HO1.out, HENC.out]; exact hown, hbr2⟩
                case measure => simp [intOf]; omega
        · have hkm' : k = m := by omega
          subst hkm'
          have hmg : (gS G).length = k := by simp [gS, hLm]
          have hMM : (numF p0 ps.length bs).toNat = k := by rw [← HMN.out]; simp
          obtain ⟨O, hO⟩ : ∃ O, O = ob ++ (List.range k).flatMap (encG (gS G)) := ⟨_, rfl⟩
          have HO : Hid (encUpto aI (grpF p0 (numF p0 ps.length bs).toNat bs) hs.length (grpF p0 (numF p0 ps.length bs).toNat bs).length = O) := by
            show _ = _
            rw [hMM, ← HGS.out, hO, HOB.out, HPZ.out, HGX.out, HFB.out]
            unfold encUpto encHead
            have e1 : (gS G)[0]? = some (G[0].p, G[0].xs) := by simp [gS, h0G]
            rw [e1, hmg]
          have HOl : O.length ≤ 100000 := by
            have h1 := encR_len (L := gS G) (fun e he => by
              obtain ⟨mm, hmm, rfl⟩ := List.mem_map.1 he
              obtain ⟨ii, hii, rfl⟩ := List.mem_iff_getElem.1 hmm
              exact hXL ii hii) k
            rw [hO, List.length_append]
            omega
          have hOlen : O.length = 2 + ((List.range k).flatMap (encG (gS G))).length := by rw [hO, List.length_append, hobl]
          rw [← hO] at hown
          clear hO
          have hbx := hb0.trans ((hb1.trans (hbr.mono hb1.size)).mono hb0.size)
          have c3r := (hbr.cell (p := ⟨w.heap.size, 3, none⟩) hbsl).trans c3
          have c2r := ((hb1.trans (hbr.mono hb1.size)).cell (p := ⟨w.heap.size, 2, none⟩) hk0.size).trans n2
          have hhR := hhW.below (hb1.trans (hbr.mono hb1.size))
          have hpR := hpW.below (hb1.trans (hbr.mono hb1.size))
          have hll : O.length + hs.length ≤ 1099511627776 := by omega
          have hO0 : 1 < O.length := by rw [hOlen]; omega
          go_wp2_with (at_builtin; refine wpList_append_bytes rfl hB (.tmp 79) (.tmp 81) rfl rfl rfl hown hhR hll hbr.size ?_; intro v2 w2 hown2 hb2; have hb2w := hbr.trans hb2; have c2s := ((hb1.trans (hb2w.mono hb1.size)).cell (p := ⟨w.heap.size, 2, none⟩) hk0.size).trans n2; have hpR2 := hpW.below (hb1.trans (hb2w.mono hb1.size)))
          refine (contains_any (some ⟨pb, po, none⟩) pC ps 1 w2 (by omega) hpR2).mono ?_
          rintro e w3 ⟨rfl, rfl⟩
          obtain ⟨T, hT⟩ : ∃ T, T = O ++ hs := ⟨_, rfl⟩
          rw [← hT] at hown2
          have hTl : 1 < T.length ∧ T.length ≤ 200000 := by rw [hT, List.length_append]; omega
          have HT := Lib.hid hT
          clear hT
          obtain ⟨g2, cap2, rfl, hcap2, hbase2, hcell2, hfr2⟩ := hown2.form (by omega)
          have hbE := hb0.trans ((hb1.trans (hb2w.mono hb1.size)).mono hb0.size)
          by_cases h1 : (1 : Int) ∈ ps
          · rw [decide_eq_true h1]
            have H1 := Lib.hid h1
            clear h1
            have hcn : ¬ cap2 = 1 := by omega
            have hrb : RB w2 (some ⟨g2, 1, none⟩) (T.drop 1) := by
              have h := hown2.rb.drop 1 cap2 hcap2
              rw [if_neg hcn] at h
              exact h
            have hdl : (T.drop 1).length = T.length - 1 := List.length_drop
            have hq := sumL_any (some ⟨g2, 1, none⟩) (cap2 - 1) (T.drop 1) w2 (by omega) hrb
            rw [hdl] at hq
            go_wp2_with fail
            refine hq.mono ?_
            rintro e w3 ⟨A3, rfl, hr3, hb3⟩
            clear hq
            have hown3 : Own 5 w3 w1.heap.size (.slice (some ⟨g2, 0, none⟩) T.length cap2) T := owns_keep hown2 (fun k hk => hb3.block k (owns_lt hown2 k hk).2)
            have hb3' := hb2w.trans (hb3.mono hb2w.size)
            go_wp2_with (at_builtin; refine wpList_append_bytes rfl hB (.tmp 92) (.tmp 93) rfl rfl rfl hown3 hr3 (by simp; omega) hb3'.size ?_; intro v4 w4 hown4 hb4; have hb4' := hb3'.trans hb4)
            have HF : Hid (encAll aI (grpF p0 (numF p0 ps.length bs).toNat bs) hs (decide (1 ∈ ps)) = T ++ [lrc (T.drop 1)]) := by
              show _ = _
              rw [decide_eq_true H1.out, HT.out, ← HO.out]
              unfold encAll
              simp
            have hbF := hb0.trans ((hb1.trans (hb4'.mono hb1.size)).mono hb0.size)
            obtain ⟨A5, c5, hv5, hlc5, hr5⟩ := hown4.reads
            subst hv5
            go_ret
            rw [HF.out]
            exact ⟨A5, c5, rfl, hr5, hbF⟩
          · rw [decide_eq_false h1]
            have HF : Hid (encAll aI (grpF p0 (numF p0 ps.length bs).toNat bs) hs (decide (1 ∈ ps)) = T) := by
              show _ = _
              rw [decide_eq_false h1, HT.out, ← HO.out]
              unfold encAll
              simp
            clear h1
            go_wp2_with fail
            go_ret
            rw [HF.out]
            exact ⟨_, _, rfl, hown2.rb, hbE⟩
end Go.Proofs.Ytkhobpghiachoaa
