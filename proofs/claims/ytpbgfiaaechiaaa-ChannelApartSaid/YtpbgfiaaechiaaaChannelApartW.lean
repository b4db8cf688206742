/-
  ChannelApart: the walk.
-/
import Derived.Test.YtpbgfiaaechiaaaApart37
import Derived.Test.YtpbgfiaaechiaaaOpen37
namespace Go.Proofs.Ytpbgfiaaechiaaa
open Go.RowKit
set_option linter.unusedVariables false

set_option linter.unusedSimpArgs false in
set_option maxHeartbeats 8000000 in
theorem channelApart_walk (w : World) (A : Option Addr) (c : Nat) (os : List Op37) (hc : os.length ≤ c) (hf : ∀ o ∈ os, opOk w o) (hr : RC w A (os.flatMap opCells)) (x : Op37) (hxo : opOk w x) :
    Calls Try.prog 5 #[.slice A os.length c, .agg (opCells x).toArray] w fun e w' => e = .returned (.bool true) ∧ Below w.heap.size w w' := by
  have HB0 : Below w.heap.size w (w.alloc (.cells #[.int .i64 x.op, .int .i64 x.n, .slice x.A x.x.length x.c, .int .i64 x.t.p, .int .i64 x.t.k, .int .i64 x.t.s, .int .i64 x.t.l] 37)) := (Below.refl w.heap.size w).alloc (Nat.le_refl _) _
  have hX0 : Blk (w.alloc (.cells #[.int .i64 x.op, .int .i64 x.n, .slice x.A x.x.length x.c, .int .i64 x.t.p, .int .i64 x.t.k, .int .i64 x.t.s, .int .i64 x.t.l] 37)) w.heap.size 37 (opCells x).toArray := Blk.made w 37 #[.int .i64 x.op, .int .i64 x.n, .slice x.A x.x.length x.c, .int .i64 x.t.p, .int .i64 x.t.k, .int .i64 x.t.s, .int .i64 x.t.l]
  have v0 : (w.alloc (.cells #[.int .i64 x.op, .int .i64 x.n, .slice x.A x.x.length x.c, .int .i64 x.t.p, .int .i64 x.t.k, .int .i64 x.t.s, .int .i64 x.t.l] 37)).cell? ⟨w.heap.size, 0, none⟩ = some (.int .i64 x.op) := hX0.cell 0
  have v1 : (w.alloc (.cells #[.int .i64 x.op, .int .i64 x.n, .slice x.A x.x.length x.c, .int .i64 x.t.p, .int .i64 x.t.k, .int .i64 x.t.s, .int .i64 x.t.l] 37)).cell? ⟨w.heap.size, 1, none⟩ = some (.int .i64 x.n) := hX0.cell 1
  have hrx0 := hxo.2.2.2.below HB0
  obtain ⟨W00, hW00⟩ : ∃ W00 : World, W00 = (w.alloc (.cells #[.int .i64 x.op, .int .i64 x.n, .slice x.A x.x.length x.c, .int .i64 x.t.p, .int .i64 x.t.k, .int .i64 x.t.s, .int .i64 x.t.l] 37)) := ⟨_, rfl⟩
  rw [← hW00] at HB0 hX0 v0 v1 hrx0
  by_cases hlen : 40 < os.length
  · have h1 : (40 : Int) < (os.length : Int) := by omega
    unfold opCells
    go_enter Try.func5, Try.ntmps5
    go_upto_region 1 with fail
    rw [← hW00]
    clear hW00
    go_wp2
    go_ret
    exact ⟨rfl, HB0⟩
  · have h1 : ¬ ((40 : Int) < (os.length : Int)) := by omega
    by_cases ho1 : x.op < 1
    · unfold opCells
      go_enter Try.func5, Try.ntmps5
      go_upto_region 1 with fail
      rw [← hW00]
      clear hW00
      go_wp2
      go_ret
      exact ⟨rfl, HB0⟩
    by_cases ho3 : 3 < x.op
    · have ho1' : 1 ≤ x.op := by omega
      unfold opCells
      go_enter Try.func5, Try.ntmps5
      go_upto_region 1 with fail
      rw [← hW00]
      clear hW00
      go_wp2
      go_ret
      exact ⟨rfl, HB0⟩
    have ho1' : 1 ≤ x.op := by omega
    have ho3' : x.op ≤ 3 := by omega
    unfold opCells
    go_enter Try.func5, Try.ntmps5
    go_upto_region 1 with fail
    rw [← hW00]
    clear hW00
    go_wp2_with fail
    refine (new_any W00).mono ?_
    rintro e w1 ⟨rfl, hT1, hb1⟩
    have hX1 := hX0.below hb1 hX0.size
    have hXg : w.heap.size < W00.heap.size := hX0.size
    go_wp2_with fail
    refine (first_any w1).mono ?_
    rintro e w2 ⟨rfl, hb2⟩
    have hg0 : w.heap.size ≤ W00.heap.size := HB0.size
    have hgs : W00.heap.size < w2.heap.size := Nat.lt_of_lt_of_le hT1.1.size hb2.size
    have hB2 := Both.start (hT1.below hb2)
    have hk2 : Blk (w2.alloc (.cells #[.bool false, .slice none 0 0, .int .i64 0, .int .i64 0, .int .i64 0, .int .i64 0, .bool false, .slice none 0 0, .int .i64 0, .int .i64 0, .int .i64 0, .int .i64 0, .bool false, .slice none 0 0, .int .i64 0, .int .i64 0, .int .i64 0, .int .i64 0, .bool false, .slice none 0 0, .int .i64 0, .int .i64 0, .int .i64 0, .int .i64 0] 32)) w2.heap.size 32 (scs zeroL) := Blk.made w2 32 (scs zeroL)
    have hX2 := hX1.below hb2 hX1.size
    have hrx2 := (hrx0.below hb1).below hb2
    have hba := (Below.refl w2.heap.size w2).alloc (Nat.le_refl _) (.cells #[.bool false, .slice none 0 0, .int .i64 0, .int .i64 0, .int .i64 0, .int .i64 0, .bool false, .slice none 0 0, .int .i64 0, .int .i64 0, .int .i64 0, .int .i64 0, .bool false, .slice none 0 0, .int .i64 0, .int .i64 0, .int .i64 0, .int .i64 0, .bool false, .slice none 0 0, .int .i64 0, .int .i64 0, .int .i64 0, .int .i64 0] 32)
    have hz1 : (scs zeroL).size = 24 := rfl
    have hzf : (scs firstL).size = 24 := rfl
    have hif : (Try.prog.info? 32).map (·.size) = some (scs firstL).size := rfl
    have hof := scs_one (M := firstL) rfl
    have hB3 := (hB2.below hba).rowS hk2 (by omega) (scs firstL)
    have hk3 := hk2.row (scs firstL)
    have hX3 := (hX2.below hba hX2.size).row_other (k := w2.heap.size) (by omega) (scs firstL)
    have hrx3 := (hrx2.below hba).only1 (scs_noByte hk2) (only_row hk2 (scs firstL))
    have hb12 := (HB0.trans (hb1.mono hg0)).trans (hb2.mono (Nat.le_trans hg0 hb1.size))
    have hb3 := below_row (hb12.trans (hba.mono hb12.size)) hb12.size (scs firstL)
    go_upto_region 7 with (refine wpList_store_row rfl _ _ _ rfl w2.heap.size (scs firstL) rfl rfl _ _ hk2.out hif (by rw [hz1, hzf]) hof ?_)
    obtain ⟨W3, hW3⟩ : ∃ W3 : World, W3 = (w2.alloc (.cells #[.bool false, .slice none 0 0, .int .i64 0, .int .i64 0, .int .i64 0, .int .i64 0, .bool false, .slice none 0 0, .int .i64 0, .int .i64 0, .int .i64 0, .int .i64 0, .bool false, .slice none 0 0, .int .i64 0, .int .i64 0, .int .i64 0, .int .i64 0, .bool false, .slice none 0 0, .int .i64 0, .int .i64 0, .int .i64 0, .int .i64 0] 32)).setRow w2.heap.size (scs firstL) := ⟨_, rfl⟩
    rw [← hW3]
    rw [← hW3] at hB3 hk3 hb3 hX3 hrx3
    clear hW3 hk2
    have hsw := hb12.size
    obtain ⟨sb, hsb⟩ : ∃ sb, sb = w2.heap.size := ⟨_, rfl⟩
    obtain ⟨g, hg⟩ : ∃ g, g = W00.heap.size := ⟨_, rfl⟩
    rw [← hsb, ← hg]
    rw [← hsb] at hk3 hgs hsw
    have hg0 : w.heap.size ≤ g := by rw [hg]; exact hg0
    rw [← hg] at hB3 hgs hXg
    clear hsb hg hT1 hb1 hb2 hB2 hba hb12 hX0 hX1 hX2 v0 v1 hrx0 hrx2 HB0
    go_wp2
    go_loopw [7] (fun i wx => ∃ k : Nat, k ≤ os.length ∧ i = .int .i64 k ∧ ∃ L M, Both wx g L M ∧ Blk wx sb 32 (scs M) ∧ Below w.heap.size w wx ∧ Blk wx w.heap.size 37 (opCells x).toArray ∧ RB wx x.A x.x) (fun i _ => os.length - (intOf i).toNat)
    case atStart => exact ⟨0, Nat.zero_le _, rfl, firstL, firstL, hB3, hk3, hb3, hX3, hrx3⟩
    case round =>
      obtain ⟨k, hkn, rfl, L, M, hB, hk, hbw, hX, hrx⟩ := hrel
      by_cases hlt : k < os.length
      · skip
        have hkl : k < os.length := by omega
        obtain ⟨b, off, rfl, hx⟩ := RC.elem opCells (s := 7) (fun _ => rfl) hr k hkl (by decide)
        have hok := hf os[k] (List.getElem_mem hkl)
        have x0 : w.cell? ⟨b, off + k * 7, none⟩ = some (.int .i64 os[k].op) := hx 0 (by decide)
        have x1 : w.cell? ⟨b, off + k * 7 + 1, none⟩ = some (.int .i64 os[k].n) := by rw [Nat.add_assoc]; exact hx 1 (by decide)
        have x2 : w.cell? ⟨b, off + k * 7 + 2, none⟩ = some (.slice os[k].A os[k].x.length os[k].c) := by rw [Nat.add_assoc]; exact hx 2 (by decide)
        have x3 : w.cell? ⟨b, off + k * 7 + 3, none⟩ = some (.int .i64 os[k].t.p) := by rw [Nat.add_assoc]; exact hx 3 (by decide)
        have x4 : w.cell? ⟨b, off + k * 7 + 4, none⟩ = some (.int .i64 os[k].t.k) := by rw [Nat.add_assoc]; exact hx 4 (by decide)
        have x5 : w.cell? ⟨b, off + k * 7 + 5, none⟩ = some (.int .i64 os[k].t.s) := by rw [Nat.add_assoc]; exact hx 5 (by decide)
        have x6 : w.cell? ⟨b, off + k * 7 + 6, none⟩ = some (.int .i64 os[k].t.l) := by rw [Nat.add_assoc]; exact hx 6 (by decide)
        clear hx
        generalize os[k] = o at x0 x1 x2 x3 x4 x5 x6 hok
        have hbl : b < w.heap.size := cell?_lt x0
        have hbd := below_drewN hbw 1
        have y0 := (hbw.cell (p := ⟨b, off + k * 7, none⟩) hbl).trans x0
        have y1 := (hbw.cell (p := ⟨b, off + k * 7 + 1, none⟩) hbl).trans x1
        have y2 := (hbw.cell (p := ⟨b, off + k * 7 + 2, none⟩) hbl).trans x2
        have y3 := (hbw.cell (p := ⟨b, off + k * 7 + 3, none⟩) hbl).trans x3
        have y4 := (hbw.cell (p := ⟨b, off + k * 7 + 4, none⟩) hbl).trans x4
        have y5 := (hbw.cell (p := ⟨b, off + k * 7 + 5, none⟩) hbl).trans x5
        have y6 := (hbw.cell (p := ⟨b, off + k * 7 + 6, none⟩) hbl).trans x6
        have hi0 : (0 : Int) ≤ (k : Int) := by omega
        have hi1 : (k : Int) < (os.length : Int) := by omega
        have hkd := hk.below (below_drewN (Below.refl _ _) 1 : Below wr.heap.size wr (wr.drewN 1)) hk.size
        have hBd := hB.below (below_drewN (Below.refl _ _) 1 : Below wr.heap.size wr (wr.drewN 1))
        have hzm : (scs M).size = 24 := scs_size hB.len
        have him : (Try.prog.info? 32).map (·.size) = some (scs M).size := by rw [hzm]; rfl
        clear x0 x1 x2 x3 x4 x5 x6
        obtain ⟨S, HS⟩ : ∃ S, Hid (chs L = S) := ⟨_, rfl⟩
        go_upto_region 10 with fail
        · skip
          refine wp_region_any (by kernel_rfl) ?_
          change wpAny _ _ _ _ _ _ _ (World.drew _)
          refine takeA 0 (some 37) (.pointer (some ⟨g, 0, none⟩)) rfl rfl (by kernel_rfl) (by kernel_rfl) (by kernel_rfl) (fun _ _ _ h => h) (Or.inl ⟨by rfl, ?_⟩) ?_
          · intro w9
            go_simp
          simp only [Act.put, List.setIfInBounds_toArray, List.set_cons_zero, List.set_cons_succ]
          refine takeA 2 (some 39) (.slice (some ⟨b, off, none⟩) os.length c) rfl rfl (by kernel_rfl) (by kernel_rfl) (by kernel_rfl) (fun _ _ _ h => h) (Or.inl ⟨by rfl, ?_⟩) ?_
          · intro w9
            go_simp
          simp only [Act.put, List.setIfInBounds_toArray, List.set_cons_zero, List.set_cons_succ]
          refine takeA 3 (some 40) (.int .i64 k) rfl rfl (by kernel_rfl) (by kernel_rfl) (by kernel_rfl) (fun _ _ _ h => h) (Or.inl ⟨by rfl, ?_⟩) ?_
          · intro w9
            go_simp
          simp only [Act.put, List.setIfInBounds_toArray, List.set_cons_zero, List.set_cons_succ]
          refine takeA 4 (some 41) (.pointer (some ⟨b, off + k * 7, none⟩)) rfl rfl (by kernel_rfl) (by kernel_rfl) (by kernel_rfl) (fun _ _ _ h => h) (Or.inl ⟨by rfl, ?_⟩) ?_
          · intro w9
            go_simp
          simp only [Act.put, List.setIfInBounds_toArray, List.set_cons_zero, List.set_cons_succ]
          refine wpAny_ready (rs := [1, 5]) (by kernel_rfl) (by simp) (AllReady.cons rfl (fun K hK => ?_) (AllReady.cons rfl (fun K hK => ?_) AllReady.nil))
          · rw [if_pos (by rfl)]
            refine wp_load_row _ _ rfl sb rfl _ (scs M) _ _ hkd.out Try.underlying32 rfl him ?_
            refine hK _ _ ?_
            clear hK K
            simp only [Act.put, List.setIfInBounds_toArray, List.set_cons_zero, List.set_cons_succ]
            refine wpAny_ready (rs := [5]) (by kernel_rfl) (by simp) (AllReady.cons rfl (fun K hK => ?_) AllReady.nil)
            go_simp
            refine hK _ _ ?_
            clear hK K
            refine wpAny_ready (rs := [6]) (by kernel_rfl) (by simp) (AllReady.cons rfl (fun K hK => ?_) AllReady.nil)
            go_simp
            refine (do_any g L M o (wr.drewN 1) hBd (hok.2.2.2.below hbd)).mono ?_
            rintro e w4 ⟨L1, M1, rfl, hB4, hS4, hn4⟩
            rw [HS.out] at hS4
            have hk4 := hkd.only hn4 (by omega)
            have hz4 : (scs M1).size = 24 := scs_size hB4.len
            have hi4 : (Try.prog.info? 32).map (·.size) = some (scs M1).size := by rw [hz4]; rfl
            have ho4 := scs_one hB4.len
            have hb4 := hbd.trans (hn4.bel hg0 hbd.size)
            have hB5 := hB4.rowS hk4 (by omega) (scs M1)
            have hk5 := hk4.row (scs M1)
            have hb5 := below_row hb4 hsw (scs M1)
            go_wp2_with fail
            refine takeA 7 (some 36) (.tuple #[.agg (scs M1), .bool true]) rfl rfl (by kernel_rfl) (by kernel_rfl) (by kernel_rfl) (fun _ _ _ h => h) (Or.inl ⟨by rfl, ?_⟩) ?_
            · intro w9
              go_simp
            simp only [Act.put, List.setIfInBounds_toArray, List.set_cons_zero, List.set_cons_succ]
            refine takeA 8 (some 44) (.agg (scs M1)) rfl rfl (by kernel_rfl) (by kernel_rfl) (by kernel_rfl) (fun _ _ _ h => h) (Or.inl ⟨by rfl, ?_⟩) ?_
            · intro w9
              go_simp
            simp only [Act.put, List.setIfInBounds_toArray, List.set_cons_zero, List.set_cons_succ]
            refine takeA 9 (some 45) (.bool true) rfl rfl (by kernel_rfl) (by kernel_rfl) (by kernel_rfl) (fun _ _ _ h => h) (Or.inl ⟨by rfl, ?_⟩) ?_
            · intro w9
              go_simp
            simp only [Act.put, List.setIfInBounds_toArray, List.set_cons_zero, List.set_cons_succ]
            refine wpAny_ready (rs := [10]) (by kernel_rfl) (by simp) (AllReady.cons rfl (fun K hK => ?_) AllReady.nil)
            rw [if_pos (by rfl)]
            refine wp_store_row _ _ _ rfl sb (scs M1) rfl rfl _ _ hk4.out hi4 (by rw [hzm, hz4]) ho4 ?_
            refine hK _ _ ?_
            clear hK K
            refine wpAny_done (by kernel_rfl) ?_ _
            have hX4 := (hX.below (below_drewN (Below.refl _ _) 1 : Below wr.heap.size wr (wr.drewN 1)) hX.size).only hn4 (by omega)
            have hX5 := hX4.row_other (k := sb) (by omega) (scs M1)
            have hrx5 := ((hrx.drewN 1).tab hBd.tab hn4).only1 (scs_noByte hk4) (only_row hk4 (scs M1))
            clear y0 y1 y2 y3 y4 y5 y6
            go_wp2
            go_roundw
            case rel => exact ⟨k + 1, by omega, by go_num, L1, M1, hB5, hk5, hb5, hX5, hrx5⟩
            case measure => simp [intOf]; omega
          · go_simp
            refine hK _ _ ?_
            clear hK K
            refine wpAny_ready (rs := [1]) (by kernel_rfl) (by simp) (AllReady.cons rfl (fun K hK => ?_) AllReady.nil)
            rw [if_pos (by rfl)]
            refine wp_load_row _ _ rfl sb rfl _ (scs M) _ _ hkd.out Try.underlying32 rfl him ?_
            refine hK _ _ ?_
            clear hK K
            simp only [Act.put, List.setIfInBounds_toArray, List.set_cons_zero, List.set_cons_succ]
            refine wpAny_ready (rs := [6]) (by kernel_rfl) (by simp) (AllReady.cons rfl (fun K hK => ?_) AllReady.nil)
            go_simp
            refine (do_any g L M o (wr.drewN 1) hBd (hok.2.2.2.below hbd)).mono ?_
            rintro e w4 ⟨L1, M1, rfl, hB4, hS4, hn4⟩
            rw [HS.out] at hS4
            have hk4 := hkd.only hn4 (by omega)
            have hz4 : (scs M1).size = 24 := scs_size hB4.len
            have hi4 : (Try.prog.info? 32).map (·.size) = some (scs M1).size := by rw [hz4]; rfl
            have ho4 := scs_one hB4.len
            have hb4 := hbd.trans (hn4.bel hg0 hbd.size)
            have hB5 := hB4.rowS hk4 (by omega) (scs M1)
            have hk5 := hk4.row (scs M1)
            have hb5 := below_row hb4 hsw (scs M1)
            go_wp2_with fail
            refine takeA 7 (some 36) (.tuple #[.agg (scs M1), .bool true]) rfl rfl (by kernel_rfl) (by kernel_rfl) (by kernel_rfl) (fun _ _ _ h => h) (Or.inl ⟨by rfl, ?_⟩) ?_
            · intro w9
              go_simp
            simp only [Act.put, List.setIfInBounds_toArray, List.set_cons_zero, List.set_cons_succ]
            refine takeA 8 (some 44) (.agg (scs M1)) rfl rfl (by kernel_rfl) (by kernel_rfl) (by kernel_rfl) (fun _ _ _ h => h) (Or.inl ⟨by rfl, ?_⟩) ?_
            · intro w9
              go_simp
            simp only [Act.put, List.setIfInBounds_toArray, List.set_cons_zero, List.set_cons_succ]
            refine takeA 9 (some 45) (.bool true) rfl rfl (by kernel_rfl) (by kernel_rfl) (by kernel_rfl) (fun _ _ _ h => h) (Or.inl ⟨by rfl, ?_⟩) ?_
            · intro w9
              go_simp
            simp only [Act.put, List.setIfInBounds_toArray, List.set_cons_zero, List.set_cons_succ]
            refine wpAny_ready (rs := [10]) (by kernel_rfl) (by simp) (AllReady.cons rfl (fun K hK => ?_) AllReady.nil)
            rw [if_pos (by rfl)]
            refine wp_store_row _ _ _ rfl sb (scs M1) rfl rfl _ _ hk4.out hi4 (by rw [hzm, hz4]) ho4 ?_
            refine hK _ _ ?_
            clear hK K
            refine wpAny_done (by kernel_rfl) ?_ _
            have hX4 := (hX.below (below_drewN (Below.refl _ _) 1 : Below wr.heap.size wr (wr.drewN 1)) hX.size).only hn4 (by omega)
            have hX5 := hX4.row_other (k := sb) (by omega) (scs M1)
            have hrx5 := ((hrx.drewN 1).tab hBd.tab hn4).only1 (scs_noByte hk4) (only_row hk4 (scs M1))
            clear y0 y1 y2 y3 y4 y5 y6
            go_wp2
            go_roundw
            case rel => exact ⟨k + 1, by omega, by go_num, L1, M1, hB5, hk5, hb5, hX5, hrx5⟩
            case measure => simp [intOf]; omega
      · have ha : Below wr.heap.size wr (((wr.alloc (.cells #[.bool false, .bool false, .bool false, .bool false] 52)).alloc (.cells #[.slice none 0 0, .slice none 0 0, .slice none 0 0, .slice none 0 0] 53)).alloc (.cells #[.int .i64 0, .int .i64 0, .int .i64 0, .int .i64 0, .int .i64 0, .int .i64 0, .int .i64 0, .int .i64 0, .int .i64 0, .int .i64 0, .int .i64 0, .int .i64 0, .int .i64 0, .int .i64 0, .int .i64 0, .int .i64 0] 54)) := (((Below.refl wr.heap.size wr).alloc (Nat.le_refl _) _).alloc (by simp) _).alloc (by simp; omega) _
        have hok : Blk (((wr.alloc (.cells #[.bool false, .bool false, .bool false, .bool false] 52)).alloc (.cells #[.slice none 0 0, .slice none 0 0, .slice none 0 0, .slice none 0 0] 53)).alloc (.cells #[.int .i64 0, .int .i64 0, .int .i64 0, .int .i64 0, .int .i64 0, .int .i64 0, .int .i64 0, .int .i64 0, .int .i64 0, .int .i64 0, .int .i64 0, .int .i64 0, .int .i64 0, .int .i64 0, .int .i64 0, .int .i64 0] 54)) wr.heap.size 52 (bcs [false, false, false, false]) := ((Blk.made wr 52 #[.bool false, .bool false, .bool false, .bool false]).alloc _).alloc _
        have hpk : Blk (((wr.alloc (.cells #[.bool false, .bool false, .bool false, .bool false] 52)).alloc (.cells #[.slice none 0 0, .slice none 0 0, .slice none 0 0, .slice none 0 0] 53)).alloc (.cells #[.int .i64 0, .int .i64 0, .int .i64 0, .int .i64 0, .int .i64 0, .int .i64 0, .int .i64 0, .int .i64 0, .int .i64 0, .int .i64 0, .int .i64 0, .int .i64 0, .int .i64 0, .int .i64 0, .int .i64 0, .int .i64 0] 54)) (wr.heap.size + 1) 53 (pcs [⟨none, 0, []⟩, ⟨none, 0, []⟩, ⟨none, 0, []⟩, ⟨none, 0, []⟩]) := by
          have h := (Blk.made (wr.alloc (.cells #[.bool false, .bool false, .bool false, .bool false] 52)) 53 #[.slice none 0 0, .slice none 0 0, .slice none 0 0, .slice none 0 0]).alloc (.cells #[.int .i64 0, .int .i64 0, .int .i64 0, .int .i64 0, .int .i64 0, .int .i64 0, .int .i64 0, .int .i64 0, .int .i64 0, .int .i64 0, .int .i64 0, .int .i64 0, .int .i64 0, .int .i64 0, .int .i64 0, .int .i64 0] 54)
          rw [show (wr.alloc (.cells #[.bool false, .bool false, .bool false, .bool false] 52)).heap.size = wr.heap.size + 1 from by simp] at h
          exact h
        have hqk : Blk (((wr.alloc (.cells #[.bool false, .bool false, .bool false, .bool false] 52)).alloc (.cells #[.slice none 0 0, .slice none 0 0, .slice none 0 0, .slice none 0 0] 53)).alloc (.cells #[.int .i64 0, .int .i64 0, .int .i64 0, .int .i64 0, .int .i64 0, .int .i64 0, .int .i64 0, .int .i64 0, .int .i64 0, .int .i64 0, .int .i64 0, .int .i64 0, .int .i64 0, .int .i64 0, .int .i64 0, .int .i64 0] 54)) (wr.heap.size + 2) 54 (qcs [(0, 0, 0, 0), (0, 0, 0, 0), (0, 0, 0, 0), (0, 0, 0, 0)]) := by
          have h := Blk.made ((wr.alloc (.cells #[.bool false, .bool false, .bool false, .bool false] 52)).alloc (.cells #[.slice none 0 0, .slice none 0 0, .slice none 0 0, .slice none 0 0] 53)) 54 #[.int .i64 0, .int .i64 0, .int .i64 0, .int .i64 0, .int .i64 0, .int .i64 0, .int .i64 0, .int .i64 0, .int .i64 0, .int .i64 0, .int .i64 0, .int .i64 0, .int .i64 0, .int .i64 0, .int .i64 0, .int .i64 0]
          rw [show ((wr.alloc (.cells #[.bool false, .bool false, .bool false, .bool false] 52)).alloc (.cells #[.slice none 0 0, .slice none 0 0, .slice none 0 0, .slice none 0 0] 53)).heap.size = wr.heap.size + 2 from by simp] at h
          exact h
        obtain ⟨W6, hW6⟩ : ∃ W6 : World, W6 = (((wr.alloc (.cells #[.bool false, .bool false, .bool false, .bool false] 52)).alloc (.cells #[.slice none 0 0, .slice none 0 0, .slice none 0 0, .slice none 0 0] 53)).alloc (.cells #[.int .i64 0, .int .i64 0, .int .i64 0, .int .i64 0, .int .i64 0, .int .i64 0, .int .i64 0, .int .i64 0, .int .i64 0, .int .i64 0, .int .i64 0, .int .i64 0, .int .i64 0, .int .i64 0, .int .i64 0, .int .i64 0] 54)) := ⟨_, rfl⟩
        rw [← hW6] at ha hok hpk hqk
        have hsk : sb < wr.heap.size := hk.size
        have hSn0 : Snap w g w.heap.size sb wr.heap.size (wr.heap.size + 1) (wr.heap.size + 2) x L M M [false, false, false, false] [⟨none, 0, []⟩, ⟨none, 0, []⟩, ⟨none, 0, []⟩, ⟨none, 0, []⟩] [(0, 0, 0, 0), (0, 0, 0, 0), (0, 0, 0, 0), (0, 0, 0, 0)] W6 :=
          ⟨hB.below ha, hX.below ha hX.size, hk.below ha hk.size, hok, hpk, hqk, fun p hp => by
            simp only [List.mem_cons, List.not_mem_nil, or_false, or_self] at hp
            subst hp
            exact RB.nil _ _, hbw.trans (ha.mono hbw.size), hrx.below ha⟩
        have hNo0 : Noted (chs L) 0 [false, false, false, false] [⟨none, 0, []⟩, ⟨none, 0, []⟩, ⟨none, 0, []⟩, ⟨none, 0, []⟩] [(0, 0, 0, 0), (0, 0, 0, 0), (0, 0, 0, 0), (0, 0, 0, 0)] := ⟨rfl, rfl, rfl, fun j hj => by omega⟩
        have hog : g < wr.heap.size := by omega
        have hwo : w.heap.size ≤ wr.heap.size := hbw.size
        go_upto_region 14 with fail
        rw [← hW6]
        clear hW6 ha hok hpk hqk
        obtain ⟨ob, hob⟩ : ∃ ob, ob = wr.heap.size := ⟨_, rfl⟩
        rw [← hob]
        rw [← hob] at hSn0 hsk hog hwo
        clear hob hB hk hX hrx hbw hB3 hk3 hb3 hX3 hrx3
        obtain ⟨S, HS⟩ : ∃ S, Hid (chs L = S) := ⟨_, rfl⟩
        rw [HS.out] at hNo0
        go_wp2
        go_loopw [11] (fun i wx => ∃ j : Nat, j ≤ 4 ∧ i = .int .i64 j ∧ ∃ bs ap se, Snap w g w.heap.size sb ob (ob + 1) (ob + 2) x L M M bs ap se wx ∧ Noted S j bs ap se) (fun i _ => 4 - (intOf i).toNat)
        case atStart => exact ⟨0, by omega, rfl, _, _, _, hSn0, hNo0⟩
        case round =>
          clear hSn0 hNo0
          obtain ⟨k, hk4', rfl, bs, ap, se, hSn, hNo⟩ := hrel
          by_cases hk4 : k < 4
          · have hk4i : (k : Int) < 4 := by omega
            have hk0i : (0 : Int) ≤ (k : Int) := by omega
            obtain ⟨b, hb⟩ : ∃ b, b = decide (whichC S (k : Int) = 0) := ⟨_, rfl⟩
            obtain ⟨xs, hxs⟩ : ∃ xs, xs = appOf S (k : Int) := ⟨_, rfl⟩
            obtain ⟨q, hq⟩ : ∃ q, q = secOf S (k : Int) := ⟨_, rfl⟩
            have HNX : ∀ p : Part, p.xs = xs → Hid (Noted S (k + 1) (bs.set k b) (ap.set k p) (se.set k q)) := fun p hp => by
              have h := hNo.next hk4 (p := p) (by rw [hp, hxs])
              rw [← hb, ← hq] at h
              exact h
            have HB := Lib.hid hb
            have HXS := Lib.hid hxs
            have HQ := Lib.hid hq
            clear hb hxs hq
            have cI := isOpen_any g L k wr hSn.both.tab
            rw [HS.out, ← HB.out] at cI
            have hl1 : k < bs.length := by rw [hNo.1]; exact hk4
            have hl2 : k < ap.length := by rw [hNo.2.1]; exact hk4
            have hl3 : k < se.length := by rw [hNo.2.2.1]; exact hk4
            have d1 := bcs_cell hSn.ok (List.getElem?_eq_getElem hl1)
            have f1 := hSn.ok.free
            go_wp2_with fail
            refine cI.mono ?_
            clear cI
            rintro e w1 ⟨rfl, rfl⟩
            go_upto_region 18 with fail
            have hS1 := hSn.setO (by omega) hgs hsk hwo k b
            obtain ⟨W7, hW7⟩ : ∃ W7 : World, W7 = wr.setCell ⟨ob, k, none⟩ (.bool b) := ⟨_, rfl⟩
            rw [← hW7]
            rw [← hW7] at hS1
            clear hW7 d1 f1 hSn
            have cA := app_any g L k W7 hS1.both.tab
            rw [HS.out, ← HXS.out] at cA
            go_wp2_with fail
            refine cA.mono ?_
            clear cA
            rintro e w2 ⟨A2, c2, rfl, hr2, hb2⟩
            have hS2 := hS1.keep hb2
            have d2 := pcs_cell hS2.pk (List.getElem?_eq_getElem hl2)
            have f2 := hS2.pk.free
            go_upto_region 19 with fail
            have hS3 := hS2.setP (by omega) hgs hsk hwo k ⟨A2, c2, xs⟩ hr2
            obtain ⟨W8, hW8⟩ : ∃ W8 : World, W8 = w2.setCell ⟨ob + 1, k, none⟩ (.slice A2 xs.length c2) := ⟨_, rfl⟩
            rw [← hW8]
            simp only at hS3
            rw [← hW8] at hS3
            clear hW8 d2 f2 hS1 hS2
            have cQ := security_any g L k W8 hS3.both.tab
            rw [HS.out, ← HQ.out] at cQ
            simp only [secCs] at cQ
            go_wp2_with fail
            refine cQ.mono ?_
            clear cQ
            rintro e w4 ⟨rfl, hb4⟩
            have hS4 := hS3.keep hb4
            have q0 : w4.cell? ⟨ob + 2, k * 4, none⟩ = some (.int .i64 se[k].1) := qcs_cell hS4.qk hl3 0 (by decide)
            have q1 : w4.cell? ⟨ob + 2, k * 4 + 1, none⟩ = some (.int .i64 se[k].2.1) := qcs_cell hS4.qk hl3 1 (by decide)
            have q2 : w4.cell? ⟨ob + 2, k * 4 + 2, none⟩ = some (.int .i64 se[k].2.2.1) := qcs_cell hS4.qk hl3 2 (by decide)
            have q3 : w4.cell? ⟨ob + 2, k * 4 + 3, none⟩ = some (.int .i64 se[k].2.2.2) := qcs_cell hS4.qk hl3 3 (by decide)
            have f4 := hS4.qk.free
            have hS5 := hS4.setQ (by omega) hgs hsk hwo k q hNo.2.2.1 hk4
            have HN := HNX ⟨A2, c2, xs⟩ rfl
            clear hNo HNX hS3 hS4
            go_wp2
            go_roundw
            case rel => exact ⟨k + 1, by omega, by go_num, _, _, _, hS5, HN⟩
            case measure => simp [intOf]; omega
          · obtain rfl : k = 4 := by omega
            have hsM := hSn.sk
            have hzm : (scs M).size = 24 := scs_size hSn.both.len
            have him : (Try.prog.info? 32).map (·.size) = some (scs M).size := by rw [hzm]; rfl
            have y0 : wr.cell? ⟨w.heap.size, 0, none⟩ = some (.int .i64 x.op) := hSn.xb.cell 0
            have y1 : wr.cell? ⟨w.heap.size, 1, none⟩ = some (.int .i64 x.n) := hSn.xb.cell 1
            have y2 : wr.cell? ⟨w.heap.size, 2, none⟩ = some (.slice x.A x.x.length x.c) := hSn.xb.cell 2
            have y3 : wr.cell? ⟨w.heap.size, 3, none⟩ = some (.int .i64 x.t.p) := hSn.xb.cell 3
            have y4 : wr.cell? ⟨w.heap.size, 4, none⟩ = some (.int .i64 x.t.k) := hSn.xb.cell 4
            have y5 : wr.cell? ⟨w.heap.size, 5, none⟩ = some (.int .i64 x.t.s) := hSn.xb.cell 5
            have y6 : wr.cell? ⟨w.heap.size, 6, none⟩ = some (.int .i64 x.t.l) := hSn.xb.cell 6
            have hD := do_any g L M x wr hSn.both hSn.rx
            rw [HS.out] at hD
            go_wp2_with (refine wpList_load_row rfl _ _ rfl sb rfl _ (scs M) _ _ hsM.out Try.underlying32 rfl him ?_)
            refine hD.mono ?_
            clear hD
            rintro e w5 ⟨L5, M5, rfl, hB5, hS5, hn5⟩
            have hT5 := hSn.did hB5 hn5 (by omega) (by omega) (by omega) (by omega) (by omega) (by omega)
            clear y0 y1 y2 y3 y4 y5 y6 hsM hSn hB5 hn5
            go_wp2
            go_loopw [12] (fun i wx => ∃ j : Nat, j ≤ 4 ∧ i = .int .i64 j ∧ Snap w g w.heap.size sb ob (ob + 1) (ob + 2) x L5 M5 M bs ap se wx) (fun i _ => 4 - (intOf i).toNat)
            case atStart => exact ⟨0, by omega, rfl, hT5⟩
            case round =>
              clear hT5
              obtain ⟨k, hk4', rfl, hSn⟩ := hrel
              by_cases hk4 : k < 4
              · have hk4i : (k : Int) < 4 := by omega
                have hk0i : (0 : Int) ≤ (k : Int) := by omega
                have y1 : wr.cell? ⟨w.heap.size, 1, none⟩ = some (.int .i64 x.n) := hSn.xb.cell 1
                by_cases hne : (k : Int) = x.n
                · rw [← hne] at y1
                  go_upto_region 24 with fail
                  go_quiet (fail)
                  go_wp2
                  go_roundw
                  case rel => exact ⟨k + 1, by omega, by go_num, hSn.drewN _⟩
                  case measure => simp [intOf]; omega
                · have hne' : ((k : Int) != x.n) = true := by simpa using hne
                  have hst := step_apart (S := S) ho1' ho3' hne
                  obtain ⟨hn1, hn2, hn3, hn4⟩ := hNo
                  obtain ⟨e1, e2, e3⟩ := hn4 k hk4
                  obtain ⟨b, hb⟩ : ∃ b, b = decide (whichC S (k : Int) = 0) := ⟨_, rfl⟩
                  obtain ⟨xs, hxs⟩ : ∃ xs, xs = appOf S (k : Int) := ⟨_, rfl⟩
                  obtain ⟨q, hq⟩ : ∃ q, q = secOf S (k : Int) := ⟨_, rfl⟩
                  rw [← hb] at e1
                  rw [← hq] at e3
                  have hl2 : k < ap.length := by omega
                  have hl3 : k < se.length := by omega
                  have hpx : ap[k].xs = xs := by rw [List.getElem?_eq_getElem hl2] at e2; rw [hxs]; simpa using e2
                  have hqx : se[k] = q := by rw [List.getElem?_eq_getElem hl3] at e3; simpa using e3
                  have hpm : ap[k] ∈ ap := List.getElem_mem hl2
                  have hpp := List.getElem?_eq_getElem hl2
                  obtain ⟨p, hp⟩ : ∃ p, p = ap[k] := ⟨_, rfl⟩
                  rw [← hp] at hpx hpm hpp
                  have hxl : xs.length ≤ 16 := by rw [hxs, ← hst.2.1, ← hS5]; exact appOf_le hSn.both.tab k
                  have sO : Hid (∀ w', (Snap w g w.heap.size sb ob (ob + 1) (ob + 2) x L5 M5 M bs ap se) w' → w'.cell? ⟨ob, k, none⟩ = some (.bool b)) := fun w' h => bcs_cell h.ok e1
                  have sP : Hid (∀ w', (Snap w g w.heap.size sb ob (ob + 1) (ob + 2) x L5 M5 M bs ap se) w' → w'.cell? ⟨ob + 1, k, none⟩ = some (.slice p.A xs.length p.c)) := fun w' h => by rw [← hpx]; exact pcs_cell h.pk hpp
                  have sR : Hid (∀ w', (Snap w g w.heap.size sb ob (ob + 1) (ob + 2) x L5 M5 M bs ap se) w' → RB w' p.A xs) := fun w' h => by rw [← hpx]; exact h.rb p hpm
                  have sX : Hid (∀ w', (Snap w g w.heap.size sb ob (ob + 1) (ob + 2) x L5 M5 M bs ap se) w' → w'.cell? ⟨w.heap.size, 1, none⟩ = some (.int .i64 x.n)) := fun w' h => h.xb.cell 1
                  have sQ0 : Hid (∀ w', (Snap w g w.heap.size sb ob (ob + 1) (ob + 2) x L5 M5 M bs ap se) w' → w'.cell? ⟨ob + 2, k * 4, none⟩ = some (.int .i64 q.1)) := fun w' h => by rw [← hqx]; exact qcs_cell h.qk hl3 0 (by decide)
                  have sQ1 : Hid (∀ w', (Snap w g w.heap.size sb ob (ob + 1) (ob + 2) x L5 M5 M bs ap se) w' → w'.cell? ⟨ob + 2, k * 4 + 1, none⟩ = some (.int .i64 q.2.1)) := fun w' h => by rw [← hqx]; exact qcs_cell h.qk hl3 1 (by decide)
                  have sQ2 : Hid (∀ w', (Snap w g w.heap.size sb ob (ob + 1) (ob + 2) x L5 M5 M bs ap se) w' → w'.cell? ⟨ob + 2, k * 4 + 2, none⟩ = some (.int .i64 q.2.2.1)) := fun w' h => by rw [← hqx]; exact qcs_cell h.qk hl3 2 (by decide)
                  have sQ3 : Hid (∀ w', (Snap w g w.heap.size sb ob (ob + 1) (ob + 2) x L5 M5 M bs ap se) w' → w'.cell? ⟨ob + 2, k * 4 + 3, none⟩ = some (.int .i64 q.2.2.2)) := fun w' h => by rw [← hqx]; exact qcs_cell h.qk hl3 3 (by decide)
                  have cI : Hid (∀ w', (Snap w g w.heap.size sb ob (ob + 1) (ob + 2) x L5 M5 M bs ap se) w' → Calls Try.prog 15 #[.pointer (some ⟨g, 0, none⟩), .int .i64 k] w' fun e w2 => e = .returned (.bool b) ∧ w' = w2) := fun w' h => by
                    have hi := isOpen_any g L5 k w' h.both.tab
                    rw [hS5, hst.1, ← hb] at hi
                    exact hi
                  have cA : Hid (∀ w', (Snap w g w.heap.size sb ob (ob + 1) (ob + 2) x L5 M5 M bs ap se) w' → Calls Try.prog 18 #[.pointer (some ⟨g, 0, none⟩), .int .i64 k] w' fun e w2 => ∃ A c, e = .returned (.slice A xs.length c) ∧ RB w2 A xs ∧ Below w'.heap.size w' w2) := fun w' h => by
                    have hi := app_any g L5 k w' h.both.tab
                    rw [hS5, hst.2.1, ← hxs] at hi
                    exact hi
                  have cS : Hid (∀ w', (Snap w g w.heap.size sb ob (ob + 1) (ob + 2) x L5 M5 M bs ap se) w' → Calls Try.prog 19 #[.pointer (some ⟨g, 0, none⟩), .int .i64 k] w' fun e w2 => e = .returned (.agg #[.int .i64 q.1, .int .i64 q.2.1, .int .i64 q.2.2.1, .int .i64 q.2.2.2]) ∧ Below w'.heap.size w' w2) := fun w' h => by
                    have hi := security_any g L5 k w' h.both.tab
                    rw [hS5, hst.2.2, ← hq] at hi
                    exact hi
                  have hS0 : (Snap w g w.heap.size sb ob (ob + 1) (ob + 2) x L5 M5 M bs ap se) wr.drew := hSn.drewN 1
                  clear hst e1 e2 e3 hb hxs hq hpx hqx hpp y1 hSn hp
                  go_upto_region 24 with fail
                  refine wp_region_held_drew (S := (Snap w g w.heap.size sb ob (ob + 1) (ob + 2) x L5 M5 M bs ap se)) (by kernel_rfl) hS0 (fun hHeld => ?_)
                  refine takeAt 0 (some 73) (.int .i64 k) rfl rfl (by kernel_rfl) (by kernel_rfl) (by kernel_rfl) (fun _ _ _ h => h) (Or.inl ⟨by rfl, ?_⟩) hHeld ?_
                  · intro w9 hS9
                    go_simp
                  simp only [Act.put, List.setIfInBounds_toArray, List.set_cons_zero, List.set_cons_succ]
                  refine takeAt 1 (some 74) (.pointer (some ⟨w.heap.size, 1, none⟩)) rfl rfl (by kernel_rfl) (by kernel_rfl) (by kernel_rfl) (fun _ _ _ h => h) (Or.inl ⟨by rfl, ?_⟩) hHeld ?_
                  · intro w9 hS9
                    go_simp
                  simp only [Act.put, List.setIfInBounds_toArray, List.set_cons_zero, List.set_cons_succ]
                  refine takeAt 2 (some 75) (.int .i64 x.n) rfl rfl (by kernel_rfl) (by kernel_rfl) (by kernel_rfl) (fun _ _ _ h => h) (Or.inl ⟨by rfl, ?_⟩) hHeld ?_
                  · intro w9 hS9
                    have h9 := sX.out w9 hS9
                    go_simp
                  simp only [Act.put, List.setIfInBounds_toArray, List.set_cons_zero, List.set_cons_succ]
                  refine takeAt 3 (some 76) (.bool true) rfl rfl (by kernel_rfl) (by kernel_rfl) (by kernel_rfl) (fun _ _ _ h => h) (Or.inl ⟨by rfl, ?_⟩) hHeld ?_
                  · intro w9 hS9
                    go_simp
                  simp only [Act.put, List.setIfInBounds_toArray, List.set_cons_zero, List.set_cons_succ]
                  refine takeAt 4 (some 77) (.bool true) rfl rfl (by kernel_rfl) (by kernel_rfl) (by kernel_rfl) (fun _ _ _ h => h) (Or.inl ⟨by rfl, ?_⟩) hHeld ?_
                  · intro w9 hS9
                    go_simp
                  simp only [Act.put, List.setIfInBounds_toArray, List.set_cons_zero, List.set_cons_succ]
                  refine takeAt 5 (some 78) (.pointer (some ⟨g, 0, none⟩)) rfl rfl (by kernel_rfl) (by kernel_rfl) (by kernel_rfl) (fun _ _ _ h => h) (Or.inl ⟨by rfl, ?_⟩) hHeld ?_
                  · intro w9 hS9
                    go_simp
                  simp only [Act.put, List.setIfInBounds_toArray, List.set_cons_zero, List.set_cons_succ]
                  refine takeAt 6 (some 79) (.int .i64 k) rfl rfl (by kernel_rfl) (by kernel_rfl) (by kernel_rfl) (fun _ _ _ h => h) (Or.inl ⟨by rfl, ?_⟩) hHeld ?_
                  · intro w9 hS9
                    go_simp
                  simp only [Act.put, List.setIfInBounds_toArray, List.set_cons_zero, List.set_cons_succ]
                  refine takeAt 8 (some 81) (.int .i64 k) rfl rfl (by kernel_rfl) (by kernel_rfl) (by kernel_rfl) (fun _ _ _ h => h) (Or.inl ⟨by rfl, ?_⟩) hHeld ?_
                  · intro w9 hS9
                    go_simp
                  simp only [Act.put, List.setIfInBounds_toArray, List.set_cons_zero, List.set_cons_succ]
                  refine takeAt 9 (some 82) (.pointer (some ⟨ob, k, none⟩)) rfl rfl (by kernel_rfl) (by kernel_rfl) (by kernel_rfl) (fun _ _ _ h => h) (Or.inl ⟨by rfl, ?_⟩) hHeld ?_
                  · intro w9 hS9
                    go_simp
                  simp only [Act.put, List.setIfInBounds_toArray, List.set_cons_zero, List.set_cons_succ]
                  refine takeAt 10 (some 83) (.bool b) rfl rfl (by kernel_rfl) (by kernel_rfl) (by kernel_rfl) (fun _ _ _ h => h) (Or.inl ⟨by rfl, ?_⟩) hHeld ?_
                  · intro w9 hS9
                    have h9 := sO.out w9 hS9
                    go_simp
                  simp only [Act.put, List.setIfInBounds_toArray, List.set_cons_zero, List.set_cons_succ]
                  refine wpAnyH_ready (rs := [7]) (by kernel_rfl) (by simp) (AllReadyH.cons rfl (fun K hK => ?_) AllReadyH.nil)
                  go_simp
                  refine (cI.out _ hHeld).mono ?_
                  rintro e w1 ⟨rfl, rfl⟩
                  go_wp2_with fail
                  refine hK.out _ _ (hHeld) (fun hHeld => ?_)
                  clear hK
                  try simp only [Act.put, List.setIfInBounds_toArray, List.set_cons_zero, List.set_cons_succ]
                  refine takeAt 11 (some 84) (.bool false) rfl rfl (by kernel_rfl) (by kernel_rfl) (by kernel_rfl) (fun _ _ _ h => h) (Or.inl ⟨by rfl, ?_⟩) hHeld ?_
                  · intro w9 hS9
                    go_simp
                  simp only [Act.put, List.setIfInBounds_toArray, List.set_cons_zero, List.set_cons_succ]
                  refine takeAt 12 (some 85) (.bool false) rfl rfl (by kernel_rfl) (by kernel_rfl) (by kernel_rfl) (fun _ _ _ h => h) (Or.inl ⟨by rfl, ?_⟩) hHeld ?_
                  · intro w9 hS9
                    go_simp
                  simp only [Act.put, List.setIfInBounds_toArray, List.set_cons_zero, List.set_cons_succ]
                  refine takeAt 13 (some 86) (.pointer (some ⟨g, 0, none⟩)) rfl rfl (by kernel_rfl) (by kernel_rfl) (by kernel_rfl) (fun _ _ _ h => h) (Or.inl ⟨by rfl, ?_⟩) hHeld ?_
                  · intro w9 hS9
                    go_simp
                  simp only [Act.put, List.setIfInBounds_toArray, List.set_cons_zero, List.set_cons_succ]
                  refine takeAt 14 (some 87) (.int .i64 k) rfl rfl (by kernel_rfl) (by kernel_rfl) (by kernel_rfl) (fun _ _ _ h => h) (Or.inl ⟨by rfl, ?_⟩) hHeld ?_
                  · intro w9 hS9
                    go_simp
                  simp only [Act.put, List.setIfInBounds_toArray, List.set_cons_zero, List.set_cons_succ]
                  refine takeAt 16 (some 89) (.int .i64 k) rfl rfl (by kernel_rfl) (by kernel_rfl) (by kernel_rfl) (fun _ _ _ h => h) (Or.inl ⟨by rfl, ?_⟩) hHeld ?_
                  · intro w9 hS9
                    go_simp
                  simp only [Act.put, List.setIfInBounds_toArray, List.set_cons_zero, List.set_cons_succ]
                  refine takeAt 17 (some 90) (.pointer (some ⟨ob + 1, k, none⟩)) rfl rfl (by kernel_rfl) (by kernel_rfl) (by kernel_rfl) (fun _ _ _ h => h) (Or.inl ⟨by rfl, ?_⟩) hHeld ?_
                  · intro w9 hS9
                    go_simp
                  simp only [Act.put, List.setIfInBounds_toArray, List.set_cons_zero, List.set_cons_succ]
                  refine takeAt 18 (some 91) (.slice p.A xs.length p.c) rfl rfl (by kernel_rfl) (by kernel_rfl) (by kernel_rfl) (fun _ _ _ h => h) (Or.inl ⟨by rfl, ?_⟩) hHeld ?_
                  · intro w9 hS9
                    have h9 := sP.out w9 hS9
                    go_simp
                  simp only [Act.put, List.setIfInBounds_toArray, List.set_cons_zero, List.set_cons_succ]
                  refine wpAnyH_ready (rs := [15]) (by kernel_rfl) (by simp) (AllReadyH.cons rfl (fun K hK => ?_) AllReadyH.nil)
                  go_simp
                  refine (cA.out _ hHeld).mono ?_
                  rintro e w2 ⟨A2, c2, rfl, hr2, hb2⟩
                  go_wp2_with fail
                  refine hK.out _ _ (hHeld.keep hb2) (fun hHeld => ?_)
                  clear hK
                  try simp only [Act.put, List.setIfInBounds_toArray, List.set_cons_zero, List.set_cons_succ]
                  refine wpAnyH_ready (rs := [19]) (by kernel_rfl) (by simp) (AllReadyH.cons rfl (fun K hK => ?_) AllReadyH.nil)
                  go_simp
                  refine (same_short A2 p.A c2 p.c xs xs _ (by omega) hr2 (sR.out _ hHeld)).mono ?_
                  rintro e w3 ⟨rfl, z, rfl⟩
                  go_wp2_with fail
                  refine hK.out _ _ (hHeld.drewN z) (fun hHeld => ?_)
                  clear hK
                  try simp only [Act.put, List.setIfInBounds_toArray, List.set_cons_zero, List.set_cons_succ]
                  refine takeAt 20 (some 93) (.bool false) rfl rfl (by kernel_rfl) (by kernel_rfl) (by kernel_rfl) (fun _ _ _ h => h) (Or.inl ⟨by rfl, ?_⟩) hHeld ?_
                  · intro w9 hS9
                    go_simp
                  simp only [Act.put, List.setIfInBounds_toArray, List.set_cons_zero, List.set_cons_succ]
                  refine takeAt 21 (some 94) (.bool false) rfl rfl (by kernel_rfl) (by kernel_rfl) (by kernel_rfl) (fun _ _ _ h => h) (Or.inl ⟨by rfl, ?_⟩) hHeld ?_
                  · intro w9 hS9
                    go_simp
                  simp only [Act.put, List.setIfInBounds_toArray, List.set_cons_zero, List.set_cons_succ]
                  refine takeAt 22 (some 95) (.bool false) rfl rfl (by kernel_rfl) (by kernel_rfl) (by kernel_rfl) (fun _ _ _ h => h) (Or.inl ⟨by rfl, ?_⟩) hHeld ?_
                  · intro w9 hS9
                    go_simp
                  simp only [Act.put, List.setIfInBounds_toArray, List.set_cons_zero, List.set_cons_succ]
                  refine takeAt 23 (some 96) (.pointer (some ⟨g, 0, none⟩)) rfl rfl (by kernel_rfl) (by kernel_rfl) (by kernel_rfl) (fun _ _ _ h => h) (Or.inl ⟨by rfl, ?_⟩) hHeld ?_
                  · intro w9 hS9
                    go_simp
                  simp only [Act.put, List.setIfInBounds_toArray, List.set_cons_zero, List.set_cons_succ]
                  refine takeAt 24 (some 97) (.int .i64 k) rfl rfl (by kernel_rfl) (by kernel_rfl) (by kernel_rfl) (fun _ _ _ h => h) (Or.inl ⟨by rfl, ?_⟩) hHeld ?_
                  · intro w9 hS9
                    go_simp
                  simp only [Act.put, List.setIfInBounds_toArray, List.set_cons_zero, List.set_cons_succ]
                  refine takeAt 26 (some 99) (.int .i64 k) rfl rfl (by kernel_rfl) (by kernel_rfl) (by kernel_rfl) (fun _ _ _ h => h) (Or.inl ⟨by rfl, ?_⟩) hHeld ?_
                  · intro w9 hS9
                    go_simp
                  simp only [Act.put, List.setIfInBounds_toArray, List.set_cons_zero, List.set_cons_succ]
                  refine takeAt 27 (some 100) (.pointer (some ⟨ob + 2, k * 4, none⟩)) rfl rfl (by kernel_rfl) (by kernel_rfl) (by kernel_rfl) (fun _ _ _ h => h) (Or.inl ⟨by rfl, ?_⟩) hHeld ?_
                  · intro w9 hS9
                    go_simp
                  simp only [Act.put, List.setIfInBounds_toArray, List.set_cons_zero, List.set_cons_succ]
                  refine takeAt 28 (some 101) (.agg #[.int .i64 q.1, .int .i64 q.2.1, .int .i64 q.2.2.1, .int .i64 q.2.2.2]) rfl rfl (by kernel_rfl) (by kernel_rfl) (by kernel_rfl) (fun _ _ _ h => h) (Or.inl ⟨by rfl, ?_⟩) hHeld ?_
                  · intro w9 hS9
                    have h9 := sQ0.out w9 hS9; have h8 := sQ1.out w9 hS9; have h7 := sQ2.out w9 hS9; have h6 := sQ3.out w9 hS9
                    go_simp
                  simp only [Act.put, List.setIfInBounds_toArray, List.set_cons_zero, List.set_cons_succ]
                  refine wpAnyH_ready (rs := [25]) (by kernel_rfl) (by simp) (AllReadyH.cons rfl (fun K hK => ?_) AllReadyH.nil)
                  go_simp
                  refine (cS.out _ hHeld).mono ?_
                  rintro e w4 ⟨rfl, hb4⟩
                  go_wp2_with fail
                  refine hK.out _ _ (hHeld.keep hb4) (fun hHeld => ?_)
                  clear hK
                  try simp only [Act.put, List.setIfInBounds_toArray, List.set_cons_zero, List.set_cons_succ]
                  refine takeAt 29 (some 102) (.bool false) rfl rfl (by kernel_rfl) (by kernel_rfl) (by kernel_rfl) (fun _ _ _ h => h) (Or.inl ⟨by rfl, ?_⟩) hHeld ?_
                  · intro w9 hS9
                    go_simp
                  simp only [Act.put, List.setIfInBounds_toArray, List.set_cons_zero, List.set_cons_succ]
                  refine takeAt 30 (some 103) (.bool false) rfl rfl (by kernel_rfl) (by kernel_rfl) (by kernel_rfl) (fun _ _ _ h => h) (Or.inl ⟨by rfl, ?_⟩) hHeld ?_
                  · intro w9 hS9
                    go_simp
                  simp only [Act.put, List.setIfInBounds_toArray, List.set_cons_zero, List.set_cons_succ]
                  refine takeAt 31 (some 104) (.bool false) rfl rfl (by kernel_rfl) (by kernel_rfl) (by kernel_rfl) (fun _ _ _ h => h) (Or.inl ⟨by rfl, ?_⟩) hHeld ?_
                  · intro w9 hS9
                    go_simp
                  simp only [Act.put, List.setIfInBounds_toArray, List.set_cons_zero, List.set_cons_succ]
                  refine wpAnyH_done (by kernel_rfl) ?_ _
                  clear sO sP sR sX sQ0 sQ1 sQ2 sQ3 cI cA cS
                  go_wp2
                  go_roundw
                  case rel => exact ⟨k + 1, by omega, by go_num, hHeld⟩
                  case measure => simp [intOf]; omega
              · obtain rfl : k = 4 := by omega
                go_wp2_with fail
                refine (awake_any wr).mono ?_
                rintro e w9 ⟨rfl, hb9⟩
                go_wp2
                go_ret
                exact ⟨rfl, hSn.bel.trans (hb9.mono hSn.bel.size)⟩
end Go.Proofs.Ytpbgfiaaechiaaa
