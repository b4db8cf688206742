/-
  ChannelModel: the walk.
-/
import Derived.Test.YtpbgfiaaechiaaaUpto37
import Derived.Test.YtpbgfiaaechiaaaOpen37
namespace Go.Proofs.Ytpbgfiaaechiaaa
open Go.RowKit
set_option linter.unusedVariables false

set_option linter.unusedSimpArgs false in
set_option maxHeartbeats 4000000 in
theorem channelModel_walk (w : World) (A : Option Addr) (c : Nat) (os : List Op37) (hc : os.length ≤ c) (hf : ∀ o ∈ os, opOk w o) (hr : RC w A (os.flatMap opCells)) :
    Calls Try.prog 6 #[.slice A os.length c] w fun e w' => e = .returned (.bool true) ∧ Below w.heap.size w w' := by
  have HB0 := Below.refl w.heap.size w
  by_cases hlen : 40 < os.length
  · have h1 : (40 : Int) < (os.length : Int) := by omega
    go_enter Try.func6, Try.ntmps6
    go_wp2
    go_ret
    exact ⟨rfl, HB0⟩
  · have h1 : ¬ ((40 : Int) < (os.length : Int)) := by omega
    go_enter Try.func6, Try.ntmps6
    go_wp2_with fail
    refine (new_any w).mono ?_
    rintro e w1 ⟨rfl, hT1, hb1⟩
    go_wp2_with fail
    refine (first_any w1).mono ?_
    rintro e w2 ⟨rfl, hb2⟩
    have hg0 : w.heap.size ≤ w.heap.size := HB0.size
    have hgs : w.heap.size < w2.heap.size := Nat.lt_of_lt_of_le hT1.1.size hb2.size
    have hB2 := Both.start (hT1.below hb2)
    have hk2 : Blk (w2.alloc (.cells #[.bool false, .slice none 0 0, .int .i64 0, .int .i64 0, .int .i64 0, .int .i64 0, .bool false, .slice none 0 0, .int .i64 0, .int .i64 0, .int .i64 0, .int .i64 0, .bool false, .slice none 0 0, .int .i64 0, .int .i64 0, .int .i64 0, .int .i64 0, .bool false, .slice none 0 0, .int .i64 0, .int .i64 0, .int .i64 0, .int .i64 0] 32)) w2.heap.size 32 (scs zeroL) := Blk.made w2 32 (scs zeroL)
    have hba := (Below.refl w2.heap.size w2).alloc (Nat.le_refl _) (.cells #[.bool false, .slice none 0 0, .int .i64 0, .int .i64 0, .int .i64 0, .int .i64 0, .bool false, .slice none 0 0, .int .i64 0, .int .i64 0, .int .i64 0, .int .i64 0, .bool false, .slice none 0 0, .int .i64 0, .int .i64 0, .int .i64 0, .int .i64 0, .bool false, .slice none 0 0, .int .i64 0, .int .i64 0, .int .i64 0, .int .i64 0] 32)
    have hz1 : (scs zeroL).size = 24 := rfl
    have hzf : (scs firstL).size = 24 := rfl
    have hif : (Try.prog.info? 32).map (·.size) = some (scs firstL).size := rfl
    have hof := scs_one (M := firstL) rfl
    have hB3 := (hB2.below hba).rowS hk2 (by omega) (scs firstL)
    have hk3 := hk2.row (scs firstL)
    have hb12 := (HB0.trans (hb1.mono hg0)).trans (hb2.mono (Nat.le_trans hg0 hb1.size))
    have hb3 := below_row (hb12.trans (hba.mono hb12.size)) hb12.size (scs firstL)
    go_upto_region 7 with (refine wpList_store_row rfl _ _ _ rfl w2.heap.size (scs firstL) rfl rfl _ _ hk2.out hif (by rw [hz1, hzf]) hof ?_)
    obtain ⟨W3, hW3⟩ : ∃ W3 : World, W3 = (w2.alloc (.cells #[.bool false, .slice none 0 0, .int .i64 0, .int .i64 0, .int .i64 0, .int .i64 0, .bool false, .slice none 0 0, .int .i64 0, .int .i64 0, .int .i64 0, .int .i64 0, .bool false, .slice none 0 0, .int .i64 0, .int .i64 0, .int .i64 0, .int .i64 0, .bool false, .slice none 0 0, .int .i64 0, .int .i64 0, .int .i64 0, .int .i64 0] 32)).setRow w2.heap.size (scs firstL) := ⟨_, rfl⟩
    rw [← hW3]
    rw [← hW3] at hB3 hk3 hb3
    clear hW3 hk2
    have hsw := hb12.size
    obtain ⟨sb, hsb⟩ : ∃ sb, sb = w2.heap.size := ⟨_, rfl⟩
    obtain ⟨g, hg⟩ : ∃ g, g = w.heap.size := ⟨_, rfl⟩
    rw [← hsb, ← hg]
    rw [← hsb] at hk3 hgs hsw
    have hg0 : w.heap.size ≤ g := by rw [hg]; exact hg0
    rw [← hg] at hB3 hgs
    clear hsb hg hT1 hb1 hb2 hB2 hba hb12
    go_wp2_with (refine wpList_load_row rfl _ _ rfl sb rfl _ (scs firstL) _ _ hk3.out Try.underlying32 rfl hif ?_)
    refine (seen_any g firstL firstL W3 hB3).mono ?_
    rintro e w4 ⟨rfl, hb4⟩
    have hB4 := hB3.below hb4
    have hk4 := hk3.below hb4 hk3.size
    have hbw4 := hb3.trans (hb4.mono hb3.size)
    go_wp2
    go_loopw [5, 6] (fun v i wx => ∃ k : Nat, k ≤ os.length ∧ v = .bool true ∧ i = .int .i64 k ∧ ∃ L M, Both wx g L M ∧ Blk wx sb 32 (scs M) ∧ Below w.heap.size w wx) (fun _ i _ => os.length - (intOf i).toNat)
    case atStart => exact ⟨0, Nat.zero_le _, rfl, rfl, firstL, firstL, hB4, hk4, hbw4⟩
    case round =>
      obtain ⟨k, hkn, rfl, rfl, L, M, hB, hk, hbw⟩ := hrel
      by_cases hlt : k < os.length
      · skip
        have hkl : k < os.length := by omega
        obtain ⟨b, off, rfl, hx⟩ := RC.elem opCells (s := 7) (fun _ => rfl) hr k hkl (by decide)
        have hok := hf os[k] (List.getElem_mem hkl)
        have x0 : w.cell? ⟨b, off + k * 7, none⟩ = some (.int .i64 os[k].op) := hx 0 (by decide)
        have x1 : w.cell? ⟨b, off + k * 7 + 1, none⟩ = some (.int .i64 os[k].n) := by rw [Nat.add_assoc]; exact hx 1 (by decide)
        have x2 : w.cell? ⟨b, off + k * 7 + 2, none⟩ = some (.slice os[k].A os[k].x.length os[k].c) := by rw [Nat.add_assoc]; exact hx 2 (by decide)
        have x3 : w.cell? ⟨b, off + k * 7 + 3, none⟩ = some (.int .i64 os[k].t.p) := by rw [Nat.add_assoc]; exact hx 3 (by decide)
        have x4 : w.cell? ⟨b, off + k * 7 + 4, none⟩ = some (.int .i64 os[k].t.k) := by rw [Nat.add_assoc]; exact hx 4 (by decide)
        have x5 : w.cell? ⟨b, off + k * 7 + 5, none⟩ = some (.int .i64 os[k].t.s) := by rw [Nat.add_assoc]; exact hx 5 (by decide)
        have x6 : w.cell? ⟨b, off + k * 7 + 6, none⟩ = some (.int .i64 os[k].t.l) := by rw [Nat.add_assoc]; exact hx 6 (by decide)
        clear hx
        generalize os[k] = o at x0 x1 x2 x3 x4 x5 x6 hok
        have hbl : b < w.heap.size := cell?_lt x0
        have hbd := below_drewN hbw 1
        have y0 := (hbw.cell (p := ⟨b, off + k * 7, none⟩) hbl).trans x0
        have y1 := (hbw.cell (p := ⟨b, off + k * 7 + 1, none⟩) hbl).trans x1
        have y2 := (hbw.cell (p := ⟨b, off + k * 7 + 2, none⟩) hbl).trans x2
        have y3 := (hbw.cell (p := ⟨b, off + k * 7 + 3, none⟩) hbl).trans x3
        have y4 := (hbw.cell (p := ⟨b, off + k * 7 + 4, none⟩) hbl).trans x4
        have y5 := (hbw.cell (p := ⟨b, off + k * 7 + 5, none⟩) hbl).trans x5
        have y6 := (hbw.cell (p := ⟨b, off + k * 7 + 6, none⟩) hbl).trans x6
        have hi0 : (0 : Int) ≤ (k : Int) := by omega
        have hi1 : (k : Int) < (os.length : Int) := by omega
        have hkd := hk.below (below_drewN (Below.refl _ _) 1 : Below wr.heap.size wr (wr.drewN 1)) hk.size
        have hBd := hB.below (below_drewN (Below.refl _ _) 1 : Below wr.heap.size wr (wr.drewN 1))
        have hzm : (scs M).size = 24 := scs_size hB.len
        have him : (Try.prog.info? 32).map (·.size) = some (scs M).size := by rw [hzm]; rfl
        clear x0 x1 x2 x3 x4 x5 x6
        obtain ⟨S, HS⟩ : ∃ S, Hid (chs L = S) := ⟨_, rfl⟩
        go_upto_region 11 with fail
        go_cut [5] (fun v wx => v = .bool true ∧ ∃ L M, Both wx g L M ∧ Blk wx sb 32 (scs M) ∧ Below w.heap.size w wx ∧ chs L = stepC S o)
        case first =>
          refine wp_region_any (by kernel_rfl) ?_
          change wpAny _ _ _ _ _ _ _ (World.drew _)
          refine takeA 0 (some 27) (.pointer (some ⟨g, 0, none⟩)) rfl rfl (by kernel_rfl) (by kernel_rfl) (by kernel_rfl) (fun _ _ _ h => h) (Or.inl ⟨by rfl, ?_⟩) ?_
          · intro w9
            go_simp
          simp only [Act.put, List.setIfInBounds_toArray, List.set_cons_zero, List.set_cons_succ]
          refine takeA 2 (some 29) (.slice (some ⟨b, off, none⟩) os.length c) rfl rfl (by kernel_rfl) (by kernel_rfl) (by kernel_rfl) (fun _ _ _ h => h) (Or.inl ⟨by rfl, ?_⟩) ?_
          · intro w9
            go_simp
          simp only [Act.put, List.setIfInBounds_toArray, List.set_cons_zero, List.set_cons_succ]
          refine takeA 3 (some 30) (.int .i64 k) rfl rfl (by kernel_rfl) (by kernel_rfl) (by kernel_rfl) (fun _ _ _ h => h) (Or.inl ⟨by rfl, ?_⟩) ?_
          · intro w9
            go_simp
          simp only [Act.put, List.setIfInBounds_toArray, List.set_cons_zero, List.set_cons_succ]
          refine takeA 4 (some 31) (.pointer (some ⟨b, off + k * 7, none⟩)) rfl rfl (by kernel_rfl) (by kernel_rfl) (by kernel_rfl) (fun _ _ _ h => h) (Or.inl ⟨by rfl, ?_⟩) ?_
          · intro w9
            go_simp
          simp only [Act.put, List.setIfInBounds_toArray, List.set_cons_zero, List.set_cons_succ]
          refine wpAny_ready (rs := [1, 5]) (by kernel_rfl) (by simp) (AllReady.cons rfl (fun K hK => ?_) (AllReady.cons rfl (fun K hK => ?_) AllReady.nil))
          · rw [if_pos (by rfl)]
            refine wp_load_row _ _ rfl sb rfl _ (scs M) _ _ hkd.out Try.underlying32 rfl him ?_
            refine hK _ _ ?_
            clear hK K
            simp only [Act.put, List.setIfInBounds_toArray, List.set_cons_zero, List.set_cons_succ]
            refine wpAny_ready (rs := [5]) (by kernel_rfl) (by simp) (AllReady.cons rfl (fun K hK => ?_) AllReady.nil)
            go_simp
            refine hK _ _ ?_
            clear hK K
            refine wpAny_ready (rs := [6]) (by kernel_rfl) (by simp) (AllReady.cons rfl (fun K hK => ?_) AllReady.nil)
            go_simp
            refine (do_any g L M o (wr.drewN 1) hBd (hok.2.2.2.below hbd)).mono ?_
            rintro e w4 ⟨L1, M1, rfl, hB4, hS4, hn4⟩
            rw [HS.out] at hS4
            have hk4 := hkd.only hn4 (by omega)
            have hz4 : (scs M1).size = 24 := scs_size hB4.len
            have hi4 : (Try.prog.info? 32).map (·.size) = some (scs M1).size := by rw [hz4]; rfl
            have ho4 := scs_one hB4.len
            have hb4 := hbd.trans (hn4.bel hg0 hbd.size)
            have hB5 := hB4.rowS hk4 (by omega) (scs M1)
            have hk5 := hk4.row (scs M1)
            have hb5 := below_row hb4 hsw (scs M1)
            go_wp2_with fail
            refine takeA 7 (some 26) (.tuple #[.agg (scs M1), .bool true]) rfl rfl (by kernel_rfl) (by kernel_rfl) (by kernel_rfl) (fun _ _ _ h => h) (Or.inl ⟨by rfl, ?_⟩) ?_
            · intro w9
              go_simp
            simp only [Act.put, List.setIfInBounds_toArray, List.set_cons_zero, List.set_cons_succ]
            refine takeA 8 (some 34) (.agg (scs M1)) rfl rfl (by kernel_rfl) (by kernel_rfl) (by kernel_rfl) (fun _ _ _ h => h) (Or.inl ⟨by rfl, ?_⟩) ?_
            · intro w9
              go_simp
            simp only [Act.put, List.setIfInBounds_toArray, List.set_cons_zero, List.set_cons_succ]
            refine takeA 9 (some 35) (.bool true) rfl rfl (by kernel_rfl) (by kernel_rfl) (by kernel_rfl) (fun _ _ _ h => h) (Or.inl ⟨by rfl, ?_⟩) ?_
            · intro w9
              go_simp
            simp only [Act.put, List.setIfInBounds_toArray, List.set_cons_zero, List.set_cons_succ]
            refine wpAny_ready (rs := [10]) (by kernel_rfl) (by simp) (AllReady.cons rfl (fun K hK => ?_) AllReady.nil)
            rw [if_pos (by rfl)]
            refine wp_store_row _ _ _ rfl sb (scs M1) rfl rfl _ _ hk4.out hi4 (by rw [hzm, hz4]) ho4 ?_
            refine hK _ _ ?_
            clear hK K
            simp only [Act.put, List.setIfInBounds_toArray, List.set_cons_zero, List.set_cons_succ]
            refine takeA 11 (some 5) (.bool true) rfl rfl (by kernel_rfl) (by kernel_rfl) (by kernel_rfl) (fun _ _ _ h => h) (Or.inl ⟨by rfl, ?_⟩) ?_
            · intro w9
              go_simp
            simp only [Act.put, List.setIfInBounds_toArray, List.set_cons_zero, List.set_cons_succ]
            refine wpAny_done (by kernel_rfl) ?_ _
            go_wp2_with fail
            go_meet
            exact ⟨rfl, L1, M1, hB5, hk5, hb5, hS4⟩
          · go_simp
            refine hK _ _ ?_
            clear hK K
            refine wpAny_ready (rs := [1]) (by kernel_rfl) (by simp) (AllReady.cons rfl (fun K hK => ?_) AllReady.nil)
            rw [if_pos (by rfl)]
            refine wp_load_row _ _ rfl sb rfl _ (scs M) _ _ hkd.out Try.underlying32 rfl him ?_
            refine hK _ _ ?_
            clear hK K
            simp only [Act.put, List.setIfInBounds_toArray, List.set_cons_zero, List.set_cons_succ]
            refine wpAny_ready (rs := [6]) (by kernel_rfl) (by simp) (AllReady.cons rfl (fun K hK => ?_) AllReady.nil)
            go_simp
            refine (do_any g L M o (wr.drewN 1) hBd (hok.2.2.2.below hbd)).mono ?_
            rintro e w4 ⟨L1, M1, rfl, hB4, hS4, hn4⟩
            rw [HS.out] at hS4
            have hk4 := hkd.only hn4 (by omega)
            have hz4 : (scs M1).size = 24 := scs_size hB4.len
            have hi4 : (Try.prog.info? 32).map (·.size) = some (scs M1).size := by rw [hz4]; rfl
            have ho4 := scs_one hB4.len
            have hb4 := hbd.trans (hn4.bel hg0 hbd.size)
            have hB5 := hB4.rowS hk4 (by omega) (scs M1)
            have hk5 := hk4.row (scs M1)
            have hb5 := below_row hb4 hsw (scs M1)
            go_wp2_with fail
            refine takeA 7 (some 26) (.tuple #[.agg (scs M1), .bool true]) rfl rfl (by kernel_rfl) (by kernel_rfl) (by kernel_rfl) (fun _ _ _ h => h) (Or.inl ⟨by rfl, ?_⟩) ?_
            · intro w9
              go_simp
            simp only [Act.put, List.setIfInBounds_toArray, List.set_cons_zero, List.set_cons_succ]
            refine takeA 8 (some 34) (.agg (scs M1)) rfl rfl (by kernel_rfl) (by kernel_rfl) (by kernel_rfl) (fun _ _ _ h => h) (Or.inl ⟨by rfl, ?_⟩) ?_
            · intro w9
              go_simp
            simp only [Act.put, List.setIfInBounds_toArray, List.set_cons_zero, List.set_cons_succ]
            refine takeA 9 (some 35) (.bool true) rfl rfl (by kernel_rfl) (by kernel_rfl) (by kernel_rfl) (fun _ _ _ h => h) (Or.inl ⟨by rfl, ?_⟩) ?_
            · intro w9
              go_simp
            simp only [Act.put, List.setIfInBounds_toArray, List.set_cons_zero, List.set_cons_succ]
            refine wpAny_ready (rs := [10]) (by kernel_rfl) (by simp) (AllReady.cons rfl (fun K hK => ?_) AllReady.nil)
            rw [if_pos (by rfl)]
            refine wp_store_row _ _ _ rfl sb (scs M1) rfl rfl _ _ hk4.out hi4 (by rw [hzm, hz4]) ho4 ?_
            refine hK _ _ ?_
            clear hK K
            simp only [Act.put, List.setIfInBounds_toArray, List.set_cons_zero, List.set_cons_succ]
            refine takeA 11 (some 5) (.bool true) rfl rfl (by kernel_rfl) (by kernel_rfl) (by kernel_rfl) (fun _ _ _ h => h) (Or.inl ⟨by rfl, ?_⟩) ?_
            · intro w9
              go_simp
            simp only [Act.put, List.setIfInBounds_toArray, List.set_cons_zero, List.set_cons_succ]
            refine wpAny_done (by kernel_rfl) ?_ _
            go_wp2_with fail
            go_meet
            exact ⟨rfl, L1, M1, hB5, hk5, hb5, hS4⟩
        case rest =>
          obtain ⟨rfl, L1, M1, hB5, hk5, hb5, hS5⟩ := hcut
          have hz4 : (scs M1).size = 24 := scs_size hB5.len
          have hi4 : (Try.prog.info? 32).map (·.size) = some (scs M1).size := by rw [hz4]; rfl
          go_wp2_with (refine wpList_load_rowG (by rfl) _ _ rfl sb rfl _ (scs M1) _ _ hk5.out Try.underlying32 rfl hi4 ?_)
          refine (seen_any g L1 M1 wc hB5).mono ?_
          rintro e w6 ⟨rfl, hb6⟩
          go_wp2
          go_roundw
          case rel => exact ⟨k + 1, by omega, rfl, by go_num, L1, M1, hB5.below hb6, hk5.below hb6 hk5.size, hb5.trans (hb6.mono hb5.size)⟩
          case measure => simp [intOf]; omega
      · go_wp2_with fail
        refine (awake_any wr).mono ?_
        rintro e w5 ⟨rfl, hb5⟩
        go_wp2
        go_ret
        exact ⟨rfl, hbw.trans (hb5.mono hbw.size)⟩
end Go.Proofs.Ytpbgfiaaechiaaa
