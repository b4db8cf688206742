/-
  ChannelZero: the walk.
-/
import Derived.Test.YtpbgfiaaechiaaaUpto37
import Derived.Test.YtpbgfiaaechiaaaOpen37
namespace Go.Proofs.Ytpbgfiaaechiaaa
open Go.RowKit
set_option linter.unusedVariables false

/-- Channel 0 is open, and is not closed. -/
theorem zero_open {L : List Ln} (h4 : L.length = 4) (h : open0 (chs L)) : whichC (chs L) 0 = 0 := by
  have h0 : 0 < L.length := by omega
  have hw := which_in h0 h4
  unfold open0 at h
  rw [chs_get L 0 h0] at h
  have ho : L[0].ch.o = true := by simpa using h
  rw [if_pos ho] at hw
  exact hw
/-- The cases of Open. -/
theorem openC_cases (S : List Ch) (h : open0 S) (h4 : S.length = 4) (n : Int) :
    (∃ z, z ≠ 0 ∧ openC S n = (S, 0, z)) ∨ (∃ k : Nat, 0 < k ∧ k < 4 ∧ (n = 0 ∨ n = (k : Int)) ∧ openC S n = (S.set k lineO, (k : Int), 0)) := by
  unfold openC
  by_cases hn : n < 0 ∨ 4 ≤ n
  · rw [if_pos hn]; exact .inl ⟨2, by decide, rfl⟩
  · rw [if_neg hn]
    by_cases hb : n ≠ 0 ∧ whichC S n = 0
    · rw [if_pos hb]; exact .inl ⟨15, by decide, rfl⟩
    · rw [if_neg hb]
      rcases hf : (List.range 4).find? (freeB S n) with _ | k
      · rw [loopO_none hf]; exact .inl ⟨10, by decide, rfl⟩
      · right
        rw [loopO_some hf]
        have h1 := List.find?_some hf
        have h2 : k ∈ List.range 4 := List.mem_of_find?_eq_some hf
        have hk4 : k < 4 := by simpa using h2
        have hk0 : k ≠ 0 := fun e => by
          subst e
          rw [loopR h] at h1
          cases h1
        refine ⟨k, by omega, hk4, ?_, rfl⟩
        unfold freeB at h1
        simp only [Bool.and_eq_true, Bool.or_eq_true, beq_iff_eq] at h1
        exact h1.2
theorem lineO_which {S : List Ch} (h4 : S.length = 4) {k : Nat} (hk : k < 4) : whichC (S.set k lineO) (k : Int) = 0 := by
  unfold whichC
  have hk' : k < S.length := by omega
  rw [if_neg (by omega), Int.toNat_natCast, List.getElem?_set_self hk']
  rfl
theorem lineO_app {S : List Ch} (h4 : S.length = 4) {k : Nat} (hk : k < 4) : appOf (S.set k lineO) (k : Int) = [] := by
  unfold appOf
  have hk' : k < S.length := by omega
  rw [if_pos (lineO_which h4 hk), Int.toNat_natCast, List.getElem?_set_self hk']
  rfl
theorem lineO_sec {S : List Ch} (h4 : S.length = 4) {k : Nat} (hk : k < 4) : secOf (S.set k lineO) (k : Int) = (0, 0, 0, 0) := by
  unfold secOf
  have hk' : k < S.length := by omega
  rw [if_pos (lineO_which h4 hk), Int.toNat_natCast, List.getElem?_set_self hk']
  rfl
set_option linter.unusedSimpArgs false in
set_option maxHeartbeats 4000000 in
theorem channelZero_walk (w : World) (A : Option Addr) (c : Nat) (os : List Op37) (hc : os.length ≤ c) (hf : ∀ o ∈ os, opOk w o) (hr : RC w A (os.flatMap opCells)) (n : Int) (hn : (Lit.int .i64 n).wf = true) :
    Calls Try.prog 4 #[.slice A os.length c, .int .i64 n] w fun e w' => e = .returned (.bool true) ∧ Below w.heap.size w w' := by
  have HB0 := Below.refl w.heap.size w
  by_cases hlen : 40 < os.length
  · have h1 : (40 : Int) < (os.length : Int) := by omega
    go_enter Try.func4, Try.ntmps4
    go_wp2
    go_ret
    exact ⟨rfl, HB0⟩
  · have h1 : ¬ ((40 : Int) < (os.length : Int)) := by omega
    go_enter Try.func4, Try.ntmps4
    go_wp2_with fail
    refine (new_any w).mono ?_
    rintro e w1 ⟨rfl, hT1, hb1⟩
    go_wp2_with fail
    refine (first_any w1).mono ?_
    rintro e w2 ⟨rfl, hb2⟩
    have hg0 : w.heap.size ≤ w.heap.size := HB0.size
    have hgs : w.heap.size < w2.heap.size := Nat.lt_of_lt_of_le hT1.1.size hb2.size
    have hB2 := Both.start (hT1.below hb2)
    have hk2 : Blk (w2.alloc (.cells #[.bool false, .slice none 0 0, .int .i64 0, .int .i64 0, .int .i64 0, .int .i64 0, .bool false, .slice none 0 0, .int .i64 0, .int .i64 0, .int .i64 0, .int .i64 0, .bool false, .slice none 0 0, .int .i64 0, .int .i64 0, .int .i64 0, .int .i64 0, .bool false, .slice none 0 0, .int .i64 0, .int .i64 0, .int .i64 0, .int .i64 0] 32)) w2.heap.size 32 (scs zeroL) := Blk.made w2 32 (scs zeroL)
    have hba := (Below.refl w2.heap.size w2).alloc (Nat.le_refl _) (.cells #[.bool false, .slice none 0 0, .int .i64 0, .int .i64 0, .int .i64 0, .int .i64 0, .bool false, .slice none 0 0, .int .i64 0, .int .i64 0, .int .i64 0, .int .i64 0, .bool false, .slice none 0 0, .int .i64 0, .int .i64 0, .int .i64 0, .int .i64 0, .bool false, .slice none 0 0, .int .i64 0, .int .i64 0, .int .i64 0, .int .i64 0] 32)
    have hz1 : (scs zeroL).size = 24 := rfl
    have hzf : (scs firstL).size = 24 := rfl
    have hif : (Try.prog.info? 32).map (·.size) = some (scs firstL).size := rfl
    have hof := scs_one (M := firstL) rfl
    have hB3 := (hB2.below hba).rowS hk2 (by omega) (scs firstL)
    have hk3 := hk2.row (scs firstL)
    have hb12 := (HB0.trans (hb1.mono hg0)).trans (hb2.mono (Nat.le_trans hg0 hb1.size))
    have hb3 := below_row (hb12.trans (hba.mono hb12.size)) hb12.size (scs firstL)
    go_upto_region 7 with (refine wpList_store_row rfl _ _ _ rfl w2.heap.size (scs firstL) rfl rfl _ _ hk2.out hif (by rw [hz1, hzf]) hof ?_)
    obtain ⟨W3, hW3⟩ : ∃ W3 : World, W3 = (w2.alloc (.cells #[.bool false, .slice none 0 0, .int .i64 0, .int .i64 0, .int .i64 0, .int .i64 0, .bool false, .slice none 0 0, .int .i64 0, .int .i64 0, .int .i64 0, .int .i64 0, .bool false, .slice none 0 0, .int .i64 0, .int .i64 0, .int .i64 0, .int .i64 0, .bool false, .slice none 0 0, .int .i64 0, .int .i64 0, .int .i64 0, .int .i64 0] 32)).setRow w2.heap.size (scs firstL) := ⟨_, rfl⟩
    rw [← hW3]
    rw [← hW3] at hB3 hk3 hb3
    clear hW3 hk2
    have hsw := hb12.size
    obtain ⟨sb, hsb⟩ : ∃ sb, sb = w2.heap.size := ⟨_, rfl⟩
    obtain ⟨g, hg⟩ : ∃ g, g = w.heap.size := ⟨_, rfl⟩
    rw [← hsb, ← hg]
    rw [← hsb] at hk3 hgs hsw
    have hg0 : w.heap.size ≤ g := by rw [hg]; exact hg0
    rw [← hg] at hB3 hgs
    clear hsb hg hT1 hb1 hb2 hB2 hba hb12
    go_wp2
    go_loopw [7] (fun i wx => ∃ k : Nat, k ≤ os.length ∧ i = .int .i64 k ∧ ∃ L M, Both wx g L M ∧ Blk wx sb 32 (scs M) ∧ Below w.heap.size w wx) (fun i _ => os.length - (intOf i).toNat)
    case atStart => exact ⟨0, Nat.zero_le _, rfl, firstL, firstL, hB3, hk3, hb3⟩
    case round =>
      obtain ⟨k, hkn, rfl, L, M, hB, hk, hbw⟩ := hrel
      by_cases hlt : k < os.length
      · skip
        have hkl : k < os.length := by omega
        obtain ⟨b, off, rfl, hx⟩ := RC.elem opCells (s := 7) (fun _ => rfl) hr k hkl (by decide)
        have hok := hf os[k] (List.getElem_mem hkl)
        have x0 : w.cell? ⟨b, off + k * 7, none⟩ = some (.int .i64 os[k].op) := hx 0 (by decide)
        have x1 : w.cell? ⟨b, off + k * 7 + 1, none⟩ = some (.int .i64 os[k].n) := by rw [Nat.add_assoc]; exact hx 1 (by decide)
        have x2 : w.cell? ⟨b, off + k * 7 + 2, none⟩ = some (.slice os[k].A os[k].x.length os[k].c) := by rw [Nat.add_assoc]; exact hx 2 (by decide)
        have x3 : w.cell? ⟨b, off + k * 7 + 3, none⟩ = some (.int .i64 os[k].t.p) := by rw [Nat.add_assoc]; exact hx 3 (by decide)
        have x4 : w.cell? ⟨b, off + k * 7 + 4, none⟩ = some (.int .i64 os[k].t.k) := by rw [Nat.add_assoc]; exact hx 4 (by decide)
        have x5 : w.cell? ⟨b, off + k * 7 + 5, none⟩ = some (.int .i64 os[k].t.s) := by rw [Nat.add_assoc]; exact hx 5 (by decide)
        have x6 : w.cell? ⟨b, off + k * 7 + 6, none⟩ = some (.int .i64 os[k].t.l) := by rw [Nat.add_assoc]; exact hx 6 (by decide)
        clear hx
        generalize os[k] = o at x0 x1 x2 x3 x4 x5 x6 hok
        have hbl : b < w.heap.size := cell?_lt x0
        have hbd := below_drewN hbw 1
        have y0 := (hbw.cell (p := ⟨b, off + k * 7, none⟩) hbl).trans x0
        have y1 := (hbw.cell (p := ⟨b, off + k * 7 + 1, none⟩) hbl).trans x1
        have y2 := (hbw.cell (p := ⟨b, off + k * 7 + 2, none⟩) hbl).trans x2
        have y3 := (hbw.cell (p := ⟨b, off + k * 7 + 3, none⟩) hbl).trans x3
        have y4 := (hbw.cell (p := ⟨b, off + k * 7 + 4, none⟩) hbl).trans x4
        have y5 := (hbw.cell (p := ⟨b, off + k * 7 + 5, none⟩) hbl).trans x5
        have y6 := (hbw.cell (p := ⟨b, off + k * 7 + 6, none⟩) hbl).trans x6
        have hi0 : (0 : Int) ≤ (k : Int) := by omega
        have hi1 : (k : Int) < (os.length : Int) := by omega
        have hkd := hk.below (below_drewN (Below.refl _ _) 1 : Below wr.heap.size wr (wr.drewN 1)) hk.size
        have hBd := hB.below (below_drewN (Below.refl _ _) 1 : Below wr.heap.size wr (wr.drewN 1))
        have hzm : (scs M).size = 24 := scs_size hB.len
        have him : (Try.prog.info? 32).map (·.size) = some (scs M).size := by rw [hzm]; rfl
        clear x0 x1 x2 x3 x4 x5 x6
        obtain ⟨S, HS⟩ : ∃ S, Hid (chs L = S) := ⟨_, rfl⟩
        go_upto_region 10 with fail
        · skip
          refine wp_region_any (by kernel_rfl) ?_
          change wpAny _ _ _ _ _ _ _ (World.drew _)
          refine takeA 0 (some 24) (.pointer (some ⟨g, 0, none⟩)) rfl rfl (by kernel_rfl) (by kernel_rfl) (by kernel_rfl) (fun _ _ _ h => h) (Or.inl ⟨by rfl, ?_⟩) ?_
          · intro w9
            go_simp
          simp only [Act.put, List.setIfInBounds_toArray, List.set_cons_zero, List.set_cons_succ]
          refine takeA 2 (some 26) (.slice (some ⟨b, off, none⟩) os.length c) rfl rfl (by kernel_rfl) (by kernel_rfl) (by kernel_rfl) (fun _ _ _ h => h) (Or.inl ⟨by rfl, ?_⟩) ?_
          · intro w9
            go_simp
          simp only [Act.put, List.setIfInBounds_toArray, List.set_cons_zero, List.set_cons_succ]
          refine takeA 3 (some 27) (.int .i64 k) rfl rfl (by kernel_rfl) (by kernel_rfl) (by kernel_rfl) (fun _ _ _ h => h) (Or.inl ⟨by rfl, ?_⟩) ?_
          · intro w9
            go_simp
          simp only [Act.put, List.setIfInBounds_toArray, List.set_cons_zero, List.set_cons_succ]
          refine takeA 4 (some 28) (.pointer (some ⟨b, off + k * 7, none⟩)) rfl rfl (by kernel_rfl) (by kernel_rfl) (by kernel_rfl) (fun _ _ _ h => h) (Or.inl ⟨by rfl, ?_⟩) ?_
          · intro w9
            go_simp
          simp only [Act.put, List.setIfInBounds_toArray, List.set_cons_zero, List.set_cons_succ]
          refine wpAny_ready (rs := [1, 5]) (by kernel_rfl) (by simp) (AllReady.cons rfl (fun K hK => ?_) (AllReady.cons rfl (fun K hK => ?_) AllReady.nil))
          · rw [if_pos (by rfl)]
            refine wp_load_row _ _ rfl sb rfl _ (scs M) _ _ hkd.out Try.underlying32 rfl him ?_
            refine hK _ _ ?_
            clear hK K
            simp only [Act.put, List.setIfInBounds_toArray, List.set_cons_zero, List.set_cons_succ]
            refine wpAny_ready (rs := [5]) (by kernel_rfl) (by simp) (AllReady.cons rfl (fun K hK => ?_) AllReady.nil)
            go_simp
            refine hK _ _ ?_
            clear hK K
            refine wpAny_ready (rs := [6]) (by kernel_rfl) (by simp) (AllReady.cons rfl (fun K hK => ?_) AllReady.nil)
            go_simp
            refine (do_any g L M o (wr.drewN 1) hBd (hok.2.2.2.below hbd)).mono ?_
            rintro e w4 ⟨L1, M1, rfl, hB4, hS4, hn4⟩
            rw [HS.out] at hS4
            have hk4 := hkd.only hn4 (by omega)
            have hz4 : (scs M1).size = 24 := scs_size hB4.len
            have hi4 : (Try.prog.info? 32).map (·.size) = some (scs M1).size := by rw [hz4]; rfl
            have ho4 := scs_one hB4.len
            have hb4 := hbd.trans (hn4.bel hg0 hbd.size)
            have hB5 := hB4.rowS hk4 (by omega) (scs M1)
            have hk5 := hk4.row (scs M1)
            have hb5 := below_row hb4 hsw (scs M1)
            go_wp2_with fail
            refine takeA 7 (some 23) (.tuple #[.agg (scs M1), .bool true]) rfl rfl (by kernel_rfl) (by kernel_rfl) (by kernel_rfl) (fun _ _ _ h => h) (Or.inl ⟨by rfl, ?_⟩) ?_
            · intro w9
              go_simp
            simp only [Act.put, List.setIfInBounds_toArray, List.set_cons_zero, List.set_cons_succ]
            refine takeA 8 (some 31) (.agg (scs M1)) rfl rfl (by kernel_rfl) (by kernel_rfl) (by kernel_rfl) (fun _ _ _ h => h) (Or.inl ⟨by rfl, ?_⟩) ?_
            · intro w9
              go_simp
            simp only [Act.put, List.setIfInBounds_toArray, List.set_cons_zero, List.set_cons_succ]
            refine takeA 9 (some 32) (.bool true) rfl rfl (by kernel_rfl) (by kernel_rfl) (by kernel_rfl) (fun _ _ _ h => h) (Or.inl ⟨by rfl, ?_⟩) ?_
            · intro w9
              go_simp
            simp only [Act.put, List.setIfInBounds_toArray, List.set_cons_zero, List.set_cons_succ]
            refine wpAny_ready (rs := [10]) (by kernel_rfl) (by simp) (AllReady.cons rfl (fun K hK => ?_) AllReady.nil)
            rw [if_pos (by rfl)]
            refine wp_store_row _ _ _ rfl sb (scs M1) rfl rfl _ _ hk4.out hi4 (by rw [hzm, hz4]) ho4 ?_
            refine hK _ _ ?_
            clear hK K
            refine wpAny_done (by kernel_rfl) ?_ _
            clear y0 y1 y2 y3 y4 y5 y6
            have o1 := isOpen_any g L1 0 (w4.setRow sb (scs M1)) hB5.tab
            rw [zero_open hB5.tab.2.1 hB5.zero] at o1
            have o2 := close_any g L1 0 (w4.setRow sb (scs M1)) hB5.tab
            rw [show closeC (chs L1) 0 = (chs L1, 2) from rfl] at o2
            go_wp2_with fail
            refine o1.mono ?_
            clear o1
            rintro e w6 ⟨rfl, rfl⟩
            go_wp2_with fail
            refine o2.mono ?_
            clear o2
            rintro e w7 ⟨rfl, L2, hT2, hc2, hn2⟩
            have hk6 := hk5.only hn2 (by omega)
            have hM6 := hB5.lns.tab hB5.tab hn2
            have hB6 : Both w7 g L2 M1 := ⟨hT2, hB5.len, hB5.same.trans hc2.symm, hM6, by rw [hc2]; exact hB5.zero⟩
            have hb6 := hb5.trans (hn2.bel hg0 hb5.size)
            go_wp2
            go_roundw
            case rel => exact ⟨k + 1, by omega, by go_num, L2, M1, hB6, hk6, hb6⟩
            case measure => simp [intOf]; omega
          · go_simp
            refine hK _ _ ?_
            clear hK K
            refine wpAny_ready (rs := [1]) (by kernel_rfl) (by simp) (AllReady.cons rfl (fun K hK => ?_) AllReady.nil)
            rw [if_pos (by rfl)]
            refine wp_load_row _ _ rfl sb rfl _ (scs M) _ _ hkd.out Try.underlying32 rfl him ?_
            refine hK _ _ ?_
            clear hK K
            simp only [Act.put, List.setIfInBounds_toArray, List.set_cons_zero, List.set_cons_succ]
            refine wpAny_ready (rs := [6]) (by kernel_rfl) (by simp) (AllReady.cons rfl (fun K hK => ?_) AllReady.nil)
            go_simp
            refine (do_any g L M o (wr.drewN 1) hBd (hok.2.2.2.below hbd)).mono ?_
            rintro e w4 ⟨L1, M1, rfl, hB4, hS4, hn4⟩
            rw [HS.out] at hS4
            have hk4 := hkd.only hn4 (by omega)
            have hz4 : (scs M1).size = 24 := scs_size hB4.len
            have hi4 : (Try.prog.info? 32).map (·.size) = some (scs M1).size := by rw [hz4]; rfl
            have ho4 := scs_one hB4.len
            have hb4 := hbd.trans (hn4.bel hg0 hbd.size)
            have hB5 := hB4.rowS hk4 (by omega) (scs M1)
            have hk5 := hk4.row (scs M1)
            have hb5 := below_row hb4 hsw (scs M1)
            go_wp2_with fail
            refine takeA 7 (some 23) (.tuple #[.agg (scs M1), .bool true]) rfl rfl (by kernel_rfl) (by kernel_rfl) (by kernel_rfl) (fun _ _ _ h => h) (Or.inl ⟨by rfl, ?_⟩) ?_
            · intro w9
              go_simp
            simp only [Act.put, List.setIfInBounds_toArray, List.set_cons_zero, List.set_cons_succ]
            refine takeA 8 (some 31) (.agg (scs M1)) rfl rfl (by kernel_rfl) (by kernel_rfl) (by kernel_rfl) (fun _ _ _ h => h) (Or.inl ⟨by rfl, ?_⟩) ?_
            · intro w9
              go_simp
            simp only [Act.put, List.setIfInBounds_toArray, List.set_cons_zero, List.set_cons_succ]
            refine takeA 9 (some 32) (.bool true) rfl rfl (by kernel_rfl) (by kernel_rfl) (by kernel_rfl) (fun _ _ _ h => h) (Or.inl ⟨by rfl, ?_⟩) ?_
            · intro w9
              go_simp
            simp only [Act.put, List.setIfInBounds_toArray, List.set_cons_zero, List.set_cons_succ]
            refine wpAny_ready (rs := [10]) (by kernel_rfl) (by simp) (AllReady.cons rfl (fun K hK => ?_) AllReady.nil)
            rw [if_pos (by rfl)]
            refine wp_store_row _ _ _ rfl sb (scs M1) rfl rfl _ _ hk4.out hi4 (by rw [hzm, hz4]) ho4 ?_
            refine hK _ _ ?_
            clear hK K
            refine wpAny_done (by kernel_rfl) ?_ _
            clear y0 y1 y2 y3 y4 y5 y6
            have o1 := isOpen_any g L1 0 (w4.setRow sb (scs M1)) hB5.tab
            rw [zero_open hB5.tab.2.1 hB5.zero] at o1
            have o2 := close_any g L1 0 (w4.setRow sb (scs M1)) hB5.tab
            rw [show closeC (chs L1) 0 = (chs L1, 2) from rfl] at o2
            go_wp2_with fail
            refine o1.mono ?_
            clear o1
            rintro e w6 ⟨rfl, rfl⟩
            go_wp2_with fail
            refine o2.mono ?_
            clear o2
            rintro e w7 ⟨rfl, L2, hT2, hc2, hn2⟩
            have hk6 := hk5.only hn2 (by omega)
            have hM6 := hB5.lns.tab hB5.tab hn2
            have hB6 : Both w7 g L2 M1 := ⟨hT2, hB5.len, hB5.same.trans hc2.symm, hM6, by rw [hc2]; exact hB5.zero⟩
            have hb6 := hb5.trans (hn2.bel hg0 hb5.size)
            go_wp2
            go_roundw
            case rel => exact ⟨k + 1, by omega, by go_num, L2, M1, hB6, hk6, hb6⟩
            case measure => simp [intOf]; omega
      · have hS4 : (chs L).length = 4 := by rw [chs_length]; exact hB.tab.2.1
        have oo := open_any g L n wr hB.tab
        rcases openC_cases (chs L) hB.zero hS4 n with ⟨z, hz, ho⟩ | ⟨j, hj0, hj4, hnj, ho⟩
        · rw [ho] at oo
          clear ho
          go_wp2_with fail
          refine oo.mono ?_
          clear oo
          rintro e w4 ⟨rfl, L4, hT4, hc4, hn4⟩
          have hb4 := hbw.trans (hn4.bel hg0 hbw.size)
          have hz' : (z != 0) = true := by simpa using hz
          go_wp2_with fail
          refine (awake_any w4).mono ?_
          rintro e w5 ⟨rfl, hb5⟩
          go_wp2
          go_ret
          exact ⟨rfl, hb4.trans (hb5.mono hb4.size)⟩
        · rw [ho] at oo
          clear ho
          have hj0' : (0 : Int) < (j : Int) := by omega
          have hj4' : (j : Int) < 4 := by omega
          have tail : ∀ w4 L4, TabAt w4 g true L4 → chs L4 = (chs L).set j lineO → Hid ((Calls Try.prog 15 #[.pointer (some ⟨g, 0, none⟩), .int .i64 j] w4 fun e w2 => e = .returned (.bool true) ∧ w4 = w2) ∧
              (Calls Try.prog 18 #[.pointer (some ⟨g, 0, none⟩), .int .i64 j] w4 fun e w2 => ∃ A c, e = .returned (.slice A 0 c) ∧ Below w4.heap.size w4 w2)) := fun w4 L4 hT4 hc4 => by
            have a1 := isOpen_any g L4 j w4 hT4
            have a2 := app_any g L4 j w4 hT4
            rw [hc4, lineO_which hS4 hj4] at a1
            rw [hc4, lineO_app hS4 hj4] at a2
            exact ⟨a1, a2.mono fun e w2 ⟨A, c, he, _, hb⟩ => ⟨A, c, he, hb⟩⟩
          have tail2 : ∀ w4 L4, TabAt w4 g true L4 → chs L4 = (chs L).set j lineO → Hid (Calls Try.prog 19 #[.pointer (some ⟨g, 0, none⟩), .int .i64 j] w4 fun e w2 => e = .returned (.agg #[.int .i64 0, .int .i64 0, .int .i64 0, .int .i64 0]) ∧ Below w4.heap.size w4 w2) := fun w4 L4 hT4 hc4 => by
            have a3 := security_any g L4 j w4 hT4
            rw [hc4, lineO_sec hS4 hj4] at a3
            exact a3
          rcases hnj with rfl | rfl
          · go_wp2_with fail
            refine oo.mono ?_
            clear oo
            rintro e w4 ⟨rfl, L4, hT4, hc4, hn4⟩
            have hb4 := hbw.trans (hn4.bel hg0 hbw.size)
            have ht := tail w4 L4 hT4 hc4
            go_wp2_with fail
            refine ht.out.1.mono ?_
            rintro e w5 ⟨rfl, rfl⟩
            go_wp2_with fail
            refine ht.out.2.mono ?_
            rintro e w5 ⟨A5, c5, rfl, hb5⟩
            have ht2 := tail2 w5 L4 (hT4.below hb5) hc4
            go_wp2_with fail
            refine ht2.out.mono ?_
            rintro e w6 ⟨rfl, hb6⟩
            go_wp2_with fail
            refine (awake_any w6).mono ?_
            rintro e w7 ⟨rfl, hb7⟩
            go_wp2
            go_ret
            have h5 := hb4.trans (hb5.mono hb4.size)
            have h6 := h5.trans (hb6.mono h5.size)
            exact ⟨rfl, h6.trans (hb7.mono h6.size)⟩
          · have hn0 : ((j : Int) == 0) = false := by simp; omega
            go_wp2_with fail
            refine oo.mono ?_
            clear oo
            rintro e w4 ⟨rfl, L4, hT4, hc4, hn4⟩
            have hb4 := hbw.trans (hn4.bel hg0 hbw.size)
            have ht := tail w4 L4 hT4 hc4
            go_wp2_with fail
            refine ht.out.1.mono ?_
            rintro e w5 ⟨rfl, rfl⟩
            go_wp2_with fail
            refine ht.out.2.mono ?_
            rintro e w5 ⟨A5, c5, rfl, hb5⟩
            have ht2 := tail2 w5 L4 (hT4.below hb5) hc4
            go_wp2_with fail
            refine ht2.out.mono ?_
            rintro e w6 ⟨rfl, hb6⟩
            go_wp2_with fail
            refine (awake_any w6).mono ?_
            rintro e w7 ⟨rfl, hb7⟩
            go_wp2
            go_ret
            have h5 := hb4.trans (hb5.mono hb4.size)
            have h6 := h5.trans (hb6.mono h5.size)
            exact ⟨rfl, h6.trans (hb7.mono h6.size)⟩
end Go.Proofs.Ytpbgfiaaechiaaa
