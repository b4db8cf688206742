/-
  ChannelWith: the walk.
-/
import Derived.Test.YtpbgfiaaechiaaaUpto37
import Derived.Test.YtpbgfiaaechiaaaOpen37
namespace Go.Proofs.Ytpbgfiaaechiaaa
open Go.RowKit
set_option linter.unusedVariables false

/-- What holds of the worlds in which the two answers are compared. -/
structure SW (w : World) (g sb : Nat) (L M : List Ln) (B : Option Addr) (xs : List UInt8) (w' : World) : Prop where
  both : Both w' g L M
  blk : Blk w' sb 32 (scs M)
  bel : Below w.heap.size w w'
  rb : RB w' B xs
theorem SW.keep {w w1 w2 : World} {g sb : Nat} {L M : List Ln} {B : Option Addr} {xs : List UInt8} (h : SW w g sb L M B xs w1) (hb : Below w1.heap.size w1 w2) : SW w g sb L M B xs w2 := ⟨h.both.below hb, h.blk.below hb h.blk.size, h.bel.trans (hb.mono h.bel.size), h.rb.below hb⟩
theorem SW.drewN {w w1 : World} {g sb : Nat} {L M : List Ln} {B : Option Addr} {xs : List UInt8} (h : SW w g sb L M B xs w1) (q : Nat) : SW w g sb L M B xs (w1.drewN q) := h.keep (below_drewN (Below.refl _ _) q)
set_option linter.unusedSimpArgs false in
set_option maxHeartbeats 4000000 in
theorem channelWith_walk (w : World) (A : Option Addr) (c : Nat) (os : List Op37) (hc : os.length ≤ c) (hf : ∀ o ∈ os, opOk w o) (hr : RC w A (os.flatMap opCells)) (B : Option Addr) (d : Nat) (xs : List UInt8) (hd : xs.length ≤ d) (hxs : RB w B xs) :
    Calls Try.prog 3 #[.slice A os.length c, .slice B xs.length d] w fun e w' => e = .returned (.bool true) ∧ Below w.heap.size w w' := by
  have HB0 := Below.refl w.heap.size w
  by_cases hlen : 40 < os.length
  · have h1 : (40 : Int) < (os.length : Int) := by omega
    go_enter Try.func3, Try.ntmps3
    go_wp2
    go_ret
    exact ⟨rfl, HB0⟩
  · have h1 : ¬ ((40 : Int) < (os.length : Int)) := by omega
    go_enter Try.func3, Try.ntmps3
    go_wp2_with fail
    refine (new_any w).mono ?_
    rintro e w1 ⟨rfl, hT1, hb1⟩
    go_wp2_with fail
    refine (first_any w1).mono ?_
    rintro e w2 ⟨rfl, hb2⟩
    have hg0 : w.heap.size ≤ w.heap.size := HB0.size
    have hgs : w.heap.size < w2.heap.size := Nat.lt_of_lt_of_le hT1.1.size hb2.size
    have hB2 := Both.start (hT1.below hb2)
    have hk2 : Blk (w2.alloc (.cells #[.bool false, .slice none 0 0, .int .i64 0, .int .i64 0, .int .i64 0, .int .i64 0, .bool false, .slice none 0 0, .int .i64 0, .int .i64 0, .int .i64 0, .int .i64 0, .bool false, .slice none 0 0, .int .i64 0, .int .i64 0, .int .i64 0, .int .i64 0, .bool false, .slice none 0 0, .int .i64 0, .int .i64 0, .int .i64 0, .int .i64 0] 32)) w2.heap.size 32 (scs zeroL) := Blk.made w2 32 (scs zeroL)
    have hba := (Below.refl w2.heap.size w2).alloc (Nat.le_refl _) (.cells #[.bool false, .slice none 0 0, .int .i64 0, .int .i64 0, .int .i64 0, .int .i64 0, .bool false, .slice none 0 0, .int .i64 0, .int .i64 0, .int .i64 0, .int .i64 0, .bool false, .slice none 0 0, .int .i64 0, .int .i64 0, .int .i64 0, .int .i64 0, .bool false, .slice none 0 0, .int .i64 0, .int .i64 0, .int .i64 0, .int .i64 0] 32)
    have hz1 : (scs zeroL).size = 24 := rfl
    have hzf : (scs firstL).size = 24 := rfl
    have hif : (Try.prog.info? 32).map (·.size) = some (scs firstL).size := rfl
    have hof := scs_one (M := firstL) rfl
    have hB3 := (hB2.below hba).rowS hk2 (by omega) (scs firstL)
    have hk3 := hk2.row (scs firstL)
    have hb12 := (HB0.trans (hb1.mono hg0)).trans (hb2.mono (Nat.le_trans hg0 hb1.size))
    have hb3 := below_row (hb12.trans (hba.mono hb12.size)) hb12.size (scs firstL)
    go_upto_region 7 with (refine wpList_store_row rfl _ _ _ rfl w2.heap.size (scs firstL) rfl rfl _ _ hk2.out hif (by rw [hz1, hzf]) hof ?_)
    obtain ⟨W3, hW3⟩ : ∃ W3 : World, W3 = (w2.alloc (.cells #[.bool false, .slice none 0 0, .int .i64 0, .int .i64 0, .int .i64 0, .int .i64 0, .bool false, .slice none 0 0, .int .i64 0, .int .i64 0, .int .i64 0, .int .i64 0, .bool false, .slice none 0 0, .int .i64 0, .int .i64 0, .int .i64 0, .int .i64 0, .bool false, .slice none 0 0, .int .i64 0, .int .i64 0, .int .i64 0, .int .i64 0] 32)).setRow w2.heap.size (scs firstL) := ⟨_, rfl⟩
    rw [← hW3]
    rw [← hW3] at hB3 hk3 hb3
    clear hW3 hk2
    have hsw := hb12.size
    obtain ⟨sb, hsb⟩ : ∃ sb, sb = w2.heap.size := ⟨_, rfl⟩
    obtain ⟨g, hg⟩ : ∃ g, g = w.heap.size := ⟨_, rfl⟩
    rw [← hsb, ← hg]
    rw [← hsb] at hk3 hgs hsw
    have hg0 : w.heap.size ≤ g := by rw [hg]; exact hg0
    rw [← hg] at hB3 hgs
    clear hsb hg hT1 hb1 hb2 hB2 hba hb12
    go_wp2
    go_loopw [7] (fun i wx => ∃ k : Nat, k ≤ os.length ∧ i = .int .i64 k ∧ ∃ L M, Both wx g L M ∧ Blk wx sb 32 (scs M) ∧ Below w.heap.size w wx) (fun i _ => os.length - (intOf i).toNat)
    case atStart => exact ⟨0, Nat.zero_le _, rfl, firstL, firstL, hB3, hk3, hb3⟩
    case round =>
      obtain ⟨k, hkn, rfl, L, M, hB, hk, hbw⟩ := hrel
      by_cases hlt : k < os.length
      · skip
        have hkl : k < os.length := by omega
        obtain ⟨b, off, rfl, hx⟩ := RC.elem opCells (s := 7) (fun _ => rfl) hr k hkl (by decide)
        have hok := hf os[k] (List.getElem_mem hkl)
        have x0 : w.cell? ⟨b, off + k * 7, none⟩ = some (.int .i64 os[k].op) := hx 0 (by decide)
        have x1 : w.cell? ⟨b, off + k * 7 + 1, none⟩ = some (.int .i64 os[k].n) := by rw [Nat.add_assoc]; exact hx 1 (by decide)
        have x2 : w.cell? ⟨b, off + k * 7 + 2, none⟩ = some (.slice os[k].A os[k].x.length os[k].c) := by rw [Nat.add_assoc]; exact hx 2 (by decide)
        have x3 : w.cell? ⟨b, off + k * 7 + 3, none⟩ = some (.int .i64 os[k].t.p) := by rw [Nat.add_assoc]; exact hx 3 (by decide)
        have x4 : w.cell? ⟨b, off + k * 7 + 4, none⟩ = some (.int .i64 os[k].t.k) := by rw [Nat.add_assoc]; exact hx 4 (by decide)
        have x5 : w.cell? ⟨b, off + k * 7 + 5, none⟩ = some (.int .i64 os[k].t.s) := by rw [Nat.add_assoc]; exact hx 5 (by decide)
        have x6 : w.cell? ⟨b, off + k * 7 + 6, none⟩ = some (.int .i64 os[k].t.l) := by rw [Nat.add_assoc]; exact hx 6 (by decide)
        clear hx
        generalize os[k] = o at x0 x1 x2 x3 x4 x5 x6 hok
        have hbl : b < w.heap.size := cell?_lt x0
        have hbd := below_drewN hbw 1
        have y0 := (hbw.cell (p := ⟨b, off + k * 7, none⟩) hbl).trans x0
        have y1 := (hbw.cell (p := ⟨b, off + k * 7 + 1, none⟩) hbl).trans x1
        have y2 := (hbw.cell (p := ⟨b, off + k * 7 + 2, none⟩) hbl).trans x2
        have y3 := (hbw.cell (p := ⟨b, off + k * 7 + 3, none⟩) hbl).trans x3
        have y4 := (hbw.cell (p := ⟨b, off + k * 7 + 4, none⟩) hbl).trans x4
        have y5 := (hbw.cell (p := ⟨b, off + k * 7 + 5, none⟩) hbl).trans x5
        have y6 := (hbw.cell (p := ⟨b, off + k * 7 + 6, none⟩) hbl).trans x6
        have hi0 : (0 : Int) ≤ (k : Int) := by omega
        have hi1 : (k : Int) < (os.length : Int) := by omega
        have hkd := hk.below (below_drewN (Below.refl _ _) 1 : Below wr.heap.size wr (wr.drewN 1)) hk.size
        have hBd := hB.below (below_drewN (Below.refl _ _) 1 : Below wr.heap.size wr (wr.drewN 1))
        have hzm : (scs M).size = 24 := scs_size hB.len
        have him : (Try.prog.info? 32).map (·.size) = some (scs M).size := by rw [hzm]; rfl
        clear x0 x1 x2 x3 x4 x5 x6
        obtain ⟨S, HS⟩ : ∃ S, Hid (chs L = S) := ⟨_, rfl⟩
        go_upto_region 10 with fail
        · skip
          refine wp_region_any (by kernel_rfl) ?_
          change wpAny _ _ _ _ _ _ _ (World.drew _)
          refine takeA 0 (some 22) (.pointer (some ⟨g, 0, none⟩)) rfl rfl (by kernel_rfl) (by kernel_rfl) (by kernel_rfl) (fun _ _ _ h => h) (Or.inl ⟨by rfl, ?_⟩) ?_
          · intro w9
            go_simp
          simp only [Act.put, List.setIfInBounds_toArray, List.set_cons_zero, List.set_cons_succ]
          refine takeA 2 (some 24) (.slice (some ⟨b, off, none⟩) os.length c) rfl rfl (by kernel_rfl) (by kernel_rfl) (by kernel_rfl) (fun _ _ _ h => h) (Or.inl ⟨by rfl, ?_⟩) ?_
          · intro w9
            go_simp
          simp only [Act.put, List.setIfInBounds_toArray, List.set_cons_zero, List.set_cons_succ]
          refine takeA 3 (some 25) (.int .i64 k) rfl rfl (by kernel_rfl) (by kernel_rfl) (by kernel_rfl) (fun _ _ _ h => h) (Or.inl ⟨by rfl, ?_⟩) ?_
          · intro w9
            go_simp
          simp only [Act.put, List.setIfInBounds_toArray, List.set_cons_zero, List.set_cons_succ]
          refine takeA 4 (some 26) (.pointer (some ⟨b, off + k * 7, none⟩)) rfl rfl (by kernel_rfl) (by kernel_rfl) (by kernel_rfl) (fun _ _ _ h => h) (Or.inl ⟨by rfl, ?_⟩) ?_
          · intro w9
            go_simp
          simp only [Act.put, List.setIfInBounds_toArray, List.set_cons_zero, List.set_cons_succ]
          refine wpAny_ready (rs := [1, 5]) (by kernel_rfl) (by simp) (AllReady.cons rfl (fun K hK => ?_) (AllReady.cons rfl (fun K hK => ?_) AllReady.nil))
          · rw [if_pos (by rfl)]
            refine wp_load_row _ _ rfl sb rfl _ (scs M) _ _ hkd.out Try.underlying32 rfl him ?_
            refine hK _ _ ?_
            clear hK K
            simp only [Act.put, List.setIfInBounds_toArray, List.set_cons_zero, List.set_cons_succ]
            refine wpAny_ready (rs := [5]) (by kernel_rfl) (by simp) (AllReady.cons rfl (fun K hK => ?_) AllReady.nil)
            go_simp
            refine hK _ _ ?_
            clear hK K
            refine wpAny_ready (rs := [6]) (by kernel_rfl) (by simp) (AllReady.cons rfl (fun K hK => ?_) AllReady.nil)
            go_simp
            refine (do_any g L M o (wr.drewN 1) hBd (hok.2.2.2.below hbd)).mono ?_
            rintro e w4 ⟨L1, M1, rfl, hB4, hS4, hn4⟩
            rw [HS.out] at hS4
            have hk4 := hkd.only hn4 (by omega)
            have hz4 : (scs M1).size = 24 := scs_size hB4.len
            have hi4 : (Try.prog.info? 32).map (·.size) = some (scs M1).size := by rw [hz4]; rfl
            have ho4 := scs_one hB4.len
            have hb4 := hbd.trans (hn4.bel hg0 hbd.size)
            have hB5 := hB4.rowS hk4 (by omega) (scs M1)
            have hk5 := hk4.row (scs M1)
            have hb5 := below_row hb4 hsw (scs M1)
            go_wp2_with fail
            refine takeA 7 (some 21) (.tuple #[.agg (scs M1), .bool true]) rfl rfl (by kernel_rfl) (by kernel_rfl) (by kernel_rfl) (fun _ _ _ h => h) (Or.inl ⟨by rfl, ?_⟩) ?_
            · intro w9
              go_simp
            simp only [Act.put, List.setIfInBounds_toArray, List.set_cons_zero, List.set_cons_succ]
            refine takeA 8 (some 29) (.agg (scs M1)) rfl rfl (by kernel_rfl) (by kernel_rfl) (by kernel_rfl) (fun _ _ _ h => h) (Or.inl ⟨by rfl, ?_⟩) ?_
            · intro w9
              go_simp
            simp only [Act.put, List.setIfInBounds_toArray, List.set_cons_zero, List.set_cons_succ]
            refine takeA 9 (some 30) (.bool true) rfl rfl (by kernel_rfl) (by kernel_rfl) (by kernel_rfl) (fun _ _ _ h => h) (Or.inl ⟨by rfl, ?_⟩) ?_
            · intro w9
              go_simp
            simp only [Act.put, List.setIfInBounds_toArray, List.set_cons_zero, List.set_cons_succ]
            refine wpAny_ready (rs := [10]) (by kernel_rfl) (by simp) (AllReady.cons rfl (fun K hK => ?_) AllReady.nil)
            rw [if_pos (by rfl)]
            refine wp_store_row _ _ _ rfl sb (scs M1) rfl rfl _ _ hk4.out hi4 (by rw [hzm, hz4]) ho4 ?_
            refine hK _ _ ?_
            clear hK K
            refine wpAny_done (by kernel_rfl) ?_ _
            clear y0 y1 y2 y3 y4 y5 y6
            go_wp2
            go_roundw
            case rel => exact ⟨k + 1, by omega, by go_num, L1, M1, hB5, hk5, hb5⟩
            case measure => simp [intOf]; omega
          · go_simp
            refine hK _ _ ?_
            clear hK K
            refine wpAny_ready (rs := [1]) (by kernel_rfl) (by simp) (AllReady.cons rfl (fun K hK => ?_) AllReady.nil)
            rw [if_pos (by rfl)]
            refine wp_load_row _ _ rfl sb rfl _ (scs M) _ _ hkd.out Try.underlying32 rfl him ?_
            refine hK _ _ ?_
            clear hK K
            simp only [Act.put, List.setIfInBounds_toArray, List.set_cons_zero, List.set_cons_succ]
            refine wpAny_ready (rs := [6]) (by kernel_rfl) (by simp) (AllReady.cons rfl (fun K hK => ?_) AllReady.nil)
            go_simp
            refine (do_any g L M o (wr.drewN 1) hBd (hok.2.2.2.below hbd)).mono ?_
            rintro e w4 ⟨L1, M1, rfl, hB4, hS4, hn4⟩
            rw [HS.out] at hS4
            have hk4 := hkd.only hn4 (by omega)
            have hz4 : (scs M1).size = 24 := scs_size hB4.len
            have hi4 : (Try.prog.info? 32).map (·.size) = some (scs M1).size := by rw [hz4]; rfl
            have ho4 := scs_one hB4.len
            have hb4 := hbd.trans (hn4.bel hg0 hbd.size)
            have hB5 := hB4.rowS hk4 (by omega) (scs M1)
            have hk5 := hk4.row (scs M1)
            have hb5 := below_row hb4 hsw (scs M1)
            go_wp2_with fail
            refine takeA 7 (some 21) (.tuple #[.agg (scs M1), .bool true]) rfl rfl (by kernel_rfl) (by kernel_rfl) (by kernel_rfl) (fun _ _ _ h => h) (Or.inl ⟨by rfl, ?_⟩) ?_
            · intro w9
              go_simp
            simp only [Act.put, List.setIfInBounds_toArray, List.set_cons_zero, List.set_cons_succ]
            refine takeA 8 (some 29) (.agg (scs M1)) rfl rfl (by kernel_rfl) (by kernel_rfl) (by kernel_rfl) (fun _ _ _ h => h) (Or.inl ⟨by rfl, ?_⟩) ?_
            · intro w9
              go_simp
            simp only [Act.put, List.setIfInBounds_toArray, List.set_cons_zero, List.set_cons_succ]
            refine takeA 9 (some 30) (.bool true) rfl rfl (by kernel_rfl) (by kernel_rfl) (by kernel_rfl) (fun _ _ _ h => h) (Or.inl ⟨by rfl, ?_⟩) ?_
            · intro w9
              go_simp
            simp only [Act.put, List.setIfInBounds_toArray, List.set_cons_zero, List.set_cons_succ]
            refine wpAny_ready (rs := [10]) (by kernel_rfl) (by simp) (AllReady.cons rfl (fun K hK => ?_) AllReady.nil)
            rw [if_pos (by rfl)]
            refine wp_store_row _ _ _ rfl sb (scs M1) rfl rfl _ _ hk4.out hi4 (by rw [hzm, hz4]) ho4 ?_
            refine hK _ _ ?_
            clear hK K
            refine wpAny_done (by kernel_rfl) ?_ _
            clear y0 y1 y2 y3 y4 y5 y6
            go_wp2
            go_roundw
            case rel => exact ⟨k + 1, by omega, by go_num, L1, M1, hB5, hk5, hb5⟩
            case measure => simp [intOf]; omega
      · have hS0 : SW w g sb L M B xs wr.drew := (SW.mk hB hk hbw (hxs.below hbw)).drewN 1
        have hzm : (scs M).size = 24 := scs_size hB.len
        have him : (Try.prog.info? 32).map (·.size) = some (scs M).size := by rw [hzm]; rfl
        have hLM := hB.same
        have h4 := hB.len
        obtain ⟨ns, hns⟩ : ∃ ns, ns = withC (chs L) xs := ⟨_, rfl⟩
        have hnl : ns.length ≤ 4 := by rw [hns]; exact upto_le _ _ _
        have cWi : Hid (∀ w', SW w g sb L M B xs w' → Calls Try.prog 12 #[.pointer (some ⟨g, 0, none⟩), .slice B xs.length d] w' fun e w2 => ∃ A c, e = .returned (.slice A ns.length c) ∧ RC w2 A (iv ns) ∧ Below w'.heap.size w' w2) := fun w' h => by
          rw [hns]
          refine (with_any g L B d xs w' h.both.tab h.rb).mono fun e w2 ⟨v, he, hown, hb⟩ => ?_
          obtain ⟨A5, c5, rfl, _, hr5⟩ := owns_reads hown
          exact ⟨A5, c5, he, hr5, hb⟩
        have rWi : Hid (∀ w', SW w g sb L M B xs w' → Calls Try.prog 13 #[.agg (scs M), .slice B xs.length d] w' fun e w2 => ∃ A c, e = .returned (.slice A ns.length c) ∧ RC w2 A (iv ns) ∧ Below w'.heap.size w' w2) := fun w' h => by
          rw [hns, ← hLM]
          refine (refWith_any M B d xs w' h4 h.both.lns h.rb).mono fun e w2 ⟨v, he, hown, hb⟩ => ?_
          obtain ⟨A5, c5, rfl, _, hr5⟩ := owns_reads hown
          exact ⟨A5, c5, he, hr5, hb⟩
        clear hns
        go_upto_region 11 with fail
        refine wp_region_held_drew (S := SW w g sb L M B xs) (by kernel_rfl) hS0 (fun hHeld => ?_)
        refine takeAt 0 (some 31) (.pointer (some ⟨g, 0, none⟩)) rfl rfl (by kernel_rfl) (by kernel_rfl) (by kernel_rfl) (fun _ _ _ h => h) (Or.inl ⟨by rfl, ?_⟩) hHeld ?_
        · intro w9 hS9
          go_simp
        simp only [Act.put, List.setIfInBounds_toArray, List.set_cons_zero, List.set_cons_succ]
        refine takeAt 1 (some 32) (.slice B xs.length d) rfl rfl (by kernel_rfl) (by kernel_rfl) (by kernel_rfl) (fun _ _ _ h => h) (Or.inl ⟨by rfl, ?_⟩) hHeld ?_
        · intro w9 hS9
          go_simp
        simp only [Act.put, List.setIfInBounds_toArray, List.set_cons_zero, List.set_cons_succ]
        refine takeAt 3 (some 34) (.agg (scs M)) rfl rfl (by kernel_rfl) (by kernel_rfl) (by kernel_rfl) (fun _ _ _ h => h) (yieldsIf_load_row (by rfl) _ _ rfl sb rfl (scs M) _ _ (fun w9 h9 => h9.blk) Try.underlying32 rfl him) hHeld ?_
        simp only [Act.put, List.setIfInBounds_toArray, List.set_cons_zero, List.set_cons_succ]
        refine takeAt 4 (some 35) (.slice B xs.length d) rfl rfl (by kernel_rfl) (by kernel_rfl) (by kernel_rfl) (fun _ _ _ h => h) (Or.inl ⟨by rfl, ?_⟩) hHeld ?_
        · intro w9 hS9
          go_simp
        simp only [Act.put, List.setIfInBounds_toArray, List.set_cons_zero, List.set_cons_succ]
        refine wpAnyH_ready (rs := [2]) (by kernel_rfl) (by simp) (AllReadyH.cons rfl (fun K hK => ?_) AllReadyH.nil)
        go_simp
        refine (cWi.out _ hHeld).mono ?_
        rintro e w1 ⟨A1, c1, rfl, hr1, hb1⟩
        go_wp2_with fail
        refine hK.out _ _ (hHeld.keep hb1) (fun hHeld => ?_)
        clear hK
        try simp only [Act.put, List.setIfInBounds_toArray, List.set_cons_zero, List.set_cons_succ]
        refine wpAnyH_ready (rs := [5]) (by kernel_rfl) (by simp) (AllReadyH.cons rfl (fun K hK => ?_) AllReadyH.nil)
        go_simp
        refine (rWi.out _ hHeld).mono ?_
        rintro e w2 ⟨A2, c2, rfl, hr2, hb2⟩
        go_wp2_with fail
        refine hK.out _ _ (hHeld.keep hb2) (fun hHeld => ?_)
        clear hK
        try simp only [Act.put, List.setIfInBounds_toArray, List.set_cons_zero, List.set_cons_succ]
        refine wpAnyH_ready (rs := [6]) (by kernel_rfl) (by simp) (AllReadyH.cons rfl (fun K hK => ?_) AllReadyH.nil)
        go_simp
        refine (ints_any A1 A2 c1 c2 ns _ (by omega) (hr1.below hb2) hr2).mono ?_
        rintro e w3 ⟨rfl, q, rfl⟩
        go_wp2_with fail
        refine hK.out _ _ (hHeld.drewN q) (fun hHeld => ?_)
        clear hK
        try simp only [Act.put, List.setIfInBounds_toArray, List.set_cons_zero, List.set_cons_succ]
        refine takeAt 7 (some 38) (.bool true) rfl rfl (by kernel_rfl) (by kernel_rfl) (by kernel_rfl) (fun _ _ _ h => h) (Or.inl ⟨by rfl, ?_⟩) hHeld ?_
        · intro w9 hS9
          go_simp
        simp only [Act.put, List.setIfInBounds_toArray, List.set_cons_zero, List.set_cons_succ]
        refine wpAnyH_ready (rs := [8]) (by kernel_rfl) (by simp) (AllReadyH.cons rfl (fun K hK => ?_) AllReadyH.nil)
        go_simp
        refine (awake_any _).mono ?_
        rintro e w4 ⟨rfl, hb4⟩
        go_wp2_with fail
        refine hK.out _ _ (hHeld.keep hb4) (fun hHeld => ?_)
        clear hK
        try simp only [Act.put, List.setIfInBounds_toArray, List.set_cons_zero, List.set_cons_succ]
        refine takeAt 9 (some 40) (.bool true) rfl rfl (by kernel_rfl) (by kernel_rfl) (by kernel_rfl) (fun _ _ _ h => h) (Or.inl ⟨by rfl, ?_⟩) hHeld ?_
        · intro w9 hS9
          go_simp
        simp only [Act.put, List.setIfInBounds_toArray, List.set_cons_zero, List.set_cons_succ]
        refine takeAt 10 (some 4) (.bool true) rfl rfl (by kernel_rfl) (by kernel_rfl) (by kernel_rfl) (fun _ _ _ h => h) (Or.inl ⟨by rfl, ?_⟩) hHeld ?_
        · intro w9 hS9
          go_simp
        simp only [Act.put, List.setIfInBounds_toArray, List.set_cons_zero, List.set_cons_succ]
        refine wpAnyH_done (by kernel_rfl) ?_ _
        go_wp2
        go_ret
        exact ⟨rfl, hHeld.bel⟩
end Go.Proofs.Ytpbgfiaaechiaaa
