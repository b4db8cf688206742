/-
  The walk of LineCarries.
-/
import Derived.Test.YtlkbbalidlhgmaaSim45
import Derived.StillTailTactics
import Derived.Deep.QuietTactic
import Derived.BigQuiet
import Derived.BigRegion
import Derived.Deep.DeepCutAuto
import Derived.WalkLawsBesides
namespace Go.Proofs.Ytlkbbalidlhgmaa
open Go.RowKit
set_option linter.unusedVariables false

theorem carries_few (w : World) (A : Option Addr) (ca : Nat) (ls : List Lk) (B : Option Addr) (cb : Nat) (os : List Op45) (hos : RC w B (os.flatMap opCells)) (hfew : fewB ls os = false) :
    Calls Try.prog 4 #[.slice A ls.length ca, .slice B os.length cb] w fun e w' => e = .returned (.bool true) ∧ Below w.heap.size w w' := by
  go_enter Try.func4, Try.ntmps4
  go_wp2_with fail
  refine (few_any A ca ls B cb os w hos).mono ?_
  rintro e w1 ⟨rfl, rfl⟩
  rw [hfew]
  go_wp2_with fail
  refine (works_any w).mono ?_
  rintro e w1 ⟨rfl, hb1⟩
  go_wp2
  go_ret
  exact ⟨rfl, hb1⟩

/-- What holds at the head of the loop's round k. -/
def Round (base g sb : Nat) (w : World) (os : List Op45) (i : Value) (wx : World) : Prop :=
  ∃ (k : Nat) (v : Value) (A : Option Addr) (c : Nat) (L : List Lk), k ≤ os.length ∧ i = .int .i64 k ∧ Sim base g sb wx v A c L k ∧ Below base w wx ∧ L.length ≤ 200 + 100 * k ∧ flipsOk L

theorem first_wf {ls : List Lk} (h : flipsOk ls) : (Lit.int .i64 (head1 ls).flip).wf = true := by
  rcases ls with _ | ⟨l, r⟩
  · decide
  · exact h l (by simp)

/-- What holds after the reference's Carry. -/
def Mid (w7 : World) (A : Option Addr) (L : List Lk) (k : Nat) (b : List UInt8) (s1 s2 s3 : Value) (wx : World) : Prop :=
  ∃ p A8 c8 A9 c9, s1 = .pointer (some ⟨p, 0, none⟩) ∧ s2 = .slice A9 (arrives (head1 L) b).length c9 ∧ s3 = .bool (!(head1 L).lost) ∧ Blk wx p 35 #[.slice A8 L.tail.length c8, .int .i64 ((k : Int) + 1)] ∧
    RC wx A8 (lv L.tail) ∧ (L.tail ≠ [] → A8.map (·.block) = A.map (·.block)) ∧ L.tail.length ≤ c8 ∧ RB wx A9 (arrives (head1 L) b) ∧ Below w7.heap.size w7 wx

theorem RC.far2 {w : World} {A : Option Addr} {cs : List Value} (hr : RC w A cs) (g : Nat) (hg : cs ≠ [] → A.map (·.block) ≠ some g) (i j : Nat) (u v : Value) : RC ((w.setCell ⟨g, i, none⟩ u).setCell ⟨g, j, none⟩ v) A cs := by
  intro hne
  have h := hg hne
  obtain ⟨b, off, rfl, hc⟩ := hr hne
  have hb : b ≠ g := fun e => h (by rw [e]; rfl)
  exact ⟨b, off, rfl, fun k hk => (World.cell?_of_block ((Below.heap_setCell _ _ _ _ hb).trans (Below.heap_setCell _ _ _ _ hb))).trans (hc k hk)⟩

theorem RB.far2st {w : World} {A A0 : Option Addr} {xs : List UInt8} {sb n0 c0 : Nat} {m0 : Int} (hr : RB w A xs) (hs : Blk w sb 35 #[.slice A0 n0 c0, .int .i64 m0]) (u v : Value) : RB ((w.setCell ⟨sb, 0, none⟩ u).setCell ⟨sb, 1, none⟩ v) A xs := by
  by_cases hx : xs = []
  · subst hx; exact RB.nil _ _
  · refine hr.far2 sb (fun e => ?_) _ _ _ _
    obtain ⟨b, off, rfl, hc⟩ := hr hx
    have e' : b = sb := by simpa using e
    subst e'
    have hl : 0 < xs.length := by
      rcases xs with _ | ⟨x, xs⟩
      · exact absurd rfl hx
      · simp
    have h0 := hc 0 hl
    rw [hs.cell] at h0
    rcases off with _ | _ | off
    · simp at h0
    · simp at h0
    · simp at h0

theorem Mid.after {w7 wc w8 : World} {A A8 A9 : Option Addr} {c8 c9 k n : Nat} {L : List Lk} {b : List UInt8} (hn : n = L.tail.length) (hbN : Below w7.heap.size w7 wc) (hr8 : RC w8 A8 (lv L.tail)) (hA8 : L.tail ≠ [] → A8.map (·.block) = A.map (·.block)) (hc8 : L.tail.length ≤ c8) (hr9 : RB w8 A9 (arrives (head1 L) b)) (hb8 : Below wc.heap.size wc w8) :
    Mid w7 A L k b (.pointer (some ⟨w8.heap.size, 0, none⟩)) (.slice A9 (arrives (head1 L) b).length c9) (.bool (!(head1 L).lost)) (w8.alloc (.cells #[.slice A8 n c8, .int .i64 ((k : Int) + 1)] 35)) := by
  subst hn
  have hba := (Below.refl w8.heap.size w8).alloc (Nat.le_refl _) (.cells #[.slice A8 L.tail.length c8, .int .i64 ((k : Int) + 1)] 35)
  have h1 := hbN.trans (hb8.mono hbN.size)
  exact ⟨_, A8, c8, A9, c9, rfl, rfl, rfl, Blk.made _ _ _, hr8.below hba, hA8, hc8, hr9.below hba, h1.alloc h1.size _⟩
theorem Mid.before {w7 wc w8 : World} {A A8 A9 : Option Addr} {c8 c9 k n : Nat} {L : List Lk} {b : List UInt8} (hn : n = L.tail.length) (hkA : Blk wc w7.heap.size 35 #[.slice none 0 0, .int .i64 0]) (hbA : Below w7.heap.size w7 wc) (hr8 : RC w8 A8 (lv L.tail)) (hr : RC w7 A (lv L)) (hA8 : L.tail ≠ [] → A8.map (·.block) = A.map (·.block)) (hc8 : L.tail.length ≤ c8) (hr9 : RB w8 A9 (arrives (head1 L) b)) (hA9 : ∀ j, A9.map (·.block) = some j → wc.heap.size ≤ j) (hb8 : Below wc.heap.size wc w8) :
    Mid w7 A L k b (.pointer (some ⟨w7.heap.size, 0, none⟩)) (.slice A9 (arrives (head1 L) b).length c9) (.bool (!(head1 L).lost)) ((w8.setCell ⟨w7.heap.size, 0, none⟩ (.slice A8 n c8)).setCell ⟨w7.heap.size, 1, none⟩ (.int .i64 ((k : Int) + 1))) := by
  subst hn
  have hk8 := hkA.below hb8 hkA.size
  have hk9 := hkA.size
  have h1 := hbA.trans (hb8.mono hbA.size)
  refine ⟨_, A8, c8, A9, c9, rfl, rfl, rfl, (hk8.put 0 _).put 1 _, hr8.far2 _ (fun hne => ?_) _ _ _ _, hA8, hc8, hr9.far2 _ (fun e => ?_) _ _ _ _, (h1.setCell (Nat.le_refl _) _).setCell (Nat.le_refl _) _⟩
  · have hne2 := lv_ne hne
    rw [hA8 hne2]
    obtain ⟨j, hj, hjl⟩ := hr.lt (fun e => hne2 (by rw [e]; rfl))
    rw [hj]
    intro e
    injection e with e
    omega
  · have := hA9 _ e
    omega

set_option maxRecDepth 100000 in
set_option maxHeartbeats 4000000 in
theorem carries_many (w : World) (A : Option Addr) (ca : Nat) (ls : List Lk) (hfl : flipsOk ls) (hra : RC w A (lv ls)) (B : Option Addr) (cb : Nat) (os : List Op45) (hok : ∀ o ∈ os, opOk w o) (hos : RC w B (os.flatMap opCells)) (hfew : fewB ls os = true) :
    Calls Try.prog 4 #[.slice A ls.length ca, .slice B os.length cb] w fun e w' => e = .returned (.bool true) ∧ Below w.heap.size w w' := by
  have hF := hfew
  unfold fewB at hF
  simp only [Bool.and_eq_true, decide_eq_true_eq, List.all_eq_true] at hF
  obtain ⟨⟨hl1, hl2⟩, hF3⟩ := hF
  have HF3 := Lib.hid hF3
  clear hF3
  go_enter Try.func4, Try.ntmps4
  go_wp2_with fail
  refine (few_any A ca ls B cb os w hos).mono ?_
  rintro e w1 ⟨rfl, rfl⟩
  rw [hfew]
  go_wp2_with fail
  refine (new_any A ca ls w (by omega) hra).mono ?_
  rintro e w1 ⟨g, v1, rfl, hg, hL, hv1, hb1⟩
  go_wp2_with fail
  refine (radd_any none 0 [] 0 A ca ls w1 (by simp) (by omega) (RC.nil _ _) (hra.below hb1)).mono ?_
  rw [List.nil_append]
  rintro e w2 ⟨A2, c2, rfl, hr2, hA2, hc2, hb2⟩
  have hs2 := hb2.size
  have hg1 := hL.1.size
  have hS0 : Sim w.heap.size g w2.heap.size (w2.alloc (.cells #[.slice A2 ls.length c2, .int .i64 0] 35)) v1 A2 c2 ls 0 := by
    have hba := (Below.refl w2.heap.size w2).alloc (Nat.le_refl _) (.cells #[.slice A2 ls.length c2, .int .i64 0] 35)
    have hvl : ∀ k, v1.ownBlock = some k → k < w1.heap.size := fun k hk => hL.2.1.lt k hk
    refine ⟨(hL.below hb2).below hba, Blk.made _ _ _, hr2.below hba, hc2, fun hne => ?_, by omega, fun e => ?_, hg, by have := hb1.size; omega, hv1⟩
    · obtain ⟨b, hbb, hblt⟩ := hr2.lt hne
      have h4 := hA2 b hbb
      refine ⟨fun e => ?_, fun e => ?_, fun e => ?_⟩
      · rw [hbb] at e; injection e with e; omega
      · rw [hbb] at e; have := hvl b e.symm; omega
      · rw [hbb] at e; injection e with e; omega
    · have := hvl _ e; omega
  have hbw : Below w.heap.size w (w2.alloc (.cells #[.slice A2 ls.length c2, .int .i64 0] 35)) := (hb1.trans (hb2.mono hb1.size)).alloc (by have := hb1.size; omega) _
  obtain ⟨sb, hsb⟩ : ∃ sb, sb = w2.heap.size := ⟨_, rfl⟩
  rw [← hsb] at hS0
  have HSB := Lib.hid hsb
  have HB1 := Lib.hid hb1
  clear hsb hr2 hA2 hL hv1 hb1 hb2 hs2 hg1
  go_wp2
  rw [← HSB.out]
  go_loopw [7] (fun i wx => Round w.heap.size g sb w os i wx) (fun i _ => os.length - (intOf i).toNat)
  case atStart => exact ⟨0, v1, A2, c2, ls, Nat.zero_le _, rfl, hS0, hbw, by omega, hfl⟩
  case round =>
    obtain ⟨k, v, A3, c3, L, hk, rfl, hS, hbx, hLl, hLf⟩ := hrel
    clear hS0 hbw
    by_cases hlt : k < os.length
    · have hopk := hok os[k] (List.getElem_mem hlt)
      have hof := HF3.out os[k] (List.getElem_mem hlt)
      unfold opFew at hof
      simp only [Bool.and_eq_true, decide_eq_true_eq] at hof
      obtain ⟨hm1, hm2⟩ := hof
      obtain ⟨b, off, rfl, hx⟩ := RC.elem opCells (s := 3) (fun _ => rfl) hos k hlt (by omega)
      generalize os[k] = o at hopk hm1 hm2 hx
      have q0 : w.cell? ⟨b, off + k * 3, none⟩ = some (.bool o.adds) := hx 0 (by omega)
      have q1 : w.cell? ⟨b, off + k * 3 + 1, none⟩ = some (.slice o.A o.more.length o.c) := hx 1 (by omega)
      have q2 : w.cell? ⟨b, off + k * 3 + 2, none⟩ = some (.slice o.B o.b.length o.d) := hx 2 (by omega)
      clear hx
      obtain ⟨wo, rfl⟩ : ∃ wo : World, wo = wr := ⟨_, rfl⟩
      by_cases ha : o.adds = true
      · have qk0 := (hbx.cell (cell?_lt q0)).trans q0
        have qk1 := (hbx.cell (cell?_lt q1)).trans q1
        rw [ha] at qk0
        go_wp2_with fail
        refine (add_any g v L k o.A o.c o.more wo hS.line (hopk.2.1.below hbx) (by omega) (by omega)).mono ?_
        rintro e w4 ⟨rfl, v4, hL4, ho4, hon4⟩
        obtain ⟨hst4, hrd4⟩ := hS.st_only hon4
        have hb4 := hon4.below hS.bg hS.bo hbx.size
        have hbw4 := hbx.trans hb4
        have qw1 := ((hbw4.cell (cell?_lt q1)).trans q1)
        have s0 : w4.cell? ⟨sb, 0, none⟩ = some (.slice A3 L.length c3) := hst4.cell 0
        have s1 : w4.cell? ⟨sb, 1, none⟩ = some (.int .i64 k) := hst4.cell 1
        have hmore4 := hopk.2.1.below hbw4
        clear qk0 qk1
        go_upto_region 12 with fail
        go_still_tail 6, (by kernel_rfl)
        change wpList _ _ _ _ _ w4.drew
        have hbd : Below w4.heap.size w4 w4.drew := (Below.refl _ _).drew
        have hS5 : ∃ wd, wd = w4.drew := ⟨_, rfl⟩
        obtain ⟨wd, hwd⟩ := hS5
        rw [← hwd] at hbd ⊢
        clear hwd
        have hL5 := hL4.below hbd
        have hst5 := hst4.below hbd hst4.size
        have hrd5 := hrd4.below hbd
        have hmore5 := hmore4.below hbd
        have hbw5 := hbw4.trans (hbd.mono hbw4.size)
        have hvs4 := hL5.2.1.lt
        have hgs4 := hL5.1.size
        clear s0 s1 hL4 hst4 hrd4 hmore4 hb4 hbw4 hbd qw1
        go_wp2_with fail
        refine (radd_any A3 c3 L k o.A o.c o.more wd (by omega) (by omega) hrd5 hmore5).mono ?_
        rintro e w6 ⟨A6, c6, rfl, hr6, hA6, hc6, hb6⟩
        have hL6 := hL5.below hb6
        have hst6 := hst5.below hb6 hst5.size
        have s0 : w6.cell? ⟨sb, 0, none⟩ = some (.slice A3 L.length c3) := hst6.cell 0
        have s1 : w6.cell? ⟨sb, 1, none⟩ = some (.int .i64 k) := hst6.cell 1
        have f0 := hst6.free 0
        have f1 := hst6.free 1
        have hss := hst5.size
        have hv4b : ∀ j, v4.ownBlock = some j → w.heap.size ≤ j ∧ j ≠ sb := fun j hj => by
          rcases ho4 with h | ⟨j', h, hj'⟩
          · rw [h] at hj
            exact ⟨hS.bo j hj, fun e => hS.so (by rw [hj, e])⟩
          · rw [h] at hj
            injection hj with hj
            have h1 := hS.st.size
            have h2 := hbx.size
            exact ⟨by omega, by omega⟩
        have hap6 : L ++ o.more ≠ [] → A6.map (·.block) ≠ some g ∧ A6.map (·.block) ≠ v4.ownBlock ∧ A6.map (·.block) ≠ some sb := fun hne => by
          obtain ⟨j, hj, hjl⟩ := hr6.lt hne
          have hj2 := hA6 j hj
          refine ⟨fun e => ?_, fun e => ?_, fun e => ?_⟩
          · rw [hj] at e; injection e with e; omega
          · rw [hj] at e; have := hvs4 j e.symm; omega
          · rw [hj] at e; injection e with e; omega
        have hS6 := Sim.wrote (base := w.heap.size) hL6 hst6 hr6 hc6 hap6 hS.sg (fun e => (hv4b _ e).2 rfl) hS.bg hS.bs (fun j hj => (hv4b j hj).1)
        have hbw6 := (((hbw5.trans (hb6.mono hbw5.size))).setCell (p := ⟨sb, 0, none⟩) hS.bs (.slice A6 (L ++ o.more).length c6)).setCell (p := ⟨sb, 1, none⟩) hS.bs (.int .i64 k)
        rw [List.length_append] at hS6 hbw6
        have hLl6 : (L ++ o.more).length ≤ 200 + 100 * (k + 1) := by rw [List.length_append]; omega
        have hLf6 : flipsOk (L ++ o.more) := fun l hl => by
          rcases List.mem_append.1 hl with h | h
          · exact hLf l h
          · exact hopk.1 l h
        obtain ⟨wk, hwk⟩ : ∃ wk : World, wk = (w6.setCell ⟨sb, 0, none⟩ (.slice A6 (L.length + o.more.length) c6)).setCell ⟨sb, 1, none⟩ (.int .i64 k) := ⟨_, rfl⟩
        rw [← hwk] at hS6 hbw6
        have qk2 := (hbw6.cell (cell?_lt q2)).trans q2
        obtain ⟨L6, hL6d⟩ : ∃ L6, L6 = L ++ o.more := ⟨_, rfl⟩
        rw [← hL6d] at hS6 hLl6 hLf6
        clear hL6d hap6 hv4b hss hL6 hst6 hr6 hA6 hc6 hb6 hL5 hst5 hrd5 hmore5 hbw5 hvs4 hgs4 hLl hLf hS hbx hon4 ho4
        rw [hwk] at qk2
        go_wp2_with fail
        rw [← hwk]
        clear hwk qk2
        refine (carry_any g v4 L6 k o.B o.d o.b wk hS6.line (by omega) (by omega) (by omega) (first_wf hLf6) (by omega) (hopk.2.2.below hbw6)).mono ?_
        rintro e w7 ⟨A7, c7, v7, rfl, hr7, hL7, ho7, hon7⟩
        obtain ⟨hst7, hrd7⟩ := hS6.st_none hon7
        have hbw7 := hbw6.trans (hon7.below hS6.bg (fun k hk => by cases hk) hbw6.size)
        have qw2 := ((hbw7.cell (cell?_lt q2)).trans q2)
        have s0 : w7.cell? ⟨sb, 0, none⟩ = some (.slice A6 L6.length c6) := hst7.cell 0
        have s1 : w7.cell? ⟨sb, 1, none⟩ = some (.int .i64 k) := hst7.cell 1
        have hbl : b < w7.heap.size := Nat.lt_of_lt_of_le (cell?_lt q2) hbw7.size
        have hsl : sb < w7.heap.size := hst7.size
        have hb7 := hopk.2.2.below hbw7
        have hbN : Below w7.heap.size w7 (w7.drewN 1) := below_drewN (Below.refl _ _) 1
        have hbA : Below w7.heap.size w7 ((w7.drewN 1).alloc (.cells #[.slice none 0 0, .int .i64 0] 35)) := hbN.alloc (Nat.le_refl _) _
        have hkA : Blk ((w7.drewN 1).alloc (.cells #[.slice none 0 0, .int .i64 0] 35)) w7.heap.size 35 #[.slice none 0 0, .int .i64 0] := Blk.made (w7.drewN 1) _ _
        have HW := Lib.hid (first_wf hLf6)
        go_upto_region 14 with fail
        go_cut [10, 11, 12] (fun s1 s2 s3 wx => Mid w7 A6 L6 k o.b s1 s2 s3 wx)
        case first =>
          go_region_law (first
            | (go_simp; go_at_call 12; refine (rcarry_any A6 c6 L6 k o.B o.d o.b _ (by omega) (by omega) (by omega) hS6.le HW.out (by omega) (hrd7.below hbA) (hb7.below hbA)).mono ?_; rintro e w8 ⟨A8, c8, A9, c9, rfl, hr8, hA8, hc8, hr9, hA9, hb8⟩; have hk8 := hkA.below hb8 hkA.size; have a0 : w8.cell? ⟨w7.heap.size, 0, none⟩ = some (.slice none 0 0) := hk8.cell 0; have a1 : w8.cell? ⟨w7.heap.size, 1, none⟩ = some (.int .i64 0) := hk8.cell 1; have g0 := hk8.free 0; have g1 := hk8.free 1)
            | (go_simp; go_at_call 12; refine (rcarry_any A6 c6 L6 k o.B o.d o.b _ (by omega) (by omega) (by omega) hS6.le HW.out (by omega) (hrd7.below hbN) (hb7.below hbN)).mono ?_; rintro e w8 ⟨A8, c8, A9, c9, rfl, hr8, hA8, hc8, hr9, hA9, hb8⟩))
          all_goals
            go_wp2_with fail
            go_meet
            first
              | exact Mid.before (by simp) hkA hbA hr8 hrd7 hA8 hc8 hr9 hA9 hb8
              | exact Mid.after (by simp) hbN hr8 hA8 hc8 hr9 hb8
        case rest =>
          obtain ⟨p, A8, c8, A9, c9, rfl, rfl, rfl, hp8, hr8, hA8, hc8, hr9, hb8⟩ := hcut
          have hL8 := hL7.below hb8
          have hst8 := hst7.below hb8 hst7.size
          have p0 : wc.cell? ⟨p, 0, none⟩ = some (.slice A8 L6.tail.length c8) := hp8.cell 0
          have p1 : wc.cell? ⟨p, 1, none⟩ = some (.int .i64 ((k : Int) + 1)) := hp8.cell 1
          have t0 : wc.cell? ⟨sb, 0, none⟩ = some (.slice A6 L6.length c6) := hst8.cell 0
          have t1 : wc.cell? ⟨sb, 1, none⟩ = some (.int .i64 k) := hst8.cell 1
          have v0 := hst8.free 0
          have v1 := hst8.free 1
          have hap8 : L6.tail ≠ [] → A8.map (·.block) ≠ some g ∧ A8.map (·.block) ≠ v7.ownBlock ∧ A8.map (·.block) ≠ some sb := fun hne => by
            rw [hA8 hne, ho7]
            exact hS6.ap (fun e => hne (by rw [e]; rfl))
          have hS9 := Sim.wrote (base := w.heap.size) hL8 hst8 hr8 hc8 hap8 hS6.sg (by rw [ho7]; exact hS6.so) hS6.bg hS6.bs (by rw [ho7]; exact hS6.bo)
          have hbw9 := ((hbw7.trans (hb8.mono hbw7.size)).setCell (p := ⟨sb, 0, none⟩) hS6.bs (.slice A8 L6.tail.length c8)).setCell (p := ⟨sb, 1, none⟩) hS6.bs (.int .i64 ((k : Int) + 1))
          have hr7' := (hr7.below hb8).far2st hst8 (.slice A8 L6.tail.length c8) (.int .i64 ((k : Int) + 1))
          have hr9' := hr9.far2st hst8 (.slice A8 L6.tail.length c8) (.int .i64 ((k : Int) + 1))
          obtain ⟨wn, hwn⟩ : ∃ wn : World, wn = (wc.setCell ⟨sb, 0, none⟩ (.slice A8 L6.tail.length c8)).setCell ⟨sb, 1, none⟩ (.int .i64 ((k : Int) + 1)) := ⟨_, rfl⟩
          rw [← hwn] at hS9 hbw9 hr7' hr9'
          have hLl9 : L6.tail.length ≤ 200 + 100 * (k + 1) := by rw [List.length_tail]; omega
          have hLf9 : flipsOk L6.tail := fun l hl => hLf6 l (List.mem_of_mem_tail hl)
          have HWN := Lib.hid hwn
          obtain ⟨T, hT⟩ : ∃ T, T = L6.tail := ⟨_, rfl⟩
          obtain ⟨ys, hys⟩ : ∃ ys, ys = arrives (head1 L6) o.b := ⟨_, rfl⟩
          obtain ⟨okb, hokb⟩ : ∃ okb, okb = !(head1 L6).lost := ⟨_, rfl⟩
          rw [← hT] at hS9 hLl9 hLf9 p0
          rw [← hT] at hwn
          rw [← hys] at hr7' hr9' ⊢
          rw [← hokb]
          clear hap8 hA8 hr8 hc8 hp8 hr9 hb8 hL8 hst8 hr7 hL7 ho7 hon7 hst7 hrd7 hbw7 hb7 hbN hbA hkA HW hT hys hokb HWN
          go_upto_region 16 with fail
          rw [← hwn]
          clear hwn p0 p1 t0 t1 v0 v1 s0 s1
          have n0 : wn.cell? ⟨sb, 0, none⟩ = some (.slice A8 T.length c8) := hS9.st.cell 0
          have n1 : wn.cell? ⟨sb, 1, none⟩ = some (.int .i64 ((k : Int) + 1)) := hS9.st.cell 1
          have x7 := fun m => rb_convertN (P := Try.prog) (hr7'.drewN m) ys.length rfl 22 9 5 c7 Try.underlying22 Try.underlying5 Try.underlying9
          have x9 := fun m => rb_convertN (P := Try.prog) (hr9'.drewN m) ys.length rfl 22 9 5 c9 Try.underlying22 Try.underlying5 Try.underlying9
          have hline := hS9.line
          go_quiet (first
            | (go_at_call 13; exact Calls.quiet_of_same ((left_any g v7 T _ _ (hline.drewN _)).mono fun _ _ h => ⟨h.1, h.2.symm⟩))
            | (go_at_call 14; exact Calls.quiet_of_same ((count_any g v7 T _ _ (hline.drewN _)).mono fun _ _ h => ⟨h.1, h.2.symm⟩)))
          go_wp2
          go_roundw
          case rel => exact ⟨k + 1, v7, A8, c8, T, by omega, by go_num, hS9.drewN _, below_drewN hbw9 _, hLl9, hLf9⟩
          case measure => simp [intOf]; omega
      · have hal : o.adds = false := by simpa using ha
        have qk0 := (hbx.cell (cell?_lt q0)).trans q0
        have qk2 := (hbx.cell (cell?_lt q2)).trans q2
        rw [hal] at qk0
        go_wp2_with fail
        clear qk0 qk2
        refine (carry_any g v L k o.B o.d o.b wo hS.line (by omega) (by omega) (by omega) (first_wf hLf) (by omega) (hopk.2.2.below hbx)).mono ?_
        rintro e w7 ⟨A7, c7, v7, rfl, hr7, hL7, ho7, hon7⟩
        obtain ⟨hst7, hrd7⟩ := hS.st_none hon7
        have hbw7 := hbx.trans (hon7.below hS.bg (fun k hk => by cases hk) hbx.size)
        have qw2 := ((hbw7.cell (cell?_lt q2)).trans q2)
        have s0 : w7.cell? ⟨sb, 0, none⟩ = some (.slice A3 L.length c3) := hst7.cell 0
        have s1 : w7.cell? ⟨sb, 1, none⟩ = some (.int .i64 k) := hst7.cell 1
        have hbl : b < w7.heap.size := Nat.lt_of_lt_of_le (cell?_lt q2) hbw7.size
        have hsl : sb < w7.heap.size := hst7.size
        have hb7 := hopk.2.2.below hbw7
        have hbN : Below w7.heap.size w7 (w7.drewN 1) := below_drewN (Below.refl _ _) 1
        have hbA : Below w7.heap.size w7 ((w7.drewN 1).alloc (.cells #[.slice none 0 0, .int .i64 0] 35)) := hbN.alloc (Nat.le_refl _) _
        have hkA : Blk ((w7.drewN 1).alloc (.cells #[.slice none 0 0, .int .i64 0] 35)) w7.heap.size 35 #[.slice none 0 0, .int .i64 0] := Blk.made (w7.drewN 1) _ _
        have HW := Lib.hid (first_wf hLf)
        go_upto_region 14 with fail
        go_cut [10, 11, 12] (fun s1 s2 s3 wx => Mid w7 A3 L k o.b s1 s2 s3 wx)
        case first =>
          go_region_law (first
            | (go_simp; go_at_call 12; refine (rcarry_any A3 c3 L k o.B o.d o.b _ (by omega) (by omega) (by omega) hS.le HW.out (by omega) (hrd7.below hbA) (hb7.below hbA)).mono ?_; rintro e w8 ⟨A8, c8, A9, c9, rfl, hr8, hA8, hc8, hr9, hA9, hb8⟩; have hk8 := hkA.below hb8 hkA.size; have a0 : w8.cell? ⟨w7.heap.size, 0, none⟩ = some (.slice none 0 0) := hk8.cell 0; have a1 : w8.cell? ⟨w7.heap.size, 1, none⟩ = some (.int .i64 0) := hk8.cell 1; have g0 := hk8.free 0; have g1 := hk8.free 1)
            | (go_simp; go_at_call 12; refine (rcarry_any A3 c3 L k o.B o.d o.b _ (by omega) (by omega) (by omega) hS.le HW.out (by omega) (hrd7.below hbN) (hb7.below hbN)).mono ?_; rintro e w8 ⟨A8, c8, A9, c9, rfl, hr8, hA8, hc8, hr9, hA9, hb8⟩))
          all_goals
            go_wp2_with fail
            go_meet
            first
              | exact Mid.before (by simp) hkA hbA hr8 hrd7 hA8 hc8 hr9 hA9 hb8
              | exact Mid.after (by simp) hbN hr8 hA8 hc8 hr9 hb8
        case rest =>
          obtain ⟨p, A8, c8, A9, c9, rfl, rfl, rfl, hp8, hr8, hA8, hc8, hr9, hb8⟩ := hcut
          have hL8 := hL7.below hb8
          have hst8 := hst7.below hb8 hst7.size
          have p0 : wc.cell? ⟨p, 0, none⟩ = some (.slice A8 L.tail.length c8) := hp8.cell 0
          have p1 : wc.cell? ⟨p, 1, none⟩ = some (.int .i64 ((k : Int) + 1)) := hp8.cell 1
          have t0 : wc.cell? ⟨sb, 0, none⟩ = some (.slice A3 L.length c3) := hst8.cell 0
          have t1 : wc.cell? ⟨sb, 1, none⟩ = some (.int .i64 k) := hst8.cell 1
          have v0 := hst8.free 0
          have v1 := hst8.free 1
          have hap8 : L.tail ≠ [] → A8.map (·.block) ≠ some g ∧ A8.map (·.block) ≠ v7.ownBlock ∧ A8.map (·.block) ≠ some sb := fun hne => by
            rw [hA8 hne, ho7]
            exact hS.ap (fun e => hne (by rw [e]; rfl))
          have hS9 := Sim.wrote (base := w.heap.size) hL8 hst8 hr8 hc8 hap8 hS.sg (by rw [ho7]; exact hS.so) hS.bg hS.bs (by rw [ho7]; exact hS.bo)
          have hbw9 := ((hbw7.trans (hb8.mono hbw7.size)).setCell (p := ⟨sb, 0, none⟩) hS.bs (.slice A8 L.tail.length c8)).setCell (p := ⟨sb, 1, none⟩) hS.bs (.int .i64 ((k : Int) + 1))
          have hr7' := (hr7.below hb8).far2st hst8 (.slice A8 L.tail.length c8) (.int .i64 ((k : Int) + 1))
          have hr9' := hr9.far2st hst8 (.slice A8 L.tail.length c8) (.int .i64 ((k : Int) + 1))
          obtain ⟨wn, hwn⟩ : ∃ wn : World, wn = (wc.setCell ⟨sb, 0, none⟩ (.slice A8 L.tail.length c8)).setCell ⟨sb, 1, none⟩ (.int .i64 ((k : Int) + 1)) := ⟨_, rfl⟩
          rw [← hwn] at hS9 hbw9 hr7' hr9'
          have hLl9 : L.tail.length ≤ 200 + 100 * (k + 1) := by rw [List.length_tail]; omega
          have hLf9 : flipsOk L.tail := fun l hl => hLf l (List.mem_of_mem_tail hl)
          have HWN := Lib.hid hwn
          obtain ⟨T, hT⟩ : ∃ T, T = L.tail := ⟨_, rfl⟩
          obtain ⟨ys, hys⟩ : ∃ ys, ys = arrives (head1 L) o.b := ⟨_, rfl⟩
          obtain ⟨okb, hokb⟩ : ∃ okb, okb = !(head1 L).lost := ⟨_, rfl⟩
          rw [← hT] at hS9 hLl9 hLf9 p0
          rw [← hT] at hwn
          rw [← hys] at hr7' hr9' ⊢
          rw [← hokb]
          clear hap8 hA8 hr8 hc8 hp8 hr9 hb8 hL8 hst8 hr7 hL7 ho7 hon7 hst7 hrd7 hbw7 hb7 hbN hbA hkA HW hT hys hokb HWN
          go_upto_region 16 with fail
          rw [← hwn]
          clear hwn p0 p1 t0 t1 v0 v1 s0 s1
          have n0 : wn.cell? ⟨sb, 0, none⟩ = some (.slice A8 T.length c8) := hS9.st.cell 0
          have n1 : wn.cell? ⟨sb, 1, none⟩ = some (.int .i64 ((k : Int) + 1)) := hS9.st.cell 1
          have x7 := fun m => rb_convertN (P := Try.prog) (hr7'.drewN m) ys.length rfl 22 9 5 c7 Try.underlying22 Try.underlying5 Try.underlying9
          have x9 := fun m => rb_convertN (P := Try.prog) (hr9'.drewN m) ys.length rfl 22 9 5 c9 Try.underlying22 Try.underlying5 Try.underlying9
          have hline := hS9.line
          go_quiet (first
            | (go_at_call 13; exact Calls.quiet_of_same ((left_any g v7 T _ _ (hline.drewN _)).mono fun _ _ h => ⟨h.1, h.2.symm⟩))
            | (go_at_call 14; exact Calls.quiet_of_same ((count_any g v7 T _ _ (hline.drewN _)).mono fun _ _ h => ⟨h.1, h.2.symm⟩)))
          go_wp2
          go_roundw
          case rel => exact ⟨k + 1, v7, A8, c8, T, by omega, by go_num, hS9.drewN _, below_drewN hbw9 _, hLl9, hLf9⟩
          case measure => simp [intOf]; omega
    · obtain rfl : k = os.length := by omega
      clear hlt hk
      go_wp2_with fail
      refine (works_any wr).mono ?_
      rintro e w3 ⟨rfl, hb3⟩
      go_wp2
      go_ret
      exact ⟨rfl, hbx.trans (hb3.mono hbx.size)⟩

theorem lineCarries_walk (w : World) (A : Option Addr) (ca : Nat) (ls : List Lk) (hca : ls.length ≤ ca) (hfl : flipsOk ls) (hra : RC w A (lv ls)) (B : Option Addr) (cb : Nat) (os : List Op45) (hcb : os.length ≤ cb) (hok : ∀ o ∈ os, opOk w o) (hos : RC w B (os.flatMap opCells)) :
    Calls Try.prog 4 #[.slice A ls.length ca, .slice B os.length cb] w fun e w' => e = .returned (.bool true) ∧ Below w.heap.size w w' := by
  cases h : fewB ls os with
  | false => exact carries_few w A ca ls B cb os hos h
  | true => exact carries_many w A ca ls hfl hra B cb os hok hos h
end Go.Proofs.Ytlkbbalidlhgmaa
