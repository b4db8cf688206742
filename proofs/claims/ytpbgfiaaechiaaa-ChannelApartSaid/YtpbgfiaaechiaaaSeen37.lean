/-
  The channels: a table shows what a state says.
-/
import Derived.Test.YtpbgfiaaechiaaaDo37
import Derived.Test.YtpbgfiaaechiaaaAwake37
import Derived.Test.YtpbgfiaaechiaaaRefF37
import Derived.Deep.RegionHeld3
namespace Go.Proofs.Ytpbgfiaaechiaaa
open Go.RowKit
set_option linter.unusedVariables false

/-- Two equal lists of numbers. -/
theorem ints_any (A B : Option Addr) (c d : Nat) (ns : List Nat) (w : World) (hs : ns.length ≤ 1048576) (hr : RC w A (iv ns)) (hq : RC w B (iv ns)) :
    Calls Try.prog 11 #[.slice A ns.length c, .slice B ns.length d] w fun e w' => e = .returned (.bool true) ∧ ∃ n, w' = w.drewN n := by
  go_enter Try.func11, Try.ntmps11
  go_wp2
  go_loopw [5] (fun i wr => ∃ k n : Nat, k ≤ ns.length ∧ i = .int .i64 k ∧ wr = w.drewN n) (fun i _ => ns.length - (intOf i).toNat)
  case atStart => exact ⟨0, 0, Nat.zero_le _, rfl, rfl⟩
  case round =>
    obtain ⟨k, n, hk, rfl, rfl⟩ := hrel
    by_cases h1 : k < ns.length
    · obtain ⟨b, off, rfl, hc⟩ := hr.at_ (by rw [iv_length]; omega)
      obtain ⟨b', off', rfl, hc'⟩ := hq.at_ (by rw [iv_length]; omega)
      have hcell : w.cell? ⟨b, off + k, none⟩ = some (.int .i64 ((ns[k] : Nat) : Int)) := by rw [hc k (by rw [iv_length]; exact h1)]; simp [iv]
      have hcell' : w.cell? ⟨b', off' + k, none⟩ = some (.int .i64 ((ns[k] : Nat) : Int)) := by rw [hc' k (by rw [iv_length]; exact h1)]; simp [iv]
      have hi0 : (0 : Int) ≤ (k : Int) := by omega
      have hi1 : (k : Int) < (ns.length : Int) := by omega
      clear hc hc' hr hq
      generalize ns[k] = z at hcell hcell'
      go_wp2
      go_quiet (fail)
      go_wp2
      go_roundw
      case rel => exact ⟨k + 1, _, by omega, by go_num, rfl⟩
      case measure => simp [intOf]; omega
    · go_wp2
      go_ret
      exact ⟨rfl, n, rfl⟩

/-- What holds of every world while the table and the state are looked at. -/
structure Good (w : World) (g : Nat) (M L : List Ln) (w' : World) : Prop where
  blk : Blk w' w.heap.size 32 (scs M)
  tab : TabAt w' g true L
  lns : LnsIn w' M
  bel : Below w.heap.size w w'
theorem Good.keep {w w1 w2 : World} {g : Nat} {M L : List Ln} (h : Good w g M L w1) (hb : Below w1.heap.size w1 w2) : Good w g M L w2 := ⟨h.blk.below hb h.blk.size, h.tab.below hb, h.lns.below hb, h.bel.trans (hb.mono h.bel.size)⟩
theorem Good.drewN {w w1 : World} {g : Nat} {M L : List Ln} (h : Good w g M L w1) (q : Nat) : Good w g M L (w1.drewN q) := h.keep (below_drewN (Below.refl _ _) q)
theorem appOf_le {L : List Ln} {w : World} {g : Nat} (h : TabAt w g true L) (n : Int) : (appOf (chs L) n).length ≤ 16 := by
  by_cases hz : whichC (chs L) n = 0
  · obtain ⟨k, hk, rfl, ho⟩ := which_zero h.2.1 hz
    rw [appOf_in hk h.2.1 ho]
    exact (h.2.2 _ (List.getElem_mem hk)).2
  · rw [appOf_out hz]; simp

/-- 'wpAnyH_take', the temporary said by the caller. -/
theorem takeAt {P : Program} {ops : Array Oper} {Q : Exit → Act → World → Prop} {md : Region.Mode} {S : World → Prop} (i : Nat) (d : Option Tmp) (v : Value) {oi : Oper} {fuel : Nat} {listed : Array Bool} {a : Act} {w : World} (hi : ops[i]? = some oi) (hd : oi.dst = d)
    (hs : Region.noSelect ops = true) (hf : Region.free md ops listed i = true) (hr : (Region.ready md ops listed).contains i = true)
    (hQ : ∀ c a w, Q (.panic c) (a.put oi.dst v) w → Q (.panic c) a w) (hy : YieldsIf P ops S oi v a) (hS : S w)
    (h : wpAnyH P md ops Q S fuel (listed.setIfInBounds i true) (a.put d v) w) : wpAnyH P md ops Q S (fuel + 1) listed a w :=
  wpAnyH_take hi hs hf hr hQ hy hS (by rw [hd]; exact h)
theorem yieldsIf_load_row {P : Program} {ops : Array Oper} {S : World → Prop} {op : Oper} {a : Act} (hw : Region.wanted op (yielded ops a.tmps) = true) (ty : TypeId) (x : Operand) (ho : op.op = .load ty x)
    (b : Nat) (hx : a.eval x = .pointer (some ⟨b, 0, none⟩)) (cs : Array Value) (u : TypeId) (d : TypeDesc) (hS : ∀ w, S w → Blk w b u cs)
    (hu : P.underlying ty = some d) (hd : (match d with | .struct _ | .array _ _ => true | _ => false) = true) (hi : (P.info? ty).map (·.size) = some cs.size) : YieldsIf P ops S op (.agg cs) a :=
  .inl ⟨hw, fun w hw' => by
    unfold execOp
    simp only [ho, hx, Instr.loadAt, Instr.sureAddr, Sem.run_bind, Sem.run_pure, Result.andThen_ok, run_loadVar_row w b u ty cs (0, 0) d (hS w hw') hu hd hi]⟩

set_option linter.unusedSimpArgs false in
set_option maxHeartbeats 4000000 in
theorem seen_any (g : Nat) (L M : List Ln) (w : World) (hB : Both w g L M) :
    Calls Try.prog 21 #[.pointer (some ⟨g, 0, none⟩), .agg (scs M)] w fun e w' => e = .returned (.bool true) ∧ Below w.heap.size w w' := by
  have h4 := hB.len
  have hLM := hB.same
  have hz0 : (scs M).size = 24 := scs_size h4
  have hi0 : (Try.prog.info? 32).map (·.size) = some (scs M).size := by rw [hz0]; rfl
  have hk0 : Blk (w.alloc (.cells (scs M) 32)) w.heap.size 32 (scs M) := Blk.made w 32 (scs M)
  have hb : Below w.heap.size w (w.alloc (.cells (scs M) 32)) := (Below.refl w.heap.size w).alloc (Nat.le_refl _) _
  have hG0 : Good w g M L (w.alloc (.cells (scs M) 32)) := ⟨hk0, hB.tab.below hb, hB.lns.below hb, hb⟩
  obtain ⟨W0, hW0⟩ : ∃ W0 : World, W0 = (w.alloc (.cells (scs M) 32)) := ⟨_, rfl⟩
  rw [← hW0] at hG0
  clear hk0 hb
  go_enter Try.func21, Try.ntmps21
  go_upto_region 1 with fail
  rw [← hW0]
  clear hW0
  go_wp2
  go_loopw [5] (fun i wx => ∃ j : Nat, j ≤ 6 ∧ i = .int .i64 ((j : Int) - 1) ∧ Good w g M L wx) (fun i _ => (5 - intOf i).toNat)
  case atStart => exact ⟨0, by omega, rfl, hG0⟩
  case round =>
    obtain ⟨j, hj, rfl, hG⟩ := hrel
    by_cases hj6 : j < 6
    · obtain ⟨n, hn⟩ : ∃ n : Int, n = (j : Int) - 1 := ⟨_, rfl⟩
      rw [← hn]
      have hn4 : n ≤ 4 := by omega
      have hn1 : n + 1 ≤ 5 := by omega
      have hnm : -1 ≤ n := by omega
      have HN := Lib.hid hn
      clear hn
      have hS0 : Good w g M L wr.drew := hG.drewN 1
      obtain ⟨b, hbb⟩ : ∃ b, b = decide (whichC (chs L) n = 0) := ⟨_, rfl⟩
      obtain ⟨xs, hxs⟩ : ∃ xs, xs = appOf (chs L) n := ⟨_, rfl⟩
      obtain ⟨s, hss⟩ : ∃ s, s = secOf (chs L) n := ⟨_, rfl⟩
      have hl : xs.length ≤ 16 := by rw [hxs]; exact appOf_le hB.tab n
      have cIs : Hid (∀ w', Good w g M L w' → Calls Try.prog 15 #[.pointer (some ⟨g, 0, none⟩), .int .i64 n] w' fun e w2 => e = .returned (.bool b) ∧ w' = w2) := fun w' h => by rw [hbb]; exact isOpen_any g L n w' h.tab
      have rIs : Hid (∀ w', Calls Try.prog 35 #[.agg (scs M), .int .i64 n] w' fun e w2 => e = .returned (.bool b) ∧ Below w'.heap.size w' w2) := fun w' => by rw [hbb, ← hLM]; exact refIsOpen_any M n w' h4
      have cAp : Hid (∀ w', Good w g M L w' → Calls Try.prog 18 #[.pointer (some ⟨g, 0, none⟩), .int .i64 n] w' fun e w2 => ∃ A c, e = .returned (.slice A xs.length c) ∧ RB w2 A xs ∧ Below w'.heap.size w' w2) := fun w' h => by rw [hxs]; exact app_any g L n w' h.tab
      have rAp : Hid (∀ w', Good w g M L w' → Calls Try.prog 36 #[.agg (scs M), .int .i64 n] w' fun e w2 => ∃ A c, e = .returned (.slice A xs.length c) ∧ RB w2 A xs ∧ Below w'.heap.size w' w2) := fun w' h => by rw [hxs, ← hLM]; exact refApp_any M n w' h4 h.lns
      have cSe : Hid (∀ w', Good w g M L w' → Calls Try.prog 19 #[.pointer (some ⟨g, 0, none⟩), .int .i64 n] w' fun e w2 => e = .returned (.agg #[.int .i64 s.1, .int .i64 s.2.1, .int .i64 s.2.2.1, .int .i64 s.2.2.2]) ∧ Below w'.heap.size w' w2) := fun w' h => by rw [hss]; exact security_any g L n w' h.tab
      have rSe : Hid (∀ w', Calls Try.prog 37 #[.agg (scs M), .int .i64 n] w' fun e w2 => e = .returned (.agg #[.int .i64 s.1, .int .i64 s.2.1, .int .i64 s.2.2.1, .int .i64 s.2.2.2]) ∧ Below w'.heap.size w' w2) := fun w' => by rw [hss, ← hLM]; exact refSecurity_any M n w' h4
      obtain ⟨ns, hns⟩ : ∃ ns, ns = withC (chs L) xs := ⟨_, rfl⟩
      have hnl : ns.length ≤ 4 := by rw [hns]; exact upto_le _ _ _
      have cWi : Hid (∀ A c w', Good w g M L w' → RB w' A xs → Calls Try.prog 12 #[.pointer (some ⟨g, 0, none⟩), .slice A xs.length c] w' fun e w2 => ∃ A c, e = .returned (.slice A ns.length c) ∧ RC w2 A (iv ns) ∧ Below w'.heap.size w' w2) := fun A c w' h hr => by
        rw [hns]
        refine (with_any g L A c xs w' h.tab hr).mono fun e w2 ⟨v, he, hown, hb⟩ => ?_
        obtain ⟨A5, c5, rfl, _, hr5⟩ := owns_reads hown
        exact ⟨A5, c5, he, hr5, hb⟩
      have rWi : Hid (∀ A c w', Good w g M L w' → RB w' A xs → Calls Try.prog 13 #[.agg (scs M), .slice A xs.length c] w' fun e w2 => ∃ A c, e = .returned (.slice A ns.length c) ∧ RC w2 A (iv ns) ∧ Below w'.heap.size w' w2) := fun A c w' h hr => by
        rw [hns, ← hLM]
        refine (refWith_any M A c xs w' h4 h.lns hr).mono fun e w2 ⟨v, he, hown, hb⟩ => ?_
        obtain ⟨A5, c5, rfl, _, hr5⟩ := owns_reads hown
        exact ⟨A5, c5, he, hr5, hb⟩
      clear hbb hxs hss hns hB hLM h4 hz0
      go_upto_region 4 with fail
      go_cut [35] (fun s wx => s = .bool false ∧ Good w g M L wx)
      case first =>
        refine wp_region_held_drew (S := Good w g M L) (by kernel_rfl) hS0 (fun hHeld => ?_)
        refine takeAt 0 (some 10) (.pointer (some ⟨g, 0, none⟩)) rfl rfl (by kernel_rfl) (by kernel_rfl) (by kernel_rfl) (fun _ _ _ h => h) (Or.inl ⟨by rfl, ?_⟩) hHeld ?_
        · intro w9 hS9
          go_simp
        simp only [Act.put, List.setIfInBounds_toArray, List.set_cons_zero, List.set_cons_succ]
        refine takeAt 1 (some 11) (.int .i64 n) rfl rfl (by kernel_rfl) (by kernel_rfl) (by kernel_rfl) (fun _ _ _ h => h) (Or.inl ⟨by rfl, ?_⟩) hHeld ?_
        · intro w9 hS9
          go_simp
        simp only [Act.put, List.setIfInBounds_toArray, List.set_cons_zero, List.set_cons_succ]
        refine takeAt 3 (some 13) (.agg (scs M)) rfl rfl (by kernel_rfl) (by kernel_rfl) (by kernel_rfl) (fun _ _ _ h => h) (yieldsIf_load_row (by rfl) _ _ rfl w.heap.size rfl (scs M) _ _ (fun w9 h9 => h9.blk) Try.underlying32 rfl hi0) hHeld ?_
        simp only [Act.put, List.setIfInBounds_toArray, List.set_cons_zero, List.set_cons_succ]
        refine takeAt 4 (some 14) (.int .i64 n) rfl rfl (by kernel_rfl) (by kernel_rfl) (by kernel_rfl) (fun _ _ _ h => h) (Or.inl ⟨by rfl, ?_⟩) hHeld ?_
        · intro w9 hS9
          go_simp
        simp only [Act.put, List.setIfInBounds_toArray, List.set_cons_zero, List.set_cons_succ]
        refine wpAnyH_ready (rs := [2]) (by kernel_rfl) (by simp) (AllReadyH.cons rfl (fun K hK => ?_) AllReadyH.nil)
        go_simp
        refine (cIs.out _ hHeld).mono ?_
        rintro e w1 ⟨rfl, rfl⟩
        go_wp2_with fail
        refine hK.out _ _ (hHeld) (fun hHeld => ?_)
        clear hK
        try simp only [Act.put, List.setIfInBounds_toArray, List.set_cons_zero, List.set_cons_succ]
        refine wpAnyH_ready (rs := [5]) (by kernel_rfl) (by simp) (AllReadyH.cons rfl (fun K hK => ?_) AllReadyH.nil)
        go_simp
        refine (rIs.out _).mono ?_
        rintro e w2 ⟨rfl, hb2⟩
        go_wp2_with fail
        refine hK.out _ _ (hHeld.keep hb2) (fun hHeld => ?_)
        clear hK
        try simp only [Act.put, List.setIfInBounds_toArray, List.set_cons_zero, List.set_cons_succ]
        refine takeAt 6 (some 16) (.bool false) rfl rfl (by kernel_rfl) (by kernel_rfl) (by kernel_rfl) (fun _ _ _ h => h) (Or.inl ⟨by rfl, ?_⟩) hHeld ?_
        · intro w9 hS9
          go_simp
        simp only [Act.put, List.setIfInBounds_toArray, List.set_cons_zero, List.set_cons_succ]
        refine takeAt 7 (some 17) (.bool false) rfl rfl (by kernel_rfl) (by kernel_rfl) (by kernel_rfl) (fun _ _ _ h => h) (Or.inl ⟨by rfl, ?_⟩) hHeld ?_
        · intro w9 hS9
          go_simp
        simp only [Act.put, List.setIfInBounds_toArray, List.set_cons_zero, List.set_cons_succ]
        refine takeAt 8 (some 18) (.pointer (some ⟨g, 0, none⟩)) rfl rfl (by kernel_rfl) (by kernel_rfl) (by kernel_rfl) (fun _ _ _ h => h) (Or.inl ⟨by rfl, ?_⟩) hHeld ?_
        · intro w9 hS9
          go_simp
        simp only [Act.put, List.setIfInBounds_toArray, List.set_cons_zero, List.set_cons_succ]
        refine takeAt 9 (some 19) (.int .i64 n) rfl rfl (by kernel_rfl) (by kernel_rfl) (by kernel_rfl) (fun _ _ _ h => h) (Or.inl ⟨by rfl, ?_⟩) hHeld ?_
        · intro w9 hS9
          go_simp
        simp only [Act.put, List.setIfInBounds_toArray, List.set_cons_zero, List.set_cons_succ]
        refine takeAt 11 (some 21) (.agg (scs M)) rfl rfl (by kernel_rfl) (by kernel_rfl) (by kernel_rfl) (fun _ _ _ h => h) (yieldsIf_load_row (by rfl) _ _ rfl w.heap.size rfl (scs M) _ _ (fun w9 h9 => h9.blk) Try.underlying32 rfl hi0) hHeld ?_
        simp only [Act.put, List.setIfInBounds_toArray, List.set_cons_zero, List.set_cons_succ]
        refine takeAt 12 (some 22) (.int .i64 n) rfl rfl (by kernel_rfl) (by kernel_rfl) (by kernel_rfl) (fun _ _ _ h => h) (Or.inl ⟨by rfl, ?_⟩) hHeld ?_
        · intro w9 hS9
          go_simp
        simp only [Act.put, List.setIfInBounds_toArray, List.set_cons_zero, List.set_cons_succ]
        refine wpAnyH_ready (rs := [10]) (by kernel_rfl) (by simp) (AllReadyH.cons rfl (fun K hK => ?_) AllReadyH.nil)
        go_simp
        refine (cAp.out _ hHeld).mono ?_
        rintro e w3 ⟨A1, c1, rfl, hr1, hb3⟩
        go_wp2_with fail
        refine hK.out _ _ (hHeld.keep hb3) (fun hHeld => ?_)
        clear hK
        try simp only [Act.put, List.setIfInBounds_toArray, List.set_cons_zero, List.set_cons_succ]
        refine wpAnyH_ready (rs := [13]) (by kernel_rfl) (by simp) (AllReadyH.cons rfl (fun K hK => ?_) AllReadyH.nil)
        go_simp
        refine (rAp.out _ hHeld).mono ?_
        rintro e w4 ⟨A2, c2, rfl, hr2, hb4⟩
        go_wp2_with fail
        refine hK.out _ _ (hHeld.keep hb4) (fun hHeld => ?_)
        clear hK
        try simp only [Act.put, List.setIfInBounds_toArray, List.set_cons_zero, List.set_cons_succ]
        refine wpAnyH_ready (rs := [14]) (by kernel_rfl) (by simp) (AllReadyH.cons rfl (fun K hK => ?_) AllReadyH.nil)
        go_simp
        refine (same_short A1 A2 c1 c2 xs xs _ (by omega) (hr1.below hb4) hr2).mono ?_
        rintro e w5 ⟨rfl, q, rfl⟩
        go_wp2_with fail
        refine hK.out _ _ (hHeld.drewN q) (fun hHeld => ?_)
        clear hK
        try simp only [Act.put, List.setIfInBounds_toArray, List.set_cons_zero, List.set_cons_succ]
        refine takeAt 15 (some 25) (.bool false) rfl rfl (by kernel_rfl) (by kernel_rfl) (by kernel_rfl) (fun _ _ _ h => h) (Or.inl ⟨by rfl, ?_⟩) hHeld ?_
        · intro w9 hS9
          go_simp
        simp only [Act.put, List.setIfInBounds_toArray, List.set_cons_zero, List.set_cons_succ]
        refine takeAt 16 (some 26) (.bool false) rfl rfl (by kernel_rfl) (by kernel_rfl) (by kernel_rfl) (fun _ _ _ h => h) (Or.inl ⟨by rfl, ?_⟩) hHeld ?_
        · intro w9 hS9
          go_simp
        simp only [Act.put, List.setIfInBounds_toArray, List.set_cons_zero, List.set_cons_succ]
        refine takeAt 17 (some 27) (.bool false) rfl rfl (by kernel_rfl) (by kernel_rfl) (by kernel_rfl) (fun _ _ _ h => h) (Or.inl ⟨by rfl, ?_⟩) hHeld ?_
        · intro w9 hS9
          go_simp
        simp only [Act.put, List.setIfInBounds_toArray, List.set_cons_zero, List.set_cons_succ]
        refine takeAt 18 (some 28) (.pointer (some ⟨g, 0, none⟩)) rfl rfl (by kernel_rfl) (by kernel_rfl) (by kernel_rfl) (fun _ _ _ h => h) (Or.inl ⟨by rfl, ?_⟩) hHeld ?_
        · intro w9 hS9
          go_simp
        simp only [Act.put, List.setIfInBounds_toArray, List.set_cons_zero, List.set_cons_succ]
        refine takeAt 19 (some 29) (.int .i64 n) rfl rfl (by kernel_rfl) (by kernel_rfl) (by kernel_rfl) (fun _ _ _ h => h) (Or.inl ⟨by rfl, ?_⟩) hHeld ?_
        · intro w9 hS9
          go_simp
        simp only [Act.put, List.setIfInBounds_toArray, List.set_cons_zero, List.set_cons_succ]
        refine takeAt 21 (some 31) (.agg (scs M)) rfl rfl (by kernel_rfl) (by kernel_rfl) (by kernel_rfl) (fun _ _ _ h => h) (yieldsIf_load_row (by rfl) _ _ rfl w.heap.size rfl (scs M) _ _ (fun w9 h9 => h9.blk) Try.underlying32 rfl hi0) hHeld ?_
        simp only [Act.put, List.setIfInBounds_toArray, List.set_cons_zero, List.set_cons_succ]
        refine takeAt 22 (some 32) (.int .i64 n) rfl rfl (by kernel_rfl) (by kernel_rfl) (by kernel_rfl) (fun _ _ _ h => h) (Or.inl ⟨by rfl, ?_⟩) hHeld ?_
        · intro w9 hS9
          go_simp
        simp only [Act.put, List.setIfInBounds_toArray, List.set_cons_zero, List.set_cons_succ]
        refine wpAnyH_ready (rs := [20]) (by kernel_rfl) (by simp) (AllReadyH.cons rfl (fun K hK => ?_) AllReadyH.nil)
        go_simp
        refine (cSe.out _ hHeld).mono ?_
        rintro e w6 ⟨rfl, hb6⟩
        go_wp2_with fail
        refine hK.out _ _ (hHeld.keep hb6) (fun hHeld => ?_)
        clear hK
        try simp only [Act.put, List.setIfInBounds_toArray, List.set_cons_zero, List.set_cons_succ]
        refine wpAnyH_ready (rs := [23]) (by kernel_rfl) (by simp) (AllReadyH.cons rfl (fun K hK => ?_) AllReadyH.nil)
        go_simp
        refine (rSe.out _).mono ?_
        rintro e w7 ⟨rfl, hb7⟩
        go_wp2_with fail
        refine hK.out _ _ (hHeld.keep hb7) (fun hHeld => ?_)
        clear hK
        try simp only [Act.put, List.setIfInBounds_toArray, List.set_cons_zero, List.set_cons_succ]
        refine takeAt 24 (some 34) (.bool false) rfl rfl (by kernel_rfl) (by kernel_rfl) (by kernel_rfl) (fun _ _ _ h => h) (Or.inl ⟨by rfl, ?_⟩) hHeld ?_
        · intro w9 hS9
          go_simp
        simp only [Act.put, List.setIfInBounds_toArray, List.set_cons_zero, List.set_cons_succ]
        refine takeAt 25 (some 35) (.bool false) rfl rfl (by kernel_rfl) (by kernel_rfl) (by kernel_rfl) (fun _ _ _ h => h) (Or.inl ⟨by rfl, ?_⟩) hHeld ?_
        · intro w9 hS9
          go_simp
        simp only [Act.put, List.setIfInBounds_toArray, List.set_cons_zero, List.set_cons_succ]
        refine wpAnyH_done (by kernel_rfl) ?_ _
        go_wp2_with fail
        go_meet
        exact ⟨rfl, hHeld⟩
      case rest =>
        obtain ⟨rfl, hGc⟩ := hcut
        have hS1 : Good w g M L wc.drew := hGc.drewN 1
        go_upto_region 6 with fail
        go_cut [47] (fun s wx => s = .bool false ∧ Good w g M L wx)
        case first =>
          refine wp_region_held_drew (S := Good w g M L) (by kernel_rfl) hS1 (fun hHeld => ?_)
          refine takeAt 0 (some 36) (.pointer (some ⟨g, 0, none⟩)) rfl rfl (by kernel_rfl) (by kernel_rfl) (by kernel_rfl) (fun _ _ _ h => h) (Or.inl ⟨by rfl, ?_⟩) hHeld ?_
          · intro w9 hS9
            go_simp
          simp only [Act.put, List.setIfInBounds_toArray, List.set_cons_zero, List.set_cons_succ]
          refine takeAt 1 (some 37) (.agg (scs M)) rfl rfl (by kernel_rfl) (by kernel_rfl) (by kernel_rfl) (fun _ _ _ h => h) (yieldsIf_load_row (by rfl) _ _ rfl w.heap.size rfl (scs M) _ _ (fun w9 h9 => h9.blk) Try.underlying32 rfl hi0) hHeld ?_
          simp only [Act.put, List.setIfInBounds_toArray, List.set_cons_zero, List.set_cons_succ]
          refine takeAt 2 (some 38) (.int .i64 n) rfl rfl (by kernel_rfl) (by kernel_rfl) (by kernel_rfl) (fun _ _ _ h => h) (Or.inl ⟨by rfl, ?_⟩) hHeld ?_
          · intro w9 hS9
            go_simp
          simp only [Act.put, List.setIfInBounds_toArray, List.set_cons_zero, List.set_cons_succ]
          refine takeAt 5 (some 41) (.agg (scs M)) rfl rfl (by kernel_rfl) (by kernel_rfl) (by kernel_rfl) (fun _ _ _ h => h) (yieldsIf_load_row (by rfl) _ _ rfl w.heap.size rfl (scs M) _ _ (fun w9 h9 => h9.blk) Try.underlying32 rfl hi0) hHeld ?_
          simp only [Act.put, List.setIfInBounds_toArray, List.set_cons_zero, List.set_cons_succ]
          refine takeAt 6 (some 42) (.agg (scs M)) rfl rfl (by kernel_rfl) (by kernel_rfl) (by kernel_rfl) (fun _ _ _ h => h) (yieldsIf_load_row (by rfl) _ _ rfl w.heap.size rfl (scs M) _ _ (fun w9 h9 => h9.blk) Try.underlying32 rfl hi0) hHeld ?_
          simp only [Act.put, List.setIfInBounds_toArray, List.set_cons_zero, List.set_cons_succ]
          refine takeAt 7 (some 43) (.int .i64 n) rfl rfl (by kernel_rfl) (by kernel_rfl) (by kernel_rfl) (fun _ _ _ h => h) (Or.inl ⟨by rfl, ?_⟩) hHeld ?_
          · intro w9 hS9
            go_simp
          simp only [Act.put, List.setIfInBounds_toArray, List.set_cons_zero, List.set_cons_succ]
          refine wpAnyH_ready (rs := [3]) (by kernel_rfl) (by simp) (AllReadyH.cons rfl (fun K hK => ?_) AllReadyH.nil)
          go_simp
          refine (rAp.out _ hHeld).mono ?_
          rintro e w1 ⟨A1, c1, rfl, hr1, hb1⟩
          go_wp2_with fail
          refine hK.out _ _ (hHeld.keep hb1) (fun hHeld => ?_)
          clear hK
          try simp only [Act.put, List.setIfInBounds_toArray, List.set_cons_zero, List.set_cons_succ]
          refine wpAnyH_ready (rs := [4]) (by kernel_rfl) (by simp) (AllReadyH.cons rfl (fun K hK => ?_) AllReadyH.nil)
          go_simp
          refine (cWi.out _ _ _ hHeld hr1).mono ?_
          rintro e w2 ⟨A2, c2, rfl, hr2, hb2⟩
          go_wp2_with fail
          refine hK.out _ _ (hHeld.keep hb2) (fun hHeld => ?_)
          clear hK
          try simp only [Act.put, List.setIfInBounds_toArray, List.set_cons_zero, List.set_cons_succ]
          refine wpAnyH_ready (rs := [8]) (by kernel_rfl) (by simp) (AllReadyH.cons rfl (fun K hK => ?_) AllReadyH.nil)
          go_simp
          refine (rAp.out _ hHeld).mono ?_
          rintro e w3 ⟨A3, c3, rfl, hr3, hb3⟩
          go_wp2_with fail
          refine hK.out _ _ (hHeld.keep hb3) (fun hHeld => ?_)
          clear hK
          try simp only [Act.put, List.setIfInBounds_toArray, List.set_cons_zero, List.set_cons_succ]
          refine wpAnyH_ready (rs := [9]) (by kernel_rfl) (by simp) (AllReadyH.cons rfl (fun K hK => ?_) AllReadyH.nil)
          go_simp
          refine (rWi.out _ _ _ hHeld hr3).mono ?_
          rintro e w4 ⟨A4, c4, rfl, hr4, hb4⟩
          go_wp2_with fail
          refine hK.out _ _ (hHeld.keep hb4) (fun hHeld => ?_)
          clear hK
          try simp only [Act.put, List.setIfInBounds_toArray, List.set_cons_zero, List.set_cons_succ]
          refine wpAnyH_ready (rs := [10]) (by kernel_rfl) (by simp) (AllReadyH.cons rfl (fun K hK => ?_) AllReadyH.nil)
          go_simp
          refine (ints_any A2 A4 c2 c4 ns _ (by omega) ((hr2.below hb3).below hb4) hr4).mono ?_
          rintro e w5 ⟨rfl, q, rfl⟩
          go_wp2_with fail
          refine hK.out _ _ (hHeld.drewN q) (fun hHeld => ?_)
          clear hK
          try simp only [Act.put, List.setIfInBounds_toArray, List.set_cons_zero, List.set_cons_succ]
          refine takeAt 11 (some 47) (.bool false) rfl rfl (by kernel_rfl) (by kernel_rfl) (by kernel_rfl) (fun _ _ _ h => h) (Or.inl ⟨by rfl, ?_⟩) hHeld ?_
          · intro w9 hS9
            go_simp
          simp only [Act.put, List.setIfInBounds_toArray, List.set_cons_zero, List.set_cons_succ]
          refine wpAnyH_done (by kernel_rfl) ?_ _
          go_wp2_with fail
          go_meet
          exact ⟨rfl, hHeld⟩
        case rest =>
          obtain ⟨rfl, hGd⟩ := hcut
          go_wp2
          go_roundw
          case rel => exact ⟨j + 1, by omega, by rw [HN.out]; congr 1; omega, hGd⟩
          case measure => simp [intOf]; omega
    · obtain rfl : j = 6 := by omega
      go_wp2
      go_ret
      exact ⟨rfl, hG.bel⟩
end Go.Proofs.Ytpbgfiaaechiaaa
