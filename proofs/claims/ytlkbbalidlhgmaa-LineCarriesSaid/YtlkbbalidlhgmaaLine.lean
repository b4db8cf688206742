/-
  The line: its memory, and what New, Left, Count, Add and the copies of slices do.
-/
import Derived.Test.YtlkbbalidlhgmaaGen
namespace Go.Proofs.Ytlkbbalidlhgmaa
open Go.RowKit
set_option linter.unusedVariables false

/-- What happens to a transmission. -/
structure Lk where
  lost : Bool
  flip : Int
/-- The cells of what happens. -/
def lv (ls : List Lk) : List Value := ls.flatMap fun l => [.bool l.lost, .int .i64 l.flip]
theorem lv_length (ls : List Lk) : (lv ls).length = ls.length * 2 := by
  induction ls with
  | nil => rfl
  | cons l ls ih => simp [lv] at ih ⊢; omega
theorem lv_cons (l : Lk) (ls : List Lk) : lv (l :: ls) = .bool l.lost :: .int .i64 l.flip :: lv ls := rfl
theorem lv_append (xs ys : List Lk) : lv (xs ++ ys) = lv xs ++ lv ys := by simp [lv]
theorem lv_one (ls : List Lk) : ∀ u ∈ lv ls, u.oneCell' = true := by
  intro u hu
  simp only [lv, List.mem_flatMap] at hu
  obtain ⟨l, _, hl⟩ := hu
  simp at hl
  rcases hl with rfl | rfl <;> rfl

theorem linkT : SliceT Try.prog 28 24 (.agg #[.bool false, .int .i64 0]) 2 16 := ⟨Try.underlying28, by kernel_rfl, rfl, by omega, by omega⟩
theorem byteT : SliceT Try.prog 22 5 (.int .u8 0) 1 1 := ⟨Try.underlying22, by kernel_rfl, rfl, by omega, by omega⟩

theorem ret_slc {A : Option Addr} {n m c : Nat} (h : n = m) : Ending.returned (.slice A n c) = .returned (.slice A m c) := by rw [h]
/-- The copy of a slice of links. -/
theorem cloneL_any (A : Option Addr) (c : Nat) (ls : List Lk) (w : World) (hl : ls.length ≤ 1048576) (hr : RC w A (lv ls)) :
    Calls Try.prog 15 #[.slice A ls.length c] w fun e w' =>
      ∃ v, e = .returned v ∧ w'.ownsRow w.heap.size 24 2 v ls.length (lv ls) ∧ Below w.heap.size w w' := by
  cases A with
  | none =>
    have h0 : ls = [] := by
      rcases ls with _ | ⟨l, ls⟩
      · rfl
      · obtain ⟨_, _, hA, _⟩ := hr (by simp [lv])
        cases hA
    subst h0
    have he := fun w => Lib.run_eql_slice_nil (P := Try.prog) w 28 _ none 0 c 0 0 Try.underlying28
    go_enter Try.func15, Try.ntmps15
    go_wp2
    go_ret
    exact ⟨_, rfl, World.ownsRow_nil _ _ _ _, Below.refl _ _⟩
  | some ad =>
    have hT := linkT
    have he := fun w => Lib.run_eql_slice_nil (P := Try.prog) w 28 _ (some ad) ls.length c 0 0 Try.underlying28
    have hE : (w.alloc (.cells #[] 24)).ownsRow w.heap.size 24 2 (.slice (some ⟨w.heap.size, 0, none⟩) 0 0) 0 [] := World.ownsRow_lit (size := 2) w #[] 0 (Nat.le_refl _) (by simp [maxLen]) rfl
    have hb := (Below.refl w.heap.size w).alloc (Nat.le_refl _) (.cells #[] 24)
    have hr' := hr.below hb
    have HV := Lib.hid (lv_length ls)
    go_enter Try.func15, Try.ntmps15
    go_wp2_with (at_builtin; refine wpList_append_cells rfl hT (.tmp 5) (.tmp 6) rfl rfl rfl hE hr' HV.out (lv_one ls) (by omega) (by simp) ?_; intro v2 w2 hown2 hb2 hg2)
    go_ret
    exact ⟨v2, rfl, by simpa using hown2, hb.trans hb2⟩

/-- The copy of a slice of bytes. -/
theorem cloneB_any (A : Option Addr) (c : Nat) (xs : List UInt8) (w : World) (hl : xs.length ≤ 1048576) (hr : RB w A xs) :
    Calls Try.prog 16 #[.slice A xs.length c] w fun e w' =>
      ∃ v, e = .returned v ∧ w'.ownsRow w.heap.size 5 1 v xs.length (bv xs) ∧ Below w.heap.size w w' := by
  have hrc := rb_iff.1 hr
  cases A with
  | none =>
    have h0 : xs = [] := by
      rcases xs with _ | ⟨l, ls⟩
      · rfl
      · obtain ⟨_, _, hA, _⟩ := hr (by simp)
        cases hA
    subst h0
    have he := fun w => Lib.run_eql_slice_nil (P := Try.prog) w 22 _ none 0 c 0 0 Try.underlying22
    go_enter Try.func16, Try.ntmps16
    go_wp2
    go_ret
    exact ⟨_, rfl, World.ownsRow_nil _ _ _ _, Below.refl _ _⟩
  | some ad =>
    have hT := byteT
    have he := fun w => Lib.run_eql_slice_nil (P := Try.prog) w 22 _ (some ad) xs.length c 0 0 Try.underlying22
    have hE : (w.alloc (.cells #[] 5)).ownsRow w.heap.size 5 1 (.slice (some ⟨w.heap.size, 0, none⟩) 0 0) 0 [] := World.ownsRow_lit (size := 1) w #[] 0 (Nat.le_refl _) (by simp [maxLen]) rfl
    have hb := (Below.refl w.heap.size w).alloc (Nat.le_refl _) (.cells #[] 5)
    have hr' := hrc.below hb
    have HV : Hid ((bv xs).length = xs.length * 1) := by show _ = _; rw [bv_length, Nat.mul_one]
    go_enter Try.func16, Try.ntmps16
    go_wp2_with (at_builtin; refine wpList_append_cells rfl hT (.tmp 5) (.tmp 6) rfl rfl rfl hE hr' HV.out (bv_one xs) (by omega) (by simp) ?_; intro v2 w2 hown2 hb2 hg2)
    go_ret
    exact ⟨v2, rfl, by simpa using hown2, hb.trans hb2⟩

/-- Only block g, the block ob and new blocks may have changed. -/
structure Only (g : Nat) (ob : Option Nat) (w w' : World) : Prop where
  os : w'.os = w.os
  tape : w'.tape = w.tape
  output : w'.output = w.output
  size : w.heap.size ≤ w'.heap.size
  block : ∀ k, k < w.heap.size → k ≠ g → some k ≠ ob → w'.heap[k]? = w.heap[k]?
theorem Only.of_below {g : Nat} {ob : Option Nat} {w w' : World} (h : Below w.heap.size w w') : Only g ob w w' := ⟨h.os, h.tape, h.output, h.size, fun k hk _ _ => h.block k hk⟩
theorem Only.refl (g : Nat) (ob : Option Nat) (w : World) : Only g ob w w := ⟨rfl, rfl, rfl, Nat.le_refl _, fun _ _ _ _ => rfl⟩
theorem Only.trans {g : Nat} {ob : Option Nat} {a b c : World} (h : Only g ob a b) (k : Only g ob b c) : Only g ob a c :=
  ⟨k.os.trans h.os, k.tape.trans h.tape, k.output.trans h.output, Nat.le_trans h.size k.size, fun i hi h1 h2 => (k.block i (Nat.lt_of_lt_of_le hi h.size) h1 h2).trans (h.block i hi h1 h2)⟩
theorem Only.alloc {g : Nat} {ob : Option Nat} {a w : World} (h : Only g ob a w) (o : Obj) : Only g ob a (w.alloc o) :=
  h.trans (Only.of_below ((Below.refl _ _).alloc (Nat.le_refl _) o))
theorem Only.drewN {g : Nat} {ob : Option Nat} {a w : World} (h : Only g ob a w) (n : Nat) : Only g ob a (w.drewN n) := ⟨h.os, h.tape, h.output, h.size, h.block⟩
theorem Only.put {g : Nat} {ob : Option Nat} {a w : World} (h : Only g ob a w) (i : Nat) (u : Value) : Only g ob a (w.setCell ⟨g, i, none⟩ u) :=
  h.trans ⟨rfl, rfl, rfl, by simp [World.setCell], fun k _ hk _ => Below.heap_setCell _ _ _ _ hk⟩
theorem Only.grown {g : Nat} {ob : Option Nat} {a w w' : World} (h : Only g ob a w) (hg : w.grownBy w' ob) : Only g ob a w' :=
  h.trans ⟨hg.os, hg.tape, hg.output, hg.size, fun k hk _ h2 => hg.block k hk h2⟩
theorem Only.below {g base : Nat} {ob : Option Nat} {w w' : World} (h : Only g ob w w') (hg : base ≤ g) (ho : ∀ k, ob = some k → base ≤ k) (hb : base ≤ w.heap.size) : Below base w w' :=
  ⟨h.os, h.tape, h.output, h.size, fun k hk => h.block k (by omega) (by omega) (fun e => by have := ho k e.symm; omega)⟩
theorem Only.rc {g : Nat} {ob : Option Nat} {w w' : World} {A : Option Addr} {cs : List Value} (h : Only g ob w w') (hr : RC w A cs) (h1 : cs ≠ [] → A.map (·.block) ≠ some g) (h2 : cs ≠ [] → A.map (·.block) ≠ ob) : RC w' A cs := by
  intro hne
  obtain ⟨b, off, rfl, hc⟩ := hr hne
  refine ⟨b, off, rfl, fun j hj => ?_⟩
  exact (World.cell?_of_block (h.block b (cell?_lt (hc j hj)) (fun e => h1 hne (by rw [e]; rfl)) (h2 hne))).trans (hc j hj)

/-- Block g is a line to whose next transmissions ls happens, and that has carried cnt; v is its slice. -/
def LineAt (w : World) (g : Nat) (v : Value) (ls : List Lk) (cnt : Int) : Prop :=
  Blk w g 46 #[v, .int .i64 cnt] ∧ Held 24 2 w v ls.length (lv ls) ∧ v.ownBlock ≠ some g

theorem new_any (A : Option Addr) (c : Nat) (ls : List Lk) (w : World) (hl : ls.length ≤ 1048576) (hr : RC w A (lv ls)) :
    Calls Try.prog 7 #[.slice A ls.length c] w fun e w' =>
      ∃ g v, e = .returned (.pointer (some ⟨g, 0, none⟩)) ∧ w.heap.size ≤ g ∧ LineAt w' g v ls 0 ∧ (∀ k, v.ownBlock = some k → w.heap.size ≤ k) ∧ Below w.heap.size w w' := by
  go_enter Try.func7, Try.ntmps7
  go_wp2_with fail
  refine (cloneL_any A c ls w hl hr).mono ?_
  rintro e w1 ⟨v, rfl, hown, hb⟩
  obtain ⟨A1, c1, rfl, hc1, hr1⟩ := owns_reads hown
  go_wp2
  go_ret
  have hlt := fun k hk => hown.lt k hk
  refine ⟨_, _, rfl, hb.size, ⟨Blk.made _ _ _, .inl ?_, ?_⟩, fun k hk => (hlt k hk).1, hb.alloc hb.size _⟩
  · have h2 := World.ownsRow.alloc hown (.cells #[.slice A1 ls.length c1, .int .i64 0] 46)
    refine ⟨h2.1, ?_⟩
    rcases h2.2 with h | ⟨g, cap, cur, hv, _, hrest⟩
    · exact .inl h
    · exact .inr ⟨g, cap, cur, hv, Nat.zero_le _, hrest⟩
  · intro h
    have := (hlt _ h).2
    omega

theorem left_any (g : Nat) (v : Value) (ls : List Lk) (cnt : Int) (w : World) (h : LineAt w g v ls cnt) :
    Calls Try.prog 13 #[.pointer (some ⟨g, 0, none⟩)] w fun e w' => e = .returned (.int .i64 ls.length) ∧ w = w' := by
  obtain ⟨hB, hh, hne⟩ := h
  obtain ⟨A, c, rfl, hc, hr⟩ := hh.reads
  have c0 : w.cell? ⟨g, 0, none⟩ = some (.slice A ls.length c) := hB.cell 0
  go_enter Try.func13, Try.ntmps13
  go_wp2
  go_ret
  exact ⟨rfl, rfl⟩
theorem left_nil (w : World) : Calls Try.prog 13 #[.pointer none] w fun e w' => e = .returned (.int .i64 0) ∧ w = w' := by
  go_enter Try.func13, Try.ntmps13
  go_wp2
  go_ret
  exact ⟨rfl, rfl⟩
theorem count_any (g : Nat) (v : Value) (ls : List Lk) (cnt : Int) (w : World) (h : LineAt w g v ls cnt) :
    Calls Try.prog 14 #[.pointer (some ⟨g, 0, none⟩)] w fun e w' => e = .returned (.int .i64 cnt) ∧ w = w' := by
  obtain ⟨hB, hh, hne⟩ := h
  have c1 : w.cell? ⟨g, 1, none⟩ = some (.int .i64 cnt) := hB.cell 1
  go_enter Try.func14, Try.ntmps14
  go_wp2
  go_ret
  exact ⟨rfl, rfl⟩
theorem count_nil (w : World) : Calls Try.prog 14 #[.pointer none] w fun e w' => e = .returned (.int .i64 0) ∧ w = w' := by
  go_enter Try.func14, Try.ntmps14
  go_wp2
  go_ret
  exact ⟨rfl, rfl⟩
end Go.Proofs.Ytlkbbalidlhgmaa
