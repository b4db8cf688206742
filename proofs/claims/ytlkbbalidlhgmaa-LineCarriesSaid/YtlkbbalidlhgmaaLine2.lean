/-
  The line: Add, take and Carry.
-/
import Derived.Test.YtlkbbalidlhgmaaLine
import Derived.BigRegion
namespace Go.Proofs.Ytlkbbalidlhgmaa
open Go.RowKit
set_option linter.unusedVariables false

theorem add_nil (v : Value) (w : World) : Calls Try.prog 11 #[.pointer none, v] w fun e w' => e = .returned (.tuple #[]) ∧ w = w' := by
  go_enter Try.func11, Try.ntmps11
  go_wp2
  go_end0
  exact ⟨rfl, rfl⟩

theorem add_any (g : Nat) (v : Value) (ls : List Lk) (cnt : Int) (A : Option Addr) (c : Nat) (xs : List Lk) (w : World) (h : LineAt w g v ls cnt) (hr : RC w A (lv xs)) (hl : ls.length ≤ 1048576) (hx : xs.length ≤ 1048576) :
    Calls Try.prog 11 #[.pointer (some ⟨g, 0, none⟩), .slice A xs.length c] w fun e w' => e = .returned (.tuple #[]) ∧
      ∃ v', LineAt w' g v' (ls ++ xs) cnt ∧ (v'.ownBlock = v.ownBlock ∨ ∃ k, v'.ownBlock = some k ∧ w.heap.size ≤ k) ∧ Only g v.ownBlock w w' := by
  obtain ⟨hB, hh, hne⟩ := h
  obtain ⟨A0, c0, hv, hc0, hr0⟩ := hh.reads
  subst hv
  have g0 : w.cell? ⟨g, 0, none⟩ = some (.slice A0 ls.length c0) := hB.cell 0
  have hT := linkT
  have HV := Lib.hid (lv_length xs)
  go_enter Try.func11, Try.ntmps11
  go_wp2_with (at_builtin; refine wpList_append_held rfl hT (.tmp 10) (.tmp 11) rfl rfl rfl hh hr HV.out (lv_one xs) (by omega) ?_; intro v2 w2 hh2 hg2 ho2; have hB2 : Blk w2 g 46 _ := (hg2.block g hB.size (fun e => hne e.symm)).trans hB; have c2 := hB2.cell 0; have f2 := hB2.free 0; obtain ⟨A2, c2', rfl, hc2, hr2⟩ := hh2.reads)
  go_end0
  refine ⟨rfl, .slice A2 (ls.length + xs.length) c2', ⟨?_, ?_, ?_⟩, ho2, ((Only.refl g _ w).grown hg2).put 0 _⟩
  · exact hB2.put 0 _
  · rw [List.length_append, lv_append]
    refine hh2.keep (by simp [World.setCell]) fun k hk => Below.heap_setCell _ _ _ _ (fun e => ?_)
    have e' : k = g := e
    rw [e'] at hk
    rcases ho2 with h | ⟨k', h, hk'⟩
    · exact hne (h.symm.trans hk)
    · have h3 := h.symm.trans hk
      injection h3 with h3
      have h4 := hB.size
      omega
  · intro e
    rcases ho2 with h | ⟨k', h, hk'⟩
    · exact hne (h.symm.trans e)
    · have h3 := h.symm.trans e
      injection h3 with h3
      have h4 := hB.size
      omega

/-- The first of what happens, or nothing. -/
def head1 (ls : List Lk) : Lk := ls.headD ⟨false, 0⟩

theorem link_info : (Try.prog.info? 24).map (·.size) = some 2 := by kernel_rfl

theorem take_none (g : Nat) (v : Value) (cnt : Int) (w : World) (h : LineAt w g v [] cnt) :
    Calls Try.prog 17 #[.pointer (some ⟨g, 0, none⟩)] w fun e w' => e = .returned (.agg #[.bool false, .int .i64 0]) ∧ Below w.heap.size w w' := by
  obtain ⟨hB, hh, hne⟩ := h
  obtain ⟨A0, c0, hv, hc0, hr0⟩ := hh.reads
  subst hv
  have g0 : w.cell? ⟨g, 0, none⟩ = some (.slice A0 0 c0) := hB.cell 0
  have hg := hB.size
  go_enter Try.func17, Try.ntmps17
  go_wp2
  exact bodyPost_ret (results_cell_row rfl _ _ w.heap.size _ _ _ _ rfl (Blk.made w _ _).out Try.underlying24 rfl link_info) rfl ⟨rfl, (Below.refl _ _).alloc (Nat.le_refl _) _⟩

theorem blk_first {w : World} {p : Addr} {u : Value} {t : TypeId} {cs : Array Value} (o : Obj) : Blk (((w.setCell p u).alloc (.cells cs t)).alloc o) w.heap.size t cs := by
  have h := (Blk.made (w.setCell p u) t cs).alloc o
  have e : (w.setCell p u).heap.size = w.heap.size := by simp [World.setCell]
  rwa [e] at h

theorem take_one (g : Nat) (v : Value) (l : Lk) (ls : List Lk) (cnt : Int) (w : World) (h : LineAt w g v (l :: ls) cnt) (hl : ls.length ≤ 1048576) :
    Calls Try.prog 17 #[.pointer (some ⟨g, 0, none⟩)] w fun e w' => e = .returned (.agg #[.bool l.lost, .int .i64 l.flip]) ∧
      ∃ v', LineAt w' g v' ls cnt ∧ v'.ownBlock = v.ownBlock ∧ Only g none w w' := by
  obtain ⟨hB, hh, hne⟩ := h
  obtain ⟨A0, c0, hv, hc0, hr0⟩ := hh.reads
  obtain ⟨b, off, rfl, hx⟩ := hr0.at_ (by simp [lv])
  subst hv
  have g0 : w.cell? ⟨g, 0, none⟩ = some (.slice (some ⟨b, off, none⟩) (ls.length + 1) c0) := hB.cell 0
  have f0 := hB.free 0
  have hg := hB.size
  have x0 : w.cell? ⟨b, off, none⟩ = some (.bool l.lost) := hx 0 (by simp [lv])
  have x1 : w.cell? ⟨b, off + 1, none⟩ = some (.int .i64 l.flip) := hx 1 (by simp [lv])
  have hb := cell?_lt x0
  have hc1 : ls.length + 1 ≤ c0 := hc0
  have hE := (Only.refl g none w).put 0
  have hlt := hh.lt b rfl
  have hbg : g ≠ b := fun e => hne (by rw [e]; rfl)
  rcases ls with _ | ⟨l2, ls⟩
  · go_enter Try.func17, Try.ntmps17
    go_wp2
    refine bodyPost_ret (results_cell_row rfl _ _ w.heap.size _ _ _ _ rfl (blk_first _).out Try.underlying24 rfl link_info) rfl ⟨rfl, _, ⟨(((hB.put 0 _).alloc _).alloc _), .inr ⟨b, off, rfl, by simp [World.setCell]; omega, rfl, fun j hj => by simp [lv] at hj⟩, fun e => hne e⟩, rfl, ((hE _).alloc _).alloc _⟩
  · have hx2 : ∀ j, (hj : j < (lv (l2 :: ls)).length) → w.cell? ⟨b, off + 2 + j, none⟩ = some (lv (l2 :: ls))[j] := fun j hj => by
      have := hx (2 + j) (by rw [lv_cons]; simp; omega)
      rw [← Nat.add_assoc] at this
      rw [this]
      simp only [lv_cons l]
      congr 1
      rw [List.getElem_cons, dif_neg (by omega)]
      rw [List.getElem_cons, dif_neg (by omega)]
      congr 1
      omega
    have HX := Lib.hid hx2
    have hc2 : ls.length + 1 + 1 ≤ c0 := hc0
    have hl2 : ls.length + 1 ≤ 1048576 := hl
    clear hx2 hx hr0 hc1 hl
    go_enter Try.func17, Try.ntmps17
    go_wp2
    refine bodyPost_ret (results_cell_row rfl _ _ w.heap.size _ _ _ _ rfl (blk_first _).out Try.underlying24 rfl link_info) rfl ⟨rfl, _, ⟨(((hB.put 0 _).alloc _).alloc _), .inr ⟨b, off + 2, rfl, by simp [World.setCell]; omega, lv_length _, fun j hj => ?_⟩, fun e => hne e⟩, rfl, ((hE _).alloc _).alloc _⟩
    have hj' := HX.out j hj
    rw [← hj']
    rw [World.cell?_alloc_past _ _ _ (by simp [World.setCell]; omega), World.cell?_alloc_past _ _ _ (by simp [World.setCell]; omega), World.cell?_setCell_other _ _ _ _ (fun e => hbg (by injection e))]
end Go.Proofs.Ytlkbbalidlhgmaa
