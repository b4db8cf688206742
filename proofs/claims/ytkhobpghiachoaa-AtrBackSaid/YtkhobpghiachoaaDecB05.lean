/-
  Decode: small laws; bytes that are none.
-/
import Derived.Test.YtkhobpghiachoaaCatch05
namespace Go.Proofs.Ytkhobpghiachoaa
open Go.RowKit Crc
set_option linter.unusedVariables false

theorem RC.set_far {w : World} {A : Option Addr} {cs : List Value} {rb : Nat} (h : RC w A cs) (hf : A.map (·.block) ≠ some rb) (i : Nat) (u : Value) : RC (w.setCell ⟨rb, i, none⟩ u) A cs := by
  intro hne
  obtain ⟨b, off, rfl, hc⟩ := h hne
  have hb : b ≠ rb := fun e => hf (by rw [e]; rfl)
  exact ⟨b, off, rfl, fun k hk => (World.cell?_of_block (Below.heap_setCell _ _ _ _ hb)).trans (hc k hk)⟩
theorem rdG_g {g prot : Int} {t : Nat} : ∀ (ks : List Nat) (bs : List If) (r : List UInt8) (bs' : List If) (r' : List UInt8), rdG g prot t ks bs r = some (bs', r') → ∀ x ∈ bs', x ∈ bs ∨ x.g = g
  | [], bs, r, bs', r', h => by
    injection h with h
    injection h with h1 h2
    subst h1 h2
    exact fun x hx => .inl hx
  | k :: ks, bs, r, bs', r', h => by
    unfold rdG at h
    split at h
    · split at h
      · cases h
      · rename_i v r2
        intro x hx
        rcases rdG_g ks _ _ _ _ h x hx with h1 | h1
        · rcases List.mem_append.1 h1 with h2 | h2
          · exact .inl h2
          · rw [List.mem_singleton.1 h2]
            exact .inr rfl
        · exact .inr h1
    · exact rdG_g ks _ _ _ _ h
theorem rdA_bd : ∀ (f : Nat) (g : Int) (t : Nat) (prot : Int) (bs : List If) (ps : List Int) (sm : Bool) (r : List UInt8) (G : Grps), rdA f g t prot bs ps sm r = some G →
    G.bs.length + G.r.length ≤ bs.length + r.length ∧ G.ps.length ≤ ps.length + f ∧ ((∀ x ∈ bs, x.g ≤ g + f) → ∀ x ∈ G.bs, x.g ≤ g + f)
  | 0, _, _, _, _, _, _, _, _, h => by cases h
  | f + 1, g, t, prot, bs, ps, sm, r, G, h => by
    unfold rdA at h
    split at h
    · cases h
    · rename_i bs' r' hr
      obtain ⟨p, e1, e2⟩ := rdG_suffix _ _ _ _ _ hr
      have hg := rdG_g _ _ _ _ _ hr
      have el : r.length = p.length + r'.length := by rw [e1, List.length_append]
      split at h
      · injection h with h
        subst h
        refine ⟨by simp only; omega, by simp only; omega, fun hb x hx => ?_⟩
        rcases hg x hx with h1 | h1
        · exact hb x h1
        · push_cast; omega
      · split at h
        · cases h
        · rename_i td r''
          obtain ⟨h1, h2, h3⟩ := rdA_bd f _ _ _ _ _ _ _ _ h
          simp only [List.length_cons] at el
          refine ⟨by omega, ?_, fun hb => ?_⟩
          · split at h2
            · omega
            · simp at h2; omega
          · intro x hx
            have := h3 (fun y hy => by
              rcases hg y hy with h1 | h1
              · have := hb y h1; push_cast at this; omega
              · omega) x hx
            push_cast
            omega
theorem whole_bd (b : List UInt8) : (wholeS b).bs.length ≤ 33 ∧ (wholeS b).ps.length ≤ 41 ∧ ∀ x ∈ (wholeS b).bs, x.g ≤ 41 := by
  have hbad : ∀ k, (Dec.bad k).bs.length ≤ 33 ∧ (Dec.bad k).ps.length ≤ 41 ∧ ∀ x ∈ (Dec.bad k).bs, x.g ≤ 41 := fun k => by simp [Dec.bad]
  unfold wholeS
  split
  · exact hbad _
  · rename_i h33
    rcases b with _ | ⟨f, _ | ⟨h, r⟩⟩
    · exact hbad _
    · simp only
      split <;> exact hbad _
    · simp only
      split
      · split
        · exact hbad _
        · rename_i G hG
          obtain ⟨h1, h2, h3⟩ := rdA_bd _ _ _ _ _ _ _ _ _ hG
          have h4 := h3 (by simp)
          have hl : G.bs.length ≤ 33 := by simp at h33 h1; omega
          have hp : (if G.ps = [] then [0] else G.ps).length ≤ 41 := by
            split
            · simp
            · simp at h2; omega
          have hk : ∀ q, (⟨0, decide (f = 63), G.bs, if G.ps = [] then [0] else G.ps, q⟩ : Dec).bs.length ≤ 33 ∧ (⟨0, decide (f = 63), G.bs, if G.ps = [] then [0] else G.ps, q⟩ : Dec).ps.length ≤ 41 ∧ ∀ x ∈ (⟨0, decide (f = 63), G.bs, if G.ps = [] then [0] else G.ps, q⟩ : Dec).bs, x.g ≤ 41 := fun q => ⟨hl, hp, h4⟩
          unfold wholeE
          split
          · exact hbad _
          · split
            · split
              · exact hbad _
              · split
                · exact hk _
                · exact hbad _
            · exact hk _
      · exact hbad _
theorem chkF_addr (d : Dec) (bA : Option Addr) (bc : Nat) (pA : Option Addr) (pc : Nat) (hA : Option Addr) (hc : Nat) : chkF ⟨d.inv, bA, bc, d.bs, pA, pc, d.ps, hA, hc, d.hs⟩ = chkF d.atr ∧ encF ⟨d.inv, bA, bc, d.bs, pA, pc, d.ps, hA, hc, d.hs⟩ = encF d.atr := by
  have e2 : encF ⟨d.inv, bA, bc, d.bs, pA, pc, d.ps, hA, hc, d.hs⟩ = encF d.atr := by unfold encF; rfl
  refine ⟨?_, e2⟩
  unfold chkF
  rw [e2]
  rfl

theorem results_c2 (tmps : Array Value) (w : World) (g eb : Nat) (cs : Array Value) (fr : Nat × Nat) (k : Int)
    (hp : tmps.getD 2 undef = .pointer (some ⟨g, 0, none⟩)) (hq : tmps.getD 3 undef = .pointer (some ⟨eb, 0, none⟩)) (hg : w.heap[g]? = some (.cells cs 27 fr)) (hk : w.cell? ⟨eb, 0, none⟩ = some (.int .i64 k)) (h4 : cs.size = 4) :
    (results Try.f13 tmps).run Try.prog w = .ok (.tuple #[.agg cs, .int .i64 k]) w := by
  have hp' : tmps[2]?.getD undef = .pointer (some ⟨g, 0, none⟩) := by simpa using hp
  have hq' : tmps[3]?.getD undef = .pointer (some ⟨eb, 0, none⟩) := by simpa using hq
  have hl := run_loadVar_row (P := Try.prog) w g 27 27 cs fr _ hg Try.underlying27 rfl (by rw [h4]; exact atr_info)
  have hl2 : Sem.run Try.prog (loadVar 28 ⟨eb, 0, none⟩) w = .ok (.int .i64 k) w := by simp [go_sem, hk]
  simp [results, hp', hq', asAddr, hl, hl2]
theorem wholeS_bad (b : List UInt8) (h : (wholeS b).e ≠ 0) : wholeS b = .bad (wholeS b).e := by
  revert h
  unfold wholeS wholeE
  repeat' split
  all_goals simp [Dec.bad]
/-- What Decode hands back. -/
def DRes (b : List UInt8) (w : World) (e : Ending) (w' : World) : Prop :=
  Below w.heap.size w w' ∧ ∃ A1 c1 A2 c2 A3 c3, e = .returned (.tuple #[.agg #[.bool (decS b).inv, .slice A1 (decS b).bs.length c1, .slice A2 (decS b).ps.length c2, .slice A3 (decS b).hs.length c3], .int .i64 (decS b).e]) ∧
    RC w' A1 (ifv (decS b).bs) ∧ RC w' A2 (nv (decS b).ps) ∧ RB w' A3 (decS b).hs
theorem DRes.bad {b : List UInt8} {w w' : World} {k : Int} (hD : decS b = .bad k) (hb : Below w.heap.size w w') : DRes b w (.returned (.tuple #[.agg #[.bool false, .slice none 0 0, .slice none 0 0, .slice none 0 0], .int .i64 k])) w' := by
  refine ⟨hb, none, 0, none, 0, none, 0, ?_, ?_, ?_, ?_⟩
  · rw [hD]
    rfl
  · rw [hD]
    intro h
    exact absurd rfl h
  · rw [hD]
    intro h
    exact absurd rfl h
  · rw [hD]
    intro h
    exact absurd rfl h
/-- The error's branch: the result is laid bare. -/
theorem DRes.caught {b : List UInt8} {w W : World} {k k0 : Int} {a0 a1 a2 a3 : Value} (hD : decS b = .bad k) (hb : Below w.heap.size w W) (k0' : Blk W w.heap.size 27 #[a0, a1, a2, a3]) (k1' : Blk W (w.heap.size + 1) 28 #[.int .i64 k0]) (tmps : Array Value)
    (hp : tmps.getD 2 undef = .pointer (some ⟨w.heap.size, 0, none⟩)) (hq : tmps.getD 3 undef = .pointer (some ⟨w.heap.size + 1, 0, none⟩)) :
    ∃ v, (results Try.f13 tmps).run Try.prog (((((W.setCell ⟨w.heap.size, 0, none⟩ (.bool false)).setCell ⟨w.heap.size, 1, none⟩ (.slice none 0 0)).setCell ⟨w.heap.size, 2, none⟩ (.slice none 0 0)).setCell ⟨w.heap.size, 3, none⟩ (.slice none 0 0)).setCell ⟨w.heap.size + 1, 0, none⟩ (.int .i64 k)) = .ok v (((((W.setCell ⟨w.heap.size, 0, none⟩ (.bool false)).setCell ⟨w.heap.size, 1, none⟩ (.slice none 0 0)).setCell ⟨w.heap.size, 2, none⟩ (.slice none 0 0)).setCell ⟨w.heap.size, 3, none⟩ (.slice none 0 0)).setCell ⟨w.heap.size + 1, 0, none⟩ (.int .i64 k)) ∧
      DRes b w (.returned v) (((((W.setCell ⟨w.heap.size, 0, none⟩ (.bool false)).setCell ⟨w.heap.size, 1, none⟩ (.slice none 0 0)).setCell ⟨w.heap.size, 2, none⟩ (.slice none 0 0)).setCell ⟨w.heap.size, 3, none⟩ (.slice none 0 0)).setCell ⟨w.heap.size + 1, 0, none⟩ (.int .i64 k)) := by
  have kR := ((((k0'.put 0 (.bool false)).put 1 (.slice none 0 0)).put 2 (.slice none 0 0)).put 3 (.slice none 0 0)).other (p := ⟨w.heap.size + 1, 0, none⟩) (by simp) (.int .i64 k)
  have kE := (((((k1'.other (p := ⟨w.heap.size, 0, none⟩) (by simp) (.bool false)).other (p := ⟨w.heap.size, 1, none⟩) (by simp) (.slice none 0 0)).other (p := ⟨w.heap.size, 2, none⟩) (by simp) (.slice none 0 0)).other (p := ⟨w.heap.size, 3, none⟩) (by simp) (.slice none 0 0)).put 0 (.int .i64 k)).cell 0
  refine ⟨_, results_c2 _ _ w.heap.size (w.heap.size + 1) _ _ k hp hq kR.out kE rfl, DRes.bad hD ?_⟩
  exact ((((hb.setCell (p := ⟨w.heap.size, 0, none⟩) (Nat.le_refl _) _).setCell (p := ⟨w.heap.size, 1, none⟩) (Nat.le_refl _) _).setCell (p := ⟨w.heap.size, 2, none⟩) (Nat.le_refl _) _).setCell (p := ⟨w.heap.size, 3, none⟩) (Nat.le_refl _) _).setCell (p := ⟨w.heap.size + 1, 0, none⟩) (by simp) _
/-- The struct is stored: what it tells. -/
theorem stored4 {w W : World} {b : List UInt8} {A1 A2 A3 : Option Addr} {c1 c2 c3 : Nat} {a0 a1 a2 a3 : Value} {k0 : Int} (d : Dec) (hb : Below w.heap.size w W) (hk : Blk W w.heap.size 27 #[a0, a1, a2, a3]) (he : Blk W (w.heap.size + 1) 28 #[.int .i64 k0])
    (r1 : RC W A1 (ifv d.bs)) (r2 : RC W A2 (nv d.ps)) (r3 : RB W A3 d.hs) (hfar : ∀ z, (A1.map (·.block) = some z ∨ A2.map (·.block) = some z ∨ A3.map (·.block) = some z) → w.heap.size + 1 + 1 ≤ z) (hr : RB W none b → True) :
    ∃ W2, W2 = (((W.setCell ⟨w.heap.size, 0, none⟩ (.bool d.inv)).setCell ⟨w.heap.size, 1, none⟩ (.slice A1 d.bs.length c1)).setCell ⟨w.heap.size, 2, none⟩ (.slice A2 d.ps.length c2)).setCell ⟨w.heap.size, 3, none⟩ (.slice A3 d.hs.length c3) ∧
      Below w.heap.size w W2 ∧ Blk W2 w.heap.size 27 #[.bool d.inv, .slice A1 d.bs.length c1, .slice A2 d.ps.length c2, .slice A3 d.hs.length c3] ∧ Blk W2 (w.heap.size + 1) 28 #[.int .i64 k0] ∧ RC W2 A1 (ifv d.bs) ∧ RC W2 A2 (nv d.ps) ∧ RB W2 A3 d.hs := by
  have f1 : A1.map (·.block) ≠ some w.heap.size := fun e => by have := hfar _ (.inl e); omega
  have f2 : A2.map (·.block) ≠ some w.heap.size := fun e => by have := hfar _ (.inr (.inl e)); omega
  have f3 : A3.map (·.block) ≠ some w.heap.size := fun e => by have := hfar _ (.inr (.inr e)); omega
  refine ⟨_, rfl, ?_, ?_, ?_, ?_, ?_, ?_⟩
  · exact (((hb.setCell (p := ⟨w.heap.size, 0, none⟩) (Nat.le_refl _) _).setCell (p := ⟨w.heap.size, 1, none⟩) (Nat.le_refl _) _).setCell (p := ⟨w.heap.size, 2, none⟩) (Nat.le_refl _) _).setCell (p := ⟨w.heap.size, 3, none⟩) (Nat.le_refl _) _
  · exact (((hk.put 0 _).put 1 _).put 2 _).put 3 _
  · exact (((he.other (p := ⟨w.heap.size, 0, none⟩) (by simp) _).other (p := ⟨w.heap.size, 1, none⟩) (by simp) _).other (p := ⟨w.heap.size, 2, none⟩) (by simp) _).other (p := ⟨w.heap.size, 3, none⟩) (by simp) _
  · exact (((r1.set_far f1 _ _).set_far f1 _ _).set_far f1 _ _).set_far f1 _ _
  · exact (((r2.set_far f2 _ _).set_far f2 _ _).set_far f2 _ _).set_far f2 _ _
  · exact (((r3.set_far f3 _ _).set_far f3 _ _).set_far f3 _ _).set_far f3 _ _

/-! Bytes that are none, wherever their slice points. -/
theorem number_nil {rb : Nat} {A : Option Addr} {c : Nat} {w : World} (h : Blk w rb 52 #[.slice A 0 c]) :
    Calls Try.prog 47 #[.pointer (some ⟨rb, 0, none⟩)] w fun e w' => e = badP 5 ∧ w' = w := by
  have ht : Calls Try.prog 50 #[.pointer (some ⟨rb, 0, none⟩), .int .i64 1] w fun e w' => e = badP 5 ∧ w' = w := by
    have z' : w.cell? ⟨rb, 0, none⟩ = some (.slice A 0 c) := h.cell 0
    clear h
    go_enter Try.func50, Try.ntmps50
    go_wp2
    refine ⟨rfl, ?_⟩
    exact ⟨rfl, rfl⟩
  go_enter Try.func47, Try.ntmps47
  go_wp2_with fail
  refine ht.mono ?_
  rintro e w1 ⟨rfl, rfl⟩
  refine ⟨rfl, ?_⟩
  exact ⟨rfl, rfl⟩
theorem whole_none (rdb B : Nat) (A : Option Addr) (c : Nat) (w : World) (hk : Blk w rdb 52 #[.slice A 0 c]) (hB : B ≤ w.heap.size) :
    Calls Try.prog 32 #[.pointer (some ⟨rdb, 0, none⟩), .slice A 0 c] w (WRes [] B w) := by
  have hb0 := (Below.refl w.heap.size w).alloc (Nat.le_refl _) (.cells #[.bool false, .slice none 0 0, .slice none 0 0, .slice none 0 0] 27)
  have hk0 := hk.below hb0 hk.size
  have HZ : Hid (WRes [] B w (badP 5) (w.alloc (.cells #[.bool false, .slice none 0 0, .slice none 0 0, .slice none 0 0] 27))) := WRes.no (by unfold wholeS; simp) (by decide) (hb0.mono hB)
  go_enter Try.func32, Try.ntmps32
  go_wp2_with fail
  refine (number_nil hk0).mono ?_
  rintro e w1 ⟨rfl, rfl⟩
  refine ⟨rfl, ?_⟩
  exact HZ.out
end Go.Proofs.Ytkhobpghiachoaa
