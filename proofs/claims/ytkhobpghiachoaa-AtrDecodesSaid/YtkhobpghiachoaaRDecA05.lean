/-
  Reading an answer to reset, by the reference: its memory.
-/
import Derived.Test.YtkhobpghiachoaaDecB05
import Derived.Test.YtkhobpghiachoaaRChk05
namespace Go.Proofs.Ytkhobpghiachoaa
open Go.RowKit Crc
set_option linter.unusedVariables false

/-- The reference's memory: the result's block rb, the empty answer's nb, and the answer that is being made, in block ab; all made since the world w0. -/
structure Rn (w0 w : World) (rb nb ab : Nat) (inv : Bool) (v1 v2 v3 : Value) (bs : List If) (ps : List Int) : Prop where
  m : Mk w ab (ab + 1) inv v1 v2 v3 bs ps
  rz : Blk w rb 27 #[.bool false, .slice none 0 0, .slice none 0 0, .slice none 0 0]
  nz : Blk w nb 27 #[.bool false, .slice none 0 0, .slice none 0 0, .slice none 0 0]
  rlo : rb < ab
  nlo : nb < ab
  r0 : w0.heap.size ≤ rb
  n0 : w0.heap.size ≤ nb
  hi : ab + 1 ≤ w.heap.size
  bel : Below w0.heap.size w0 w
section
variable {w0 w w' w2 : World} {rb nb ab : Nat} {inv : Bool} {v1 v2 v3 v1' v2' : Value} {bs : List If} {ps : List Int} {b : List UInt8}
theorem Rn.below (h : Rn w0 w rb nb ab inv v1 v2 v3 bs ps) (hb : Below w.heap.size w w') : Rn w0 w' rb nb ab inv v1 v2 v3 bs ps :=
  ⟨h.m.below hb, h.rz.below hb h.rz.size, h.nz.below hb h.nz.size, h.rlo, h.nlo, h.r0, h.n0, Nat.le_trans h.hi hb.size, h.bel.trans (hb.mono h.bel.size)⟩
theorem Rn.app1 {x : If} (h : Rn w0 w rb nb ab inv v1 v2 v3 bs ps)
    (ho : w2.ownsRow (ab + 1) 47 4 v1' (bs.length + 1) (ifv bs ++ ifv [x])) (hb : Below (ab + 1) w w2) (hg : w.grownBy w2 v1.ownBlock) (hv : v1'.ownBlock = v1.ownBlock ∨ v1'.ownBlock = some w.heap.size) :
    w2.cell? ⟨ab, 1, none⟩ = some v1 ∧ w2.frozen? ⟨ab, 1, none⟩ = false ∧ Rn w0 (w2.setCell ⟨ab, 1, none⟩ v1') rb nb ab inv v1' v2 v3 (bs ++ [x]) ps := by
  have hm := h.m
  have hrl := h.rlo
  have hnl := h.nlo
  have hr0 := h.r0
  have hn0 := h.n0
  have hblk2 : Blk w2 ab 27 #[.bool inv, v1, v2, v3] := (hb.block ab hm.lo).trans hm.blk
  refine ⟨hblk2.cell 1, hblk2.free 1, ⟨⟨hblk2.put 1 v1', ?_, ?_, ?_, hm.lo⟩, ?_, ?_, hrl, hnl, hr0, hn0, ?_, ?_⟩⟩
  · rw [List.length_append, ifv_append]
    exact owns_keep ho (fun k hk => Below.heap_setCell _ _ _ _ (by have := (owns_lt ho k hk).1; simp; omega))
  · refine owns_keep hm.own2 (fun k hk => ?_)
    have hk2 := owns_lt hm.own2 k hk
    rw [Below.heap_setCell _ _ _ _ (by simp; omega)]
    exact hg.block k hk2.2 (fun e => hm.apart k e.symm hk)
  · intro k hk e
    have hk2 := owns_lt hm.own2 k e
    rcases hv with hv | hv
    · exact hm.apart k (by rw [← hv]; exact hk) e
    · rw [hk] at hv
      injection hv with hv
      omega
  · have h1 : Blk w2 rb 27 _ := (hb.block rb (by omega)).trans h.rz
    exact h1.other (by simp; omega) _
  · have h1 : Blk w2 nb 27 _ := (hb.block nb (by omega)).trans h.nz
    exact h1.other (by simp; omega) _
  · have z := hb.size
    have z2 := h.hi
    simp
    omega
  · exact (h.bel.trans (hb.mono (by omega))).setCell (p := ⟨ab, 1, none⟩) (by simp; omega) v1'
theorem Rn.app2 {p : Int} (h : Rn w0 w rb nb ab inv v1 v2 v3 bs ps)
    (ho : w2.ownsRow (ab + 1) 3 1 v2' (ps.length + 1) (nv ps ++ nv [p])) (hb : Below (ab + 1) w w2) (hg : w.grownBy w2 v2.ownBlock) (hv : v2'.ownBlock = v2.ownBlock ∨ v2'.ownBlock = some w.heap.size) :
    w2.cell? ⟨ab, 2, none⟩ = some v2 ∧ w2.frozen? ⟨ab, 2, none⟩ = false ∧ Rn w0 (w2.setCell ⟨ab, 2, none⟩ v2') rb nb ab inv v1 v2' v3 bs (ps ++ [p]) := by
  have hm := h.m
  have hrl := h.rlo
  have hnl := h.nlo
  have hr0 := h.r0
  have hn0 := h.n0
  have hblk2 : Blk w2 ab 27 #[.bool inv, v1, v2, v3] := (hb.block ab hm.lo).trans hm.blk
  have hnv : nv (ps ++ [p]) = nv ps ++ nv [p] := by unfold nv; rw [List.map_append]
  refine ⟨hblk2.cell 2, hblk2.free 2, ⟨⟨hblk2.put 2 v2', ?_, ?_, ?_, hm.lo⟩, ?_, ?_, hrl, hnl, hr0, hn0, ?_, ?_⟩⟩
  · refine owns_keep hm.own1 (fun k hk => ?_)
    have hk2 := owns_lt hm.own1 k hk
    rw [Below.heap_setCell _ _ _ _ (by simp; omega)]
    exact hg.block k hk2.2 (fun e => hm.apart k hk e.symm)
  · rw [List.length_append, hnv]
    exact owns_keep ho (fun k hk => Below.heap_setCell _ _ _ _ (by have := (owns_lt ho k hk).1; simp; omega))
  · intro k hk e
    have hk2 := owns_lt hm.own1 k hk
    rcases hv with hv | hv
    · exact hm.apart k hk (by rw [← hv]; exact e)
    · rw [e] at hv
      injection hv with hv
      omega
  · have h1 : Blk w2 rb 27 _ := (hb.block rb (by omega)).trans h.rz
    exact h1.other (by simp; omega) _
  · have h1 : Blk w2 nb 27 _ := (hb.block nb (by omega)).trans h.nz
    exact h1.other (by simp; omega) _
  · have z := hb.size
    have z2 := h.hi
    simp
    omega
  · exact (h.bel.trans (hb.mono (by omega))).setCell (p := ⟨ab, 2, none⟩) (by simp; omega) v2'
/-- The one protocol that is meant. -/
theorem Rn.single (h : Rn w0 w rb nb ab inv v1 v2 v3 bs []) :
    Rn w0 ((w.alloc (.cells #[.int .i64 0] 3)).setCell ⟨ab, 2, none⟩ (.slice (some ⟨w.heap.size, 0, none⟩) 1 1)) rb nb ab inv v1 (.slice (some ⟨w.heap.size, 0, none⟩) 1 1) v3 bs [0] := by
  have hb := (Below.refl w.heap.size w).alloc (Nat.le_refl _) (.cells #[.int .i64 0] 3)
  have h2 := h.below hb
  have hhi := h.hi
  have hm := h2.m
  have hrl := h.rlo
  have hnl := h.nlo
  have hr0 := h.r0
  have hn0 := h.n0
  refine ⟨⟨hm.blk.put 2 _, ?_, ?_, ?_, hm.lo⟩, h2.rz.other (by simp; omega) _, h2.nz.other (by simp; omega) _, hrl, hnl, hr0, hn0, ?_, ?_⟩
  · exact owns_keep hm.own1 (fun k hk => Below.heap_setCell _ _ _ _ (by have := (owns_lt hm.own1 k hk).1; simp; omega))
  · have hE2 : (w.alloc (.cells #[.int .i64 0] 3)).ownsRow (ab + 1) 3 1 (.slice (some ⟨w.heap.size, 0, none⟩) 1 1) 1 [.int .i64 0] := World.ownsRow_lit (size := 1) w #[.int .i64 0] 1 hhi (by simp [maxLen]) rfl
    exact owns_keep hE2 (fun k hk => Below.heap_setCell _ _ _ _ (by have := (owns_lt hE2 k hk).1; simp; omega))
  · intro k hk e
    have hk2 := owns_lt h.m.own1 k hk
    have e' : some w.heap.size = some k := e
    injection e' with e'
    omega
  · have z := h2.hi
    simp at z ⊢
    omega
  · exact h2.bel.setCell (p := ⟨ab, 2, none⟩) (by simp; omega) _
/-- The bytes of the end are kept: behind the append, behind the store. -/
theorem Rn.app3 {n : Nat} {cs : List Value} (h : Rn w0 w rb nb ab inv v1 v2 (.slice none 0 0) bs ps) {v3 : Value}
    (ho : w2.ownsRow (ab + 1) 5 1 v3 n cs) (hb : Below (ab + 1) w w2) (hg : w.grownBy w2 (Value.slice none 0 0).ownBlock) :
    w2.cell? ⟨ab, 3, none⟩ = some (.slice none 0 0) ∧ w2.frozen? ⟨ab, 3, none⟩ = false ∧ Rn w0 (w2.setCell ⟨ab, 3, none⟩ v3) rb nb ab inv v1 v2 v3 bs ps ∧ (w2.setCell ⟨ab, 3, none⟩ v3).ownsRow (ab + 1) 5 1 v3 n cs := by
  have hm := h.m
  have hrl := h.rlo
  have hnl := h.nlo
  have hr0 := h.r0
  have hn0 := h.n0
  have hblk2 : Blk w2 ab 27 #[.bool inv, v1, v2, .slice none 0 0] := (hb.block ab hm.lo).trans hm.blk
  have hnone : ∀ k, some k ≠ (Value.slice none 0 0).ownBlock := fun k => by simp [Value.ownBlock]
  refine ⟨hblk2.cell 3, hblk2.free 3, ⟨⟨hblk2.put 3 v3, ?_, ?_, hm.apart, hm.lo⟩, ?_, ?_, hrl, hnl, hr0, hn0, ?_, ?_⟩, ?_⟩
  · refine owns_keep hm.own1 (fun k hk => ?_)
    have hk2 := owns_lt hm.own1 k hk
    rw [Below.heap_setCell _ _ _ _ (by simp; omega)]
    exact hg.block k hk2.2 (hnone k)
  · refine owns_keep hm.own2 (fun k hk => ?_)
    have hk2 := owns_lt hm.own2 k hk
    rw [Below.heap_setCell _ _ _ _ (by simp; omega)]
    exact hg.block k hk2.2 (hnone k)
  · have h1 : Blk w2 rb 27 _ := (hb.block rb (by omega)).trans h.rz
    exact h1.other (by simp; omega) _
  · have h1 : Blk w2 nb 27 _ := (hb.block nb (by omega)).trans h.nz
    exact h1.other (by simp; omega) _
  · have z := hb.size
    have z2 := h.hi
    simp
    omega
  · exact (h.bel.trans (hb.mono (by omega))).setCell (p := ⟨ab, 3, none⟩) (by simp; omega) _
  · exact owns_keep ho (fun k hk => Below.heap_setCell _ _ _ _ (by have := (owns_lt ho k hk).1; simp; omega))
/-- An error is handed back. -/
theorem Rn.bad {k : Int} (h : Rn w0 w rb nb ab inv v1 v2 v3 bs ps) (hD : decS b = .bad k) :
    Blk ((((w.setCell ⟨rb, 0, none⟩ (.bool false)).setCell ⟨rb, 1, none⟩ (.slice none 0 0)).setCell ⟨rb, 2, none⟩ (.slice none 0 0)).setCell ⟨rb, 3, none⟩ (.slice none 0 0)) rb 27 #[.bool false, .slice none 0 0, .slice none 0 0, .slice none 0 0] ∧
      DRes b w0 (.returned (.tuple #[.agg #[.bool false, .slice none 0 0, .slice none 0 0, .slice none 0 0], .int .i64 k])) ((((w.setCell ⟨rb, 0, none⟩ (.bool false)).setCell ⟨rb, 1, none⟩ (.slice none 0 0)).setCell ⟨rb, 2, none⟩ (.slice none 0 0)).setCell ⟨rb, 3, none⟩ (.slice none 0 0)) := by
  have hr0 := h.r0
  refine ⟨(((h.rz.put 0 (.bool false)).put 1 (.slice none 0 0)).put 2 (.slice none 0 0)).put 3 (.slice none 0 0), DRes.bad hD ?_⟩
  exact (((h.bel.setCell (p := ⟨rb, 0, none⟩) hr0 _).setCell (p := ⟨rb, 1, none⟩) hr0 _).setCell (p := ⟨rb, 2, none⟩) hr0 _).setCell (p := ⟨rb, 3, none⟩) hr0 _
/-- The answer is handed back. -/
theorem Rn.done {A1 A2 A3 : Option Addr} {c1 c2 c3 N : Nat} {hs : List UInt8} (hN : hs.length = N) (h : Rn w0 w rb nb ab inv (.slice A1 bs.length c1) (.slice A2 ps.length c2) (.slice A3 N c3) bs ps) (ho : w.ownsRow (ab + 1) 5 1 (.slice A3 N c3) N (bv hs)) (hD : decS b = ⟨0, inv, bs, ps, hs⟩) :
    Blk ((((w.setCell ⟨rb, 0, none⟩ (.bool inv)).setCell ⟨rb, 1, none⟩ (.slice A1 bs.length c1)).setCell ⟨rb, 2, none⟩ (.slice A2 ps.length c2)).setCell ⟨rb, 3, none⟩ (.slice A3 N c3)) rb 27 #[.bool inv, .slice A1 bs.length c1, .slice A2 ps.length c2, .slice A3 N c3] ∧
      DRes b w0 (.returned (.tuple #[.agg #[.bool inv, .slice A1 bs.length c1, .slice A2 ps.length c2, .slice A3 N c3], .int .i64 0])) ((((w.setCell ⟨rb, 0, none⟩ (.bool inv)).setCell ⟨rb, 1, none⟩ (.slice A1 bs.length c1)).setCell ⟨rb, 2, none⟩ (.slice A2 ps.length c2)).setCell ⟨rb, 3, none⟩ (.slice A3 N c3)) := by
  have hr0 := h.r0
  have hrl := h.rlo
  have hk : ∀ k, k ≠ rb → ((((w.setCell ⟨rb, 0, none⟩ (.bool inv)).setCell ⟨rb, 1, none⟩ (.slice A1 bs.length c1)).setCell ⟨rb, 2, none⟩ (.slice A2 ps.length c2)).setCell ⟨rb, 3, none⟩ (.slice A3 N c3)).heap[k]? = w.heap[k]? := fun k h => by
    rw [Below.heap_setCell _ _ _ _ (by exact h), Below.heap_setCell _ _ _ _ (by exact h), Below.heap_setCell _ _ _ _ (by exact h), Below.heap_setCell _ _ _ _ (by exact h)]
  refine ⟨(((h.rz.put 0 (.bool inv)).put 1 (.slice A1 bs.length c1)).put 2 (.slice A2 ps.length c2)).put 3 (.slice A3 N c3), ?_, ?_⟩
  · exact (((h.bel.setCell (p := ⟨rb, 0, none⟩) hr0 _).setCell (p := ⟨rb, 1, none⟩) hr0 _).setCell (p := ⟨rb, 2, none⟩) hr0 _).setCell (p := ⟨rb, 3, none⟩) hr0 _
  · rw [hD]
    refine ⟨A1, c1, A2, c2, A3, c3, by rw [← hN], ?_, ?_, ?_⟩
    · exact owns_rc (owns_keep h.m.own1 (fun k h' => hk k (by have := (owns_lt h.m.own1 k h').1; omega)))
    · exact owns_rc (owns_keep h.m.own2 (fun k h' => hk k (by have := (owns_lt h.m.own2 k h').1; omega)))
    · exact rb_iff.2 (owns_rc (owns_keep ho (fun k h' => hk k (by have := (owns_lt ho k h').1; omega))))
end

/-! The bits of a presence. -/
theorem q_bit {t k : Nat} {q : Int} (h : q = ((t / (16 * 2 ^ k) : Nat) : Int)) : (q % 2 == 1) = bitB t k := by
  rw [h]
  unfold bitB
  rw [Bool.eq_iff_iff]
  simp only [beq_iff_eq, decide_eq_true_eq]
  omega
theorem q_half {t k : Nat} {q : Int} (h : q = ((t / (16 * 2 ^ k) : Nat) : Int)) : q / 2 = ((t / (16 * 2 ^ (k + 1)) : Nat) : Int) := by
  have e : t / (16 * 2 ^ (k + 1)) = t / (16 * 2 ^ k) / 2 := by rw [Nat.pow_succ, ← Nat.mul_assoc, Nat.div_div_eq_div_mul]
  rw [h, e]
  omega
theorem q_last {t : Nat} {q : Int} (ht : t < 256) (h : q = ((t / (16 * 2 ^ 3) : Nat) : Int)) : (q == 1) = decide (¬ t < 128) := by
  rw [h, Bool.eq_iff_iff]
  simp only [beq_iff_eq, decide_eq_true_eq]
  omega
theorem drop_k {k : Nat} (h : k < 3) : ([0, 1, 2] : List Nat).drop k = k :: ([0, 1, 2] : List Nat).drop (k + 1) := by
  rcases (show k = 0 ∨ k = 1 ∨ k = 2 from by omega) with rfl | rfl | rfl <;> rfl
theorem rdG_skip {g prot : Int} {t k : Nat} {bs : List If} {r : List UInt8} (hk : k < 3) (h : bitB t k = false) : rdG g prot t (([0, 1, 2] : List Nat).drop (k + 1)) bs r = rdG g prot t (([0, 1, 2] : List Nat).drop k) bs r := by
  rw [drop_k hk]
  conv => rhs; unfold rdG
  rw [if_neg (by rw [h]; decide)]
theorem rdG_take {g prot : Int} {t k : Nat} {bs : List If} {v : UInt8} {r : List UInt8} (hk : k < 3) (h : bitB t k = true) : rdG g prot t (([0, 1, 2] : List Nat).drop (k + 1)) (bs ++ [⟨g, k, (v.toNat : Int), prot⟩]) r = rdG g prot t (([0, 1, 2] : List Nat).drop k) bs (v :: r) := by
  rw [drop_k hk]
  conv => rhs; unfold rdG
  rw [if_pos h]
theorem rdG_out {g prot : Int} {t k : Nat} {bs : List If} (hk : k < 3) (h : bitB t k = true) : rdG g prot t (([0, 1, 2] : List Nat).drop k) bs [] = none := by
  rw [drop_k hk]
  unfold rdG
  rw [if_pos h]
theorem decS_of {b : List UInt8} {k : Int} (h : wholeS b = .bad k) (hk : k ≠ 0) : decS b = .bad k := by
  unfold decS
  rw [h, if_neg (by exact hk)]
theorem div16 : ∀ t : Fin 256, (IntKind.i64.wrap (t.val : Int)) / 16 = ((t.val / (16 * 2 ^ 0) : Nat) : Int) := by decide +kernel
end Go.Proofs.Ytkhobpghiachoaa
