/-
  Decode of the program.
-/
import Derived.Test.YtkhobpghiachoaaDecB05
namespace Go.Proofs.Ytkhobpghiachoaa
open Go.RowKit Crc
set_option linter.unusedVariables false

set_option maxRecDepth 100000 in
set_option maxHeartbeats 2000000 in
theorem decode_go (A : Option Addr) (c : Nat) (b : List UInt8) (w : World) (hr : RB w A b)
    (hq : ∀ W, Blk W (w.heap.size + 1 + 1) 52 #[.slice A b.length c] → Below w.heap.size w W → w.heap.size + 1 + 1 + 1 ≤ W.heap.size →
      Calls Try.prog 32 #[.pointer (some ⟨w.heap.size + 1 + 1, 0, none⟩), .slice A b.length c] W (WRes b (w.heap.size + 1 + 1) W)) :
    Calls Try.prog 13 #[.slice A b.length c] w (DRes b w) := by
  have hmf : ∀ (fn : Fn) (first cap : Array Value) (w : World), (Instr.makeFunc fn first cap).run Try.prog w = .ok (.func fn first cap) w := fun _ _ _ _ => rfl
  have hbd := whole_bd b
  have k0 := (Blk.made w 27 #[.bool false, .slice none 0 0, .slice none 0 0, .slice none 0 0]).alloc (.cells #[.int .i64 0] 28)
  have k1 := (Blk.made (w.alloc (.cells #[.bool false, .slice none 0 0, .slice none 0 0, .slice none 0 0] 27)) 28 #[.int .i64 0]).alloc (.cells #[.slice A b.length c] 52)
  have k0 := k0.alloc (.cells #[.slice A b.length c] 52)
  have k2 := Blk.made ((w.alloc (.cells #[.bool false, .slice none 0 0, .slice none 0 0, .slice none 0 0] 27)).alloc (.cells #[.int .i64 0] 28)) 52 #[.slice A b.length c]
  have hb0 := (((Below.refl w.heap.size w).alloc (Nat.le_refl _) (.cells #[.bool false, .slice none 0 0, .slice none 0 0, .slice none 0 0] 27)).alloc (by simp) (.cells #[.int .i64 0] 28)).alloc (by simp; omega) (.cells #[.slice A b.length c] 52)
  have hs : ((w.alloc (.cells #[.bool false, .slice none 0 0, .slice none 0 0, .slice none 0 0] 27)).alloc (.cells #[.int .i64 0] 28)).heap.size = w.heap.size + 1 + 1 := by simp
  have hs1 : (w.alloc (.cells #[.bool false, .slice none 0 0, .slice none 0 0, .slice none 0 0] 27)).heap.size = w.heap.size + 1 := by simp
  rw [hs] at k2
  rw [hs1] at k1
  have hq1 := hq _ k2 hb0 (by simp)
  clear hs hs1 hq
  go_enter_defers Try.func13, Try.ntmps13
  go_wp2_with fail
  refine hq1.mono ?_
  clear hq1
  rintro e w1 ⟨hb1, ⟨hne, rfl⟩ | ⟨h0, A1, c1, A2, c2, A3, c3, rfl, r1, r2, r3, hfar⟩⟩
  · have hD : decS b = .bad (wholeS b).e := by
      unfold decS
      rw [if_neg hne]
      exact wholeS_bad b hne
    have hbb := hb0.trans (hb1.mono (by omega))
    refine leaves_cons (f := 31) (args := #[.pointer (some ⟨w.heap.size, 0, none⟩), .pointer (some ⟨w.heap.size + 1, 0, none⟩)]) (by simp) (by simp [go_sem]) ?_
    refine (catchP w.heap.size (w.heap.size + 1) _ _ _ _ _ (wholeS b).e [] _ (by omega) (k0.below hb1 (by omega)) (k1.below hb1 (by omega))).mono ?_
    rintro e u' w'' ⟨rfl, rfl, rfl⟩
    exact DRes.caught hD hbb (k0.below hb1 (by omega)) (k1.below hb1 (by omega)) _ rfl rfl
  · have k0' := k0.below hb1 (by omega)
    have k1' := k1.below hb1 (by omega)
    have hbb := hb0.trans (hb1.mono (by omega))
    obtain ⟨W2, hW2, hb2, g0, g1, s1, s2, s3⟩ := stored4 (b := b) (c1 := c1) (c2 := c2) (c3 := c3) (wholeS b) hbb k0' k1' r1 r2 r3 hfar (fun _ => trivial)
    have d0 : w1.cell? ⟨w.heap.size, 0, none⟩ = some (.bool false) := k0'.cell 0
    have d1 : w1.cell? ⟨w.heap.size, 1, none⟩ = some (.slice none 0 0) := k0'.cell 1
    have d2 : w1.cell? ⟨w.heap.size, 2, none⟩ = some (.slice none 0 0) := k0'.cell 2
    have d3 : w1.cell? ⟨w.heap.size, 3, none⟩ = some (.slice none 0 0) := k0'.cell 3
    have e0 := k0'.free 0
    have e1 := k0'.free 1
    have e2 := k0'.free 2
    have e3 := k0'.free 3
    have hWb : RB W2 A b := hr.below hb2
    have hi : AtrIn W2 ⟨(wholeS b).inv, A1, c1, (wholeS b).bs, A2, c2, (wholeS b).ps, A3, c3, (wholeS b).hs⟩ := ⟨s1, s2, s3, fun x hx => by have := hbd.2.2 x hx; omega⟩
    have hen : Calls Try.prog 17 #[.agg #[.bool (wholeS b).inv, .slice A1 (wholeS b).bs.length c1, .slice A2 (wholeS b).ps.length c2, .slice A3 (wholeS b).hs.length c3]] W2 fun e w' => ∃ A c, e = .returned (.tuple #[.slice A (outF ⟨(wholeS b).inv, A1, c1, (wholeS b).bs, A2, c2, (wholeS b).ps, A3, c3, (wholeS b).hs⟩).length c, .int .i64 (chkF ⟨(wholeS b).inv, A1, c1, (wholeS b).bs, A2, c2, (wholeS b).ps, A3, c3, (wholeS b).hs⟩)]) ∧ RB w' A (outF ⟨(wholeS b).inv, A1, c1, (wholeS b).bs, A2, c2, (wholeS b).ps, A3, c3, (wholeS b).hs⟩) ∧ Below W2.heap.size W2 w' := encE_any _ W2 hi (by have := hbd.1; simp only; omega) (by have := hbd.2.1; simp only; omega)
    obtain ⟨q1, q2⟩ := chkF_addr (wholeS b) A1 c1 A2 c2 A3 c3
    have HC : Hid (decS b = if chkF (⟨(wholeS b).inv, A1, c1, (wholeS b).bs, A2, c2, (wholeS b).ps, A3, c3, (wholeS b).hs⟩ : Atr) = 0 ∧ encF (⟨(wholeS b).inv, A1, c1, (wholeS b).bs, A2, c2, (wholeS b).ps, A3, c3, (wholeS b).hs⟩ : Atr) = b then wholeS b else .bad 4) := by
      show _ = _
      unfold decS
      rw [if_pos h0, q1, q2]
    have HO : Hid (∀ a : Atr, chkF a = 0 → outF a = encF a) := fun a h => by unfold outF; rw [if_pos h]
    have H0 := Lib.hid h0
    clear hbd q1 q2 h0 hb1 hbb hb0 k0 k1 k2 r1 r2 r3 hi k0' k1' hr
    generalize wholeS b = D at *
    obtain ⟨Dn, Di, Db, Dp, Dh⟩ := D
    simp only at *
    generalize (⟨Di, A1, c1, Db, A2, c2, Dp, A3, c3, Dh⟩ : Atr) = a at *
    go_upto_region 3 with fail
    rw [← hW2]
    clear hW2 d0 d1 d2 d3 e0 e1 e2 e3
    have m0 : W2.cell? ⟨w.heap.size, 0, none⟩ = some (.bool Di) := g0.cell 0
    have m1 : W2.cell? ⟨w.heap.size, 1, none⟩ = some (.slice A1 Db.length c1) := g0.cell 1
    have m2 : W2.cell? ⟨w.heap.size, 2, none⟩ = some (.slice A2 Dp.length c2) := g0.cell 2
    have m3 : W2.cell? ⟨w.heap.size, 3, none⟩ = some (.slice A3 Dh.length c3) := g0.cell 3
    go_wp2_with fail
    refine hen.mono ?_
    clear hen m0 m1 m2 m3
    rintro e w3 ⟨A4, c4, rfl, hr4, hb3⟩
    have hb4 := hb2.trans (hb3.mono hb2.size)
    have g0' := g0.below hb3 g0.size
    have g1' := g1.below hb3 g1.size
    have t1 := s1.below hb3
    have t2 := s2.below hb3
    have t3 := s3.below hb3
    have hrb := hWb.below hb3
    clear g0 g1 s1 s2 s3 hWb hb2 hb3 W2
    by_cases hz : chkF a = 0
    · have ho := HO.out a hz
      rw [ho] at hr4
      rw [ho, hz]
      clear ho HO
      have hq2 := equal_any A4 A c4 c (encF a) b w3 hr4 hrb
      by_cases hz2 : encF a = b
      · have HD : Hid (decS b = ⟨Dn, Di, Db, Dp, Dh⟩) := by
          show _ = _
          rw [HC.out, if_pos ⟨hz, hz2⟩]
        rw [decide_eq_true hz2] at hq2
        clear hz hz2 HC
        have m0 : w3.cell? ⟨w.heap.size, 0, none⟩ = some (.bool Di) := g0'.cell 0
        have m1 : w3.cell? ⟨w.heap.size, 1, none⟩ = some (.slice A1 Db.length c1) := g0'.cell 1
        have m2 : w3.cell? ⟨w.heap.size, 2, none⟩ = some (.slice A2 Dp.length c2) := g0'.cell 2
        have m3 : w3.cell? ⟨w.heap.size, 3, none⟩ = some (.slice A3 Dh.length c3) := g0'.cell 3
        have e0 := g0'.free 0
        have e1 := g0'.free 1
        have e2 := g0'.free 2
        have e3 := g0'.free 3
        have e4 := g1'.free 0
        have m4 : w3.cell? ⟨w.heap.size + 1, 0, none⟩ = some (.int .i64 0) := g1'.cell 0
        go_wp2_with fail
        refine hq2.mono ?_
        rintro e w4 ⟨rfl, rfl⟩
        clear hq2
        go_wp2
        have hfA : ∀ B : Option Addr, (∀ z, B.map (·.block) = some z → w.heap.size + 1 + 1 ≤ z) → B.map (·.block) ≠ some w.heap.size ∧ B.map (·.block) ≠ some (w.heap.size + 1) := fun B h => ⟨fun e => by have := h _ e; omega, fun e => by have := h _ e; omega⟩
        have f1 := hfA A1 (fun z h => hfar z (.inl h))
        have f2 := hfA A2 (fun z h => hfar z (.inr (.inl h)))
        have f3 := hfA A3 (fun z h => hfar z (.inr (.inr h)))
        have kR := ((((g0'.put 0 (.bool Di)).put 1 (.slice A1 Db.length c1)).put 2 (.slice A2 Dp.length c2)).put 3 (.slice A3 Dh.length c3)).other (p := ⟨w.heap.size + 1, 0, none⟩) (by simp) (.int .i64 0)
        have kE := (((((g1'.other (p := ⟨w.heap.size, 0, none⟩) (by simp) (.bool Di)).other (p := ⟨w.heap.size, 1, none⟩) (by simp) (.slice A1 Db.length c1)).other (p := ⟨w.heap.size, 2, none⟩) (by simp) (.slice A2 Dp.length c2)).other (p := ⟨w.heap.size, 3, none⟩) (by simp) (.slice A3 Dh.length c3)).put 0 (.int .i64 0)).cell 0
        refine leaves_cons (f := 31) (args := #[.pointer (some ⟨w.heap.size, 0, none⟩), .pointer (some ⟨w.heap.size + 1, 0, none⟩)]) (by simp) (by simp [go_sem]) ?_
        refine (catchI w.heap.size (w.heap.size + 1) _).mono ?_
        rintro e u' w'' ⟨rfl, rfl, rfl⟩
        refine ⟨_, results_c2 _ _ w.heap.size (w.heap.size + 1) _ _ 0 rfl rfl kR.out kE rfl, ?_⟩
        refine ⟨((((hb4.setCell (p := ⟨w.heap.size, 0, none⟩) (Nat.le_refl _) _).setCell (p := ⟨w.heap.size, 1, none⟩) (Nat.le_refl _) _).setCell (p := ⟨w.heap.size, 2, none⟩) (Nat.le_refl _) _).setCell (p := ⟨w.heap.size, 3, none⟩) (Nat.le_refl _) _).setCell (p := ⟨w.heap.size + 1, 0, none⟩) (by simp) _, ?_⟩
        rw [HD.out]
        refine ⟨A1, c1, A2, c2, A3, c3, ?_, ?_, ?_, ?_⟩
        · rw [show Dn = 0 from H0.out]
          rfl
        · exact ((((t1.set_far f1.1 _ _).set_far f1.1 _ _).set_far f1.1 _ _).set_far f1.1 _ _).set_far f1.2 _ _
        · exact ((((t2.set_far f2.1 _ _).set_far f2.1 _ _).set_far f2.1 _ _).set_far f2.1 _ _).set_far f2.2 _ _
        · exact ((((t3.set_far f3.1 _ _).set_far f3.1 _ _).set_far f3.1 _ _).set_far f3.1 _ _).set_far f3.2 _ _
      · have HD : Hid (decS b = .bad 4) := by
          show _ = _
          rw [HC.out, if_neg (fun h => hz2 h.2)]
        rw [decide_eq_false hz2] at hq2
        clear hz hz2 HC
        go_wp2_with fail
        refine hq2.mono ?_
        rintro e w4 ⟨rfl, rfl⟩
        clear hq2
        go_wp2
        refine leaves_cons (f := 31) (args := #[.pointer (some ⟨w.heap.size, 0, none⟩), .pointer (some ⟨w.heap.size + 1, 0, none⟩)]) (by simp) (by simp [go_sem]) ?_
        refine (catchP w.heap.size (w.heap.size + 1) _ _ _ _ _ 4 [] _ (by omega) g0' g1').mono ?_
        rintro e u' w'' ⟨rfl, rfl, rfl⟩
        exact DRes.caught HD.out hb4 g0' g1' _ rfl rfl
    · have HD : Hid (decS b = .bad 4) := by
        show _ = _
        rw [HC.out, if_neg (fun h => hz h.1)]
      have hzb : (chkF a != 0) = true := by simpa using hz
      clear hz HC HO
      go_wp2
      refine leaves_cons (f := 31) (args := #[.pointer (some ⟨w.heap.size, 0, none⟩), .pointer (some ⟨w.heap.size + 1, 0, none⟩)]) (by simp) (by simp [go_sem]) ?_
      refine (catchP w.heap.size (w.heap.size + 1) _ _ _ _ _ 4 [] _ (by omega) g0' g1').mono ?_
      rintro e u' w'' ⟨rfl, rfl, rfl⟩
      exact DRes.caught HD.out hb4 g0' g1' _ rfl rfl
/-- Decode, whatever the bytes. -/
theorem decode_any (A : Option Addr) (c : Nat) (b : List UInt8) (w : World) (hr : RB w A b) (hl : b.length ≤ 1048576) (hcb : b.length ≤ c) :
    Calls Try.prog 13 #[.slice A b.length c] w (DRes b w) := by
  refine decode_go A c b w hr fun W hk hb hs => ?_
  rcases b with _ | ⟨x, xs⟩
  · exact whole_none _ _ A c W hk (by omega)
  · obtain ⟨g, off, rfl, hcell⟩ := hr.at_ (by simp)
    have hg : g < w.heap.size := cell?_lt (hcell 0 (by simp))
    have hrd : Rdr W (w.heap.size + 1 + 1) (some ⟨g, off, none⟩) c (x :: xs) := ⟨hk, hcb, hr.below hb, fun e => by injection e with e; simp only at e; omega⟩
    exact whole_any _ _ _ c _ W hrd (Nat.le_refl _) (fun z hz => by injection hz with hz; simp only at hz; omega) hl (Nat.le_refl _)
end Go.Proofs.Ytkhobpghiachoaa
