/-
  A PPS, parsed: the reference's walk.
-/
import Derived.Test.YtkhobpghiachoaaParse05
import Derived.Test.YtkhobpghiachoaaRefA05
namespace Go.Proofs.Ytkhobpghiachoaa
open Go.RowKit Crc Go.Maps
set_option linter.unusedVariables false
set_option linter.unusedSimpArgs false

def optI (o : Option UInt8) : Int := match o with | some v => (v.toNat : Int) | none => -1
/-- What further hands back. -/
def Furthered (b : List UInt8) (w : World) (e : Ending) (w' : World) : Prop :=
  ∃ x0 x1 x2 : Int, e = .returned (.tuple #[.agg #[.int .i64 x0, .int .i64 x1, .int .i64 x2], .int .i64 (parE b)]) ∧
    (parE b = 0 → x0 = optI (partB b 0) ∧ x1 = optI (partB b 1) ∧ x2 = optI (partB b 2)) ∧ Below w.heap.size w w'
theorem furthered_bad {b : List UInt8} {w w' : World} {E x0 x1 x2 : Int} (h : parE b = E) (h0 : E ≠ 0) (hb : Below w.heap.size w w') : Furthered b w (.returned (.tuple #[.agg #[.int .i64 x0, .int .i64 x1, .int .i64 x2], .int .i64 E])) w' :=
  ⟨x0, x1, x2, by rw [h], fun h1 => absurd (h.symm.trans h1) h0, hb⟩

theorem arr3_info : (Try.prog.info? 65).map (·.size) = some 3 := by kernel_rfl
theorem results_cell_one {P : Program} {fn : Func} {p a : Tmp} {ty : TypeId} (h : fn.results = #[.cell p ty, .tmp a]) (tmps : Array Value) (w : World) (g : Nat) (t : TypeId) (cs : Array Value) (fr : Nat × Nat) (d : TypeDesc)
    (hp : tmps.getD p undef = .pointer (some ⟨g, 0, none⟩)) (hg : w.heap[g]? = some (.cells cs t fr))
    (hu : P.underlying ty = some d) (hd : (match d with | .struct _ | .array _ _ => true | _ => false) = true) (hi : (P.info? ty).map (·.size) = some cs.size) :
    (results fn tmps).run P w = .ok (.tuple #[.agg cs, tmps.getD a undef]) w := by
  have hp' : tmps[p]?.getD undef = .pointer (some ⟨g, 0, none⟩) := by simpa using hp
  simp [results, h, hp', asAddr, run_loadVar_row w g t ty cs fr d hg hu hd hi]
theorem optI_nil : optI none = -1 := rfl
def sofar (b : List UInt8) (k j : Nat) : Int := if j < k then optI (partB b j) else -1
theorem optI_none {b : List UInt8} {k : Nat} (h : partB b k = none) : optI (partB b k) = -1 := by rw [h]; rfl
theorem optI_some {b : List UInt8} {k : Nat} {v : UInt8} (h : partB b k = some v) : optI (partB b k) = (v.toNat : Int) := by rw [h]; rfl

set_option maxRecDepth 100000 in
set_option maxHeartbeats 4000000 in
theorem further_go (A : Option Addr) (c : Nat) (b : List UInt8) (w : World) (hs : b.length ≤ 60000) (hc : b.length ≤ c) (hr : RB w A b) :
    Calls Try.prog 46 #[.slice A b.length c] w (Furthered b w) := by
  have hbX := ((Below.refl w.heap.size w).alloc (Nat.le_refl _) (.cells #[.int .i64 0, .int .i64 0, .int .i64 0] 65)).alloc (by simp) (.cells #[.int .i64 (-1), .int .i64 (-1), .int .i64 (-1)] 65)
  have hRX := (Blk.made w 65 #[.int .i64 0, .int .i64 0, .int .i64 0]).alloc (.cells #[.int .i64 (-1), .int .i64 (-1), .int .i64 (-1)] 65)
  have hLX := Blk.made (w.alloc (.cells #[.int .i64 0, .int .i64 0, .int .i64 0] 65)) 65 #[.int .i64 (-1), .int .i64 (-1), .int .i64 (-1)]
  rw [show (w.alloc (.cells #[.int .i64 0, .int .i64 0, .int .i64 0] 65)).heap.size = w.heap.size + 1 from by simp] at hLX
  go_enter Try.func46, Try.ntmps46
  go_upto_region 2 with fail
  obtain ⟨W1, hW1⟩ : ∃ W1 : World, W1 = (w.alloc (.cells #[.int .i64 0, .int .i64 0, .int .i64 0] 65)).alloc (.cells #[.int .i64 (-1), .int .i64 (-1), .int .i64 (-1)] 65) := ⟨_, rfl⟩
  rw [← hW1] at hbX hRX hLX
  rw [← hW1]
  clear hW1
  obtain ⟨rb, hrb⟩ : ∃ rb, rb = w.heap.size := ⟨_, rfl⟩
  obtain ⟨lb, hlb⟩ : ∃ lb, lb = w.heap.size + 1 := ⟨_, rfl⟩
  have hrb0 : w.heap.size ≤ rb := by omega
  have hlb0 : w.heap.size ≤ lb := by omega
  have hne : rb ≠ lb := by omega
  have hne' : lb ≠ rb := by omega
  rw [← hrb] at hRX
  rw [← hlb] at hLX
  rw [← hlb, ← hrb]
  clear hrb hlb
  have hr1 := hr.below hbX
  have l0 : W1.cell? ⟨lb, 0, none⟩ = some (.int .i64 (-1)) := hLX.cell 0
  have l1 : W1.cell? ⟨lb, 1, none⟩ = some (.int .i64 (-1)) := hLX.cell 1
  have l2 : W1.cell? ⟨lb, 2, none⟩ = some (.int .i64 (-1)) := hLX.cell 2
  have r0 : W1.cell? ⟨rb, 0, none⟩ = some (.int .i64 0) := hRX.cell 0
  have r1 : W1.cell? ⟨rb, 1, none⟩ = some (.int .i64 0) := hRX.cell 1
  have r2 : W1.cell? ⟨rb, 2, none⟩ = some (.int .i64 0) := hRX.cell 2
  have fR := hRX.free
  by_cases h2 : b.length < 2
  · have HF : Hid (parE b = 4) := by
      show _ = _
      unfold parE headBad
      rw [decide_eq_true h2]
      simp
    have h2i : (b.length : Int) < 2 := by omega
    have hR := hRX
    have HB := hbX
    obtain ⟨x0, hx0⟩ : ∃ x0 : Int, x0 = -1 := ⟨_, rfl⟩
    obtain ⟨x1, hx1⟩ : ∃ x1 : Int, x1 = -1 := ⟨_, rfl⟩
    obtain ⟨x2, hx2⟩ : ∃ x2 : Int, x2 = -1 := ⟨_, rfl⟩
    rw [← hx0] at l0
    rw [← hx1] at l1
    rw [← hx2] at l2
    clear hx0 hx1 hx2
    go_wp2
    have kR : Blk _ _ _ #[.int .i64 x0, .int .i64 x1, .int .i64 x2] := ((hR.put 0 (.int .i64 x0)).put 1 (.int .i64 x1)).put 2 (.int .i64 x2)
    have hbF := ((HB.setCell (p := ⟨rb, 0, none⟩) hrb0 (.int .i64 x0)).setCell (p := ⟨rb, 1, none⟩) hrb0 (.int .i64 x1)).setCell (p := ⟨rb, 2, none⟩) hrb0 (.int .i64 x2)
    refine bodyPost_ret (results_cell_one rfl _ _ rb _ _ _ _ rfl kR.out Try.underlying65 rfl arr3_info) rfl ?_
    exact furthered_bad HF.out (by decide) hbF
  · obtain ⟨bb, bo, rfl, hcel⟩ := hr1.at_ (by omega)
    have z0 : W1.cell? ⟨bb, bo, none⟩ = some (.int .u8 ((b[0]'(by omega)).toNat : Int)) := hcel 0 (by omega)
    have z1 : W1.cell? ⟨bb, bo + 1, none⟩ = some (.int .u8 ((b[1]'(by omega)).toNat : Int)) := hcel 1 (by omega)
    have e0 : b.getD 0 0 = b[0]'(by omega) := by simp [List.getD, show 0 < b.length from by omega]
    have e1 : tB b = (b[1]'(by omega)).toNat := by unfold tB; simp [List.getD, show 1 < b.length from by omega]
    have h2i : ¬ ((b.length : Int) < 2) := by omega
    have h2d := decide_eq_false h2i
    have hlp : (1 : Int) < (b.length : Int) := by omega
    have hlp0 : (0 : Int) < (b.length : Int) := by omega
    generalize b[0]'(by omega) = y0 at z0 e0
    generalize b[1]'(by omega) = t at z1 e1
    by_cases hx0 : y0 = 255
    · subst hx0
      by_cases ht : 128 ≤ t.toNat
      · have HF : Hid (parE b = 4) := by
          show _ = _
          unfold parE headBad
          rw [e1, decide_eq_true ht]
          simp
        have hti : (128 : Int) ≤ (t.toNat : Int) := by omega
        have hR := hRX
        have HB := hbX
        obtain ⟨x0, hx0⟩ : ∃ x0 : Int, x0 = -1 := ⟨_, rfl⟩
        obtain ⟨x1, hx1⟩ : ∃ x1 : Int, x1 = -1 := ⟨_, rfl⟩
        obtain ⟨x2, hx2⟩ : ∃ x2 : Int, x2 = -1 := ⟨_, rfl⟩
        rw [← hx0] at l0
        rw [← hx1] at l1
        rw [← hx2] at l2
        clear hx0 hx1 hx2
        go_wp2
        have kR : Blk _ _ _ #[.int .i64 x0, .int .i64 x1, .int .i64 x2] := ((hR.put 0 (.int .i64 x0)).put 1 (.int .i64 x1)).put 2 (.int .i64 x2)
        have hbF := ((HB.setCell (p := ⟨rb, 0, none⟩) hrb0 (.int .i64 x0)).setCell (p := ⟨rb, 1, none⟩) hrb0 (.int .i64 x1)).setCell (p := ⟨rb, 2, none⟩) hrb0 (.int .i64 x2)
        refine bodyPost_ret (results_cell_one rfl _ _ rb _ _ _ _ rfl kR.out Try.underlying65 rfl arr3_info) rfl ?_
        exact furthered_bad HF.out (by decide) hbF
      · have hti : ¬ ((128 : Int) ≤ (t.toNat : Int)) := by omega
        have htd := decide_eq_false hti
        have htb : (t.toNat : Int) ≤ 255 ∧ (0 : Int) ≤ (t.toNat : Int) := by omega
        have HP1 : parE b = if b.length ≠ posB t.toNat 3 + 1 then 4 else remE b := by
          have hHB : headBad b = false := by
            unfold headBad
            rw [decide_eq_false h2, decide_eq_false (by rw [e0]; simp), decide_eq_false (by rw [e1]; exact ht)]
            rfl
          unfold parE
          rw [hHB, e1]
          rfl
        have HPE := Lib.hid HP1
        clear HP1 r0 r1 r2 fR l0 l1 l2
        go_upto_region 5 with fail
        go_wp2
        go_loopw [5, 6, 7] (fun bt n i wx => ∃ (k : Nat) (q y0 y1 y2 : Int), k ≤ 3 ∧ bt = .int .i64 q ∧ Hid (q = ((t.toNat / (16 * 2 ^ k) : Nat) : Int)) ∧ 0 ≤ q ∧ q ≤ 255 ∧ n = .int .i64 (posB t.toNat k) ∧ i = .int .i64 k ∧
          Blk wx lb 65 #[.int .i64 y0, .int .i64 y1, .int .i64 y2] ∧ Hid (y0 = sofar b k 0 ∧ y1 = sofar b k 1 ∧ y2 = sofar b k 2) ∧ Blk wx rb 65 #[.int .i64 0, .int .i64 0, .int .i64 0] ∧ RB wx (some ⟨bb, bo, none⟩) b ∧ Below w.heap.size w wx) (fun _ _ i _ => 10 - (intOf i).toNat)
        case atStart => exact ⟨0, _, _, _, _, by omega, rfl, by show _ = _; simp, by omega, by omega, rfl, rfl, hLX, ⟨rfl, rfl, rfl⟩, hRX, hr1, hbX⟩
        case round =>
          obtain ⟨k, q, y0, y1, y2, hk3, rfl, HQ, hq0, hq1, rfl, rfl, hLw, HY, hRw, hrw, hbr⟩ := hrel
          clear hLX hRX hr1 hbX hcel z0 z1
          have l0 : wr.cell? ⟨lb, 0, none⟩ = some (.int .i64 y0) := hLw.cell 0
          have l1 : wr.cell? ⟨lb, 1, none⟩ = some (.int .i64 y1) := hLw.cell 1
          have l2 : wr.cell? ⟨lb, 2, none⟩ = some (.int .i64 y2) := hLw.cell 2
          have fL := hLw.free
          have hposb := posB_le t.toNat k
          rcases (show k = 0 ∨ k = 1 ∨ k = 2 ∨ k = 3 from by omega) with rfl | rfl | rfl | rfl
          · rcases hbt : bitB t.toNat 0 with _ | _
            · have hb : (q % 2 == 1) = false := by
                have h := hbt
                unfold bitB at h
                simp only [decide_eq_false_iff_not] at h
                rw [HQ.out]
                simp
                omega
              have hP : posB t.toNat 1 = posB t.toNat 0 := by
                show posB t.toNat 0 + _ = _
                rw [hbt]
                simp
              have HPT : partB b 0 = none := by unfold partB; rw [e1, hbt]; rfl
              have HYN : Hid (y0 = sofar b 1 0 ∧ y1 = sofar b 1 1 ∧ y2 = sofar b 1 2) := by
                obtain ⟨a0, a1, a2⟩ := HY.out
                refine ⟨?_, ?_, ?_⟩
                · rw [a0]; unfold sofar; simp [optI_none, HPT, optI_nil]
                · rw [a1]; unfold sofar; simp [optI_none, HPT, optI_nil]
                · rw [a2]; unfold sofar; simp [optI_none, HPT, optI_nil]
              have HQN : Hid (q / 2 = ((t.toNat / (16 * 2 ^ 1) : Nat) : Int)) := by
                show _ = _
                rw [HQ.out]
                simp
                omega
              have hPH := Lib.hid hP
              clear hbt hP HPT
              go_wp2
              go_roundw
              case rel => exact ⟨1, _, _, _, _, by omega, rfl, HQN, by omega, by omega, by rw [hPH.out], by go_num, hLw, HYN, hRw, hrw, hbr⟩
              case measure => simp [intOf]
            · have hb : (q % 2 == 1) = true := by
                have h := hbt
                unfold bitB at h
                simp only [decide_eq_true_eq] at h
                rw [HQ.out]
                simp
                omega
              have hP : posB t.toNat 1 = posB t.toNat 0 + 1 := by
                show posB t.toNat 0 + _ = _
                rw [hbt]
                simp
              have HQN : Hid (q / 2 = ((t.toNat / (16 * 2 ^ 1) : Nat) : Int)) := by
                show _ = _
                rw [HQ.out]
                simp
                omega
              have hPH := Lib.hid hP
              clear hP
              by_cases hq : posB t.toNat 0 < b.length
              · obtain ⟨_, _, hA, hcel⟩ := hrw.at_ (by omega)
                injection hA with hA
                injection hA with hA1 hA2
                subst hA1 hA2
                have yq := hcel _ hq
                have HPT : partB b 0 = some b[posB t.toNat 0] := by
                  unfold partB
                  rw [e1, hbt, if_pos rfl, List.getElem?_eq_getElem hq]
                clear hbt hcel
                generalize b[posB t.toNat 0] = vq at yq HPT
                have hvb : (vq.toNat : Int) ≤ 255 := by have := vq.toNat_lt; omega
                have HYN : Hid ((vq.toNat : Int) = sofar b 1 0 ∧ y1 = sofar b 1 1 ∧ y2 = sofar b 1 2) := by
                  obtain ⟨a0, a1, a2⟩ := HY.out
                  refine ⟨?_, ?_, ?_⟩
                  · unfold sofar; simp [optI_some HPT, optI_nil]
                  · rw [a1]; unfold sofar; simp [optI_some HPT, optI_nil]
                  · rw [a2]; unfold sofar; simp [optI_some HPT, optI_nil]
                have hqi : ((posB t.toNat 0 : Nat) : Int) < (b.length : Int) := by omega
                have hqz : (0 : Int) ≤ ((posB t.toNat 0 : Nat) : Int) := by omega
                have hLN : Blk (wr.setCell ⟨lb, 0, none⟩ (.int .i64 (vq.toNat : Int))) lb 65 #[.int .i64 (vq.toNat : Int), .int .i64 y1, .int .i64 y2] := hLw.put 0 (.int .i64 (vq.toNat : Int))
                have hRN : Blk (wr.setCell ⟨lb, 0, none⟩ (.int .i64 (vq.toNat : Int))) rb 65 #[.int .i64 0, .int .i64 0, .int .i64 0] := hRw.other hne _
                have hrN : RB (wr.setCell ⟨lb, 0, none⟩ (.int .i64 (vq.toNat : Int))) (some ⟨bb, bo, none⟩) b := hr.below (hbr.setCell (p := ⟨lb, 0, none⟩) hlb0 _)
                have hbN := hbr.setCell (p := ⟨lb, 0, none⟩) hlb0 (.int .i64 (vq.toNat : Int))
                clear HPT
                go_wp2
                go_roundw
                case rel => exact ⟨1, _, _, _, _, by omega, rfl, HQN, by omega, by omega, by rw [hPH.out]; go_num, by go_num, hLN, HYN, hRN, hrN, hbN⟩
                case measure => simp [intOf]
              · have HPT : partB b 0 = none := by
                  unfold partB
                  rw [e1, hbt, if_pos rfl, List.getElem?_eq_none (by omega)]
                have HYN : Hid (y0 = sofar b 1 0 ∧ y1 = sofar b 1 1 ∧ y2 = sofar b 1 2) := by
                  obtain ⟨a0, a1, a2⟩ := HY.out
                  refine ⟨?_, ?_, ?_⟩
                  · rw [a0]; unfold sofar; simp [optI_none, HPT, optI_nil]
                  · rw [a1]; unfold sofar; simp [optI_none, HPT, optI_nil]
                  · rw [a2]; unfold sofar; simp [optI_none, HPT, optI_nil]
                clear hbt HPT
                have hqi : ¬ (((posB t.toNat 0 : Nat) : Int) < (b.length : Int)) := by omega
                go_wp2
                go_roundw
                case rel => exact ⟨1, _, _, _, _, by omega, rfl, HQN, by omega, by omega, by rw [hPH.out]; go_num, by go_num, hLw, HYN, hRw, hrw, hbr⟩
                case measure => simp [intOf]
          · rcases hbt : bitB t.toNat 1 with _ | _
            · have hb : (q % 2 == 1) = false := by
                have h := hbt
                unfold bitB at h
                simp only [decide_eq_false_iff_not] at h
                rw [HQ.out]
                simp
                omega
              have hP : posB t.toNat 2 = posB t.toNat 1 := by
                show posB t.toNat 1 + _ = _
                rw [hbt]
                simp
              have HPT : partB b 1 = none := by unfold partB; rw [e1, hbt]; rfl
              have HYN : Hid (y0 = sofar b 2 0 ∧ y1 = sofar b 2 1 ∧ y2 = sofar b 2 2) := by
                obtain ⟨a0, a1, a2⟩ := HY.out
                refine ⟨?_, ?_, ?_⟩
                · rw [a0]; unfold sofar; simp [optI_none, HPT, optI_nil]
                · rw [a1]; unfold sofar; simp [optI_none, HPT, optI_nil]
                · rw [a2]; unfold sofar; simp [optI_none, HPT, optI_nil]
              have HQN : Hid (q / 2 = ((t.toNat / (16 * 2 ^ 2) : Nat) : Int)) := by
                show _ = _
                rw [HQ.out]
                simp
                omega
              have hPH := Lib.hid hP
              clear hbt hP HPT
              go_wp2
              go_roundw
              case rel => exact ⟨2, _, _, _, _, by omega, rfl, HQN, by omega, by omega, by rw [hPH.out], by go_num, hLw, HYN, hRw, hrw, hbr⟩
              case measure => simp [intOf]
            · have hb : (q % 2 == 1) = true := by
                have h := hbt
                unfold bitB at h
                simp only [decide_eq_true_eq] at h
                rw [HQ.out]
                simp
                omega
              have hP : posB t.toNat 2 = posB t.toNat 1 + 1 := by
                show posB t.toNat 1 + _ = _
                rw [hbt]
                simp
              have HQN : Hid (q / 2 = ((t.toNat / (16 * 2 ^ 2) : Nat) : Int)) := by
                show _ = _
                rw [HQ.out]
                simp
                omega
              have hPH := Lib.hid hP
              clear hP
              by_cases hq : posB t.toNat 1 < b.length
              · obtain ⟨_, _, hA, hcel⟩ := hrw.at_ (by omega)
                injection hA with hA
                injection hA with hA1 hA2
                subst hA1 hA2
                have yq := hcel _ hq
                have HPT : partB b 1 = some b[posB t.toNat 1] := by
                  unfold partB
                  rw [e1, hbt, if_pos rfl, List.getElem?_eq_getElem hq]
                clear hbt hcel
                generalize b[posB t.toNat 1] = vq at yq HPT
                have hvb : (vq.toNat : Int) ≤ 255 := by have := vq.toNat_lt; omega
                have HYN : Hid (y0 = sofar b 2 0 ∧ (vq.toNat : Int) = sofar b 2 1 ∧ y2 = sofar b 2 2) := by
                  obtain ⟨a0, a1, a2⟩ := HY.out
                  refine ⟨?_, ?_, ?_⟩
                  · rw [a0]; unfold sofar; simp [optI_some HPT, optI_nil]
                  · unfold sofar; simp [optI_some HPT, optI_nil]
                  · rw [a2]; unfold sofar; simp [optI_some HPT, optI_nil]
                have hqi : ((posB t.toNat 1 : Nat) : Int) < (b.length : Int) := by omega
                have hqz : (0 : Int) ≤ ((posB t.toNat 1 : Nat) : Int) := by omega
                have hLN : Blk (wr.setCell ⟨lb, 1, none⟩ (.int .i64 (vq.toNat : Int))) lb 65 #[.int .i64 y0, .int .i64 (vq.toNat : Int), .int .i64 y2] := hLw.put 1 (.int .i64 (vq.toNat : Int))
                have hRN : Blk (wr.setCell ⟨lb, 1, none⟩ (.int .i64 (vq.toNat : Int))) rb 65 #[.int .i64 0, .int .i64 0, .int .i64 0] := hRw.other hne _
                have hrN : RB (wr.setCell ⟨lb, 1, none⟩ (.int .i64 (vq.toNat : Int))) (some ⟨bb, bo, none⟩) b := hr.below (hbr.setCell (p := ⟨lb, 1, none⟩) hlb0 _)
                have hbN := hbr.setCell (p := ⟨lb, 1, none⟩) hlb0 (.int .i64 (vq.toNat : Int))
                clear HPT
                go_wp2
                go_roundw
                case rel => exact ⟨2, _, _, _, _, by omega, rfl, HQN, by omega, by omega, by rw [hPH.out]; go_num, by go_num, hLN, HYN, hRN, hrN, hbN⟩
                case measure => simp [intOf]
              · have HPT : partB b 1 = none := by
                  unfold partB
                  rw [e1, hbt, if_pos rfl, List.getElem?_eq_none (by omega)]
                have HYN : Hid (y0 = sofar b 2 0 ∧ y1 = sofar b 2 1 ∧ y2 = sofar b 2 2) := by
                  obtain ⟨a0, a1, a2⟩ := HY.out
                  refine ⟨?_, ?_, ?_⟩
                  · rw [a0]; unfold sofar; simp [optI_none, HPT, optI_nil]
                  · rw [a1]; unfold sofar; simp [optI_none, HPT, optI_nil]
                  · rw [a2]; unfold sofar; simp [optI_none, HPT, optI_nil]
                clear hbt HPT
                have hqi : ¬ (((posB t.toNat 1 : Nat) : Int) < (b.length : Int)) := by omega
                go_wp2
                go_roundw
                case rel => exact ⟨2, _, _, _, _, by omega, rfl, HQN, by omega, by omega, by rw [hPH.out]; go_num, by go_num, hLw, HYN, hRw, hrw, hbr⟩
                case measure => simp [intOf]
          · rcases hbt : bitB t.toNat 2 with _ | _
            · have hb : (q % 2 == 1) = false := by
                have h := hbt
                unfold bitB at h
                simp only [decide_eq_false_iff_not] at h
                rw [HQ.out]
                simp
                omega
              have hP : posB t.toNat 3 = posB t.toNat 2 := by
                show posB t.toNat 2 + _ = _
                rw [hbt]
                simp
              have HPT : partB b 2 = none := by unfold partB; rw [e1, hbt]; rfl
              have HYN : Hid (y0 = sofar b 3 0 ∧ y1 = sofar b 3 1 ∧ y2 = sofar b 3 2) := by
                obtain ⟨a0, a1, a2⟩ := HY.out
                refine ⟨?_, ?_, ?_⟩
                · rw [a0]; unfold sofar; simp [optI_none, HPT, optI_nil]
                · rw [a1]; unfold sofar; simp [optI_none, HPT, optI_nil]
                · rw [a2]; unfold sofar; simp [optI_none, HPT, optI_nil]
              have HQN : Hid (q / 2 = ((t.toNat / (16 * 2 ^ 3) : Nat) : Int)) := by
                show _ = _
                rw [HQ.out]
                simp
                omega
              have hPH := Lib.hid hP
              clear hbt hP HPT
              go_wp2
              go_roundw
              case rel => exact ⟨3, _, _, _, _, by omega, rfl, HQN, by omega, by omega, by rw [hPH.out], by go_num, hLw, HYN, hRw, hrw, hbr⟩
              case measure => simp [intOf]
            · have hb : (q % 2 == 1) = true := by
                have h := hbt
                unfold bitB at h
                simp only [decide_eq_true_eq] at h
                rw [HQ.out]
                simp
                omega
              have hP : posB t.toNat 3 = posB t.toNat 2 + 1 := by
                show posB t.toNat 2 + _ = _
                rw [hbt]
                simp
              have HQN : Hid (q / 2 = ((t.toNat / (16 * 2 ^ 3) : Nat) : Int)) := by
                show _ = _
                rw [HQ.out]
                simp
                omega
              have hPH := Lib.hid hP
              clear hP
              by_cases hq : posB t.toNat 2 < b.length
              · obtain ⟨_, _, hA, hcel⟩ := hrw.at_ (by omega)
                injection hA with hA
                injection hA with hA1 hA2
                subst hA1 hA2
                have yq := hcel _ hq
                have HPT : partB b 2 = some b[posB t.toNat 2] := by
                  unfold partB
                  rw [e1, hbt, if_pos rfl, List.getElem?_eq_getElem hq]
                clear hbt hcel
                generalize b[posB t.toNat 2] = vq at yq HPT
                have hvb : (vq.toNat : Int) ≤ 255 := by have := vq.toNat_lt; omega
                have HYN : Hid (y0 = sofar b 3 0 ∧ y1 = sofar b 3 1 ∧ (vq.toNat : Int) = sofar b 3 2) := by
                  obtain ⟨a0, a1, a2⟩ := HY.out
                  refine ⟨?_, ?_, ?_⟩
                  · rw [a0]; unfold sofar; simp [optI_some HPT, optI_nil]
                  · rw [a1]; unfold sofar; simp [optI_some HPT, optI_nil]
                  · unfold sofar; simp [optI_some HPT, optI_nil]
                have hqi : ((posB t.toNat 2 : Nat) : Int) < (b.length : Int) := by omega
                have hqz : (0 : Int) ≤ ((posB t.toNat 2 : Nat) : Int) := by omega
                have hLN : Blk (wr.setCell ⟨lb, 2, none⟩ (.int .i64 (vq.toNat : Int))) lb 65 #[.int .i64 y0, .int .i64 y1, .int .i64 (vq.toNat : Int)] := hLw.put 2 (.int .i64 (vq.toNat : Int))
                have hRN : Blk (wr.setCell ⟨lb, 2, none⟩ (.int .i64 (vq.toNat : Int))) rb 65 #[.int .i64 0, .int .i64 0, .int .i64 0] := hRw.other hne _
                have hrN : RB (wr.setCell ⟨lb, 2, none⟩ (.int .i64 (vq.toNat : Int))) (some ⟨bb, bo, none⟩) b := hr.below (hbr.setCell (p := ⟨lb, 2, none⟩) hlb0 _)
                have hbN := hbr.setCell (p := ⟨lb, 2, none⟩) hlb0 (.int .i64 (vq.toNat : Int))
                clear HPT
                go_wp2
                go_roundw
                case rel => exact ⟨3, _, _, _, _, by omega, rfl, HQN, by omega, by omega, by rw [hPH.out]; go_num, by go_num, hLN, HYN, hRN, hrN, hbN⟩
                case measure => simp [intOf]
              · have HPT : partB b 2 = none := by
                  unfold partB
                  rw [e1, hbt, if_pos rfl, List.getElem?_eq_none (by omega)]
                have HYN : Hid (y0 = sofar b 3 0 ∧ y1 = sofar b 3 1 ∧ y2 = sofar b 3 2) := by
                  obtain ⟨a0, a1, a2⟩ := HY.out
                  refine ⟨?_, ?_, ?_⟩
                  · rw [a0]; unfold sofar; simp [optI_none, HPT, optI_nil]
                  · rw [a1]; unfold sofar; simp [optI_none, HPT, optI_nil]
                  · rw [a2]; unfold sofar; simp [optI_none, HPT, optI_nil]
                clear hbt HPT
                have hqi : ¬ (((posB t.toNat 2 : Nat) : Int) < (b.length : Int)) := by omega
                go_wp2
                go_roundw
                case rel => exact ⟨3, _, _, _, _, by omega, rfl, HQN, by omega, by omega, by rw [hPH.out]; go_num, by go_num, hLw, HYN, hRw, hrw, hbr⟩
                case measure => simp [intOf]
          · have r0 : wr.cell? ⟨rb, 0, none⟩ = some (.int .i64 0) := hRw.cell 0
            have r1 : wr.cell? ⟨rb, 1, none⟩ = some (.int .i64 0) := hRw.cell 1
            have r2 : wr.cell? ⟨rb, 2, none⟩ = some (.int .i64 0) := hRw.cell 2
            have fR := hRw.free
            clear fL
            by_cases hl : b.length = posB t.toNat 3 + 1
            · have hlb : ((b.length : Int) != ((posB t.toNat 3 : Nat) : Int) + 1) = false := by simp; omega
              have hPR : parE b = remE b := by rw [HPE.out, if_neg (by omega)]
              clear hl
              have hqs := rsum_any (some ⟨bb, bo, none⟩) c b wr (by omega) hrw
              by_cases hz : lrc b = 0
              · have HF : Hid (parE b = 0) := by show _ = _; rw [hPR]; unfold remE; rw [if_pos hz]
                rw [hz] at hqs
                clear hz hPR
                go_wp2_with fail
                refine hqs.mono ?_
                rintro e w9 ⟨rfl, rfl⟩
                clear hqs
                go_wp2
                have kR : Blk _ _ _ #[.int .i64 y0, .int .i64 y1, .int .i64 y2] := ((hRw.put 0 (.int .i64 y0)).put 1 (.int .i64 y1)).put 2 (.int .i64 y2)
                have hbF := ((hbr.setCell (p := ⟨rb, 0, none⟩) hrb0 (.int .i64 y0)).setCell (p := ⟨rb, 1, none⟩) hrb0 (.int .i64 y1)).setCell (p := ⟨rb, 2, none⟩) hrb0 (.int .i64 y2)
                refine bodyPost_ret (results_cell_one rfl _ _ rb _ _ _ _ rfl kR.out Try.underlying65 rfl arr3_info) rfl ?_
                exact ⟨y0, y1, y2, by rw [HF.out]; rfl, fun _ => HY.out, hbF⟩
              · have HF : Hid (parE b = 6) := by show _ = _; rw [hPR]; unfold remE; rw [if_neg hz]
                have hzb : (((lrc b).toNat : Int) != 0) = true := by
                  simp
                  intro h
                  exact hz (UInt8.toNat_inj.1 (by simpa using h))
                clear hz hPR
                go_wp2_with fail
                refine hqs.mono ?_
                rintro e w9 ⟨rfl, rfl⟩
                clear hqs
                go_wp2
                have kR : Blk _ _ _ #[.int .i64 y0, .int .i64 y1, .int .i64 y2] := ((hRw.put 0 (.int .i64 y0)).put 1 (.int .i64 y1)).put 2 (.int .i64 y2)
                have hbF := ((hbr.setCell (p := ⟨rb, 0, none⟩) hrb0 (.int .i64 y0)).setCell (p := ⟨rb, 1, none⟩) hrb0 (.int .i64 y1)).setCell (p := ⟨rb, 2, none⟩) hrb0 (.int .i64 y2)
                refine bodyPost_ret (results_cell_one rfl _ _ rb _ _ _ _ rfl kR.out Try.underlying65 rfl arr3_info) rfl ?_
                exact furthered_bad HF.out (by decide) hbF
            · have hlb : ((b.length : Int) != ((posB t.toNat 3 : Nat) : Int) + 1) = true := by simp; omega
              have HF : Hid (parE b = 4) := by
                show _ = _
                rw [HPE.out, if_pos hl]
              clear hl
              go_wp2
              have kR : Blk _ _ _ #[.int .i64 y0, .int .i64 y1, .int .i64 y2] := ((hRw.put 0 (.int .i64 y0)).put 1 (.int .i64 y1)).put 2 (.int .i64 y2)
              have hbF := ((hbr.setCell (p := ⟨rb, 0, none⟩) hrb0 (.int .i64 y0)).setCell (p := ⟨rb, 1, none⟩) hrb0 (.int .i64 y1)).setCell (p := ⟨rb, 2, none⟩) hrb0 (.int .i64 y2)
              refine bodyPost_ret (results_cell_one rfl _ _ rb _ _ _ _ rfl kR.out Try.underlying65 rfl arr3_info) rfl ?_
              exact furthered_bad HF.out (by decide) hbF
    · have hx0i : ((y0.toNat : Int) != 255) = true := by
        simp
        intro h
        exact hx0 (UInt8.toNat_inj.1 (show y0.toNat = 255 by omega))
      have HF : Hid (parE b = 4) := by
        show _ = _
        unfold parE headBad
        rw [e0, decide_eq_true hx0]
        simp
      have hR := hRX
      have HB := hbX
      obtain ⟨x0, hx0⟩ : ∃ x0 : Int, x0 = -1 := ⟨_, rfl⟩
      obtain ⟨x1, hx1⟩ : ∃ x1 : Int, x1 = -1 := ⟨_, rfl⟩
      obtain ⟨x2, hx2⟩ : ∃ x2 : Int, x2 = -1 := ⟨_, rfl⟩
      rw [← hx0] at l0
      rw [← hx1] at l1
      rw [← hx2] at l2
      clear hx0 hx1 hx2
      go_wp2
      have kR : Blk _ _ _ #[.int .i64 x0, .int .i64 x1, .int .i64 x2] := ((hR.put 0 (.int .i64 x0)).put 1 (.int .i64 x1)).put 2 (.int .i64 x2)
      have hbF := ((HB.setCell (p := ⟨rb, 0, none⟩) hrb0 (.int .i64 x0)).setCell (p := ⟨rb, 1, none⟩) hrb0 (.int .i64 x1)).setCell (p := ⟨rb, 2, none⟩) hrb0 (.int .i64 x2)
      refine bodyPost_ret (results_cell_one rfl _ _ rb _ _ _ _ rfl kR.out Try.underlying65 rfl arr3_info) rfl ?_
      exact furthered_bad HF.out (by decide) hbF
end Go.Proofs.Ytkhobpghiachoaa
