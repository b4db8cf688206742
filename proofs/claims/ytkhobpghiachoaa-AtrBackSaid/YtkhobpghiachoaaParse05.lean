/-
  A PPS, parsed: the program's walk.
-/
import Derived.Test.YtkhobpghiachoaaRemL05
import Derived.Test.YtkhobpghiachoaaAtr
import Derived.IntWalk
import Derived.Maps.OwnSet
namespace Go.Proofs.Ytkhobpghiachoaa
open Go.RowKit Crc Go.Maps
set_option linter.unusedVariables false

def bitB (t k : Nat) : Bool := decide (t / (16 * 2 ^ k) % 2 = 1)
/-- Where the byte of bit k lies. -/
def posB (t : Nat) : Nat → Nat
  | 0 => 2
  | k + 1 => posB t k + (if bitB t k = true then 1 else 0)
def tB (b : List UInt8) : Nat := (b.getD 1 0).toNat
def partB (b : List UInt8) (k : Nat) : Option UInt8 := if bitB (tB b) k = true then b[posB (tB b) k]? else none
def headBad (b : List UInt8) : Bool := decide (b.length < 2) || decide (b.getD 0 0 ≠ 255) || decide (128 ≤ tB b)
def parE (b : List UInt8) : Int := if headBad b = true then 4 else if b.length ≠ posB (tB b) 3 + 1 then 4 else remE b
theorem posB_le (t : Nat) : ∀ k, 2 ≤ posB t k ∧ posB t k ≤ 2 + k
  | 0 => by simp [posB]
  | k + 1 => by
    have h := posB_le t k
    unfold posB
    split <;> omega
theorem and_top : ∀ t : Fin 256, bits BinOp.and IntKind.u8 (t.val : Int) 128 = if 128 ≤ t.val then 128 else 0 := by decide +kernel
theorem and_top' (t : UInt8) : bits BinOp.and IntKind.u8 (t.toNat : Int) 128 = if 128 ≤ t.toNat then 128 else 0 := and_top ⟨t.toNat, t.toNat_lt⟩
theorem and_low : ∀ t : Fin 256, bits BinOp.and IntKind.u8 (t.val : Int) 15 = (t.val : Int) % 16 := by decide +kernel
theorem and_low' (t : UInt8) : bits BinOp.and IntKind.u8 (t.toNat : Int) 15 = (t.toNat : Int) % 16 := and_low ⟨t.toNat, t.toNat_lt⟩

/-- What a map of bytes by numbers holds. -/
def MapIs (D : DataW Unit) (f : Int → Option UInt8) : Prop :=
  IsMap D ∧ (∀ kl, Maps.has D kl = true → ∃ z v, kl = .int .i64 z ∧ f z = some v) ∧ ∀ z v, f z = some v → Maps.has D (.int .i64 z) = true ∧ ∀ y, D.atKey (.int .i64 z) y = .lit (.int .u8 (v.toNat : Int))
theorem mapIs_empty : MapIs (.map []) (fun _ => none) := by
  refine ⟨isMap_empty, ?_, ?_⟩
  · intro kl h
    cases h
  · intro z v h
    cases h
theorem MapIs.put {D : DataW Unit} {f : Int → Option UInt8} (h : MapIs D f) (z : Int) (v : UInt8) : MapIs (D.put (.int .i64 z) (.lit (.int .u8 (v.toNat : Int)))) (fun x => if x = z then some v else f x) := by
  obtain ⟨h1, h2, h3⟩ := h
  refine ⟨h1.put _ _, fun kl hk => ?_, fun z' v' hf => ?_⟩
  · by_cases e : kl = .int .i64 z
    · exact ⟨z, v, e, if_pos rfl⟩
    · rw [has_put_other e] at hk
      obtain ⟨z', v', e', hf⟩ := h2 kl hk
      refine ⟨z', v', e', ?_⟩
      show (if z' = z then some v else f z') = some v'
      rw [if_neg (fun h => e (by rw [e', h]))]
      exact hf
  · by_cases e : z' = z
    · subst e
      have hf2 : (if z' = z' then some v else f z') = some v' := hf
      rw [if_pos rfl] at hf2
      injection hf2 with hf
      subst hf
      have hk : WideAt.IsKeyLit (.int .i64 z') := by first | trivial | decide | exact True.intro | (simp [WideAt.IsKeyLit])
      exact ⟨has_put_same h1 hk _, fun y => atKey_put_same h1 hk _ y⟩
    · simp only [if_neg e] at hf
      obtain ⟨h4, h5⟩ := h3 z' v' hf
      have hne : (Lit.int .i64 z') ≠ .int .i64 z := fun h => e (by injection h)
      exact ⟨by rw [has_put_other hne]; exact h4, fun y => by rw [atKey_put_other hne]; exact h5 y⟩

theorem intLaw : Keyed Try.prog 3 := int_keyed Try.underlying3
def partsK (b : List UInt8) (k : Nat) (z : Int) : Option UInt8 := if 4 ≤ z ∧ z < 4 + (k : Int) then partB b (z - 4).toNat else none
theorem partsK_step (b : List UInt8) (k : Nat) (z : Int) : partsK b (k + 1) z = if z = 4 + (k : Int) then partB b k else partsK b k z := by
  unfold partsK
  by_cases h : z = 4 + (k : Int)
  · rw [if_pos h, if_pos (by omega)]
    rw [h, show ((4 + (k : Int)) - 4).toNat = k from by omega]
  · rw [if_neg h]
    by_cases h2 : 4 ≤ z ∧ z < 4 + (k : Int)
    · rw [if_pos h2, if_pos (by omega)]
    · rw [if_neg h2, if_neg (by omega)]

theorem bit_0 : ∀ t : Fin 256, (bits BinOp.and IntKind.u8 ((t.val : Int) / 16) 1 == 0) = !bitB t.val 0 := by decide +kernel
theorem bit_1 : ∀ t : Fin 256, (bits BinOp.and IntKind.u8 ((t.val : Int) / 32) 1 == 0) = !bitB t.val 1 := by decide +kernel
theorem bit_2 : ∀ t : Fin 256, (bits BinOp.and IntKind.u8 ((t.val : Int) / 64) 1 == 0) = !bitB t.val 2 := by decide +kernel
theorem bit_0' (t : UInt8) {x : Bool} (h : bitB t.toNat 0 = x) : (bits BinOp.and IntKind.u8 ((t.toNat : Int) / 16) 1 == 0) = !x := by rw [← h]; exact bit_0 ⟨t.toNat, t.toNat_lt⟩
theorem bit_1' (t : UInt8) {x : Bool} (h : bitB t.toNat 1 = x) : (bits BinOp.and IntKind.u8 ((t.toNat : Int) / 32) 1 == 0) = !x := by rw [← h]; exact bit_1 ⟨t.toNat, t.toNat_lt⟩
theorem bit_2' (t : UInt8) {x : Bool} (h : bitB t.toNat 2 = x) : (bits BinOp.and IntKind.u8 ((t.toNat : Int) / 64) 1 == 0) = !x := by rw [← h]; exact bit_2 ⟨t.toNat, t.toNat_lt⟩
theorem partsK_none (b : List UInt8) (k : Nat) (h : partB b k = none) : partsK b (k + 1) = partsK b k := by
  funext z
  rw [partsK_step]
  by_cases e : z = 4 + (k : Int)
  · rw [if_pos e, h]
    unfold partsK
    rw [if_neg (by omega)]
  · rw [if_neg e]
theorem partsK_some (b : List UInt8) (k : Nat) (v : UInt8) (h : partB b k = some v) : partsK b (k + 1) = fun z => if z = 4 + (k : Int) then some v else partsK b k z := by
  funext z
  rw [partsK_step, h]
theorem u8_wfF : ∀ t : Fin 256, (Lit.int .u8 (t.val : Int)).wf = true := by decide +kernel
theorem u8_wf (v : UInt8) : (Lit.int .u8 (v.toNat : Int)).wf = true := u8_wfF ⟨v.toNat, v.toNat_lt⟩
theorem ownsMap_below {P : Program} {k : TypeId} {R : Value → Option (DataW Unit × List MemPlace)} {b n : Nat} {D : DataW Unit} {w w' : World} (h : w.ownsMap P k R b n D) (hb : Below w.heap.size w w') : w'.ownsMap P k R b n D := by
  have hlt := h.lt
  obtain ⟨es, clock, h1, h2⟩ := h
  exact ⟨es, clock, (hb.block b hlt).trans h1, h2⟩
/-- What parse hands back. -/
def Parsed (b : List UInt8) (w : World) (e : Ending) (w' : World) : Prop :=
  ∃ mv, e = .returned (.tuple #[.int .i64 (if parE b = 0 then (tB b : Int) % 16 else 0), mv, .int .i64 (parE b)]) ∧
    (parE b = 0 → ∃ B D, mv = .map (some B) ∧ w.heap.size ≤ B ∧ w'.ownsMap Try.prog 3 (plainElem Try.prog 5) B 3 D ∧ MapIs D (partsK b 3)) ∧ Below w.heap.size w w'
theorem parsed_bad {b : List UInt8} {w w' : World} {mv : Value} {E : Int} (h : parE b = E) (h0 : E ≠ 0) (hb : Below w.heap.size w w') : Parsed b w (.returned (.tuple #[.int .i64 0, mv, .int .i64 E])) w' := by
  refine ⟨mv, ?_, fun h1 => absurd (h.symm.trans h1) h0, hb⟩
  rw [h, if_neg h0]
set_option maxRecDepth 100000 in
set_option maxHeartbeats 4000000 in
theorem parse_go (A : Option Addr) (c : Nat) (b : List UInt8) (w : World) (hs : b.length ≤ 60000) (hc : b.length ≤ c) (hr : RB w A b) :
    Calls Try.prog 44 #[.slice A b.length c] w (Parsed b w) := by
  by_cases h2 : b.length < 2
  · have HF : Hid (parE b = 4) := by
      show _ = _
      unfold parE headBad
      rw [decide_eq_true h2]
      simp
    have h2i : (b.length : Int) < 2 := by omega
    go_enter Try.func44, Try.ntmps44
    go_wp2
    go_ret3
    exact parsed_bad HF.out (by decide) (Below.refl _ _)
  · obtain ⟨bb, bo, rfl, hcel⟩ := hr.at_ (by omega)
    have z0 : w.cell? ⟨bb, bo, none⟩ = some (.int .u8 ((b[0]'(by omega)).toNat : Int)) := hcel 0 (by omega)
    have z1 : w.cell? ⟨bb, bo + 1, none⟩ = some (.int .u8 ((b[1]'(by omega)).toNat : Int)) := hcel 1 (by omega)
    have e0 : b.getD 0 0 = b[0]'(by omega) := by simp [List.getD, show 0 < b.length from by omega]
    have e1 : tB b = (b[1]'(by omega)).toNat := by unfold tB; simp [List.getD, show 1 < b.length from by omega]
    have h2i : ¬ ((b.length : Int) < 2) := by omega
    have h2d := decide_eq_false h2i
    have hlp : (1 : Int) < (b.length : Int) := by omega
    have hlp0 : (0 : Int) < (b.length : Int) := by omega
    generalize b[0]'(by omega) = x0 at z0 e0
    generalize b[1]'(by omega) = t at z1 e1
    have hat := and_top' t
    by_cases hx0 : x0 = 255
    · subst hx0
      by_cases ht : 128 ≤ t.toNat
      · rw [if_pos ht] at hat
        have HF : Hid (parE b = 4) := by
          show _ = _
          unfold parE headBad
          rw [e1, decide_eq_true ht]
          simp
        go_enter Try.func44, Try.ntmps44
        go_wp2
        go_ret3
        exact parsed_bad HF.out (by decide) (Below.refl _ _)
      · rw [if_neg ht] at hat
        have hmm := @run_makeMap Try.prog
        go_enter Try.func44, Try.ntmps44
        go_upto_region 4 with fail
        have hm0 := World.ownsMap_made (H := Unit) w Try.prog 3 (plainElem Try.prog 5)
        have hb0 := (Below.refl w.heap.size w).alloc (Nat.le_refl _) (.map #[] 0)
        have hmi : MapIs (.map []) (partsK b 0) := by
          have h := mapIs_empty
          have e : partsK b 0 = fun _ => none := by
            funext z
            unfold partsK
            rw [if_neg (by omega)]
          rw [e]
          exact h
        clear hmm
        go_wp2
        go_loopw [5, 7] (fun at' bt wx => ∃ (k : Nat) (D : DataW Unit), k ≤ 3 ∧ at' = .int .i64 (posB t.toNat k) ∧ bt = .int .i64 (4 + (k : Int)) ∧ wx.ownsMap Try.prog 3 (plainElem Try.prog 5) w.heap.size k D ∧ MapIs D (partsK b k) ∧ Below w.heap.size w wx) (fun _ bt _ => 10 - (intOf bt).toNat)
        case atStart => exact ⟨0, _, by omega, rfl, rfl, hm0, hmi, hb0⟩
        case round =>
          obtain ⟨k, D, hk3, rfl, rfl, hown, hMI, hbr⟩ := hrel
          clear hm0 hmi hb0
          have y1 := (hbr.cell (cell?_lt z1)).trans z1
          have hposb := posB_le t.toNat k
          rcases (show k = 0 ∨ k = 1 ∨ k = 2 ∨ k = 3 from by omega) with rfl | rfl | rfl | rfl
          · rcases hbt : bitB t.toNat 0 with _ | _
            · have hb := bit_0' t hbt
              have hP : posB t.toNat 1 = posB t.toNat 0 := by
                show posB t.toNat 0 + _ = _
                rw [hbt]
                simp
              have HMI : Hid (MapIs D (partsK b 1)) := by
                show MapIs _ _
                rw [partsK_none b 0 (by unfold partB; rw [e1, hbt]; rfl)]
                exact hMI
              clear hbt
              have hPH := Lib.hid hP
              clear hP
              go_wp2
              go_roundw
              case rel => exact ⟨1, D, by omega, by rw [hPH.out], by go_num, hown.mono (by omega), HMI.out, hbr⟩
              case measure => simp [intOf]
            · have hb := bit_0' t hbt
              have hP : posB t.toNat 1 = posB t.toNat 0 + 1 := by
                show posB t.toNat 0 + _ = _
                rw [hbt]
                simp
              have hPH := Lib.hid hP
              clear hP
              by_cases hq : posB t.toNat 0 < b.length
              · have yq : wr.cell? ⟨bb, bo + posB t.toNat 0, none⟩ = some (.int .u8 ((b[posB t.toNat 0]).toNat : Int)) := (hbr.cell (cell?_lt (hcel _ hq))).trans (hcel _ hq)
                have HPT : Hid (partB b 0 = some b[posB t.toNat 0]) := by
                  show _ = _
                  unfold partB
                  rw [e1, hbt, if_pos rfl, List.getElem?_eq_getElem hq]
                clear hbt
                generalize b[posB t.toNat 0] = vq at yq HPT
                have HMI : Hid (MapIs (D.put (.int .i64 4) (.lit (.int .u8 (vq.toNat : Int)))) (partsK b 1)) := by
                  show MapIs _ _
                  rw [partsK_some b 0 vq HPT.out]
                  exact hMI.put 4 vq
                have hqi : ((posB t.toNat 0 : Nat) : Int) < (b.length : Int) := by omega
                have hq0 : (0 : Int) ≤ ((posB t.toNat 0 : Nat) : Int) := by omega
                have hwf := u8_wf vq
                go_wp2_with (at_mapUpdate; refine wpList_mapUpdate_own _ rfl _ _ _ 62 rfl 3 5 intLaw Try.underlying62 _ w.heap.size 0 D rfl hown (by unfold maxLen; omega) _ _ _ rfl rfl (keyOf_int_mk Try.underlying3 (a := 4) (by decide)) _ [] (plainElem_int Try.underlying5 hwf) ?_; intro w1 hown1 hgrow1)
                go_roundw
                case rel => exact ⟨1, _, by omega, by rw [hPH.out]; go_num, by go_num, hown1, HMI.out, hbr.grown hgrow1 hbr.size (fun j hj => by cases hj; exact Nat.le_refl _)⟩
                case measure => simp [intOf]
              · have HPT : Hid (partB b 0 = none) := by
                  show _ = _
                  unfold partB
                  rw [e1, hbt, if_pos rfl, List.getElem?_eq_none (by omega)]
                clear hbt
                have HMI : Hid (MapIs D (partsK b 1)) := by
                  show MapIs _ _
                  rw [partsK_none b 0 HPT.out]
                  exact hMI
                have hqi : ¬ (((posB t.toNat 0 : Nat) : Int) < (b.length : Int)) := by omega
                go_wp2
                go_roundw
                case rel => exact ⟨1, D, by omega, by rw [hPH.out]; go_num, by go_num, hown.mono (by omega), HMI.out, hbr⟩
                case measure => simp [intOf]
          · rcases hbt : bitB t.toNat 1 with _ | _
            · have hb := bit_1' t hbt
              have hP : posB t.toNat 2 = posB t.toNat 1 := by
                show posB t.toNat 1 + _ = _
                rw [hbt]
                simp
              have HMI : Hid (MapIs D (partsK b 2)) := by
                show MapIs _ _
                rw [partsK_none b 1 (by unfold partB; rw [e1, hbt]; rfl)]
                exact hMI
              clear hbt
              have hPH := Lib.hid hP
              clear hP
              go_wp2
              go_roundw
              case rel => exact ⟨2, D, by omega, by rw [hPH.out], by go_num, hown.mono (by omega), HMI.out, hbr⟩
              case measure => simp [intOf]
            · have hb := bit_1' t hbt
              have hP : posB t.toNat 2 = posB t.toNat 1 + 1 := by
                show posB t.toNat 1 + _ = _
                rw [hbt]
                simp
              have hPH := Lib.hid hP
              clear hP
              by_cases hq : posB t.toNat 1 < b.length
              · have yq : wr.cell? ⟨bb, bo + posB t.toNat 1, none⟩ = some (.int .u8 ((b[posB t.toNat 1]).toNat : Int)) := (hbr.cell (cell?_lt (hcel _ hq))).trans (hcel _ hq)
                have HPT : Hid (partB b 1 = some b[posB t.toNat 1]) := by
                  show _ = _
                  unfold partB
                  rw [e1, hbt, if_pos rfl, List.getElem?_eq_getElem hq]
                clear hbt
                generalize b[posB t.toNat 1] = vq at yq HPT
                have HMI : Hid (MapIs (D.put (.int .i64 5) (.lit (.int .u8 (vq.toNat : Int)))) (partsK b 2)) := by
                  show MapIs _ _
                  rw [partsK_some b 1 vq HPT.out]
                  exact hMI.put 5 vq
                have hqi : ((posB t.toNat 1 : Nat) : Int) < (b.length : Int) := by omega
                have hq0 : (0 : Int) ≤ ((posB t.toNat 1 : Nat) : Int) := by omega
                have hwf := u8_wf vq
                go_wp2_with (at_mapUpdate; refine wpList_mapUpdate_own _ rfl _ _ _ 62 rfl 3 5 intLaw Try.underlying62 _ w.heap.size 1 D rfl hown (by unfold maxLen; omega) _ _ _ rfl rfl (keyOf_int_mk Try.underlying3 (a := 5) (by decide)) _ [] (plainElem_int Try.underlying5 hwf) ?_; intro w1 hown1 hgrow1)
                go_roundw
                case rel => exact ⟨2, _, by omega, by rw [hPH.out]; go_num, by go_num, hown1, HMI.out, hbr.grown hgrow1 hbr.size (fun j hj => by cases hj; exact Nat.le_refl _)⟩
                case measure => simp [intOf]
              · have HPT : Hid (partB b 1 = none) := by
                  show _ = _
                  unfold partB
                  rw [e1, hbt, if_pos rfl, List.getElem?_eq_none (by omega)]
                clear hbt
                have HMI : Hid (MapIs D (partsK b 2)) := by
                  show MapIs _ _
                  rw [partsK_none b 1 HPT.out]
                  exact hMI
                have hqi : ¬ (((posB t.toNat 1 : Nat) : Int) < (b.length : Int)) := by omega
                go_wp2
                go_roundw
                case rel => exact ⟨2, D, by omega, by rw [hPH.out]; go_num, by go_num, hown.mono (by omega), HMI.out, hbr⟩
                case measure => simp [intOf]
          · rcases hbt : bitB t.toNat 2 with _ | _
            · have hb := bit_2' t hbt
              have hP : posB t.toNat 3 = posB t.toNat 2 := by
                show posB t.toNat 2 + _ = _
                rw [hbt]
                simp
              have HMI : Hid (MapIs D (partsK b 3)) := by
                show MapIs _ _
                rw [partsK_none b 2 (by unfold partB; rw [e1, hbt]; rfl)]
                exact hMI
              clear hbt
              have hPH := Lib.hid hP
              clear hP
              go_wp2
              go_roundw
              case rel => exact ⟨3, D, by omega, by rw [hPH.out], by go_num, hown.mono (by omega), HMI.out, hbr⟩
              case measure => simp [intOf]
            · have hb := bit_2' t hbt
              have hP : posB t.toNat 3 = posB t.toNat 2 + 1 := by
                show posB t.toNat 2 + _ = _
                rw [hbt]
                simp
              have hPH := Lib.hid hP
              clear hP
              by_cases hq : posB t.toNat 2 < b.length
              · have yq : wr.cell? ⟨bb, bo + posB t.toNat 2, none⟩ = some (.int .u8 ((b[posB t.toNat 2]).toNat : Int)) := (hbr.cell (cell?_lt (hcel _ hq))).trans (hcel _ hq)
                have HPT : Hid (partB b 2 = some b[posB t.toNat 2]) := by
                  show _ = _
                  unfold partB
                  rw [e1, hbt, if_pos rfl, List.getElem?_eq_getElem hq]
                clear hbt
                generalize b[posB t.toNat 2] = vq at yq HPT
                have HMI : Hid (MapIs (D.put (.int .i64 6) (.lit (.int .u8 (vq.toNat : Int)))) (partsK b 3)) := by
                  show MapIs _ _
                  rw [partsK_some b 2 vq HPT.out]
                  exact hMI.put 6 vq
                have hqi : ((posB t.toNat 2 : Nat) : Int) < (b.length : Int) := by omega
                have hq0 : (0 : Int) ≤ ((posB t.toNat 2 : Nat) : Int) := by omega
                have hwf := u8_wf vq
                go_wp2_with (at_mapUpdate; refine wpList_mapUpdate_own _ rfl _ _ _ 62 rfl 3 5 intLaw Try.underlying62 _ w.heap.size 2 D rfl hown (by unfold maxLen; omega) _ _ _ rfl rfl (keyOf_int_mk Try.underlying3 (a := 6) (by decide)) _ [] (plainElem_int Try.underlying5 hwf) ?_; intro w1 hown1 hgrow1)
                go_roundw
                case rel => exact ⟨3, _, by omega, by rw [hPH.out]; go_num, by go_num, hown1, HMI.out, hbr.grown hgrow1 hbr.size (fun j hj => by cases hj; exact Nat.le_refl _)⟩
                case measure => simp [intOf]
              · have HPT : Hid (partB b 2 = none) := by
                  show _ = _
                  unfold partB
                  rw [e1, hbt, if_pos rfl, List.getElem?_eq_none (by omega)]
                clear hbt
                have HMI : Hid (MapIs D (partsK b 3)) := by
                  show MapIs _ _
                  rw [partsK_none b 2 HPT.out]
                  exact hMI
                have hqi : ¬ (((posB t.toNat 2 : Nat) : Int) < (b.length : Int)) := by omega
                go_wp2
                go_roundw
                case rel => exact ⟨3, D, by omega, by rw [hPH.out]; go_num, by go_num, hown.mono (by omega), HMI.out, hbr⟩
                case measure => simp [intOf]
          · have hr' := hr.below hbr
            have hHB : headBad b = false := by
              unfold headBad
              rw [decide_eq_false h2, decide_eq_false (by rw [e0]; simp), decide_eq_false (by rw [e1]; exact ht)]
              rfl
            have hPE : parE b = if b.length ≠ posB t.toNat 3 + 1 then 4 else remE b := by
              unfold parE
              rw [hHB, e1]
              rfl
            by_cases hl : b.length = posB t.toNat 3 + 1
            · have hlb : ((b.length : Int) != ((posB t.toNat 3 : Nat) : Int) + 1) = false := by simp; omega
              have hPR : Hid (parE b = remE b) := by
                show _ = _
                rw [hPE, if_neg (by omega)]
              clear hPE hl
              go_wp2_with fail
              refine (remL_any (some ⟨bb, bo, none⟩) c b wr (by omega) hc hr' (by omega)).mono ?_
              rintro e w3 ⟨v3, rfl, hb3⟩
              have hown3 := ownsMap_below hown hb3
              have y3 := (hb3.cell (cell?_lt y1)).trans y1
              have hb3' := hbr.trans (hb3.mono hbr.size)
              have hal := and_low' t
              rw [← hPR.out]
              by_cases hz : parE b = 0
              · have HZ := Lib.hid hz
                rw [hz]
                clear hz
                go_wp2
                go_ret3
                refine ⟨_, ?_, fun _ => ⟨w.heap.size, D, rfl, Nat.le_refl _, hown3, hMI⟩, hb3'⟩
                rw [HZ.out, if_pos rfl, e1]
                rfl
              · have hzb : (parE b != 0) = true := by simpa using hz
                have HZ := Lib.hid hz
                clear hz
                obtain ⟨pe, hpe⟩ : ∃ pe, pe = parE b := ⟨_, rfl⟩
                rw [← hpe] at hzb
                rw [← hpe]
                have HPE := Lib.hid hpe
                clear hpe hPR
                go_wp2
                go_ret3
                exact parsed_bad HPE.out.symm (by rw [HPE.out]; exact HZ.out) hb3'
            · have hlb : ((b.length : Int) != ((posB t.toNat 3 : Nat) : Int) + 1) = true := by simp; omega
              have HF : Hid (parE b = 4) := by
                show _ = _
                rw [hPE, if_pos hl]
              clear hPE hl
              go_wp2
              go_ret3
              exact parsed_bad HF.out (by decide) hbr
    · have hx0i : ((x0.toNat : Int) != 255) = true := by
        simp
        intro h
        exact hx0 (UInt8.toNat_inj.1 (show x0.toNat = 255 by omega))
      have HF : Hid (parE b = 4) := by
        show _ = _
        unfold parE headBad
        rw [e0, decide_eq_true hx0]
        simp
      go_enter Try.func44, Try.ntmps44
      go_wp2
      go_ret3
      exact parsed_bad HF.out (by decide) (Below.refl _ _)
end Go.Proofs.Ytkhobpghiachoaa
