/-
  The groups of an answer to reset: the walk.
-/
import Derived.Test.YtkhobpghiachoaaGrpL
import Derived.Laws.OwnMore
namespace Go.Proofs.Ytkhobpghiachoaa
open Go.RowKit
set_option linter.unusedVariables false

def maxG (n0 : Int) (l : List If) : Int := l.foldl (fun n x => if n < x.g then x.g else n) n0
def secB (l : List If) : Bool := l.any fun x => decide (3 ≤ x.g) && decide (x.p = 1)
theorem maxG_take {n0 : Int} {l : List If} {k : Nat} (h : k < l.length) : maxG n0 (l.take (k + 1)) = (if maxG n0 (l.take k) < l[k].g then l[k].g else maxG n0 (l.take k)) := by
  unfold maxG
  rw [List.take_succ_eq_append_getElem h, List.foldl_append]
  rfl
theorem secB_take {l : List If} {k : Nat} (h : k < l.length) : secB (l.take (k + 1)) = (secB (l.take k) || (decide (3 ≤ l[k].g) && decide (l[k].p = 1))) := by
  unfold secB
  rw [List.take_succ_eq_append_getElem h, List.any_append]
  simp

theorem gT : SliceT Try.prog 74 77 (.agg #[.int .i64 0, .slice none 0 0]) 2 32 := ⟨Try.underlying74, by kernel_rfl, rfl, by omega, by omega⟩
def gZ : Gm := ⟨0, .slice none 0 0, []⟩
theorem made_g (m : Nat) : madeCells #[.int .i64 0, .slice none 0 0] (m * 2) = gcs (List.replicate m gZ) := by
  apply Array.ext_getElem?
  intro i
  have hl : (List.replicate m gZ).length = m := by simp
  by_cases hi : i < m * 2
  · have h1 : (gcs (List.replicate m gZ))[i]? = (gL gZ)[i % 2]? := by
      unfold gcs
      rw [List.getElem?_toArray]
      have hk : i / 2 < (List.replicate m gZ).length := by rw [hl]; omega
      have h := flat_get gL (s := 2) (fun _ => rfl) (List.replicate m gZ) (i / 2) (i % 2) hk (by omega)
      rw [show i / 2 * 2 + i % 2 = i from by omega] at h
      rw [h]
      simp
    rw [h1]
    have h2 : i % 2 = 0 ∨ i % 2 = 1 := by omega
    have h3 : (madeCells #[.int .i64 0, .slice none 0 0] (m * 2))[i]? = some ((#[.int .i64 0, .slice none 0 0] : Array Value)[i % 2]!) := by
      unfold madeCells
      simp [hi]
    rw [h3]
    rcases h2 with h2 | h2 <;> rw [h2] <;> rfl
  · have h1 : (gcs (List.replicate m gZ)).size ≤ i := by
      unfold gcs
      rw [List.size_toArray, flat_length gL (s := 2) (fun _ => rfl), hl]
      omega
    have h2 : (madeCells #[.int .i64 0, .slice none 0 0] (m * 2)).size ≤ i := by rw [size_madeCells]; omega
    rw [Array.getElem?_eq_none h1, Array.getElem?_eq_none h2]
theorem make_g (m : Nat) (hm : m ≤ 1000) (w : World) : (Instr.makeSlice 74 (.int .i64 (m : Int)) (.int .i64 (m : Int))).run Try.prog w = .ok (.slice (some ⟨w.heap.size, 0, none⟩) m m) (w.alloc (.cells (gcs (List.replicate m gZ)) 77)) := by
  obtain ⟨i, hi, hz, h2, h3⟩ := info_parts gT.info
  have hr := run_make (P := Try.prog) w 74 77 i _ gT.und hi hz .i64 .i64 (m : Int) (m : Int) (by omega) (Int.le_refl _) (by rw [h3]; omega) (by omega)
  simp only [Int.toNat_natCast] at hr
  rw [h2] at hr
  rw [hr, ← made_g]
  rfl

theorem maxG_ge : ∀ (l : List If) (n0 : Int), n0 ≤ maxG n0 l ∧ ∀ x ∈ l, x.g ≤ maxG n0 l
  | [], n0 => ⟨Int.le_refl _, fun x hx => by simp at hx⟩
  | y :: l, n0 => by
    have ih := maxG_ge l (if n0 < y.g then y.g else n0)
    have e : maxG n0 (y :: l) = maxG (if n0 < y.g then y.g else n0) l := rfl
    rw [e]
    have h1 : n0 ≤ (if n0 < y.g then y.g else n0) ∧ y.g ≤ (if n0 < y.g then y.g else n0) := by split <;> omega
    refine ⟨by omega, fun x hx => ?_⟩
    rcases List.mem_cons.1 hx with rfl | hx
    · omega
    · exact ih.2 x hx
/-- The protocols that the groups have at first; of k groups. -/
def pI (p0 : Int) (j : Nat) : Int := if j = 1 then p0 else if 1 < j then 1 else 0
def gI (p0 : Int) (m k : Nat) : List Gm := (List.range m).map fun j => ⟨if j < k then pI p0 j else 0, .slice none 0 0, []⟩
theorem gI_length (p0 : Int) (m k : Nat) : (gI p0 m k).length = m := by simp [gI]
theorem gI_zero (p0 : Int) (m : Nat) : List.replicate m gZ = gI p0 m 0 := by
  apply List.ext_getElem
  · simp [gI]
  · intro i h1 h2
    simp [gI, gZ]
theorem gI_get (p0 : Int) (m k i : Nat) (h : i < (gI p0 m k).length) : (gI p0 m k)[i] = ⟨if i < k then pI p0 i else 0, .slice none 0 0, []⟩ := by simp [gI]
theorem gI_set (p0 : Int) (m k : Nat) (h : k < (gI p0 m k).length) : (gI p0 m k).set k ⟨pI p0 k, (gI p0 m k)[k].v, (gI p0 m k)[k].xs⟩ = gI p0 m (k + 1) := by
  apply List.ext_getElem
  · simp [gI]
  · intro i h1 h2
    by_cases hik : k = i
    · subst hik
      simp only [List.getElem_set_self, gI_get]
      simp
    · simp only [List.getElem_set_ne hik, gI_get]
      have : (i < k) = (i < k + 1) := by apply propext; omega
      simp only [this]
theorem gI_one (p0 : Int) (m : Nat) : gI p0 m 0 = gI p0 m 1 := by
  apply List.ext_getElem
  · simp [gI]
  · intro i h1 h2
    simp only [gI_get]
    by_cases h0 : i = 0
    · subst h0; rfl
    · simp [h0]
/-- What is said of a group: its protocol and its bytes. -/
def gS (G : List Gm) : List (Int × List If) := G.map fun m => (m.p, m.xs)
def addG (G : List (Int × List If)) (x : If) : List (Int × List If) := match G[(x.g - 1).toNat]? with | some (p, l) => G.set (x.g - 1).toNat (if 3 ≤ x.g then x.p else p, l ++ [x]) | none => G
def grpF (p0 : Int) (m : Nat) (l : List If) : List (Int × List If) := l.foldl addG (gS (gI p0 m m))
def numF (p0 : Int) (pn : Nat) (l : List If) : Int := if pn = 2 ∧ secB l = false then (if maxG (if p0 = 1 then 2 else 1) l + 1 < 3 then 3 else maxG (if p0 = 1 then 2 else 1) l + 1) else maxG (if p0 = 1 then 2 else 1) l
/-- What the groups come to in memory. -/
def Grouped (p0 : Int) (pn : Nat) (l : List If) (w : World) (e : Ending) (w' : World) : Prop :=
  ∃ (m gb : Nat) (G : List Gm), (m : Int) = numF p0 pn l ∧ 1 ≤ m ∧ m ≤ 34 ∧ e = .returned (.slice (some ⟨gb, 0, none⟩) m m) ∧ GOwn w' gb G ∧ G.length = m ∧ gS G = grpF p0 m l ∧ w.heap.size ≤ gb ∧ Below w.heap.size w w'
theorem grpF_take {p0 : Int} {m : Nat} {l : List If} {k : Nat} (h : k < l.length) : grpF p0 m (l.take (k + 1)) = addG (grpF p0 m (l.take k)) l[k] := by
  unfold grpF
  rw [List.take_succ_eq_append_getElem h, List.foldl_append]
  rfl
theorem addG_len {G : List (Int × List If)} {x : If} {n : Nat} (h : ∀ e ∈ G, e.2.length ≤ n) : ∀ e ∈ addG G x, e.2.length ≤ n + 1 := by
  intro e he
  unfold addG at he
  rcases hq : G[(x.g - 1).toNat]? with _ | ⟨p, l⟩
  · rw [hq] at he
    exact Nat.le_succ_of_le (h e he)
  · rw [hq] at he
    rcases List.mem_or_eq_of_mem_set he with he | rfl
    · exact Nat.le_succ_of_le (h e he)
    · have hm := List.mem_of_getElem? hq
      have := h _ hm
      simp
      exact this
theorem grpF_len (p0 : Int) (m : Nat) (l : List If) : ∀ k, k ≤ l.length → ∀ e ∈ grpF p0 m (l.take k), e.2.length ≤ k
  | 0, _ => by
    intro e he
    simp [grpF, gS, gI] at he
    obtain ⟨j, _, rfl⟩ := he
    simp
  | k + 1, hk => by
    rw [grpF_take (by omega)]
    exact addG_len (grpF_len p0 m l k (by omega))
theorem addG_set {G : List Gm} {x : If} {q : Nat} (hq : q < G.length) (hx : x.g = (q : Int) + 1) (v : Value) : addG (gS G) x = gS (G.set q ⟨if 3 ≤ x.g then x.p else G[q].p, v, G[q].xs ++ [x]⟩) := by
  unfold addG
  rw [show (x.g - 1).toNat = q from by omega]
  have h1 : (gS G)[q]? = some (G[q].p, G[q].xs) := by simp [gS, hq]
  rw [h1]
  simp [gS, List.map_set]

set_option maxRecDepth 100000 in
set_option maxHeartbeats 4000000 in
theorem groups_go (aI : Bool) (bA : Option Addr) (bC : Nat) (bs : List If) (pb po pC : Nat) (p0 : Int) (pn : Nat) (hA : Option Addr) (hC : Nat) (hs : List UInt8) (w : World)
    (hb : RC w bA (ifv bs)) (hp : w.cell? ⟨pb, po, none⟩ = some (.int .i64 p0)) (hbl : bs.length ≤ 1048576) (hpn : 0 < pn) (hpn2 : pn ≤ 2) (hg : ∀ x ∈ bs, 1 ≤ x.g ∧ x.g ≤ 33) :
    Calls Try.prog 52 #[.agg #[.bool aI, .slice bA bs.length bC, .slice (some ⟨pb, po, none⟩) pn pC, .slice hA hs.length hC]] w (Grouped p0 pn bs w) := by
  have hk0 := Blk.made w 27 #[.bool aI, .slice bA bs.length bC, .slice (some ⟨pb, po, none⟩) pn pC, .slice hA hs.length hC]
  have hb0 := (Below.refl w.heap.size w).alloc (Nat.le_refl _) (.cells #[.bool aI, .slice bA bs.length bC, .slice (some ⟨pb, po, none⟩) pn pC, .slice hA hs.length hC] 27)
  obtain ⟨W0, hW0⟩ : ∃ W0 : World, W0 = w.alloc (.cells #[.bool aI, .slice bA bs.length bC, .slice (some ⟨pb, po, none⟩) pn pC, .slice hA hs.length hC] 27) := ⟨_, rfl⟩
  rw [← hW0] at hk0 hb0
  have hbv := hb.below hb0
  have n1 : W0.cell? ⟨w.heap.size, 1, none⟩ = some (.slice bA bs.length bC) := hk0.cell 1
  have n2 : W0.cell? ⟨w.heap.size, 2, none⟩ = some (.slice (some ⟨pb, po, none⟩) pn pC) := hk0.cell 2
  have hp0 := (hb0.cell (cell?_lt hp)).trans hp
  have hpi : (0 : Int) < (pn : Int) := by omega
  go_enter Try.func52, Try.ntmps52
  go_upto_region 1 with fail
  rw [← hW0]
  clear hW0
  go_upto_region 2 with fail
  go_cut [16] (fun s wx => s = .bool (decide (p0 = 1)) ∧ wx = W0)
  case first =>
    by_cases h1 : p0 = 1
    · have h1b : (p0 == 1) = true := by simpa using h1
      go_wp2_with fail
      go_meet
      exact ⟨by rw [decide_eq_true h1], rfl⟩
    · have h1b : (p0 == 1) = false := by simpa using h1
      go_wp2_with fail
      go_meet
      exact ⟨by rw [decide_eq_false h1], rfl⟩
  case rest =>
    obtain ⟨rfl, hw⟩ := hcut
    have hw := hw.symm
    subst hw
    obtain ⟨n0, hn0⟩ : ∃ n0 : Int, n0 = (if p0 = 1 then 2 else 1) := ⟨_, rfl⟩
    have HN0 := Lib.hid hn0
    have hn0b : 1 ≤ n0 ∧ n0 ≤ 2 := by rw [hn0]; split <;> omega
    clear hn0
    go_upto_if 16 with fail
    go_cut [3] (fun s wx => s = .int .i64 n0 ∧ wx = W0)
    case first =>
      by_cases h1 : p0 = 1
      · have h2 : Hid (n0 = 2) := by rw [HN0.out, if_pos h1]; rfl
        rw [decide_eq_true h1]
        go_wp2_with fail
        go_meet
        exact ⟨by rw [h2.out], rfl⟩
      · have h2 : Hid (n0 = 1) := by rw [HN0.out, if_neg h1]; rfl
        rw [decide_eq_false h1]
        go_wp2_with fail
        go_meet
        exact ⟨by rw [h2.out], rfl⟩
    case rest =>
      obtain ⟨rfl, hw⟩ := hcut
      have hw := hw.symm
      subst hw
      go_wp2
      go_loopw [3, 4, 20] (fun n s i wx => ∃ k : Nat, ∃ z : Int, ∃ c : Bool, k ≤ bs.length ∧ n = .int .i64 z ∧ s = .bool c ∧ i = .int .i64 k ∧ Hid (z = maxG n0 (bs.take k)) ∧ Hid (c = secB (bs.take k)) ∧ 1 ≤ z ∧ z ≤ 33 ∧ Below W0.heap.size W0 wx) (fun _ _ i _ => bs.length - (intOf i).toNat)
      case atStart => exact ⟨0, n0, false, Nat.zero_le _, rfl, rfl, rfl, rfl, rfl, by omega, by omega, Below.refl _ _⟩
      case round =>
        obtain ⟨k, z, c, hkl, rfl, rfl, rfl, hz, hcc, hz1, hz2, hbr⟩ := hrel
        by_cases h1 : k < bs.length
        · obtain ⟨bb, bo, rfl, hbx⟩ := RC.elem ifL (s := 4) (fun _ => rfl) (hbv.below hbr) k h1 (by decide)
          have hkk := hg bs[k] (List.getElem_mem h1)
          have z0 : wr.cell? ⟨bb, bo + k * 4, none⟩ = some (.int .i64 bs[k].g) := hbx 0 (by decide)
          have z1 : wr.cell? ⟨bb, bo + k * 4 + 1, none⟩ = some (.int .i64 bs[k].k) := by rw [Nat.add_assoc]; exact hbx 1 (by decide)
          have z2 : wr.cell? ⟨bb, bo + k * 4 + 2, none⟩ = some (.int .i64 bs[k].v) := by rw [Nat.add_assoc]; exact hbx 2 (by decide)
          have z3 : wr.cell? ⟨bb, bo + k * 4 + 3, none⟩ = some (.int .i64 bs[k].p) := by rw [Nat.add_assoc]; exact hbx 3 (by decide)
          have hbb : bb < wr.heap.size := cell?_lt z0
          have HM := Lib.hid (maxG_take (n0 := n0) h1)
          have HS := Lib.hid (secB_take h1)
          clear hbx
          generalize bs[k] = x at z0 z1 z2 z3 hkk HM HS
          obtain ⟨g, kd, v, p⟩ := x
          simp only at z0 z1 z2 z3 hkk HM HS
          obtain ⟨hg1, hg33⟩ := hkk
          have hi1 : (0 : Int) ≤ (k : Int) := by omega
          have hi2 : (k : Int) < (bs.length : Int) := by omega
          cases c
          · by_cases h3 : 3 ≤ g
            · have HB : Hid ((p == 1) = (false || (decide (3 ≤ g) && decide (p = 1)))) := by
                show _ = _
                rw [decide_eq_true h3, Bool.eq_iff_iff]
                simp
              go_wp2
              go_roundw
              case rel => exact ⟨k + 1, _, _, by omega, rfl, rfl, by go_num, by rw [HM.out, ← hz.out]; exact rfl, by rw [HS.out, ← hcc.out]; exact HB.out, by split <;> omega, by split <;> omega, hbr.alloc hbr.size _⟩
              case measure => simp [intOf]; omega
            · have HB : Hid (false = (false || (decide (3 ≤ g) && decide (p = 1)))) := by
                show _ = _
                rw [decide_eq_false h3]
                simp
              go_wp2
              go_roundw
              case rel => exact ⟨k + 1, _, _, by omega, rfl, rfl, by go_num, by rw [HM.out, ← hz.out]; exact rfl, by rw [HS.out, ← hcc.out]; exact HB.out, by split <;> omega, by split <;> omega, hbr.alloc hbr.size _⟩
              case measure => simp [intOf]; omega
          · have HB : Hid (true = (true || (decide (3 ≤ g) && decide (p = 1)))) := rfl
            go_wp2
            go_roundw
            case rel => exact ⟨k + 1, _, _, by omega, rfl, rfl, by go_num, by rw [HM.out, ← hz.out]; exact rfl, by rw [HS.out, ← hcc.out]; exact HB.out, by split <;> omega, by split <;> omega, hbr.alloc hbr.size _⟩
            case measure => simp [intOf]; omega
        · have hkn : k = bs.length := by omega
          subst hkn
          rw [List.take_length] at hz hcc
          obtain ⟨N, hN⟩ : ∃ N : Int, N = (if pn = 2 ∧ c = false then (if z + 1 < 3 then 3 else z + 1) else z) := ⟨_, rfl⟩
          have HN := Lib.hid hN
          have hNb : 1 ≤ N ∧ N ≤ 34 ∧ z ≤ N := by rw [hN]; split <;> (try split) <;> omega
          clear hN
          have c2 := (hbr.cell (p := ⟨w.heap.size, 2, none⟩) hk0.size).trans n2
          have c1 := (hbr.cell (p := ⟨w.heap.size, 1, none⟩) hk0.size).trans n1
          have cp := (hbr.cell (cell?_lt hp0)).trans hp0
          go_upto_region 11 with fail
          go_cut [47] (fun s wx => s = .bool (decide (pn = 2 ∧ c = false)) ∧ wx = wr)
          case first =>
            by_cases h2 : pn = 2
            · have h2b : ((pn : Int) == 2) = true := by simp; omega
              cases c
              · have hd := Lib.hid (decide_eq_true (show pn = 2 ∧ false = false from ⟨h2, rfl⟩))
                clear h2
                go_wp2_with fail
                go_meet
                exact ⟨by rw [hd.out]; try rfl, rfl⟩
              · have hd := Lib.hid (decide_eq_false (show ¬ (pn = 2 ∧ true = false) from fun h => by cases h.2))
                clear h2
                go_wp2_with fail
                go_meet
                exact ⟨by rw [hd.out]; try rfl, rfl⟩
            · have h2b : ((pn : Int) == 2) = false := by simp; omega
              have hd := Lib.hid (decide_eq_false (show ¬ (pn = 2 ∧ c = false) from fun h => h2 h.1))
              go_wp2_with fail
              go_meet
              exact ⟨by rw [hd.out]; try rfl, rfl⟩
          case rest =>
            obtain ⟨rfl, hw⟩ := hcut
            have hw := hw.symm
            subst hw
            go_upto_if 47 with fail
            go_cut [3] (fun s wx => s = .int .i64 N ∧ wx = wr)
            case first =>
              by_cases h2 : pn = 2 ∧ c = false
              · rw [decide_eq_true h2]
                have h3 : Hid (N = if z + 1 < 3 then 3 else z + 1) := by rw [HN.out, if_pos h2]; exact rfl
                clear h2
                by_cases h4 : z + 1 < 3
                · have h5 : Hid (N = 3) := by rw [h3.out, if_pos h4]; exact rfl
                  go_wp2_with fail
                  go_meet
                  exact ⟨by rw [h5.out], rfl⟩
                · have h5 : Hid (N = z + 1) := by rw [h3.out, if_neg h4]; exact rfl
                  go_wp2_with fail
                  go_meet
                  exact ⟨by rw [h5.out], rfl⟩
              · rw [decide_eq_false h2]
                have h3 : Hid (N = z) := by rw [HN.out, if_neg h2]; exact rfl
                clear h2
                go_wp2_with fail
                go_meet
                exact ⟨by rw [h3.out], rfl⟩
            case rest =>
              obtain ⟨rfl, hw⟩ := hcut
              have hw := hw.symm
              subst hw
              obtain ⟨m, hm⟩ : ∃ m : Nat, N = (m : Int) := ⟨N.toNat, by omega⟩
              have hmb : 1 ≤ m ∧ m ≤ 34 := by omega
              have hgm : ∀ x ∈ bs, x.g ≤ (m : Int) := fun x hx => by
                have h1 := (maxG_ge bs n0).2 x hx
                have h2 := hz.out
                have h3 := hNb.2.2
                omega
              rw [hm]
              have HNM := Lib.hid hm
              clear hm
              have hmk := make_g m (by omega)
              go_upto_region 14 with fail
              have hG0 : GOwn (wr.alloc (.cells (gcs (List.replicate m gZ)) 77)) wr.heap.size (gI p0 m 0) := by
                rw [← gI_zero]
                refine ⟨Blk.made wr _ _, fun i hi => ?_, fun i j hi hj hij k hk => ?_⟩
                · simp only [List.getElem_replicate]
                  exact World.ownsRow_nil _ _ _ _
                · simp only [List.getElem_replicate, gZ, Value.ownBlock] at hk
                  cases hk
              have hb4 : Below W0.heap.size W0 (wr.alloc (.cells (gcs (List.replicate m gZ)) 77)) := hbr.alloc hbr.size _
              obtain ⟨W4, hW4⟩ : ∃ W4 : World, W4 = wr.alloc (.cells (gcs (List.replicate m gZ)) 77) := ⟨_, rfl⟩
              rw [← hW4] at hG0 hb4
              rw [← hW4]
              clear hW4
              obtain ⟨gb, hgb⟩ : ∃ gb, gb = wr.heap.size := ⟨_, rfl⟩
              have hgb0 : W0.heap.size ≤ gb := by rw [hgb]; exact hbr.size
              rw [← hgb] at hG0
              rw [← hgb]
              clear hgb c1 c2 cp hmk hw hbr
              go_wp2
              go_loopw [55] (fun i wx => ∃ k : Nat, k ≤ m ∧ i = .int .i64 k ∧ GOwn wx gb (gI p0 m k) ∧ Below W0.heap.size W0 wx) (fun i _ => m - (intOf i).toNat)
              case atStart => exact ⟨0, Nat.zero_le _, rfl, hG0, hb4⟩
              case round =>
                clear hG0 hb4
                obtain ⟨k, hkm, rfl, hG, hbr⟩ := hrel
                by_cases hk : k < m
                · have hkl : k < (gI p0 m k).length := by rw [gI_length]; exact hk
                  have c2 := (hbr.cell (p := ⟨w.heap.size, 2, none⟩) hk0.size).trans n2
                  have cp := (hbr.cell (cell?_lt hp0)).trans hp0
                  have hi1 : (0 : Int) ≤ (k : Int) := by omega
                  have hi2 : (k : Int) < (m : Int) := by omega
                  have f := hG.blk.free
                  have y0 : wr.cell? ⟨gb, k * 2, none⟩ = some (.int .i64 (gI p0 m k)[k].p) := gcs_cell hG.blk k 0 hkl (by decide)
                  rcases (show k = 0 ∨ k = 1 ∨ 1 < k from by omega) with hk0' | hk1 | hk1
                  · have hG1 : GOwn wr gb (gI p0 m (k + 1)) := by
                      rw [hk0', Nat.zero_add, ← gI_one, ← hk0']
                      exact hG
                    subst hk0'
                    go_wp2
                    go_roundw
                    case rel => exact ⟨1, by omega, by go_num, hG1, hbr⟩
                    case measure => simp [intOf]; omega
                  · have hs := hG.setP k hkl (pI p0 k)
                    rw [gI_set] at hs
                    rw [show pI p0 k = p0 from by rw [hk1]; rfl] at hs
                    have hk1b : ((k : Int) == 1) = true := by simp; omega
                    have hb5 := hbr.setCell (p := ⟨gb, k * 2, none⟩) hgb0 (.int .i64 p0)
                    clear hk1
                    go_wp2
                    go_roundw
                    case rel => exact ⟨k + 1, by omega, by go_num, hs, hb5⟩
                    case measure => simp [intOf]; omega
                  · have hs := hG.setP k hkl (pI p0 k)
                    rw [gI_set] at hs
                    rw [show pI p0 k = 1 from by unfold pI; rw [if_neg (by omega), if_pos hk1]] at hs
                    have hk1b : ((k : Int) == 1) = false := by simp; omega
                    have hk1c : (1 : Int) < (k : Int) := by omega
                    have hb5 := hbr.setCell (p := ⟨gb, k * 2, none⟩) hgb0 (.int .i64 1)
                    go_wp2
                    go_roundw
                    case rel => exact ⟨k + 1, by omega, by go_num, hs, hb5⟩
                    case measure => simp [intOf]; omega
                · have hkm' : k = m := by omega
                  subst hkm'
                  have c1 := (hbr.cell (p := ⟨w.heap.size, 1, none⟩) hk0.size).trans n1
                  have hGs : Hid (gS (gI p0 k k) = grpF p0 k (bs.take 0)) := rfl
                  have hGl := gI_length p0 k k
                  go_wp2
                  go_loopw [80] (fun i wx => ∃ j : Nat, ∃ G : List Gm, j ≤ bs.length ∧ i = .int .i64 j ∧ GOwn wx gb G ∧ G.length = k ∧ Hid (gS G = grpF p0 k (bs.take j)) ∧ Below W0.heap.size W0 wx) (fun i _ => bs.length - (intOf i).toNat)
                  case atStart => exact ⟨0, _, Nat.zero_le _, rfl, hG, hGl, hGs, hbr⟩
                  case round =>
                    clear hG hGs hGl hbr c1
                    obtain ⟨j, G, hjl, rfl, hG, hGl, hGs, hbr⟩ := hrel
                    by_cases hj : j < bs.length
                    · obtain ⟨bb, bo, rfl, hbx⟩ := RC.elem ifL (s := 4) (fun _ => rfl) (hbv.below hbr) j hj (by decide)
                      have hg1 := (hg bs[j] (List.getElem_mem hj)).1
                      have hg2 := hgm bs[j] (List.getElem_mem hj)
                      have z0 : wr.cell? ⟨bb, bo + j * 4, none⟩ = some (.int .i64 bs[j].g) := hbx 0 (by decide)
                      have z1 : wr.cell? ⟨bb, bo + j * 4 + 1, none⟩ = some (.int .i64 bs[j].k) := by rw [Nat.add_assoc]; exact hbx 1 (by decide)
                      have z2 : wr.cell? ⟨bb, bo + j * 4 + 2, none⟩ = some (.int .i64 bs[j].v) := by rw [Nat.add_assoc]; exact hbx 2 (by decide)
                      have z3 : wr.cell? ⟨bb, bo + j * 4 + 3, none⟩ = some (.int .i64 bs[j].p) := by rw [Nat.add_assoc]; exact hbx 3 (by decide)
                      have hbb : bb < wr.heap.size := cell?_lt z0
                      have HT := Lib.hid (grpF_take (p0 := p0) (m := k) hj)
                      clear hbx
                      generalize bs[j] = x at z0 z1 z2 z3 hg1 hg2 HT
                      obtain ⟨g, kd, v, p⟩ := x
                      simp only at z0 z1 z2 z3 hg1 hg2
                      obtain ⟨q, rfl⟩ : ∃ q : Nat, g = (q : Int) + 1 := ⟨(g - 1).toNat, by omega⟩
                      have hqm : q < k := by omega
                      have hqG : q < G.length := by omega
                      have hi1 : (0 : Int) ≤ (j : Int) := by omega
                      have hi2 : (j : Int) < (bs.length : Int) := by omega
                      have hi3 : (0 : Int) ≤ (q : Int) := by omega
                      have hi4 : (q : Int) < (k : Int) := by omega
                      have hxk := Blk.made wr 47 (ifL ⟨(q : Int) + 1, kd, v, p⟩).toArray
                      have hba := (Below.refl wr.heap.size wr).alloc (Nat.le_refl _) (.cells (ifL ⟨(q : Int) + 1, kd, v, p⟩).toArray 47)
                      go_upto_region 25 with fail
                      obtain ⟨W5, hW5⟩ : ∃ W5 : World, W5 = wr.alloc (.cells #[.int .i64 ((q : Int) + 1), .int .i64 kd, .int .i64 v, .int .i64 p] 47) := ⟨_, rfl⟩
                      have hXB : Blk W5 wr.heap.size 47 (ifL ⟨(q : Int) + 1, kd, v, p⟩).toArray := by rw [hW5]; exact hxk
                      have hG5 : GOwn W5 gb G := by rw [hW5]; exact hG.below hba
                      have hb5 : Below W0.heap.size W0 W5 := by rw [hW5]; exact hbr.trans (hba.mono hbr.size)
                      have hxb0 : gb < wr.heap.size := hG.blk.size
                      have hxo : ∀ z, G[q].v.ownBlock = some z → z < wr.heap.size := fun z hz => (owns_lt (hG.own q hqG) z hz).2
                      rw [← hW5]
                      clear hW5 hxk hba z0 z1 z2 z3 hG hbr
                      obtain ⟨xb, hxb⟩ : ∃ xb, xb = wr.heap.size := ⟨_, rfl⟩
                      rw [← hxb]
                      rw [← hxb] at hXB hxb0 hxo
                      clear hxb hbb
                      have x0 : W5.cell? ⟨xb, 0, none⟩ = some (.int .i64 ((q : Int) + 1)) := hXB.cell 0
                      have x1 : W5.cell? ⟨xb, 1, none⟩ = some (.int .i64 kd) := hXB.cell 1
                      have x2 : W5.cell? ⟨xb, 2, none⟩ = some (.int .i64 v) := hXB.cell 2
                      have x3 : W5.cell? ⟨xb, 3, none⟩ = some (.int .i64 p) := hXB.cell 3
                      have g1 : W5.cell? ⟨gb, q * 2 + 1, none⟩ = some G[q].v := gcs_cell hG5.blk q 1 hqG (by decide)
                      have hgs : gb < W5.heap.size := hG5.blk.size
                      have hxs : xb < W5.heap.size := hXB.size
                      have hT := ifT
                      have hbA := (below_drewN (Below.refl W5.heap.size W5) 1).alloc (Nat.le_refl _) (.cells #[.int .i64 ((q : Int) + 1), .int .i64 kd, .int .i64 v, .int .i64 p] 47)
                      have hGA : GOwn ((W5.drewN 1).alloc (.cells #[.int .i64 ((q : Int) + 1), .int .i64 kd, .int .i64 v, .int .i64 p] 47)) gb G := hG5.below hbA
                      have hXA := hXB.below hbA hXB.size
                      have hra : RC ((W5.drewN 1).alloc (.cells #[.int .i64 ((q : Int) + 1), .int .i64 kd, .int .i64 v, .int .i64 p] 47)) (some ⟨W5.heap.size, 0, none⟩) (ifv [⟨(q : Int) + 1, kd, v, p⟩]) := RC.made (W5.drewN 1) _ _ _ rfl
                      have hoq := hGA.own q hqG
                      have hb6 := hb5.trans (hbA.mono hb5.size)
                      have hlq : G[q].xs.length + 1 ≤ 68719476736 := by
                        have h1 : (G[q].p, G[q].xs) ∈ gS G := List.mem_map.2 ⟨G[q], List.getElem_mem hqG, rfl⟩
                        rw [hGs.out] at h1
                        have h2 := grpF_len p0 k bs j (by omega) _ h1
                        simp only at h2
                        omega
                      have HEND : Hid (∀ (v2 : Value) (w2 : World), w2.ownsRow (gb + 1) 47 4 v2 (G[q].xs.length + 1) (ifv G[q].xs ++ ifv [⟨(q : Int) + 1, kd, v, p⟩]) → Below (gb + 1) ((W5.drewN 1).alloc (.cells #[.int .i64 ((q : Int) + 1), .int .i64 kd, .int .i64 v, .int .i64 p] 47)) w2 →
                          ((W5.drewN 1).alloc (.cells #[.int .i64 ((q : Int) + 1), .int .i64 kd, .int .i64 v, .int .i64 p] 47)).grownBy w2 G[q].v.ownBlock → (v2.ownBlock = G[q].v.ownBlock ∨ v2.ownBlock = some ((W5.drewN 1).alloc (.cells #[.int .i64 ((q : Int) + 1), .int .i64 kd, .int .i64 v, .int .i64 p] 47)).heap.size) →
                          (w2.cell? ⟨gb, q * 2 + 1, none⟩ = some G[q].v ∧ w2.frozen? ⟨gb, q * 2 + 1, none⟩ = false ∧ Blk (w2.setCell ⟨gb, q * 2 + 1, none⟩ v2) xb 47 (ifL ⟨(q : Int) + 1, kd, v, p⟩).toArray ∧
                            GOwn (w2.setCell ⟨gb, q * 2 + 1, none⟩ v2) gb (G.set q ⟨G[q].p, v2, G[q].xs ++ [⟨(q : Int) + 1, kd, v, p⟩]⟩) ∧ Below W0.heap.size W0 (w2.setCell ⟨gb, q * 2 + 1, none⟩ v2))) := fun v2 w2 ho2 hb2 hg2 hv2 => by
                        have hne : some gb ≠ G[q].v.ownBlock := fun e => by have := (owns_lt hoq gb e.symm).1; omega
                        have hgA := hGA.blk.size
                        have hB2 : Blk w2 gb 77 (gcs G) := (hg2.block gb hgA hne).trans hGA.blk
                        rw [← ifv_append] at ho2
                        have hgo := hGA.setV q hqG v2 ⟨(q : Int) + 1, kd, v, p⟩ hg2 hv2 ho2
                        have hX2 : Blk w2 xb 47 (ifL ⟨(q : Int) + 1, kd, v, p⟩).toArray := by
                          exact (hg2.block xb hXA.size fun e => by have := hxo xb e.symm; omega).trans hXA
                        refine ⟨gcs_cell hB2 q 1 hqG (by decide), hB2.free _, hX2.other (by simp; omega) _, hgo, ?_⟩
                        have hb7 : Below W0.heap.size ((W5.drewN 1).alloc (.cells #[.int .i64 ((q : Int) + 1), .int .i64 kd, .int .i64 v, .int .i64 p] 47)) w2 := hb2.mono (by omega)
                        exact (hb6.trans hb7).setCell (p := ⟨gb, q * 2 + 1, none⟩) hgb0 v2
                      have hGq : ∀ v2, G.length = (G.set q ⟨G[q].p, v2, G[q].xs ++ [⟨(q : Int) + 1, kd, v, p⟩]⟩).length := fun v2 => by rw [List.length_set]
                      have HLS : Hid (∀ v2 pp, pp = (if 3 ≤ (q : Int) + 1 then p else G[q].p) → gS (G.set q ⟨pp, v2, G[q].xs ++ [⟨(q : Int) + 1, kd, v, p⟩]⟩) = grpF p0 k (bs.take (j + 1))) := fun v2 pp hpp => by
                        rw [HT.out, ← hGs.out, addG_set hqG rfl v2, hpp]
                      clear hGA hXA hG5 HT hgm hb6
                      obtain ⟨gp, hgp⟩ : ∃ gp, gp = G[q].p := ⟨_, rfl⟩
                      obtain ⟨gv, hgv⟩ : ∃ gv, gv = G[q].v := ⟨_, rfl⟩
                      obtain ⟨gx, hgx⟩ : ∃ gx, gx = G[q].xs := ⟨_, rfl⟩
                      rw [← hgv, ← hgx, ← hgp] at HEND
                      rw [← hgp, ← hgx] at HLS
                      rw [← hgv, ← hgx] at hoq
                      rw [← hgv] at g1
                      rw [← hgx] at hlq
                      clear hgp hgv hgx hGq hxo
                      go_upto_region 26 with fail
                      go_cut [] (fun wx => ∃ v2, Blk wx xb 47 (ifL ⟨(q : Int) + 1, kd, v, p⟩).toArray ∧ GOwn wx gb (G.set q ⟨gp, v2, gx ++ [⟨(q : Int) + 1, kd, v, p⟩]⟩) ∧ Below W0.heap.size W0 wx)
                      case first =>
                        go_region_law (refine step_append_own5 rfl hT (.tmp 93) (.tmp 95) rfl rfl rfl hoq hra rfl (ifv_one _) hlq (by simp; omega) ?_; intro v2 w2 ho2 hb2 hg2 hv2; obtain ⟨e1, e2, e3, e4, e5⟩ := HEND.out v2 w2 ho2 hb2 hg2 hv2; obtain ⟨A2, c2, rfl, _, _⟩ := owns_reads ho2)
                        all_goals
                          go_wp2_with fail
                          go_meet
                          exact ⟨_, e3, e4, e5⟩
                      case rest =>
                        obtain ⟨v2, hX6, hG6, hb7⟩ := hcut
                        have x0 : wc.cell? ⟨xb, 0, none⟩ = some (.int .i64 ((q : Int) + 1)) := hX6.cell 0
                        have x3 : wc.cell? ⟨xb, 3, none⟩ = some (.int .i64 p) := hX6.cell 3
                        have hqG' : q < (G.set q ⟨gp, v2, gx ++ [⟨(q : Int) + 1, kd, v, p⟩]⟩).length := by rw [List.length_set]; exact hqG
                        by_cases h3 : 3 ≤ (q : Int) + 1
                        · have hs := hG6.setP q hqG' p
                          simp only [List.getElem_set_self, List.set_set] at hs
                          have y0 : wc.cell? ⟨gb, q * 2, none⟩ = some (.int .i64 gp) := by
                            have h := gcs_cell hG6.blk q 0 hqG' (by decide)
                            simp only [List.getElem_set_self] at h
                            exact h
                          have f := hG6.blk.free
                          have hb8 := hb7.setCell (p := ⟨gb, q * 2, none⟩) hgb0 (.int .i64 p)
                          have HR := Lib.hid (HLS.out v2 p (by rw [if_pos h3]))
                          go_wp2
                          go_roundw
                          case rel => exact ⟨j + 1, _, by omega, by go_num, hs, by rw [List.length_set]; exact hGl, HR, hb8⟩
                          case measure => simp [intOf]; omega
                        · have HR := Lib.hid (HLS.out v2 gp (by rw [if_neg h3]))
                          go_wp2
                          go_roundw
                          case rel => exact ⟨j + 1, _, by omega, by go_num, hG6, by rw [List.length_set]; exact hGl, HR, hb7⟩
                          case measure => simp [intOf]; omega
                    · have hjn : j = bs.length := by omega
                      subst hjn
                      have hbe := hb0.trans (hbr.mono hb0.size)
                      have HE : (k : Int) = numF p0 pn bs := by
                        rw [← HNM.out, HN.out, hz.out, hcc.out, HN0.out]
                        rfl
                      have HGE := hGs.out
                      rw [List.take_length] at HGE
                      have HE' := Lib.hid HE
                      have HGE' := Lib.hid HGE
                      clear HE HGE hGs
                      go_wp2
                      go_ret
                      exact ⟨k, gb, G, HE'.out, hmb.1, hmb.2, rfl, hG, hGl, HGE'.out, Nat.le_trans hb0.size hgb0, hbe⟩
end Go.Proofs.Ytkhobpghiachoaa
