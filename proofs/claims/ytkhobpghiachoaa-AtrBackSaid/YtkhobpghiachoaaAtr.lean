/-
  The answer to reset: its memory; equality of numbers, and whether a number is in a list.
-/
import Derived.Test.YtkhobpghiachoaaFlat
import Derived.StillTailTactics
import Derived.Deep.QuietTactic
import Derived.BigQuiet
import Derived.BigRegion
import Derived.Deep.DeepCutAuto
import Derived.WalkLawsBesides
namespace Go.Proofs.Ytkhobpghiachoaa
open Go.RowKit
set_option linter.unusedVariables false

/-- An interface byte. -/
structure If where
  g : Int
  k : Int
  v : Int
  p : Int
deriving DecidableEq
def ifL (x : If) : List Value := [.int .i64 x.g, .int .i64 x.k, .int .i64 x.v, .int .i64 x.p]
def ifv (l : List If) : List Value := l.flatMap ifL
def nv (l : List Int) : List Value := l.map fun n : Int => .int .i64 n
theorem nv_length (l : List Int) : (nv l).length = l.length := by simp [nv]
/-- An answer to reset, as it is handed in. -/
structure Atr where
  inv : Bool
  bA : Option Addr
  bc : Nat
  bs : List If
  pA : Option Addr
  pc : Nat
  ps : List Int
  hA : Option Addr
  hc : Nat
  hs : List UInt8
def atrCs (a : Atr) : Array Value := #[.bool a.inv, .slice a.bA a.bs.length a.bc, .slice a.pA a.ps.length a.pc, .slice a.hA a.hs.length a.hc]
/-- Its three lists can be read. -/
structure AtrIn (w : World) (a : Atr) : Prop where
  b : RC w a.bA (ifv a.bs)
  p : RC w a.pA (nv a.ps)
  h : RB w a.hA a.hs
  f : ∀ x ∈ a.bs, x.g ≤ 9223372036854775807
theorem AtrIn.below {w w' : World} {a : Atr} (h : AtrIn w a) (hb : Below w.heap.size w w') : AtrIn w' a := ⟨h.b.below hb, h.p.below hb, h.h.below hb, h.f⟩

theorem eqInts_any (A B : Option Addr) (c d : Nat) (xs ys : List Int) (w : World) (hs : ys.length ≤ 1048576) (hr : RC w A (nv xs)) (hq : RC w B (nv ys)) :
    Calls Try.prog 42 #[.slice A xs.length c, .slice B ys.length d] w fun e w' => e = .returned (.bool (decide (xs = ys))) ∧ ∃ n, w' = w.drewN n := by
  by_cases hl : xs.length = ys.length
  · go_enter Try.func42, Try.ntmps42
    have hl' : (xs.length : Int) = (ys.length : Int) := by omega
    rw [hl]
    go_wp2
    go_loopw [13] (fun i wr => ∃ k n : Nat, k ≤ ys.length ∧ i = .int .i64 k ∧ wr = w.drewN n ∧ Hid (xs.take k = ys.take k)) (fun i _ => ys.length - (intOf i).toNat)
    case atStart => exact ⟨0, 0, Nat.zero_le _, rfl, rfl, rfl⟩
    case round =>
      obtain ⟨k, n, hk, rfl, rfl, ht⟩ := hrel
      by_cases h2 : k < ys.length
      · have h1 : k < xs.length := by omega
        obtain ⟨b, off, rfl, hc⟩ := hr.at_ (by rw [nv_length]; omega)
        obtain ⟨b', off', rfl, hc'⟩ := hq.at_ (by rw [nv_length]; omega)
        have hcell : w.cell? ⟨b, off + k, none⟩ = some (.int .i64 xs[k]) := by rw [hc k (by rw [nv_length]; exact h1)]; simp [nv]
        have hcell' : w.cell? ⟨b', off' + k, none⟩ = some (.int .i64 ys[k]) := by rw [hc' k (by rw [nv_length]; exact h2)]; simp [nv]
        have hi0 : (0 : Int) ≤ (k : Int) := by omega
        have hi1 : (k : Int) < (ys.length : Int) := by omega
        clear hc hc' hr hq
        by_cases he : xs[k] = ys[k]
        · have HD : Hid (xs.take (k + 1) = ys.take (k + 1)) := by
            show _ = _
            rw [List.take_succ_eq_append_getElem h1, List.take_succ_eq_append_getElem h2, ht.out, he]
          rw [he] at hcell
          clear he hl
          generalize ys[k] = y at hcell hcell'
          go_wp2
          go_quiet (fail)
          go_wp2
          go_roundw
          case rel => exact ⟨k + 1, _, by omega, by go_num, rfl, HD⟩
          case measure => simp [intOf]; omega
        · have HN : Hid (xs ≠ ys) := fun e => he (by subst e; rfl)
          have he' : (xs[k] != ys[k]) = true := by simpa using he
          clear hl
          generalize ys[k] = y at hcell' he he'
          generalize xs[k] = x at hcell he he'
          go_wp2
          go_quiet (fail)
          go_wp2
          go_ret
          exact ⟨by rw [decide_eq_false HN.out]; rfl, _, by simp only [World.drewN_drewN]; rfl⟩
      · have HE : Hid (xs = ys) := by
          have := ht.out
          rwa [List.take_of_length_le (by omega), List.take_of_length_le (by omega)] at this
        go_wp2
        go_ret
        exact ⟨by rw [decide_eq_true HE.out]; rfl, n, rfl⟩
  · have HN : Hid (xs ≠ ys) := fun e => hl (by rw [e])
    have hl' : ((xs.length : Int) != (ys.length : Int)) = true := by simp; omega
    go_enter Try.func42, Try.ntmps42
    go_wp2
    go_ret
    exact ⟨by rw [decide_eq_false HN.out]; rfl, 0, rfl⟩

theorem index_any (A : Option Addr) (c : Nat) (xs : List Int) (y : Int) (w : World) (hs : xs.length ≤ 1048576) (hr : RC w A (nv xs)) :
    Calls Try.prog 59 #[.slice A xs.length c, .int .i64 y] w fun e w' => ∃ r : Int, e = .returned (.int .i64 r) ∧ decide (0 ≤ r) = decide (y ∈ xs) ∧ w = w' := by
  go_enter Try.func59, Try.ntmps59
  go_wp2
  go_loopw [8] (fun i wr => ∃ k : Nat, k ≤ xs.length ∧ i = .int .i64 k ∧ wr = w ∧ Hid (y ∉ xs.take k)) (fun i _ => xs.length - (intOf i).toNat)
  case atStart => exact ⟨0, Nat.zero_le _, rfl, rfl, by show y ∉ _; simp⟩
  case round =>
    obtain ⟨k, hk, rfl, rfl, hn⟩ := hrel
    by_cases h1 : k < xs.length
    · obtain ⟨b, off, rfl, hc⟩ := hr.at_ (by rw [nv_length]; omega)
      have hcell : wr.cell? ⟨b, off + k, none⟩ = some (.int .i64 xs[k]) := by rw [hc k (by rw [nv_length]; exact h1)]; simp [nv]
      have hi0 : (0 : Int) ≤ (k : Int) := by omega
      have hi1 : (k : Int) < (xs.length : Int) := by omega
      clear hc hr
      by_cases he : y = xs[k]
      · have HM : Hid (y ∈ xs) := by show y ∈ xs; rw [he]; exact List.getElem_mem h1
        rw [← he] at hcell
        clear he
        go_wp2
        go_ret
        exact ⟨(k : Int), rfl, by rw [decide_eq_true HM.out]; simp, rfl⟩
      · have HN : Hid (y ∉ xs.take (k + 1)) := by
          show y ∉ _
          rw [List.take_succ_eq_append_getElem h1]
          intro hm
          rcases List.mem_append.1 hm with h | h
          · exact hn.out h
          · exact he (by simpa using h)
        have he' : (y == xs[k]) = false := by simpa using he
        generalize xs[k] = x at hcell he he'
        go_wp2
        go_roundw
        case rel => exact ⟨k + 1, by omega, by go_num, by first | trivial | rfl, HN⟩
        case measure => simp [intOf]; omega
    · have HN : Hid (y ∉ xs) := by
        have := hn.out
        rwa [List.take_of_length_le (by omega)] at this
      go_wp2
      go_ret
      exact ⟨-1, rfl, by rw [decide_eq_false HN.out]; decide, rfl⟩
theorem contains_any (A : Option Addr) (c : Nat) (xs : List Int) (y : Int) (w : World) (hs : xs.length ≤ 1048576) (hr : RC w A (nv xs)) :
    Calls Try.prog 45 #[.slice A xs.length c, .int .i64 y] w fun e w' => e = .returned (.bool (decide (y ∈ xs))) ∧ w = w' := by
  go_enter Try.func45, Try.ntmps45
  go_wp2_with fail
  refine (index_any A c xs y w hs hr).mono ?_
  rintro e w1 ⟨r, rfl, hr2, rfl⟩
  have HR := Lib.hid hr2
  clear hr2
  go_wp2
  go_ret
  exact ⟨by rw [← HR.out]; rfl, rfl⟩
end Go.Proofs.Ytkhobpghiachoaa
