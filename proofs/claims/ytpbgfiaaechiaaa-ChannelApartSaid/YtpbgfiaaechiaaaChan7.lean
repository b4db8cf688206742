/-
  The channels: With, and the chapter's example.
-/
import Derived.Test.YtpbgfiaaechiaaaChan6
namespace Go.Proofs.Ytpbgfiaaechiaaa
open Go.RowKit
set_option linter.unusedVariables false

theorem intT : SliceT Try.prog 39 3 (.int .i64 0) 1 8 := ⟨Try.underlying39, by kernel_rfl, rfl, by omega, by omega⟩
def iv (ns : List Nat) : List Value := ns.map fun n : Nat => .int .i64 (n : Int)
theorem iv_length (ns : List Nat) : (iv ns).length = ns.length := by simp [iv]
theorem iv_one (ns : List Nat) : ∀ u ∈ iv ns, u.oneCell' = true := by
  intro u hu
  simp only [iv, List.mem_map] at hu
  obtain ⟨n, _, rfl⟩ := hu
  rfl
def hasB (S : List Ch) (xs : List UInt8) (k : Nat) : Bool := (match S[k]? with | some c => c.o && decide (c.app = xs) | none => false) && decide (0 < xs.length)
def upto (S : List Ch) (xs : List UInt8) (k : Nat) : List Nat := (List.range k).filter (hasB S xs)
def withC (S : List Ch) (xs : List UInt8) : List Nat := upto S xs 4
theorem upto_yes {S : List Ch} {xs : List UInt8} {k : Nat} (h : hasB S xs k = true) : upto S xs (k + 1) = upto S xs k ++ [k] := by
  unfold upto
  rw [List.range_succ, List.filter_append]
  simp [h]
theorem upto_no {S : List Ch} {xs : List UInt8} {k : Nat} (h : hasB S xs k = false) : upto S xs (k + 1) = upto S xs k := by
  unfold upto
  rw [List.range_succ, List.filter_append]
  simp [h]
theorem upto_le (S : List Ch) (xs : List UInt8) (k : Nat) : (upto S xs k).length ≤ k := by
  unfold upto
  exact Nat.le_trans (List.length_filter_le _ _) (by simp)
theorem has_in {L : List Ln} {k : Nat} (hk : k < L.length) (xs : List UInt8) : hasB (chs L) xs k = (L[k].ch.o && decide (L[k].ch.app = xs) && decide (0 < xs.length)) := by
  unfold hasB
  rw [chs_get L k hk]

theorem with_bad (v : Value) (A : Option Addr) (m c : Nat) (w : World) (h : IsOk w v false) : Calls Try.prog 12 #[v, .slice A m c] w fun e w' => e = .returned (.slice none 0 0) ∧ w = w' := by
  go_enter Try.func12, Try.ntmps12
  go_wp2
  go_loopw [5, 9] (fun v i wx => ∃ j : Nat, j ≤ 4 ∧ i = .int .i64 j ∧ v = .slice none 0 0 ∧ wx = w) (fun _ i _ => 4 - (intOf i).toNat)
  case atStart => exact ⟨0, by omega, rfl, rfl, rfl⟩
  case round =>
    obtain ⟨j, hj, rfl, rfl, rfl⟩ := hrel
    by_cases hj4 : j < 4
    · go_wp2_with fail
      refine (at_bad v j wr h).mono ?_
      rintro e w1 ⟨rfl, rfl⟩
      go_wp2
      go_roundw
      case rel => exact ⟨j + 1, by omega, by go_num, by first | trivial | rfl, by first | trivial | rfl⟩
      case measure => simp [intOf]; omega
    · obtain rfl : j = 4 := by omega
      go_wp2
      go_ret
      exact ⟨rfl, rfl⟩

theorem with_any (g : Nat) (L : List Ln) (A : Option Addr) (c : Nat) (xs : List UInt8) (w : World) (h : TabAt w g true L) (hr : RB w A xs) :
    Calls Try.prog 12 #[.pointer (some ⟨g, 0, none⟩), .slice A xs.length c] w fun e w' =>
      ∃ v, e = .returned v ∧ w'.ownsRow w.heap.size 3 1 v (withC (chs L) xs).length (iv (withC (chs L) xs)) ∧ Below w.heap.size w w' := by
  have h4 := h.2.1
  go_enter Try.func12, Try.ntmps12
  go_wp2
  go_loopw [5, 9] (fun v i wx => ∃ j : Nat, j ≤ 4 ∧ i = .int .i64 j ∧ wx.ownsRow w.heap.size 3 1 v (upto (chs L) xs j).length (iv (upto (chs L) xs j)) ∧ Below w.heap.size w wx) (fun _ i _ => 4 - (intOf i).toNat)
  case atStart => exact ⟨0, by omega, rfl, show w.ownsRow w.heap.size 3 1 (.slice none 0 0) 0 [] from World.ownsRow_nil _ _ _ _, Below.refl _ _⟩
  case round =>
    obtain ⟨j, hj, rfl, hown, hbw⟩ := hrel
    by_cases hj4 : j < 4
    · have hjL : j < L.length := by omega
      have hr' := h.below hbw
      have hx' := hr.below hbw
      have HH := Lib.hid (has_in hjL xs)
      by_cases ho : L[j].ch.o = true
      · by_cases h0 : xs.length = 0
        · have HU := Lib.hid (upto_no (S := chs L) (xs := xs) (k := j) (by rw [HH.out]; simp [h0]))
          obtain rfl : xs = [] := List.eq_nil_of_length_eq_zero h0
          rw [List.length_nil]
          go_wp2_with fail
          refine (at_zero g L j wr hr' hjL ho).mono ?_
          rintro e w1 ⟨rfl, rfl⟩
          go_wp2
          go_roundw
          case rel => exact ⟨j + 1, by omega, by go_num, by rw [HU.out]; exact hown, hbw⟩
          case measure => simp [intOf]; omega
        · have h0' : 0 < (xs.length : Int) := by omega
          obtain ⟨hra, hla⟩ := hr'.2.2 L[j] (List.getElem_mem hjL)
          have d1 : wr.cell? ⟨g, 1 + j * 6 + 1, none⟩ = some (.slice L[j].A L[j].ch.app.length L[j].c) := hr'.cell j 1 hjL (by omega)
          by_cases he : L[j].ch.app = xs
          · have HU := Lib.hid (upto_yes (S := chs L) (xs := xs) (k := j) (by rw [HH.out, ho]; simp [he]; omega))
            have HE := Lib.hid he
            have hT := intT
            have hba := (Below.refl wr.heap.size wr).alloc (Nat.le_refl _) (.cells #[.int .i64 (j : Int)] 3)
            have hra1 : RC (wr.alloc (.cells #[.int .i64 (j : Int)] 3)) (some ⟨wr.heap.size, 0, none⟩) [.int .i64 (j : Int)] := RC.made wr _ _ _ rfl
            have hown1 : (wr.alloc (.cells #[.int .i64 (j : Int)] 3)).ownsRow w.heap.size 3 1 u5 (upto (chs L) xs j).length (iv (upto (chs L) xs j)) := owns_keep hown (fun k hk => hba.block k (owns_lt hown k hk).2)
            have hle := upto_le (chs L) xs j
            have hsz := hbw.size
            clear he
            go_wp2_with fail
            refine (at_zero g L j wr hr' hjL ho).mono ?_
            rintro e w1 ⟨rfl, rfl⟩
            go_wp2_with fail
            refine (equal_any L[j].A A L[j].c c L[j].ch.app xs wr hra hx').mono ?_
            rintro e w1 ⟨rfl, rfl⟩
            rw [decide_eq_true HE.out]
            go_wp2_with (at_builtin; refine wpList_append_cells rfl hT (.tmp 33) (.tmp 35) rfl rfl rfl hown1 hra1 rfl (by intro u hu; simp at hu; subst hu; rfl) (by omega) (by simp; omega) ?_; intro v2 w2 hown2 hb2 hg2)
            go_roundw
            case rel => exact ⟨j + 1, by omega, by go_num, by rw [HU.out]; simpa [iv] using hown2, hbw.trans ((hba.mono (by omega)).trans hb2)⟩
            case measure => simp [intOf]; omega
          · have HU := Lib.hid (upto_no (S := chs L) (xs := xs) (k := j) (by rw [HH.out]; simp [he]))
            go_wp2_with fail
            refine (at_zero g L j wr hr' hjL ho).mono ?_
            rintro e w1 ⟨rfl, rfl⟩
            go_wp2_with fail
            refine (equal_any L[j].A A L[j].c c L[j].ch.app xs wr hra hx').mono ?_
            rintro e w1 ⟨rfl, rfl⟩
            rw [decide_eq_false he]
            go_wp2
            go_roundw
            case rel => exact ⟨j + 1, by omega, by go_num, by rw [HU.out]; exact hown, hbw⟩
            case measure => simp [intOf]; omega
      · have hw14 : whichC (chs L) (j : Int) = 14 := by rw [which_in hjL h4, if_neg ho]
        have HU := Lib.hid (upto_no (S := chs L) (xs := xs) (k := j) (by rw [HH.out]; simp [ho]))
        go_wp2_with fail
        refine (at_err g L j 14 wr hr' hw14 (by decide)).mono ?_
        rintro e w1 ⟨rfl, rfl⟩
        go_wp2
        go_roundw
        case rel => exact ⟨j + 1, by omega, by go_num, by rw [HU.out]; exact hown, hbw⟩
        case measure => simp [intOf]; omega
    · obtain rfl : j = 4 := by omega
      go_wp2
      go_ret
      exact ⟨u5, rfl, hown, hbw⟩
end Go.Proofs.Ytpbgfiaaechiaaa
