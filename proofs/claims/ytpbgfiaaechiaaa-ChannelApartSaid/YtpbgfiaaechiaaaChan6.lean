/-
  The channels: New, Reset, Open, With.
-/
import Derived.Test.YtpbgfiaaechiaaaChan5
import Derived.Test.YtpbgfiaaechiaaaCmp
namespace Go.Proofs.Ytpbgfiaaechiaaa
open Go.RowKit
set_option linter.unusedVariables false

def ln0 : Ln := ⟨⟨true, [], 0, 0, 0, 0⟩, none, 0⟩
def firstL : List Ln := [ln0, zeroLn, zeroLn, zeroLn]
def firstC : List Ch := [⟨true, [], 0, 0, 0, 0⟩, zeroCh, zeroCh, zeroCh]
theorem chs_first : chs firstL = firstC := rfl
theorem tab_info : (Try.prog.info? 65).map (·.size) = some 25 := rfl
theorem tcs_size {m : Bool} {L : List Ln} (h : L.length = 4) : (tcs m L).size = 25 := by
  obtain ⟨a, b, c, d, rfl⟩ := four h
  rfl
theorem tcs_one {m : Bool} {L : List Ln} (h : L.length = 4) : (tcs m L).all (·.oneCell') = true := by
  obtain ⟨a, b, c, d, rfl⟩ := four h
  simp [tcs, lnCells, Value.oneCell']

theorem new_any (w : World) : Calls Try.prog 8 #[] w fun e w' => e = .returned (.pointer (some ⟨w.heap.size, 0, none⟩)) ∧ TabAt w' w.heap.size true firstL ∧ Below w.heap.size w w' := by
  have hb := (Below.refl w.heap.size w).alloc (Nat.le_refl _) (.cells (tcs true firstL) 65)
  have hk := Blk.made w 65 (tcs true firstL)
  have hT : TabAt (w.alloc (.cells (tcs true firstL) 65)) w.heap.size true firstL := ⟨hk, rfl, fun x hx => by
    simp only [firstL, List.mem_cons, List.not_mem_nil, or_false] at hx
    rcases hx with rfl | rfl | rfl | rfl <;> exact ⟨RB.nil _ _, by decide⟩⟩
  go_enter Try.func8, Try.ntmps8
  go_wp2
  go_ret
  exact ⟨rfl, hT, hb⟩

theorem reset_bad (v : Value) (w : World) (h : IsOk w v false) : Calls Try.prog 24 #[v] w fun e w' => e = .returned (.tuple #[]) ∧ w = w' := by
  go_enter Try.func24, Try.ntmps24
  go_wp2_with fail
  refine (ok_any v false w h).mono ?_
  rintro e w1 ⟨rfl, rfl⟩
  go_wp2
  exact bodyPost_end (results_none rfl _ _ _) rfl ⟨rfl, rfl⟩
theorem only_row {w : World} {g : Nat} {ob : Option Nat} {cs : Array Value} {t : TypeId} (h : Blk w g t cs) (cs' : Array Value) : Only g ob w (w.setRow g cs') :=
  ⟨rfl, rfl, rfl, by simp [World.setRow], fun k _ hk _ => setRow_other _ _ _ _ hk⟩
theorem reset_any (g : Nat) (L : List Ln) (w : World) (h : TabAt w g true L) :
    Calls Try.prog 24 #[.pointer (some ⟨g, 0, none⟩)] w fun e w' => e = .returned (.tuple #[]) ∧ TabAt w' g true firstL ∧ Only g none w w' := by
  go_enter Try.func24, Try.ntmps24
  go_wp2_with fail
  refine (ok_any _ true w (.inr ⟨g, rfl, h.made_⟩)).mono ?_
  rintro e w1 ⟨rfl, rfl⟩
  go_wp2_with fail
  refine (new_any w).mono ?_
  rintro e w2 ⟨rfl, hT, hb⟩
  have h2 := h.below hb
  have hg := h.1.size
  have hs : (tcs true L).size = 25 := tcs_size h.2.1
  go_wp2_with (first
        | (refine wpList_load_row rfl _ _ rfl w.heap.size rfl _ _ _ _ hT.1.out Try.underlying65 rfl rfl ?_)
        | (refine wpList_store_row rfl _ _ _ rfl g _ rfl rfl _ _ h2.1.out rfl hs (tcs_one (m := true) (L := firstL) rfl) ?_))
  have hon := (Only.of_below (g := g) (ob := none) hb).trans (only_row h2.1 (tcs true firstL))
  refine bodyPost_end (results_none rfl _ _ _) rfl ⟨rfl, ⟨h2.1.row _, rfl, fun x hx => ?_⟩, hon⟩
  simp only [firstL, List.mem_cons, List.not_mem_nil, or_false] at hx
  rcases hx with rfl | rfl | rfl | rfl <;> exact ⟨RB.nil _ _, by decide⟩

/-! ### Open -/
def freeB (S : List Ch) (n : Int) (k : Nat) : Bool := (match S[k]? with | some c => !c.o | none => false) && (n == 0 || n == (k : Int))
def lineO : Ch := ⟨true, [], 0, 0, 0, 0⟩
def loopO (S : List Ch) (n : Int) : List Ch × Int × Int := match (List.range 4).find? (freeB S n) with | some k => (S.set k lineO, (k : Int), 0) | none => (S, 0, 10)
def openC (S : List Ch) (n : Int) : List Ch × Int × Int :=
  if n < 0 ∨ 4 ≤ n then (S, 0, 2) else if n ≠ 0 ∧ whichC S n = 0 then (S, 0, 15) else loopO S n
theorem loopO_some {S : List Ch} {n : Int} {k : Nat} (h : (List.range 4).find? (freeB S n) = some k) : loopO S n = (S.set k lineO, (k : Int), 0) := by unfold loopO; rw [h]
theorem loopO_none {S : List Ch} {n : Int} (h : (List.range 4).find? (freeB S n) = none) : loopO S n = (S, 0, 10) := by unfold loopO; rw [h]
theorem find_first {f : Nat → Bool} {k : Nat} (hk : k < 4) (h : ∀ j, j < k → f j = false) (hf : f k = true) : (List.range 4).find? f = some k := by
  have h4 : List.range 4 = [0, 1, 2, 3] := rfl
  have h5 : k = 0 ∨ k = 1 ∨ k = 2 ∨ k = 3 := by omega
  rcases h5 with rfl | rfl | rfl | rfl
  · simp [h4, hf]
  · simp [h4, hf, h 0]
  · simp [h4, hf, h 0, h 1]
  · simp [h4, hf, h 0, h 1, h 2]
theorem find_none {f : Nat → Bool} (h : ∀ j, j < 4 → f j = false) : (List.range 4).find? f = none := by
  have h4 : List.range 4 = [0, 1, 2, 3] := rfl
  simp [h4, h 0, h 1, h 2, h 3]
/-- What Open leaves. -/
def DidO (g : Nat) (r : List Ch × Int × Int) (w : World) (e : Ending) (w' : World) : Prop := e = .returned (.tuple #[.int .i64 r.2.1, .int .i64 r.2.2]) ∧ ∃ L', TabAt w' g true L' ∧ chs L' = r.1 ∧ Only g none w w'

theorem open_bad (v : Value) (n : Int) (w : World) (h : IsOk w v false) : Calls Try.prog 17 #[v, .int .i64 n] w fun e w' => e = .returned (.tuple #[.int .i64 0, .int .i64 31]) ∧ w = w' := by
  go_enter Try.func17, Try.ntmps17
  go_wp2_with fail
  refine (ok_any v false w h).mono ?_
  rintro e w1 ⟨rfl, rfl⟩
  go_wp2
  go_ret2
  exact ⟨rfl, rfl⟩
theorem open_range (g : Nat) (L : List Ln) (n : Int) (w : World) (h : TabAt w g true L) (hn : n < 0 ∨ 4 ≤ n) :
    Calls Try.prog 17 #[.pointer (some ⟨g, 0, none⟩), .int .i64 n] w fun e w' => e = .returned (.tuple #[.int .i64 0, .int .i64 2]) ∧ w = w' := by
  go_enter Try.func17, Try.ntmps17
  go_wp2_with fail
  refine (ok_any _ true w (.inr ⟨g, rfl, h.made_⟩)).mono ?_
  rintro e w1 ⟨rfl, rfl⟩
  go_wp2_with fail
  refine (inRange_no n w hn).mono ?_
  rintro e w1 ⟨rfl, rfl⟩
  go_wp2
  go_ret2
  exact ⟨rfl, rfl⟩
theorem open_busy (g : Nat) (L : List Ln) (k : Nat) (w : World) (h : TabAt w g true L) (hk : k < L.length) (h0 : k ≠ 0) (ho : L[k].ch.o = true) :
    Calls Try.prog 17 #[.pointer (some ⟨g, 0, none⟩), .int .i64 k] w fun e w' => e = .returned (.tuple #[.int .i64 0, .int .i64 15]) ∧ w = w' := by
  have h4 := h.2.1
  have c0 : w.cell? ⟨g, 1 + k * 6, none⟩ = some (.bool L[k].ch.o) := h.cell k 0 hk (by omega)
  rw [ho] at c0
  have hi : ((k : Int) == 0) = false := by simp; exact h0
  have i2 : (k : Int) < 4 := by omega
  have i3 : (0 : Int) ≤ (k : Int) := by omega
  go_enter Try.func17, Try.ntmps17
  go_wp2_with fail
  refine (ok_any _ true w (.inr ⟨g, rfl, h.made_⟩)).mono ?_
  rintro e w1 ⟨rfl, rfl⟩
  go_wp2_with fail
  refine (inRange_yes k w (by omega) (by omega)).mono ?_
  rintro e w1 ⟨rfl, rfl⟩
  go_wp2
  go_ret2
  exact ⟨rfl, rfl⟩

theorem open_loop (g : Nat) (L : List Ln) (k : Nat) (w : World) (h : TabAt w g true L) (hk : k < L.length) (hz : k = 0 ∨ L[k].ch.o = false) :
    Calls Try.prog 17 #[.pointer (some ⟨g, 0, none⟩), .int .i64 k] w
      (DidO g (loopO (chs L) k) w) := by
  have h4 := h.2.1
  have c0 : w.cell? ⟨g, 1 + k * 6, none⟩ = some (.bool L[k].ch.o) := h.cell k 0 hk (by omega)
  have i2 : (k : Int) < 4 := by omega
  have i3 : (0 : Int) ≤ (k : Int) := by omega
  obtain ⟨R, hR⟩ : ∃ R, R = loopO (chs L) k := ⟨_, rfl⟩
  rw [← hR]
  have HR := Lib.hid hR
  clear hR
  have HF : Hid (∀ j, (hj : j < L.length) → freeB (chs L) k j = (!L[j].ch.o && (k == 0 || k == j))) := fun j hj => by
    unfold freeB
    rw [chs_get L j hj, Bool.eq_iff_iff]
    simp
    omega
  by_cases hk0 : k = 0
  · subst hk0
    have HF : Hid (∀ j, (hj : j < L.length) → freeB (chs L) 0 j = !L[j].ch.o) := fun j hj => by
      have h := HF.out j hj
      rw [show (((0 : Nat)) : Int) = 0 from rfl] at h
      rw [h]
      simp
    rw [show (((0 : Nat)) : Int) = 0 from rfl] at HR ⊢
    clear i2 i3 hz c0
    go_enter Try.func17, Try.ntmps17
    go_wp2_with fail
    refine (ok_any _ true w (.inr ⟨g, rfl, h.made_⟩)).mono ?_
    rintro e w1 ⟨rfl, rfl⟩
    go_wp2_with fail
    refine (inRange_yes 0 w (by decide) (by decide)).mono ?_
    rintro e w1 ⟨rfl, rfl⟩
    go_wp2
    go_loopw [27] (fun i wx => ∃ j : Nat, j ≤ 4 ∧ i = .int .i64 j ∧ wx = w ∧ Hid (∀ i, i < j → freeB (chs L) 0 i = false)) (fun i _ => 4 - (intOf i).toNat)
    case atStart => exact ⟨0, by omega, rfl, rfl, fun i hi => by omega⟩
    case round =>
      obtain ⟨j, hj, rfl, rfl, HI⟩ := hrel
      by_cases hj4 : j < 4
      · have hjL : j < L.length := by omega
        have d0 : wr.cell? ⟨g, 1 + j * 6, none⟩ = some (.bool L[j].ch.o) := h.cell j 0 hjL (by omega)
        have j4 : (j : Int) < 4 := by omega
        have j0 : (0 : Int) ≤ (j : Int) := by omega
        by_cases hoj : L[j].ch.o = true
        · rw [hoj] at d0
          have HI' : Hid (∀ i, i < j + 1 → freeB (chs L) 0 i = false) := fun i hi => by
            rcases Nat.lt_or_ge i j with hij | hij
            · exact HI.out i hij
            · obtain rfl : i = j := by omega
              rw [HF.out i hjL, hoj]
              rfl
          clear hoj
          go_wp2
          go_roundw
          case rel => exact ⟨j + 1, by omega, by go_num, by first | trivial | rfl, HI'⟩
          case measure => simp [intOf]; omega
        · have hoj' : L[j].ch.o = false := by simpa using hoj
          rw [hoj'] at d0
          have hfb : freeB (chs L) 0 j = true := by rw [HF.out j hjL, hoj']; simp
          have hR : R = ((chs L).set j lineO, (j : Int), 0) := by rw [HR.out, loopO_some (find_first hj4 HI.out hfb)]
          subst hR
          clear HR hfb hoj hoj' HI HF
          have c1 : wr.cell? ⟨g, 1 + j * 6 + 1, none⟩ = some (.slice L[j].A L[j].ch.app.length L[j].c) := h.cell j 1 hjL (by omega)
          have c2 : wr.cell? ⟨g, 1 + j * 6 + 2, none⟩ = some (.int .i64 L[j].ch.p) := h.cell j 2 hjL (by omega)
          have c3 : wr.cell? ⟨g, 1 + j * 6 + 3, none⟩ = some (.int .i64 L[j].ch.k) := h.cell j 3 hjL (by omega)
          have c4 : wr.cell? ⟨g, 1 + j * 6 + 4, none⟩ = some (.int .i64 L[j].ch.s) := h.cell j 4 hjL (by omega)
          have c5 : wr.cell? ⟨g, 1 + j * 6 + 5, none⟩ = some (.int .i64 L[j].ch.l) := h.cell j 5 hjL (by omega)
          have f := h.1.free
          go_wp2
          go_ret2
          have hon := ((((((Only.refl g none wr).put (1 + j * 6) (.bool true)).put (1 + j * 6 + 1) (.slice none 0 0)).put (1 + j * 6 + 2) (.int .i64 0)).put (1 + j * 6 + 3) (.int .i64 0)).put (1 + j * 6 + 4) (.int .i64 0)).put (1 + j * 6 + 5) (.int .i64 0)
          exact ⟨rfl, L.set j ln0, h.turned hon j ln0 ⟨RB.nil _ _, by decide⟩ (put6 h.1 h4 hj4 ln0 _ _ _ _ _ _ rfl), by rw [chs_set]; rfl, hon⟩
      · obtain rfl : j = 4 := by omega
        have hR : R = (chs L, 0, 10) := by rw [HR.out, loopO_none (find_none HI.out)]
        subst hR
        clear HR HI HF
        go_wp2
        go_ret2
        exact ⟨rfl, L, h, rfl, Only.refl _ _ _⟩
  · have ho : L[k].ch.o = false := by simpa [hk0] using hz
    rw [ho] at c0
    have hi : ((k : Int) == 0) = false := by simp; exact hk0
    clear hz ho
    go_enter Try.func17, Try.ntmps17
    go_wp2_with fail
    refine (ok_any _ true w (.inr ⟨g, rfl, h.made_⟩)).mono ?_
    rintro e w1 ⟨rfl, rfl⟩
    go_wp2_with fail
    refine (inRange_yes k w (by omega) (by omega)).mono ?_
    rintro e w1 ⟨rfl, rfl⟩
    go_wp2
    go_loopw [27] (fun i wx => ∃ j : Nat, j ≤ 4 ∧ i = .int .i64 j ∧ wx = w ∧ Hid (∀ i, i < j → freeB (chs L) k i = false)) (fun i _ => 4 - (intOf i).toNat)
    case atStart => exact ⟨0, by omega, rfl, rfl, fun i hi => by omega⟩
    case round =>
      obtain ⟨j, hj, rfl, rfl, HI⟩ := hrel
      by_cases hj4 : j < 4
      · have hjL : j < L.length := by omega
        have d0 : wr.cell? ⟨g, 1 + j * 6, none⟩ = some (.bool L[j].ch.o) := h.cell j 0 hjL (by omega)
        have j4 : (j : Int) < 4 := by omega
        have j0 : (0 : Int) ≤ (j : Int) := by omega
        by_cases hoj : L[j].ch.o = true
        · rw [hoj] at d0
          have HI' : Hid (∀ i, i < j + 1 → freeB (chs L) k i = false) := fun i hi => by
            rcases Nat.lt_or_ge i j with hij | hij
            · exact HI.out i hij
            · obtain rfl : i = j := by omega
              rw [HF.out i hjL, hoj]
              rfl
          clear hoj
          go_wp2
          go_roundw
          case rel => exact ⟨j + 1, by omega, by go_num, by first | trivial | rfl, HI'⟩
          case measure => simp [intOf]; omega
        · have hoj' : L[j].ch.o = false := by simpa using hoj
          rw [hoj'] at d0
          by_cases hkj : k = j
          · have hfb : freeB (chs L) k j = true := by rw [HF.out j hjL, hoj', hkj]; simp
            have hR : R = ((chs L).set j lineO, (j : Int), 0) := by rw [HR.out, loopO_some (find_first hj4 HI.out hfb)]
            subst hR
            clear HR hfb hoj hoj' HI HF
            subst hkj
            have c1 : wr.cell? ⟨g, 1 + k * 6 + 1, none⟩ = some (.slice L[k].A L[k].ch.app.length L[k].c) := h.cell k 1 hk (by omega)
            have c2 : wr.cell? ⟨g, 1 + k * 6 + 2, none⟩ = some (.int .i64 L[k].ch.p) := h.cell k 2 hk (by omega)
            have c3 : wr.cell? ⟨g, 1 + k * 6 + 3, none⟩ = some (.int .i64 L[k].ch.k) := h.cell k 3 hk (by omega)
            have c4 : wr.cell? ⟨g, 1 + k * 6 + 4, none⟩ = some (.int .i64 L[k].ch.s) := h.cell k 4 hk (by omega)
            have c5 : wr.cell? ⟨g, 1 + k * 6 + 5, none⟩ = some (.int .i64 L[k].ch.l) := h.cell k 5 hk (by omega)
            have f := h.1.free
            go_wp2
            go_ret2
            have hon := ((((((Only.refl g none wr).put (1 + k * 6) (.bool true)).put (1 + k * 6 + 1) (.slice none 0 0)).put (1 + k * 6 + 2) (.int .i64 0)).put (1 + k * 6 + 3) (.int .i64 0)).put (1 + k * 6 + 4) (.int .i64 0)).put (1 + k * 6 + 5) (.int .i64 0)
            exact ⟨rfl, L.set k ln0, h.turned hon k ln0 ⟨RB.nil _ _, by decide⟩ (put6 h.1 h4 hj4 ln0 _ _ _ _ _ _ rfl), by rw [chs_set]; rfl, hon⟩
          · have HI' : Hid (∀ i, i < j + 1 → freeB (chs L) k i = false) := fun i hi => by
              rcases Nat.lt_or_ge i j with hij | hij
              · exact HI.out i hij
              · obtain rfl : i = j := by omega
                rw [HF.out i hjL]
                simp [hk0, hkj]
            have hkj2 : ¬ ((k : Int) = (j : Int)) := by omega
            clear hoj hoj'
            go_wp2
            go_roundw
            case rel => exact ⟨j + 1, by omega, by go_num, by first | trivial | rfl, HI'⟩
            case measure => simp [intOf]; omega
      · obtain rfl : j = 4 := by omega
        have hR : R = (chs L, 0, 10) := by rw [HR.out, loopO_none (find_none HI.out)]
        subst hR
        clear HR HI HF
        go_wp2
        go_ret2
        exact ⟨rfl, L, h, rfl, Only.refl _ _ _⟩

theorem open_any (g : Nat) (L : List Ln) (n : Int) (w : World) (h : TabAt w g true L) :
    Calls Try.prog 17 #[.pointer (some ⟨g, 0, none⟩), .int .i64 n] w (DidO g (openC (chs L) n) w) := by
  have h4 := h.2.1
  unfold openC
  by_cases hn : n < 0 ∨ 4 ≤ n
  · rw [if_pos hn]
    refine (open_range g L n w h hn).mono ?_
    rintro e w' ⟨rfl, rfl⟩
    exact ⟨rfl, L, h, rfl, Only.refl _ _ _⟩
  · rw [if_neg hn]
    obtain ⟨k, rfl⟩ : ∃ k : Nat, n = (k : Int) := ⟨n.toNat, by omega⟩
    have hk : k < L.length := by omega
    rw [which_in hk h4]
    by_cases hb : (k : Int) ≠ 0 ∧ (if L[k].ch.o = true then (0 : Int) else 14) = 0
    · rw [if_pos hb]
      have ho : L[k].ch.o = true := by
        by_cases ho : L[k].ch.o = true
        · exact ho
        · have := hb.2; rw [if_neg ho] at this; cases this
      refine (open_busy g L k w h hk (by omega) ho).mono ?_
      rintro e w' ⟨rfl, rfl⟩
      exact ⟨rfl, L, h, rfl, Only.refl _ _ _⟩
    · rw [if_neg hb]
      refine open_loop g L k w h hk ?_
      by_cases h0 : k = 0
      · exact .inl h0
      · right
        by_cases ho : L[k].ch.o = true
        · exact absurd ⟨by omega, by rw [if_pos ho]⟩ hb
        · simpa using ho
end Go.Proofs.Ytpbgfiaaechiaaa
