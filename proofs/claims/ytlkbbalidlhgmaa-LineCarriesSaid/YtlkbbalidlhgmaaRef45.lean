/-
  The reference for the line: Happens, Add, Carry; and few.
-/
import Derived.Test.YtlkbbalidlhgmaaWorks
import Derived.Test.YtlkbbalidlhgmaaOpen45
namespace Go.Proofs.Ytlkbbalidlhgmaa
open Go.RowKit
set_option linter.unusedVariables false

/-- One element of a slice. -/
theorem flat_get {T : Type} (f : T → List Value) {s : Nat} (hf : ∀ t, (f t).length = s) : ∀ (ts : List T) (k r : Nat) (hk : k < ts.length), r < s → (ts.flatMap f)[k * s + r]? = (f ts[k])[r]?
  | [], k, r, hk, _ => by simp at hk
  | t :: ts, 0, r, _, hr => by
    rw [Nat.zero_mul, Nat.zero_add, List.flatMap_cons, List.getElem?_append_left (by rw [hf]; exact hr)]
    rfl
  | t :: ts, k + 1, r, hk, hr => by
    rw [List.flatMap_cons, List.getElem?_append_right (by rw [hf, Nat.succ_mul]; omega), hf, show (k + 1) * s + r - s = k * s + r from by rw [Nat.succ_mul]; omega]
    rw [flat_get f hf ts k r (by simpa using hk) hr]
    rfl
theorem flat_length {T : Type} (f : T → List Value) {s : Nat} (hf : ∀ t, (f t).length = s) (ts : List T) : (ts.flatMap f).length = ts.length * s := by
  induction ts with
  | nil => simp
  | cons t ts ih => rw [List.flatMap_cons, List.length_append, ih, hf, List.length_cons, Nat.succ_mul]; omega
theorem RC.elem {T : Type} (f : T → List Value) {s : Nat} (hf : ∀ t, (f t).length = s) {w : World} {A : Option Addr} {ts : List T} (h : RC w A (ts.flatMap f)) (k : Nat) (hk : k < ts.length) (h0 : 0 < s) :
    ∃ b off, A = some ⟨b, off, none⟩ ∧ ∀ r, r < s → w.cell? ⟨b, off + (k * s + r), none⟩ = (f ts[k])[r]? := by
  have hl := flat_length f hf ts
  have hks : k * s + s ≤ ts.length * s := by rw [← Nat.succ_mul]; exact Nat.mul_le_mul_right s hk
  obtain ⟨b, off, rfl, hc⟩ := h.at_ (by rw [hl]; omega)
  refine ⟨b, off, rfl, fun r hr => ?_⟩
  have hj : k * s + r < (ts.flatMap f).length := by rw [hl]; omega
  rw [hc _ hj, ← List.getElem?_eq_getElem hj, flat_get f hf ts k r hk hr]

/-- What few answers. -/
def opFew (o : Op45) : Bool := decide (o.more.length ≤ 100) && decide (o.b.length ≤ 300)
def fewB (ls : List Lk) (os : List Op45) : Bool := decide (ls.length ≤ 200) && decide (os.length ≤ 200) && os.all opFew

theorem few_any (A : Option Addr) (c : Nat) (ls : List Lk) (B : Option Addr) (d : Nat) (os : List Op45) (w : World) (hr : RC w B (os.flatMap opCells)) :
    Calls Try.prog 9 #[.slice A ls.length c, .slice B os.length d] w fun e w' => e = .returned (.bool (fewB ls os)) ∧ w = w' := by
  by_cases h1 : ls.length ≤ 200
  · by_cases h2 : os.length ≤ 200
    · have hfb : fewB ls os = os.all opFew := by unfold fewB; simp [h1, h2]
      have HFB := Lib.hid hfb
      clear hfb
      go_enter Try.func9, Try.ntmps9
      go_wp2
      go_loop [5] (fun i => ∃ k : Nat, k ≤ os.length ∧ i = .int .i64 k ∧ Hid ((os.take k).all opFew = true)) (fun i => os.length - (intOf i).toNat)
      case atStart => exact ⟨0, Nat.zero_le _, rfl, rfl⟩
      case round =>
        obtain ⟨k, hk, rfl, ht⟩ := hrel
        by_cases hlt : k < os.length
        · obtain ⟨b, off, rfl, hx⟩ := RC.elem opCells (s := 3) (fun _ => rfl) hr k hlt (by omega)
          have g1 := hx 1 (by omega)
          have g2 := hx 2 (by omega)
          have g1' : w.cell? ⟨b, off + k * 3 + 1, none⟩ = some (.slice os[k].A os[k].more.length os[k].c) := by rw [Nat.add_assoc]; exact g1
          have g2' : w.cell? ⟨b, off + k * 3 + 2, none⟩ = some (.slice os[k].B os[k].b.length os[k].d) := by rw [Nat.add_assoc]; exact g2
          clear hx g1 g2
          have hall : os.take (k + 1) = os.take k ++ [os[k]] := List.take_succ_eq_append_getElem hlt
          have HALL := Lib.hid hall
          have hin : opFew os[k] = false → os.all opFew = false := fun h => by
            rw [List.all_eq_false]
            exact ⟨os[k], List.getElem_mem hlt, by rw [h]; simp⟩
          have HIN := Lib.hid hin
          clear hall hin
          by_cases h3 : os[k].more.length ≤ 100
          · by_cases h4 : os[k].b.length ≤ 300
            · have hof : opFew os[k] = true := by unfold opFew; simp [h3, h4]
              have HOF := Lib.hid hof
              clear hof
              go_wp2
              go_round
              case rel => exact ⟨k + 1, by omega, by go_num, by show _ = _; rw [HALL.out, List.all_append, ht.out]; simp [HOF.out]⟩
              case measure => simp [intOf]; omega
            · have hof : opFew os[k] = false := by unfold opFew; simp [h4]
              have HOF := Lib.hid (HIN.out hof)
              clear hof
              go_wp2
              go_ret
              exact ⟨ret_bool (by rw [HFB.out, HOF.out]), rfl⟩
          · have hof : opFew os[k] = false := by unfold opFew; simp [h3]
            have HOF := Lib.hid (HIN.out hof)
            clear hof
            go_wp2
            go_ret
            exact ⟨ret_bool (by rw [HFB.out, HOF.out]), rfl⟩
        · go_wp2
          go_ret
          exact ⟨ret_bool (by rw [HFB.out, ← ht.out, List.take_of_length_le (by omega)]), rfl⟩
    · have hfb : fewB ls os = false := by unfold fewB; simp [h2]
      have HFB := Lib.hid hfb
      clear hfb
      go_enter Try.func9, Try.ntmps9
      go_wp2
      go_ret
      exact ⟨ret_bool HFB.out.symm, rfl⟩
  · have hfb : fewB ls os = false := by unfold fewB; simp [h1]
    have HFB := Lib.hid hfb
    clear hfb
    go_enter Try.func9, Try.ntmps9
    go_wp2
    go_ret
    exact ⟨ret_bool HFB.out.symm, rfl⟩
end Go.Proofs.Ytlkbbalidlhgmaa
