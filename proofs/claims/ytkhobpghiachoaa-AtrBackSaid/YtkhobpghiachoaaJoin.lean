/-
  octets.Join: the strings one after the other, in new memory.
-/
import Derived.Test.YtkhobpghiachoaaApp
namespace Go.Proofs.Ytkhobpghiachoaa
open Go.RowKit
set_option linter.unusedVariables false

/-- A string as it is handed in: its address, its capacity, its bytes. -/
structure Part where
  A : Option Addr
  c : Nat
  xs : List UInt8
def joinS (ps : List Part) : List UInt8 := ps.flatMap (·.xs)
theorem joinS_take (ps : List Part) (k : Nat) (h : k < ps.length) : joinS (ps.take (k + 1)) = joinS (ps.take k) ++ ps[k].xs := by
  unfold joinS
  rw [List.take_succ_eq_append_getElem h, List.flatMap_append]
  simp only [List.flatMap_cons, List.flatMap_nil, List.append_nil]
theorem joinS_le (ps : List Part) (k : Nat) : (joinS (ps.take k)).length ≤ (joinS ps).length := by
  have h : joinS ps = joinS (ps.take k) ++ joinS (ps.drop k) := by unfold joinS; rw [← List.flatMap_append, List.take_append_drop]
  rw [h, List.length_append]
  omega
theorem joinS_at (ps : List Part) (k : Nat) (h : k < ps.length) : (joinS (ps.take k)).length + ps[k].xs.length ≤ (joinS ps).length := by
  have := joinS_le ps (k + 1)
  rw [joinS_take ps k h, List.length_append] at this
  exact this

theorem join_any (g : Nat) (c : Nat) (ps : List Part) (w : World) (hn : ps.length ≤ 65536) (hl : (joinS ps).length ≤ 1099511627776)
    (hp : ∀ j, (h : j < ps.length) → w.cell? ⟨g, j, none⟩ = some (.slice ps[j].A ps[j].xs.length ps[j].c) ∧ RB w ps[j].A ps[j].xs) :
    Calls Try.prog 57 #[.slice (some ⟨g, 0, none⟩) ps.length c] w fun e w' =>
      ∃ A c, e = .returned (.slice A (joinS ps).length c) ∧ (joinS ps).length ≤ c ∧ RB w' A (joinS ps) ∧ Below w.heap.size w w' := by
  go_enter Try.func57, Try.ntmps57
  go_wp2
  go_loopw [3, 8] (fun v i wr => ∃ k : Nat, k ≤ ps.length ∧ i = .int .i64 k ∧ Own 5 wr w.heap.size v (joinS (ps.take k)) ∧ Below w.heap.size w wr) (fun _ i _ => ps.length - (intOf i).toNat)
  case atStart => exact ⟨0, Nat.zero_le _, rfl, Own.empty _ _ _, Below.refl _ _⟩
  case round =>
    obtain ⟨k, hk, rfl, hown, hbel⟩ := hrel
    by_cases hlt : k < ps.length
    · obtain ⟨hc, hr⟩ := hp k hlt
      have hlen := joinS_at ps k hlt
      have hcell : wr.cell? ⟨g, k, none⟩ = some (.slice ps[k].A ps[k].xs.length ps[k].c) := (hbel.cell (cell?_lt hc)).trans hc
      have hr' := hr.below hbel
      have HS := Lib.hid (joinS_take ps k hlt)
      have hB := bytesTried
      clear hc hr
      go_wp2_with (at_builtin; refine wpList_append_bytes rfl hB _ _ rfl rfl rfl hown hr' (by omega) hbel.size ?_; intro v' w' hown' hb')
      go_roundw
      case rel => exact ⟨k + 1, by omega, by go_num, by rw [HS.out]; exact hown', hbel.trans hb'⟩
      case measure => simp [intOf]; omega
    · go_wp2
      have hk : ps.take k = ps := List.take_of_length_le (by omega)
      rw [hk] at hown
      obtain ⟨A, c', rfl, hc, hr⟩ := hown.reads
      go_ret
      exact ⟨A, c', rfl, hc, hr, hbel⟩
end Go.Proofs.Ytkhobpghiachoaa
