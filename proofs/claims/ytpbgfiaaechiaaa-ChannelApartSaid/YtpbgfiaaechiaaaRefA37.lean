/-
  The channels' reference: the state by value; which, IsOpen.
-/
import Derived.Test.YtpbgfiaaechiaaaChan7
namespace Go.Proofs.Ytpbgfiaaechiaaa
open Go.RowKit
set_option linter.unusedVariables false

def scs (M : List Ln) : Array Value := (M.flatMap lnCells).toArray
theorem scs_size {M : List Ln} (h : M.length = 4) : (scs M).size = 24 := by
  obtain ⟨a, b, c, d, rfl⟩ := four h
  rfl
theorem scs_one {M : List Ln} (h : M.length = 4) : (scs M).all (·.oneCell') = true := by
  obtain ⟨a, b, c, d, rfl⟩ := four h
  simp [scs, lnCells, Value.oneCell']
theorem state_info : (Try.prog.info? 32).map (·.size) = some 24 := rfl
theorem scs_cell {w : World} {g : Nat} {t : TypeId} {M : List Ln} (h : Blk w g t (scs M)) (n r : Nat) (hn : n < M.length) (hr : r < 6) : w.cell? ⟨g, n * 6 + r, none⟩ = (lnCells M[n])[r]? := by
  rw [h.cell]
  unfold scs
  rw [List.getElem?_toArray]
  exact flat_get lnCells (fun _ => rfl) M n r hn hr

theorem refWhich_any (M : List Ln) (n : Int) (w : World) (h4 : M.length = 4) :
    Calls Try.prog 38 #[.agg (scs M), .int .i64 n] w fun e w' => e = .returned (.int .i64 (whichC (chs M) n)) ∧ Below w.heap.size w w' := by
  have hB := Blk.made w 32 (scs M)
  have hb := (Below.refl w.heap.size w).alloc (Nat.le_refl _) (.cells (scs M) 32)
  by_cases hn : n < 0 ∨ 4 ≤ n
  · rw [which_out hn]
    rcases hn with hn | hn
    · go_enter Try.func38, Try.ntmps38
      go_wp2
      go_ret
      exact ⟨rfl, hb⟩
    · have h1 : ¬ n < 0 := by omega
      go_enter Try.func38, Try.ntmps38
      go_wp2
      go_ret
      exact ⟨rfl, hb⟩
  · obtain ⟨k, rfl⟩ : ∃ k : Nat, n = (k : Int) := ⟨n.toNat, by omega⟩
    have hk : k < M.length := by omega
    rw [which_in hk h4]
    have c0 : (w.alloc (.cells (scs M) 32)).cell? ⟨w.heap.size, k * 6, none⟩ = some (.bool M[k].ch.o) := scs_cell hB k 0 hk (by omega)
    have h1 : ¬ ((k : Int) < 0) := by omega
    have h2 : ¬ (4 ≤ (k : Int)) := by omega
    have h3 : (k : Int) < 4 := by omega
    clear hn
    by_cases ho : M[k].ch.o = true
    · rw [ho] at c0
      rw [if_pos ho]
      clear ho
      go_enter Try.func38, Try.ntmps38
      go_wp2
      go_ret
      exact ⟨rfl, hb⟩
    · have ho' : M[k].ch.o = false := by simpa using ho
      rw [ho'] at c0
      rw [if_neg ho]
      clear ho ho'
      go_enter Try.func38, Try.ntmps38
      go_wp2
      go_ret
      exact ⟨rfl, hb⟩

theorem refIsOpen_any (M : List Ln) (n : Int) (w : World) (h4 : M.length = 4) :
    Calls Try.prog 35 #[.agg (scs M), .int .i64 n] w fun e w' => e = .returned (.bool (decide (whichC (chs M) n = 0))) ∧ Below w.heap.size w w' := by
  have hB := Blk.made w 32 (scs M)
  have hb := (Below.refl w.heap.size w).alloc (Nat.le_refl _) (.cells (scs M) 32)
  by_cases hn : n < 0 ∨ 4 ≤ n
  · rw [which_out hn]
    rcases hn with hn | hn
    · have h1 : ¬ 0 ≤ n := by omega
      go_enter Try.func35, Try.ntmps35
      go_wp2
      go_ret
      exact ⟨rfl, hb⟩
    · have h1 : 0 ≤ n := by omega
      have h2 : ¬ n < 4 := by omega
      go_enter Try.func35, Try.ntmps35
      go_wp2
      go_ret
      exact ⟨rfl, hb⟩
  · obtain ⟨k, rfl⟩ : ∃ k : Nat, n = (k : Int) := ⟨n.toNat, by omega⟩
    have hk : k < M.length := by omega
    rw [which_in hk h4]
    have c0 : (w.alloc (.cells (scs M) 32)).cell? ⟨w.heap.size, k * 6, none⟩ = some (.bool M[k].ch.o) := scs_cell hB k 0 hk (by omega)
    have h3 : (k : Int) < 4 := by omega
    clear hn
    by_cases ho : M[k].ch.o = true
    · rw [ho] at c0
      rw [if_pos ho]
      clear ho
      go_enter Try.func35, Try.ntmps35
      go_wp2
      go_ret
      exact ⟨rfl, hb⟩
    · have ho' : M[k].ch.o = false := by simpa using ho
      rw [ho'] at c0
      rw [if_neg ho]
      clear ho ho'
      go_enter Try.func35, Try.ntmps35
      go_wp2
      go_ret
      exact ⟨rfl, hb⟩
end Go.Proofs.Ytpbgfiaaechiaaa
