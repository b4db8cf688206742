/-
  Decode: the deferred closure.
-/
import Derived.Test.YtkhobpghiachoaaWholeN05
import Derived.Defers
import Derived.Recover
import Derived.Laws.Pointers
namespace Go.Proofs.Ytkhobpghiachoaa
open Go.RowKit Crc
set_option linter.unusedVariables false

set_option maxRecDepth 100000 in
set_option maxHeartbeats 2000000 in
theorem catchP (rb eb : Nat) (a0 a1 a2 a3 : Value) (k0 e : Int) (older : List PanicEntry) (w : World) (hne : rb ≠ eb)
    (hr : Blk w rb 27 #[a0, a1, a2, a3]) (he : Blk w eb 28 #[.int .i64 k0]) :
    CallsD Try.prog 31 #[.pointer (some ⟨rb, 0, none⟩), .pointer (some ⟨eb, 0, none⟩)] (.panicking ({ v := .iface 48 (.int .i64 e), recovered := false } :: older)) w fun en u' w' =>
      en = .returned (.tuple #[]) ∧ u' = .panicking ({ v := .iface 48 (.int .i64 e), recovered := true } :: older) ∧ w' = ((((w.setCell ⟨rb, 0, none⟩ (.bool false)).setCell ⟨rb, 1, none⟩ (.slice none 0 0)).setCell ⟨rb, 2, none⟩ (.slice none 0 0)).setCell ⟨rb, 3, none⟩ (.slice none 0 0)).setCell ⟨eb, 0, none⟩ (.int .i64 e) := by
  have d0 : w.cell? ⟨rb, 0, none⟩ = some a0 := hr.cell 0
  have d1 : w.cell? ⟨rb, 1, none⟩ = some a1 := hr.cell 1
  have d2 : w.cell? ⟨rb, 2, none⟩ = some a2 := hr.cell 2
  have d3 : w.cell? ⟨rb, 3, none⟩ = some a3 := hr.cell 3
  have f0 := hr.free 0
  have f1 := hr.free 1
  have f2 := hr.free 2
  have f3 := hr.free 3
  have g0 : w.cell? ⟨eb, 0, none⟩ = some (.int .i64 k0) := he.cell 0
  have g1 := he.free 0
  refine callsD_of_wpS Try.func31 rfl fun c₀ cs hu => ?_
  change Code.wpS _ _ _ { tmps := #[.pointer (some ⟨rb, 0, none⟩), .pointer (some ⟨eb, 0, none⟩), undef, undef, undef, undef, undef, undef, undef, undef, undef, undef, undef, undef, undef, undef, undef, undef], defers := [] } _ _
  apply wpS_seq
  apply wpS_region
  simp [wpOpsS, go_sem, recoverD, hu, Exit.thenS]
  refine wpS_of_wp ?_
  have n1 : ¬ (rb = eb) := hne
  have n2 : ¬ (eb = rb) := fun e => hne e.symm
  clear hu
  have hta : ∀ w : World, Sem.run Try.prog (Instr.typeAssert (.iface 48 (.int .i64 e)) 20 48 true) w = .ok (.tuple #[.int .i64 e, .bool true]) w := fun _ => rfl
  go_wp2
  simp [bodyPostS, results, Try.results31]
set_option maxRecDepth 100000 in
set_option maxHeartbeats 2000000 in
theorem catchI (rb eb : Nat) (w : World) :
    CallsD Try.prog 31 #[.pointer (some ⟨rb, 0, none⟩), .pointer (some ⟨eb, 0, none⟩)] .returning w fun en u' w' => en = .returned (.tuple #[]) ∧ u' = .returning ∧ w' = w := by
  refine callsD_of_wpS Try.func31 rfl fun c₀ cs hu => ?_
  apply wpS_seq
  apply wpS_region
  simp [wpOpsS, go_sem, recoverD, hu, Try.ntmps31, Exit.thenS]
  apply wpS_seq
  apply wpS_region
  simp [wpOpsS, go_sem, Exit.thenS]
  refine wpS_cond (t := false) (by simp [Act.eval, Array.replicate]) ?_
  simp only [Bool.false_eq_true, if_false]
  refine wpS_of_wp (wp_skip ?_)
  cases c₀
  simp_all [bodyPostS, results, Try.results31]
end Go.Proofs.Ytkhobpghiachoaa
