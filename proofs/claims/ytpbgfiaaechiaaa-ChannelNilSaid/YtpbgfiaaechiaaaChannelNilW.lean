/-
  ChannelNil: the walk.
-/
import Derived.Test.YtpbgfiaaechiaaaAwake37
import Derived.Test.YtpbgfiaaechiaaaOpen37
namespace Go.Proofs.Ytpbgfiaaechiaaa
open Go.RowKit
set_option linter.unusedVariables false

theorem channelNil_go (w : World) (n : Int) (hn : (Lit.int .i64 n).wf = true) (A : Option Addr) (c : Nat) (xs : List UInt8) (hc : xs.length ≤ c) (hr : RB w A xs) (p k s l : Int) :
    Calls Try.prog 7 #[.int .i64 n, .slice A xs.length c, .agg (secCs p k s l)] w fun e w' => e = .returned (.bool true) ∧ Below w.heap.size w w' := by
  have hb0 := (Below.refl w.heap.size w).alloc (Nat.le_refl _) (.cells (secCs p k s l) 27)
  have hk0 := Blk.made w 27 (secCs p k s l)
  have hs0 : w.heap.size < (w.alloc (.cells (secCs p k s l) 27)).heap.size := by simp
  go_enter Try.func7, Try.ntmps7
  go_wp2
  go_loopw [7, 8] (fun v i wx => ∃ j : Nat, j ≤ 2 ∧ i = .int .i64 j ∧ IsOk wx v false ∧ Blk wx w.heap.size 27 (secCs p k s l) ∧ Below w.heap.size w wx) (fun _ i _ => 2 - (intOf i).toNat)
  case atStart => exact ⟨0, by omega, rfl, .inl ⟨rfl, rfl⟩, hk0, hb0⟩
  case round =>
    obtain ⟨j, hj, rfl, hI, hB, hbw⟩ := hrel
    by_cases hj2 : j < 2
    · have n0 : wr.cell? ⟨w.heap.size, 0, none⟩ = some (.int .i64 p) := hB.cell 0
      have n1 : wr.cell? ⟨w.heap.size, 1, none⟩ = some (.int .i64 k) := hB.cell 1
      have n2 : wr.cell? ⟨w.heap.size, 2, none⟩ = some (.int .i64 s) := hB.cell 2
      have n3 : wr.cell? ⟨w.heap.size, 3, none⟩ = some (.int .i64 l) := hB.cell 3
      go_wp2_with fail
      refine (open_bad u7 n wr hI).mono ?_
      rintro e w1 ⟨rfl, rfl⟩
      go_wp2_with fail
      refine (close_bad u7 n wr hI).mono ?_
      rintro e w1 ⟨rfl, rfl⟩
      go_wp2_with fail
      refine (setApp_bad u7 n _ wr hI).mono ?_
      rintro e w1 ⟨rfl, rfl⟩
      go_wp2_with fail
      refine (setSec_bad u7 n p k s l wr hI).mono ?_
      rintro e w1 ⟨rfl, hb1⟩
      have hI1 := hI.below hb1
      go_wp2_with fail
      refine (reset_bad u7 w1 hI1).mono ?_
      rintro e w2 ⟨rfl, rfl⟩
      go_wp2_with fail
      refine (isOpen_bad u7 n w1 hI1).mono ?_
      rintro e w2 ⟨rfl, rfl⟩
      go_wp2_with fail
      refine (app_bad u7 n w1 hI1).mono ?_
      rintro e w2 ⟨rfl, rfl⟩
      have hq := security_bad u7 n w1 hI1
      simp only [secCs] at hq
      go_wp2_with fail
      refine hq.mono ?_
      clear hq
      rintro e w2 ⟨rfl, hb2⟩
      have hI2 := hI1.below hb2
      go_wp2_with fail
      refine (with_bad u7 A xs.length c w2 hI2).mono ?_
      rintro e w3 ⟨rfl, rfl⟩
      go_wp2
      go_roundw
      case rel =>
        have hB2 := (hB.below hb1 hB.size).below hb2 (hB.below hb1 hB.size).size
        have hbw2 := (hbw.trans (hb1.mono hbw.size)).trans (hb2.mono (Nat.le_trans hbw.size hb1.size))
        exact ⟨j + 1, by omega, by go_num, .inr ⟨_, rfl, (Blk.made w2 _ _).cell 0⟩, hB2.alloc _, hbw2.alloc hbw2.size _⟩
      case measure => simp [intOf]; omega
    · go_wp2_with fail
      refine (awake_any wr).mono ?_
      rintro e w3 ⟨rfl, hb3⟩
      go_wp2
      go_ret
      exact ⟨rfl, hbw.trans (hb3.mono hbw.size)⟩
theorem channelNil_walk (w : World) (n : Int) (hn : (Lit.int .i64 n).wf = true) (A : Option Addr) (c : Nat) (xs : List UInt8) (hc : xs.length ≤ c) (hr : RB w A xs) (t : Sec) (ht : secOk t) :
    Calls Try.prog 7 #[.int .i64 n, .slice A xs.length c, .agg (secCs t.p t.k t.s t.l)] w fun e w' => e = .returned (.bool true) ∧ Below w.heap.size w w' :=
  channelNil_go w n hn A c xs hc hr t.p t.k t.s t.l
end Go.Proofs.Ytpbgfiaaechiaaa
