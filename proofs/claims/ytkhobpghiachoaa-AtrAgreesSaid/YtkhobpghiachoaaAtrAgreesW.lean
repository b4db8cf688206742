/-
  AtrAgrees: the walk.
-/
import Derived.Test.YtkhobpghiachoaaWorks05
import Derived.Test.YtkhobpghiachoaaAnsC05
import Derived.Test.YtkhobpghiachoaaAcc05
import Derived.Test.YtkhobpghiachoaaFew05
namespace Go.Proofs.Ytkhobpghiachoaa
open Go.RowKit Crc
set_option linter.unusedVariables false

theorem ansE_zero {a : Atr} {q : List UInt8} (h : ansE a q = 0) : chkF a = 0 ∧ parE q = 0 ∧ (tB q : Int) % 16 ∈ a.ps := by
  unfold ansE at h
  split at h
  · split at h
    · split at h
      · exact ⟨by assumption, by assumption, by assumption⟩
      · cases h
    · rename_i h2
      exact absurd h h2
  · cases h
/-- The terminal accepts what the card answers. -/
theorem agrees {a : Atr} {q : List UInt8} (h : ansE a q = 0) : accE q (ansB a q) = 0 ∧ accN q (ansB a q) = ansN a q ∧ ansN a q ∈ a.ps := by
  obtain ⟨h1, h2, h3⟩ := ansE_zero h
  have hp := (okPs_one (valid_of (chkF_zero h1).1).ps).1 _ h3
  have hB : ansB a q = reqB ((tB q : Int) % 16) := by unfold ansB; rw [if_pos h]
  have hN : ansN a q = (tB q : Int) % 16 := by unfold ansN; rw [if_pos h]
  have hpe : parE (reqB ((tB q : Int) % 16)) = 0 := by rcases hp with e | e <;> rw [e] <;> decide +kernel
  have htb : (tB (reqB ((tB q : Int) % 16)) : Int) % 16 = (tB q : Int) % 16 := by rcases hp with e | e <;> rw [e] <;> decide +kernel
  have hok : okAll q (reqB ((tB q : Int) % 16)) = true := by
    have hn : ∀ k, k < 3 → partB (reqB ((tB q : Int) % 16)) k = none := by
      intro k hk
      rcases hp with e | e <;> rw [e] <;> rcases (show k = 0 ∨ k = 1 ∨ k = 2 from by omega) with rfl | rfl | rfl <;> decide +kernel
    unfold okAll okK
    rw [decide_eq_true (.inl (hn 0 (by omega))), decide_eq_true (.inl (hn 1 (by omega))), decide_eq_true (.inl (hn 2 (by omega)))]
    rfl
  have hE : accE q (ansB a q) = 0 := by
    unfold accE
    rw [hB, if_pos h2, if_pos hpe, if_pos htb, if_pos hok]
  refine ⟨hE, ?_, ?_⟩
  · unfold accN
    rw [if_pos hE, hB, hN, htb]
  · rw [hN]; exact h3
set_option maxRecDepth 100000 in
set_option maxHeartbeats 8000000 in
theorem atrAgrees_go (aI : Bool) (bA : Option Addr) (bC : Nat) (bs : List If) (pA : Option Addr) (pC : Nat) (ps : List Int) (hA : Option Addr) (hC : Nat) (hs : List UInt8) (B : Option Addr) (d : Nat) (q : List UInt8) (w : World) (hi : AtrIn w ⟨aI, bA, bC, bs, pA, pC, ps, hA, hC, hs⟩) (hqd : q.length ≤ d) (hq : RB w B q) :
    Calls Try.prog 11 #[.agg #[.bool aI, .slice bA bs.length bC, .slice pA ps.length pC, .slice hA hs.length hC], .slice B q.length d] w fun e w' => e = .returned (.bool true) ∧ Below w.heap.size w w' := by
  have hk0 := Blk.made w 27 #[.bool aI, .slice bA bs.length bC, .slice pA ps.length pC, .slice hA hs.length hC]
  have hb0 := (Below.refl w.heap.size w).alloc (Nat.le_refl _) (.cells #[.bool aI, .slice bA bs.length bC, .slice pA ps.length pC, .slice hA hs.length hC] 27)
  obtain ⟨W0, hW0⟩ : ∃ W0 : World, W0 = w.alloc (.cells #[.bool aI, .slice bA bs.length bC, .slice pA ps.length pC, .slice hA hs.length hC] 27) := ⟨_, rfl⟩
  rw [← hW0] at hk0 hb0
  have hi0 := hi.below hb0
  have hqW := hq.below hb0
  have n0 : W0.cell? ⟨w.heap.size, 0, none⟩ = some (.bool aI) := hk0.cell 0
  have n1 : W0.cell? ⟨w.heap.size, 1, none⟩ = some (.slice bA bs.length bC) := hk0.cell 1
  have n2 : W0.cell? ⟨w.heap.size, 2, none⟩ = some (.slice pA ps.length pC) := hk0.cell 2
  have n3 : W0.cell? ⟨w.heap.size, 3, none⟩ = some (.slice hA hs.length hC) := hk0.cell 3
  have hcell : ∀ w', Below W0.heap.size W0 w' → w'.cell? ⟨w.heap.size, 0, none⟩ = some (.bool aI) ∧ w'.cell? ⟨w.heap.size, 1, none⟩ = some (.slice bA bs.length bC) ∧ w'.cell? ⟨w.heap.size, 2, none⟩ = some (.slice pA ps.length pC) ∧ w'.cell? ⟨w.heap.size, 3, none⟩ = some (.slice hA hs.length hC) := fun w' hb =>
    ⟨(hb.cell (p := ⟨w.heap.size, 0, none⟩) hk0.size).trans n0, (hb.cell (p := ⟨w.heap.size, 1, none⟩) hk0.size).trans n1, (hb.cell (p := ⟨w.heap.size, 2, none⟩) hk0.size).trans n2, (hb.cell (p := ⟨w.heap.size, 3, none⟩) hk0.size).trans n3⟩
  go_enter Try.func11, Try.ntmps11
  go_upto_region 1 with fail
  rw [← hW0]
  clear hW0
  go_wp2_with fail
  refine (few_go aI bA bC bs pA pC ps hA hC hs W0).mono ?_
  rintro e w1 ⟨rfl, hb1⟩
  by_cases hf : fewF ⟨aI, bA, bC, bs, pA, pC, ps, hA, hC, hs⟩ = true
  · obtain ⟨hl1, hl2, hl3⟩ := fewF_true hf
    simp only at hl1 hl2 hl3
    rw [hf]
    clear hf
    by_cases hq100 : (100 : Int) < (q.length : Int)
    · go_wp2_with fail
      refine (works_any w1).mono ?_
      rintro e w2 ⟨rfl, hb2⟩
      go_wp2
      go_ret
      exact ⟨rfl, hb0.trans ((hb1.trans (hb2.mono hb1.size)).mono hb0.size)⟩
    have hq100d := decide_eq_false hq100
    have hq1 := hqW.below hb1
    obtain ⟨m0, m1, m2, m3⟩ := hcell w1 hb1
    have hQ := answerC_go aI bA bC bs pA pC ps hA hC hs B d q w1 (hi0.below hb1) (by omega) (by omega) (by omega) hqd hq1
    obtain ⟨a, ha⟩ : ∃ a : Atr, a = ⟨aI, bA, bC, bs, pA, pC, ps, hA, hC, hs⟩ := ⟨_, rfl⟩
    have hal : a.ps = ps := by rw [ha]
    rw [← ha] at hQ
    clear ha
    go_wp2_with fail
    refine hQ.mono ?_
    clear hQ
    rintro e w2 ⟨A2, c2, rfl, hr2, hc2, hb2⟩
    have hb2' := hb1.trans (hb2.mono hb1.size)
    clear m0 m1 m2 m3
    by_cases hz : ansE a q = 0
    · obtain ⟨g1, g2, g3⟩ := agrees hz
      rw [hal] at g3
      have hBl : (ansB a q).length ≤ 60000 := by
        unfold ansB
        rw [if_pos hz]
        unfold reqB
        split
        · decide
        · split <;> decide
      rw [hz]
      clear hz
      obtain ⟨bb, hbbE⟩ : ∃ bb, bb = ansB a q := ⟨_, rfl⟩
      obtain ⟨nn, hnn⟩ : ∃ nn, nn = ansN a q := ⟨_, rfl⟩
      rw [← hbbE] at hr2 g1 g2 hBl hc2
      rw [← hnn] at g2 g3
      rw [← hbbE, ← hnn]
      clear hbbE hnn
      go_wp2_with fail
      refine (accept_go B d q A2 c2 bb w2 (by omega) hqd (hqW.below hb2') hBl hc2 hr2).mono ?_
      rintro e w3 ⟨rfl, hb3⟩
      rw [g1, g2]
      clear g1 g2
      have hb3' := hb2'.trans (hb3.mono hb2'.size)
      have hps := hi0.p.below hb3'
      simp only at hps
      obtain ⟨m0, m1, m2, m3⟩ := hcell w3 hb3'
      clear hcell
      go_wp2
      go_loopw [10, 11] (fun o i wx => ∃ (k : Nat) (x : Bool), k ≤ ps.length ∧ i = .int .i64 k ∧ o = .bool x ∧ wx = w3 ∧ Hid (x = decide (nn ∈ ps.take k))) (fun _ i _ => ps.length - (intOf i).toNat)
      case atStart => exact ⟨0, false, Nat.zero_le _, rfl, rfl, rfl, by show _ = _; simp⟩
      case round =>
        obtain ⟨k, x, hk, rfl, rfl, rfl, HX⟩ := hrel
        by_cases h1 : k < ps.length
        · obtain ⟨pb, po, rfl, hcp⟩ := hps.at_ (by rw [nv_length]; omega)
          have hcellp : wr.cell? ⟨pb, po + k, none⟩ = some (.int .i64 ps[k]) := by rw [hcp k (by rw [nv_length]; exact h1)]; simp [nv]
          have HT : Hid (ps.take (k + 1) = ps.take k ++ [ps[k]]) := List.take_succ_eq_append_getElem h1
          have hi0 : (0 : Int) ≤ (k : Int) := by omega
          have hi1 : (k : Int) < (ps.length : Int) := by omega
          clear hcp
          generalize ps[k] = y at hcellp HT
          cases x
          · have HN : Hid ((y == nn) = decide (nn ∈ ps.take (k + 1))) := by
              show _ = _
              rw [HT.out, Bool.eq_iff_iff]
              have h := HX.out
              simp only [Bool.false_eq, decide_eq_false_iff_not] at h
              simp [h]
              exact eq_comm
            go_wp2
            go_roundw
            case rel => exact ⟨k + 1, _, by omega, by go_num, rfl, by first | trivial | rfl, HN⟩
            case measure => simp [intOf]; omega
          · have HN : Hid (true = decide (nn ∈ ps.take (k + 1))) := by
              show _ = _
              rw [HT.out]
              have h := HX.out
              simp only [Bool.true_eq, decide_eq_true_eq] at h
              simp [h]
            go_wp2
            go_roundw
            case rel => exact ⟨k + 1, _, by omega, by go_num, rfl, by first | trivial | rfl, HN⟩
            case measure => simp [intOf]; omega
        · have hx : x = true := by
            have h := HX.out
            rw [List.take_of_length_le (by omega)] at h
            rw [h, decide_eq_true g3]
          subst hx
          have hi1 : ¬ ((k : Int) < (ps.length : Int)) := by omega
          go_wp2_with fail
          refine (works_any wr).mono ?_
          rintro e w4 ⟨rfl, hb4⟩
          go_wp2
          go_ret
          exact ⟨rfl, hb0.trans ((hb3'.trans (hb4.mono hb3'.size)).mono hb0.size)⟩
    · have hB : ansB a q = [] := by unfold ansB; rw [if_neg hz]
      have hN : ansN a q = 0 := by unfold ansN; rw [if_neg hz]
      rw [hB, hN]
      have hzb : (ansE a q != 0) = true := by simpa using hz
      clear hz hB hN
      go_wp2_with fail
      refine (works_any w2).mono ?_
      rintro e w3 ⟨rfl, hb3⟩
      go_wp2
      go_ret
      exact ⟨rfl, hb0.trans ((hb2'.trans (hb3.mono hb2'.size)).mono hb0.size)⟩
  · rw [Bool.eq_false_iff.2 hf]
    go_wp2_with fail
    refine (works_any w1).mono ?_
    rintro e w2 ⟨rfl, hb2⟩
    go_wp2
    go_ret
    exact ⟨rfl, hb0.trans ((hb1.trans (hb2.mono hb1.size)).mono hb0.size)⟩
theorem atrAgrees_walk (w : World) (a : Atr) (hi : AtrIn w a) (B : Option Addr) (d : Nat) (q : List UInt8) (hqd : q.length ≤ d) (hq : RB w B q) :
    Calls Try.prog 11 #[.agg (atrCs a), .slice B q.length d] w fun e w' => e = .returned (.bool true) ∧ Below w.heap.size w w' := by
  obtain ⟨aI, bA, bC, bs, pA, pC, ps, hA, hC, hs⟩ := a
  exact atrAgrees_go aI bA bC bs pA pC ps hA hC hs B d q w hi hqd hq
end Go.Proofs.Ytkhobpghiachoaa
