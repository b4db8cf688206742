/-
  AtrBack: the walk.
-/
import Derived.Test.YtkhobpghiachoaaEncC05
import Derived.Test.YtkhobpghiachoaaDecP05
import Derived.Test.YtkhobpghiachoaaBackL05
import Derived.Test.YtkhobpghiachoaaSame05
import Derived.Test.YtkhobpghiachoaaWorks05
import Derived.Test.YtkhobpghiachoaaFew05
namespace Go.Proofs.Ytkhobpghiachoaa
open Go.RowKit Crc
set_option linter.unusedVariables false

theorem decS_few (b : List UInt8) : (decS b).bs.length ≤ 33 ∧ (decS b).ps.length ≤ 41 ∧ ∀ x ∈ (decS b).bs, x.g ≤ 41 := by
  have h := whole_bd b
  unfold decS
  split
  · split
    · exact h
    · simp [Dec.bad]
  · exact h
theorem decS_enc {b : List UInt8} (h : (decS b).e = 0) : chkF (decS b).atr = 0 ∧ encF (decS b).atr = b := by
  unfold decS at h ⊢
  split at h
  · rename_i h0
    rw [if_pos h0]
    split at h
    · rename_i h1
      rw [if_pos h1]
      exact h1
    · exact absurd h (by decide)
  · rename_i h0
    exact absurd h h0
theorem DRes.of {b : List UInt8} {w w' : World} {e : Ending} {D : Dec} (hD : decS b = D) (h : DRes b w e w') : Below w.heap.size w w' ∧ ∃ A1 c1 A2 c2 A3 c3, e = .returned (.tuple #[.agg #[.bool D.inv, .slice A1 D.bs.length c1, .slice A2 D.ps.length c2, .slice A3 D.hs.length c3], .int .i64 D.e]) ∧
    RC w' A1 (ifv D.bs) ∧ RC w' A2 (nv D.ps) ∧ RB w' A3 D.hs := by
  subst hD
  exact h
theorem same_same (i : Bool) (bs : List If) (ps : List Int) (hs : List UInt8) (A1 : Option Addr) (c1 : Nat) (A2 : Option Addr) (c2 : Nat) (A3 : Option Addr) (c3 : Nat) (B1 : Option Addr) (d1 : Nat) (B2 : Option Addr) (d2 : Nat) (B3 : Option Addr) (d3 : Nat) :
    true = sameF ⟨i, A1, c1, bs, A2, c2, ps, A3, c3, hs⟩ ⟨i, B1, d1, bs, B2, d2, ps, B3, d3, hs⟩ := by
  unfold sameF
  simp
theorem encF_two {a : Atr} (h : chkF a = 0) : 2 ≤ (encF a).length ∧ (encF a).length ≤ 33 := by
  obtain ⟨h1, h2, h3⟩ := chkF_zero h
  have hv := valid_of h1
  refine ⟨?_, h3⟩
  rw [encF_same hv, encR_lenV hv]
  omega

set_option maxRecDepth 100000 in
set_option maxHeartbeats 8000000 in
theorem atrBack_go (aI : Bool) (bA : Option Addr) (bC : Nat) (bs : List If) (pA : Option Addr) (pC : Nat) (ps : List Int) (hA : Option Addr) (hC : Nat) (hs : List UInt8) (B : Option Addr) (d : Nat) (q : List UInt8) (w : World) (hi : AtrIn w ⟨aI, bA, bC, bs, pA, pC, ps, hA, hC, hs⟩) (hqd : q.length ≤ d) (hq : RB w B q) :
    Calls Try.prog 4 #[.agg #[.bool aI, .slice bA bs.length bC, .slice pA ps.length pC, .slice hA hs.length hC], .slice B q.length d] w fun e w' => e = .returned (.bool true) ∧ Below w.heap.size w w' := by
  have hk0 := Blk.made w 27 #[.bool aI, .slice bA bs.length bC, .slice pA ps.length pC, .slice hA hs.length hC]
  have hb0 := (Below.refl w.heap.size w).alloc (Nat.le_refl _) (.cells #[.bool aI, .slice bA bs.length bC, .slice pA ps.length pC, .slice hA hs.length hC] 27)
  obtain ⟨W0, hW0⟩ : ∃ W0 : World, W0 = w.alloc (.cells #[.bool aI, .slice bA bs.length bC, .slice pA ps.length pC, .slice hA hs.length hC] 27) := ⟨_, rfl⟩
  rw [← hW0] at hk0 hb0
  have hi0 := hi.below hb0
  have hqW := hq.below hb0
  have n0 : W0.cell? ⟨w.heap.size, 0, none⟩ = some (.bool aI) := hk0.cell 0
  have n1 : W0.cell? ⟨w.heap.size, 1, none⟩ = some (.slice bA bs.length bC) := hk0.cell 1
  have n2 : W0.cell? ⟨w.heap.size, 2, none⟩ = some (.slice pA ps.length pC) := hk0.cell 2
  have n3 : W0.cell? ⟨w.heap.size, 3, none⟩ = some (.slice hA hs.length hC) := hk0.cell 3
  have hcell : ∀ w', Below W0.heap.size W0 w' → w'.cell? ⟨w.heap.size, 0, none⟩ = some (.bool aI) ∧ w'.cell? ⟨w.heap.size, 1, none⟩ = some (.slice bA bs.length bC) ∧ w'.cell? ⟨w.heap.size, 2, none⟩ = some (.slice pA ps.length pC) ∧ w'.cell? ⟨w.heap.size, 3, none⟩ = some (.slice hA hs.length hC) := fun w' hb =>
    ⟨(hb.cell (p := ⟨w.heap.size, 0, none⟩) hk0.size).trans n0, (hb.cell (p := ⟨w.heap.size, 1, none⟩) hk0.size).trans n1, (hb.cell (p := ⟨w.heap.size, 2, none⟩) hk0.size).trans n2, (hb.cell (p := ⟨w.heap.size, 3, none⟩) hk0.size).trans n3⟩
  go_enter Try.func4, Try.ntmps4
  go_upto_region 1 with fail
  rw [← hW0]
  clear hW0
  go_wp2_with fail
  refine (few_go aI bA bC bs pA pC ps hA hC hs W0).mono ?_
  rintro e w1 ⟨rfl, hb1⟩
  by_cases hf : fewF ⟨aI, bA, bC, bs, pA, pC, ps, hA, hC, hs⟩ = true
  · obtain ⟨hl1, hl2, hl3⟩ := fewF_true hf
    simp only at hl1 hl2 hl3
    rw [hf]
    clear hf
    by_cases hq200 : (200 : Int) < (q.length : Int)
    · go_wp2_with fail
      refine (works_any w1).mono ?_
      rintro e w2 ⟨rfl, hb2⟩
      go_wp2
      go_ret
      exact ⟨rfl, hb0.trans ((hb1.trans (hb2.mono hb1.size)).mono hb0.size)⟩
    have hq200d := decide_eq_false hq200
    obtain ⟨m0, m1, m2, m3⟩ := hcell w1 hb1
    obtain ⟨E, hE⟩ : ∃ E, E = outF ⟨aI, bA, bC, bs, pA, pC, ps, hA, hC, hs⟩ := ⟨_, rfl⟩
    obtain ⟨R, hR⟩ : ∃ R, R = chkF ⟨aI, bA, bC, bs, pA, pC, ps, hA, hC, hs⟩ := ⟨_, rfl⟩
    have hEN := encEC_go aI bA bC bs pA pC ps hA hC hs R hR E hE w1 (hi0.below hb1) (by omega) (by omega)
    have hback : R = 0 → decS E = ⟨0, aI, bs, ps, hs⟩ ∧ 2 ≤ E.length ∧ E.length ≤ 33 := by
      intro h0
      have hc : chkF ⟨aI, bA, bC, bs, pA, pC, ps, hA, hC, hs⟩ = 0 := by rw [← hR, h0]
      have e : E = encF ⟨aI, bA, bC, bs, pA, pC, ps, hA, hC, hs⟩ := by
        rw [hE]
        unfold outF
        rw [if_pos hc]
      rw [e]
      exact ⟨decS_back hc, encF_two hc⟩
    have HBACK := Lib.hid hback
    clear hE hR hback
    go_wp2_with fail
    refine hEN.mono ?_
    clear hEN
    rintro e w2 ⟨A2, c2, rfl, hr2, hc2, hb2⟩
    have hb2' := hb1.trans (hb2.mono hb1.size)
    clear m0 m1 m2 m3
    go_upto_if 28 with fail
    go_cut [] (fun wx => Below W0.heap.size W0 wx)
    case first =>
      by_cases hR0 : R = 0
      · obtain ⟨hD, hE2, hE33⟩ := HBACK.out hR0
        subst hR0
        have hQ := (decode_any A2 c2 E w2 hr2 (by omega) hc2).mono (fun _ _ h => DRes.of hD h)
        have hE2i : ¬ ((E.length : Int) < 2) := by omega
        have hE33i : ¬ ((33 : Int) < (E.length : Int)) := by omega
        have hE2d := decide_eq_false hE2i
        have hE33d := decide_eq_false hE33i
        clear HBACK hD
        go_wp2_with fail
        refine hQ.mono ?_
        clear hQ
        rintro e w3 ⟨hb3, A1, c1, A3, c3, A4, c4, rfl, r1, r2, r3⟩
        have hb3' := hb2'.trans (hb3.mono hb2'.size)
        have hba := (Below.refl w3.heap.size w3).alloc (Nat.le_refl _) (.cells #[.bool aI, .slice A1 bs.length c1, .slice A3 ps.length c3, .slice A4 hs.length c4] 27)
        have hk1 := Blk.made w3 27 #[.bool aI, .slice A1 bs.length c1, .slice A3 ps.length c3, .slice A4 hs.length c4]
        have hb4 := hb3'.trans (hba.mono hb3'.size)
        have hj := hi0.below hb4
        have hi2 : AtrIn (w3.alloc (.cells #[.bool aI, .slice A1 bs.length c1, .slice A3 ps.length c3, .slice A4 hs.length c4] 27)) ⟨aI, A1, c1, bs, A3, c3, ps, A4, c4, hs⟩ := ⟨r1.below hba, r2.below hba, r3.below hba, hj.f⟩
        have hS := rsame_go _ _ _ _ _ _ _ _ _ _ _ _ _ _ _ _ _ _ _ _ _ hi2 hj ⟨by omega, by omega⟩ ⟨by omega, by omega⟩ true (same_same ..)
        go_upto_region 6 with fail
        obtain ⟨W3, hW3⟩ : ∃ W3, W3 = w3.alloc (.cells #[.bool aI, .slice A1 bs.length c1, .slice A3 ps.length c3, .slice A4 hs.length c4] 27) := ⟨_, rfl⟩
        rw [← hW3] at hk1 hb4 hS
        rw [← hW3]
        clear hW3 hi2 hj hba r1 r2 r3 hb3
        obtain ⟨m0, m1, m2, m3⟩ := hcell W3 hb4
        have x0 : W3.cell? ⟨w3.heap.size, 0, none⟩ = some (.bool aI) := hk1.cell 0
        have x1 : W3.cell? ⟨w3.heap.size, 1, none⟩ = some (.slice A1 bs.length c1) := hk1.cell 1
        have x2 : W3.cell? ⟨w3.heap.size, 2, none⟩ = some (.slice A3 ps.length c3) := hk1.cell 2
        have x3 : W3.cell? ⟨w3.heap.size, 3, none⟩ = some (.slice A4 hs.length c4) := hk1.cell 3
        clear hcell
        go_wp2_with fail
        refine hS.mono ?_
        clear hS
        rintro e w5 ⟨rfl, hb5⟩
        go_wp2_with fail
        go_meet
        exact hb4.trans (hb5.mono hb4.size)
      · have hRb : (R == 0) = false := by simpa using hR0
        go_wp2_with fail
        go_meet
        exact hb2'
    case rest =>
      have hbc := hcut
      clear hcut hr2 hc2 hb2 hb2' HBACK hcell n0 n1 n2 n3 hb1
      have hQ := decode_any B d q wc (hqW.below hbc) (by omega) hqd
      have hbd := decS_few q
      have HEN : Hid ((decS q).e = 0 → chkF (decS q).atr = 0 ∧ encF (decS q).atr = q) := decS_enc
      go_wp2_with fail
      refine hQ.mono ?_
      clear hQ
      rintro e w3 ⟨hb3, A1, c1, A3, c3, A4, c4, rfl, r1, r2, r3⟩
      have hb3' := hbc.trans (hb3.mono hbc.size)
      have hba := (Below.refl w3.heap.size w3).alloc (Nat.le_refl _) (.cells #[.bool (decS q).inv, .slice A1 (decS q).bs.length c1, .slice A3 (decS q).ps.length c3, .slice A4 (decS q).hs.length c4] 27)
      have hk1 := Blk.made w3 27 #[.bool (decS q).inv, .slice A1 (decS q).bs.length c1, .slice A3 (decS q).ps.length c3, .slice A4 (decS q).hs.length c4]
      have hb4 := hb3'.trans (hba.mono hb3'.size)
      have s1 := r1.below hba
      have s2 := r2.below hba
      have s3 := r3.below hba
      go_upto_region 9 with fail
      obtain ⟨W3, hW3⟩ : ∃ W3, W3 = w3.alloc (.cells #[.bool (decS q).inv, .slice A1 (decS q).bs.length c1, .slice A3 (decS q).ps.length c3, .slice A4 (decS q).hs.length c4] 27) := ⟨_, rfl⟩
      rw [← hW3] at hk1 hb4 s1 s2 s3
      rw [← hW3]
      clear hW3 hba r1 r2 r3 hb3 hb3' hbc
      have hqW3 := hqW.below hb4
      generalize decS q = D at hk1 s1 s2 s3 hbd HEN ⊢
      obtain ⟨De, Di, Db, Dp, Dh⟩ := D
      simp only at hk1 s1 s2 s3 hbd HEN ⊢
      by_cases hDe : De = 0
      · obtain ⟨hc0, hcE⟩ := HEN.out hDe
        obtain ⟨e1, e2⟩ := chkF_addr ⟨De, Di, Db, Dp, Dh⟩ A1 c1 A3 c3 A4 c4
        simp only at e1 e2
        have hen : Calls Try.prog 17 #[.agg #[.bool Di, .slice A1 Db.length c1, .slice A3 Dp.length c3, .slice A4 Dh.length c4]] W3 fun e w' => ∃ A c, e = .returned (.tuple #[.slice A q.length c, .int .i64 0]) ∧ RB w' A q ∧ Below W3.heap.size W3 w' := by
          have z := encE_any ⟨Di, A1, c1, Db, A3, c3, Dp, A4, c4, Dh⟩ W3 ⟨s1, s2, s3, fun x hx => by have := hbd.2.2 x hx; omega⟩ (by simp only; omega) (by simp only; omega)
          have eo : outF ⟨Di, A1, c1, Db, A3, c3, Dp, A4, c4, Dh⟩ = q := by
            unfold outF
            rw [e1, hc0, if_pos rfl, e2, hcE]
          rw [eo, e1, hc0] at z
          exact z
        subst hDe
        have x0 : W3.cell? ⟨w3.heap.size, 0, none⟩ = some (.bool Di) := hk1.cell 0
        have x1 : W3.cell? ⟨w3.heap.size, 1, none⟩ = some (.slice A1 Db.length c1) := hk1.cell 1
        have x2 : W3.cell? ⟨w3.heap.size, 2, none⟩ = some (.slice A3 Dp.length c3) := hk1.cell 2
        have x3 : W3.cell? ⟨w3.heap.size, 3, none⟩ = some (.slice A4 Dh.length c4) := hk1.cell 3
        clear hbd s1 s2 s3 HEN hc0 hcE e1 e2
        go_wp2_with fail
        refine hen.mono ?_
        clear hen
        rintro e w5 ⟨A5, c5, rfl, hr5, hb5⟩
        have hb6 := hb4.trans (hb5.mono hb4.size)
        have hq5 := hqW3.below hb5
        have v1 := hr5.convert (P := Try.prog) 22 9 5 c5 Try.underlying22 Try.underlying5 Try.underlying9
        have v2 := hq5.convert (P := Try.prog) 22 9 5 d Try.underlying22 Try.underlying5 Try.underlying9
        generalize strOf q = S at v1 v2
        clear x0 x1 x2 x3 hr5 hq5 hqW3
        go_wp2_with fail
        refine (works_any w5).mono ?_
        rintro e w6 ⟨rfl, hb7⟩
        go_wp2
        go_ret
        exact ⟨rfl, hb0.trans ((hb6.trans (hb7.mono hb6.size)).mono hb0.size)⟩
      · have hDb : (De == 0) = false := by simpa using hDe
        go_wp2_with fail
        refine (works_any W3).mono ?_
        rintro e w6 ⟨rfl, hb7⟩
        go_wp2
        go_ret
        exact ⟨rfl, hb0.trans ((hb4.trans (hb7.mono hb4.size)).mono hb0.size)⟩
  · rw [Bool.eq_false_iff.2 hf]
    go_wp2_with fail
    refine (works_any w1).mono ?_
    rintro e w2 ⟨rfl, hb2⟩
    go_wp2
    go_ret
    exact ⟨rfl, hb0.trans ((hb1.trans (hb2.mono hb1.size)).mono hb0.size)⟩
theorem atrBack_walk (w : World) (a : Atr) (hi : AtrIn w a) (B : Option Addr) (d : Nat) (q : List UInt8) (hqd : q.length ≤ d) (hq : RB w B q) :
    Calls Try.prog 4 #[.agg (atrCs a), .slice B q.length d] w fun e w' => e = .returned (.bool true) ∧ Below w.heap.size w w' := by
  obtain ⟨aI, bA, bC, bs, pA, pC, ps, hA, hC, hs⟩ := a
  exact atrBack_go aI bA bC bs pA pC ps hA hC hs B d q w hi hqd hq
end Go.Proofs.Ytkhobpghiachoaa
