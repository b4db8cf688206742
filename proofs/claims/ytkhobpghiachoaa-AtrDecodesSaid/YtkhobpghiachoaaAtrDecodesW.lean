/-
  AtrDecodes: the walk.
-/
import Derived.Test.YtkhobpghiachoaaRDecN05
import Derived.Test.YtkhobpghiachoaaDecP05
import Derived.Test.YtkhobpghiachoaaSame05
import Derived.Test.YtkhobpghiachoaaWorks05
namespace Go.Proofs.Ytkhobpghiachoaa
open Go.RowKit Crc
set_option linter.unusedVariables false

theorem decS_bd (b : List UInt8) : (decS b).bs.length ≤ 33 ∧ (decS b).ps.length ≤ 41 ∧ ∀ x ∈ (decS b).bs, x.g ≤ 41 := by
  have h := whole_bd b
  unfold decS
  split
  · split
    · exact h
    · simp [Dec.bad]
  · exact h
theorem same_parts (i : Bool) (bs : List If) (ps : List Int) (hs : List UInt8) (A1 : Option Addr) (c1 : Nat) (A2 : Option Addr) (c2 : Nat) (A3 : Option Addr) (c3 : Nat) (B1 : Option Addr) (d1 : Nat) (B2 : Option Addr) (d2 : Nat) (B3 : Option Addr) (d3 : Nat) :
    true = sameF ⟨i, A1, c1, bs, A2, c2, ps, A3, c3, hs⟩ ⟨i, B1, d1, bs, B2, d2, ps, B3, d3, hs⟩ := by
  unfold sameF
  simp

set_option maxRecDepth 100000 in
set_option maxHeartbeats 4000000 in
theorem atrDecodes_walk (w : World) (B : Option Addr) (d : Nat) (q : List UInt8) (hqd : q.length ≤ d) (hq : RB w B q) :
    Calls Try.prog 3 #[.slice B q.length d] w fun e w' => e = .returned (.bool true) ∧ Below w.heap.size w w' := by
  by_cases h1 : (200 : Int) < (q.length : Int)
  · go_enter Try.func3, Try.ntmps3
    go_wp2_with fail
    refine (works_any w).mono ?_
    rintro e w2 ⟨rfl, hb2⟩
    go_wp2
    go_ret
    exact ⟨rfl, hb2⟩
  · have h1d := decide_eq_false h1
    have hQ := decode_any B d q w hq (by omega) hqd
    have hR := fun w' (h : Below w.heap.size w w') => rdec_any B d q w' (hq.below h) hqd
    have hbd := decS_bd q
    go_enter Try.func3, Try.ntmps3
    go_wp2_with fail
    refine hQ.mono ?_
    clear hQ
    rintro e w1 ⟨hb1, A1, c1, A2, c2, A3, c3, rfl, r1, r2, r3⟩
    have hba := (Below.refl w1.heap.size w1).alloc (Nat.le_refl _) (.cells #[.bool (decS q).inv, .slice A1 (decS q).bs.length c1, .slice A2 (decS q).ps.length c2, .slice A3 (decS q).hs.length c3] 27)
    have hk1 := Blk.made w1 27 #[.bool (decS q).inv, .slice A1 (decS q).bs.length c1, .slice A2 (decS q).ps.length c2, .slice A3 (decS q).hs.length c3]
    have hb1' := hb1.trans (hba.mono hb1.size)
    have hR2 := hR _ hb1'
    go_upto_region 4 with fail
    obtain ⟨W1, hW1⟩ : ∃ W1, W1 = w1.alloc (.cells #[.bool (decS q).inv, .slice A1 (decS q).bs.length c1, .slice A2 (decS q).ps.length c2, .slice A3 (decS q).hs.length c3] 27) := ⟨_, rfl⟩
    rw [← hW1] at hba hk1 hb1' hR2
    rw [← hW1]
    have s1 := r1.below hba
    have s2 := r2.below hba
    have s3 := r3.below hba
    clear r1 r2 r3 hR hW1 hba hb1
    go_wp2_with fail
    refine hR2.mono ?_
    clear hR2
    rintro e w2 ⟨hb2, B1, d1, B2, d2, B3, d3, rfl, r1, r2, r3⟩
    have hba := (Below.refl w2.heap.size w2).alloc (Nat.le_refl _) (.cells #[.bool (decS q).inv, .slice B1 (decS q).bs.length d1, .slice B2 (decS q).ps.length d2, .slice B3 (decS q).hs.length d3] 27)
    have hk2 := Blk.made w2 27 #[.bool (decS q).inv, .slice B1 (decS q).bs.length d1, .slice B2 (decS q).ps.length d2, .slice B3 (decS q).hs.length d3]
    have hb2' := hb2.trans (hba.mono hb2.size)
    have hbw := hb1'.trans (hb2'.mono hb1'.size)
    have hk3 := hk1.below hb2' hk1.size
    have hi : AtrIn _ ⟨(decS q).inv, A1, c1, (decS q).bs, A2, c2, (decS q).ps, A3, c3, (decS q).hs⟩ := ⟨s1.below hb2', s2.below hb2', s3.below hb2', fun x hx => by have := hbd.2.2 x hx; omega⟩
    have hj : AtrIn _ ⟨(decS q).inv, B1, d1, (decS q).bs, B2, d2, (decS q).ps, B3, d3, (decS q).hs⟩ := ⟨r1.below hba, r2.below hba, r3.below hba, fun x hx => by have := hbd.2.2 x hx; omega⟩
    have hS := rsame_go _ _ _ _ _ _ _ _ _ _ _ _ _ _ _ _ _ _ _ _ _ hi hj ⟨by omega, by omega⟩ ⟨by omega, by omega⟩ true (same_parts ..)
    go_upto_region 5 with fail
    obtain ⟨W2, hW2⟩ : ∃ W2, W2 = w2.alloc (.cells #[.bool (decS q).inv, .slice B1 (decS q).bs.length d1, .slice B2 (decS q).ps.length d2, .slice B3 (decS q).hs.length d3] 27) := ⟨_, rfl⟩
    rw [← hW2] at hba hk2 hk3 hb2' hbw hi hj hS
    rw [← hW2]
    clear hW2 s1 s2 s3 r1 r2 r3 hi hj hba hb2 hb2' hbd hk1 hb1'
    generalize decS q = D at hk2 hk3 hS ⊢
    obtain ⟨De, Di, Db, Dp, Dh⟩ := D
    simp only at hk2 hk3 hS ⊢
    have n0 : W2.cell? ⟨w1.heap.size, 0, none⟩ = some (.bool Di) := hk3.cell 0
    have n1 : W2.cell? ⟨w1.heap.size, 1, none⟩ = some (.slice A1 Db.length c1) := hk3.cell 1
    have n2 : W2.cell? ⟨w1.heap.size, 2, none⟩ = some (.slice A2 Dp.length c2) := hk3.cell 2
    have n3 : W2.cell? ⟨w1.heap.size, 3, none⟩ = some (.slice A3 Dh.length c3) := hk3.cell 3
    have m0 : W2.cell? ⟨w2.heap.size, 0, none⟩ = some (.bool Di) := hk2.cell 0
    have m1 : W2.cell? ⟨w2.heap.size, 1, none⟩ = some (.slice B1 Db.length d1) := hk2.cell 1
    have m2 : W2.cell? ⟨w2.heap.size, 2, none⟩ = some (.slice B2 Dp.length d2) := hk2.cell 2
    have m3 : W2.cell? ⟨w2.heap.size, 3, none⟩ = some (.slice B3 Dh.length d3) := hk2.cell 3
    go_wp2_with fail
    refine hS.mono ?_
    clear hS
    rintro e w3 ⟨rfl, hb3⟩
    have hb4 := hbw.trans (hb3.mono hbw.size)
    go_wp2_with fail
    refine (works_any w3).mono ?_
    rintro e w4 ⟨rfl, hb5⟩
    go_wp2
    go_ret
    exact ⟨rfl, hb4.trans (hb5.mono hb4.size)⟩
end Go.Proofs.Ytkhobpghiachoaa
