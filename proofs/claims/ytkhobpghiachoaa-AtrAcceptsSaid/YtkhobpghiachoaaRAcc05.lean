/-
  The protocol on which both sides agree: the reference's walk.
-/
import Derived.Test.YtkhobpghiachoaaAcc05
namespace Go.Proofs.Ytkhobpghiachoaa
open Go.RowKit Crc Go.Maps
set_option linter.unusedVariables false

theorem okK_true {r q : List UInt8} {k : Nat} (h : partB q k = none ∨ partB q k = partB r k) : okK r q k = true := by unfold okK; rw [decide_eq_true h]
theorem okAll_false {r q : List UInt8} {k : Nat} (hk : k < 3) (h : okK r q k = false) : okAll r q = false := by
  unfold okAll
  rcases (show k = 0 ∨ k = 1 ∨ k = 2 from by omega) with rfl | rfl | rfl <;> simp [h]

theorem parE_two {q : List UInt8} (h : parE q = 0) : 2 ≤ q.length := by
  unfold parE at h
  split at h
  · cases h
  · rename_i h2
    unfold headBad at h2
    simp only [Bool.or_eq_true, decide_eq_true_eq] at h2
    omega
set_option maxRecDepth 100000 in
set_option maxHeartbeats 8000000 in
theorem raccept_go (A : Option Addr) (c : Nat) (r : List UInt8) (B : Option Addr) (d : Nat) (q : List UInt8) (w : World) (hs : r.length ≤ 60000) (hc : r.length ≤ c) (hr : RB w A r) (hs2 : q.length ≤ 60000) (hc2 : q.length ≤ d) (hq : RB w B q) :
    Calls Try.prog 30 #[.slice A r.length c, .slice B q.length d] w (Accepted r q w) := by
  go_enter Try.func30, Try.ntmps30
  go_wp2_with fail
  refine (further_go A c r w hs hc hr).mono ?_
  rintro e w1 ⟨x0, x1, x2, rfl, hx, hb1⟩
  have hbA := (Below.refl w1.heap.size w1).alloc (Nat.le_refl _) (.cells #[.int .i64 x0, .int .i64 x1, .int .i64 x2] 65)
  have hXB0 := Blk.made w1 65 #[.int .i64 x0, .int .i64 x1, .int .i64 x2]
  have hb1' := hb1.trans (hbA.mono hb1.size)
  by_cases hz1 : parE r = 0
  · have HX := Lib.hid (hx hz1)
    have hrl := parE_two hz1
    clear hx
    rw [hz1]
    have HZ1 := Lib.hid hz1
    clear hz1
    go_upto_region 2 with fail
    obtain ⟨W2, hW2⟩ : ∃ W2 : World, W2 = w1.alloc (.cells #[.int .i64 x0, .int .i64 x1, .int .i64 x2] 65) := ⟨_, rfl⟩
    rw [← hW2] at hbA hXB0 hb1'
    rw [← hW2]
    clear hW2
    obtain ⟨xb, hxb⟩ : ∃ xb, xb = w1.heap.size := ⟨_, rfl⟩
    rw [← hxb] at hXB0
    rw [← hxb]
    clear hxb hbA
    go_wp2_with fail
    refine (further_go B d q W2 hs2 hc2 (hq.below hb1')).mono ?_
    rintro e w3 ⟨y0, y1, y2, rfl, hy, hb3⟩
    have hbC := (Below.refl w3.heap.size w3).alloc (Nat.le_refl _) (.cells #[.int .i64 y0, .int .i64 y1, .int .i64 y2] 65)
    have hYB0 := Blk.made w3 65 #[.int .i64 y0, .int .i64 y1, .int .i64 y2]
    have hb3' := hb1'.trans ((hb3.trans (hbC.mono hb3.size)).mono hb1'.size)
    have hXB := hXB0.below (hb3.trans (hbC.mono hb3.size)) hXB0.size
    by_cases hz2 : parE q = 0
    · have HY := Lib.hid (hy hz2)
      have hql := parE_two hz2
      clear hy
      rw [hz2]
      have HZ2 := Lib.hid hz2
      clear hz2
      go_upto_region 5 with fail
      obtain ⟨W4, hW4⟩ : ∃ W4 : World, W4 = w3.alloc (.cells #[.int .i64 y0, .int .i64 y1, .int .i64 y2] 65) := ⟨_, rfl⟩
      rw [← hW4] at hXB hYB0 hb3'
      rw [← hW4]
      clear hW4 hbC
      obtain ⟨yb, hyb⟩ : ∃ yb, yb = w3.heap.size := ⟨_, rfl⟩
      rw [← hyb] at hYB0
      rw [← hyb]
      clear hyb
      obtain ⟨rb, ro, rfl, hcr⟩ := hr.at_ (by omega)
      obtain ⟨qb, qo, rfl, hcq⟩ := hq.at_ (by omega)
      have er : tB r = (r[1]'(by omega)).toNat := by unfold tB; simp [List.getD, show 1 < r.length from by omega]
      have eq : tB q = (q[1]'(by omega)).toNat := by unfold tB; simp [List.getD, show 1 < q.length from by omega]
      have z1r := (hb3'.cell (cell?_lt (hcr 1 (by omega)))).trans (hcr 1 (by omega))
      have z1q := (hb3'.cell (cell?_lt (hcq 1 (by omega)))).trans (hcq 1 (by omega))
      generalize r[1]'(by omega) = tr at z1r er
      generalize q[1]'(by omega) = tq at z1q eq
      have hri : (1 : Int) < (r.length : Int) := by omega
      have hqi : (1 : Int) < (q.length : Int) := by omega
      have hOK := fun w' h1 h2 => accepted_ok (r := r) (q := q) (w := w) (w' := w') h1 h2
      have hE : accE r q = if (tB q : Int) % 16 = (tB r : Int) % 16 then (if okAll r q = true then 0 else 28) else 28 := by
        unfold accE
        rw [if_pos HZ1.out, if_pos HZ2.out]
      rw [er, eq] at hE
      rw [eq] at hOK
      have HOK := Lib.hid hOK
      clear hOK hcr hcq er eq
      have htq : (tq.toNat : Int) ≤ 255 := by have := tq.toNat_lt; omega
      have htr : (tr.toNat : Int) ≤ 255 := by have := tr.toNat_lt; omega
      have u0 : W4.cell? ⟨xb, 0, none⟩ = some (.int .i64 x0) := hXB.cell 0
      have u1 : W4.cell? ⟨xb, 1, none⟩ = some (.int .i64 x1) := hXB.cell 1
      have u2 : W4.cell? ⟨xb, 2, none⟩ = some (.int .i64 x2) := hXB.cell 2
      have v0 : W4.cell? ⟨yb, 0, none⟩ = some (.int .i64 y0) := hYB0.cell 0
      have v1 : W4.cell? ⟨yb, 1, none⟩ = some (.int .i64 y1) := hYB0.cell 1
      have v2 : W4.cell? ⟨yb, 2, none⟩ = some (.int .i64 y2) := hYB0.cell 2
      go_upto_region 7 with fail
      by_cases hp : (tq.toNat : Int) % 16 = (tr.toNat : Int) % 16
      · have hpb : (((tr.toNat : Int) % 16) != ((tq.toNat : Int) % 16)) = false := by simp; omega
        have HE : Hid (accE r q = if okAll r q = true then 0 else 28) := by show _ = _; rw [hE, if_pos hp]
        clear hE hp
        go_quiet (fail)
        go_wp2
        go_loopw [9] (fun i wx => ∃ k n : Nat, k ≤ 3 ∧ i = .int .i64 k ∧ wx = W4.drewN n ∧ Hid (∀ j, j < k → okK r q j = true)) (fun i _ => 10 - (intOf i).toNat)
        case atStart => exact ⟨0, _, by omega, rfl, rfl, fun j hj => absurd hj (by omega)⟩
        case round =>
          obtain ⟨k, n, hk3, rfl, rfl, HJ⟩ := hrel
          rcases (show k = 0 ∨ k = 1 ∨ k = 2 ∨ k = 3 from by omega) with rfl | rfl | rfl | rfl
          · rcases hqk : partB q 0 with _ | vq
            · have hyk : y0 = -1 := by have h := HY.out.1; rw [hqk] at h; exact h
              have HJ2 : Hid (∀ j, j < 1 → okK r q j = true) := fun j hj => by
                rcases (show j < 0 ∨ j = 0 from by omega) with h | rfl
                · exact HJ.out j h
                · exact okK_true (.inl hqk)
              subst hyk
              clear hqk
              go_wp2
              go_quiet (fail)
              go_wp2
              go_roundw
              case rel => exact ⟨1, _, by omega, by go_num, rfl, HJ2⟩
              case measure => simp [intOf]
            · have hyk : y0 = (vq.toNat : Int) := by have h := HY.out.1; rw [hqk] at h; exact h
              rcases hrk : partB r 0 with _ | vr
              · have hxk : x0 = -1 := by have h := HX.out.1; rw [hrk] at h; exact h
                have HF : Hid (accE r q = 28) := by
                  show _ = _
                  rw [HE.out, if_neg (by rw [okAll_false (k := 0) (by omega) (by unfold okK; rw [hqk, hrk]; simp)]; decide)]
                have hnb : ((vq.toNat : Int) != -1) = true := by simp <;> omega
                have hvq0 : (0 : Int) ≤ (vq.toNat : Int) := by omega
                subst hyk hxk
                clear hqk hrk
                go_wp2
                go_quiet (fail)
                go_wp2
                go_ret2
                exact accepted_bad HF.out (by decide) (below_drewN (below_drewN hb3' _) _)
              · have hxk : x0 = (vr.toNat : Int) := by have h := HX.out.1; rw [hrk] at h; exact h
                have hvq0 : (0 : Int) ≤ (vq.toNat : Int) := by omega
                by_cases hv : vq = vr
                · have HJ2 : Hid (∀ j, j < 1 → okK r q j = true) := fun j hj => by
                    rcases (show j < 0 ∨ j = 0 from by omega) with h | rfl
                    · exact HJ.out j h
                    · exact okK_true (.inr (by rw [hqk, hrk, hv]))
                  subst hv hyk hxk
                  have hnb : ((vq.toNat : Int) != (vq.toNat : Int)) = false := by simp
                  clear hqk hrk
                  go_wp2
                  go_quiet (fail)
                  go_wp2
                  go_roundw
                  case rel => exact ⟨1, _, by omega, by go_num, rfl, HJ2⟩
                  case measure => simp [intOf]
                · have HF : Hid (accE r q = 28) := by
                    show _ = _
                    rw [HE.out, if_neg (by rw [okAll_false (k := 0) (by omega) (by unfold okK; rw [hqk, hrk]; simp [hv])]; decide)]
                  have hnb : ((vq.toNat : Int) != (vr.toNat : Int)) = true := by
                    simp
                    intro h
                    exact hv (UInt8.toNat_inj.1 (by omega))
                  subst hyk hxk
                  clear hqk hrk hv
                  go_wp2
                  go_quiet (fail)
                  go_wp2
                  go_ret2
                  exact accepted_bad HF.out (by decide) (below_drewN (below_drewN hb3' _) _)
          · rcases hqk : partB q 1 with _ | vq
            · have hyk : y1 = -1 := by have h := HY.out.2.1; rw [hqk] at h; exact h
              have HJ2 : Hid (∀ j, j < 2 → okK r q j = true) := fun j hj => by
                rcases (show j < 1 ∨ j = 1 from by omega) with h | rfl
                · exact HJ.out j h
                · exact okK_true (.inl hqk)
              subst hyk
              clear hqk
              go_wp2
              go_quiet (fail)
              go_wp2
              go_roundw
              case rel => exact ⟨2, _, by omega, by go_num, rfl, HJ2⟩
              case measure => simp [intOf]
            · have hyk : y1 = (vq.toNat : Int) := by have h := HY.out.2.1; rw [hqk] at h; exact h
              rcases hrk : partB r 1 with _ | vr
              · have hxk : x1 = -1 := by have h := HX.out.2.1; rw [hrk] at h; exact h
                have HF : Hid (accE r q = 28) := by
                  show _ = _
                  rw [HE.out, if_neg (by rw [okAll_false (k := 1) (by omega) (by unfold okK; rw [hqk, hrk]; simp)]; decide)]
                have hnb : ((vq.toNat : Int) != -1) = true := by simp <;> omega
                have hvq0 : (0 : Int) ≤ (vq.toNat : Int) := by omega
                subst hyk hxk
                clear hqk hrk
                go_wp2
                go_quiet (fail)
                go_wp2
                go_ret2
                exact accepted_bad HF.out (by decide) (below_drewN (below_drewN hb3' _) _)
              · have hxk : x1 = (vr.toNat : Int) := by have h := HX.out.2.1; rw [hrk] at h; exact h
                have hvq0 : (0 : Int) ≤ (vq.toNat : Int) := by omega
                by_cases hv : vq = vr
                · have HJ2 : Hid (∀ j, j < 2 → okK r q j = true) := fun j hj => by
                    rcases (show j < 1 ∨ j = 1 from by omega) with h | rfl
                    · exact HJ.out j h
                    · exact okK_true (.inr (by rw [hqk, hrk, hv]))
                  subst hv hyk hxk
                  have hnb : ((vq.toNat : Int) != (vq.toNat : Int)) = false := by simp
                  clear hqk hrk
                  go_wp2
                  go_quiet (fail)
                  go_wp2
                  go_roundw
                  case rel => exact ⟨2, _, by omega, by go_num, rfl, HJ2⟩
                  case measure => simp [intOf]
                · have HF : Hid (accE r q = 28) := by
                    show _ = _
                    rw [HE.out, if_neg (by rw [okAll_false (k := 1) (by omega) (by unfold okK; rw [hqk, hrk]; simp [hv])]; decide)]
                  have hnb : ((vq.toNat : Int) != (vr.toNat : Int)) = true := by
                    simp
                    intro h
                    exact hv (UInt8.toNat_inj.1 (by omega))
                  subst hyk hxk
                  clear hqk hrk hv
                  go_wp2
                  go_quiet (fail)
                  go_wp2
                  go_ret2
                  exact accepted_bad HF.out (by decide) (below_drewN (below_drewN hb3' _) _)
          · rcases hqk : partB q 2 with _ | vq
            · have hyk : y2 = -1 := by have h := HY.out.2.2; rw [hqk] at h; exact h
              have HJ2 : Hid (∀ j, j < 3 → okK r q j = true) := fun j hj => by
                rcases (show j < 2 ∨ j = 2 from by omega) with h | rfl
                · exact HJ.out j h
                · exact okK_true (.inl hqk)
              subst hyk
              clear hqk
              go_wp2
              go_quiet (fail)
              go_wp2
              go_roundw
              case rel => exact ⟨3, _, by omega, by go_num, rfl, HJ2⟩
              case measure => simp [intOf]
            · have hyk : y2 = (vq.toNat : Int) := by have h := HY.out.2.2; rw [hqk] at h; exact h
              rcases hrk : partB r 2 with _ | vr
              · have hxk : x2 = -1 := by have h := HX.out.2.2; rw [hrk] at h; exact h
                have HF : Hid (accE r q = 28) := by
                  show _ = _
                  rw [HE.out, if_neg (by rw [okAll_false (k := 2) (by omega) (by unfold okK; rw [hqk, hrk]; simp)]; decide)]
                have hnb : ((vq.toNat : Int) != -1) = true := by simp <;> omega
                have hvq0 : (0 : Int) ≤ (vq.toNat : Int) := by omega
                subst hyk hxk
                clear hqk hrk
                go_wp2
                go_quiet (fail)
                go_wp2
                go_ret2
                exact accepted_bad HF.out (by decide) (below_drewN (below_drewN hb3' _) _)
              · have hxk : x2 = (vr.toNat : Int) := by have h := HX.out.2.2; rw [hrk] at h; exact h
                have hvq0 : (0 : Int) ≤ (vq.toNat : Int) := by omega
                by_cases hv : vq = vr
                · have HJ2 : Hid (∀ j, j < 3 → okK r q j = true) := fun j hj => by
                    rcases (show j < 2 ∨ j = 2 from by omega) with h | rfl
                    · exact HJ.out j h
                    · exact okK_true (.inr (by rw [hqk, hrk, hv]))
                  subst hv hyk hxk
                  have hnb : ((vq.toNat : Int) != (vq.toNat : Int)) = false := by simp
                  clear hqk hrk
                  go_wp2
                  go_quiet (fail)
                  go_wp2
                  go_roundw
                  case rel => exact ⟨3, _, by omega, by go_num, rfl, HJ2⟩
                  case measure => simp [intOf]
                · have HF : Hid (accE r q = 28) := by
                    show _ = _
                    rw [HE.out, if_neg (by rw [okAll_false (k := 2) (by omega) (by unfold okK; rw [hqk, hrk]; simp [hv])]; decide)]
                  have hnb : ((vq.toNat : Int) != (vr.toNat : Int)) = true := by
                    simp
                    intro h
                    exact hv (UInt8.toNat_inj.1 (by omega))
                  subst hyk hxk
                  clear hqk hrk hv
                  go_wp2
                  go_quiet (fail)
                  go_wp2
                  go_ret2
                  exact accepted_bad HF.out (by decide) (below_drewN (below_drewN hb3' _) _)
          · have HF : Hid (accE r q = 0) := by
              show _ = _
              rw [HE.out, if_pos (by unfold okAll; rw [HJ.out 0 (by omega), HJ.out 1 (by omega), HJ.out 2 (by omega)]; rfl)]
            have HR := HOK.out (W4.drewN n) HF.out (below_drewN hb3' n)
            go_wp2
            go_ret2
            exact HR
      · have hpb : (((tr.toNat : Int) % 16) != ((tq.toNat : Int) % 16)) = true := by simp; omega
        have HE : Hid (accE r q = 28) := by show _ = _; rw [hE, if_neg hp]
        clear hE hp
        go_quiet (fail)
        go_wp2
        go_ret2
        exact accepted_bad HE.out (by decide) (below_drewN hb3' _)
    · have HZ := Lib.hid hz2
      have hzb : (parE q != 0) = true := by simpa using hz2
      have HE : Hid (accE r q = parE q) := by show _ = _; unfold accE; rw [if_pos HZ1.out, if_neg hz2]
      clear hz2
      obtain ⟨pe, hpe⟩ : ∃ pe, pe = parE q := ⟨_, rfl⟩
      rw [← hpe] at hzb
      rw [← hpe]
      have HPE := Lib.hid hpe
      clear hpe
      go_wp2
      go_ret2
      exact accepted_bad (E := pe) (HE.out.trans HPE.out.symm) (by rw [HPE.out]; exact HZ.out) hb3'
  · have HZ := Lib.hid hz1
    have hzb : (parE r != 0) = true := by simpa using hz1
    have HE : Hid (accE r q = parE r) := by show _ = _; unfold accE; rw [if_neg hz1]
    clear hz1
    obtain ⟨pe, hpe⟩ : ∃ pe, pe = parE r := ⟨_, rfl⟩
    rw [← hpe] at hzb
    rw [← hpe]
    have HPE := Lib.hid hpe
    clear hpe
    go_wp2
    go_ret2
    exact accepted_bad (E := pe) (HE.out.trans HPE.out.symm) (by rw [HPE.out]; exact HZ.out) hb1'
end Go.Proofs.Ytkhobpghiachoaa
