/-
  The walk of LineDamages.
-/
import Derived.Test.YtlkbbalidlhgmaaWorks
import Derived.Test.YtlkbbalidlhgmaaPop
import Derived.Deep.QuietTactic
import Derived.BigQuiet
namespace Go.Proofs.Ytlkbbalidlhgmaa
open Go.RowKit
set_option linter.unusedVariables false

/-- What holds while the bits of one byte are counted. -/
def Counting (total : Nat) (b d : Value) : Prop := ∃ f z t : Nat, z < 2 ^ f ∧ z ≤ 255 ∧ f ≤ 8 ∧ d = .int .u8 z ∧ b = .int .i64 t ∧ t ≤ 1 ∧ t + pop f z = total

theorem damages_long (w : World) (A : Option Addr) (c : Nat) (xs : List UInt8) (l : Lk) (h1 : 500 < xs.length) :
    Calls Try.prog 3 #[.slice A xs.length c, .agg #[.bool l.lost, .int .i64 l.flip]] w fun e w' => e = .returned (.bool true) ∧ Below w.heap.size w w' := by
  have hb0 := (Below.refl w.heap.size w).alloc (Nat.le_refl _) (.cells #[.bool l.lost, .int .i64 l.flip] 24)
  go_enter Try.func3, Try.ntmps3
  go_wp2_with fail
  refine (works_any _).mono ?_
  rintro e w1 ⟨rfl, hb1⟩
  go_wp2
  go_ret
  exact ⟨rfl, hb0.trans (hb1.mono hb0.size)⟩

theorem damages_short (w : World) (A : Option Addr) (c : Nat) (xs : List UInt8) (hr : RB w A xs) (l : Lk) (hf : (Lit.int .i64 l.flip).wf = true) (h1 : ¬ 500 < xs.length) :
    Calls Try.prog 3 #[.slice A xs.length c, .agg #[.bool l.lost, .int .i64 l.flip]] w fun e w' => e = .returned (.bool true) ∧ Below w.heap.size w w' := by
  have hb0 := (Below.refl w.heap.size w).alloc (Nat.le_refl _) (.cells #[.bool l.lost, .int .i64 l.flip] 24)
  have hblk := Blk.made w 24 #[.bool l.lost, .int .i64 l.flip]
  have HF := Lib.hid hf
  clear hf
  go_enter Try.func3, Try.ntmps3
  go_wp2_with fail
  have hb1 := hb0.alloc hb0.size (.cells #[.bool l.lost, .int .i64 l.flip] 24)
  have hrl : RC ((w.alloc (.cells #[.bool l.lost, .int .i64 l.flip] 24)).alloc (.cells #[.bool l.lost, .int .i64 l.flip] 24)) (some ⟨w.heap.size + 1, 0, none⟩) (lv [l]) := by
    have := RC.made (w.alloc (.cells #[.bool l.lost, .int .i64 l.flip] 24)) 24 (lv [l]) #[.bool l.lost, .int .i64 l.flip] rfl
    simpa using this
  have hblk1 := hblk.alloc (.cells #[.bool l.lost, .int .i64 l.flip] 24)
  refine (new_any (some ⟨w.heap.size + 1, 0, none⟩) 1 [l] _ (by simp) hrl).mono ?_
  rintro e w1 ⟨g, v1, rfl, hg, hL, hv1, hbn⟩
  have hblk2 := hblk1.below hbn hblk1.size
  have hb2 := hb1.trans (hbn.mono hb1.size)
  have hgw : w.heap.size < g := by simp at hg; omega
  clear hrl hblk hblk1 hb0 hb1 hbn hg hv1
  go_wp2_with fail
  refine (carry_any g v1 [l] 0 A c xs w1 hL (by simp) (by omega) (by omega) HF.out (by omega) (hr.below hb2)).mono ?_
  rintro e w2 ⟨A2, c2, v2, rfl, hr2, hl2, ho2, hon⟩
  have hb3 := hb2.trans (hon.below (Nat.le_of_lt hgw) (fun k hk => by cases hk) hb2.size)
  have hblk3 : Blk w2 w.heap.size 24 #[.bool l.lost, .int .i64 l.flip] := (hon.block _ hblk2.size (by omega) (by simp)).trans hblk2
  have q0 : w2.cell? ⟨w.heap.size, 0, none⟩ = some (.bool l.lost) := hblk3.cell 0
  have hd : head1 [l] = l := rfl
  rw [hd] at hr2 ⊢
  have hrx := hr.below hb3
  clear hl2 hd hL hblk2
  by_cases hlost : l.lost = true
  · have ha := arrives_lost hlost xs
    rw [ha] at hr2 ⊢
    rw [hlost]
    rw [hlost] at q0
    clear ha
    go_wp2_with fail
    refine (works_any _).mono ?_
    rintro e w3 ⟨rfl, hb4⟩
    go_wp2
    go_ret
    exact ⟨rfl, hb3.trans (hb4.mono hb3.size)⟩
  · have hlost' : l.lost = false := by simpa using hlost
    rw [hlost'] at q0 ⊢
    have hal := arrives_length l hlost' xs
    have HS := Lib.hid (T_step l hlost' xs)
    have HTA := Lib.hid (T_all l xs)
    have hT0 := T_zero l xs
    obtain ⟨ys, hys⟩ : ∃ ys, ys = arrives l xs := ⟨_, rfl⟩
    have HS' : Hid (∀ (k : Nat) (hk : k < xs.length) (hk2 : k < ys.length), T l xs k + pop 8 (ys[k] ^^^ xs[k]).toNat = T l xs (k + 1)) := by
      subst hys; exact HS.out
    rw [← hys] at hr2 hal ⊢
    clear hys HS hlost
    rw [hal]
    have HAL := Lib.hid hal
    clear hal
    have HT0 := Lib.hid hT0
    clear hT0
    obtain ⟨wo, rfl⟩ : ∃ wo : World, wo = w2 := ⟨_, rfl⟩
    have q1 : wo.cell? ⟨w.heap.size, 1, none⟩ = some (.int .i64 l.flip) := hblk3.cell 1
    clear hblk3
    go_wp2
    go_loopw [8, 9] (fun b i wx => ∃ k p : Nat, k ≤ xs.length ∧ i = .int .i64 k ∧ b = .int .i64 (T l xs k) ∧ wx = wo.drewN p) (fun _ i _ => xs.length - (intOf i).toNat)
    case atStart => exact ⟨0, 0, Nat.zero_le _, rfl, by rw [HT0.out]; rfl, rfl⟩
    case round =>
      obtain ⟨k, p, hk, rfl, rfl, rfl⟩ := hrel
      by_cases hlt : k < xs.length
      · have hky : k < ys.length := by have := HAL.out; omega
        obtain ⟨b1, o1, rfl, hx1⟩ := hr2.at_ (by omega)
        obtain ⟨b2, o2, rfl, hx2⟩ := hrx.at_ (by omega)
        have g1 := hx1 k hky
        have g2 := hx2 k hlt
        have hst := HS'.out k hlt hky
        have e1 := xor_u8 ys[k] xs[k]
        have hi0 : (0 : Int) ≤ (k : Int) := by omega
        have hi1 : (k : Int) < (xs.length : Int) := by omega
        generalize ys[k] = sa at g1 e1 hst
        generalize xs[k] = sb at g2 e1 hst
        generalize sa ^^^ sb = d0 at e1 hst
        have hd0 := d0.toNat_lt
        have HST := Lib.hid hst
        have hTl := T_le l xs (k + 1)
        clear hx1 hx2 hst
        go_wp2
        go_quiet (fail)
        go_wp2
        go_loop [8, 10] (fun b d => Counting (T l xs (k + 1)) b d) (fun _ d => (intOf d).toNat)
        case atStart => exact ⟨8, d0.toNat, T l xs k, hd0, by omega, by omega, rfl, rfl, T_le _ _ _, HST.out⟩
        case round =>
          obtain ⟨f, z, t, hzf, hz, hf8, rfl, rfl, ht, hs'⟩ := hrel
          have hs := Lib.hid hs'
          clear hs'
          by_cases hz0 : z = 0
          · have ht2 : t = T l xs (k + 1) := by have := hs.out; rw [hz0, pop_zero] at this; omega
            have HT2 := Lib.hid ht2
            subst hz0
            clear ht2
            go_wp2
            go_roundw
            case rel => exact ⟨k + 1, _, by omega, by go_num, by rw [HT2.out], rfl⟩
            case measure => simp [intOf]; omega
          · have hf0 : 0 < f := by
              rcases f with _ | f
              · simp at hzf; omega
              · omega
            obtain ⟨f', rfl⟩ : ∃ f', f = f' + 1 := ⟨f - 1, by omega⟩
            have hs2 : (t + z % 2) + pop f' (z / 2) = T l xs (k + 1) := by have := hs.out; show _ = _; rw [← this]; show _ = t + (z % 2 + pop f' (z / 2)); omega
            have hzp : (0 : Int) < (z : Int) := by omega
            have ht3 : t + z % 2 ≤ 1 := by omega
            have hz3 : z / 2 < 2 ^ f' := by rw [Nat.pow_succ] at hzf; omega
            have HS2 := Lib.hid hs2
            have HZ3 := Lib.hid hz3
            clear hs hs2 hz3 hzf
            go_wp2
            go_round
            case rel => exact ⟨f', z / 2, t + z % 2, HZ3.out, by omega, by omega, by go_num, by go_num, ht3, HS2.out⟩
            case measure => simp [intOf]; omega
      · have hkl : k = xs.length := by omega
        subst hkl
        have hb5 := below_drewN hb3 p
        clear hlt hk
        have hta := HTA.out
        by_cases hf1 : 0 < l.flip
        · by_cases hf2 : 0 < xs.length
          · have hT : ((T l xs xs.length : Nat) : Int) = 1 := by rw [hta, if_pos ⟨hf1, hf2⟩]; rfl
            rw [hT]
            clear hT hta
            go_wp2_with fail
            refine (works_any _).mono ?_
            rintro e w3 ⟨rfl, hb4⟩
            go_wp2
            go_ret
            exact ⟨rfl, hb5.trans (hb4.mono hb5.size)⟩
          · have hT : ((T l xs xs.length : Nat) : Int) = 0 := by rw [hta, if_neg (fun h => hf2 h.2)]; rfl
            rw [hT]
            clear hT hta
            go_wp2_with fail
            refine (works_any _).mono ?_
            rintro e w3 ⟨rfl, hb4⟩
            go_wp2
            go_ret
            exact ⟨rfl, hb5.trans (hb4.mono hb5.size)⟩
        · have hT : ((T l xs xs.length : Nat) : Int) = 0 := by rw [hta, if_neg (fun h => hf1 h.1)]; rfl
          rw [hT]
          clear hT hta
          go_wp2_with fail
          refine (works_any _).mono ?_
          rintro e w3 ⟨rfl, hb4⟩
          go_wp2
          go_ret
          exact ⟨rfl, hb5.trans (hb4.mono hb5.size)⟩

theorem lineDamages_walk (w : World) (A : Option Addr) (c : Nat) (xs : List UInt8) (hc : xs.length ≤ c) (hr : RB w A xs) (l : Lk) (hf : (Lit.int .i64 l.flip).wf = true) :
    Calls Try.prog 3 #[.slice A xs.length c, .agg #[.bool l.lost, .int .i64 l.flip]] w fun e w' => e = .returned (.bool true) ∧ Below w.heap.size w w' := by
  by_cases h1 : 500 < xs.length
  · exact damages_long w A c xs l h1
  · exact damages_short w A c xs hr l hf h1
end Go.Proofs.Ytlkbbalidlhgmaa
