/-
  The walk of LineForgets.
-/
import Derived.Test.YtlkbbalidlhgmaaWorks
import Derived.Test.YtlkbbalidlhgmaaOpen45
namespace Go.Proofs.Ytlkbbalidlhgmaa
open Go.RowKit
set_option linter.unusedVariables false

theorem head_wf {ls : List Lk} (h : flipsOk ls) (k : Nat) : (Lit.int .i64 (head1 (ls.drop k)).flip).wf = true := by
  rcases hd : ls.drop k with _ | ⟨l, r⟩
  · decide
  · exact h l (List.mem_of_mem_drop (i := k) (by rw [hd]; simp))

theorem lineForgets_walk (w : World) (A : Option Addr) (ca : Nat) (ls : List Lk) (hca : ls.length ≤ ca) (hfl : flipsOk ls) (hra : RC w A (lv ls)) (B : Option Addr) (cb : Nat) (b : List UInt8) (hcb : b.length ≤ cb) (hrb : RB w B b) :
    Calls Try.prog 5 #[.slice A ls.length ca, .slice B b.length cb] w fun e w' => e = .returned (.bool true) ∧ Below w.heap.size w w' := by
  by_cases h1 : 200 < ls.length
  · go_enter Try.func5, Try.ntmps5
    go_wp2_with fail
    refine (works_any w).mono ?_
    rintro e w1 ⟨rfl, hb1⟩
    go_wp2
    go_ret
    exact ⟨rfl, hb1⟩
  · by_cases h2 : 500 < b.length
    · go_enter Try.func5, Try.ntmps5
      go_wp2_with fail
      refine (works_any w).mono ?_
      rintro e w1 ⟨rfl, hb1⟩
      go_wp2
      go_ret
      exact ⟨rfl, hb1⟩
    · have HW := fun k => Lib.hid (head_wf hfl k)
      go_enter Try.func5, Try.ntmps5
      go_wp2_with fail
      refine (new_any A ca ls w (by omega) hra).mono ?_
      rintro e w1 ⟨g, v1, rfl, hg, hL, hv1, hb1⟩
      go_wp2
      go_loopw [26] (fun i wx => ∃ (k : Nat) (v : Value), k ≤ ls.length ∧ i = .int .i64 k ∧ LineAt wx g v (ls.drop k) (k : Int) ∧ Below w.heap.size w wx) (fun i _ => ls.length - (intOf i).toNat)
      case atStart => exact ⟨0, v1, Nat.zero_le _, rfl, hL, hb1⟩
      case round =>
        obtain ⟨k, v, hk, rfl, hl, hbx⟩ := hrel
        by_cases hlt : k < ls.length
        · go_wp2_with fail
          refine (carry_any g v (ls.drop k) k B cb b wr hl (by rw [List.length_drop]; omega) (by omega) (by omega) (HW k).out (by omega) (hrb.below hbx)).mono ?_
          rintro e w2 ⟨A2, c2, v2, rfl, _, hl2, ho2, hon⟩
          rw [List.tail_drop] at hl2
          have hb2 := hbx.trans (hon.below hg (fun k hk => by cases hk) hbx.size)
          go_wp2
          go_roundw
          case rel => exact ⟨k + 1, v2, by omega, by go_num, hl2, hb2⟩
          case measure => simp [intOf]; omega
        · have hk' : k = ls.length := by omega
          subst hk'
          rw [List.drop_length] at hl
          clear hlt hk
          go_wp2_with fail
          refine (carry_any g v [] ls.length B cb b wr hl (by simp) (by omega) (by omega) (by decide) (by omega) (hrb.below hbx)).mono ?_
          rintro e w2 ⟨A2, c2, v2, rfl, hr2, hl2, ho2, hon⟩
          have hb2 := hbx.trans (hon.below hg (fun k hk => by cases hk) hbx.size)
          have e1 : arrives (head1 []) b = b := arrives_same rfl (by simp [head1])
          have e2 : (!(head1 []).lost) = true := rfl
          rw [e1] at hr2 ⊢
          rw [e2]
          clear e1 e2
          go_wp2_with fail
          refine (add_nil _ w2).mono ?_
          rintro e w3 ⟨rfl, rfl⟩
          go_wp2_with fail
          refine (carry_nil B cb b w2 (by omega) (hrb.below hb2)).mono ?_
          rintro e w3 ⟨A3, c3, rfl, hr3, hb3⟩
          have hb4 := hb2.trans (hb3.mono hb2.size)
          have hl3 := hl2.below hb3
          have x2 := rb_convertN (P := Try.prog) (hr2.below hb3) b.length rfl 22 9 5 c2 Try.underlying22 Try.underlying5 Try.underlying9
          have x3 := rb_convertN (P := Try.prog) hr3 b.length rfl 22 9 5 c3 Try.underlying22 Try.underlying5 Try.underlying9
          have xb := rb_convertN (P := Try.prog) (hrb.below hb4) b.length rfl 22 9 5 cb Try.underlying22 Try.underlying5 Try.underlying9
          go_wp2_with fail
          refine (left_nil w3).mono ?_
          rintro e w5 ⟨rfl, rfl⟩
          go_wp2_with fail
          refine (count_nil w3).mono ?_
          rintro e w5 ⟨rfl, rfl⟩
          go_wp2_with fail
          refine (left_any g v2 _ _ w3 hl3).mono ?_
          rintro e w5 ⟨rfl, rfl⟩
          go_wp2_with fail
          refine (count_any g v2 _ _ w3 hl3).mono ?_
          rintro e w5 ⟨rfl, rfl⟩
          go_wp2_with fail
          refine (works_any w3).mono ?_
          rintro e w5 ⟨rfl, hb5⟩
          go_wp2
          go_ret
          exact ⟨rfl, hb4.trans (hb5.mono hb4.size)⟩
end Go.Proofs.Ytlkbbalidlhgmaa
