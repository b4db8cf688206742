/-
  The chapter's examples: works returns true.
-/
import Derived.Test.YtlkbbalidlhgmaaCarry
namespace Go.Proofs.Ytlkbbalidlhgmaa
open Go.RowKit
set_option linter.unusedVariables false

theorem LineAt.ne_bytes {w : World} {g : Nat} {v : Value} {ls : List Lk} {cnt : Int} {A : Option Addr} {xs : List UInt8} (h : LineAt w g v ls cnt) (hr : RB w A xs) (hx : xs ≠ []) : A.map (·.block) ≠ some g := by
  obtain ⟨b, off, rfl, hc⟩ := hr hx
  intro e
  have e' : b = g := by simpa using e
  subst e'
  obtain ⟨A0, c0, hv, _, _⟩ := h.2.1.reads
  have hl : 0 < xs.length := by
    rcases xs with _ | ⟨x, xs⟩
    · exact absurd rfl hx
    · simp
  have h0 := hc 0 hl
  rw [h.1.cell] at h0
  rcases off with _ | _ | off
  · simp [hv] at h0
  · simp at h0
  · simp at h0
theorem RB.only {w w' : World} {g : Nat} {v : Value} {ls : List Lk} {cnt : Int} {A : Option Addr} {xs : List UInt8} (hr : RB w A xs) (h : LineAt w g v ls cnt) (ho : Only g none w w') : RB w' A xs := by
  by_cases hx : xs = []
  · subst hx; exact RB.nil _ _
  · refine rb_iff.2 (ho.rc (rb_iff.1 hr) (fun _ => h.ne_bytes hr hx) (fun _ => ?_))
    obtain ⟨b, off, rfl, _⟩ := hr hx
    simp

theorem rb_convertN {P : Program} {w : World} {A : Option Addr} {xs : List UInt8} (h : RB w A xs) (n : Nat) (hn : xs.length = n) (src dst e : TypeId) (c : Nat)
    (hs : P.underlying src = some (.slice e)) (he : P.underlying e = some (.int .u8)) (hd : P.underlying dst = some .string) :
    (convert src dst (.slice A n c)).run P w = .ok (.string (strOf xs)) w := by
  subst hn
  exact h.convert src dst e c hs he hd

def three : List Lk := [⟨true, 0⟩, ⟨false, 9⟩, ⟨false, 17⟩]
def oneTwo : Obj := .cells #[.int .u8 1, .int .u8 2] 5
theorem carry2 (g : Nat) (v : Value) (ls : List Lk) (cnt : Int) (w : World) (h : LineAt w g v ls cnt) (hls : ls.length ≤ 3) (h0 : 0 ≤ cnt) (hcnt : cnt ≤ 3) (hf : (Lit.int .i64 (head1 ls).flip).wf = true) (ys : List UInt8) (n : Nat) (ok : Bool) (hys : arrives (head1 ls) [1, 2] = ys) (hn : ys.length = n) (hok : (!(head1 ls).lost) = ok) :
    Calls Try.prog 8 #[.pointer (some ⟨g, 0, none⟩), .slice (some ⟨w.heap.size, 0, none⟩) 2 2] (w.alloc (.cells #[.int .u8 1, .int .u8 2] 5)) fun e w' =>
      ∃ A1 c1 v', e = .returned (.tuple #[.slice A1 n c1, .bool ok]) ∧ RB w' A1 ys ∧
        LineAt w' g v' ls.tail (cnt + 1) ∧ v'.ownBlock = v.ownBlock ∧ Only g none w w' := by
  subst hys hn hok
  have hb := (Below.refl w.heap.size w).alloc (Nat.le_refl _) (.cells #[.int .u8 1, .int .u8 2] 5)
  have hr : RB (w.alloc (.cells #[.int .u8 1, .int .u8 2] 5)) (some ⟨w.heap.size, 0, none⟩) [1, 2] := RB.made w _ _ [1, 2] rfl
  refine (carry_any g v ls cnt (some ⟨w.heap.size, 0, none⟩) 2 [1, 2] _ (h.below hb) (by omega) h0 (by omega) hf (by decide) hr).mono ?_
  rintro e w' ⟨A1, c1, v', e1, e2, e3, e4, e5⟩
  exact ⟨A1, c1, v', e1, e2, e3, e4, (Only.of_below hb).trans e5⟩

theorem works_any (w : World) : Calls Try.prog 6 #[] w fun e w' => e = .returned (.bool true) ∧ Below w.heap.size w w' := by
  have hr0 : RC (w.alloc (.cells #[.bool true, .int .i64 0, .bool false, .int .i64 9, .bool false, .int .i64 17] 24)) (some ⟨w.heap.size, 0, none⟩) (lv three) := RC.made w _ _ _ rfl
  have hb0 := (Below.refl w.heap.size w).alloc (Nat.le_refl _) (.cells #[.bool true, .int .i64 0, .bool false, .int .i64 9, .bool false, .int .i64 17] 24)
  go_enter Try.func6, Try.ntmps6
  go_wp2_with fail
  refine (new_any (some ⟨w.heap.size, 0, none⟩) 3 three _ (by decide) hr0).mono ?_
  rintro e w1 ⟨g, v1, rfl, hg, h1, hv1, hb1⟩
  have hbw1 := hb0.trans (hb1.mono hb0.size)
  have hgw : w.heap.size ≤ g := Nat.le_trans hb0.size hg
  go_wp2_with fail
  refine (left_any g v1 three 0 w1 h1).mono ?_
  rintro e w2 ⟨rfl, rfl⟩
  have hl3 : ((three.length : Nat) : Int) = 3 := rfl
  rw [hl3]
  go_wp2_with fail
  refine (carry2 g v1 three 0 w1 h1 (by decide) (by decide) (by decide) (by decide) [] 0 false (by decide +kernel) rfl rfl).mono ?_
  rintro e w2 ⟨A2, c2, v2, rfl, hr2, h2, ho2, hon2⟩
  go_wp2_with fail
  refine (carry2 g v2 three.tail 1 w2 h2 (by decide) (by decide) (by decide) (by decide) [1, 3] 2 true (by decide +kernel) rfl rfl).mono ?_
  rintro e w3 ⟨A3, c3, v3, rfl, hr3, h3, ho3, hon3⟩
  go_wp2_with fail
  refine (carry2 g v3 three.tail.tail 2 w3 h3 (by decide) (by decide) (by decide) (by decide) [0, 2] 2 true (by decide +kernel) rfl rfl).mono ?_
  rintro e w4 ⟨A4, c4, v4, rfl, hr4, h4, ho4, hon4⟩
  go_wp2_with fail
  refine (carry2 g v4 [] 3 w4 h4 (by decide) (by decide) (by decide) (by decide) [1, 2] 2 true (by decide +kernel) rfl rfl).mono ?_
  rintro e w5 ⟨A5, c5, v5, rfl, hr5, h5, ho5, hon5⟩
  have q3 : RB w5 A3 [1, 3] := (hr3.only h3 hon4).only h4 hon5
  have q4 : RB w5 A4 [0, 2] := hr4.only h4 hon5
  have q5 : RB w5 A5 [1, 2] := hr5
  have x3 := rb_convertN (P := Try.prog) q3 2 rfl 22 9 5 c3 Try.underlying22 Try.underlying5 Try.underlying9
  have x4 := rb_convertN (P := Try.prog) q4 2 rfl 22 9 5 c4 Try.underlying22 Try.underlying5 Try.underlying9
  have x5 := rb_convertN (P := Try.prog) q5 2 rfl 22 9 5 c5 Try.underlying22 Try.underlying5 Try.underlying9
  have hbw := hbw1.trans ((((hon2.trans hon3).trans hon4).trans hon5).below hgw (fun k hk => by cases hk) hbw1.size)
  have y3 : (strOf [1, 3]).toList = [1, 3] := strOf_list _
  have y4 : (strOf [0, 2]).toList = [0, 2] := strOf_list _
  have y5 : (strOf [1, 2]).toList = [1, 2] := strOf_list _
  have z3 : (⟨#[1, 3]⟩ : ByteArray).toList = [1, 3] := strOf_list [1, 3]
  have z4 : (⟨#[0, 2]⟩ : ByteArray).toList = [0, 2] := strOf_list [0, 2]
  have z5 : (⟨#[1, 2]⟩ : ByteArray).toList = [1, 2] := strOf_list [1, 2]
  go_wp2_with fail
  refine (count_any g v5 [] 4 w5 h5).mono ?_
  rintro e w6 ⟨rfl, rfl⟩
  go_wp2_with fail
  refine (left_any g v5 [] 4 w5 h5).mono ?_
  rintro e w6 ⟨rfl, rfl⟩
  go_wp2
  go_ret
  exact ⟨rfl, hbw⟩
end Go.Proofs.Ytlkbbalidlhgmaa
