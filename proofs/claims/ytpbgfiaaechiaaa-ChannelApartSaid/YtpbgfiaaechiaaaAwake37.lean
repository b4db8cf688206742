/-
  The chapter's example: awake returns true.
-/
import Derived.Test.YtpbgfiaaechiaaaChan7
namespace Go.Proofs.Ytpbgfiaaechiaaa
open Go.RowKit
set_option linter.unusedVariables false

theorem Only.bel {g B : Nat} {w w' : World} (h : Only g none w w') (hg : B ≤ g) (hb : B ≤ w.heap.size) : Below B w w' := h.below hg (fun k hk => by cases hk) hb

def aw1 : List Ch := [lineO, lineO, zeroCh, zeroCh]
def aw2 : List Ch := [lineO, lineO, zeroCh, lineO]
def aw3 : List Ch := [lineO, lineO, lineO, lineO]
def aw4 : List Ch := [lineO, zeroCh, lineO, lineO]
set_option maxHeartbeats 1000000 in
theorem awake_any (w : World) : Calls Try.prog 14 #[] w fun e w' => e = .returned (.bool true) ∧ Below w.heap.size w w' := by
  go_enter Try.func14, Try.ntmps14
  go_wp2_with fail
  refine (new_any w).mono ?_
  rintro e w1 ⟨rfl, hT, hb⟩
  have o1 := open_any w.heap.size firstL 0 w1 hT
  rw [chs_first, show openC firstC 0 = (aw1, 1, 0) from rfl] at o1
  go_wp2_with fail
  refine o1.mono ?_
  clear o1
  rintro e w2 ⟨rfl, L2, hT2, hc2, hn2⟩
  have o2 := open_any w.heap.size L2 3 w2 hT2
  rw [hc2, show openC aw1 3 = (aw2, 3, 0) from rfl] at o2
  go_wp2_with fail
  refine o2.mono ?_
  clear o2
  rintro e w3 ⟨rfl, L3, hT3, hc3, hn3⟩
  have o3 := open_any w.heap.size L3 0 w3 hT3
  rw [hc3, show openC aw2 0 = (aw3, 2, 0) from rfl] at o3
  go_wp2_with fail
  refine o3.mono ?_
  clear o3
  rintro e w4 ⟨rfl, L4, hT4, hc4, hn4⟩
  have o4 := open_any w.heap.size L4 0 w4 hT4
  rw [hc4, show openC aw3 0 = (aw3, 0, 10) from rfl] at o4
  go_wp2_with fail
  refine o4.mono ?_
  clear o4
  rintro e w5 ⟨rfl, L5, hT5, hc5, hn5⟩
  have o5 := close_any w.heap.size L5 1 w5 hT5
  rw [hc5, show closeC aw3 1 = (aw4, 0) from rfl] at o5
  go_wp2_with fail
  refine o5.mono ?_
  clear o5
  rintro e w6 ⟨rfl, L6, hT6, hc6, hn6⟩
  have o6 := isOpen_any w.heap.size L6 1 w6 hT6
  rw [hc6, show whichC aw4 1 = 14 from rfl] at o6
  go_wp2_with fail
  refine o6.mono ?_
  clear o6
  rintro e w7 ⟨rfl, rfl⟩
  have o7 := isOpen_any w.heap.size L6 0 w6 hT6
  rw [hc6, show whichC aw4 0 = 0 from rfl] at o7
  go_wp2_with fail
  refine o7.mono ?_
  clear o7
  rintro e w8 ⟨rfl, rfl⟩
  go_wp2
  go_ret
  have hs := hb.size
  exact ⟨rfl, hb.trans (((((hn2.trans hn3).trans hn4).trans hn5).trans hn6).bel (Nat.le_refl _) hs)⟩

end Go.Proofs.Ytpbgfiaaechiaaa
