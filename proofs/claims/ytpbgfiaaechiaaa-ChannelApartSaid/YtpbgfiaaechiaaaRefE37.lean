/-
  The channels' reference: With, SetApp.
-/
import Derived.Test.YtpbgfiaaechiaaaRefD37
import Derived.Test.YtpbgfiaaechiaaaSame37
namespace Go.Proofs.Ytpbgfiaaechiaaa
open Go.RowKit
set_option linter.unusedVariables false

theorem refWith_any (M : List Ln) (A : Option Addr) (c : Nat) (xs : List UInt8) (w : World) (h4 : M.length = 4) (hM : LnsIn w M) (hr : RB w A xs) :
    Calls Try.prog 13 #[.agg (scs M), .slice A xs.length c] w fun e w' =>
      ∃ v, e = .returned v ∧ w'.ownsRow w.heap.size 3 1 v (withC (chs M) xs).length (iv (withC (chs M) xs)) ∧ Below w.heap.size w w' := by
  have hk0 : Blk (w.alloc (.cells (scs M) 32)) w.heap.size 32 (scs M) := Blk.made w 32 (scs M)
  have hb : Below w.heap.size w (w.alloc (.cells (scs M) 32)) := (Below.refl w.heap.size w).alloc (Nat.le_refl _) _
  obtain ⟨W0, hW0⟩ : ∃ W0 : World, W0 = (w.alloc (.cells (scs M) 32)) := ⟨_, rfl⟩
  rw [← hW0] at hk0 hb
  have hM0 := hM.below hb
  have hr0 := hr.below hb
  go_enter Try.func13, Try.ntmps13
  go_upto_region 1 with fail
  rw [← hW0]
  clear hW0
  go_wp2
  go_loopw [5, 6] (fun v i wx => ∃ j : Nat, j ≤ 4 ∧ i = .int .i64 j ∧ wx.ownsRow W0.heap.size 3 1 v (upto (chs M) xs j).length (iv (upto (chs M) xs j)) ∧ Below W0.heap.size W0 wx) (fun _ i _ => 4 - (intOf i).toNat)
  case atStart => exact ⟨0, by omega, rfl, show W0.ownsRow W0.heap.size 3 1 (.slice none 0 0) 0 [] from World.ownsRow_nil _ _ _ _, Below.refl _ _⟩
  case round =>
    obtain ⟨j, hj, rfl, hown, hbw⟩ := hrel
    by_cases hj4 : j < 4
    · have hjL : j < M.length := by omega
      have hk1 := hk0.below hbw hk0.size
      have d0 : wr.cell? ⟨w.heap.size, j * 6, none⟩ = some (.bool M[j].ch.o) := scs_cell hk1 j 0 hjL (by omega)
      have d1 : wr.cell? ⟨w.heap.size, j * 6 + 1, none⟩ = some (.slice M[j].A M[j].ch.app.length M[j].c) := scs_cell hk1 j 1 hjL (by omega)
      have hx' := hr0.below hbw
      obtain ⟨hra, hla⟩ := hM0.below hbw M[j] (List.getElem_mem hjL)
      have HH := Lib.hid (has_in hjL xs)
      have j4 : (j : Int) < 4 := by omega
      by_cases h0 : xs.length = 0
      · have HU := Lib.hid (upto_no (S := chs M) (xs := xs) (k := j) (by rw [HH.out]; simp [h0]))
        obtain rfl : xs = [] := List.eq_nil_of_length_eq_zero h0
        rw [List.length_nil]
        go_wp2
        go_roundw
        case rel => exact ⟨j + 1, by omega, by go_num, by rw [HU.out]; exact hown, hbw⟩
        case measure => simp [intOf]; omega
      · have h0' : 0 < (xs.length : Int) := by omega
        by_cases ho : M[j].ch.o = true
        · rw [ho] at d0
          by_cases he : M[j].ch.app = xs
          · have HU := Lib.hid (upto_yes (S := chs M) (xs := xs) (k := j) (by rw [HH.out, ho]; simp [he]; omega))
            have HE := Lib.hid he
            have hT := intT
            have hle := upto_le (chs M) xs j
            clear he ho
            go_wp2_with fail
            refine (same_short M[j].A A M[j].c c M[j].ch.app xs wr (by omega) hra hx').mono ?_
            rintro e w1 ⟨rfl, q, rfl⟩
            rw [decide_eq_true HE.out]
            have hbq : Below wr.heap.size wr (wr.drewN q) := below_drewN (Below.refl _ _) q
            have hba := hbq.alloc (Nat.le_refl _) (.cells #[.int .i64 (j : Int)] 3)
            have hra1 : RC ((wr.drewN q).alloc (.cells #[.int .i64 (j : Int)] 3)) (some ⟨wr.heap.size, 0, none⟩) [.int .i64 (j : Int)] := RC.made (wr.drewN q) _ _ _ rfl
            have hown1 : ((wr.drewN q).alloc (.cells #[.int .i64 (j : Int)] 3)).ownsRow W0.heap.size 3 1 u5 (upto (chs M) xs j).length (iv (upto (chs M) xs j)) := owns_keep hown (fun k hk => hba.block k (owns_lt hown k hk).2)
            have hsz := hbw.size
            go_wp2_with (at_builtin; refine wpList_append_cells rfl hT (.tmp 30) (.tmp 32) rfl rfl rfl hown1 hra1 rfl (by intro u hu; simp at hu; subst hu; rfl) (by omega) (by simp; omega) ?_; intro v2 w2 hown2 hb2 hg2)
            go_roundw
            case rel => exact ⟨j + 1, by omega, by go_num, by rw [HU.out]; simpa [iv] using hown2, hbw.trans ((hba.mono (by omega)).trans hb2)⟩
            case measure => simp [intOf]; omega
          · have HU := Lib.hid (upto_no (S := chs M) (xs := xs) (k := j) (by rw [HH.out]; simp [he]))
            clear ho
            go_wp2_with fail
            refine (same_short M[j].A A M[j].c c M[j].ch.app xs wr (by omega) hra hx').mono ?_
            rintro e w1 ⟨rfl, q, rfl⟩
            rw [decide_eq_false he]
            have hbq : Below W0.heap.size W0 (wr.drewN q) := below_drewN hbw q
            go_wp2
            go_roundw
            case rel => exact ⟨j + 1, by omega, by go_num, by rw [HU.out]; exact hown, hbq⟩
            case measure => simp [intOf]; omega
        · have HU := Lib.hid (upto_no (S := chs M) (xs := xs) (k := j) (by rw [HH.out]; simp [ho]))
          have ho' : M[j].ch.o = false := by simpa using ho
          rw [ho'] at d0
          clear ho ho'
          go_wp2
          go_roundw
          case rel => exact ⟨j + 1, by omega, by go_num, by rw [HU.out]; exact hown, hbw⟩
          case measure => simp [intOf]; omega
    · obtain rfl : j = 4 := by omega
      have hown' : wr.ownsRow w.heap.size 3 1 u5 (withC (chs M) xs).length (iv (withC (chs M) xs)) := by
        refine ⟨hown.1, ?_⟩
        rcases hown.2 with h | ⟨g, cap, cur, hv, h0, hrest⟩
        · exact .inl h
        · exact .inr ⟨g, cap, cur, hv, Nat.le_trans hb.size h0, hrest⟩
      go_wp2
      go_ret
      exact ⟨u5, rfl, hown', hb.trans (hbw.mono hb.size)⟩
end Go.Proofs.Ytpbgfiaaechiaaa
