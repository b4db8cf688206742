/-
  Reading an answer to reset: whatever the bytes.
-/
import Derived.Test.YtkhobpghiachoaaWholeT05
namespace Go.Proofs.Ytkhobpghiachoaa
open Go.RowKit Crc
set_option linter.unusedVariables false

theorem whole_long (rdb B : Nat) (A : Option Addr) (c : Nat) (b : List UInt8) (w : World) (hrd : Rdr w rdb A c b) (hB : B ≤ rdb) (hl : b.length ≤ 1048576) (h33 : 33 < b.length) :
    Calls Try.prog 32 #[.pointer (some ⟨rdb, 0, none⟩), .slice A b.length c] w (WRes b B w) := by
  have hsz := hrd.blk.size
  have hb0 := (Below.refl w.heap.size w).alloc (Nat.le_refl _) (.cells #[.bool false, .slice none 0 0, .slice none 0 0, .slice none 0 0] 27)
  have HZ : Hid (WRes b B w (badP 3) (w.alloc (.cells #[.bool false, .slice none 0 0, .slice none 0 0, .slice none 0 0] 27))) := WRes.no (by unfold wholeS; rw [if_pos h33]) (by decide) (hb0.mono (by omega))
  have hx : ((33 : Int) < ((b.length : Nat) : Int)) := by omega
  go_enter Try.func32, Try.ntmps32
  go_wp2
  refine ⟨rfl, ?_⟩
  exact HZ.out
theorem whole_nil (rdb B : Nat) (A : Option Addr) (c : Nat) (w : World) (hrd : Rdr w rdb A c []) (hB : B ≤ rdb) :
    Calls Try.prog 32 #[.pointer (some ⟨rdb, 0, none⟩), .slice A 0 c] w (WRes [] B w) := by
  have hsz := hrd.blk.size
  have hb0 := (Below.refl w.heap.size w).alloc (Nat.le_refl _) (.cells #[.bool false, .slice none 0 0, .slice none 0 0, .slice none 0 0] 27)
  have hrd0 := hrd.below hb0
  have HZ : Hid (WRes [] B w (badP 5) (w.alloc (.cells #[.bool false, .slice none 0 0, .slice none 0 0, .slice none 0 0] 27))) := WRes.no (by unfold wholeS; simp) (by decide) (hb0.mono (by omega))
  go_enter Try.func32, Try.ntmps32
  go_wp2_with fail
  refine (number_bad hrd0).mono ?_
  rintro e w1 ⟨rfl, rfl⟩
  refine ⟨rfl, ?_⟩
  exact HZ.out
theorem whole_sign (rdb B : Nat) (A : Option Addr) (c : Nat) (f : UInt8) (b : List UInt8) (w : World) (hrd : Rdr w rdb A c (f :: b)) (hB : B ≤ rdb) (hl : b.length ≤ 32) (hc : c ≤ c) (h59 : f ≠ 59) (h63 : f ≠ 63) :
    Calls Try.prog 32 #[.pointer (some ⟨rdb, 0, none⟩), .slice A (b.length + 1) c] w (WRes (f :: b) B w) := by
  have hsz := hrd.blk.size
  have hb0 := (Below.refl w.heap.size w).alloc (Nat.le_refl _) (.cells #[.bool false, .slice none 0 0, .slice none 0 0, .slice none 0 0] 27)
  have hrd0 := hrd.below hb0
  have hx : ¬ ((33 : Int) < ((b.length + 1 : Nat) : Int)) := by omega
  have HN : Hid (wholeS (f :: b) = .bad 4) := by
    show _ = _
    unfold wholeS
    rw [if_neg (by simp; omega)]
    simp only
    rw [if_neg (by simp [h59, h63])]
  have q59 : ((f.toNat : Int) != 59) = true := by
    have : f.toNat ≠ 59 := fun e => h59 (UInt8.toNat_inj.1 e)
    simp
    omega
  have q63 : ((f.toNat : Int) != 63) = true := by
    have : f.toNat ≠ 63 := fun e => h63 (UInt8.toNat_inj.1 e)
    simp
    omega
  go_enter Try.func32, Try.ntmps32
  go_wp2_with fail
  refine (number_ok hrd0 (by omega) hc).mono ?_
  rintro e w1 ⟨rfl, A1, c1, hc1, hr1, hw1, hA1⟩
  have HZ : Hid (WRes (f :: b) B w (badP 4) w1) := WRes.no HN.out (by decide) (by rw [hw1]; exact (hb0.mono (by omega)).setCell (p := ⟨rdb, 0, none⟩) hB _)
  clear hw1
  go_wp2
  refine ⟨rfl, ?_⟩
  exact HZ.out
theorem whole_oneF (rdb B : Nat) (A : Option Addr) (c : Nat) (f : UInt8) (w : World) (hrd : Rdr w rdb A c [f]) (hB : B ≤ rdb) (hc : c ≤ c) (HF : Hid (f = 59 ∨ f = 63)) (q59 : ((f.toNat : Int) != 59) = false) (q63 : ((f.toNat : Int) == 63) = false) :
    Calls Try.prog 32 #[.pointer (some ⟨rdb, 0, none⟩), .slice A 1 c] w (WRes [f] B w) := by
  have hsz := hrd.blk.size
  have hb0 := (Below.refl w.heap.size w).alloc (Nat.le_refl _) (.cells #[.bool false, .slice none 0 0, .slice none 0 0, .slice none 0 0] 27)
  have hrd0 := hrd.below hb0
  have HN : Hid (wholeS [f] = .bad 5) := by
    show _ = _
    unfold wholeS
    rw [if_neg (by simp)]
    simp only
    rw [if_pos HF.out]
  go_enter Try.func32, Try.ntmps32
  go_wp2_with fail
  refine (number_ok hrd0 (by simp) hc).mono ?_
  rintro e w1 ⟨rfl, A1, c1, hc1, hr1, hw1, hA1⟩
  have hb1 : Below B w w1 := by rw [hw1]; exact (hb0.mono (by omega)).setCell (p := ⟨rdb, 0, none⟩) hB _
  have hs1 : w.heap.size ≤ w1.heap.size := by rw [hw1]; simp
  clear hw1
  have hba := (Below.refl w1.heap.size w1).alloc (Nat.le_refl _) (.cells #[.bool false, .slice none 0 0, .slice none 0 0, .slice none 0 0] 27)
  have hr2 := hr1.below hba
  have HZ : Hid (WRes [f] B w (badP 5) (w1.alloc (.cells #[.bool false, .slice none 0 0, .slice none 0 0, .slice none 0 0] 27))) := WRes.no HN.out (by decide) (hb1.trans (hba.mono (by omega)))
  clear hs1
  go_wp2_with fail
  refine (number_bad hr2).mono ?_
  rintro e w2 ⟨rfl, rfl⟩
  refine ⟨rfl, ?_⟩
  exact HZ.out
theorem whole_oneT (rdb B : Nat) (A : Option Addr) (c : Nat) (f : UInt8) (w : World) (hrd : Rdr w rdb A c [f]) (hB : B ≤ rdb) (hc : c ≤ c) (HF : Hid (f = 59 ∨ f = 63)) (q59 : ((f.toNat : Int) != 59) = true) (q60 : ((f.toNat : Int) != 63) = false) (q63 : ((f.toNat : Int) == 63) = true) :
    Calls Try.prog 32 #[.pointer (some ⟨rdb, 0, none⟩), .slice A 1 c] w (WRes [f] B w) := by
  have hsz := hrd.blk.size
  have hb0 := (Below.refl w.heap.size w).alloc (Nat.le_refl _) (.cells #[.bool false, .slice none 0 0, .slice none 0 0, .slice none 0 0] 27)
  have hrd0 := hrd.below hb0
  have HN : Hid (wholeS [f] = .bad 5) := by
    show _ = _
    unfold wholeS
    rw [if_neg (by simp)]
    simp only
    rw [if_pos HF.out]
  go_enter Try.func32, Try.ntmps32
  go_wp2_with fail
  refine (number_ok hrd0 (by simp) hc).mono ?_
  rintro e w1 ⟨rfl, A1, c1, hc1, hr1, hw1, hA1⟩
  have hb1 : Below B w w1 := by rw [hw1]; exact (hb0.mono (by omega)).setCell (p := ⟨rdb, 0, none⟩) hB _
  have hs1 : w.heap.size ≤ w1.heap.size := by rw [hw1]; simp
  clear hw1
  have hba := (Below.refl w1.heap.size w1).alloc (Nat.le_refl _) (.cells #[.bool true, .slice none 0 0, .slice none 0 0, .slice none 0 0] 27)
  have hr2 := hr1.below hba
  have HZ : Hid (WRes [f] B w (badP 5) (w1.alloc (.cells #[.bool true, .slice none 0 0, .slice none 0 0, .slice none 0 0] 27))) := WRes.no HN.out (by decide) (hb1.trans (hba.mono (by omega)))
  clear hs1
  go_wp2_with fail
  refine (number_bad hr2).mono ?_
  rintro e w2 ⟨rfl, rfl⟩
  refine ⟨rfl, ?_⟩
  exact HZ.out
/-- whole, whatever the bytes. -/
theorem whole_any (rdb B : Nat) (A : Option Addr) (c : Nat) (b : List UInt8) (w : World) (hrd : Rdr w rdb A c b) (hB : B ≤ rdb) (ha : ∀ z, A.map (·.block) = some z → z < B) (hl : b.length ≤ 1048576) (hc : c ≤ c) :
    Calls Try.prog 32 #[.pointer (some ⟨rdb, 0, none⟩), .slice A b.length c] w (WRes b B w) := by
  by_cases h33 : 33 < b.length
  · exact whole_long rdb B A c b w hrd hB hl h33
  · match b, hrd, hl, h33 with
    | [], hrd, _, _ => exact whole_nil rdb B A c w hrd hB
    | [f], hrd, _, _ =>
      by_cases h59 : f = 59
      · subst h59
        exact whole_oneF rdb B A c 59 w hrd hB hc (Or.inl rfl) rfl rfl
      · by_cases h63 : f = 63
        · subst h63
          exact whole_oneT rdb B A c 63 w hrd hB hc (Or.inr rfl) rfl rfl rfl
        · exact whole_sign rdb B A c f [] w hrd hB (by simp) hc h59 h63
    | f :: h :: b, hrd, _, h33 =>
      have hl : b.length ≤ 31 := by simp at h33; omega
      by_cases h59 : f = 59
      · subst h59
        exact whole_f rdb B A c 59 h b w hrd hB ha hl hc rfl rfl (Or.inl rfl) rfl
      · by_cases h63 : f = 63
        · subst h63
          exact whole_t rdb B A c 63 h b w hrd hB ha hl hc rfl rfl rfl (Or.inr rfl) rfl
        · exact whole_sign rdb B A c f (h :: b) w hrd hB (by simp; omega) hc h59 h63
end Go.Proofs.Ytkhobpghiachoaa
