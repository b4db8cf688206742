/-
  The line: what Carry returns.
-/
import Derived.Test.YtlkbbalidlhgmaaLine2
import Derived.Test.YtlkbbalidlhgmaaFlip
import Derived.Test.YtlkbbalidlhgmaaApp
namespace Go.Proofs.Ytlkbbalidlhgmaa
open Go.RowKit
set_option linter.unusedVariables false

theorem LineAt.below {w w' : World} {g : Nat} {v : Value} {ls : List Lk} {cnt : Int} (h : LineAt w g v ls cnt) (hb : Below w.heap.size w w') : LineAt w' g v ls cnt :=
  ⟨h.1.below hb h.1.size, h.2.1.keep hb.size fun k hk => hb.block k (h.2.1.lt k hk), h.2.2⟩
theorem LineAt.drewN {w : World} {g : Nat} {v : Value} {ls : List Lk} {cnt : Int} (h : LineAt w g v ls cnt) (n : Nat) : LineAt (w.drewN n) g v ls cnt := h.below (below_drewN (Below.refl _ _) n)
theorem LineAt.count {w : World} {g : Nat} {v : Value} {ls : List Lk} {cnt : Int} (h : LineAt w g v ls cnt) (n : Int) : LineAt (w.setCell ⟨g, 1, none⟩ (.int .i64 n)) g v ls n := by
  obtain ⟨hB, hh, hne⟩ := h
  refine ⟨hB.put 1 _, hh.keep (by simp) fun k hk => Below.heap_setCell _ _ _ _ (fun e => ?_), hne⟩
  have e' : k = g := e
  exact hne (by rw [hk, e'])
theorem LineAt.far {w : World} {g : Nat} {v : Value} {ls : List Lk} {cnt : Int} (h : LineAt w g v ls cnt) {p : Addr} (hp : p.block ≠ g) (hp2 : v.ownBlock ≠ some p.block) (u : Value) : LineAt (w.setCell p u) g v ls cnt := by
  obtain ⟨hB, hh, hne⟩ := h
  refine ⟨hB.other (fun e => hp e.symm) u, hh.keep (by simp) fun k hk => Below.heap_setCell _ _ _ _ (fun e => ?_), hne⟩
  exact hp2 (by rw [hk, e])
theorem Only.far {g : Nat} {ob : Option Nat} {a w : World} (h : Only g ob a w) {p : Addr} (hp : a.heap.size ≤ p.block) (u : Value) : Only g ob a (w.setCell p u) :=
  ⟨h.os, h.tape, h.output, by simpa using h.size, fun k hk h1 h2 => (Below.heap_setCell _ _ _ _ (by omega)).trans (h.block k hk h1 h2)⟩

theorem take_any (g : Nat) (v : Value) (ls : List Lk) (cnt : Int) (w : World) (h : LineAt w g v ls cnt) (hl : ls.length ≤ 1048576) :
    Calls Try.prog 17 #[.pointer (some ⟨g, 0, none⟩)] w fun e w' => e = .returned (.agg #[.bool (head1 ls).lost, .int .i64 (head1 ls).flip]) ∧
      ∃ v', LineAt w' g v' ls.tail cnt ∧ v'.ownBlock = v.ownBlock ∧ Only g none w w' := by
  rcases ls with _ | ⟨l, ls⟩
  · exact (take_none g v cnt w h).mono fun e w' ⟨he, hb⟩ => ⟨he, v, h.below hb, rfl, Only.of_below hb⟩
  · exact take_one g v l ls cnt w h (by simp at hl; omega)

/-- What arrives of bytes to which something happens. -/
def arrives (l : Lk) (xs : List UInt8) : List UInt8 :=
  if l.lost = true then [] else if 0 < l.flip ∧ 0 < xs.length then flipB xs ((l.flip - 1) % (8 * (xs.length : Int))).toNat else xs
theorem arrives_lost {l : Lk} (h : l.lost = true) (xs : List UInt8) : arrives l xs = [] := by unfold arrives; rw [if_pos h]
theorem arrives_flip {l : Lk} (h : l.lost = false) {xs : List UInt8} (h1 : 0 < l.flip) (h2 : 0 < xs.length) : arrives l xs = flipB xs ((l.flip - 1) % (8 * (xs.length : Int))).toNat := by
  unfold arrives; rw [if_neg (by rw [h]; simp), if_pos ⟨h1, h2⟩]
theorem arrives_same {l : Lk} (h : l.lost = false) {xs : List UInt8} (h1 : ¬ (0 < l.flip ∧ 0 < xs.length)) : arrives l xs = xs := by
  unfold arrives; rw [if_neg (by rw [h]; simp), if_neg h1]
theorem arrives_le (l : Lk) (xs : List UInt8) : (arrives l xs).length ≤ xs.length := by
  unfold arrives; split
  · simp
  · split
    · rw [flipB_length]; exact Nat.le_refl _
    · exact Nat.le_refl _

theorem carry_nil (A : Option Addr) (c : Nat) (xs : List UInt8) (w : World) (hl : xs.length ≤ 1048576) (hr : RB w A xs) :
    Calls Try.prog 8 #[.pointer none, .slice A xs.length c] w fun e w' =>
      ∃ A1 c1, e = .returned (.tuple #[.slice A1 xs.length c1, .bool true]) ∧ RB w' A1 xs ∧ Below w.heap.size w w' := by
  go_enter Try.func8, Try.ntmps8
  go_wp2_with fail
  refine (cloneB_any A c xs w hl hr).mono ?_
  rintro e w1 ⟨v, rfl, hown, hb⟩
  obtain ⟨A1, c1, rfl, hc1, hr1⟩ := owns_reads hown
  go_wp2
  go_ret2
  exact ⟨A1, c1, rfl, rb_iff.2 hr1, hb⟩

/-- What Carry leaves: what has arrived, and the line. -/
def Carried (g : Nat) (v : Value) (ls : List Lk) (cnt : Int) (xs : List UInt8) (w : World) (e : Ending) (w' : World) : Prop :=
  ∃ A1 c1 v', e = .returned (.tuple #[.slice A1 (arrives (head1 ls) xs).length c1, .bool (!(head1 ls).lost)]) ∧ RB w' A1 (arrives (head1 ls) xs) ∧
    LineAt w' g v' ls.tail (cnt + 1) ∧ v'.ownBlock = v.ownBlock ∧ Only g none w w'

theorem carry_any (g : Nat) (v : Value) (ls : List Lk) (cnt : Int) (A : Option Addr) (c : Nat) (xs : List UInt8) (w : World) (h : LineAt w g v ls cnt) (hls : ls.length ≤ 1048576) (h0 : 0 ≤ cnt) (hcnt : cnt ≤ 1048576)
    (hf : (Lit.int .i64 (head1 ls).flip).wf = true) (hl : xs.length ≤ 1048576) (hr : RB w A xs) :
    Calls Try.prog 8 #[.pointer (some ⟨g, 0, none⟩), .slice A xs.length c] w (Carried g v ls cnt xs w) := by
  simp only [Lit.wf, Bool.and_eq_true, decide_eq_true_eq] at hf
  have hf1 : -9223372036854775808 ≤ (head1 ls).flip := hf.1
  have hf2 : (head1 ls).flip ≤ 9223372036854775807 := hf.2
  clear hf
  have hg := h.1.size
  have hP : ∀ e w', Carried g v ls cnt xs w e w' ↔ Carried g v ls cnt xs w e w' := fun _ _ => Iff.rfl
  obtain ⟨l, hlk⟩ : ∃ l, l = head1 ls := ⟨_, rfl⟩
  have htake := fun w => take_any g v ls (cnt + 1) w
  have HC : Hid (∀ (A1 : Option Addr) (n c1 : Nat) (ok : Bool) (v' : Value) (w' : World) (ys : List UInt8), arrives l xs = ys → n = ys.length → (!l.lost) = ok → RB w' A1 ys → LineAt w' g v' ls.tail (cnt + 1) → v'.ownBlock = v.ownBlock → Only g none w w' →
      Carried g v ls cnt xs w (.returned (.tuple #[.slice A1 n c1, .bool ok])) w') := by
    intro A1 n c1 ok v' w' ys e1 e0 e6 e2 e3 e4 e5
    subst e1 e0 e6 hlk
    exact ⟨A1, c1, v', rfl, e2, e3, e4, e5⟩
  rw [← hlk] at hf1 hf2
  have HT : ∀ w, LineAt w g v ls (cnt + 1) → _ := fun w h => htake w h hls
  rw [← hlk] at HT
  clear htake hP hlk
  have HTT := Lib.hid HT
  clear HT
  go_enter Try.func8, Try.ntmps8
  go_wp2_with fail
  refine (cloneB_any A c xs w hl hr).mono ?_
  rintro e w1 ⟨v1, rfl, hown, hb⟩
  have h1 := h.below hb
  have c1 := h1.1.cell 1
  have f1 := h1.1.free 1
  have hcn : cnt + 1 ≤ 1048577 := by omega
  obtain ⟨A1, k1, rfl, hk1, hr1⟩ := owns_reads hown
  go_wp2_with fail
  refine (HTT.out _ (h1.count (cnt + 1))).mono ?_
  rintro e w2 ⟨rfl, v2, h2, ho2, hon⟩
  have hgs : w1.heap.size = (w1.setCell ⟨g, 1, none⟩ (.int .i64 (cnt + 1))).heap.size := by simp
  have hkeep : ∀ k, (Value.slice A1 xs.length k1).ownBlock = some k → w2.heap[k]? = w1.heap[k]? := fun k hk => by
    have hk2 := hown.lt k hk
    exact (hon.block k (by omega) (by omega) (by simp)).trans (Below.heap_setCell _ _ _ _ (by show k ≠ g; omega))
  have hown2 : Own 5 w2 w.heap.size (.slice A1 xs.length k1) xs := owns_keep hown hkeep
  have hon2 : Only g none w w2 := ((Only.of_below hb).put 1 _).trans hon
  have h3 := h2.below ((Below.refl _ _).alloc (Nat.le_refl _) (.cells #[.bool l.lost, .int .i64 l.flip] 24))
  have hon3 := hon2.alloc (.cells #[.bool l.lost, .int .i64 l.flip] 24)
  have hrb3 := hown2.rb.below ((Below.refl _ _).alloc (Nat.le_refl _) (.cells #[.bool l.lost, .int .i64 l.flip] 24))
  have hlt2 := hown.lt
  clear hkeep hgs hr1 hon h2 h1 c1 f1
  by_cases hlost : l.lost = true
  · have hfin := HC.out none 0 0 false v2 _ [] (arrives_lost hlost xs) rfl (by rw [hlost]; rfl) (RB.nil _ _) h3 ho2 hon3
    have HF := Lib.hid hfin
    clear hfin hrb3 h3 hon3 hon2
    go_wp2
    go_ret2
    rw [hlost] at HF
    exact HF.out
  · have hlost' : l.lost = false := by simpa using hlost
    by_cases hfl : 0 < l.flip
    · by_cases hxl : 0 < xs.length
      · obtain ⟨n, hat⟩ : ∃ n : Nat, (l.flip - 1) % (8 * (xs.length : Int)) = (n : Int) := ⟨((l.flip - 1) % (8 * (xs.length : Int))).toNat, by have := Int.emod_nonneg (l.flip - 1) (show 8 * (xs.length : Int) ≠ 0 from by omega); omega⟩
        have hnl : n < 8 * xs.length := by have := Int.emod_lt_of_pos (l.flip - 1) (show 0 < 8 * (xs.length : Int) from by omega); omega
        have har := arrives_flip hlost' hfl hxl
        rw [hat, Int.toNat_natCast] at har
        have hn8 : n / 8 < xs.length := by omega
        obtain ⟨gb, cb, hv, hcb, hgb, hcells, hfree⟩ := hown2.form hxl
        injection hv with hA1 _ hk1'
        subst hA1 hk1'
        have hgb2 : gb < w2.heap.size := cell?_lt (hcells 0 hxl)
        have hgg : gb ≠ g := by omega
        have hvb : v2.ownBlock ≠ some gb := fun e => by
          have h4 := h.2.1.lt gb (by rw [← ho2]; exact e)
          omega
        have hcell : (w2.alloc (.cells #[.bool l.lost, .int .i64 l.flip] 24)).cell? ⟨gb, n / 8, none⟩ = some (.int .u8 (xs[n / 8].toNat : Int)) := by
          rw [World.cell?_alloc_past _ _ _ hgb2]; exact hcells _ hn8
        have hfr : (w2.alloc (.cells #[.bool l.lost, .int .i64 l.flip] 24)).frozen? ⟨gb, n / 8, none⟩ = false := by
          rw [World.frozen?_alloc_past _ _ _ hgb2]; exact hfree _
        have hown3 : Own 5 (w2.alloc (.cells #[.bool l.lost, .int .i64 l.flip] 24)) w.heap.size (.slice (some ⟨gb, 0, none⟩) xs.length k1) xs := World.ownsRow.alloc hown2 _
        have hown4 := hown3.set (n / 8) (xs[n / 8] ^^^ UInt8.ofNat (2 ^ (n % 8)))
        rw [← flipB_set xs n hn8, ← har] at hown4
        have h5 := h3.far (p := ⟨gb, n / 8, none⟩) hgg hvb (.int .u8 ((xs[n / 8] ^^^ UInt8.ofNat (2 ^ (n % 8))).toNat : Int))
        have hon5 := hon3.far (p := ⟨gb, n / 8, none⟩) hgb (.int .u8 ((xs[n / 8] ^^^ UInt8.ofNat (2 ^ (n % 8))).toNat : Int))
        have hrb5 : RB _ (some ⟨gb, 0, none⟩) (arrives l xs) := hown4.rb
        have hfin := HC.out (some ⟨gb, 0, none⟩) xs.length k1 true v2 _ (arrives l xs) rfl (by rw [har, flipB_length]) (by rw [hlost']; rfl) (hrb5.drewN 1) (h5.drewN 1) ho2 (hon5.drewN 1)
        have HF := Lib.hid hfin
        have hn0 : (0 : Int) ≤ (n : Int) / 8 := by omega
        have hn1 : (n : Int) / 8 < (xs.length : Int) := by omega
        rw [hlost'] at hcell hfr HF
        rw [World.setCell_alloc_past _ _ _ _ hgb2] at HF
        clear hfin hrb5 hon5 h5 hown4 hown3 hown2 hcells hfree har hrb3 h3 hon3 hon2 hlost hlt2
        go_wp2
        go_region
        rw [bit_val]
        go_wp2
        go_ret2
        exact HF.out
      · have hx0 : xs.length = 0 := by omega
        have hfin := HC.out A1 xs.length k1 true v2 _ xs (arrives_same hlost' (by omega)) rfl (by rw [hlost']; rfl) hrb3 h3 ho2 hon3
        have HF := Lib.hid hfin
        rw [hlost'] at HF
        clear hfin hrb3 h3 hon3 hon2 hown2 hx0
        go_wp2
        go_ret2
        exact HF.out
    · have hfin := HC.out A1 xs.length k1 true v2 _ xs (arrives_same hlost' (by omega)) rfl (by rw [hlost']; rfl) hrb3 h3 ho2 hon3
      have HF := Lib.hid hfin
      rw [hlost'] at HF
      clear hfin hrb3 h3 hon3 hon2 hown2
      go_wp2
      go_ret2
      exact HF.out
end Go.Proofs.Ytlkbbalidlhgmaa
