/-
  Reading one group: the program's walk.
-/
import Derived.Test.YtkhobpghiachoaaDec05
import Derived.Test.YtkhobpghiachoaaTake05
import Derived.RegionDies
namespace Go.Proofs.Ytkhobpghiachoaa
open Go.RowKit Crc
set_option linter.unusedVariables false

/-- An answer to reset that is being made: in block ab, its lists in blocks of their own from base on. -/
structure Mk (w : World) (ab base : Nat) (inv : Bool) (v1 v2 v3 : Value) (bs : List If) (ps : List Int) : Prop where
  blk : Blk w ab 27 #[.bool inv, v1, v2, v3]
  own1 : w.ownsRow base 47 4 v1 bs.length (ifv bs)
  own2 : w.ownsRow base 3 1 v2 ps.length (nv ps)
  apart : ∀ k, v1.ownBlock = some k → v2.ownBlock ≠ some k
  lo : ab < base
theorem Mk.below {w w' : World} {ab base : Nat} {inv : Bool} {v1 v2 v3 : Value} {bs : List If} {ps : List Int} (h : Mk w ab base inv v1 v2 v3 bs ps) (hb : Below w.heap.size w w') : Mk w' ab base inv v1 v2 v3 bs ps :=
  ⟨h.blk.below hb h.blk.size, owns_keep h.own1 (fun k hk => hb.block k (owns_lt h.own1 k hk).2), owns_keep h.own2 (fun k hk => hb.block k (owns_lt h.own2 k hk).2), h.apart, h.lo⟩
/-- A cell of another block below base is written. -/
theorem Mk.other {w : World} {ab base : Nat} {inv : Bool} {v1 v2 v3 : Value} {bs : List If} {ps : List Int} (h : Mk w ab base inv v1 v2 v3 bs ps) {rb : Nat} (hr : rb < base) (hne : ab ≠ rb) (i : Nat) (u : Value) : Mk (w.setCell ⟨rb, i, none⟩ u) ab base inv v1 v2 v3 bs ps :=
  ⟨h.blk.other hne u, owns_keep h.own1 (fun k hk => Below.heap_setCell _ _ _ _ (by have := (owns_lt h.own1 k hk).1; simp; omega)), owns_keep h.own2 (fun k hk => Below.heap_setCell _ _ _ _ (by have := (owns_lt h.own2 k hk).1; simp; omega)), h.apart, h.lo⟩

theorem RB.belowB {w w' : World} {B : Nat} {A : Option Addr} {xs : List UInt8} (h : RB w A xs) (ha : ∀ z, A.map (·.block) = some z → z < B) (hb : Below B w w') : RB w' A xs := by
  intro hne
  obtain ⟨b, off, rfl, hc⟩ := h hne
  exact ⟨b, off, rfl, fun k hk => (World.cell?_of_block (hb.block b (ha b rfl))).trans (hc k hk)⟩
/-- The reader and the answer that is being made. -/
structure Sta (w : World) (B rdb ab base : Nat) (inv : Bool) (v1 v2 v3 : Value) (bs : List If) (ps : List Int) (A : Option Addr) (c : Nat) (r : List UInt8) : Prop where
  m : Mk w ab base inv v1 v2 v3 bs ps
  rd : Rdr w rdb A c r
  a : ∀ z, A.map (·.block) = some z → z < B
  b1 : B ≤ rdb
  b2 : B ≤ ab
  rlo : rdb < base
  ne : ab ≠ rdb
  cap : c ≤ c
theorem Sta.below {w w' : World} {B rdb ab base : Nat} {inv : Bool} {v1 v2 v3 : Value} {bs : List If} {ps : List Int} {A : Option Addr} {c : Nat} {r : List UInt8} (h : Sta w B rdb ab base inv v1 v2 v3 bs ps A c r) (hb : Below w.heap.size w w') : Sta w' B rdb ab base inv v1 v2 v3 bs ps A c r :=
  ⟨h.m.below hb, h.rd.below hb, h.a, h.b1, h.b2, h.rlo, h.ne, h.cap⟩
theorem Sta.base_le {w : World} {B rdb ab base : Nat} {inv : Bool} {v1 v2 v3 : Value} {bs : List If} {ps : List Int} {A : Option Addr} {c : Nat} {r : List UInt8} (h : Sta w B rdb ab base inv v1 v2 v3 bs ps A c r) : B ≤ base := by
  have := h.b1; have := h.rlo; omega
/-- One byte is read. -/
theorem Sta.number {w w' : World} {B rdb ab base : Nat} {inv : Bool} {v1 v2 v3 : Value} {bs : List If} {ps : List Int} {A A' : Option Addr} {c c' : Nat} {x : UInt8} {r : List UInt8} (h : Sta w B rdb ab base inv v1 v2 v3 bs ps A c (x :: r))
    (hc : c' ≤ c) (hr : Rdr w' rdb A' c' r) (hw : w' = w.setCell ⟨rdb, 0, none⟩ (.slice A' r.length c')) (hA : A'.map (·.block) = A.map (·.block)) : Sta w' B rdb ab base inv v1 v2 v3 bs ps A' c' r ∧ Below B w w' := by
  subst hw
  exact ⟨⟨h.m.other h.rlo h.ne 0 _, hr, fun z hz => h.a z (by rw [← hA]; exact hz), h.b1, h.b2, h.rlo, h.ne, Nat.le_refl _⟩, (Below.refl _ _).setCell (p := ⟨rdb, 0, none⟩) h.b1 _⟩
/-- A byte of a group is kept: behind the append, behind the store. -/
theorem Sta.app1 {w w2 : World} {B rdb ab base : Nat} {inv : Bool} {v1 v2 v3 v1' : Value} {bs : List If} {ps : List Int} {A : Option Addr} {c : Nat} {r : List UInt8} {x : If} (h : Sta w B rdb ab base inv v1 v2 v3 bs ps A c r) (hbz : base ≤ w.heap.size)
    (ho : w2.ownsRow base 47 4 v1' (bs.length + 1) (ifv bs ++ ifv [x])) (hb : Below base w w2) (hg : w.grownBy w2 v1.ownBlock) (hv : v1'.ownBlock = v1.ownBlock ∨ v1'.ownBlock = some w.heap.size) :
    w2.cell? ⟨ab, 1, none⟩ = some v1 ∧ w2.frozen? ⟨ab, 1, none⟩ = false ∧ Sta (w2.setCell ⟨ab, 1, none⟩ v1') B rdb ab base inv v1' v2 v3 (bs ++ [x]) ps A c r ∧ Below B w (w2.setCell ⟨ab, 1, none⟩ v1') := by
  have hm := h.m
  have hblk2 : Blk w2 ab 27 #[.bool inv, v1, v2, v3] := (hb.block ab hm.lo).trans hm.blk
  have hbB : Below B w w2 := hb.mono h.base_le
  have hbB2 : Below B w (w2.setCell ⟨ab, 1, none⟩ v1') := hbB.setCell (p := ⟨ab, 1, none⟩) h.b2 v1'
  refine ⟨hblk2.cell 1, hblk2.free 1, ⟨⟨hblk2.put 1 v1', ?_, ?_, ?_, hm.lo⟩, ⟨?_, h.rd.cap, h.rd.rb.belowB h.a hbB2, h.rd.far⟩, h.a, h.b1, h.b2, h.rlo, h.ne, h.cap⟩, hbB2⟩
  · rw [List.length_append, ifv_append]
    exact owns_keep ho (fun k hk => Below.heap_setCell _ _ _ _ (by have := (owns_lt ho k hk).1; have := hm.lo; simp; omega))
  · refine owns_keep hm.own2 (fun k hk => ?_)
    have hk2 := owns_lt hm.own2 k hk
    rw [Below.heap_setCell _ _ _ _ (by have := hm.lo; simp; omega)]
    exact hg.block k hk2.2 (fun e => hm.apart k e.symm hk)
  · intro k hk e
    have hk2 := owns_lt hm.own2 k e
    rcases hv with hv | hv
    · exact hm.apart k (by rw [← hv]; exact hk) e
    · rw [hk] at hv
      injection hv with hv
      omega
  · have h1 : Blk w2 rdb 52 #[.slice A r.length c] := (hb.block rdb h.rlo).trans h.rd.blk
    exact h1.other (fun e => h.ne e.symm) _

/-- The blocks below base, but the reader's and the answer's, stay. -/
def Kp (rdb ab base : Nat) (w w' : World) : Prop := ∀ k, k < base → k ≠ rdb → k ≠ ab → w'.heap[k]? = w.heap[k]?
theorem Kp.refl (rdb ab base : Nat) (w : World) : Kp rdb ab base w w := fun _ _ _ _ => rfl
theorem Kp.trans {rdb ab base : Nat} {a b c : World} (h : Kp rdb ab base a b) (h2 : Kp rdb ab base b c) : Kp rdb ab base a c := fun k h0 h1 h3 => (h2 k h0 h1 h3).trans (h k h0 h1 h3)
theorem Kp.below {rdb ab base : Nat} {a b : World} (h : Below base a b) : Kp rdb ab base a b := fun k h0 _ _ => h.block k h0
theorem Kp.setR {rdb ab base : Nat} {a b : World} (h : Kp rdb ab base a b) {i : Nat} {u : Value} {b' : World} (hb' : b' = b.setCell ⟨rdb, i, none⟩ u) : Kp rdb ab base a b' := fun k h0 h1 h3 => by
  subst hb'
  exact (Below.heap_setCell _ _ _ _ (by exact h1)).trans (h k h0 h1 h3)
theorem Kp.setA {rdb ab base : Nat} {a b : World} (h : Kp rdb ab base a b) (i : Nat) (u : Value) : Kp rdb ab base a (b.setCell ⟨ab, i, none⟩ u) := fun k h0 h1 h3 => (Below.heap_setCell _ _ _ _ (by exact h3)).trans (h k h0 h1 h3)

/-- What group hands back. -/
def GRes (g prot : Int) (t : Nat) (B rdb ab base : Nat) (inv : Bool) (v2 v3 : Value) (bs : List If) (ps : List Int) (r : List UInt8) (w : World) (e : Ending) (w' : World) : Prop :=
  Below B w w' ∧ Kp rdb ab base w w' ∧ base ≤ w'.heap.size ∧ ((rdG g prot t [0, 1, 2] bs r = none ∧ e = badP 5) ∨ ∃ bs' r', rdG g prot t [0, 1, 2] bs r = some (bs', r') ∧
    ((t < 128 ∧ e = .returned (.tuple #[.int .i64 0, .bool false]) ∧ ∃ v1' A' c', Sta w' B rdb ab base inv v1' v2 v3 bs' ps A' c' r') ∨
     (¬ t < 128 ∧ r' = [] ∧ e = badP 5) ∨
     (¬ t < 128 ∧ ∃ td r2 v1' A' c', r' = td :: r2 ∧ e = .returned (.tuple #[.int .i64 (td.toNat : Int), .bool true]) ∧ Sta w' B rdb ab base inv v1' v2 v3 bs' ps A' c' r2)))
theorem gb_0 : ∀ t : Fin 256, (bits BinOp.and IntKind.i64 (t.val : Int) 16 != 0) = bitB t.val 0 := by decide +kernel
theorem gb_1 : ∀ t : Fin 256, (bits BinOp.and IntKind.i64 (t.val : Int) 32 != 0) = bitB t.val 1 := by decide +kernel
theorem gb_2 : ∀ t : Fin 256, (bits BinOp.and IntKind.i64 (t.val : Int) 64 != 0) = bitB t.val 2 := by decide +kernel
theorem gb_3 : ∀ t : Fin 256, (bits BinOp.and IntKind.i64 (t.val : Int) 128 == 0) = decide (t.val < 128) := by decide +kernel

set_option maxRecDepth 100000 in
set_option maxHeartbeats 8000000 in
theorem group_go (rdb ab base B : Nat) (g prot : Int) (t : Nat) (ht : t < 256) (inv : Bool) (v1 v2 v3 : Value) (bs : List If) (ps : List Int) (A : Option Addr) (c : Nat) (r : List UInt8) (w : World)
    (hm : Sta w B rdb ab base inv v1 v2 v3 bs ps A c r) (hbs : bs.length ≤ 1000) (hrl : r.length ≤ 100) (hbw : base ≤ w.heap.size) :
    Calls Try.prog 48 #[.pointer (some ⟨rdb, 0, none⟩), .int .i64 g, .int .i64 (t : Int), .int .i64 prot, .pointer (some ⟨ab, 0, none⟩)] w (GRes g prot t B rdb ab base inv v2 v3 bs ps r w) := by
  have q0 := gb_0 ⟨t, ht⟩
  have q1 := gb_1 ⟨t, ht⟩
  have q2 := gb_2 ⟨t, ht⟩
  have q3 := gb_3 ⟨t, ht⟩
  simp only at q0 q1 q2 q3
  go_enter Try.func48, Try.ntmps48
  go_wp2
  go_loopw [13] (fun i wx => ∃ (k : Nat) (v1' : Value) (bs' : List If) (A' : Option Addr) (c' : Nat) (r' : List UInt8), k ≤ 3 ∧ i = .int .i64 k ∧ Sta wx B rdb ab base inv v1' v2 v3 bs' ps A' c' r' ∧ Hid (rdG g prot t (([0, 1, 2] : List Nat).drop k) bs' r' = rdG g prot t [0, 1, 2] bs r) ∧ Below B w wx ∧ Kp rdb ab base w wx ∧ base ≤ wx.heap.size ∧ bs'.length ≤ 1000 + k ∧ r'.length ≤ 100) (fun i _ => 10 - (intOf i).toNat)
  case atStart => exact ⟨0, v1, bs, A, c, r, by omega, rfl, hm, rfl, Below.refl _ _, Kp.refl _ _ _ _, hbw, by omega, hrl⟩
  case round =>
    obtain ⟨k, u1, bs', A', c', r', hk3, rfl, hst, HR, hbr, hkp, hbz, hbl, hrl'⟩ := hrel
    clear hm
    rcases (show k = 0 ∨ k = 1 ∨ k = 2 ∨ k = 3 from by omega) with rfl | rfl | rfl | rfl
    · rcases hbt : bitB t 0 with _ | _
      · have HR2 : Hid (rdG g prot t (([0, 1, 2] : List Nat).drop 1) bs' r' = rdG g prot t [0, 1, 2] bs r) := by
          show _ = _
          rw [← HR.out]
          show _ = rdG g prot t (0 :: [1, 2]) bs' r'
          unfold rdG
          rw [hbt]
          simp [rdG]
        rw [hbt] at q0
        clear hbt
        go_wp2
        go_roundw
        case rel => exact ⟨1, u1, bs', A', c', r', by omega, by go_num, hst, HR2, hbr, hkp, hbz, by omega, hrl'⟩
        case measure => simp [intOf]
      · have x0 : wr.cell? ⟨ab, 1, none⟩ = some u1 := hst.m.blk.cell 1
        have hN := below_drewN (Below.refl wr.heap.size wr) 1
        have h1 := hst.below hN
        rcases r' with _ | ⟨x, r2⟩
        · have HZ : Hid (GRes g prot t B rdb ab base inv v2 v3 bs ps r w (badP 5) (wr.drewN 1)) := by
            refine ⟨below_drewN hbr 1, hkp.trans (Kp.below (below_drewN (Below.refl base wr) 1)), hbz, Or.inl ⟨?_, rfl⟩⟩
            rw [← HR.out]
            show rdG g prot t (0 :: [1, 2]) bs' [] = none
            unfold rdG
            rw [hbt]
            simp
          rw [hbt] at q0
          clear hbt HR
          go_upto_region 5 with fail
          go_region_dies
          all_goals
            go_at_call 47
            refine (number_bad h1.rd).mono ?_
            rintro e w2 ⟨rfl, rfl⟩
            dsimp (config := {zetaDelta := true}) only [Exit.then, Exit.inBlock, bodyPost, badP]
            exact ⟨rfl, HZ.out⟩
        · have HR2 : Hid (rdG g prot t (([0, 1, 2] : List Nat).drop 1) (bs' ++ [⟨g, 0, (x.toNat : Int), prot⟩]) r2 = rdG g prot t [0, 1, 2] bs r) := by
            show _ = _
            rw [← HR.out]
            show _ = rdG g prot t (0 :: [1, 2]) bs' (x :: r2)
            conv => rhs; unfold rdG
            rw [hbt]
            simp
          have hrl2 : r2.length ≤ 99 := by simp at hrl'; omega
          rw [hbt] at q0
          clear hbt HR hrl'
          have hT := ifT
          have hlq : bs'.length + 1 ≤ 68719476736 := by omega
          go_upto_region 5 with fail
          go_region_law (first
            | (have h3z := h3; clear h3z; refine step_append_own5 rfl hT (.tmp 25) (.tmp 32) rfl rfl rfl h3.m.own1 hra rfl (ifv_one _) hlq hbz3 ?_; intro v4 w4 ho4 hb4 hg4 hv4; obtain ⟨e1, e2, e3, e4⟩ := h3.app1 hbz3 ho4 hb4 hg4 hv4; obtain ⟨A4, c4, rfl, _, _⟩ := owns_reads ho4)
            | (go_simp; go_at_call 47; refine (number_ok h1.rd (by omega) h1.cap).mono ?_; rintro e w2 ⟨rfl, A2, c2, hc2, hr2, hw2, hA2⟩; obtain ⟨h2, hb2⟩ := h1.number hc2 hr2 hw2 hA2; have x1 : w2.cell? ⟨ab, 1, none⟩ = some u1 := h2.m.blk.cell 1; have hbz2 : base ≤ w2.heap.size := Nat.le_trans (show base ≤ (wr.drewN 1).heap.size from hbz) (by rw [hw2]; simp); have hk2 := (hkp.trans (Kp.below (below_drewN (Below.refl base wr) 1))).setR hw2; clear hw2 hr2 hA2; have hba := (Below.refl w2.heap.size w2).alloc (Nat.le_refl _) (.cells #[.int .i64 g, .int .i64 0, .int .i64 (x.toNat : Int), .int .i64 prot] 47); have h3 := h2.below hba; have x2 : (w2.alloc (.cells #[.int .i64 g, .int .i64 0, .int .i64 (x.toNat : Int), .int .i64 prot] 47)).cell? ⟨ab, 1, none⟩ = some u1 := h3.m.blk.cell 1; have hk3 : Kp rdb ab base w (w2.alloc (.cells #[.int .i64 g, .int .i64 0, .int .i64 (x.toNat : Int), .int .i64 prot] 47)) := hk2.trans (Kp.below (hba.mono hbz2)); have hbz3 := Nat.le_trans hbz2 hba.size; have hb3 := ((hbr.trans (below_drewN (Below.refl B wr) 1)).trans hb2).trans (hba.mono (Nat.le_trans h2.base_le hbz2)); have hra : RC (w2.alloc (.cells #[.int .i64 g, .int .i64 0, .int .i64 (x.toNat : Int), .int .i64 prot] 47)) (some ⟨w2.heap.size, 0, none⟩) (ifv [⟨g, 0, (x.toNat : Int), prot⟩]) := RC.made w2 _ _ _ rfl))
          all_goals
            go_wp2
            go_roundw
            case rel => exact ⟨1, _, _, A2, c2, r2, by omega, by go_num, e3, HR2, hb3.trans e4, (hk3.trans (Kp.below hb4)).setA _ _, Nat.le_trans hbz3 (by have z := hb4.size; simp at z ⊢; exact z), by simp; omega, by omega⟩
            case measure => simp [intOf]
    · rcases hbt : bitB t 1 with _ | _
      · have HR2 : Hid (rdG g prot t (([0, 1, 2] : List Nat).drop 2) bs' r' = rdG g prot t [0, 1, 2] bs r) := by
          show _ = _
          rw [← HR.out]
          show _ = rdG g prot t (1 :: [2]) bs' r'
          unfold rdG
          rw [hbt]
          simp [rdG]
        rw [hbt] at q1
        clear hbt
        go_wp2
        go_roundw
        case rel => exact ⟨2, u1, bs', A', c', r', by omega, by go_num, hst, HR2, hbr, hkp, hbz, by omega, hrl'⟩
        case measure => simp [intOf]
      · have x0 : wr.cell? ⟨ab, 1, none⟩ = some u1 := hst.m.blk.cell 1
        have hN := below_drewN (Below.refl wr.heap.size wr) 1
        have h1 := hst.below hN
        rcases r' with _ | ⟨x, r2⟩
        · have HZ : Hid (GRes g prot t B rdb ab base inv v2 v3 bs ps r w (badP 5) (wr.drewN 1)) := by
            refine ⟨below_drewN hbr 1, hkp.trans (Kp.below (below_drewN (Below.refl base wr) 1)), hbz, Or.inl ⟨?_, rfl⟩⟩
            rw [← HR.out]
            show rdG g prot t (1 :: [2]) bs' [] = none
            unfold rdG
            rw [hbt]
            simp
          rw [hbt] at q1
          clear hbt HR
          go_upto_region 5 with fail
          go_region_dies
          all_goals
            go_at_call 47
            refine (number_bad h1.rd).mono ?_
            rintro e w2 ⟨rfl, rfl⟩
            dsimp (config := {zetaDelta := true}) only [Exit.then, Exit.inBlock, bodyPost, badP]
            exact ⟨rfl, HZ.out⟩
        · have HR2 : Hid (rdG g prot t (([0, 1, 2] : List Nat).drop 2) (bs' ++ [⟨g, 1, (x.toNat : Int), prot⟩]) r2 = rdG g prot t [0, 1, 2] bs r) := by
            show _ = _
            rw [← HR.out]
            show _ = rdG g prot t (1 :: [2]) bs' (x :: r2)
            conv => rhs; unfold rdG
            rw [hbt]
            simp
          have hrl2 : r2.length ≤ 99 := by simp at hrl'; omega
          rw [hbt] at q1
          clear hbt HR hrl'
          have hT := ifT
          have hlq : bs'.length + 1 ≤ 68719476736 := by omega
          go_upto_region 5 with fail
          go_region_law (first
            | (have h3z := h3; clear h3z; refine step_append_own5 rfl hT (.tmp 25) (.tmp 32) rfl rfl rfl h3.m.own1 hra rfl (ifv_one _) hlq hbz3 ?_; intro v4 w4 ho4 hb4 hg4 hv4; obtain ⟨e1, e2, e3, e4⟩ := h3.app1 hbz3 ho4 hb4 hg4 hv4; obtain ⟨A4, c4, rfl, _, _⟩ := owns_reads ho4)
            | (go_simp; go_at_call 47; refine (number_ok h1.rd (by omega) h1.cap).mono ?_; rintro e w2 ⟨rfl, A2, c2, hc2, hr2, hw2, hA2⟩; obtain ⟨h2, hb2⟩ := h1.number hc2 hr2 hw2 hA2; have x1 : w2.cell? ⟨ab, 1, none⟩ = some u1 := h2.m.blk.cell 1; have hbz2 : base ≤ w2.heap.size := Nat.le_trans (show base ≤ (wr.drewN 1).heap.size from hbz) (by rw [hw2]; simp); have hk2 := (hkp.trans (Kp.below (below_drewN (Below.refl base wr) 1))).setR hw2; clear hw2 hr2 hA2; have hba := (Below.refl w2.heap.size w2).alloc (Nat.le_refl _) (.cells #[.int .i64 g, .int .i64 1, .int .i64 (x.toNat : Int), .int .i64 prot] 47); have h3 := h2.below hba; have x2 : (w2.alloc (.cells #[.int .i64 g, .int .i64 1, .int .i64 (x.toNat : Int), .int .i64 prot] 47)).cell? ⟨ab, 1, none⟩ = some u1 := h3.m.blk.cell 1; have hk3 : Kp rdb ab base w (w2.alloc (.cells #[.int .i64 g, .int .i64 1, .int .i64 (x.toNat : Int), .int .i64 prot] 47)) := hk2.trans (Kp.below (hba.mono hbz2)); have hbz3 := Nat.le_trans hbz2 hba.size; have hb3 := ((hbr.trans (below_drewN (Below.refl B wr) 1)).trans hb2).trans (hba.mono (Nat.le_trans h2.base_le hbz2)); have hra : RC (w2.alloc (.cells #[.int .i64 g, .int .i64 1, .int .i64 (x.toNat : Int), .int .i64 prot] 47)) (some ⟨w2.heap.size, 0, none⟩) (ifv [⟨g, 1, (x.toNat : Int), prot⟩]) := RC.made w2 _ _ _ rfl))
          all_goals
            go_wp2
            go_roundw
            case rel => exact ⟨2, _, _, A2, c2, r2, by omega, by go_num, e3, HR2, hb3.trans e4, (hk3.trans (Kp.below hb4)).setA _ _, Nat.le_trans hbz3 (by have z := hb4.size; simp at z ⊢; exact z), by simp; omega, by omega⟩
            case measure => simp [intOf]
    · rcases hbt : bitB t 2 with _ | _
      · have HR2 : Hid (rdG g prot t (([0, 1, 2] : List Nat).drop 3) bs' r' = rdG g prot t [0, 1, 2] bs r) := by
          show _ = _
          rw [← HR.out]
          show _ = rdG g prot t (2 :: []) bs' r'
          unfold rdG
          rw [hbt]
          simp [rdG]
        rw [hbt] at q2
        clear hbt
        go_wp2
        go_roundw
        case rel => exact ⟨3, u1, bs', A', c', r', by omega, by go_num, hst, HR2, hbr, hkp, hbz, by omega, hrl'⟩
        case measure => simp [intOf]
      · have x0 : wr.cell? ⟨ab, 1, none⟩ = some u1 := hst.m.blk.cell 1
        have hN := below_drewN (Below.refl wr.heap.size wr) 1
        have h1 := hst.below hN
        rcases r' with _ | ⟨x, r2⟩
        · have HZ : Hid (GRes g prot t B rdb ab base inv v2 v3 bs ps r w (badP 5) (wr.drewN 1)) := by
            refine ⟨below_drewN hbr 1, hkp.trans (Kp.below (below_drewN (Below.refl base wr) 1)), hbz, Or.inl ⟨?_, rfl⟩⟩
            rw [← HR.out]
            show rdG g prot t (2 :: []) bs' [] = none
            unfold rdG
            rw [hbt]
            simp
          rw [hbt] at q2
          clear hbt HR
          go_upto_region 5 with fail
          go_region_dies
          all_goals
            go_at_call 47
            refine (number_bad h1.rd).mono ?_
            rintro e w2 ⟨rfl, rfl⟩
            dsimp (config := {zetaDelta := true}) only [Exit.then, Exit.inBlock, bodyPost, badP]
            exact ⟨rfl, HZ.out⟩
        · have HR2 : Hid (rdG g prot t (([0, 1, 2] : List Nat).drop 3) (bs' ++ [⟨g, 2, (x.toNat : Int), prot⟩]) r2 = rdG g prot t [0, 1, 2] bs r) := by
            show _ = _
            rw [← HR.out]
            show _ = rdG g prot t (2 :: []) bs' (x :: r2)
            conv => rhs; unfold rdG
            rw [hbt]
            simp
          have hrl2 : r2.length ≤ 99 := by simp at hrl'; omega
          rw [hbt] at q2
          clear hbt HR hrl'
          have hT := ifT
          have hlq : bs'.length + 1 ≤ 68719476736 := by omega
          go_upto_region 5 with fail
          go_region_law (first
            | (have h3z := h3; clear h3z; refine step_append_own5 rfl hT (.tmp 25) (.tmp 32) rfl rfl rfl h3.m.own1 hra rfl (ifv_one _) hlq hbz3 ?_; intro v4 w4 ho4 hb4 hg4 hv4; obtain ⟨e1, e2, e3, e4⟩ := h3.app1 hbz3 ho4 hb4 hg4 hv4; obtain ⟨A4, c4, rfl, _, _⟩ := owns_reads ho4)
            | (go_simp; go_at_call 47; refine (number_ok h1.rd (by omega) h1.cap).mono ?_; rintro e w2 ⟨rfl, A2, c2, hc2, hr2, hw2, hA2⟩; obtain ⟨h2, hb2⟩ := h1.number hc2 hr2 hw2 hA2; have x1 : w2.cell? ⟨ab, 1, none⟩ = some u1 := h2.m.blk.cell 1; have hbz2 : base ≤ w2.heap.size := Nat.le_trans (show base ≤ (wr.drewN 1).heap.size from hbz) (by rw [hw2]; simp); have hk2 := (hkp.trans (Kp.below (below_drewN (Below.refl base wr) 1))).setR hw2; clear hw2 hr2 hA2; have hba := (Below.refl w2.heap.size w2).alloc (Nat.le_refl _) (.cells #[.int .i64 g, .int .i64 2, .int .i64 (x.toNat : Int), .int .i64 prot] 47); have h3 := h2.below hba; have x2 : (w2.alloc (.cells #[.int .i64 g, .int .i64 2, .int .i64 (x.toNat : Int), .int .i64 prot] 47)).cell? ⟨ab, 1, none⟩ = some u1 := h3.m.blk.cell 1; have hk3 : Kp rdb ab base w (w2.alloc (.cells #[.int .i64 g, .int .i64 2, .int .i64 (x.toNat : Int), .int .i64 prot] 47)) := hk2.trans (Kp.below (hba.mono hbz2)); have hbz3 := Nat.le_trans hbz2 hba.size; have hb3 := ((hbr.trans (below_drewN (Below.refl B wr) 1)).trans hb2).trans (hba.mono (Nat.le_trans h2.base_le hbz2)); have hra : RC (w2.alloc (.cells #[.int .i64 g, .int .i64 2, .int .i64 (x.toNat : Int), .int .i64 prot] 47)) (some ⟨w2.heap.size, 0, none⟩) (ifv [⟨g, 2, (x.toNat : Int), prot⟩]) := RC.made w2 _ _ _ rfl))
          all_goals
            go_wp2
            go_roundw
            case rel => exact ⟨3, _, _, A2, c2, r2, by omega, by go_num, e3, HR2, hb3.trans e4, (hk3.trans (Kp.below hb4)).setA _ _, Nat.le_trans hbz3 (by have z := hb4.size; simp at z ⊢; exact z), by simp; omega, by omega⟩
            case measure => simp [intOf]
    · have hd : rdG g prot t (([0, 1, 2] : List Nat).drop 3) bs' r' = some (bs', r') := rfl
      have HD : Hid (rdG g prot t [0, 1, 2] bs r = some (bs', r')) := HR.out.symm.trans hd
      clear HR hd
      by_cases h8 : t < 128
      · rw [decide_eq_true h8] at q3
        go_wp2
        refine bodyPost_ret (results_tmp2 rfl _ _ _) rfl ?_
        exact ⟨hbr, hkp, hbz, Or.inr ⟨bs', r', HD.out, Or.inl ⟨h8, rfl, u1, A', c', hst⟩⟩⟩
      · rw [decide_eq_false h8] at q3
        rcases r' with _ | ⟨x, r2⟩
        · go_wp2_with fail
          refine (number_bad hst.rd).mono ?_
          rintro e w2 ⟨rfl, rfl⟩
          refine ⟨rfl, ?_⟩
          exact ⟨hbr, hkp, hbz, Or.inr ⟨bs', [], HD.out, Or.inr (Or.inl ⟨h8, rfl, rfl⟩)⟩⟩
        · have hrl2 : r2.length ≤ 99 := by simp at hrl'; omega
          go_wp2_with fail
          refine (number_ok hst.rd (by omega) hst.cap).mono ?_
          rintro e w2 ⟨rfl, A2, c2, hc2, hr2, hw2, hA2⟩
          obtain ⟨h2, hb2⟩ := hst.number hc2 hr2 hw2 hA2
          have hbz2 : base ≤ w2.heap.size := by rw [hw2]; simp; exact hbz
          have hk2 := hkp.setR hw2
          clear hw2
          go_wp2
          refine bodyPost_ret (results_tmp2 rfl _ _ _) rfl ?_
          exact ⟨hbr.trans hb2, hk2, hbz2, Or.inr ⟨bs', x :: r2, HD.out, Or.inr (Or.inr ⟨h8, x, r2, u1, A2, c2, rfl, rfl, h2⟩)⟩⟩
end Go.Proofs.Ytkhobpghiachoaa
