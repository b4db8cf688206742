/-
  Words for memory: a slice of bytes that is read as a list, whether nil, empty or not; and small steps of the walk.
-/
import Derived.Test.YtkhobpghiachoaaRows
import Derived.WalkKit
import Derived.Lib.Hide
import Derived.Outline
import Derived.Laws.BytesArg
import Derived.Deep.Draws
namespace Go.Proofs.Ytkhobpghiachoaa
open Go.RowKit

theorem ret_int {k : IntKind} {a b : Int} (h : a = b) : Ending.returned (.int k a) = .returned (.int k b) := by rw [h]
theorem ret_bool {a b : Bool} (h : a = b) : Ending.returned (.bool a) = .returned (.bool b) := by rw [h]

/-- Bytes as cells. -/
def bv (xs : List UInt8) : List Value := xs.map fun b => Value.int .u8 (b.toNat : Int)
theorem bv_length (xs : List UInt8) : (bv xs).length = xs.length := by simp [bv]
theorem bv_append (xs ys : List UInt8) : bv (xs ++ ys) = bv xs ++ bv ys := by simp [bv]
theorem bv_one (xs : List UInt8) : ∀ u ∈ bv xs, u.oneCell' = true := by
  intro u hu
  simp only [bv, List.mem_map] at hu
  obtain ⟨b, _, rfl⟩ := hu
  rfl

/-- At the address A the bytes xs can be read, one after the other; of an empty string nothing is asked. -/
def RB (w : World) (A : Option Addr) (xs : List UInt8) : Prop :=
  xs ≠ [] → ∃ b off, A = some ⟨b, off, none⟩ ∧ ∀ j, (h : j < xs.length) → w.cell? ⟨b, off + j, none⟩ = some (.int .u8 (xs[j].toNat : Int))

theorem cell?_lt {w : World} {p : Addr} {v : Value} (h : w.cell? p = some v) : p.block < w.heap.size := by
  rcases Nat.lt_or_ge p.block w.heap.size with hl | hl
  · exact hl
  · simp [World.cell?, Array.getElem?_eq_none hl] at h

theorem RB.nil (w : World) (A : Option Addr) : RB w A [] := fun h => absurd rfl h
theorem RB.keep {w w' : World} {A : Option Addr} {xs : List UInt8} (h : RB w A xs) (hk : ∀ p : Addr, p.block < w.heap.size → w'.cell? p = w.cell? p) : RB w' A xs := by
  intro hne
  obtain ⟨b, off, hA, hc⟩ := h hne
  exact ⟨b, off, hA, fun j hj => (hk _ (cell?_lt (hc j hj))).trans (hc j hj)⟩
theorem RB.below {w w' : World} {A : Option Addr} {xs : List UInt8} (h : RB w A xs) (hb : Below w.heap.size w w') : RB w' A xs := h.keep fun _ hp => hb.cell hp
theorem RB.at_ {w : World} {A : Option Addr} {xs : List UInt8} (h : RB w A xs) (hl : 0 < xs.length) :
    ∃ b off, A = some ⟨b, off, none⟩ ∧ ∀ j, (h : j < xs.length) → w.cell? ⟨b, off + j, none⟩ = some (.int .u8 (xs[j].toNat : Int)) :=
  h (fun e => by subst e; simp at hl)

theorem RB.drewN {w : World} {A : Option Addr} {xs : List UInt8} (h : RB w A xs) (n : Nat) : RB (w.drewN n) A xs := h
theorem below_drewN {B : Nat} {a w : World} (h : Below B a w) (n : Nat) : Below B a (w.drewN n) := ⟨h.os, h.tape, h.output, h.size, h.block⟩

/-- Bytes as a string. -/
def strOf (xs : List UInt8) : ByteArray := ⟨xs.toArray⟩
theorem strOf_list (xs : List UInt8) : (strOf xs).toList = xs := by
  rw [ByteArray.toList_eq]; simp [strOf]
theorem strOf_inj {xs ys : List UInt8} (h : strOf xs = strOf ys) : xs = ys := by
  have := congrArg (fun s : ByteArray => s.data.toList) h
  simpa [strOf] using this
theorem map_back (xs : List UInt8) : (xs.map fun b => (b.toNat : Int)).map (fun n => UInt8.ofNat n.toNat) = xs := by
  rw [List.map_map]
  conv => rhs; rw [← List.map_id xs]
  apply List.map_congr_left
  intro b _
  simp
theorem RB.convert {P : Program} {w : World} {A : Option Addr} {xs : List UInt8} (h : RB w A xs) (src dst e : TypeId) (c : Nat)
    (hs : P.underlying src = some (.slice e)) (he : P.underlying e = some (.int .u8)) (hd : P.underlying dst = some .string) :
    (convert src dst (.slice A xs.length c)).run P w = .ok (.string (strOf xs)) w := by
  cases A with
  | none =>
    have : xs = [] := by
      rcases xs with _ | ⟨x, xs⟩
      · rfl
      · obtain ⟨_, _, hA, _⟩ := h (by simp)
        cases hA
    subst this
    exact run_convert_bytes_nil w src e hs he _ _ dst hd
  | some ad =>
    have hl : (loadCells ad xs.length).run P w = .ok ((xs.map fun b => (b.toNat : Int)).map (Value.int .u8)).toArray w := by
      rcases Nat.eq_zero_or_pos xs.length with h0 | h0
      · obtain rfl := List.eq_nil_of_length_eq_zero h0
        have := run_loadCells_list (P := P) w ad [] (fun j v hj => by simp at hj)
        simpa using this
      · obtain ⟨b, off, hA, hc⟩ := h.at_ h0
        injection hA with hA
        subst hA
        have := run_loadCells_list (P := P) w ⟨b, off, none⟩ ((xs.map fun b => (b.toNat : Int)).map (Value.int .u8)) (fun j v hj => by
          have hjl : j < xs.length := by
            rcases Nat.lt_or_ge j xs.length with h | h
            · exact h
            · rw [List.getElem?_eq_none (by simpa using h)] at hj; cases hj
          have hplain : (⟨b, off, none⟩ : Addr).add j = ⟨b, off + j, none⟩ := by unfold Addr.add; split <;> simp_all
          rw [hplain, hc j hjl]
          simpa [hjl] using hj)
        simpa using this
    rw [run_convert_bytes_string w src dst e _ _ c hs he hd, run_bytesToString w _ _ c _ hl, foldl_push_bytes, map_back]
    simp [strOf, ByteArray.empty, ByteArray.emptyWithCapacity]
    rfl

/-- The bytes in a new block. -/
theorem RB.made (w : World) (t : TypeId) (cs : Array Value) (xs : List UInt8) (hcs : cs = (bv xs).toArray) : RB (w.alloc (.cells cs t)) (some ⟨w.heap.size, 0, none⟩) xs := by
  intro _
  refine ⟨_, _, rfl, fun j hj => ?_⟩
  rw [World.cell?_alloc_at _ _ _ _ rfl, hcs, Nat.zero_add]
  simp [bv, hj]

theorem RB.take {w : World} {A : Option Addr} {xs : List UInt8} (h : RB w A xs) (n : Nat) : RB w A (xs.take n) := by
  intro hne
  have hx : xs ≠ [] := fun e => hne (by rw [e]; simp)
  obtain ⟨b, off, hA, hc⟩ := h hx
  refine ⟨b, off, hA, fun j hj => ?_⟩
  have hj2 : j < xs.length := by rw [List.length_take] at hj; omega
  rw [hc j hj2, List.getElem_take]
theorem RB.drop {w : World} {A : Option Addr} {xs : List UInt8} (h : RB w A xs) (n c : Nat) (hc : xs.length ≤ c) :
    RB w (if c = n then A else A.map (·.add n)) (xs.drop n) := by
  intro hne
  have hl : n < xs.length := by
    rcases Nat.lt_or_ge n xs.length with h | h
    · exact h
    · exact absurd (List.drop_eq_nil_of_le h) hne
  obtain ⟨b, off, hA, hcell⟩ := h.at_ (by omega)
  rw [if_neg (by omega), hA]
  refine ⟨b, off + n, ?_, fun j hj => ?_⟩
  · simp only [Option.map_some]
    unfold Addr.add
    split <;> simp_all
  · have hj2 : n + j < xs.length := by rw [List.length_drop] at hj; omega
    rw [Nat.add_assoc, hcell _ hj2, List.getElem_drop]

/-- What a function hands back: a slice that reads as the bytes xs, and an error; nothing that was there has changed. -/
def GivesE (w w' : World) (e : Ending) (xs : List UInt8) (err : Int) : Prop :=
  ∃ A c, e = .returned (.tuple #[.slice A xs.length c, .int .i64 err]) ∧ xs.length ≤ c ∧ RB w' A xs ∧ Below w.heap.size w w'
theorem ret_slice {A : Option Addr} {n m c : Nat} {e : Int} (h : n = m) : Ending.returned (.tuple #[.slice A n c, .int .i64 e]) = .returned (.tuple #[.slice A m c, .int .i64 e]) := by rw [h]
theorem gives_cells {w w1 : World} {xs : List UInt8} {cs : Array Value} {t : TypeId} {n : Nat} {err : Int} (hb : Below w.heap.size w w1) (hcs : cs = (bv xs).toArray) (hn : n = xs.length) :
    GivesE w (w1.alloc (.cells cs t)) (.returned (.tuple #[.slice (some ⟨w1.heap.size, 0, none⟩) n n, .int .i64 err])) xs err := by
  subst hn
  exact ⟨_, _, rfl, Nat.le_refl _, RB.made _ _ _ _ hcs, hb.alloc hb.size _⟩
theorem gives_none {w w1 : World} {xs : List UInt8} {err : Int} (hb : Below w.heap.size w w1) (hx : xs = []) {k : Int} (hk : err = k) :
    GivesE w w1 (.returned (.tuple #[.slice none 0 0, .int .i64 k])) xs err := by
  subst hx hk
  exact ⟨none, 0, rfl, Nat.le_refl _, RB.nil _ _, hb⟩

/-- Block g is known whole. -/
def Blk (w : World) (g : Nat) (t : TypeId) (cs : Array Value) : Prop := w.heap[g]? = some (.cells cs t (0, 0))
section
variable {w w' : World} {g : Nat} {t : TypeId} {cs : Array Value}
theorem Blk.out (h : Blk w g t cs) : w.heap[g]? = some (.cells cs t (0, 0)) := h
theorem Blk.size (h : Blk w g t cs) : g < w.heap.size := by
  rcases Nat.lt_or_ge g w.heap.size with hl | hl
  · exact hl
  · exact absurd h.out (by simp [Array.getElem?_eq_none hl])
theorem Blk.cell (h : Blk w g t cs) (i : Nat) : w.cell? ⟨g, i, none⟩ = cs[i]? := cell_of_row w g i cs t (0, 0) h
theorem Blk.free (h : Blk w g t cs) (i : Nat) : w.frozen? ⟨g, i, none⟩ = false := frozen_of_row w g i cs t h
theorem Blk.made (w : World) (t : TypeId) (cs : Array Value) : Blk (w.alloc (.cells cs t)) w.heap.size t cs := heap_alloc_new w _
theorem Blk.alloc (h : Blk w g t cs) (o : Obj) : Blk (w.alloc o) g t cs := (Below.heap_alloc w o g h.size).trans h
theorem Blk.put (h : Blk w g t cs) (i : Nat) (u : Value) : Blk (w.setCell ⟨g, i, none⟩ u) g t (cs.setIfInBounds i u) := heap_setCell_same w g i cs t u h
theorem Blk.other (h : Blk w g t cs) {p : Addr} (hp : g ≠ p.block) (u : Value) : Blk (w.setCell p u) g t cs := (heap_setCell_other w p g u hp).trans h
theorem Blk.below {B : Nat} (h : Blk w g t cs) (hb : Below B w w') (hg : g < B) : Blk w' g t cs := (hb.block g hg).trans h
theorem Blk.row (h : Blk w g t cs) (cs' : Array Value) : Blk (w.setRow g cs') g t cs' := setRow_heap w g cs cs' t _ h
end
theorem below_setRow {B g : Nat} {a w : World} (h : Below B a w) (hg : B ≤ g) (cs : Array Value) : Below B a (w.setRow g cs) :=
  h.trans ⟨rfl, rfl, rfl, by simp, fun k hk => setRow_other w g k cs (by omega)⟩
end Go.Proofs.Ytkhobpghiachoaa
