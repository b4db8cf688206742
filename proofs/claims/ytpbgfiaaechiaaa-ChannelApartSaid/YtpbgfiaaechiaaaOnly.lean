/-
  What a call may have changed: one block, another one, and new ones.
-/
import Derived.Test.YtpbgfiaaechiaaaGen
namespace Go.Proofs.Ytpbgfiaaechiaaa
open Go.RowKit
set_option linter.unusedVariables false

/-- Only block g, the block ob and new blocks may have changed. -/
structure Only (g : Nat) (ob : Option Nat) (w w' : World) : Prop where
  os : w'.os = w.os
  tape : w'.tape = w.tape
  output : w'.output = w.output
  size : w.heap.size ≤ w'.heap.size
  block : ∀ k, k < w.heap.size → k ≠ g → some k ≠ ob → w'.heap[k]? = w.heap[k]?
theorem Only.of_below {g : Nat} {ob : Option Nat} {w w' : World} (h : Below w.heap.size w w') : Only g ob w w' := ⟨h.os, h.tape, h.output, h.size, fun k hk _ _ => h.block k hk⟩
theorem Only.refl (g : Nat) (ob : Option Nat) (w : World) : Only g ob w w := ⟨rfl, rfl, rfl, Nat.le_refl _, fun _ _ _ _ => rfl⟩
theorem Only.trans {g : Nat} {ob : Option Nat} {a b c : World} (h : Only g ob a b) (k : Only g ob b c) : Only g ob a c :=
  ⟨k.os.trans h.os, k.tape.trans h.tape, k.output.trans h.output, Nat.le_trans h.size k.size, fun i hi h1 h2 => (k.block i (Nat.lt_of_lt_of_le hi h.size) h1 h2).trans (h.block i hi h1 h2)⟩
theorem Only.alloc {g : Nat} {ob : Option Nat} {a w : World} (h : Only g ob a w) (o : Obj) : Only g ob a (w.alloc o) :=
  h.trans (Only.of_below ((Below.refl _ _).alloc (Nat.le_refl _) o))
theorem Only.drewN {g : Nat} {ob : Option Nat} {a w : World} (h : Only g ob a w) (n : Nat) : Only g ob a (w.drewN n) := ⟨h.os, h.tape, h.output, h.size, h.block⟩
theorem Only.put {g : Nat} {ob : Option Nat} {a w : World} (h : Only g ob a w) (i : Nat) (u : Value) : Only g ob a (w.setCell ⟨g, i, none⟩ u) :=
  h.trans ⟨rfl, rfl, rfl, by simp [World.setCell], fun k _ hk _ => Below.heap_setCell _ _ _ _ hk⟩
theorem Only.grown {g : Nat} {ob : Option Nat} {a w w' : World} (h : Only g ob a w) (hg : w.grownBy w' ob) : Only g ob a w' :=
  h.trans ⟨hg.os, hg.tape, hg.output, hg.size, fun k hk _ h2 => hg.block k hk h2⟩
theorem Only.below {g base : Nat} {ob : Option Nat} {w w' : World} (h : Only g ob w w') (hg : base ≤ g) (ho : ∀ k, ob = some k → base ≤ k) (hb : base ≤ w.heap.size) : Below base w w' :=
  ⟨h.os, h.tape, h.output, h.size, fun k hk => h.block k (by omega) (by omega) (fun e => by have := ho k e.symm; omega)⟩
theorem Only.rc {g : Nat} {ob : Option Nat} {w w' : World} {A : Option Addr} {cs : List Value} (h : Only g ob w w') (hr : RC w A cs) (h1 : cs ≠ [] → A.map (·.block) ≠ some g) (h2 : cs ≠ [] → A.map (·.block) ≠ ob) : RC w' A cs := by
  intro hne
  obtain ⟨b, off, rfl, hc⟩ := hr hne
  refine ⟨b, off, rfl, fun j hj => ?_⟩
  exact (World.cell?_of_block (h.block b (cell?_lt (hc j hj)) (fun e => h1 hne (by rw [e]; rfl)) (h2 hne))).trans (hc j hj)

theorem Only.far {g : Nat} {ob : Option Nat} {a w : World} (h : Only g ob a w) {p : Addr} (hp : a.heap.size ≤ p.block) (u : Value) : Only g ob a (w.setCell p u) :=
  ⟨h.os, h.tape, h.output, by simpa using h.size, fun k hk h1 h2 => (Below.heap_setCell _ _ _ _ (by omega)).trans (h.block k hk h1 h2)⟩

/-- Bytes that can be read do not lie in a block that holds none. -/
theorem RB.only1 {w w' : World} {g : Nat} {A : Option Addr} {xs : List UInt8} (hr : RB w A xs) (h : ∀ j b, w.cell? ⟨g, j, none⟩ ≠ some (.int .u8 b)) (ho : Only g none w w') : RB w' A xs := by
  by_cases hx : xs = []
  · subst hx; exact RB.nil _ _
  · refine rb_iff.2 (ho.rc (rb_iff.1 hr) (fun _ => ?_) (fun _ => ?_))
    · obtain ⟨b, off, rfl, hc⟩ := hr hx
      intro e
      have e' : b = g := by simpa using e
      subst e'
      have hl : 0 < xs.length := by
        rcases xs with _ | ⟨x, xs⟩
        · exact absurd rfl hx
        · simp
      exact h _ _ (hc 0 hl)
    · obtain ⟨b, off, rfl, _⟩ := hr hx
      simp
end Go.Proofs.Ytpbgfiaaechiaaa
