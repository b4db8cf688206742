/-
  The line and the reference's state side by side, and what each call does to both.
-/
import Derived.Test.YtlkbbalidlhgmaaCar45
import Derived.Test.YtlkbbalidlhgmaaWorks
namespace Go.Proofs.Ytlkbbalidlhgmaa
open Go.RowKit
set_option linter.unusedVariables false

theorem rcarry_any (A : Option Addr) (c : Nat) (ls : List Lk) (N : Int) (B : Option Addr) (d : Nat) (xs : List UInt8) (w : World) (h0 : 0 ≤ N) (hN : N ≤ 1048576) (hl : ls.length ≤ 1048576) (hc : ls.length ≤ c) (hf : (Lit.int .i64 (head1 ls).flip).wf = true) (hl2 : xs.length ≤ 1048576) (hr : RC w A (lv ls)) (hx : RB w B xs) :
    Calls Try.prog 12 #[.agg #[.slice A ls.length c, .int .i64 N], .slice B xs.length d] w (RCarried A ls N xs w) := by
  rcases ls with _ | ⟨l, ls⟩
  · exact rcarry_nil A c N B d xs w h0 hN hl2 hx
  · exact rcarry_one A c l ls N B d xs w h0 hN (by simp at hl; omega) (by simpa using hc) hf hl2 hr hx

/-- The line in block g and the reference's state in block sb hold the same: L, and the count. -/
structure Sim (base g sb : Nat) (w : World) (v : Value) (A : Option Addr) (c : Nat) (L : List Lk) (n : Int) : Prop where
  line : LineAt w g v L n
  st : Blk w sb 35 #[.slice A L.length c, .int .i64 n]
  rd : RC w A (lv L)
  le : L.length ≤ c
  ap : L ≠ [] → A.map (·.block) ≠ some g ∧ A.map (·.block) ≠ v.ownBlock ∧ A.map (·.block) ≠ some sb
  sg : sb ≠ g
  so : v.ownBlock ≠ some sb
  bg : base ≤ g
  bs : base ≤ sb
  bo : ∀ k, v.ownBlock = some k → base ≤ k

theorem lv_ne {L : List Lk} (h : lv L ≠ []) : L ≠ [] := fun e => h (by rw [e]; rfl)
theorem RC.lt {w : World} {A : Option Addr} {L : List Lk} (h : RC w A (lv L)) (hL : L ≠ []) : ∃ b, A.map (·.block) = some b ∧ b < w.heap.size := by
  obtain ⟨b, off, rfl, hc⟩ := h.at_ (by rcases L with _ | ⟨l, L⟩; exact absurd rfl hL; simp [lv])
  exact ⟨b, rfl, cell?_lt (hc 0 (by rcases L with _ | ⟨l, L⟩; exact absurd rfl hL; simp [lv]))⟩

/-- Add on the line: the state is as it was. -/
theorem Sim.st_only {base g sb : Nat} {w w' : World} {v : Value} {A : Option Addr} {c : Nat} {L : List Lk} {n : Int} (h : Sim base g sb w v A c L n) (ho : Only g v.ownBlock w w') :
    Blk w' sb 35 #[.slice A L.length c, .int .i64 n] ∧ RC w' A (lv L) :=
  ⟨(ho.block sb h.st.size h.sg (fun e => h.so e.symm)).trans h.st, ho.rc h.rd (fun hne => (h.ap (lv_ne hne)).1) (fun hne => (h.ap (lv_ne hne)).2.1)⟩
theorem Sim.st_none {base g sb : Nat} {w w' : World} {v : Value} {A : Option Addr} {c : Nat} {L : List Lk} {n : Int} (h : Sim base g sb w v A c L n) (ho : Only g none w w') :
    Blk w' sb 35 #[.slice A L.length c, .int .i64 n] ∧ RC w' A (lv L) :=
  ⟨(ho.block sb h.st.size h.sg (by simp)).trans h.st, ho.rc h.rd (fun hne => (h.ap (lv_ne hne)).1) (fun hne e => by
    obtain ⟨b, hb, _⟩ := h.rd.lt (lv_ne hne)
    rw [hb] at e
    cases e)⟩

/-- The state is written anew: two cells of block sb. -/
theorem Sim.wrote {base g sb : Nat} {w : World} {v : Value} {A A0 : Option Addr} {c c0 n0 : Nat} {m0 : Int} {L : List Lk} {n : Int} (hl : LineAt w g v L n) (hs : Blk w sb 35 #[.slice A0 n0 c0, .int .i64 m0])
    (hr : RC w A (lv L)) (hle : L.length ≤ c) (hap : L ≠ [] → A.map (·.block) ≠ some g ∧ A.map (·.block) ≠ v.ownBlock ∧ A.map (·.block) ≠ some sb) (hsg : sb ≠ g) (hso : v.ownBlock ≠ some sb) (hbg : base ≤ g) (hbs : base ≤ sb) (hbo : ∀ k, v.ownBlock = some k → base ≤ k) :
    Sim base g sb ((w.setCell ⟨sb, 0, none⟩ (.slice A L.length c)).setCell ⟨sb, 1, none⟩ (.int .i64 n)) v A c L n where
  line := (hl.far (p := ⟨sb, 0, none⟩) hsg hso _).far (p := ⟨sb, 1, none⟩) hsg hso _
  st := (hs.put 0 _).put 1 _
  rd := fun hne => by
    obtain ⟨b, off, hA, hc⟩ := hr hne
    have h3 := (hap (lv_ne hne)).2.2
    rw [hA] at h3
    have hb : b ≠ sb := fun e => h3 (by rw [e]; rfl)
    exact ⟨b, off, hA, fun j hj => (World.cell?_of_block ((Below.heap_setCell _ _ _ _ hb).trans (Below.heap_setCell _ _ _ _ hb))).trans (hc j hj)⟩
  le := hle
  ap := hap
  sg := hsg
  so := hso
  bg := hbg
  bs := hbs
  bo := hbo
theorem Sim.drewN {base g sb : Nat} {w : World} {v : Value} {A : Option Addr} {c : Nat} {L : List Lk} {n : Int} (h : Sim base g sb w v A c L n) (m : Nat) : Sim base g sb (w.drewN m) v A c L n :=
  ⟨h.line.drewN m, h.st, h.rd, h.le, h.ap, h.sg, h.so, h.bg, h.bs, h.bo⟩
end Go.Proofs.Ytlkbbalidlhgmaa
