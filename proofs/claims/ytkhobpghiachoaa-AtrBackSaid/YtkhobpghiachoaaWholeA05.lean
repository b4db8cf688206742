/-
  Reading an answer to reset: the program's walk.
-/
import Derived.Test.YtkhobpghiachoaaGrp05
import Derived.Test.YtkhobpghiachoaaGrpR05
import Derived.Test.YtkhobpghiachoaaSumL
namespace Go.Proofs.Ytkhobpghiachoaa
open Go.RowKit Crc
set_option linter.unusedVariables false

theorem intT : SliceT Try.prog 25 3 (.int .i64 0) 1 8 := ⟨Try.underlying25, by kernel_rfl, rfl, by omega, by omega⟩
/-- append in words, with what the new slice's block is. -/
theorem wpList_append5 {P : Program} {t e : TypeId} {z : Value} {s bytes : Nat} {w : World} {base n m c : Nat} {v : Value} {cs ds : List Value} {A : Option Addr} {ops : Array Oper} {rest : List Oper} {o : Oper} {a : Act} {Q : Exit → Act → World → Prop} (hgd : o.guard = none) (hT : SliceT P t e z s bytes) (x y : Operand)
    (ho : o.op = .call { callee := .builtin .append, args := #[x, y], argTypes := #[t, t] })
    (hx : a.eval x = v) (hy : a.eval y = .slice A m c) (hown : w.ownsRow base e s v n cs) (hr : RC w A ds) (hl : ds.length = m * s) (h1 : ∀ u ∈ ds, u.oneCell' = true)
    (hlen : n + m ≤ 68719476736) (hbase : base ≤ w.heap.size)
    (h : ∀ v' w', w'.ownsRow base e s v' (n + m) (cs ++ ds) → Below base w w' → w.grownBy w' v.ownBlock → (v'.ownBlock = v.ownBlock ∨ v'.ownBlock = some w.heap.size) → wpList P ops Q rest (a.put o.dst v') w') : wpList P ops Q (o :: rest) a w := by
  refine wpList_plain hgd fun K hK => ?_
  obtain ⟨v', w', hrun, h2, h3, h4, h5⟩ := run_append_cells (c := c) hT o.type hown hr hl h1 hlen hbase
  unfold Oper.wp execOp
  simp only [ho, resolve, invoke, builtin, Sem.run_bind, Sem.run_pure, Result.andThen_ok, List.map_toArray, List.map_cons, List.map_nil, hx, hy, hrun]
  exact hK _ _ (h v' w' h2 h3 h4 h5)
/-- A protocol is kept. -/
theorem Sta.app2 {w w2 : World} {B rdb ab base : Nat} {inv : Bool} {v1 v2 v3 v2' : Value} {bs : List If} {ps : List Int} {A : Option Addr} {c : Nat} {r : List UInt8} {p : Int} (h : Sta w B rdb ab base inv v1 v2 v3 bs ps A c r) (hbz : base ≤ w.heap.size)
    (ho : w2.ownsRow base 3 1 v2' (ps.length + 1) (nv ps ++ nv [p])) (hb : Below base w w2) (hg : w.grownBy w2 v2.ownBlock) (hv : v2'.ownBlock = v2.ownBlock ∨ v2'.ownBlock = some w.heap.size) :
    w2.cell? ⟨ab, 2, none⟩ = some v2 ∧ w2.frozen? ⟨ab, 2, none⟩ = false ∧ Sta (w2.setCell ⟨ab, 2, none⟩ v2') B rdb ab base inv v1 v2' v3 bs (ps ++ [p]) A c r ∧ Below B w (w2.setCell ⟨ab, 2, none⟩ v2') := by
  have hm := h.m
  have hblk2 : Blk w2 ab 27 #[.bool inv, v1, v2, v3] := (hb.block ab hm.lo).trans hm.blk
  have hbB : Below B w w2 := hb.mono h.base_le
  have hbB2 : Below B w (w2.setCell ⟨ab, 2, none⟩ v2') := hbB.setCell (p := ⟨ab, 2, none⟩) h.b2 v2'
  have hnv : nv (ps ++ [p]) = nv ps ++ nv [p] := by unfold nv; rw [List.map_append]
  refine ⟨hblk2.cell 2, hblk2.free 2, ⟨⟨hblk2.put 2 v2', ?_, ?_, ?_, hm.lo⟩, ⟨?_, h.rd.cap, h.rd.rb.belowB h.a hbB2, h.rd.far⟩, h.a, h.b1, h.b2, h.rlo, h.ne, h.cap⟩, hbB2⟩
  · refine owns_keep hm.own1 (fun k hk => ?_)
    have hk2 := owns_lt hm.own1 k hk
    rw [Below.heap_setCell _ _ _ _ (by have := hm.lo; simp; omega)]
    exact hg.block k hk2.2 (fun e => hm.apart k hk e.symm)
  · rw [List.length_append, hnv]
    exact owns_keep ho (fun k hk => Below.heap_setCell _ _ _ _ (by have := (owns_lt ho k hk).1; have := hm.lo; simp; omega))
  · intro k hk e
    have hk2 := owns_lt hm.own1 k hk
    rcases hv with hv | hv
    · exact hm.apart k hk (by rw [← hv]; exact e)
    · rw [e] at hv
      injection hv with hv
      omega
  · have h1 : Blk w2 rdb 52 #[.slice A r.length c] := (hb.block rdb h.rlo).trans h.rd.blk
    exact h1.other (fun e => h.ne e.symm) _
/-- The one protocol that is meant. -/
theorem Sta.single {w : World} {B rdb ab base : Nat} {inv : Bool} {v1 v2 v3 : Value} {bs : List If} {A : Option Addr} {c : Nat} {r : List UInt8} (h : Sta w B rdb ab base inv v1 v2 v3 bs [] A c r) (hbz : base ≤ w.heap.size) :
    Sta ((w.alloc (.cells #[.int .i64 0] 3)).setCell ⟨ab, 2, none⟩ (.slice (some ⟨w.heap.size, 0, none⟩) 1 1)) B rdb ab base inv v1 (.slice (some ⟨w.heap.size, 0, none⟩) 1 1) v3 bs [0] A c r ∧ Below B w ((w.alloc (.cells #[.int .i64 0] 3)).setCell ⟨ab, 2, none⟩ (.slice (some ⟨w.heap.size, 0, none⟩) 1 1)) := by
  have hm := h.m
  have hb := (Below.refl w.heap.size w).alloc (Nat.le_refl _) (.cells #[.int .i64 0] 3)
  have hbB : Below B w (w.alloc (.cells #[.int .i64 0] 3)) := hb.mono (Nat.le_trans h.base_le hbz)
  have hbB2 := hbB.setCell (p := ⟨ab, 2, none⟩) h.b2 (.slice (some ⟨w.heap.size, 0, none⟩) 1 1)
  have h2 := h.below hb
  have hlo := hm.lo
  have hne : w.heap.size ≠ ab := by omega
  refine ⟨⟨⟨h2.m.blk.put 2 _, ?_, ?_, ?_, hm.lo⟩, ⟨?_, h.rd.cap, h.rd.rb.belowB h.a hbB2, h.rd.far⟩, h.a, h.b1, h.b2, h.rlo, h.ne, h.cap⟩, hbB2⟩
  · exact owns_keep h2.m.own1 (fun k hk => Below.heap_setCell _ _ _ _ (by have := (owns_lt h2.m.own1 k hk).1; simp; omega))
  · have hE2 : (w.alloc (.cells #[.int .i64 0] 3)).ownsRow base 3 1 (.slice (some ⟨w.heap.size, 0, none⟩) 1 1) 1 [.int .i64 0] := World.ownsRow_lit (size := 1) w #[.int .i64 0] 1 hbz (by simp [maxLen]) rfl
    exact owns_keep hE2 (fun k hk => Below.heap_setCell _ _ _ _ (by have := (owns_lt hE2 k hk).1; simp; omega))
  · intro k hk e
    have hk2 := owns_lt hm.own1 k hk
    have e' : some w.heap.size = some k := e
    injection e' with e'
    omega
  · exact h2.rd.blk.other (fun e => h.ne e.symm) _
/-- Some bytes are taken. -/
theorem Sta.take {w : World} {B rdb ab base : Nat} {inv : Bool} {v1 v2 v3 : Value} {bs : List If} {ps : List Int} {A : Option Addr} {c : Nat} {r : List UInt8} (h : Sta w B rdb ab base inv v1 v2 v3 bs ps A c r) (n : Nat) (hn : n ≤ r.length) :
    Sta (w.setCell ⟨rdb, 0, none⟩ (.slice (if c = n then A else A.map (·.add n)) (r.length - n) (c - n))) B rdb ab base inv v1 v2 v3 bs ps (if c = n then A else A.map (·.add n)) (c - n) (r.drop n) ∧ Below B w (w.setCell ⟨rdb, 0, none⟩ (.slice (if c = n then A else A.map (·.add n)) (r.length - n) (c - n))) := by
  refine ⟨⟨h.m.other h.rlo h.ne 0 _, h.rd.drop n hn, ?_, h.b1, h.b2, h.rlo, h.ne, ?_⟩, (Below.refl _ _).setCell (p := ⟨rdb, 0, none⟩) h.b1 _⟩
  · intro z hz
    apply h.a z
    rw [← hz]
    split
    · rfl
    · rcases A with _ | ⟨b, o, s⟩
      · rfl
      · simp only [Option.map_some, Addr.add]
        split <;> rfl
  · have := h.cap
    omega
/-- The bytes of the end are kept. -/
theorem Sta.put3 {w : World} {B rdb ab base : Nat} {inv : Bool} {v1 v2 v3 : Value} {bs : List If} {ps : List Int} {A : Option Addr} {c : Nat} {r : List UInt8} (h : Sta w B rdb ab base inv v1 v2 v3 bs ps A c r) (u : Value) :
    Sta (w.setCell ⟨ab, 3, none⟩ u) B rdb ab base inv v1 v2 u bs ps A c r ∧ Below B w (w.setCell ⟨ab, 3, none⟩ u) := by
  have hm := h.m
  have hlo := hm.lo
  have hbB2 := (Below.refl B w).setCell (p := ⟨ab, 3, none⟩) h.b2 u
  exact ⟨⟨⟨hm.blk.put 3 u, owns_keep hm.own1 (fun k hk => Below.heap_setCell _ _ _ _ (by have := (owns_lt hm.own1 k hk).1; simp; omega)), owns_keep hm.own2 (fun k hk => Below.heap_setCell _ _ _ _ (by have := (owns_lt hm.own2 k hk).1; simp; omega)), hm.apart, hm.lo⟩,
    ⟨h.rd.blk.other (fun e => h.ne e.symm) _, h.rd.cap, h.rd.rb.belowB h.a hbB2, h.rd.far⟩, h.a, h.b1, h.b2, h.rlo, h.ne, h.cap⟩, hbB2⟩

/-- The copy of a slice of bytes. -/
theorem cloneB_any (A : Option Addr) (c : Nat) (xs : List UInt8) (w : World) (hl : xs.length ≤ 1048576) (hr : RB w A xs) :
    Calls Try.prog 49 #[.slice A xs.length c] w fun e w' =>
      ∃ v, e = .returned v ∧ w'.ownsRow w.heap.size 5 1 v xs.length (bv xs) ∧ Below w.heap.size w w' := by
  have hrc := rb_iff.1 hr
  cases A with
  | none =>
    have h0 : xs = [] := by
      rcases xs with _ | ⟨l, ls⟩
      · rfl
      · obtain ⟨_, _, hA, _⟩ := hr (by simp)
        cases hA
    subst h0
    have he := fun w => Lib.run_eql_slice_nil (P := Try.prog) w 22 _ none 0 c 0 0 Try.underlying22
    go_enter Try.func49, Try.ntmps49
    go_wp2
    go_ret
    exact ⟨_, rfl, World.ownsRow_nil _ _ _ _, Below.refl _ _⟩
  | some ad =>
    have hT := byteT
    have he := fun w => Lib.run_eql_slice_nil (P := Try.prog) w 22 _ (some ad) xs.length c 0 0 Try.underlying22
    have hE : (w.alloc (.cells #[] 5)).ownsRow w.heap.size 5 1 (.slice (some ⟨w.heap.size, 0, none⟩) 0 0) 0 [] := World.ownsRow_lit (size := 1) w #[] 0 (Nat.le_refl _) (by simp [maxLen]) rfl
    have hb := (Below.refl w.heap.size w).alloc (Nat.le_refl _) (.cells #[] 5)
    have hr' := hrc.below hb
    have HV : Hid ((bv xs).length = xs.length * 1) := by show _ = _; rw [bv_length, Nat.mul_one]
    go_enter Try.func49, Try.ntmps49
    go_wp2_with (at_builtin; refine wpList_append_cells rfl hT (.tmp 5) (.tmp 6) rfl rfl rfl hE hr' HV.out (bv_one xs) (by omega) (by simp) ?_; intro v2 w2 hown2 hb2 hg2)
    go_ret
    exact ⟨v2, rfl, by simpa using hown2, hb.trans hb2⟩

/-- What whole hands back. -/
def WRes (b : List UInt8) (B : Nat) (w : World) (e : Ending) (w' : World) : Prop :=
  Below B w w' ∧ (((wholeS b).e ≠ 0 ∧ e = badP (wholeS b).e) ∨ ((wholeS b).e = 0 ∧ ∃ A1 c1 A2 c2 A3 c3, e = .returned (.agg #[.bool (wholeS b).inv, .slice A1 (wholeS b).bs.length c1, .slice A2 (wholeS b).ps.length c2, .slice A3 (wholeS b).hs.length c3]) ∧
    RC w' A1 (ifv (wholeS b).bs) ∧ RC w' A2 (nv (wholeS b).ps) ∧ RB w' A3 (wholeS b).hs ∧ ∀ z, (A1.map (·.block) = some z ∨ A2.map (·.block) = some z ∨ A3.map (·.block) = some z) → B ≤ z))
theorem WRes.no {b : List UInt8} {B : Nat} {w w' : World} {k : Int} (h : wholeS b = .bad k) (hk : k ≠ 0) (hb : Below B w w') : WRes b B w (badP k) w' := by
  refine ⟨hb, Or.inl ?_⟩
  rw [h]
  exact ⟨hk, rfl⟩
theorem owns_rc {w : World} {base s n c : Nat} {e : TypeId} {A : Option Addr} {cs : List Value} (h : w.ownsRow base e s (.slice A n c) n cs) : RC w A cs := by
  obtain ⟨A', c', he, _, hr⟩ := owns_reads h
  injection he with h1 h2 h3
  rw [h1]
  exact hr
theorem owns_far {w : World} {base s n c : Nat} {e : TypeId} {A : Option Addr} {cs : List Value} (h : w.ownsRow base e s (.slice A n c) n cs) : ∀ z, A.map (·.block) = some z → base ≤ z := fun z hz => by
  rcases A with _ | ⟨g, o, q⟩
  · cases hz
  · injection hz with hz
    subst hz
    exact (owns_lt h g rfl).1
theorem WRes.ret {b : List UInt8} {B rdb ab base base' rb N c1 c2 c3 c : Nat} {w W9 : World} {inv : Bool} {bs : List If} {ps : List Int} {hs r : List UInt8} {A A1 A2 A3 : Option Addr} (HS : wholeS b = ⟨0, inv, bs, ps, hs⟩) (hS9 : Sta W9 B rdb ab base inv (.slice A1 bs.length c1) (.slice A2 ps.length c2) (.slice A3 N c3) bs ps A c r)
    (ho9 : W9.ownsRow base' 5 1 (.slice A3 N c3) N (bv hs)) (hN : hs.length = N) (hb : Below B w W9) (hrb : rb < base) (hrb' : rb < base') (hB : B ≤ rb) (a a' a'' a3 : Value) :
    WRes b B w (.returned (.agg #[.bool inv, .slice A1 bs.length c1, .slice A2 ps.length c2, .slice A3 N c3])) ((((W9.setCell ⟨rb, 0, none⟩ a).setCell ⟨rb, 1, none⟩ a').setCell ⟨rb, 2, none⟩ a'').setCell ⟨rb, 3, none⟩ a3) := by
  have hk : ∀ k, k ≠ rb → ((((W9.setCell ⟨rb, 0, none⟩ a).setCell ⟨rb, 1, none⟩ a').setCell ⟨rb, 2, none⟩ a'').setCell ⟨rb, 3, none⟩ a3).heap[k]? = W9.heap[k]? := fun k h => by
    rw [Below.heap_setCell _ _ _ _ (by exact h), Below.heap_setCell _ _ _ _ (by exact h), Below.heap_setCell _ _ _ _ (by exact h), Below.heap_setCell _ _ _ _ (by exact h)]
  refine ⟨(((hb.setCell (p := ⟨rb, 0, none⟩) hB a).setCell (p := ⟨rb, 1, none⟩) hB a').setCell (p := ⟨rb, 2, none⟩) hB a'').setCell (p := ⟨rb, 3, none⟩) hB a3, Or.inr ?_⟩
  rw [HS]
  refine ⟨rfl, A1, c1, A2, c2, A3, c3, ?_, ?_, ?_, ?_, ?_⟩
  · rw [← hN]
  · exact owns_rc (owns_keep hS9.m.own1 (fun k h => hk k (by have := (owns_lt hS9.m.own1 k h).1; omega)))
  · exact owns_rc (owns_keep hS9.m.own2 (fun k h => hk k (by have := (owns_lt hS9.m.own2 k h).1; omega)))
  · exact rb_iff.2 (owns_rc (owns_keep ho9 (fun k h => hk k (by have := (owns_lt ho9 k h).1; omega))))
  · rintro z (h | h | h)
    · have := owns_far hS9.m.own1 z h; omega
    · have := owns_far hS9.m.own2 z h; omega
    · have := owns_far ho9 z h; omega
/-- Results: a struct that lies in a cell. -/
theorem results_c1 {P : Program} {fn : Func} {p : Tmp} {ty : TypeId} (h : fn.results = #[.cell p ty]) (tmps : Array Value) (w : World) (g : Nat) (t : TypeId) (cs : Array Value) (fr : Nat × Nat) (d : TypeDesc)
    (hp : tmps.getD p undef = .pointer (some ⟨g, 0, none⟩)) (hg : w.heap[g]? = some (.cells cs t fr))
    (hu : P.underlying ty = some d) (hd : (match d with | .struct _ | .array _ _ => true | _ => false) = true) (hi : (P.info? ty).map (·.size) = some cs.size) :
    (results fn tmps).run P w = .ok (.agg cs) w := by
  have hp' : tmps[p]?.getD undef = .pointer (some ⟨g, 0, none⟩) := by simpa using hp
  simp [results, h, hp', asAddr, run_loadVar_row w g t ty cs fr d hg hu hd hi]
theorem atr_info : (Try.prog.info? 27).map (·.size) = some 4 := by kernel_rfl
end Go.Proofs.Ytkhobpghiachoaa
