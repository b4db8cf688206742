/-
  The protocol on which both sides agree: the program's walk.
-/
import Derived.Test.YtkhobpghiachoaaFurther05
import Derived.Maps.RangeWalk
namespace Go.Proofs.Ytkhobpghiachoaa
open Go.RowKit Crc Go.Maps
set_option linter.unusedVariables false

def okK (r q : List UInt8) (k : Nat) : Bool := decide (partB q k = none ∨ partB q k = partB r k)
def okAll (r q : List UInt8) : Bool := okK r q 0 && okK r q 1 && okK r q 2
def accE (r q : List UInt8) : Int := if parE r = 0 then (if parE q = 0 then (if (tB q : Int) % 16 = (tB r : Int) % 16 then (if okAll r q = true then 0 else 28) else 28) else parE q) else parE r
def accN (r q : List UInt8) : Int := if accE r q = 0 then (tB q : Int) % 16 else 0
/-- What Accept hands back. -/
def Accepted (r q : List UInt8) (w : World) (e : Ending) (w' : World) : Prop :=
  e = .returned (.tuple #[.int .i64 (accN r q), .int .i64 (accE r q)]) ∧ Below w.heap.size w w'
theorem accepted_bad {r q : List UInt8} {w w' : World} {E : Int} (h : accE r q = E) (h0 : E ≠ 0) (hb : Below w.heap.size w w') : Accepted r q w (.returned (.tuple #[.int .i64 0, .int .i64 E])) w' := by
  refine ⟨?_, hb⟩
  have hN : accN r q = 0 := by unfold accN; rw [h, if_neg h0]
  rw [hN, h]
theorem accepted_ok {r q : List UInt8} {w w' : World} (h : accE r q = 0) (hb : Below w.heap.size w w') : Accepted r q w (.returned (.tuple #[.int .i64 ((tB q : Int) % 16), .int .i64 0])) w' := by
  refine ⟨?_, hb⟩
  have hN : accN r q = (tB q : Int) % 16 := by unfold accN; rw [h, if_pos rfl]
  rw [hN, h]
theorem partsK_at (b : List UInt8) (k : Nat) (h : k < 3) : partsK b 3 (4 + (k : Int)) = partB b k := by
  unfold partsK
  rw [if_pos (by omega), show ((4 + (k : Int)) - 4).toNat = k from by omega]
theorem partsK_in {b : List UInt8} {z : Int} {v : UInt8} (h : partsK b 3 z = some v) : ∃ k : Nat, k < 3 ∧ z = 4 + (k : Int) ∧ partB b k = some v := by
  unfold partsK at h
  split at h
  · exact ⟨(z - 4).toNat, by omega, by omega, h⟩
  · cases h
theorem okAll_of {r q : List UInt8} (h : ∀ z v, partsK q 3 z = some v → partsK r 3 z = some v) : okAll r q = true := by
  have hk : ∀ k, k < 3 → okK r q k = true := by
    intro k hk
    unfold okK
    rw [decide_eq_true_eq]
    rcases hq : partB q k with _ | v
    · exact .inl rfl
    · right
      have h1 := h (4 + (k : Int)) v (by rw [partsK_at q k hk]; exact hq)
      rw [partsK_at r k hk] at h1
      exact h1.symm
  unfold okAll
  rw [hk 0 (by omega), hk 1 (by omega), hk 2 (by omega)]
  rfl
theorem okAll_not {r q : List UInt8} {z : Int} {v : UInt8} (h : partsK q 3 z = some v) (h2 : partsK r 3 z ≠ some v) : okAll r q = false := by
  obtain ⟨k, hk, rfl, hv⟩ := partsK_in h
  rw [partsK_at r k hk] at h2
  have : okK r q k = false := by
    unfold okK
    rw [decide_eq_false_iff_not, hv]
    rintro (e | e)
    · cases e
    · exact h2 e.symm
  unfold okAll
  rcases (show k = 0 ∨ k = 1 ∨ k = 2 from by omega) with rfl | rfl | rfl <;> simp [this]
theorem zeroU (w : World) : (zeroValue 5).run Try.prog w = .ok (.int .u8 0) w := by kernel_rfl

set_option maxRecDepth 100000 in
set_option maxHeartbeats 4000000 in
theorem accept_go (A : Option Addr) (c : Nat) (r : List UInt8) (B : Option Addr) (d : Nat) (q : List UInt8) (w : World) (hs : r.length ≤ 60000) (hc : r.length ≤ c) (hr : RB w A r) (hs2 : q.length ≤ 60000) (hc2 : q.length ≤ d) (hq : RB w B q) :
    Calls Try.prog 29 #[.slice A r.length c, .slice B q.length d] w (Accepted r q w) := by
  go_enter Try.func29, Try.ntmps29
  go_wp2_with fail
  refine (parse_go A c r w hs hc hr).mono ?_
  rintro e w1 ⟨mv1, rfl, hm1, hb1⟩
  by_cases hz1 : parE r = 0
  · obtain ⟨B1, D1, rfl, hB1, hown1, hMI1⟩ := hm1 hz1
    clear hm1
    rw [hz1, if_pos rfl]
    have HZ1 := Lib.hid hz1
    clear hz1
    go_wp2_with fail
    refine (parse_go B d q w1 hs2 hc2 (hq.below hb1)).mono ?_
    rintro e w2 ⟨mv2, rfl, hm2, hb2⟩
    have hb2' := hb1.trans (hb2.mono hb1.size)
    by_cases hz2 : parE q = 0
    · obtain ⟨B2, D2, rfl, hB2, hown2, hMI2⟩ := hm2 hz2
      clear hm2
      rw [hz2, if_pos rfl]
      have HZ2 := Lib.hid hz2
      clear hz2
      have hown1' := ownsMap_below hown1 hb2
      have hlt1 := hown1.lt
      have hne : B1 ≠ B2 := by omega
      have hOK := fun w' h1 h2 => accepted_ok (r := r) (q := q) (w := w) (w' := w') h1 h2
      have hE : accE r q = if (tB q : Int) % 16 = (tB r : Int) % 16 then (if okAll r q = true then 0 else 28) else 28 := by
        unfold accE
        rw [if_pos HZ1.out, if_pos HZ2.out]
      have HOK := Lib.hid hOK
      clear hOK hown1
      generalize (tB q : Int) % 16 = p2 at hE HOK
      generalize (tB r : Int) % 16 = p1 at hE
      by_cases hp : p2 = p1
      · have hpb : (p2 != p1) = false := by simpa using hp
        have HE : Hid (accE r q = if okAll r q = true then 0 else 28) := by show _ = _; rw [hE, if_pos hp]
        clear hE hp
        go_wp2_with (at_range; refine wpList_range_own _ rfl _ 62 rfl 3 5 intLaw Try.underlying62 _ B2 3 D2 rfl hown2 ?_; intro w0 hrg0 hg0 hs0)
        go_frame
        have hb0' : Below w.heap.size w w0 := hb2'.grown hg0 hb2'.size (fun j hj => by cases hj)
        have hownA := hown1'.kept hg0 (by simp)
        have hlt2 := hown2.lt
        have hlt1' : B1 < w2.heap.size := Nat.lt_of_lt_of_le hlt1 hb2.size
        obtain ⟨rb, hrbE⟩ : ∃ rb, rb = w2.heap.size := ⟨_, rfl⟩
        have hrb0 : w.heap.size ≤ rb := by rw [hrbE]; exact hb2'.size
        rw [← hrbE] at hrg0 hlt1' hlt2
        rw [← hrbE]
        clear hrbE hs0 hg0 hown1' hown2
        go_loopw [11] (fun _ wr => ∃ (left : Lit → Bool) (cnt : Nat), wr.ranges Try.prog 3 (plainElem Try.prog 5) B2 rb 3 D2 left cnt ∧ wr.ownsMap Try.prog 3 (plainElem Try.prog 5) B1 3 D1 ∧
          Hid (∀ kl, left kl = true → Maps.has D2 kl = true) ∧ Hid (∀ z v, partsK q 3 z = some v → left (.int .i64 z) = false → partsK r 3 z = some v) ∧ Below w.heap.size w wr)
          (fun _ wr => wr.rangeLeft B2 rb)
        case atStart =>
          refine ⟨_, _, hrg0, hownA, fun kl h => h, fun z v hz hl => ?_, hb0'⟩
          rw [(hMI2.2.2 z v hz).1] at hl
          cases hl
        case round =>
          obtain ⟨left, cnt, hrg, hmp, HL, HA, hbr⟩ := hrel
          clear hrg0 hownA hb0'
          go_wp2_with (at_next; refine wpList_next_ranges_ii _ rfl _ rfl 3 5 .i64 .u8 intLaw Try.underlying3 Try.underlying5 B2 rb 3 _ _ _ rfl hrg ?_ ?_)
          · intro hc0 hl0
            have HF : Hid (accE r q = 0) := by
              show _ = _
              rw [HE.out, if_pos (okAll_of (fun z v hz => HA.out z v hz (hl0 _)))]
            have HR := (HOK.out wr HF.out hbr)
            clear HA HL
            go_wp2
            go_ret2
            exact HR
          · intro x cc w3 cnt1 hwx hwc hlx hat hrg1 hlt hg1 hs1 hen
            have hmp1 := hmp.kept hg1 (by intro e; have := Option.some.inj e; omega)
            have hb1' : Below w.heap.size w w3 := hbr.grown hg1 hbr.size (fun j hj => by cases hj; exact hrb0)
            obtain ⟨z, v, ez, hz⟩ := hMI2.2.1 _ (HL.out _ hlx)
            injection ez with _ ez
            subst ez
            have hcv : cc = (v.toNat : Int) := by
              have h1 := (hMI2.2.2 x v hz).2 (.lit (.int .u8 0))
              rw [hat] at h1
              injection h1 with h1
              injection h1
            subst hcv
            have HL2 : Hid (∀ kl, (left kl && !kl.sameKey (.int .i64 x)) = true → Maps.has D2 kl = true) := fun kl h => by
              simp only [Bool.and_eq_true] at h
              exact HL.out kl h.1
            have HZ := Lib.hid hz
            clear hz
            rcases hpr : partsK r 3 x with _ | v2
            · have hno : Maps.has D1 (.int .i64 x) = false := by
                rcases hh : Maps.has D1 (.int .i64 x) with _ | _
                · rfl
                · obtain ⟨z', v', ez', hz'⟩ := hMI1.2.1 _ hh
                  injection ez' with _ ez'
                  subst ez'
                  rw [hpr] at hz'
                  cases hz'
              have HF : Hid (accE r q = 28) := by
                show _ = _
                rw [HE.out, if_neg (by rw [okAll_not HZ.out (by rw [hpr]; simp)]; decide)]
              clear hpr
              go_wp2_with (at_lookup; refine wpList_lookup_own_ok_int _ rfl _ _ 62 rfl 3 5 .u8 intLaw Try.underlying62 Try.underlying5 (zeroU _) B1 3 D1 rfl hmp1 _ _ rfl (keyOf_int_mk Try.underlying3 hwx) ?_; intro c2 hat2 hwc2)
              go_ret2
              exact accepted_bad HF.out (by decide) hb1'
            · have hyes := (hMI1.2.2 x v2 hpr).1
              by_cases hv : v = v2
              · subst hv
                have HA2 : Hid (∀ z v', partsK q 3 z = some v' → (left (.int .i64 z) && !(Lit.int .i64 z).sameKey (.int .i64 x)) = false → partsK r 3 z = some v') := fun z v' hz hl => by
                  by_cases e : z = x
                  · subst e
                    rw [HZ.out] at hz
                    injection hz with hz
                    rw [← hz]
                    exact hpr
                  · rw [sameKey_ne (fun h => e (by injection h))] at hl
                    exact HA.out z v' hz (by simpa using hl)
                have hD1 := (hMI1.2.2 x v hpr).2
                have HPR := Lib.hid hpr
                clear hpr
                go_wp2_with (at_lookup; refine wpList_lookup_own_ok_int _ rfl _ _ 62 rfl 3 5 .u8 intLaw Try.underlying62 Try.underlying5 (zeroU _) B1 3 D1 rfl hmp1 _ _ rfl (keyOf_int_mk Try.underlying3 hwx) ?_; intro c2 hat2 hwc2; obtain rfl : c2 = (v.toNat : Int) := (by rw [hD1] at hat2; injection hat2 with hat2; injection hat2 with _ hat2; exact hat2.symm))
                go_roundw
                case rel => exact ⟨_, cnt1, hrg1, hmp1, HL2, HA2, hb1'⟩
                case measure => rw [hrg1.left_eq, hrg.left_eq]; exact hlt
              · have hD1 := (hMI1.2.2 x v2 hpr).2
                have HF : Hid (accE r q = 28) := by
                  show _ = _
                  rw [HE.out, if_neg (by rw [okAll_not HZ.out (by rw [hpr]; intro e; injection e with e; exact hv e.symm)]; decide)]
                have hvb : ((v.toNat : Int) != (v2.toNat : Int)) = true := by
                  simp
                  intro h
                  exact hv (UInt8.toNat_inj.1 (by omega))
                clear hpr hv
                go_wp2_with (at_lookup; refine wpList_lookup_own_ok_int _ rfl _ _ 62 rfl 3 5 .u8 intLaw Try.underlying62 Try.underlying5 (zeroU _) B1 3 D1 rfl hmp1 _ _ rfl (keyOf_int_mk Try.underlying3 hwx) ?_; intro c2 hat2 hwc2; obtain rfl : c2 = (v2.toNat : Int) := (by rw [hD1] at hat2; injection hat2 with hat2; injection hat2 with _ hat2; exact hat2.symm))
                go_ret2
                exact accepted_bad HF.out (by decide) hb1'
      · have hpb : (p2 != p1) = true := by simpa using hp
        have HE : Hid (accE r q = 28) := by show _ = _; rw [hE, if_neg hp]
        clear hE hp
        go_wp2
        go_ret2
        exact accepted_bad HE.out (by decide) hb2'
    · rw [if_neg hz2]
      have HZ := Lib.hid hz2
      have hzb : (parE q != 0) = true := by simpa using hz2
      have HE : Hid (accE r q = parE q) := by show _ = _; unfold accE; rw [if_pos HZ1.out, if_neg hz2]
      clear hz2
      obtain ⟨pe, hpe⟩ : ∃ pe, pe = parE q := ⟨_, rfl⟩
      rw [← hpe] at hzb
      rw [← hpe]
      have HPE := Lib.hid hpe
      clear hpe
      go_wp2
      go_ret2
      exact accepted_bad (E := pe) (HE.out.trans HPE.out.symm) (by rw [HPE.out]; exact HZ.out) hb2'
  · rw [if_neg hz1]
    have HZ := Lib.hid hz1
    have hzb : (parE r != 0) = true := by simpa using hz1
    have HE : Hid (accE r q = parE r) := by show _ = _; unfold accE; rw [if_neg hz1]
    clear hz1
    obtain ⟨pe, hpe⟩ : ∃ pe, pe = parE r := ⟨_, rfl⟩
    rw [← hpe] at hzb
    rw [← hpe]
    have HPE := Lib.hid hpe
    clear hpe
    go_wp2
    go_ret2
    exact accepted_bad (E := pe) (HE.out.trans HPE.out.symm) (by rw [HPE.out]; exact HZ.out) hb1
end Go.Proofs.Ytkhobpghiachoaa
