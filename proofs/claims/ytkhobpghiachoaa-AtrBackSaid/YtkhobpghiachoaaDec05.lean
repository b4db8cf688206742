/-
  Reading an answer to reset, plainly.
-/
import Derived.Test.YtkhobpghiachoaaCheck05
import Derived.Test.YtkhobpghiachoaaParse05
namespace Go.Proofs.Ytkhobpghiachoaa
open Go.RowKit Crc
set_option linter.unusedVariables false

/-- The bytes of one group, from the kinds ks on. -/
def rdG (g prot : Int) (t : Nat) : List Nat → List If → List UInt8 → Option (List If × List UInt8)
  | [], bs, r => some (bs, r)
  | k :: ks, bs, r => if bitB t k = true then (match r with | [] => none | v :: r' => rdG g prot t ks (bs ++ [⟨g, k, (v.toNat : Int), prot⟩]) r') else rdG g prot t ks bs r
/-- What the groups come to. -/
structure Grps where
  bs : List If
  ps : List Int
  sm : Bool
  r : List UInt8
/-- The groups from number g on: its presence t, its protocol. -/
def rdA : Nat → Int → Nat → Int → List If → List Int → Bool → List UInt8 → Option Grps
  | 0, _, _, _, _, _, _, _ => none
  | f + 1, g, t, prot, bs, ps, sm, r => match rdG g prot t [0, 1, 2] bs r with
    | none => none
    | some (bs', r') => if t < 128 then some ⟨bs', ps, sm, r'⟩ else match r' with
      | [] => none
      | td :: r'' => rdA f (g + 1) td.toNat ((td.toNat : Int) % 16) bs' (if (td.toNat : Int) % 16 ∈ ps then ps else ps ++ [(td.toNat : Int) % 16]) (sm || decide ((td.toNat : Int) % 16 ≠ 0)) r''
/-- What reading comes to: an error, or an answer to reset. -/
structure Dec where
  e : Int
  inv : Bool
  bs : List If
  ps : List Int
  hs : List UInt8
def Dec.bad (e : Int) : Dec := ⟨e, false, [], [], []⟩
/-- Behind the groups. -/
def wholeE (f h : UInt8) (b : List UInt8) (G : Grps) : Dec :=
  if G.r.length < h.toNat % 16 then .bad 5
  else if G.sm = true then (match G.r.drop (h.toNat % 16) with
    | [] => .bad 5
    | c :: r3 => if lrc ((b.drop 1).take (b.length - 1 - (r3.length + 1))) = c then ⟨0, decide (f = 63), G.bs, if G.ps = [] then [0] else G.ps, G.r.take (h.toNat % 16)⟩ else .bad 6)
  else ⟨0, decide (f = 63), G.bs, if G.ps = [] then [0] else G.ps, G.r.take (h.toNat % 16)⟩
def wholeS (b : List UInt8) : Dec :=
  if 33 < b.length then .bad 3 else match b with
  | [] => .bad 5
  | f :: b1 => if f = 59 ∨ f = 63 then (match b1 with
    | [] => .bad 5
    | h :: r => match rdA 40 1 h.toNat 0 [] [] false r with
      | none => .bad 5
      | some G => wholeE f h b G) else .bad 4
def Dec.atr (d : Dec) : Atr := ⟨d.inv, none, 0, d.bs, none, 0, d.ps, none, 0, d.hs⟩
def decS (b : List UInt8) : Dec := if (wholeS b).e = 0 then (if chkF (wholeS b).atr = 0 ∧ encF (wholeS b).atr = b then wholeS b else .bad 4) else wholeS b

theorem rdG_suffix {g prot : Int} {t : Nat} : ∀ (ks : List Nat) (bs : List If) (r : List UInt8) (bs' : List If) (r' : List UInt8), rdG g prot t ks bs r = some (bs', r') → ∃ p, r = p ++ r' ∧ bs'.length = bs.length + p.length
  | [], bs, r, bs', r', h => by
    injection h with h
    injection h with h1 h2
    subst h1 h2
    exact ⟨[], rfl, by simp⟩
  | k :: ks, bs, r, bs', r', h => by
    unfold rdG at h
    split at h
    · split at h
      · cases h
      · rename_i v r2
        obtain ⟨p, e1, e2⟩ := rdG_suffix ks _ _ _ _ h
        exact ⟨v :: p, by rw [e1]; rfl, by rw [e2]; simp; omega⟩
    · exact rdG_suffix ks _ _ _ _ h
end Go.Proofs.Ytkhobpghiachoaa
