/-
  No cell of these rows narrows 'for every input' (looked for: loops, veiled, ifaces, maps, wideKeys, modest, calm, conditions, laid).
  DERIVED. THE GIVEN ROWS OF THIS SEAT. 9 by the template 'for every input the law returns true; each argument reads behind the call as it read before'; 0 by the template 'total and deterministic' (their statements: YtkhobpghiachoaaTotals.lean).
  GIVEN WITH THE SEED: the statements are not yours to turn. If you find one false, say at which input.
  Laid BY PROGRAM, IN A SANDBOX (cutbox-rows.mjs): the forced cells as the released guide's own fill.sh prints them over the translation 4cdb646d52e0e495… (all of the seat's roots in one cut). By AI agents, Wed Nov 11 2026. No macro, syntax, notation, axiom, sorry.
-/
import Derived.Test.YtkhobpghiachoaaChecked
import GoSem.Claim
import GoSem.ClaimJoined
import GoSem.ClaimMapViews
import Derived.JoinedTies
import Derived.KernelRfl
namespace Go.Proofs.Ytkhobpghiachoaa
/- THE CELL 'sum', in the pinned program and in every row, IS THE sha256 OF THE DUMP (.gsa) THAT YtkhobpghiachoaaProg.lean LOADS. Nothing in Lean hashes anything: it is a label: what it is worth is what the hold of that sum in a sandbox is worth. -/
noncomputable def Try.pinned : Pinned := { name := "ytkhobpghiachoaa", sum := "4cdb646d52e0e49589e729955a545d066cce5420a4e5472f708a2819e909feed", checked := Try.checked }
namespace Rows
def none {H : Type} : Left H := { results := [], args := [] }

/-- 'smartcardlaw05.AtrDecodes': WHATEVER THE INPUT: true; the input reads as it did. -/
def atrDecodesSpec : ChangeSpec := { name := "atrDecodes", fn := fun _ => fun
  | [d] => { results := [.lit (.bool true)], args := [d] }
  | _ => none }
def atrDecodesRow : OpenClaim := { program := "ytkhobpghiachoaa", sum := "4cdb646d52e0e49589e729955a545d066cce5420a4e5472f708a2819e909feed", func := "smartcard/smartcardlaw05.AtrDecodes", spec := "atrDecodes", unfollowed := true, recurses := true, apart := false }
def AtrDecodesSaid : Prop := atrDecodesRow.holds Try.pinned (OpenSpec.ofChange atrDecodesSpec)

/-- ITS FALSE NEIGHBOUR: 'it returns false'. Refute it at one input. -/
def atrDecodesWrong : ChangeSpec := { name := "atrDecodes", fn := fun _ => fun
  | [d] => { results := [.lit (.bool false)], args := [d] }
  | _ => none }
def AtrDecodesWrongFalsely : Prop := atrDecodesRow.holds Try.pinned (OpenSpec.ofChange atrDecodesWrong)

/-- 'smartcardlaw05.AtrBack': WHATEVER THE INPUT: true; the input reads as it did. -/
def atrBackSpec : ChangeSpec := { name := "atrBack", fn := fun _ => fun
  | [d1, d2] => { results := [.lit (.bool true)], args := [d1, d2] }
  | _ => none }
def atrBackRow : OpenClaim := { program := "ytkhobpghiachoaa", sum := "4cdb646d52e0e49589e729955a545d066cce5420a4e5472f708a2819e909feed", func := "smartcard/smartcardlaw05.AtrBack", spec := "atrBack", unfollowed := true, recurses := true, apart := false }
def AtrBackSaid : Prop := atrBackRow.holds Try.pinned (OpenSpec.ofChange atrBackSpec)

/-- ITS FALSE NEIGHBOUR: 'it returns false'. Refute it at one input. -/
def atrBackWrong : ChangeSpec := { name := "atrBack", fn := fun _ => fun
  | [d1, d2] => { results := [.lit (.bool false)], args := [d1, d2] }
  | _ => none }
def AtrBackWrongFalsely : Prop := atrBackRow.holds Try.pinned (OpenSpec.ofChange atrBackWrong)

/-- 'smartcardlaw05.AtrEncodes': WHATEVER THE INPUT: true; the input reads as it did. -/
def atrEncodesSpec : ChangeSpec := { name := "atrEncodes", fn := fun _ => fun
  | [d] => { results := [.lit (.bool true)], args := [d] }
  | _ => none }
def atrEncodesRow : OpenClaim := { program := "ytkhobpghiachoaa", sum := "4cdb646d52e0e49589e729955a545d066cce5420a4e5472f708a2819e909feed", func := "smartcard/smartcardlaw05.AtrEncodes", spec := "atrEncodes", apart := false }
def AtrEncodesSaid : Prop := atrEncodesRow.holds Try.pinned (OpenSpec.ofChange atrEncodesSpec)

/-- ITS FALSE NEIGHBOUR: 'it returns false'. Refute it at one input. -/
def atrEncodesWrong : ChangeSpec := { name := "atrEncodes", fn := fun _ => fun
  | [d] => { results := [.lit (.bool false)], args := [d] }
  | _ => none }
def AtrEncodesWrongFalsely : Prop := atrEncodesRow.holds Try.pinned (OpenSpec.ofChange atrEncodesWrong)

/-- 'smartcardlaw05.AtrRequests': WHATEVER THE INPUT: true; the input reads as it did. -/
def atrRequestsSpec : ChangeSpec := { name := "atrRequests", fn := fun _ => fun
  | [d] => { results := [.lit (.bool true)], args := [d] }
  | _ => none }
def atrRequestsRow : OpenClaim := { program := "ytkhobpghiachoaa", sum := "4cdb646d52e0e49589e729955a545d066cce5420a4e5472f708a2819e909feed", func := "smartcard/smartcardlaw05.AtrRequests", spec := "atrRequests", apart := false }
def AtrRequestsSaid : Prop := atrRequestsRow.holds Try.pinned (OpenSpec.ofChange atrRequestsSpec)

/-- ITS FALSE NEIGHBOUR: 'it returns false'. Refute it at one input. -/
def atrRequestsWrong : ChangeSpec := { name := "atrRequests", fn := fun _ => fun
  | [d] => { results := [.lit (.bool false)], args := [d] }
  | _ => none }
def AtrRequestsWrongFalsely : Prop := atrRequestsRow.holds Try.pinned (OpenSpec.ofChange atrRequestsWrong)

/-- 'smartcardlaw05.AtrCompares': WHATEVER THE INPUT: true; the input reads as it did. -/
def atrComparesSpec : ChangeSpec := { name := "atrCompares", fn := fun _ => fun
  | [d1, d2] => { results := [.lit (.bool true)], args := [d1, d2] }
  | _ => none }
def atrComparesRow : OpenClaim := { program := "ytkhobpghiachoaa", sum := "4cdb646d52e0e49589e729955a545d066cce5420a4e5472f708a2819e909feed", func := "smartcard/smartcardlaw05.AtrCompares", spec := "atrCompares", apart := false }
def AtrComparesSaid : Prop := atrComparesRow.holds Try.pinned (OpenSpec.ofChange atrComparesSpec)

/-- ITS FALSE NEIGHBOUR: 'it returns false'. Refute it at one input. -/
def atrComparesWrong : ChangeSpec := { name := "atrCompares", fn := fun _ => fun
  | [d1, d2] => { results := [.lit (.bool false)], args := [d1, d2] }
  | _ => none }
def AtrComparesWrongFalsely : Prop := atrComparesRow.holds Try.pinned (OpenSpec.ofChange atrComparesWrong)

/-- 'smartcardlaw05.AtrReads': WHATEVER THE INPUT: true; the input reads as it did. -/
def atrReadsSpec : ChangeSpec := { name := "atrReads", fn := fun _ => fun
  | [d] => { results := [.lit (.bool true)], args := [d] }
  | _ => none }
def atrReadsRow : OpenClaim := { program := "ytkhobpghiachoaa", sum := "4cdb646d52e0e49589e729955a545d066cce5420a4e5472f708a2819e909feed", func := "smartcard/smartcardlaw05.AtrReads", spec := "atrReads", apart := false }
def AtrReadsSaid : Prop := atrReadsRow.holds Try.pinned (OpenSpec.ofChange atrReadsSpec)

/-- ITS FALSE NEIGHBOUR: 'it returns false'. Refute it at one input. -/
def atrReadsWrong : ChangeSpec := { name := "atrReads", fn := fun _ => fun
  | [d] => { results := [.lit (.bool false)], args := [d] }
  | _ => none }
def AtrReadsWrongFalsely : Prop := atrReadsRow.holds Try.pinned (OpenSpec.ofChange atrReadsWrong)

/-- 'smartcardlaw05.AtrAnswers': WHATEVER THE INPUT: true; the input reads as it did. -/
def atrAnswersSpec : ChangeSpec := { name := "atrAnswers", fn := fun _ => fun
  | [d1, d2] => { results := [.lit (.bool true)], args := [d1, d2] }
  | _ => none }
def atrAnswersRow : OpenClaim := { program := "ytkhobpghiachoaa", sum := "4cdb646d52e0e49589e729955a545d066cce5420a4e5472f708a2819e909feed", func := "smartcard/smartcardlaw05.AtrAnswers", spec := "atrAnswers", apart := false }
def AtrAnswersSaid : Prop := atrAnswersRow.holds Try.pinned (OpenSpec.ofChange atrAnswersSpec)

/-- ITS FALSE NEIGHBOUR: 'it returns false'. Refute it at one input. -/
def atrAnswersWrong : ChangeSpec := { name := "atrAnswers", fn := fun _ => fun
  | [d1, d2] => { results := [.lit (.bool false)], args := [d1, d2] }
  | _ => none }
def AtrAnswersWrongFalsely : Prop := atrAnswersRow.holds Try.pinned (OpenSpec.ofChange atrAnswersWrong)

/-- 'smartcardlaw05.AtrAccepts': WHATEVER THE INPUT: true; the input reads as it did. -/
def atrAcceptsSpec : ChangeSpec := { name := "atrAccepts", fn := fun _ => fun
  | [d1, d2] => { results := [.lit (.bool true)], args := [d1, d2] }
  | _ => none }
def atrAcceptsRow : OpenClaim := { program := "ytkhobpghiachoaa", sum := "4cdb646d52e0e49589e729955a545d066cce5420a4e5472f708a2819e909feed", func := "smartcard/smartcardlaw05.AtrAccepts", spec := "atrAccepts", apart := false }
def AtrAcceptsSaid : Prop := atrAcceptsRow.holds Try.pinned (OpenSpec.ofChange atrAcceptsSpec)

/-- ITS FALSE NEIGHBOUR: 'it returns false'. Refute it at one input. -/
def atrAcceptsWrong : ChangeSpec := { name := "atrAccepts", fn := fun _ => fun
  | [d1, d2] => { results := [.lit (.bool false)], args := [d1, d2] }
  | _ => none }
def AtrAcceptsWrongFalsely : Prop := atrAcceptsRow.holds Try.pinned (OpenSpec.ofChange atrAcceptsWrong)

/-- 'smartcardlaw05.AtrAgrees': WHATEVER THE INPUT: true; the input reads as it did. -/
def atrAgreesSpec : ChangeSpec := { name := "atrAgrees", fn := fun _ => fun
  | [d1, d2] => { results := [.lit (.bool true)], args := [d1, d2] }
  | _ => none }
def atrAgreesRow : OpenClaim := { program := "ytkhobpghiachoaa", sum := "4cdb646d52e0e49589e729955a545d066cce5420a4e5472f708a2819e909feed", func := "smartcard/smartcardlaw05.AtrAgrees", spec := "atrAgrees", apart := false }
def AtrAgreesSaid : Prop := atrAgreesRow.holds Try.pinned (OpenSpec.ofChange atrAgreesSpec)

/-- ITS FALSE NEIGHBOUR: 'it returns false'. Refute it at one input. -/
def atrAgreesWrong : ChangeSpec := { name := "atrAgrees", fn := fun _ => fun
  | [d1, d2] => { results := [.lit (.bool false)], args := [d1, d2] }
  | _ => none }
def AtrAgreesWrongFalsely : Prop := atrAgreesRow.holds Try.pinned (OpenSpec.ofChange atrAgreesWrong)

/- THE SECOND FORM. 'bulk': how many values and letters a reading holds, each counted each time it is reached (what is shared counts as often as it is met; a slice's spare places count too). A statement '..UptoSaid' is the law's where the arguments, and the package variables that the reading takes, are together of bulk at most 1048576: NARROWER than '..Said'. Prove '..Said' where nothing that the law and all that it calls make is longer than what came in: it says more and counts as full. Else prove '..UptoSaid'. A law counts once. -/
mutual
def uptoBulk {H : Type} : DataW H → Nat
  | .lit (.string bytes) => bytes.length + 1
  | .lit _ => 1
  | .nil => 1
  | .ptr d => uptoBulk d + 1
  | .slice elems spare => uptoBulkAll elems + uptoBulkAll spare + 1
  | .agg parts => uptoBulkAll parts + 1
  | .iface _ d => uptoBulk d + 1
  | .map entries => uptoBulkEntries entries + 1
  | .held _ => 1
def uptoBulkAll {H : Type} : List (DataW H) → Nat
  | [] => 0
  | d :: r => uptoBulk d + uptoBulkAll r
def uptoBulkEntries {H : Type} : List (Lit × DataW H) → Nat
  | [] => 0
  | x :: r => uptoBulkEntry x + uptoBulkEntries r
def uptoBulkEntry {H : Type} : Lit × DataW H → Nat
  | (.string bytes, d) => bytes.length + uptoBulk d + 1
  | (_, d) => uptoBulk d + 1
 end
def uptoSmall : (H : Type) → List (DataW H) → Bool := fun _ ds => decide (uptoBulkAll ds ≤ 1048576)
def OpenSpec.upto (s : _root_.Go.ChangeSpec) : _root_.Go.OpenSpec := { _root_.Go.OpenSpec.ofChange s with cond := some uptoSmall }

/-- 'smartcardlaw05.AtrDecodes', WHERE WHAT IT READS IS OF BULK AT MOST 1048576: true; the input reads as it did. -/
def atrDecodesUptoRow : OpenClaim := { program := "ytkhobpghiachoaa", sum := "4cdb646d52e0e49589e729955a545d066cce5420a4e5472f708a2819e909feed", func := "smartcard/smartcardlaw05.AtrDecodes", spec := "atrDecodes", unfollowed := true, recurses := true, apart := false, narrowed := true }
def AtrDecodesUptoSaid : Prop := atrDecodesUptoRow.holds Try.pinned (OpenSpec.upto atrDecodesSpec)

/-- 'smartcardlaw05.AtrBack', WHERE WHAT IT READS IS OF BULK AT MOST 1048576: true; the input reads as it did. -/
def atrBackUptoRow : OpenClaim := { program := "ytkhobpghiachoaa", sum := "4cdb646d52e0e49589e729955a545d066cce5420a4e5472f708a2819e909feed", func := "smartcard/smartcardlaw05.AtrBack", spec := "atrBack", unfollowed := true, recurses := true, apart := false, narrowed := true }
def AtrBackUptoSaid : Prop := atrBackUptoRow.holds Try.pinned (OpenSpec.upto atrBackSpec)

/-- 'smartcardlaw05.AtrEncodes', WHERE WHAT IT READS IS OF BULK AT MOST 1048576: true; the input reads as it did. -/
def atrEncodesUptoRow : OpenClaim := { program := "ytkhobpghiachoaa", sum := "4cdb646d52e0e49589e729955a545d066cce5420a4e5472f708a2819e909feed", func := "smartcard/smartcardlaw05.AtrEncodes", spec := "atrEncodes", apart := false, narrowed := true }
def AtrEncodesUptoSaid : Prop := atrEncodesUptoRow.holds Try.pinned (OpenSpec.upto atrEncodesSpec)

/-- 'smartcardlaw05.AtrRequests', WHERE WHAT IT READS IS OF BULK AT MOST 1048576: true; the input reads as it did. -/
def atrRequestsUptoRow : OpenClaim := { program := "ytkhobpghiachoaa", sum := "4cdb646d52e0e49589e729955a545d066cce5420a4e5472f708a2819e909feed", func := "smartcard/smartcardlaw05.AtrRequests", spec := "atrRequests", apart := false, narrowed := true }
def AtrRequestsUptoSaid : Prop := atrRequestsUptoRow.holds Try.pinned (OpenSpec.upto atrRequestsSpec)

/-- 'smartcardlaw05.AtrCompares', WHERE WHAT IT READS IS OF BULK AT MOST 1048576: true; the input reads as it did. -/
def atrComparesUptoRow : OpenClaim := { program := "ytkhobpghiachoaa", sum := "4cdb646d52e0e49589e729955a545d066cce5420a4e5472f708a2819e909feed", func := "smartcard/smartcardlaw05.AtrCompares", spec := "atrCompares", apart := false, narrowed := true }
def AtrComparesUptoSaid : Prop := atrComparesUptoRow.holds Try.pinned (OpenSpec.upto atrComparesSpec)

/-- 'smartcardlaw05.AtrReads', WHERE WHAT IT READS IS OF BULK AT MOST 1048576: true; the input reads as it did. -/
def atrReadsUptoRow : OpenClaim := { program := "ytkhobpghiachoaa", sum := "4cdb646d52e0e49589e729955a545d066cce5420a4e5472f708a2819e909feed", func := "smartcard/smartcardlaw05.AtrReads", spec := "atrReads", apart := false, narrowed := true }
def AtrReadsUptoSaid : Prop := atrReadsUptoRow.holds Try.pinned (OpenSpec.upto atrReadsSpec)

/-- 'smartcardlaw05.AtrAnswers', WHERE WHAT IT READS IS OF BULK AT MOST 1048576: true; the input reads as it did. -/
def atrAnswersUptoRow : OpenClaim := { program := "ytkhobpghiachoaa", sum := "4cdb646d52e0e49589e729955a545d066cce5420a4e5472f708a2819e909feed", func := "smartcard/smartcardlaw05.AtrAnswers", spec := "atrAnswers", apart := false, narrowed := true }
def AtrAnswersUptoSaid : Prop := atrAnswersUptoRow.holds Try.pinned (OpenSpec.upto atrAnswersSpec)

/-- 'smartcardlaw05.AtrAccepts', WHERE WHAT IT READS IS OF BULK AT MOST 1048576: true; the input reads as it did. -/
def atrAcceptsUptoRow : OpenClaim := { program := "ytkhobpghiachoaa", sum := "4cdb646d52e0e49589e729955a545d066cce5420a4e5472f708a2819e909feed", func := "smartcard/smartcardlaw05.AtrAccepts", spec := "atrAccepts", apart := false, narrowed := true }
def AtrAcceptsUptoSaid : Prop := atrAcceptsUptoRow.holds Try.pinned (OpenSpec.upto atrAcceptsSpec)

/-- 'smartcardlaw05.AtrAgrees', WHERE WHAT IT READS IS OF BULK AT MOST 1048576: true; the input reads as it did. -/
def atrAgreesUptoRow : OpenClaim := { program := "ytkhobpghiachoaa", sum := "4cdb646d52e0e49589e729955a545d066cce5420a4e5472f708a2819e909feed", func := "smartcard/smartcardlaw05.AtrAgrees", spec := "atrAgrees", apart := false, narrowed := true }
def AtrAgreesUptoSaid : Prop := atrAgreesUptoRow.holds Try.pinned (OpenSpec.upto atrAgreesSpec)

end Rows
end Go.Proofs.Ytkhobpghiachoaa
