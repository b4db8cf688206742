/-
  No cell of these rows narrows 'for every input' (looked for: loops, veiled, ifaces, maps, wideKeys, modest, calm, conditions, laid).
  DERIVED. THE GIVEN ROWS OF THIS SEAT. 7 by the template 'for every input the law returns true; each argument reads behind the call as it read before'; 0 by the template 'total and deterministic' (their statements: YtkcmbdnfohkjkaaTotals.lean).
  GIVEN WITH THE SEED: the statements are not yours to turn. If you find one false, say at which input.
  Laid BY PROGRAM, IN A SANDBOX (cutbox-rows.mjs): the forced cells as the released guide's own fill.sh prints them over the translation 2eccccd68fbd19c3… (all of the seat's roots in one cut). By AI agents, Wed Nov 11 2026. No macro, syntax, notation, axiom, sorry.
-/
import Derived.Test.YtkcmbdnfohkjkaaChecked
import GoSem.Claim
import GoSem.ClaimJoined
import GoSem.ClaimMapViews
import Derived.JoinedTies
import Derived.KernelRfl
namespace Go.Proofs.Ytkcmbdnfohkjkaa
/- THE CELL 'sum', in the pinned program and in every row, IS THE sha256 OF THE DUMP (.gsa) THAT YtkcmbdnfohkjkaaProg.lean LOADS. Nothing in Lean hashes anything: it is a label: what it is worth is what the hold of that sum in a sandbox is worth. -/
noncomputable def Try.pinned : Pinned := { name := "ytkcmbdnfohkjkaa", sum := "2eccccd68fbd19c30e6f616858b6170ecb6acb5b0ad226e90ddb2b0d5c1bd0ab", checked := Try.checked }
namespace Rows
def none {H : Type} : Left H := { results := [], args := [] }

/-- 'smartcardlaw03.CheckLinear': WHATEVER THE INPUT: true; the input reads as it did. -/
def checkLinearSpec : ChangeSpec := { name := "checkLinear", fn := fun _ => fun
  | [d1, d2, d3] => { results := [.lit (.bool true)], args := [d1, d2, d3] }
  | _ => none }
def checkLinearRow : OpenClaim := { program := "ytkcmbdnfohkjkaa", sum := "2eccccd68fbd19c30e6f616858b6170ecb6acb5b0ad226e90ddb2b0d5c1bd0ab", func := "smartcard/smartcardlaw03.CheckLinear", spec := "checkLinear", apart := false }
def CheckLinearSaid : Prop := checkLinearRow.holds Try.pinned (OpenSpec.ofChange checkLinearSpec)

/-- ITS FALSE NEIGHBOUR: 'it returns false'. Refute it at one input. -/
def checkLinearWrong : ChangeSpec := { name := "checkLinear", fn := fun _ => fun
  | [d1, d2, d3] => { results := [.lit (.bool false)], args := [d1, d2, d3] }
  | _ => none }
def CheckLinearWrongFalsely : Prop := checkLinearRow.holds Try.pinned (OpenSpec.ofChange checkLinearWrong)

/-- 'smartcardlaw03.CheckSums': WHATEVER THE INPUT: true; the input reads as it did. -/
def checkSumsSpec : ChangeSpec := { name := "checkSums", fn := fun _ => fun
  | [d1, d2] => { results := [.lit (.bool true)], args := [d1, d2] }
  | _ => none }
def checkSumsRow : OpenClaim := { program := "ytkcmbdnfohkjkaa", sum := "2eccccd68fbd19c30e6f616858b6170ecb6acb5b0ad226e90ddb2b0d5c1bd0ab", func := "smartcard/smartcardlaw03.CheckSums", spec := "checkSums", apart := false }
def CheckSumsSaid : Prop := checkSumsRow.holds Try.pinned (OpenSpec.ofChange checkSumsSpec)

/-- ITS FALSE NEIGHBOUR: 'it returns false'. Refute it at one input. -/
def checkSumsWrong : ChangeSpec := { name := "checkSums", fn := fun _ => fun
  | [d1, d2] => { results := [.lit (.bool false)], args := [d1, d2] }
  | _ => none }
def CheckSumsWrongFalsely : Prop := checkSumsRow.holds Try.pinned (OpenSpec.ofChange checkSumsWrong)

/-- 'smartcardlaw03.CheckAppends': WHATEVER THE INPUT: true; the input reads as it did. -/
def checkAppendsSpec : ChangeSpec := { name := "checkAppends", fn := fun _ => fun
  | [d1, d2] => { results := [.lit (.bool true)], args := [d1, d2] }
  | _ => none }
def checkAppendsRow : OpenClaim := { program := "ytkcmbdnfohkjkaa", sum := "2eccccd68fbd19c30e6f616858b6170ecb6acb5b0ad226e90ddb2b0d5c1bd0ab", func := "smartcard/smartcardlaw03.CheckAppends", spec := "checkAppends", apart := false }
def CheckAppendsSaid : Prop := checkAppendsRow.holds Try.pinned (OpenSpec.ofChange checkAppendsSpec)

/-- ITS FALSE NEIGHBOUR: 'it returns false'. Refute it at one input. -/
def checkAppendsWrong : ChangeSpec := { name := "checkAppends", fn := fun _ => fun
  | [d1, d2] => { results := [.lit (.bool false)], args := [d1, d2] }
  | _ => none }
def CheckAppendsWrongFalsely : Prop := checkAppendsRow.holds Try.pinned (OpenSpec.ofChange checkAppendsWrong)

/-- 'smartcardlaw03.CheckRemoves': WHATEVER THE INPUT: true; the input reads as it did. -/
def checkRemovesSpec : ChangeSpec := { name := "checkRemoves", fn := fun _ => fun
  | [d1, d2] => { results := [.lit (.bool true)], args := [d1, d2] }
  | _ => none }
def checkRemovesRow : OpenClaim := { program := "ytkcmbdnfohkjkaa", sum := "2eccccd68fbd19c30e6f616858b6170ecb6acb5b0ad226e90ddb2b0d5c1bd0ab", func := "smartcard/smartcardlaw03.CheckRemoves", spec := "checkRemoves", apart := false }
def CheckRemovesSaid : Prop := checkRemovesRow.holds Try.pinned (OpenSpec.ofChange checkRemovesSpec)

/-- ITS FALSE NEIGHBOUR: 'it returns false'. Refute it at one input. -/
def checkRemovesWrong : ChangeSpec := { name := "checkRemoves", fn := fun _ => fun
  | [d1, d2] => { results := [.lit (.bool false)], args := [d1, d2] }
  | _ => none }
def CheckRemovesWrongFalsely : Prop := checkRemovesRow.holds Try.pinned (OpenSpec.ofChange checkRemovesWrong)

/-- 'smartcardlaw03.CheckRestores': WHATEVER THE INPUT: true; the input reads as it did. -/
def checkRestoresSpec : ChangeSpec := { name := "checkRestores", fn := fun _ => fun
  | [d1, d2] => { results := [.lit (.bool true)], args := [d1, d2] }
  | _ => none }
def checkRestoresRow : OpenClaim := { program := "ytkcmbdnfohkjkaa", sum := "2eccccd68fbd19c30e6f616858b6170ecb6acb5b0ad226e90ddb2b0d5c1bd0ab", func := "smartcard/smartcardlaw03.CheckRestores", spec := "checkRestores", apart := false }
def CheckRestoresSaid : Prop := checkRestoresRow.holds Try.pinned (OpenSpec.ofChange checkRestoresSpec)

/-- ITS FALSE NEIGHBOUR: 'it returns false'. Refute it at one input. -/
def checkRestoresWrong : ChangeSpec := { name := "checkRestores", fn := fun _ => fun
  | [d1, d2] => { results := [.lit (.bool false)], args := [d1, d2] }
  | _ => none }
def CheckRestoresWrongFalsely : Prop := checkRestoresRow.holds Try.pinned (OpenSpec.ofChange checkRestoresWrong)

/-- 'smartcardlaw03.CheckDetects': WHATEVER THE INPUT: true; the input reads as it did. -/
def checkDetectsSpec : ChangeSpec := { name := "checkDetects", fn := fun _ => fun
  | [d1, d2, d3] => { results := [.lit (.bool true)], args := [d1, d2, d3] }
  | _ => none }
def checkDetectsRow : OpenClaim := { program := "ytkcmbdnfohkjkaa", sum := "2eccccd68fbd19c30e6f616858b6170ecb6acb5b0ad226e90ddb2b0d5c1bd0ab", func := "smartcard/smartcardlaw03.CheckDetects", spec := "checkDetects", apart := false }
def CheckDetectsSaid : Prop := checkDetectsRow.holds Try.pinned (OpenSpec.ofChange checkDetectsSpec)

/-- ITS FALSE NEIGHBOUR: 'it returns false'. Refute it at one input. -/
def checkDetectsWrong : ChangeSpec := { name := "checkDetects", fn := fun _ => fun
  | [d1, d2, d3] => { results := [.lit (.bool false)], args := [d1, d2, d3] }
  | _ => none }
def CheckDetectsWrongFalsely : Prop := checkDetectsRow.holds Try.pinned (OpenSpec.ofChange checkDetectsWrong)

/-- 'smartcardlaw03.CheckBursts': WHATEVER THE INPUT: true; the input reads as it did. -/
def checkBurstsSpec : ChangeSpec := { name := "checkBursts", fn := fun _ => fun
  | [d1, d2, d3] => { results := [.lit (.bool true)], args := [d1, d2, d3] }
  | _ => none }
def checkBurstsRow : OpenClaim := { program := "ytkcmbdnfohkjkaa", sum := "2eccccd68fbd19c30e6f616858b6170ecb6acb5b0ad226e90ddb2b0d5c1bd0ab", func := "smartcard/smartcardlaw03.CheckBursts", spec := "checkBursts", apart := false }
def CheckBurstsSaid : Prop := checkBurstsRow.holds Try.pinned (OpenSpec.ofChange checkBurstsSpec)

/-- ITS FALSE NEIGHBOUR: 'it returns false'. Refute it at one input. -/
def checkBurstsWrong : ChangeSpec := { name := "checkBursts", fn := fun _ => fun
  | [d1, d2, d3] => { results := [.lit (.bool false)], args := [d1, d2, d3] }
  | _ => none }
def CheckBurstsWrongFalsely : Prop := checkBurstsRow.holds Try.pinned (OpenSpec.ofChange checkBurstsWrong)

/- THE SECOND FORM. 'bulk': how many values and letters a reading holds, each counted each time it is reached (what is shared counts as often as it is met; a slice's spare places count too). A statement '..UptoSaid' is the law's where the arguments, and the package variables that the reading takes, are together of bulk at most 1048576: NARROWER than '..Said'. Prove '..Said' where nothing that the law and all that it calls make is longer than what came in: it says more and counts as full. Else prove '..UptoSaid'. A law counts once. -/
mutual
def uptoBulk {H : Type} : DataW H → Nat
  | .lit (.string bytes) => bytes.length + 1
  | .lit _ => 1
  | .nil => 1
  | .ptr d => uptoBulk d + 1
  | .slice elems spare => uptoBulkAll elems + uptoBulkAll spare + 1
  | .agg parts => uptoBulkAll parts + 1
  | .iface _ d => uptoBulk d + 1
  | .map entries => uptoBulkEntries entries + 1
  | .held _ => 1
def uptoBulkAll {H : Type} : List (DataW H) → Nat
  | [] => 0
  | d :: r => uptoBulk d + uptoBulkAll r
def uptoBulkEntries {H : Type} : List (Lit × DataW H) → Nat
  | [] => 0
  | x :: r => uptoBulkEntry x + uptoBulkEntries r
def uptoBulkEntry {H : Type} : Lit × DataW H → Nat
  | (.string bytes, d) => bytes.length + uptoBulk d + 1
  | (_, d) => uptoBulk d + 1
 end
def uptoSmall : (H : Type) → List (DataW H) → Bool := fun _ ds => decide (uptoBulkAll ds ≤ 1048576)
def OpenSpec.upto (s : _root_.Go.ChangeSpec) : _root_.Go.OpenSpec := { _root_.Go.OpenSpec.ofChange s with cond := some uptoSmall }

/-- 'smartcardlaw03.CheckLinear', WHERE WHAT IT READS IS OF BULK AT MOST 1048576: true; the input reads as it did. -/
def checkLinearUptoRow : OpenClaim := { program := "ytkcmbdnfohkjkaa", sum := "2eccccd68fbd19c30e6f616858b6170ecb6acb5b0ad226e90ddb2b0d5c1bd0ab", func := "smartcard/smartcardlaw03.CheckLinear", spec := "checkLinear", apart := false, narrowed := true }
def CheckLinearUptoSaid : Prop := checkLinearUptoRow.holds Try.pinned (OpenSpec.upto checkLinearSpec)

/-- 'smartcardlaw03.CheckSums', WHERE WHAT IT READS IS OF BULK AT MOST 1048576: true; the input reads as it did. -/
def checkSumsUptoRow : OpenClaim := { program := "ytkcmbdnfohkjkaa", sum := "2eccccd68fbd19c30e6f616858b6170ecb6acb5b0ad226e90ddb2b0d5c1bd0ab", func := "smartcard/smartcardlaw03.CheckSums", spec := "checkSums", apart := false, narrowed := true }
def CheckSumsUptoSaid : Prop := checkSumsUptoRow.holds Try.pinned (OpenSpec.upto checkSumsSpec)

/-- 'smartcardlaw03.CheckAppends', WHERE WHAT IT READS IS OF BULK AT MOST 1048576: true; the input reads as it did. -/
def checkAppendsUptoRow : OpenClaim := { program := "ytkcmbdnfohkjkaa", sum := "2eccccd68fbd19c30e6f616858b6170ecb6acb5b0ad226e90ddb2b0d5c1bd0ab", func := "smartcard/smartcardlaw03.CheckAppends", spec := "checkAppends", apart := false, narrowed := true }
def CheckAppendsUptoSaid : Prop := checkAppendsUptoRow.holds Try.pinned (OpenSpec.upto checkAppendsSpec)

/-- 'smartcardlaw03.CheckRemoves', WHERE WHAT IT READS IS OF BULK AT MOST 1048576: true; the input reads as it did. -/
def checkRemovesUptoRow : OpenClaim := { program := "ytkcmbdnfohkjkaa", sum := "2eccccd68fbd19c30e6f616858b6170ecb6acb5b0ad226e90ddb2b0d5c1bd0ab", func := "smartcard/smartcardlaw03.CheckRemoves", spec := "checkRemoves", apart := false, narrowed := true }
def CheckRemovesUptoSaid : Prop := checkRemovesUptoRow.holds Try.pinned (OpenSpec.upto checkRemovesSpec)

/-- 'smartcardlaw03.CheckRestores', WHERE WHAT IT READS IS OF BULK AT MOST 1048576: true; the input reads as it did. -/
def checkRestoresUptoRow : OpenClaim := { program := "ytkcmbdnfohkjkaa", sum := "2eccccd68fbd19c30e6f616858b6170ecb6acb5b0ad226e90ddb2b0d5c1bd0ab", func := "smartcard/smartcardlaw03.CheckRestores", spec := "checkRestores", apart := false, narrowed := true }
def CheckRestoresUptoSaid : Prop := checkRestoresUptoRow.holds Try.pinned (OpenSpec.upto checkRestoresSpec)

/-- 'smartcardlaw03.CheckDetects', WHERE WHAT IT READS IS OF BULK AT MOST 1048576: true; the input reads as it did. -/
def checkDetectsUptoRow : OpenClaim := { program := "ytkcmbdnfohkjkaa", sum := "2eccccd68fbd19c30e6f616858b6170ecb6acb5b0ad226e90ddb2b0d5c1bd0ab", func := "smartcard/smartcardlaw03.CheckDetects", spec := "checkDetects", apart := false, narrowed := true }
def CheckDetectsUptoSaid : Prop := checkDetectsUptoRow.holds Try.pinned (OpenSpec.upto checkDetectsSpec)

/-- 'smartcardlaw03.CheckBursts', WHERE WHAT IT READS IS OF BULK AT MOST 1048576: true; the input reads as it did. -/
def checkBurstsUptoRow : OpenClaim := { program := "ytkcmbdnfohkjkaa", sum := "2eccccd68fbd19c30e6f616858b6170ecb6acb5b0ad226e90ddb2b0d5c1bd0ab", func := "smartcard/smartcardlaw03.CheckBursts", spec := "checkBursts", apart := false, narrowed := true }
def CheckBurstsUptoSaid : Prop := checkBurstsUptoRow.holds Try.pinned (OpenSpec.upto checkBurstsSpec)

end Rows
end Go.Proofs.Ytkcmbdnfohkjkaa
