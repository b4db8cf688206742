/-
  No cell of these rows narrows 'for every input' (looked for: loops, veiled, ifaces, maps, wideKeys, modest, calm, conditions, laid).
  DERIVED. THE GIVEN ROWS OF THIS SEAT. 3 by the template 'for every input the law returns true; each argument reads behind the call as it read before'; 0 by the template 'total and deterministic' (their statements: YtlkbbalidlhgmaaTotals.lean).
  GIVEN WITH THE SEED: the statements are not yours to turn. If you find one false, say at which input.
  Laid BY PROGRAM, IN A SANDBOX (cutbox-rows.mjs): the forced cells as the released guide's own fill.sh prints them over the translation 2e9cab90635bca01… (all of the seat's roots in one cut). By AI agents, Wed Nov 11 2026. No macro, syntax, notation, axiom, sorry.
-/
import Derived.Test.YtlkbbalidlhgmaaChecked
import GoSem.Claim
import GoSem.ClaimJoined
import GoSem.ClaimMapViews
import Derived.JoinedTies
import Derived.KernelRfl
namespace Go.Proofs.Ytlkbbalidlhgmaa
/- THE CELL 'sum', in the pinned program and in every row, IS THE sha256 OF THE DUMP (.gsa) THAT YtlkbbalidlhgmaaProg.lean LOADS. Nothing in Lean hashes anything: it is a label: what it is worth is what the hold of that sum in a sandbox is worth. -/
noncomputable def Try.pinned : Pinned := { name := "ytlkbbalidlhgmaa", sum := "2e9cab90635bca01ca5432a694adfab16f95ce827c1992fa299d7b3ead3088d6", checked := Try.checked }
namespace Rows
def none {H : Type} : Left H := { results := [], args := [] }

/-- 'smartcardlaw45.LineDamages': WHATEVER THE INPUT: true; the input reads as it did. -/
def lineDamagesSpec : ChangeSpec := { name := "lineDamages", fn := fun _ => fun
  | [d1, d2] => { results := [.lit (.bool true)], args := [d1, d2] }
  | _ => none }
def lineDamagesRow : OpenClaim := { program := "ytlkbbalidlhgmaa", sum := "2e9cab90635bca01ca5432a694adfab16f95ce827c1992fa299d7b3ead3088d6", func := "smartcard/smartcardlaw45.LineDamages", spec := "lineDamages", apart := false }
def LineDamagesSaid : Prop := lineDamagesRow.holds Try.pinned (OpenSpec.ofChange lineDamagesSpec)

/-- ITS FALSE NEIGHBOUR: 'it returns false'. Refute it at one input. -/
def lineDamagesWrong : ChangeSpec := { name := "lineDamages", fn := fun _ => fun
  | [d1, d2] => { results := [.lit (.bool false)], args := [d1, d2] }
  | _ => none }
def LineDamagesWrongFalsely : Prop := lineDamagesRow.holds Try.pinned (OpenSpec.ofChange lineDamagesWrong)

/-- 'smartcardlaw45.LineCarries': WHATEVER THE INPUT: true; the input reads as it did. -/
def lineCarriesSpec : ChangeSpec := { name := "lineCarries", fn := fun _ => fun
  | [d1, d2] => { results := [.lit (.bool true)], args := [d1, d2] }
  | _ => none }
def lineCarriesRow : OpenClaim := { program := "ytlkbbalidlhgmaa", sum := "2e9cab90635bca01ca5432a694adfab16f95ce827c1992fa299d7b3ead3088d6", func := "smartcard/smartcardlaw45.LineCarries", spec := "lineCarries", apart := false }
def LineCarriesSaid : Prop := lineCarriesRow.holds Try.pinned (OpenSpec.ofChange lineCarriesSpec)

/-- ITS FALSE NEIGHBOUR: 'it returns false'. Refute it at one input. -/
def lineCarriesWrong : ChangeSpec := { name := "lineCarries", fn := fun _ => fun
  | [d1, d2] => { results := [.lit (.bool false)], args := [d1, d2] }
  | _ => none }
def LineCarriesWrongFalsely : Prop := lineCarriesRow.holds Try.pinned (OpenSpec.ofChange lineCarriesWrong)

/-- 'smartcardlaw45.LineForgets': WHATEVER THE INPUT: true; the input reads as it did. -/
def lineForgetsSpec : ChangeSpec := { name := "lineForgets", fn := fun _ => fun
  | [d1, d2] => { results := [.lit (.bool true)], args := [d1, d2] }
  | _ => none }
def lineForgetsRow : OpenClaim := { program := "ytlkbbalidlhgmaa", sum := "2e9cab90635bca01ca5432a694adfab16f95ce827c1992fa299d7b3ead3088d6", func := "smartcard/smartcardlaw45.LineForgets", spec := "lineForgets", apart := false }
def LineForgetsSaid : Prop := lineForgetsRow.holds Try.pinned (OpenSpec.ofChange lineForgetsSpec)

/-- ITS FALSE NEIGHBOUR: 'it returns false'. Refute it at one input. -/
def lineForgetsWrong : ChangeSpec := { name := "lineForgets", fn := fun _ => fun
  | [d1, d2] => { results := [.lit (.bool false)], args := [d1, d2] }
  | _ => none }
def LineForgetsWrongFalsely : Prop := lineForgetsRow.holds Try.pinned (OpenSpec.ofChange lineForgetsWrong)

/- THE SECOND FORM. 'bulk': how many values and letters a reading holds, each counted each time it is reached (what is shared counts as often as it is met; a slice's spare places count too). A statement '..UptoSaid' is the law's where the arguments, and the package variables that the reading takes, are together of bulk at most 1048576: NARROWER than '..Said'. Prove '..Said' where nothing that the law and all that it calls make is longer than what came in: it says more and counts as full. Else prove '..UptoSaid'. A law counts once. -/
mutual
def uptoBulk {H : Type} : DataW H → Nat
  | .lit (.string bytes) => bytes.length + 1
  | .lit _ => 1
  | .nil => 1
  | .ptr d => uptoBulk d + 1
  | .slice elems spare => uptoBulkAll elems + uptoBulkAll spare + 1
  | .agg parts => uptoBulkAll parts + 1
  | .iface _ d => uptoBulk d + 1
  | .map entries => uptoBulkEntries entries + 1
  | .held _ => 1
def uptoBulkAll {H : Type} : List (DataW H) → Nat
  | [] => 0
  | d :: r => uptoBulk d + uptoBulkAll r
def uptoBulkEntries {H : Type} : List (Lit × DataW H) → Nat
  | [] => 0
  | x :: r => uptoBulkEntry x + uptoBulkEntries r
def uptoBulkEntry {H : Type} : Lit × DataW H → Nat
  | (.string bytes, d) => bytes.length + uptoBulk d + 1
  | (_, d) => uptoBulk d + 1
 end
def uptoSmall : (H : Type) → List (DataW H) → Bool := fun _ ds => decide (uptoBulkAll ds ≤ 1048576)
def OpenSpec.upto (s : _root_.Go.ChangeSpec) : _root_.Go.OpenSpec := { _root_.Go.OpenSpec.ofChange s with cond := some uptoSmall }

/-- 'smartcardlaw45.LineDamages', WHERE WHAT IT READS IS OF BULK AT MOST 1048576: true; the input reads as it did. -/
def lineDamagesUptoRow : OpenClaim := { program := "ytlkbbalidlhgmaa", sum := "2e9cab90635bca01ca5432a694adfab16f95ce827c1992fa299d7b3ead3088d6", func := "smartcard/smartcardlaw45.LineDamages", spec := "lineDamages", apart := false, narrowed := true }
def LineDamagesUptoSaid : Prop := lineDamagesUptoRow.holds Try.pinned (OpenSpec.upto lineDamagesSpec)

/-- 'smartcardlaw45.LineCarries', WHERE WHAT IT READS IS OF BULK AT MOST 1048576: true; the input reads as it did. -/
def lineCarriesUptoRow : OpenClaim := { program := "ytlkbbalidlhgmaa", sum := "2e9cab90635bca01ca5432a694adfab16f95ce827c1992fa299d7b3ead3088d6", func := "smartcard/smartcardlaw45.LineCarries", spec := "lineCarries", apart := false, narrowed := true }
def LineCarriesUptoSaid : Prop := lineCarriesUptoRow.holds Try.pinned (OpenSpec.upto lineCarriesSpec)

/-- 'smartcardlaw45.LineForgets', WHERE WHAT IT READS IS OF BULK AT MOST 1048576: true; the input reads as it did. -/
def lineForgetsUptoRow : OpenClaim := { program := "ytlkbbalidlhgmaa", sum := "2e9cab90635bca01ca5432a694adfab16f95ce827c1992fa299d7b3ead3088d6", func := "smartcard/smartcardlaw45.LineForgets", spec := "lineForgets", apart := false, narrowed := true }
def LineForgetsUptoSaid : Prop := lineForgetsUptoRow.holds Try.pinned (OpenSpec.upto lineForgetsSpec)

end Rows
end Go.Proofs.Ytlkbbalidlhgmaa
