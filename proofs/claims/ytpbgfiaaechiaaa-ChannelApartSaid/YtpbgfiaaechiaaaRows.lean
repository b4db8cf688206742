/-
  No cell of these rows narrows 'for every input' (looked for: loops, veiled, ifaces, maps, wideKeys, modest, calm, conditions, laid).
  DERIVED. THE GIVEN ROWS OF THIS SEAT. 5 by the template 'for every input the law returns true; each argument reads behind the call as it read before'; 0 by the template 'total and deterministic' (their statements: YtpbgfiaaechiaaaTotals.lean).
  GIVEN WITH THE SEED: the statements are not yours to turn. If you find one false, say at which input.
  Laid BY PROGRAM, IN A SANDBOX (cutbox-rows.mjs): the forced cells as the released guide's own fill.sh prints them over the translation f47f144c62d88691… (all of the seat's roots in one cut). By AI agents, Wed Nov 11 2026. No macro, syntax, notation, axiom, sorry.
-/
import Derived.Test.YtpbgfiaaechiaaaChecked
import GoSem.Claim
import GoSem.ClaimJoined
import GoSem.ClaimMapViews
import Derived.JoinedTies
import Derived.KernelRfl
namespace Go.Proofs.Ytpbgfiaaechiaaa
/- THE CELL 'sum', in the pinned program and in every row, IS THE sha256 OF THE DUMP (.gsa) THAT YtpbgfiaaechiaaaProg.lean LOADS. Nothing in Lean hashes anything: it is a label: what it is worth is what the hold of that sum in a sandbox is worth. -/
noncomputable def Try.pinned : Pinned := { name := "ytpbgfiaaechiaaa", sum := "f47f144c62d88691bcdfec6838bdb4e07ebce8b402c36a1f1fb5c2ed18e9b204", checked := Try.checked }
namespace Rows
def none {H : Type} : Left H := { results := [], args := [] }

/-- 'smartcardlaw37.ChannelWith': WHATEVER THE INPUT: true; the input reads as it did. -/
def channelWithSpec : ChangeSpec := { name := "channelWith", fn := fun _ => fun
  | [d1, d2] => { results := [.lit (.bool true)], args := [d1, d2] }
  | _ => none }
def channelWithRow : OpenClaim := { program := "ytpbgfiaaechiaaa", sum := "f47f144c62d88691bcdfec6838bdb4e07ebce8b402c36a1f1fb5c2ed18e9b204", func := "smartcard/smartcardlaw37.ChannelWith", spec := "channelWith", apart := false }
def ChannelWithSaid : Prop := channelWithRow.holds Try.pinned (OpenSpec.ofChange channelWithSpec)

/-- ITS FALSE NEIGHBOUR: 'it returns false'. Refute it at one input. -/
def channelWithWrong : ChangeSpec := { name := "channelWith", fn := fun _ => fun
  | [d1, d2] => { results := [.lit (.bool false)], args := [d1, d2] }
  | _ => none }
def ChannelWithWrongFalsely : Prop := channelWithRow.holds Try.pinned (OpenSpec.ofChange channelWithWrong)

/-- 'smartcardlaw37.ChannelZero': WHATEVER THE INPUT: true; the input reads as it did. -/
def channelZeroSpec : ChangeSpec := { name := "channelZero", fn := fun _ => fun
  | [d1, d2] => { results := [.lit (.bool true)], args := [d1, d2] }
  | _ => none }
def channelZeroRow : OpenClaim := { program := "ytpbgfiaaechiaaa", sum := "f47f144c62d88691bcdfec6838bdb4e07ebce8b402c36a1f1fb5c2ed18e9b204", func := "smartcard/smartcardlaw37.ChannelZero", spec := "channelZero", apart := false }
def ChannelZeroSaid : Prop := channelZeroRow.holds Try.pinned (OpenSpec.ofChange channelZeroSpec)

/-- ITS FALSE NEIGHBOUR: 'it returns false'. Refute it at one input. -/
def channelZeroWrong : ChangeSpec := { name := "channelZero", fn := fun _ => fun
  | [d1, d2] => { results := [.lit (.bool false)], args := [d1, d2] }
  | _ => none }
def ChannelZeroWrongFalsely : Prop := channelZeroRow.holds Try.pinned (OpenSpec.ofChange channelZeroWrong)

/-- 'smartcardlaw37.ChannelApart': WHATEVER THE INPUT: true; the input reads as it did. -/
def channelApartSpec : ChangeSpec := { name := "channelApart", fn := fun _ => fun
  | [d1, d2] => { results := [.lit (.bool true)], args := [d1, d2] }
  | _ => none }
def channelApartRow : OpenClaim := { program := "ytpbgfiaaechiaaa", sum := "f47f144c62d88691bcdfec6838bdb4e07ebce8b402c36a1f1fb5c2ed18e9b204", func := "smartcard/smartcardlaw37.ChannelApart", spec := "channelApart", apart := false }
def ChannelApartSaid : Prop := channelApartRow.holds Try.pinned (OpenSpec.ofChange channelApartSpec)

/-- ITS FALSE NEIGHBOUR: 'it returns false'. Refute it at one input. -/
def channelApartWrong : ChangeSpec := { name := "channelApart", fn := fun _ => fun
  | [d1, d2] => { results := [.lit (.bool false)], args := [d1, d2] }
  | _ => none }
def ChannelApartWrongFalsely : Prop := channelApartRow.holds Try.pinned (OpenSpec.ofChange channelApartWrong)

/-- 'smartcardlaw37.ChannelModel': WHATEVER THE INPUT: true; the input reads as it did. -/
def channelModelSpec : ChangeSpec := { name := "channelModel", fn := fun _ => fun
  | [d] => { results := [.lit (.bool true)], args := [d] }
  | _ => none }
def channelModelRow : OpenClaim := { program := "ytpbgfiaaechiaaa", sum := "f47f144c62d88691bcdfec6838bdb4e07ebce8b402c36a1f1fb5c2ed18e9b204", func := "smartcard/smartcardlaw37.ChannelModel", spec := "channelModel", apart := false }
def ChannelModelSaid : Prop := channelModelRow.holds Try.pinned (OpenSpec.ofChange channelModelSpec)

/-- ITS FALSE NEIGHBOUR: 'it returns false'. Refute it at one input. -/
def channelModelWrong : ChangeSpec := { name := "channelModel", fn := fun _ => fun
  | [d] => { results := [.lit (.bool false)], args := [d] }
  | _ => none }
def ChannelModelWrongFalsely : Prop := channelModelRow.holds Try.pinned (OpenSpec.ofChange channelModelWrong)

/-- 'smartcardlaw37.ChannelNil': WHATEVER THE INPUT: true; the input reads as it did. -/
def channelNilSpec : ChangeSpec := { name := "channelNil", fn := fun _ => fun
  | [d1, d2, d3] => { results := [.lit (.bool true)], args := [d1, d2, d3] }
  | _ => none }
def channelNilRow : OpenClaim := { program := "ytpbgfiaaechiaaa", sum := "f47f144c62d88691bcdfec6838bdb4e07ebce8b402c36a1f1fb5c2ed18e9b204", func := "smartcard/smartcardlaw37.ChannelNil", spec := "channelNil", apart := false }
def ChannelNilSaid : Prop := channelNilRow.holds Try.pinned (OpenSpec.ofChange channelNilSpec)

/-- ITS FALSE NEIGHBOUR: 'it returns false'. Refute it at one input. -/
def channelNilWrong : ChangeSpec := { name := "channelNil", fn := fun _ => fun
  | [d1, d2, d3] => { results := [.lit (.bool false)], args := [d1, d2, d3] }
  | _ => none }
def ChannelNilWrongFalsely : Prop := channelNilRow.holds Try.pinned (OpenSpec.ofChange channelNilWrong)

/- THE SECOND FORM. 'bulk': how many values and letters a reading holds, each counted each time it is reached (what is shared counts as often as it is met; a slice's spare places count too). A statement '..UptoSaid' is the law's where the arguments, and the package variables that the reading takes, are together of bulk at most 1048576: NARROWER than '..Said'. Prove '..Said' where nothing that the law and all that it calls make is longer than what came in: it says more and counts as full. Else prove '..UptoSaid'. A law counts once. -/
mutual
def uptoBulk {H : Type} : DataW H → Nat
  | .lit (.string bytes) => bytes.length + 1
  | .lit _ => 1
  | .nil => 1
  | .ptr d => uptoBulk d + 1
  | .slice elems spare => uptoBulkAll elems + uptoBulkAll spare + 1
  | .agg parts => uptoBulkAll parts + 1
  | .iface _ d => uptoBulk d + 1
  | .map entries => uptoBulkEntries entries + 1
  | .held _ => 1
def uptoBulkAll {H : Type} : List (DataW H) → Nat
  | [] => 0
  | d :: r => uptoBulk d + uptoBulkAll r
def uptoBulkEntries {H : Type} : List (Lit × DataW H) → Nat
  | [] => 0
  | x :: r => uptoBulkEntry x + uptoBulkEntries r
def uptoBulkEntry {H : Type} : Lit × DataW H → Nat
  | (.string bytes, d) => bytes.length + uptoBulk d + 1
  | (_, d) => uptoBulk d + 1
 end
def uptoSmall : (H : Type) → List (DataW H) → Bool := fun _ ds => decide (uptoBulkAll ds ≤ 1048576)
def OpenSpec.upto (s : _root_.Go.ChangeSpec) : _root_.Go.OpenSpec := { _root_.Go.OpenSpec.ofChange s with cond := some uptoSmall }

/-- 'smartcardlaw37.ChannelWith', WHERE WHAT IT READS IS OF BULK AT MOST 1048576: true; the input reads as it did. -/
def channelWithUptoRow : OpenClaim := { program := "ytpbgfiaaechiaaa", sum := "f47f144c62d88691bcdfec6838bdb4e07ebce8b402c36a1f1fb5c2ed18e9b204", func := "smartcard/smartcardlaw37.ChannelWith", spec := "channelWith", apart := false, narrowed := true }
def ChannelWithUptoSaid : Prop := channelWithUptoRow.holds Try.pinned (OpenSpec.upto channelWithSpec)

/-- 'smartcardlaw37.ChannelZero', WHERE WHAT IT READS IS OF BULK AT MOST 1048576: true; the input reads as it did. -/
def channelZeroUptoRow : OpenClaim := { program := "ytpbgfiaaechiaaa", sum := "f47f144c62d88691bcdfec6838bdb4e07ebce8b402c36a1f1fb5c2ed18e9b204", func := "smartcard/smartcardlaw37.ChannelZero", spec := "channelZero", apart := false, narrowed := true }
def ChannelZeroUptoSaid : Prop := channelZeroUptoRow.holds Try.pinned (OpenSpec.upto channelZeroSpec)

/-- 'smartcardlaw37.ChannelApart', WHERE WHAT IT READS IS OF BULK AT MOST 1048576: true; the input reads as it did. -/
def channelApartUptoRow : OpenClaim := { program := "ytpbgfiaaechiaaa", sum := "f47f144c62d88691bcdfec6838bdb4e07ebce8b402c36a1f1fb5c2ed18e9b204", func := "smartcard/smartcardlaw37.ChannelApart", spec := "channelApart", apart := false, narrowed := true }
def ChannelApartUptoSaid : Prop := channelApartUptoRow.holds Try.pinned (OpenSpec.upto channelApartSpec)

/-- 'smartcardlaw37.ChannelModel', WHERE WHAT IT READS IS OF BULK AT MOST 1048576: true; the input reads as it did. -/
def channelModelUptoRow : OpenClaim := { program := "ytpbgfiaaechiaaa", sum := "f47f144c62d88691bcdfec6838bdb4e07ebce8b402c36a1f1fb5c2ed18e9b204", func := "smartcard/smartcardlaw37.ChannelModel", spec := "channelModel", apart := false, narrowed := true }
def ChannelModelUptoSaid : Prop := channelModelUptoRow.holds Try.pinned (OpenSpec.upto channelModelSpec)

/-- 'smartcardlaw37.ChannelNil', WHERE WHAT IT READS IS OF BULK AT MOST 1048576: true; the input reads as it did. -/
def channelNilUptoRow : OpenClaim := { program := "ytpbgfiaaechiaaa", sum := "f47f144c62d88691bcdfec6838bdb4e07ebce8b402c36a1f1fb5c2ed18e9b204", func := "smartcard/smartcardlaw37.ChannelNil", spec := "channelNil", apart := false, narrowed := true }
def ChannelNilUptoSaid : Prop := channelNilUptoRow.holds Try.pinned (OpenSpec.upto channelNilSpec)

end Rows
end Go.Proofs.Ytpbgfiaaechiaaa
