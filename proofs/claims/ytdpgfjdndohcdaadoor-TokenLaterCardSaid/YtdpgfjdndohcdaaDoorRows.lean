/-
  NARROWER THAN 'FOR EVERY INPUT', by the rows' own cells (each row's printed sentence says how): TokenSpoilt: laid · TokenLater: laid · TokenJoins: laid · TokenEncodes: laid · TokenDecodes: laid · TokenApart: laid.
  DERIVED. THE GIVEN ROWS OF THIS SEAT. 6 by the template 'for every input the law returns true; each argument reads behind the call as it read before'; 0 by the template 'total and deterministic' (their statements: YtdpgfjdndohcdaaDoorTotals.lean).
  GIVEN WITH THE SEED: the statements are not yours to turn. If you find one false, say at which input.
  Laid BY PROGRAM, IN A SANDBOX (cutbox-rows.mjs): the forced cells as the released guide's own fill.sh prints them over the translation 62c9dd9e699613d6… (all of the seat's roots in one cut). By AI agents, Wed Nov 11 2026. No macro, syntax, notation, axiom, sorry.
-/
import Derived.Test.YtdpgfjdndohcdaaDoorChecked
import GoSem.Claim
import GoSem.ClaimJoined
import GoSem.ClaimMapViews
import Derived.JoinedTies
import Derived.KernelRfl
namespace Go.Proofs.YtdpgfjdndohcdaaDoor
/- THE CELL 'sum', in the pinned program and in every row, IS THE sha256 OF THE DUMP (.gsa) THAT YtdpgfjdndohcdaaDoorProg.lean LOADS. Nothing in Lean hashes anything: it is a label: what it is worth is what the hold of that sum in a sandbox is worth. -/
noncomputable def Tryd.pinned : Pinned := { name := "ytdpgfjdndohcdaadoor", sum := "62c9dd9e699613d6cb0ab7a3435f6bf69f23911a775d192c35616bebb8f8f5f9", checked := Tryd.checked }
namespace Rows
def none {H : Type} : Left H := { results := [], args := [] }

/- WHAT THE LISTED PACKAGE-LEVEL VARIABLES READ AS WHEN THE CALL BEGINS. Each datum BY PROGRAM (the guide's laid-datum.mjs) off the statement by which the dump's own 'gosem.cut.vars' lays the variable. In a bare row this is a premise. The card (YtdpgfjdndohcdaaDoorCards.lean) ties it to the program's text. -/
def laid_tidemark_wire_table {H : Type} : DataW H := .agg [.lit (.int .u32 0), .lit (.int .u32 498536548), .lit (.int .u32 997073096), .lit (.int .u32 651767980), .lit (.int .u32 1994146192), .lit (.int .u32 1802195444), .lit (.int .u32 1303535960), .lit (.int .u32 1342533948), .lit (.int .u32 3988292384), .lit (.int .u32 4027552580), .lit (.int .u32 3604390888), .lit (.int .u32 3412177804), .lit (.int .u32 2607071920), .lit (.int .u32 2262029012), .lit (.int .u32 2685067896), .lit (.int .u32 3183342108)]
def laid_tidemark_token_digits {H : Type} : DataW H := .agg [.lit (.int .u8 48), .lit (.int .u8 49), .lit (.int .u8 50), .lit (.int .u8 51), .lit (.int .u8 52), .lit (.int .u8 53), .lit (.int .u8 54), .lit (.int .u8 55), .lit (.int .u8 56), .lit (.int .u8 57), .lit (.int .u8 97), .lit (.int .u8 98), .lit (.int .u8 99), .lit (.int .u8 100), .lit (.int .u8 101), .lit (.int .u8 102)]

/-- 'tidemarklaw4.TokenSpoilt': WHATEVER THE INPUT: true; the input reads as it did. -/
def tokenSpoiltSpec : ChangeSpec := { name := "tokenSpoilt", fn := fun _ => fun
  | [d] => { results := [.lit (.bool true)], args := [d] }
  | _ => none }
def tokenSpoiltRow : OpenClaim := { program := "ytdpgfjdndohcdaadoor", sum := "62c9dd9e699613d6cb0ab7a3435f6bf69f23911a775d192c35616bebb8f8f5f9", func := "tidemark/tidemarklaw4.TokenSpoilt", spec := "tokenSpoilt", inPlace := ["internal/abi.NoEscape"], named := ["tidemark/wire.table", "tidemark/token.digits"], apart := false, laid := [("tidemark/wire.table", laid_tidemark_wire_table), ("tidemark/token.digits", laid_tidemark_token_digits)] }
def TokenSpoiltSaid : Prop := tokenSpoiltRow.holds Tryd.pinned (OpenSpec.ofChange tokenSpoiltSpec)

/-- ITS FALSE NEIGHBOUR: 'it returns false'. Refute it at one input. -/
def tokenSpoiltWrong : ChangeSpec := { name := "tokenSpoilt", fn := fun _ => fun
  | [d] => { results := [.lit (.bool false)], args := [d] }
  | _ => none }
def TokenSpoiltWrongFalsely : Prop := tokenSpoiltRow.holds Tryd.pinned (OpenSpec.ofChange tokenSpoiltWrong)

/-- 'tidemarklaw4.TokenLater': WHATEVER THE INPUT: true; the input reads as it did. -/
def tokenLaterSpec : ChangeSpec := { name := "tokenLater", fn := fun _ => fun
  | [d] => { results := [.lit (.bool true)], args := [d] }
  | _ => none }
def tokenLaterRow : OpenClaim := { program := "ytdpgfjdndohcdaadoor", sum := "62c9dd9e699613d6cb0ab7a3435f6bf69f23911a775d192c35616bebb8f8f5f9", func := "tidemark/tidemarklaw4.TokenLater", spec := "tokenLater", inPlace := ["internal/abi.NoEscape"], named := ["tidemark/wire.table", "tidemark/token.digits"], apart := false, laid := [("tidemark/wire.table", laid_tidemark_wire_table), ("tidemark/token.digits", laid_tidemark_token_digits)] }
def TokenLaterSaid : Prop := tokenLaterRow.holds Tryd.pinned (OpenSpec.ofChange tokenLaterSpec)

/-- ITS FALSE NEIGHBOUR: 'it returns false'. Refute it at one input. -/
def tokenLaterWrong : ChangeSpec := { name := "tokenLater", fn := fun _ => fun
  | [d] => { results := [.lit (.bool false)], args := [d] }
  | _ => none }
def TokenLaterWrongFalsely : Prop := tokenLaterRow.holds Tryd.pinned (OpenSpec.ofChange tokenLaterWrong)

/-- 'tidemarklaw4.TokenJoins': WHATEVER THE INPUT: true; the input reads as it did. -/
def tokenJoinsSpec : ChangeSpec := { name := "tokenJoins", fn := fun _ => fun
  | [d] => { results := [.lit (.bool true)], args := [d] }
  | _ => none }
def tokenJoinsRow : OpenClaim := { program := "ytdpgfjdndohcdaadoor", sum := "62c9dd9e699613d6cb0ab7a3435f6bf69f23911a775d192c35616bebb8f8f5f9", func := "tidemark/tidemarklaw4.TokenJoins", spec := "tokenJoins", named := ["tidemark/token.digits", "tidemark/wire.table"], apart := false, laid := [("tidemark/wire.table", laid_tidemark_wire_table), ("tidemark/token.digits", laid_tidemark_token_digits)] }
def TokenJoinsSaid : Prop := tokenJoinsRow.holds Tryd.pinned (OpenSpec.ofChange tokenJoinsSpec)

/-- ITS FALSE NEIGHBOUR: 'it returns false'. Refute it at one input. -/
def tokenJoinsWrong : ChangeSpec := { name := "tokenJoins", fn := fun _ => fun
  | [d] => { results := [.lit (.bool false)], args := [d] }
  | _ => none }
def TokenJoinsWrongFalsely : Prop := tokenJoinsRow.holds Tryd.pinned (OpenSpec.ofChange tokenJoinsWrong)

/-- 'tidemarklaw4.TokenEncodes': WHATEVER THE INPUT: true; the input reads as it did. -/
def tokenEncodesSpec : ChangeSpec := { name := "tokenEncodes", fn := fun _ => fun
  | [d] => { results := [.lit (.bool true)], args := [d] }
  | _ => none }
def tokenEncodesRow : OpenClaim := { program := "ytdpgfjdndohcdaadoor", sum := "62c9dd9e699613d6cb0ab7a3435f6bf69f23911a775d192c35616bebb8f8f5f9", func := "tidemark/tidemarklaw4.TokenEncodes", spec := "tokenEncodes", inPlace := ["internal/abi.NoEscape"], named := ["tidemark/wire.table", "tidemark/token.digits"], apart := false, laid := [("tidemark/wire.table", laid_tidemark_wire_table), ("tidemark/token.digits", laid_tidemark_token_digits)] }
def TokenEncodesSaid : Prop := tokenEncodesRow.holds Tryd.pinned (OpenSpec.ofChange tokenEncodesSpec)

/-- ITS FALSE NEIGHBOUR: 'it returns false'. Refute it at one input. -/
def tokenEncodesWrong : ChangeSpec := { name := "tokenEncodes", fn := fun _ => fun
  | [d] => { results := [.lit (.bool false)], args := [d] }
  | _ => none }
def TokenEncodesWrongFalsely : Prop := tokenEncodesRow.holds Tryd.pinned (OpenSpec.ofChange tokenEncodesWrong)

/-- 'tidemarklaw4.TokenDecodes': WHATEVER THE INPUT: true; the input reads as it did. -/
def tokenDecodesSpec : ChangeSpec := { name := "tokenDecodes", fn := fun _ => fun
  | [d] => { results := [.lit (.bool true)], args := [d] }
  | _ => none }
def tokenDecodesRow : OpenClaim := { program := "ytdpgfjdndohcdaadoor", sum := "62c9dd9e699613d6cb0ab7a3435f6bf69f23911a775d192c35616bebb8f8f5f9", func := "tidemark/tidemarklaw4.TokenDecodes", spec := "tokenDecodes", inPlace := ["internal/abi.NoEscape"], named := ["tidemark/token.digits", "tidemark/wire.table"], apart := false, laid := [("tidemark/wire.table", laid_tidemark_wire_table), ("tidemark/token.digits", laid_tidemark_token_digits)] }
def TokenDecodesSaid : Prop := tokenDecodesRow.holds Tryd.pinned (OpenSpec.ofChange tokenDecodesSpec)

/-- ITS FALSE NEIGHBOUR: 'it returns false'. Refute it at one input. -/
def tokenDecodesWrong : ChangeSpec := { name := "tokenDecodes", fn := fun _ => fun
  | [d] => { results := [.lit (.bool false)], args := [d] }
  | _ => none }
def TokenDecodesWrongFalsely : Prop := tokenDecodesRow.holds Tryd.pinned (OpenSpec.ofChange tokenDecodesWrong)

/-- 'tidemarklaw4.TokenApart': WHATEVER THE INPUT: true; the input reads as it did. -/
def tokenApartSpec : ChangeSpec := { name := "tokenApart", fn := fun _ => fun
  | [d] => { results := [.lit (.bool true)], args := [d] }
  | _ => none }
def tokenApartRow : OpenClaim := { program := "ytdpgfjdndohcdaadoor", sum := "62c9dd9e699613d6cb0ab7a3435f6bf69f23911a775d192c35616bebb8f8f5f9", func := "tidemark/tidemarklaw4.TokenApart", spec := "tokenApart", inPlace := ["internal/abi.NoEscape"], named := ["tidemark/wire.table", "tidemark/token.digits"], apart := false, laid := [("tidemark/wire.table", laid_tidemark_wire_table), ("tidemark/token.digits", laid_tidemark_token_digits)] }
def TokenApartSaid : Prop := tokenApartRow.holds Tryd.pinned (OpenSpec.ofChange tokenApartSpec)

/-- ITS FALSE NEIGHBOUR: 'it returns false'. Refute it at one input. -/
def tokenApartWrong : ChangeSpec := { name := "tokenApart", fn := fun _ => fun
  | [d] => { results := [.lit (.bool false)], args := [d] }
  | _ => none }
def TokenApartWrongFalsely : Prop := tokenApartRow.holds Tryd.pinned (OpenSpec.ofChange tokenApartWrong)

/- THE SECOND FORM. 'bulk': how many values and letters a reading holds, each counted each time it is reached (what is shared counts as often as it is met; a slice's spare places count too). A statement '..UptoSaid' is the law's where the arguments, and the package variables that the reading takes, are together of bulk at most 1048576: NARROWER than '..Said'. Prove '..Said' where nothing that the law and all that it calls make is longer than what came in: it says more and counts as full. Else prove '..UptoSaid'. A law counts once. -/
mutual
def uptoBulk {H : Type} : DataW H → Nat
  | .lit (.string bytes) => bytes.length + 1
  | .lit _ => 1
  | .nil => 1
  | .ptr d => uptoBulk d + 1
  | .slice elems spare => uptoBulkAll elems + uptoBulkAll spare + 1
  | .agg parts => uptoBulkAll parts + 1
  | .iface _ d => uptoBulk d + 1
  | .map entries => uptoBulkEntries entries + 1
  | .held _ => 1
def uptoBulkAll {H : Type} : List (DataW H) → Nat
  | [] => 0
  | d :: r => uptoBulk d + uptoBulkAll r
def uptoBulkEntries {H : Type} : List (Lit × DataW H) → Nat
  | [] => 0
  | x :: r => uptoBulkEntry x + uptoBulkEntries r
def uptoBulkEntry {H : Type} : Lit × DataW H → Nat
  | (.string bytes, d) => bytes.length + uptoBulk d + 1
  | (_, d) => uptoBulk d + 1
 end
def uptoSmall : (H : Type) → List (DataW H) → Bool := fun _ ds => decide (uptoBulkAll ds ≤ 1048576)
def OpenSpec.upto (s : _root_.Go.ChangeSpec) : _root_.Go.OpenSpec := { _root_.Go.OpenSpec.ofChange s with cond := some uptoSmall }

/-- 'tidemarklaw4.TokenSpoilt', WHERE WHAT IT READS IS OF BULK AT MOST 1048576: true; the input reads as it did. -/
def tokenSpoiltUptoRow : OpenClaim := { program := "ytdpgfjdndohcdaadoor", sum := "62c9dd9e699613d6cb0ab7a3435f6bf69f23911a775d192c35616bebb8f8f5f9", func := "tidemark/tidemarklaw4.TokenSpoilt", spec := "tokenSpoilt", inPlace := ["internal/abi.NoEscape"], named := ["tidemark/wire.table", "tidemark/token.digits"], apart := false, laid := [("tidemark/wire.table", laid_tidemark_wire_table), ("tidemark/token.digits", laid_tidemark_token_digits)], narrowed := true }
def TokenSpoiltUptoSaid : Prop := tokenSpoiltUptoRow.holds Tryd.pinned (OpenSpec.upto tokenSpoiltSpec)

/-- 'tidemarklaw4.TokenLater', WHERE WHAT IT READS IS OF BULK AT MOST 1048576: true; the input reads as it did. -/
def tokenLaterUptoRow : OpenClaim := { program := "ytdpgfjdndohcdaadoor", sum := "62c9dd9e699613d6cb0ab7a3435f6bf69f23911a775d192c35616bebb8f8f5f9", func := "tidemark/tidemarklaw4.TokenLater", spec := "tokenLater", inPlace := ["internal/abi.NoEscape"], named := ["tidemark/wire.table", "tidemark/token.digits"], apart := false, laid := [("tidemark/wire.table", laid_tidemark_wire_table), ("tidemark/token.digits", laid_tidemark_token_digits)], narrowed := true }
def TokenLaterUptoSaid : Prop := tokenLaterUptoRow.holds Tryd.pinned (OpenSpec.upto tokenLaterSpec)

/-- 'tidemarklaw4.TokenJoins', WHERE WHAT IT READS IS OF BULK AT MOST 1048576: true; the input reads as it did. -/
def tokenJoinsUptoRow : OpenClaim := { program := "ytdpgfjdndohcdaadoor", sum := "62c9dd9e699613d6cb0ab7a3435f6bf69f23911a775d192c35616bebb8f8f5f9", func := "tidemark/tidemarklaw4.TokenJoins", spec := "tokenJoins", named := ["tidemark/token.digits", "tidemark/wire.table"], apart := false, laid := [("tidemark/wire.table", laid_tidemark_wire_table), ("tidemark/token.digits", laid_tidemark_token_digits)], narrowed := true }
def TokenJoinsUptoSaid : Prop := tokenJoinsUptoRow.holds Tryd.pinned (OpenSpec.upto tokenJoinsSpec)

/-- 'tidemarklaw4.TokenEncodes', WHERE WHAT IT READS IS OF BULK AT MOST 1048576: true; the input reads as it did. -/
def tokenEncodesUptoRow : OpenClaim := { program := "ytdpgfjdndohcdaadoor", sum := "62c9dd9e699613d6cb0ab7a3435f6bf69f23911a775d192c35616bebb8f8f5f9", func := "tidemark/tidemarklaw4.TokenEncodes", spec := "tokenEncodes", inPlace := ["internal/abi.NoEscape"], named := ["tidemark/wire.table", "tidemark/token.digits"], apart := false, laid := [("tidemark/wire.table", laid_tidemark_wire_table), ("tidemark/token.digits", laid_tidemark_token_digits)], narrowed := true }
def TokenEncodesUptoSaid : Prop := tokenEncodesUptoRow.holds Tryd.pinned (OpenSpec.upto tokenEncodesSpec)

/-- 'tidemarklaw4.TokenDecodes', WHERE WHAT IT READS IS OF BULK AT MOST 1048576: true; the input reads as it did. -/
def tokenDecodesUptoRow : OpenClaim := { program := "ytdpgfjdndohcdaadoor", sum := "62c9dd9e699613d6cb0ab7a3435f6bf69f23911a775d192c35616bebb8f8f5f9", func := "tidemark/tidemarklaw4.TokenDecodes", spec := "tokenDecodes", inPlace := ["internal/abi.NoEscape"], named := ["tidemark/token.digits", "tidemark/wire.table"], apart := false, laid := [("tidemark/wire.table", laid_tidemark_wire_table), ("tidemark/token.digits", laid_tidemark_token_digits)], narrowed := true }
def TokenDecodesUptoSaid : Prop := tokenDecodesUptoRow.holds Tryd.pinned (OpenSpec.upto tokenDecodesSpec)

/-- 'tidemarklaw4.TokenApart', WHERE WHAT IT READS IS OF BULK AT MOST 1048576: true; the input reads as it did. -/
def tokenApartUptoRow : OpenClaim := { program := "ytdpgfjdndohcdaadoor", sum := "62c9dd9e699613d6cb0ab7a3435f6bf69f23911a775d192c35616bebb8f8f5f9", func := "tidemark/tidemarklaw4.TokenApart", spec := "tokenApart", inPlace := ["internal/abi.NoEscape"], named := ["tidemark/wire.table", "tidemark/token.digits"], apart := false, laid := [("tidemark/wire.table", laid_tidemark_wire_table), ("tidemark/token.digits", laid_tidemark_token_digits)], narrowed := true }
def TokenApartUptoSaid : Prop := tokenApartUptoRow.holds Tryd.pinned (OpenSpec.upto tokenApartSpec)

end Rows
end Go.Proofs.YtdpgfjdndohcdaaDoor
