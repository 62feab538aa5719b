/-
  No cell of these rows narrows 'for every input' (looked for: loops, veiled, ifaces, maps, wideKeys, modest, calm, conditions, laid).
  DERIVED. THE GIVEN ROWS OF THIS SEAT. 8 by the template 'for every input the law returns true; each argument reads behind the call as it read before'; 0 by the template 'total and deterministic' (their statements: YtlgkolmlcbfppaaTotals.lean).
  GIVEN WITH THE SEED: the statements are not yours to turn. If you find one false, say at which input.
  Laid BY PROGRAM, IN A SANDBOX (cutbox-rows.mjs): the forced cells as the released guide's own fill.sh prints them over the translation e987a28f167a93f2… (all of the seat's roots in one cut). By AI agents, Wed Nov 11 2026. No macro, syntax, notation, axiom, sorry.
-/
import Derived.Test.YtlgkolmlcbfppaaChecked
import GoSem.Claim
import GoSem.ClaimJoined
import GoSem.ClaimMapViews
import Derived.JoinedTies
import Derived.KernelRfl
namespace Go.Proofs.Ytlgkolmlcbfppaa
/- THE CELL 'sum', in the pinned program and in every row, IS THE sha256 OF THE DUMP (.gsa) THAT YtlgkolmlcbfppaaProg.lean LOADS. Nothing in Lean hashes anything: it is a label: what it is worth is what the hold of that sum in a sandbox is worth. -/
noncomputable def Try.pinned : Pinned := { name := "ytlgkolmlcbfppaa", sum := "e987a28f167a93f2e5dccbe325331330e5430f4c4a41a89f4fe29e56aeab4361", checked := Try.checked }
namespace Rows
def none {H : Type} : Left H := { results := [], args := [] }

/-- 'tidemarknames.Names': WHATEVER THE INPUT: true; the input reads as it did. -/
def namesSpec : ChangeSpec := { name := "names", fn := fun _ => fun
  | [] => { results := [.lit (.bool true)], args := [] }
  | _ => none }
def namesRow : OpenClaim := { program := "ytlgkolmlcbfppaa", sum := "e987a28f167a93f2e5dccbe325331330e5430f4c4a41a89f4fe29e56aeab4361", func := "tidemark/tidemarknames.Names", spec := "names", apart := false }
def NamesSaid : Prop := namesRow.holds Try.pinned (OpenSpec.ofChange namesSpec)

/-- ITS FALSE NEIGHBOUR: 'it returns false'. Refute it at one input. -/
def namesWrong : ChangeSpec := { name := "names", fn := fun _ => fun
  | [] => { results := [.lit (.bool false)], args := [] }
  | _ => none }
def NamesWrongFalsely : Prop := namesRow.holds Try.pinned (OpenSpec.ofChange namesWrong)

/-- 'tidemarklaw2.ClockRises': WHATEVER THE INPUT: true; the input reads as it did. -/
def clockRisesSpec : ChangeSpec := { name := "clockRises", fn := fun _ => fun
  | [d] => { results := [.lit (.bool true)], args := [d] }
  | _ => none }
def clockRisesRow : OpenClaim := { program := "ytlgkolmlcbfppaa", sum := "e987a28f167a93f2e5dccbe325331330e5430f4c4a41a89f4fe29e56aeab4361", func := "tidemark/tidemarklaw2.ClockRises", spec := "clockRises", apart := false }
def ClockRisesSaid : Prop := clockRisesRow.holds Try.pinned (OpenSpec.ofChange clockRisesSpec)

/-- ITS FALSE NEIGHBOUR: 'it returns false'. Refute it at one input. -/
def clockRisesWrong : ChangeSpec := { name := "clockRises", fn := fun _ => fun
  | [d] => { results := [.lit (.bool false)], args := [d] }
  | _ => none }
def ClockRisesWrongFalsely : Prop := clockRisesRow.holds Try.pinned (OpenSpec.ofChange clockRisesWrong)

/-- 'tidemarklaw2.ClockNear': WHATEVER THE INPUT: true; the input reads as it did. -/
def clockNearSpec : ChangeSpec := { name := "clockNear", fn := fun _ => fun
  | [d] => { results := [.lit (.bool true)], args := [d] }
  | _ => none }
def clockNearRow : OpenClaim := { program := "ytlgkolmlcbfppaa", sum := "e987a28f167a93f2e5dccbe325331330e5430f4c4a41a89f4fe29e56aeab4361", func := "tidemark/tidemarklaw2.ClockNear", spec := "clockNear", apart := false }
def ClockNearSaid : Prop := clockNearRow.holds Try.pinned (OpenSpec.ofChange clockNearSpec)

/-- ITS FALSE NEIGHBOUR: 'it returns false'. Refute it at one input. -/
def clockNearWrong : ChangeSpec := { name := "clockNear", fn := fun _ => fun
  | [d] => { results := [.lit (.bool false)], args := [d] }
  | _ => none }
def ClockNearWrongFalsely : Prop := clockNearRow.holds Try.pinned (OpenSpec.ofChange clockNearWrong)

/-- 'tidemarklaw2.ClockEnds': WHATEVER THE INPUT: true; the input reads as it did. -/
def clockEndsSpec : ChangeSpec := { name := "clockEnds", fn := fun _ => fun
  | [d] => { results := [.lit (.bool true)], args := [d] }
  | _ => none }
def clockEndsRow : OpenClaim := { program := "ytlgkolmlcbfppaa", sum := "e987a28f167a93f2e5dccbe325331330e5430f4c4a41a89f4fe29e56aeab4361", func := "tidemark/tidemarklaw2.ClockEnds", spec := "clockEnds", apart := false }
def ClockEndsSaid : Prop := clockEndsRow.holds Try.pinned (OpenSpec.ofChange clockEndsSpec)

/-- ITS FALSE NEIGHBOUR: 'it returns false'. Refute it at one input. -/
def clockEndsWrong : ChangeSpec := { name := "clockEnds", fn := fun _ => fun
  | [d] => { results := [.lit (.bool false)], args := [d] }
  | _ => none }
def ClockEndsWrongFalsely : Prop := clockEndsRow.holds Try.pinned (OpenSpec.ofChange clockEndsWrong)

/-- 'tidemarklaw2.ClockPlays': WHATEVER THE INPUT: true; the input reads as it did. -/
def clockPlaysSpec : ChangeSpec := { name := "clockPlays", fn := fun _ => fun
  | [d] => { results := [.lit (.bool true)], args := [d] }
  | _ => none }
def clockPlaysRow : OpenClaim := { program := "ytlgkolmlcbfppaa", sum := "e987a28f167a93f2e5dccbe325331330e5430f4c4a41a89f4fe29e56aeab4361", func := "tidemark/tidemarklaw2.ClockPlays", spec := "clockPlays", apart := false }
def ClockPlaysSaid : Prop := clockPlaysRow.holds Try.pinned (OpenSpec.ofChange clockPlaysSpec)

/-- ITS FALSE NEIGHBOUR: 'it returns false'. Refute it at one input. -/
def clockPlaysWrong : ChangeSpec := { name := "clockPlays", fn := fun _ => fun
  | [d] => { results := [.lit (.bool false)], args := [d] }
  | _ => none }
def ClockPlaysWrongFalsely : Prop := clockPlaysRow.holds Try.pinned (OpenSpec.ofChange clockPlaysWrong)

/-- 'tidemarklaw2.ClockTicks': WHATEVER THE INPUT: true; the input reads as it did. -/
def clockTicksSpec : ChangeSpec := { name := "clockTicks", fn := fun _ => fun
  | [d] => { results := [.lit (.bool true)], args := [d] }
  | _ => none }
def clockTicksRow : OpenClaim := { program := "ytlgkolmlcbfppaa", sum := "e987a28f167a93f2e5dccbe325331330e5430f4c4a41a89f4fe29e56aeab4361", func := "tidemark/tidemarklaw2.ClockTicks", spec := "clockTicks", apart := false }
def ClockTicksSaid : Prop := clockTicksRow.holds Try.pinned (OpenSpec.ofChange clockTicksSpec)

/-- ITS FALSE NEIGHBOUR: 'it returns false'. Refute it at one input. -/
def clockTicksWrong : ChangeSpec := { name := "clockTicks", fn := fun _ => fun
  | [d] => { results := [.lit (.bool false)], args := [d] }
  | _ => none }
def ClockTicksWrongFalsely : Prop := clockTicksRow.holds Try.pinned (OpenSpec.ofChange clockTicksWrong)

/-- 'tidemarklaw2.ClockNeeds': WHATEVER THE INPUT: true; the input reads as it did. -/
def clockNeedsSpec : ChangeSpec := { name := "clockNeeds", fn := fun _ => fun
  | [d] => { results := [.lit (.bool true)], args := [d] }
  | _ => none }
def clockNeedsRow : OpenClaim := { program := "ytlgkolmlcbfppaa", sum := "e987a28f167a93f2e5dccbe325331330e5430f4c4a41a89f4fe29e56aeab4361", func := "tidemark/tidemarklaw2.ClockNeeds", spec := "clockNeeds", apart := false }
def ClockNeedsSaid : Prop := clockNeedsRow.holds Try.pinned (OpenSpec.ofChange clockNeedsSpec)

/-- ITS FALSE NEIGHBOUR: 'it returns false'. Refute it at one input. -/
def clockNeedsWrong : ChangeSpec := { name := "clockNeeds", fn := fun _ => fun
  | [d] => { results := [.lit (.bool false)], args := [d] }
  | _ => none }
def ClockNeedsWrongFalsely : Prop := clockNeedsRow.holds Try.pinned (OpenSpec.ofChange clockNeedsWrong)

/-- 'tidemarklaw2.ClockReserves': WHATEVER THE INPUT: true; the input reads as it did. -/
def clockReservesSpec : ChangeSpec := { name := "clockReserves", fn := fun _ => fun
  | [d] => { results := [.lit (.bool true)], args := [d] }
  | _ => none }
def clockReservesRow : OpenClaim := { program := "ytlgkolmlcbfppaa", sum := "e987a28f167a93f2e5dccbe325331330e5430f4c4a41a89f4fe29e56aeab4361", func := "tidemark/tidemarklaw2.ClockReserves", spec := "clockReserves", apart := false }
def ClockReservesSaid : Prop := clockReservesRow.holds Try.pinned (OpenSpec.ofChange clockReservesSpec)

/-- ITS FALSE NEIGHBOUR: 'it returns false'. Refute it at one input. -/
def clockReservesWrong : ChangeSpec := { name := "clockReserves", fn := fun _ => fun
  | [d] => { results := [.lit (.bool false)], args := [d] }
  | _ => none }
def ClockReservesWrongFalsely : Prop := clockReservesRow.holds Try.pinned (OpenSpec.ofChange clockReservesWrong)

/- THE SECOND FORM. 'bulk': how many values and letters a reading holds, each counted each time it is reached (what is shared counts as often as it is met; a slice's spare places count too). A statement '..UptoSaid' is the law's where the arguments, and the package variables that the reading takes, are together of bulk at most 1048576: NARROWER than '..Said'. Prove '..Said' where nothing that the law and all that it calls make is longer than what came in: it says more and counts as full. Else prove '..UptoSaid'. A law counts once. -/
mutual
def uptoBulk {H : Type} : DataW H → Nat
  | .lit (.string bytes) => bytes.length + 1
  | .lit _ => 1
  | .nil => 1
  | .ptr d => uptoBulk d + 1
  | .slice elems spare => uptoBulkAll elems + uptoBulkAll spare + 1
  | .agg parts => uptoBulkAll parts + 1
  | .iface _ d => uptoBulk d + 1
  | .map entries => uptoBulkEntries entries + 1
  | .held _ => 1
def uptoBulkAll {H : Type} : List (DataW H) → Nat
  | [] => 0
  | d :: r => uptoBulk d + uptoBulkAll r
def uptoBulkEntries {H : Type} : List (Lit × DataW H) → Nat
  | [] => 0
  | x :: r => uptoBulkEntry x + uptoBulkEntries r
def uptoBulkEntry {H : Type} : Lit × DataW H → Nat
  | (.string bytes, d) => bytes.length + uptoBulk d + 1
  | (_, d) => uptoBulk d + 1
 end
def uptoSmall : (H : Type) → List (DataW H) → Bool := fun _ ds => decide (uptoBulkAll ds ≤ 1048576)
def OpenSpec.upto (s : _root_.Go.ChangeSpec) : _root_.Go.OpenSpec := { _root_.Go.OpenSpec.ofChange s with cond := some uptoSmall }

/-- 'tidemarknames.Names', WHERE WHAT IT READS IS OF BULK AT MOST 1048576: true; the input reads as it did. -/
def namesUptoRow : OpenClaim := { program := "ytlgkolmlcbfppaa", sum := "e987a28f167a93f2e5dccbe325331330e5430f4c4a41a89f4fe29e56aeab4361", func := "tidemark/tidemarknames.Names", spec := "names", apart := false, narrowed := true }
def NamesUptoSaid : Prop := namesUptoRow.holds Try.pinned (OpenSpec.upto namesSpec)

/-- 'tidemarklaw2.ClockRises', WHERE WHAT IT READS IS OF BULK AT MOST 1048576: true; the input reads as it did. -/
def clockRisesUptoRow : OpenClaim := { program := "ytlgkolmlcbfppaa", sum := "e987a28f167a93f2e5dccbe325331330e5430f4c4a41a89f4fe29e56aeab4361", func := "tidemark/tidemarklaw2.ClockRises", spec := "clockRises", apart := false, narrowed := true }
def ClockRisesUptoSaid : Prop := clockRisesUptoRow.holds Try.pinned (OpenSpec.upto clockRisesSpec)

/-- 'tidemarklaw2.ClockNear', WHERE WHAT IT READS IS OF BULK AT MOST 1048576: true; the input reads as it did. -/
def clockNearUptoRow : OpenClaim := { program := "ytlgkolmlcbfppaa", sum := "e987a28f167a93f2e5dccbe325331330e5430f4c4a41a89f4fe29e56aeab4361", func := "tidemark/tidemarklaw2.ClockNear", spec := "clockNear", apart := false, narrowed := true }
def ClockNearUptoSaid : Prop := clockNearUptoRow.holds Try.pinned (OpenSpec.upto clockNearSpec)

/-- 'tidemarklaw2.ClockEnds', WHERE WHAT IT READS IS OF BULK AT MOST 1048576: true; the input reads as it did. -/
def clockEndsUptoRow : OpenClaim := { program := "ytlgkolmlcbfppaa", sum := "e987a28f167a93f2e5dccbe325331330e5430f4c4a41a89f4fe29e56aeab4361", func := "tidemark/tidemarklaw2.ClockEnds", spec := "clockEnds", apart := false, narrowed := true }
def ClockEndsUptoSaid : Prop := clockEndsUptoRow.holds Try.pinned (OpenSpec.upto clockEndsSpec)

/-- 'tidemarklaw2.ClockPlays', WHERE WHAT IT READS IS OF BULK AT MOST 1048576: true; the input reads as it did. -/
def clockPlaysUptoRow : OpenClaim := { program := "ytlgkolmlcbfppaa", sum := "e987a28f167a93f2e5dccbe325331330e5430f4c4a41a89f4fe29e56aeab4361", func := "tidemark/tidemarklaw2.ClockPlays", spec := "clockPlays", apart := false, narrowed := true }
def ClockPlaysUptoSaid : Prop := clockPlaysUptoRow.holds Try.pinned (OpenSpec.upto clockPlaysSpec)

/-- 'tidemarklaw2.ClockTicks', WHERE WHAT IT READS IS OF BULK AT MOST 1048576: true; the input reads as it did. -/
def clockTicksUptoRow : OpenClaim := { program := "ytlgkolmlcbfppaa", sum := "e987a28f167a93f2e5dccbe325331330e5430f4c4a41a89f4fe29e56aeab4361", func := "tidemark/tidemarklaw2.ClockTicks", spec := "clockTicks", apart := false, narrowed := true }
def ClockTicksUptoSaid : Prop := clockTicksUptoRow.holds Try.pinned (OpenSpec.upto clockTicksSpec)

/-- 'tidemarklaw2.ClockNeeds', WHERE WHAT IT READS IS OF BULK AT MOST 1048576: true; the input reads as it did. -/
def clockNeedsUptoRow : OpenClaim := { program := "ytlgkolmlcbfppaa", sum := "e987a28f167a93f2e5dccbe325331330e5430f4c4a41a89f4fe29e56aeab4361", func := "tidemark/tidemarklaw2.ClockNeeds", spec := "clockNeeds", apart := false, narrowed := true }
def ClockNeedsUptoSaid : Prop := clockNeedsUptoRow.holds Try.pinned (OpenSpec.upto clockNeedsSpec)

/-- 'tidemarklaw2.ClockReserves', WHERE WHAT IT READS IS OF BULK AT MOST 1048576: true; the input reads as it did. -/
def clockReservesUptoRow : OpenClaim := { program := "ytlgkolmlcbfppaa", sum := "e987a28f167a93f2e5dccbe325331330e5430f4c4a41a89f4fe29e56aeab4361", func := "tidemark/tidemarklaw2.ClockReserves", spec := "clockReserves", apart := false, narrowed := true }
def ClockReservesUptoSaid : Prop := clockReservesUptoRow.holds Try.pinned (OpenSpec.upto clockReservesSpec)

end Rows
end Go.Proofs.Ytlgkolmlcbfppaa
