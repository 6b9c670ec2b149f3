/-
  No cell of these rows narrows 'for every input' (looked for: loops, veiled, ifaces, maps, wideKeys, modest, calm, conditions, laid).
  DERIVED. THE GIVEN ROWS OF THIS SEAT. 11 by the template 'for every input the law returns true; each argument reads behind the call as it read before'; 0 by the template 'total and deterministic' (their statements: YtaocjhoilbgaoaaTotals.lean).
  GIVEN WITH THE SEED: the statements are not yours to turn. If you find one false, say at which input.
  Laid BY PROGRAM, IN A SANDBOX (cutbox-rows.mjs): the forced cells as the released guide's own fill.sh prints them over the translation 204489e7a5bf809c… (all of the seat's roots in one cut). By AI agents, Wed Nov 11 2026. No macro, syntax, notation, axiom, sorry.
-/
import Derived.Test.YtaocjhoilbgaoaaChecked
import GoSem.Claim
import GoSem.ClaimJoined
import GoSem.ClaimMapViews
import Derived.JoinedTies
import Derived.KernelRfl
namespace Go.Proofs.Ytaocjhoilbgaoaa
/- THE CELL 'sum', in the pinned program and in every row, IS THE sha256 OF THE DUMP (.gsa) THAT YtaocjhoilbgaoaaProg.lean LOADS. Nothing in Lean hashes anything: it is a label: what it is worth is what the hold of that sum in a sandbox is worth. -/
noncomputable def Try.pinned : Pinned := { name := "ytaocjhoilbgaoaa", sum := "204489e7a5bf809cf37c0bcbaf37ca2a7db54817697856ce9630e21a9e6dd457", checked := Try.checked }
namespace Rows
def none {H : Type} : Left H := { results := [], args := [] }

/-- 'laws.FnExactIsSymmetric': WHATEVER THE INPUT: true; the input reads as it did. -/
def fnExactIsSymmetricSpec : ChangeSpec := { name := "fnExactIsSymmetric", fn := fun _ => fun
  | [d1, d2] => { results := [.lit (.bool true)], args := [d1, d2] }
  | _ => none }
def fnExactIsSymmetricRow : OpenClaim := { program := "ytaocjhoilbgaoaa", sum := "204489e7a5bf809cf37c0bcbaf37ca2a7db54817697856ce9630e21a9e6dd457", func := "loop.example/g01151/laws.FnExactIsSymmetric", spec := "fnExactIsSymmetric", unfollowed := true, recurses := true, apart := false }
def FnExactIsSymmetricSaid : Prop := fnExactIsSymmetricRow.holds Try.pinned (OpenSpec.ofChange fnExactIsSymmetricSpec)

/-- ITS FALSE NEIGHBOUR: 'it returns false'. Refute it at one input. -/
def fnExactIsSymmetricWrong : ChangeSpec := { name := "fnExactIsSymmetric", fn := fun _ => fun
  | [d1, d2] => { results := [.lit (.bool false)], args := [d1, d2] }
  | _ => none }
def FnExactIsSymmetricWrongFalsely : Prop := fnExactIsSymmetricRow.holds Try.pinned (OpenSpec.ofChange fnExactIsSymmetricWrong)

/-- 'laws.FnExactHasNoCarry': WHATEVER THE INPUT: true; the input reads as it did. -/
def fnExactHasNoCarrySpec : ChangeSpec := { name := "fnExactHasNoCarry", fn := fun _ => fun
  | [d1, d2] => { results := [.lit (.bool true)], args := [d1, d2] }
  | _ => none }
def fnExactHasNoCarryRow : OpenClaim := { program := "ytaocjhoilbgaoaa", sum := "204489e7a5bf809cf37c0bcbaf37ca2a7db54817697856ce9630e21a9e6dd457", func := "loop.example/g01151/laws.FnExactHasNoCarry", spec := "fnExactHasNoCarry", unfollowed := true, recurses := true, apart := false }
def FnExactHasNoCarrySaid : Prop := fnExactHasNoCarryRow.holds Try.pinned (OpenSpec.ofChange fnExactHasNoCarrySpec)

/-- ITS FALSE NEIGHBOUR: 'it returns false'. Refute it at one input. -/
def fnExactHasNoCarryWrong : ChangeSpec := { name := "fnExactHasNoCarry", fn := fun _ => fun
  | [d1, d2] => { results := [.lit (.bool false)], args := [d1, d2] }
  | _ => none }
def FnExactHasNoCarryWrongFalsely : Prop := fnExactHasNoCarryRow.holds Try.pinned (OpenSpec.ofChange fnExactHasNoCarryWrong)

/-- 'laws.FnExactCarriesOf': WHATEVER THE INPUT: true; the input reads as it did. -/
def fnExactCarriesOfSpec : ChangeSpec := { name := "fnExactCarriesOf", fn := fun _ => fun
  | [d1, d2] => { results := [.lit (.bool true)], args := [d1, d2] }
  | _ => none }
def fnExactCarriesOfRow : OpenClaim := { program := "ytaocjhoilbgaoaa", sum := "204489e7a5bf809cf37c0bcbaf37ca2a7db54817697856ce9630e21a9e6dd457", func := "loop.example/g01151/laws.FnExactCarriesOf", spec := "fnExactCarriesOf", unfollowed := true, recurses := true, apart := false }
def FnExactCarriesOfSaid : Prop := fnExactCarriesOfRow.holds Try.pinned (OpenSpec.ofChange fnExactCarriesOfSpec)

/-- ITS FALSE NEIGHBOUR: 'it returns false'. Refute it at one input. -/
def fnExactCarriesOfWrong : ChangeSpec := { name := "fnExactCarriesOf", fn := fun _ => fun
  | [d1, d2] => { results := [.lit (.bool false)], args := [d1, d2] }
  | _ => none }
def FnExactCarriesOfWrongFalsely : Prop := fnExactCarriesOfRow.holds Try.pinned (OpenSpec.ofChange fnExactCarriesOfWrong)

/-- 'laws.FnExactAddReversed': WHATEVER THE INPUT: true; the input reads as it did. -/
def fnExactAddReversedSpec : ChangeSpec := { name := "fnExactAddReversed", fn := fun _ => fun
  | [d1, d2] => { results := [.lit (.bool true)], args := [d1, d2] }
  | _ => none }
def fnExactAddReversedRow : OpenClaim := { program := "ytaocjhoilbgaoaa", sum := "204489e7a5bf809cf37c0bcbaf37ca2a7db54817697856ce9630e21a9e6dd457", func := "loop.example/g01151/laws.FnExactAddReversed", spec := "fnExactAddReversed", unfollowed := true, recurses := true, apart := false }
def FnExactAddReversedSaid : Prop := fnExactAddReversedRow.holds Try.pinned (OpenSpec.ofChange fnExactAddReversedSpec)

/-- ITS FALSE NEIGHBOUR: 'it returns false'. Refute it at one input. -/
def fnExactAddReversedWrong : ChangeSpec := { name := "fnExactAddReversed", fn := fun _ => fun
  | [d1, d2] => { results := [.lit (.bool false)], args := [d1, d2] }
  | _ => none }
def FnExactAddReversedWrongFalsely : Prop := fnExactAddReversedRow.holds Try.pinned (OpenSpec.ofChange fnExactAddReversedWrong)

/-- 'laws.FnExactStepsToSymmetric': WHATEVER THE INPUT: true; the input reads as it did. -/
def fnExactStepsToSymmetricSpec : ChangeSpec := { name := "fnExactStepsToSymmetric", fn := fun _ => fun
  | [d1, d2, d3] => { results := [.lit (.bool true)], args := [d1, d2, d3] }
  | _ => none }
def fnExactStepsToSymmetricRow : OpenClaim := { program := "ytaocjhoilbgaoaa", sum := "204489e7a5bf809cf37c0bcbaf37ca2a7db54817697856ce9630e21a9e6dd457", func := "loop.example/g01151/laws.FnExactStepsToSymmetric", spec := "fnExactStepsToSymmetric", unfollowed := true, recurses := true, apart := false }
def FnExactStepsToSymmetricSaid : Prop := fnExactStepsToSymmetricRow.holds Try.pinned (OpenSpec.ofChange fnExactStepsToSymmetricSpec)

/-- ITS FALSE NEIGHBOUR: 'it returns false'. Refute it at one input. -/
def fnExactStepsToSymmetricWrong : ChangeSpec := { name := "fnExactStepsToSymmetric", fn := fun _ => fun
  | [d1, d2, d3] => { results := [.lit (.bool false)], args := [d1, d2, d3] }
  | _ => none }
def FnExactStepsToSymmetricWrongFalsely : Prop := fnExactStepsToSymmetricRow.holds Try.pinned (OpenSpec.ofChange fnExactStepsToSymmetricWrong)

/-- 'laws.FnExactSubtractReversed': WHATEVER THE INPUT: true; the input reads as it did. -/
def fnExactSubtractReversedSpec : ChangeSpec := { name := "fnExactSubtractReversed", fn := fun _ => fun
  | [d1, d2] => { results := [.lit (.bool true)], args := [d1, d2] }
  | _ => none }
def fnExactSubtractReversedRow : OpenClaim := { program := "ytaocjhoilbgaoaa", sum := "204489e7a5bf809cf37c0bcbaf37ca2a7db54817697856ce9630e21a9e6dd457", func := "loop.example/g01151/laws.FnExactSubtractReversed", spec := "fnExactSubtractReversed", unfollowed := true, recurses := true, apart := false }
def FnExactSubtractReversedSaid : Prop := fnExactSubtractReversedRow.holds Try.pinned (OpenSpec.ofChange fnExactSubtractReversedSpec)

/-- ITS FALSE NEIGHBOUR: 'it returns false'. Refute it at one input. -/
def fnExactSubtractReversedWrong : ChangeSpec := { name := "fnExactSubtractReversed", fn := fun _ => fun
  | [d1, d2] => { results := [.lit (.bool false)], args := [d1, d2] }
  | _ => none }
def FnExactSubtractReversedWrongFalsely : Prop := fnExactSubtractReversedRow.holds Try.pinned (OpenSpec.ofChange fnExactSubtractReversedWrong)

/-- 'laws.FnExactSlowestNumber': WHATEVER THE INPUT: true; the input reads as it did. -/
def fnExactSlowestNumberSpec : ChangeSpec := { name := "fnExactSlowestNumber", fn := fun _ => fun
  | [d1, d2, d3] => { results := [.lit (.bool true)], args := [d1, d2, d3] }
  | _ => none }
def fnExactSlowestNumberRow : OpenClaim := { program := "ytaocjhoilbgaoaa", sum := "204489e7a5bf809cf37c0bcbaf37ca2a7db54817697856ce9630e21a9e6dd457", func := "loop.example/g01151/laws.FnExactSlowestNumber", spec := "fnExactSlowestNumber", apart := false }
def FnExactSlowestNumberSaid : Prop := fnExactSlowestNumberRow.holds Try.pinned (OpenSpec.ofChange fnExactSlowestNumberSpec)

/-- ITS FALSE NEIGHBOUR: 'it returns false'. Refute it at one input. -/
def fnExactSlowestNumberWrong : ChangeSpec := { name := "fnExactSlowestNumber", fn := fun _ => fun
  | [d1, d2, d3] => { results := [.lit (.bool false)], args := [d1, d2, d3] }
  | _ => none }
def FnExactSlowestNumberWrongFalsely : Prop := fnExactSlowestNumberRow.holds Try.pinned (OpenSpec.ofChange fnExactSlowestNumberWrong)

/-- 'laws.FnExactAddedRun': WHATEVER THE INPUT: true; the input reads as it did. -/
def fnExactAddedRunSpec : ChangeSpec := { name := "fnExactAddedRun", fn := fun _ => fun
  | [d1, d2, d3] => { results := [.lit (.bool true)], args := [d1, d2, d3] }
  | _ => none }
def fnExactAddedRunRow : OpenClaim := { program := "ytaocjhoilbgaoaa", sum := "204489e7a5bf809cf37c0bcbaf37ca2a7db54817697856ce9630e21a9e6dd457", func := "loop.example/g01151/laws.FnExactAddedRun", spec := "fnExactAddedRun", unfollowed := true, recurses := true, apart := false }
def FnExactAddedRunSaid : Prop := fnExactAddedRunRow.holds Try.pinned (OpenSpec.ofChange fnExactAddedRunSpec)

/-- ITS FALSE NEIGHBOUR: 'it returns false'. Refute it at one input. -/
def fnExactAddedRunWrong : ChangeSpec := { name := "fnExactAddedRun", fn := fun _ => fun
  | [d1, d2, d3] => { results := [.lit (.bool false)], args := [d1, d2, d3] }
  | _ => none }
def FnExactAddedRunWrongFalsely : Prop := fnExactAddedRunRow.holds Try.pinned (OpenSpec.ofChange fnExactAddedRunWrong)

/-- 'laws.FnExactStepsSpread': WHATEVER THE INPUT: true; the input reads as it did. -/
def fnExactStepsSpreadSpec : ChangeSpec := { name := "fnExactStepsSpread", fn := fun _ => fun
  | [d1, d2, d3] => { results := [.lit (.bool true)], args := [d1, d2, d3] }
  | _ => none }
def fnExactStepsSpreadRow : OpenClaim := { program := "ytaocjhoilbgaoaa", sum := "204489e7a5bf809cf37c0bcbaf37ca2a7db54817697856ce9630e21a9e6dd457", func := "loop.example/g01151/laws.FnExactStepsSpread", spec := "fnExactStepsSpread", apart := false }
def FnExactStepsSpreadSaid : Prop := fnExactStepsSpreadRow.holds Try.pinned (OpenSpec.ofChange fnExactStepsSpreadSpec)

/-- ITS FALSE NEIGHBOUR: 'it returns false'. Refute it at one input. -/
def fnExactStepsSpreadWrong : ChangeSpec := { name := "fnExactStepsSpread", fn := fun _ => fun
  | [d1, d2, d3] => { results := [.lit (.bool false)], args := [d1, d2, d3] }
  | _ => none }
def FnExactStepsSpreadWrongFalsely : Prop := fnExactStepsSpreadRow.holds Try.pinned (OpenSpec.ofChange fnExactStepsSpreadWrong)

/-- 'laws.FnExactCountSources': WHATEVER THE INPUT: true; the input reads as it did. -/
def fnExactCountSourcesSpec : ChangeSpec := { name := "fnExactCountSources", fn := fun _ => fun
  | [d1, d2] => { results := [.lit (.bool true)], args := [d1, d2] }
  | _ => none }
def fnExactCountSourcesRow : OpenClaim := { program := "ytaocjhoilbgaoaa", sum := "204489e7a5bf809cf37c0bcbaf37ca2a7db54817697856ce9630e21a9e6dd457", func := "loop.example/g01151/laws.FnExactCountSources", spec := "fnExactCountSources", unfollowed := true, recurses := true, apart := false }
def FnExactCountSourcesSaid : Prop := fnExactCountSourcesRow.holds Try.pinned (OpenSpec.ofChange fnExactCountSourcesSpec)

/-- ITS FALSE NEIGHBOUR: 'it returns false'. Refute it at one input. -/
def fnExactCountSourcesWrong : ChangeSpec := { name := "fnExactCountSources", fn := fun _ => fun
  | [d1, d2] => { results := [.lit (.bool false)], args := [d1, d2] }
  | _ => none }
def FnExactCountSourcesWrongFalsely : Prop := fnExactCountSourcesRow.holds Try.pinned (OpenSpec.ofChange fnExactCountSourcesWrong)

/-- 'laws.FnExactFirstSource': WHATEVER THE INPUT: true; the input reads as it did. -/
def fnExactFirstSourceSpec : ChangeSpec := { name := "fnExactFirstSource", fn := fun _ => fun
  | [d1, d2] => { results := [.lit (.bool true)], args := [d1, d2] }
  | _ => none }
def fnExactFirstSourceRow : OpenClaim := { program := "ytaocjhoilbgaoaa", sum := "204489e7a5bf809cf37c0bcbaf37ca2a7db54817697856ce9630e21a9e6dd457", func := "loop.example/g01151/laws.FnExactFirstSource", spec := "fnExactFirstSource", unfollowed := true, recurses := true, apart := false }
def FnExactFirstSourceSaid : Prop := fnExactFirstSourceRow.holds Try.pinned (OpenSpec.ofChange fnExactFirstSourceSpec)

/-- ITS FALSE NEIGHBOUR: 'it returns false'. Refute it at one input. -/
def fnExactFirstSourceWrong : ChangeSpec := { name := "fnExactFirstSource", fn := fun _ => fun
  | [d1, d2] => { results := [.lit (.bool false)], args := [d1, d2] }
  | _ => none }
def FnExactFirstSourceWrongFalsely : Prop := fnExactFirstSourceRow.holds Try.pinned (OpenSpec.ofChange fnExactFirstSourceWrong)

/- THE SECOND FORM. 'bulk': how many values and letters a reading holds, each counted each time it is reached (what is shared counts as often as it is met; a slice's spare places count too). A statement '..UptoSaid' is the law's where the arguments, and the package variables that the reading takes, are together of bulk at most 1048576: NARROWER than '..Said'. Prove '..Said' where nothing that the law and all that it calls make is longer than what came in: it says more and counts as full. Else prove '..UptoSaid'. A law counts once. -/
mutual
def uptoBulk {H : Type} : DataW H → Nat
  | .lit (.string bytes) => bytes.length + 1
  | .lit _ => 1
  | .nil => 1
  | .ptr d => uptoBulk d + 1
  | .slice elems spare => uptoBulkAll elems + uptoBulkAll spare + 1
  | .agg parts => uptoBulkAll parts + 1
  | .iface _ d => uptoBulk d + 1
  | .map entries => uptoBulkEntries entries + 1
  | .held _ => 1
def uptoBulkAll {H : Type} : List (DataW H) → Nat
  | [] => 0
  | d :: r => uptoBulk d + uptoBulkAll r
def uptoBulkEntries {H : Type} : List (Lit × DataW H) → Nat
  | [] => 0
  | x :: r => uptoBulkEntry x + uptoBulkEntries r
def uptoBulkEntry {H : Type} : Lit × DataW H → Nat
  | (.string bytes, d) => bytes.length + uptoBulk d + 1
  | (_, d) => uptoBulk d + 1
 end
def uptoSmall : (H : Type) → List (DataW H) → Bool := fun _ ds => decide (uptoBulkAll ds ≤ 1048576)
def OpenSpec.upto (s : _root_.Go.ChangeSpec) : _root_.Go.OpenSpec := { _root_.Go.OpenSpec.ofChange s with cond := some uptoSmall }

/-- 'laws.FnExactIsSymmetric', WHERE WHAT IT READS IS OF BULK AT MOST 1048576: true; the input reads as it did. -/
def fnExactIsSymmetricUptoRow : OpenClaim := { program := "ytaocjhoilbgaoaa", sum := "204489e7a5bf809cf37c0bcbaf37ca2a7db54817697856ce9630e21a9e6dd457", func := "loop.example/g01151/laws.FnExactIsSymmetric", spec := "fnExactIsSymmetric", unfollowed := true, recurses := true, apart := false, narrowed := true }
def FnExactIsSymmetricUptoSaid : Prop := fnExactIsSymmetricUptoRow.holds Try.pinned (OpenSpec.upto fnExactIsSymmetricSpec)

/-- 'laws.FnExactHasNoCarry', WHERE WHAT IT READS IS OF BULK AT MOST 1048576: true; the input reads as it did. -/
def fnExactHasNoCarryUptoRow : OpenClaim := { program := "ytaocjhoilbgaoaa", sum := "204489e7a5bf809cf37c0bcbaf37ca2a7db54817697856ce9630e21a9e6dd457", func := "loop.example/g01151/laws.FnExactHasNoCarry", spec := "fnExactHasNoCarry", unfollowed := true, recurses := true, apart := false, narrowed := true }
def FnExactHasNoCarryUptoSaid : Prop := fnExactHasNoCarryUptoRow.holds Try.pinned (OpenSpec.upto fnExactHasNoCarrySpec)

/-- 'laws.FnExactCarriesOf', WHERE WHAT IT READS IS OF BULK AT MOST 1048576: true; the input reads as it did. -/
def fnExactCarriesOfUptoRow : OpenClaim := { program := "ytaocjhoilbgaoaa", sum := "204489e7a5bf809cf37c0bcbaf37ca2a7db54817697856ce9630e21a9e6dd457", func := "loop.example/g01151/laws.FnExactCarriesOf", spec := "fnExactCarriesOf", unfollowed := true, recurses := true, apart := false, narrowed := true }
def FnExactCarriesOfUptoSaid : Prop := fnExactCarriesOfUptoRow.holds Try.pinned (OpenSpec.upto fnExactCarriesOfSpec)

/-- 'laws.FnExactAddReversed', WHERE WHAT IT READS IS OF BULK AT MOST 1048576: true; the input reads as it did. -/
def fnExactAddReversedUptoRow : OpenClaim := { program := "ytaocjhoilbgaoaa", sum := "204489e7a5bf809cf37c0bcbaf37ca2a7db54817697856ce9630e21a9e6dd457", func := "loop.example/g01151/laws.FnExactAddReversed", spec := "fnExactAddReversed", unfollowed := true, recurses := true, apart := false, narrowed := true }
def FnExactAddReversedUptoSaid : Prop := fnExactAddReversedUptoRow.holds Try.pinned (OpenSpec.upto fnExactAddReversedSpec)

/-- 'laws.FnExactStepsToSymmetric', WHERE WHAT IT READS IS OF BULK AT MOST 1048576: true; the input reads as it did. -/
def fnExactStepsToSymmetricUptoRow : OpenClaim := { program := "ytaocjhoilbgaoaa", sum := "204489e7a5bf809cf37c0bcbaf37ca2a7db54817697856ce9630e21a9e6dd457", func := "loop.example/g01151/laws.FnExactStepsToSymmetric", spec := "fnExactStepsToSymmetric", unfollowed := true, recurses := true, apart := false, narrowed := true }
def FnExactStepsToSymmetricUptoSaid : Prop := fnExactStepsToSymmetricUptoRow.holds Try.pinned (OpenSpec.upto fnExactStepsToSymmetricSpec)

/-- 'laws.FnExactSubtractReversed', WHERE WHAT IT READS IS OF BULK AT MOST 1048576: true; the input reads as it did. -/
def fnExactSubtractReversedUptoRow : OpenClaim := { program := "ytaocjhoilbgaoaa", sum := "204489e7a5bf809cf37c0bcbaf37ca2a7db54817697856ce9630e21a9e6dd457", func := "loop.example/g01151/laws.FnExactSubtractReversed", spec := "fnExactSubtractReversed", unfollowed := true, recurses := true, apart := false, narrowed := true }
def FnExactSubtractReversedUptoSaid : Prop := fnExactSubtractReversedUptoRow.holds Try.pinned (OpenSpec.upto fnExactSubtractReversedSpec)

/-- 'laws.FnExactSlowestNumber', WHERE WHAT IT READS IS OF BULK AT MOST 1048576: true; the input reads as it did. -/
def fnExactSlowestNumberUptoRow : OpenClaim := { program := "ytaocjhoilbgaoaa", sum := "204489e7a5bf809cf37c0bcbaf37ca2a7db54817697856ce9630e21a9e6dd457", func := "loop.example/g01151/laws.FnExactSlowestNumber", spec := "fnExactSlowestNumber", apart := false, narrowed := true }
def FnExactSlowestNumberUptoSaid : Prop := fnExactSlowestNumberUptoRow.holds Try.pinned (OpenSpec.upto fnExactSlowestNumberSpec)

/-- 'laws.FnExactAddedRun', WHERE WHAT IT READS IS OF BULK AT MOST 1048576: true; the input reads as it did. -/
def fnExactAddedRunUptoRow : OpenClaim := { program := "ytaocjhoilbgaoaa", sum := "204489e7a5bf809cf37c0bcbaf37ca2a7db54817697856ce9630e21a9e6dd457", func := "loop.example/g01151/laws.FnExactAddedRun", spec := "fnExactAddedRun", unfollowed := true, recurses := true, apart := false, narrowed := true }
def FnExactAddedRunUptoSaid : Prop := fnExactAddedRunUptoRow.holds Try.pinned (OpenSpec.upto fnExactAddedRunSpec)

/-- 'laws.FnExactStepsSpread', WHERE WHAT IT READS IS OF BULK AT MOST 1048576: true; the input reads as it did. -/
def fnExactStepsSpreadUptoRow : OpenClaim := { program := "ytaocjhoilbgaoaa", sum := "204489e7a5bf809cf37c0bcbaf37ca2a7db54817697856ce9630e21a9e6dd457", func := "loop.example/g01151/laws.FnExactStepsSpread", spec := "fnExactStepsSpread", apart := false, narrowed := true }
def FnExactStepsSpreadUptoSaid : Prop := fnExactStepsSpreadUptoRow.holds Try.pinned (OpenSpec.upto fnExactStepsSpreadSpec)

/-- 'laws.FnExactCountSources', WHERE WHAT IT READS IS OF BULK AT MOST 1048576: true; the input reads as it did. -/
def fnExactCountSourcesUptoRow : OpenClaim := { program := "ytaocjhoilbgaoaa", sum := "204489e7a5bf809cf37c0bcbaf37ca2a7db54817697856ce9630e21a9e6dd457", func := "loop.example/g01151/laws.FnExactCountSources", spec := "fnExactCountSources", unfollowed := true, recurses := true, apart := false, narrowed := true }
def FnExactCountSourcesUptoSaid : Prop := fnExactCountSourcesUptoRow.holds Try.pinned (OpenSpec.upto fnExactCountSourcesSpec)

/-- 'laws.FnExactFirstSource', WHERE WHAT IT READS IS OF BULK AT MOST 1048576: true; the input reads as it did. -/
def fnExactFirstSourceUptoRow : OpenClaim := { program := "ytaocjhoilbgaoaa", sum := "204489e7a5bf809cf37c0bcbaf37ca2a7db54817697856ce9630e21a9e6dd457", func := "loop.example/g01151/laws.FnExactFirstSource", spec := "fnExactFirstSource", unfollowed := true, recurses := true, apart := false, narrowed := true }
def FnExactFirstSourceUptoSaid : Prop := fnExactFirstSourceUptoRow.holds Try.pinned (OpenSpec.upto fnExactFirstSourceSpec)

end Rows
end Go.Proofs.Ytaocjhoilbgaoaa
