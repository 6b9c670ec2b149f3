/-
  No cell of these rows narrows 'for every input' (looked for: loops, veiled, ifaces, maps, wideKeys, modest, calm, conditions, laid).
  DERIVED. THE GIVEN ROWS OF THIS SEAT. 12 by the template 'for every input the law returns true; each argument reads behind the call as it read before'; 0 by the template 'total and deterministic' (their statements: YtdjaceojaipmkaaTotals.lean).
  GIVEN WITH THE SEED: the statements are not yours to turn. If you find one false, say at which input.
  Laid BY PROGRAM, IN A SANDBOX (cutbox-rows.mjs): the forced cells as the released guide's own fill.sh prints them over the translation b6d94dd7dfe9f159… (all of the seat's roots in one cut). By AI agents, Wed Nov 11 2026. No macro, syntax, notation, axiom, sorry.
-/
import Derived.Test.YtdjaceojaipmkaaChecked
import GoSem.Claim
import GoSem.ClaimJoined
import GoSem.ClaimMapViews
import Derived.JoinedTies
import Derived.KernelRfl
namespace Go.Proofs.Ytdjaceojaipmkaa
/- THE CELL 'sum', in the pinned program and in every row, IS THE sha256 OF THE DUMP (.gsa) THAT YtdjaceojaipmkaaProg.lean LOADS. Nothing in Lean hashes anything: it is a label: what it is worth is what the hold of that sum in a sandbox is worth. -/
noncomputable def Try.pinned : Pinned := { name := "ytdjaceojaipmkaa", sum := "b6d94dd7dfe9f159dc2bbd2e2e4cbf3f003b3fa0c4b4d0176a2fe477882e69d1", checked := Try.checked }
namespace Rows
def none {H : Type} : Left H := { results := [], args := [] }

/-- 'laws.FnExactRootByRemainder': WHATEVER THE INPUT: true; the input reads as it did. -/
def fnExactRootByRemainderSpec : ChangeSpec := { name := "fnExactRootByRemainder", fn := fun _ => fun
  | [d1, d2] => { results := [.lit (.bool true)], args := [d1, d2] }
  | _ => none }
def fnExactRootByRemainderRow : OpenClaim := { program := "ytdjaceojaipmkaa", sum := "b6d94dd7dfe9f159dc2bbd2e2e4cbf3f003b3fa0c4b4d0176a2fe477882e69d1", func := "loop.example/g01151/laws.FnExactRootByRemainder", spec := "fnExactRootByRemainder", apart := false }
def FnExactRootByRemainderSaid : Prop := fnExactRootByRemainderRow.holds Try.pinned (OpenSpec.ofChange fnExactRootByRemainderSpec)

/-- ITS FALSE NEIGHBOUR: 'it returns false'. Refute it at one input. -/
def fnExactRootByRemainderWrong : ChangeSpec := { name := "fnExactRootByRemainder", fn := fun _ => fun
  | [d1, d2] => { results := [.lit (.bool false)], args := [d1, d2] }
  | _ => none }
def FnExactRootByRemainderWrongFalsely : Prop := fnExactRootByRemainderRow.holds Try.pinned (OpenSpec.ofChange fnExactRootByRemainderWrong)

/-- 'laws.FnExactIsSmooth': WHATEVER THE INPUT: true; the input reads as it did. -/
def fnExactIsSmoothSpec : ChangeSpec := { name := "fnExactIsSmooth", fn := fun _ => fun
  | [d1, d2] => { results := [.lit (.bool true)], args := [d1, d2] }
  | _ => none }
def fnExactIsSmoothRow : OpenClaim := { program := "ytdjaceojaipmkaa", sum := "b6d94dd7dfe9f159dc2bbd2e2e4cbf3f003b3fa0c4b4d0176a2fe477882e69d1", func := "loop.example/g01151/laws.FnExactIsSmooth", spec := "fnExactIsSmooth", apart := false }
def FnExactIsSmoothSaid : Prop := fnExactIsSmoothRow.holds Try.pinned (OpenSpec.ofChange fnExactIsSmoothSpec)

/-- ITS FALSE NEIGHBOUR: 'it returns false'. Refute it at one input. -/
def fnExactIsSmoothWrong : ChangeSpec := { name := "fnExactIsSmooth", fn := fun _ => fun
  | [d1, d2] => { results := [.lit (.bool false)], args := [d1, d2] }
  | _ => none }
def FnExactIsSmoothWrongFalsely : Prop := fnExactIsSmoothRow.holds Try.pinned (OpenSpec.ofChange fnExactIsSmoothWrong)

/-- 'laws.FnExactShortStep': WHATEVER THE INPUT: true; the input reads as it did. -/
def fnExactShortStepSpec : ChangeSpec := { name := "fnExactShortStep", fn := fun _ => fun
  | [d] => { results := [.lit (.bool true)], args := [d] }
  | _ => none }
def fnExactShortStepRow : OpenClaim := { program := "ytdjaceojaipmkaa", sum := "b6d94dd7dfe9f159dc2bbd2e2e4cbf3f003b3fa0c4b4d0176a2fe477882e69d1", func := "loop.example/g01151/laws.FnExactShortStep", spec := "fnExactShortStep", apart := false }
def FnExactShortStepSaid : Prop := fnExactShortStepRow.holds Try.pinned (OpenSpec.ofChange fnExactShortStepSpec)

/-- ITS FALSE NEIGHBOUR: 'it returns false'. Refute it at one input. -/
def fnExactShortStepWrong : ChangeSpec := { name := "fnExactShortStep", fn := fun _ => fun
  | [d] => { results := [.lit (.bool false)], args := [d] }
  | _ => none }
def FnExactShortStepWrongFalsely : Prop := fnExactShortStepRow.holds Try.pinned (OpenSpec.ofChange fnExactShortStepWrong)

/-- 'laws.FnExactStepOf': WHATEVER THE INPUT: true; the input reads as it did. -/
def fnExactStepOfSpec : ChangeSpec := { name := "fnExactStepOf", fn := fun _ => fun
  | [d] => { results := [.lit (.bool true)], args := [d] }
  | _ => none }
def fnExactStepOfRow : OpenClaim := { program := "ytdjaceojaipmkaa", sum := "b6d94dd7dfe9f159dc2bbd2e2e4cbf3f003b3fa0c4b4d0176a2fe477882e69d1", func := "loop.example/g01151/laws.FnExactStepOf", spec := "fnExactStepOf", apart := false }
def FnExactStepOfSaid : Prop := fnExactStepOfRow.holds Try.pinned (OpenSpec.ofChange fnExactStepOfSpec)

/-- ITS FALSE NEIGHBOUR: 'it returns false'. Refute it at one input. -/
def fnExactStepOfWrong : ChangeSpec := { name := "fnExactStepOf", fn := fun _ => fun
  | [d] => { results := [.lit (.bool false)], args := [d] }
  | _ => none }
def FnExactStepOfWrongFalsely : Prop := fnExactStepOfRow.holds Try.pinned (OpenSpec.ofChange fnExactStepOfWrong)

/-- 'laws.FnExactEvenPerfect': WHATEVER THE INPUT: true; the input reads as it did. -/
def fnExactEvenPerfectSpec : ChangeSpec := { name := "fnExactEvenPerfect", fn := fun _ => fun
  | [d] => { results := [.lit (.bool true)], args := [d] }
  | _ => none }
def fnExactEvenPerfectRow : OpenClaim := { program := "ytdjaceojaipmkaa", sum := "b6d94dd7dfe9f159dc2bbd2e2e4cbf3f003b3fa0c4b4d0176a2fe477882e69d1", func := "loop.example/g01151/laws.FnExactEvenPerfect", spec := "fnExactEvenPerfect", apart := false }
def FnExactEvenPerfectSaid : Prop := fnExactEvenPerfectRow.holds Try.pinned (OpenSpec.ofChange fnExactEvenPerfectSpec)

/-- ITS FALSE NEIGHBOUR: 'it returns false'. Refute it at one input. -/
def fnExactEvenPerfectWrong : ChangeSpec := { name := "fnExactEvenPerfect", fn := fun _ => fun
  | [d] => { results := [.lit (.bool false)], args := [d] }
  | _ => none }
def FnExactEvenPerfectWrongFalsely : Prop := fnExactEvenPerfectRow.holds Try.pinned (OpenSpec.ofChange fnExactEvenPerfectWrong)

/-- 'laws.FnExactStepWith': WHATEVER THE INPUT: true; the input reads as it did. -/
def fnExactStepWithSpec : ChangeSpec := { name := "fnExactStepWith", fn := fun _ => fun
  | [d1, d2] => { results := [.lit (.bool true)], args := [d1, d2] }
  | _ => none }
def fnExactStepWithRow : OpenClaim := { program := "ytdjaceojaipmkaa", sum := "b6d94dd7dfe9f159dc2bbd2e2e4cbf3f003b3fa0c4b4d0176a2fe477882e69d1", func := "loop.example/g01151/laws.FnExactStepWith", spec := "fnExactStepWith", apart := false }
def FnExactStepWithSaid : Prop := fnExactStepWithRow.holds Try.pinned (OpenSpec.ofChange fnExactStepWithSpec)

/-- ITS FALSE NEIGHBOUR: 'it returns false'. Refute it at one input. -/
def fnExactStepWithWrong : ChangeSpec := { name := "fnExactStepWith", fn := fun _ => fun
  | [d1, d2] => { results := [.lit (.bool false)], args := [d1, d2] }
  | _ => none }
def FnExactStepWithWrongFalsely : Prop := fnExactStepWithRow.holds Try.pinned (OpenSpec.ofChange fnExactStepWithWrong)

/-- 'laws.FnExactThabitPair': WHATEVER THE INPUT: true; the input reads as it did. -/
def fnExactThabitPairSpec : ChangeSpec := { name := "fnExactThabitPair", fn := fun _ => fun
  | [d] => { results := [.lit (.bool true)], args := [d] }
  | _ => none }
def fnExactThabitPairRow : OpenClaim := { program := "ytdjaceojaipmkaa", sum := "b6d94dd7dfe9f159dc2bbd2e2e4cbf3f003b3fa0c4b4d0176a2fe477882e69d1", func := "loop.example/g01151/laws.FnExactThabitPair", spec := "fnExactThabitPair", apart := false }
def FnExactThabitPairSaid : Prop := fnExactThabitPairRow.holds Try.pinned (OpenSpec.ofChange fnExactThabitPairSpec)

/-- ITS FALSE NEIGHBOUR: 'it returns false'. Refute it at one input. -/
def fnExactThabitPairWrong : ChangeSpec := { name := "fnExactThabitPair", fn := fun _ => fun
  | [d] => { results := [.lit (.bool false)], args := [d] }
  | _ => none }
def FnExactThabitPairWrongFalsely : Prop := fnExactThabitPairRow.holds Try.pinned (OpenSpec.ofChange fnExactThabitPairWrong)

/-- 'laws.FnExactIsZuckerman': WHATEVER THE INPUT: true; the input reads as it did. -/
def fnExactIsZuckermanSpec : ChangeSpec := { name := "fnExactIsZuckerman", fn := fun _ => fun
  | [d1, d2] => { results := [.lit (.bool true)], args := [d1, d2] }
  | _ => none }
def fnExactIsZuckermanRow : OpenClaim := { program := "ytdjaceojaipmkaa", sum := "b6d94dd7dfe9f159dc2bbd2e2e4cbf3f003b3fa0c4b4d0176a2fe477882e69d1", func := "loop.example/g01151/laws.FnExactIsZuckerman", spec := "fnExactIsZuckerman", apart := false }
def FnExactIsZuckermanSaid : Prop := fnExactIsZuckermanRow.holds Try.pinned (OpenSpec.ofChange fnExactIsZuckermanSpec)

/-- ITS FALSE NEIGHBOUR: 'it returns false'. Refute it at one input. -/
def fnExactIsZuckermanWrong : ChangeSpec := { name := "fnExactIsZuckerman", fn := fun _ => fun
  | [d1, d2] => { results := [.lit (.bool false)], args := [d1, d2] }
  | _ => none }
def FnExactIsZuckermanWrongFalsely : Prop := fnExactIsZuckermanRow.holds Try.pinned (OpenSpec.ofChange fnExactIsZuckermanWrong)

/-- 'laws.FnExactIsHarshad': WHATEVER THE INPUT: true; the input reads as it did. -/
def fnExactIsHarshadSpec : ChangeSpec := { name := "fnExactIsHarshad", fn := fun _ => fun
  | [d1, d2] => { results := [.lit (.bool true)], args := [d1, d2] }
  | _ => none }
def fnExactIsHarshadRow : OpenClaim := { program := "ytdjaceojaipmkaa", sum := "b6d94dd7dfe9f159dc2bbd2e2e4cbf3f003b3fa0c4b4d0176a2fe477882e69d1", func := "loop.example/g01151/laws.FnExactIsHarshad", spec := "fnExactIsHarshad", apart := false }
def FnExactIsHarshadSaid : Prop := fnExactIsHarshadRow.holds Try.pinned (OpenSpec.ofChange fnExactIsHarshadSpec)

/-- ITS FALSE NEIGHBOUR: 'it returns false'. Refute it at one input. -/
def fnExactIsHarshadWrong : ChangeSpec := { name := "fnExactIsHarshad", fn := fun _ => fun
  | [d1, d2] => { results := [.lit (.bool false)], args := [d1, d2] }
  | _ => none }
def FnExactIsHarshadWrongFalsely : Prop := fnExactIsHarshadRow.holds Try.pinned (OpenSpec.ofChange fnExactIsHarshadWrong)

/-- 'laws.FnExactBeforeStep': WHATEVER THE INPUT: true; the input reads as it did. -/
def fnExactBeforeStepSpec : ChangeSpec := { name := "fnExactBeforeStep", fn := fun _ => fun
  | [d] => { results := [.lit (.bool true)], args := [d] }
  | _ => none }
def fnExactBeforeStepRow : OpenClaim := { program := "ytdjaceojaipmkaa", sum := "b6d94dd7dfe9f159dc2bbd2e2e4cbf3f003b3fa0c4b4d0176a2fe477882e69d1", func := "loop.example/g01151/laws.FnExactBeforeStep", spec := "fnExactBeforeStep", apart := false }
def FnExactBeforeStepSaid : Prop := fnExactBeforeStepRow.holds Try.pinned (OpenSpec.ofChange fnExactBeforeStepSpec)

/-- ITS FALSE NEIGHBOUR: 'it returns false'. Refute it at one input. -/
def fnExactBeforeStepWrong : ChangeSpec := { name := "fnExactBeforeStep", fn := fun _ => fun
  | [d] => { results := [.lit (.bool false)], args := [d] }
  | _ => none }
def FnExactBeforeStepWrongFalsely : Prop := fnExactBeforeStepRow.holds Try.pinned (OpenSpec.ofChange fnExactBeforeStepWrong)

/-- 'laws.FnExactPrimeFactors': WHATEVER THE INPUT: true; the input reads as it did. -/
def fnExactPrimeFactorsSpec : ChangeSpec := { name := "fnExactPrimeFactors", fn := fun _ => fun
  | [d] => { results := [.lit (.bool true)], args := [d] }
  | _ => none }
def fnExactPrimeFactorsRow : OpenClaim := { program := "ytdjaceojaipmkaa", sum := "b6d94dd7dfe9f159dc2bbd2e2e4cbf3f003b3fa0c4b4d0176a2fe477882e69d1", func := "loop.example/g01151/laws.FnExactPrimeFactors", spec := "fnExactPrimeFactors", apart := false }
def FnExactPrimeFactorsSaid : Prop := fnExactPrimeFactorsRow.holds Try.pinned (OpenSpec.ofChange fnExactPrimeFactorsSpec)

/-- ITS FALSE NEIGHBOUR: 'it returns false'. Refute it at one input. -/
def fnExactPrimeFactorsWrong : ChangeSpec := { name := "fnExactPrimeFactors", fn := fun _ => fun
  | [d] => { results := [.lit (.bool false)], args := [d] }
  | _ => none }
def FnExactPrimeFactorsWrongFalsely : Prop := fnExactPrimeFactorsRow.holds Try.pinned (OpenSpec.ofChange fnExactPrimeFactorsWrong)

/-- 'laws.FnExactCountDivisors': WHATEVER THE INPUT: true; the input reads as it did. -/
def fnExactCountDivisorsSpec : ChangeSpec := { name := "fnExactCountDivisors", fn := fun _ => fun
  | [d] => { results := [.lit (.bool true)], args := [d] }
  | _ => none }
def fnExactCountDivisorsRow : OpenClaim := { program := "ytdjaceojaipmkaa", sum := "b6d94dd7dfe9f159dc2bbd2e2e4cbf3f003b3fa0c4b4d0176a2fe477882e69d1", func := "loop.example/g01151/laws.FnExactCountDivisors", spec := "fnExactCountDivisors", apart := false }
def FnExactCountDivisorsSaid : Prop := fnExactCountDivisorsRow.holds Try.pinned (OpenSpec.ofChange fnExactCountDivisorsSpec)

/-- ITS FALSE NEIGHBOUR: 'it returns false'. Refute it at one input. -/
def fnExactCountDivisorsWrong : ChangeSpec := { name := "fnExactCountDivisors", fn := fun _ => fun
  | [d] => { results := [.lit (.bool false)], args := [d] }
  | _ => none }
def FnExactCountDivisorsWrongFalsely : Prop := fnExactCountDivisorsRow.holds Try.pinned (OpenSpec.ofChange fnExactCountDivisorsWrong)

/- THE SECOND FORM. 'bulk': how many values and letters a reading holds, each counted each time it is reached (what is shared counts as often as it is met; a slice's spare places count too). A statement '..UptoSaid' is the law's where the arguments, and the package variables that the reading takes, are together of bulk at most 1048576: NARROWER than '..Said'. Prove '..Said' where nothing that the law and all that it calls make is longer than what came in: it says more and counts as full. Else prove '..UptoSaid'. A law counts once. -/
mutual
def uptoBulk {H : Type} : DataW H → Nat
  | .lit (.string bytes) => bytes.length + 1
  | .lit _ => 1
  | .nil => 1
  | .ptr d => uptoBulk d + 1
  | .slice elems spare => uptoBulkAll elems + uptoBulkAll spare + 1
  | .agg parts => uptoBulkAll parts + 1
  | .iface _ d => uptoBulk d + 1
  | .map entries => uptoBulkEntries entries + 1
  | .held _ => 1
def uptoBulkAll {H : Type} : List (DataW H) → Nat
  | [] => 0
  | d :: r => uptoBulk d + uptoBulkAll r
def uptoBulkEntries {H : Type} : List (Lit × DataW H) → Nat
  | [] => 0
  | x :: r => uptoBulkEntry x + uptoBulkEntries r
def uptoBulkEntry {H : Type} : Lit × DataW H → Nat
  | (.string bytes, d) => bytes.length + uptoBulk d + 1
  | (_, d) => uptoBulk d + 1
 end
def uptoSmall : (H : Type) → List (DataW H) → Bool := fun _ ds => decide (uptoBulkAll ds ≤ 1048576)
def OpenSpec.upto (s : _root_.Go.ChangeSpec) : _root_.Go.OpenSpec := { _root_.Go.OpenSpec.ofChange s with cond := some uptoSmall }

/-- 'laws.FnExactRootByRemainder', WHERE WHAT IT READS IS OF BULK AT MOST 1048576: true; the input reads as it did. -/
def fnExactRootByRemainderUptoRow : OpenClaim := { program := "ytdjaceojaipmkaa", sum := "b6d94dd7dfe9f159dc2bbd2e2e4cbf3f003b3fa0c4b4d0176a2fe477882e69d1", func := "loop.example/g01151/laws.FnExactRootByRemainder", spec := "fnExactRootByRemainder", apart := false, narrowed := true }
def FnExactRootByRemainderUptoSaid : Prop := fnExactRootByRemainderUptoRow.holds Try.pinned (OpenSpec.upto fnExactRootByRemainderSpec)

/-- 'laws.FnExactIsSmooth', WHERE WHAT IT READS IS OF BULK AT MOST 1048576: true; the input reads as it did. -/
def fnExactIsSmoothUptoRow : OpenClaim := { program := "ytdjaceojaipmkaa", sum := "b6d94dd7dfe9f159dc2bbd2e2e4cbf3f003b3fa0c4b4d0176a2fe477882e69d1", func := "loop.example/g01151/laws.FnExactIsSmooth", spec := "fnExactIsSmooth", apart := false, narrowed := true }
def FnExactIsSmoothUptoSaid : Prop := fnExactIsSmoothUptoRow.holds Try.pinned (OpenSpec.upto fnExactIsSmoothSpec)

/-- 'laws.FnExactShortStep', WHERE WHAT IT READS IS OF BULK AT MOST 1048576: true; the input reads as it did. -/
def fnExactShortStepUptoRow : OpenClaim := { program := "ytdjaceojaipmkaa", sum := "b6d94dd7dfe9f159dc2bbd2e2e4cbf3f003b3fa0c4b4d0176a2fe477882e69d1", func := "loop.example/g01151/laws.FnExactShortStep", spec := "fnExactShortStep", apart := false, narrowed := true }
def FnExactShortStepUptoSaid : Prop := fnExactShortStepUptoRow.holds Try.pinned (OpenSpec.upto fnExactShortStepSpec)

/-- 'laws.FnExactStepOf', WHERE WHAT IT READS IS OF BULK AT MOST 1048576: true; the input reads as it did. -/
def fnExactStepOfUptoRow : OpenClaim := { program := "ytdjaceojaipmkaa", sum := "b6d94dd7dfe9f159dc2bbd2e2e4cbf3f003b3fa0c4b4d0176a2fe477882e69d1", func := "loop.example/g01151/laws.FnExactStepOf", spec := "fnExactStepOf", apart := false, narrowed := true }
def FnExactStepOfUptoSaid : Prop := fnExactStepOfUptoRow.holds Try.pinned (OpenSpec.upto fnExactStepOfSpec)

/-- 'laws.FnExactEvenPerfect', WHERE WHAT IT READS IS OF BULK AT MOST 1048576: true; the input reads as it did. -/
def fnExactEvenPerfectUptoRow : OpenClaim := { program := "ytdjaceojaipmkaa", sum := "b6d94dd7dfe9f159dc2bbd2e2e4cbf3f003b3fa0c4b4d0176a2fe477882e69d1", func := "loop.example/g01151/laws.FnExactEvenPerfect", spec := "fnExactEvenPerfect", apart := false, narrowed := true }
def FnExactEvenPerfectUptoSaid : Prop := fnExactEvenPerfectUptoRow.holds Try.pinned (OpenSpec.upto fnExactEvenPerfectSpec)

/-- 'laws.FnExactStepWith', WHERE WHAT IT READS IS OF BULK AT MOST 1048576: true; the input reads as it did. -/
def fnExactStepWithUptoRow : OpenClaim := { program := "ytdjaceojaipmkaa", sum := "b6d94dd7dfe9f159dc2bbd2e2e4cbf3f003b3fa0c4b4d0176a2fe477882e69d1", func := "loop.example/g01151/laws.FnExactStepWith", spec := "fnExactStepWith", apart := false, narrowed := true }
def FnExactStepWithUptoSaid : Prop := fnExactStepWithUptoRow.holds Try.pinned (OpenSpec.upto fnExactStepWithSpec)

/-- 'laws.FnExactThabitPair', WHERE WHAT IT READS IS OF BULK AT MOST 1048576: true; the input reads as it did. -/
def fnExactThabitPairUptoRow : OpenClaim := { program := "ytdjaceojaipmkaa", sum := "b6d94dd7dfe9f159dc2bbd2e2e4cbf3f003b3fa0c4b4d0176a2fe477882e69d1", func := "loop.example/g01151/laws.FnExactThabitPair", spec := "fnExactThabitPair", apart := false, narrowed := true }
def FnExactThabitPairUptoSaid : Prop := fnExactThabitPairUptoRow.holds Try.pinned (OpenSpec.upto fnExactThabitPairSpec)

/-- 'laws.FnExactIsZuckerman', WHERE WHAT IT READS IS OF BULK AT MOST 1048576: true; the input reads as it did. -/
def fnExactIsZuckermanUptoRow : OpenClaim := { program := "ytdjaceojaipmkaa", sum := "b6d94dd7dfe9f159dc2bbd2e2e4cbf3f003b3fa0c4b4d0176a2fe477882e69d1", func := "loop.example/g01151/laws.FnExactIsZuckerman", spec := "fnExactIsZuckerman", apart := false, narrowed := true }
def FnExactIsZuckermanUptoSaid : Prop := fnExactIsZuckermanUptoRow.holds Try.pinned (OpenSpec.upto fnExactIsZuckermanSpec)

/-- 'laws.FnExactIsHarshad', WHERE WHAT IT READS IS OF BULK AT MOST 1048576: true; the input reads as it did. -/
def fnExactIsHarshadUptoRow : OpenClaim := { program := "ytdjaceojaipmkaa", sum := "b6d94dd7dfe9f159dc2bbd2e2e4cbf3f003b3fa0c4b4d0176a2fe477882e69d1", func := "loop.example/g01151/laws.FnExactIsHarshad", spec := "fnExactIsHarshad", apart := false, narrowed := true }
def FnExactIsHarshadUptoSaid : Prop := fnExactIsHarshadUptoRow.holds Try.pinned (OpenSpec.upto fnExactIsHarshadSpec)

/-- 'laws.FnExactBeforeStep', WHERE WHAT IT READS IS OF BULK AT MOST 1048576: true; the input reads as it did. -/
def fnExactBeforeStepUptoRow : OpenClaim := { program := "ytdjaceojaipmkaa", sum := "b6d94dd7dfe9f159dc2bbd2e2e4cbf3f003b3fa0c4b4d0176a2fe477882e69d1", func := "loop.example/g01151/laws.FnExactBeforeStep", spec := "fnExactBeforeStep", apart := false, narrowed := true }
def FnExactBeforeStepUptoSaid : Prop := fnExactBeforeStepUptoRow.holds Try.pinned (OpenSpec.upto fnExactBeforeStepSpec)

/-- 'laws.FnExactPrimeFactors', WHERE WHAT IT READS IS OF BULK AT MOST 1048576: true; the input reads as it did. -/
def fnExactPrimeFactorsUptoRow : OpenClaim := { program := "ytdjaceojaipmkaa", sum := "b6d94dd7dfe9f159dc2bbd2e2e4cbf3f003b3fa0c4b4d0176a2fe477882e69d1", func := "loop.example/g01151/laws.FnExactPrimeFactors", spec := "fnExactPrimeFactors", apart := false, narrowed := true }
def FnExactPrimeFactorsUptoSaid : Prop := fnExactPrimeFactorsUptoRow.holds Try.pinned (OpenSpec.upto fnExactPrimeFactorsSpec)

/-- 'laws.FnExactCountDivisors', WHERE WHAT IT READS IS OF BULK AT MOST 1048576: true; the input reads as it did. -/
def fnExactCountDivisorsUptoRow : OpenClaim := { program := "ytdjaceojaipmkaa", sum := "b6d94dd7dfe9f159dc2bbd2e2e4cbf3f003b3fa0c4b4d0176a2fe477882e69d1", func := "loop.example/g01151/laws.FnExactCountDivisors", spec := "fnExactCountDivisors", apart := false, narrowed := true }
def FnExactCountDivisorsUptoSaid : Prop := fnExactCountDivisorsUptoRow.holds Try.pinned (OpenSpec.upto fnExactCountDivisorsSpec)

end Rows
end Go.Proofs.Ytdjaceojaipmkaa
