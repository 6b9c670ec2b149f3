/-
  No cell of these rows narrows 'for every input' (looked for: loops, veiled, ifaces, maps, wideKeys, modest, calm, conditions, laid).
  DERIVED. THE GIVEN ROWS OF THIS SEAT. 9 by the template 'for every input the law returns true; each argument reads behind the call as it read before'; 0 by the template 'total and deterministic' (their statements: YteojcnegdcopdaaTotals.lean).
  GIVEN WITH THE SEED: the statements are not yours to turn. If you find one false, say at which input.
  Laid BY PROGRAM, IN A SANDBOX (cutbox-rows.mjs): the forced cells as the released guide's own fill.sh prints them over the translation f394d7d6a819d205… (all of the seat's roots in one cut). By AI agents, Wed Nov 11 2026. No macro, syntax, notation, axiom, sorry.
-/
import Derived.Test.YteojcnegdcopdaaChecked
import GoSem.Claim
import GoSem.ClaimJoined
import GoSem.ClaimMapViews
import Derived.JoinedTies
import Derived.KernelRfl
namespace Go.Proofs.Yteojcnegdcopdaa
/- THE CELL 'sum', in the pinned program and in every row, IS THE sha256 OF THE DUMP (.gsa) THAT YteojcnegdcopdaaProg.lean LOADS. Nothing in Lean hashes anything: it is a label: what it is worth is what the hold of that sum in a sandbox is worth. -/
noncomputable def Try.pinned : Pinned := { name := "yteojcnegdcopdaa", sum := "f394d7d6a819d205e3d511a57decec7a778d7a1408014af0f5f572812d0f3d15", checked := Try.checked }
namespace Rows
def none {H : Type} : Left H := { results := [], args := [] }

/-- 'laws.FnExactSortedStep': WHATEVER THE INPUT: true; the input reads as it did. -/
def fnExactSortedStepSpec : ChangeSpec := { name := "fnExactSortedStep", fn := fun _ => fun
  | [d1, d2] => { results := [.lit (.bool true)], args := [d1, d2] }
  | _ => none }
def fnExactSortedStepRow : OpenClaim := { program := "yteojcnegdcopdaa", sum := "f394d7d6a819d205e3d511a57decec7a778d7a1408014af0f5f572812d0f3d15", func := "loop.example/g01151/laws.FnExactSortedStep", spec := "fnExactSortedStep", unfollowed := true, recurses := true, apart := false }
def FnExactSortedStepSaid : Prop := fnExactSortedStepRow.holds Try.pinned (OpenSpec.ofChange fnExactSortedStepSpec)

/-- ITS FALSE NEIGHBOUR: 'it returns false'. Refute it at one input. -/
def fnExactSortedStepWrong : ChangeSpec := { name := "fnExactSortedStep", fn := fun _ => fun
  | [d1, d2] => { results := [.lit (.bool false)], args := [d1, d2] }
  | _ => none }
def FnExactSortedStepWrongFalsely : Prop := fnExactSortedStepRow.holds Try.pinned (OpenSpec.ofChange fnExactSortedStepWrong)

/-- 'laws.FnExactTailOf': WHATEVER THE INPUT: true; the input reads as it did. -/
def fnExactTailOfSpec : ChangeSpec := { name := "fnExactTailOf", fn := fun _ => fun
  | [d1, d2] => { results := [.lit (.bool true)], args := [d1, d2] }
  | _ => none }
def fnExactTailOfRow : OpenClaim := { program := "yteojcnegdcopdaa", sum := "f394d7d6a819d205e3d511a57decec7a778d7a1408014af0f5f572812d0f3d15", func := "loop.example/g01151/laws.FnExactTailOf", spec := "fnExactTailOf", unfollowed := true, recurses := true, apart := false }
def FnExactTailOfSaid : Prop := fnExactTailOfRow.holds Try.pinned (OpenSpec.ofChange fnExactTailOfSpec)

/-- ITS FALSE NEIGHBOUR: 'it returns false'. Refute it at one input. -/
def fnExactTailOfWrong : ChangeSpec := { name := "fnExactTailOf", fn := fun _ => fun
  | [d1, d2] => { results := [.lit (.bool false)], args := [d1, d2] }
  | _ => none }
def FnExactTailOfWrongFalsely : Prop := fnExactTailOfRow.holds Try.pinned (OpenSpec.ofChange fnExactTailOfWrong)

/-- 'laws.FnExactSortedRun': WHATEVER THE INPUT: true; the input reads as it did. -/
def fnExactSortedRunSpec : ChangeSpec := { name := "fnExactSortedRun", fn := fun _ => fun
  | [d1, d2] => { results := [.lit (.bool true)], args := [d1, d2] }
  | _ => none }
def fnExactSortedRunRow : OpenClaim := { program := "yteojcnegdcopdaa", sum := "f394d7d6a819d205e3d511a57decec7a778d7a1408014af0f5f572812d0f3d15", func := "loop.example/g01151/laws.FnExactSortedRun", spec := "fnExactSortedRun", unfollowed := true, recurses := true, apart := false }
def FnExactSortedRunSaid : Prop := fnExactSortedRunRow.holds Try.pinned (OpenSpec.ofChange fnExactSortedRunSpec)

/-- ITS FALSE NEIGHBOUR: 'it returns false'. Refute it at one input. -/
def fnExactSortedRunWrong : ChangeSpec := { name := "fnExactSortedRun", fn := fun _ => fun
  | [d1, d2] => { results := [.lit (.bool false)], args := [d1, d2] }
  | _ => none }
def FnExactSortedRunWrongFalsely : Prop := fnExactSortedRunRow.holds Try.pinned (OpenSpec.ofChange fnExactSortedRunWrong)

/-- 'laws.FnExactCycleOf': WHATEVER THE INPUT: true; the input reads as it did. -/
def fnExactCycleOfSpec : ChangeSpec := { name := "fnExactCycleOf", fn := fun _ => fun
  | [d1, d2] => { results := [.lit (.bool true)], args := [d1, d2] }
  | _ => none }
def fnExactCycleOfRow : OpenClaim := { program := "yteojcnegdcopdaa", sum := "f394d7d6a819d205e3d511a57decec7a778d7a1408014af0f5f572812d0f3d15", func := "loop.example/g01151/laws.FnExactCycleOf", spec := "fnExactCycleOf", unfollowed := true, recurses := true, apart := false }
def FnExactCycleOfSaid : Prop := fnExactCycleOfRow.holds Try.pinned (OpenSpec.ofChange fnExactCycleOfSpec)

/-- ITS FALSE NEIGHBOUR: 'it returns false'. Refute it at one input. -/
def fnExactCycleOfWrong : ChangeSpec := { name := "fnExactCycleOf", fn := fun _ => fun
  | [d1, d2] => { results := [.lit (.bool false)], args := [d1, d2] }
  | _ => none }
def FnExactCycleOfWrongFalsely : Prop := fnExactCycleOfRow.holds Try.pinned (OpenSpec.ofChange fnExactCycleOfWrong)

/-- 'laws.FnExactAllGaps': WHATEVER THE INPUT: true; the input reads as it did. -/
def fnExactAllGapsSpec : ChangeSpec := { name := "fnExactAllGaps", fn := fun _ => fun
  | [d1, d2] => { results := [.lit (.bool true)], args := [d1, d2] }
  | _ => none }
def fnExactAllGapsRow : OpenClaim := { program := "yteojcnegdcopdaa", sum := "f394d7d6a819d205e3d511a57decec7a778d7a1408014af0f5f572812d0f3d15", func := "loop.example/g01151/laws.FnExactAllGaps", spec := "fnExactAllGaps", unfollowed := true, recurses := true, apart := false }
def FnExactAllGapsSaid : Prop := fnExactAllGapsRow.holds Try.pinned (OpenSpec.ofChange fnExactAllGapsSpec)

/-- ITS FALSE NEIGHBOUR: 'it returns false'. Refute it at one input. -/
def fnExactAllGapsWrong : ChangeSpec := { name := "fnExactAllGaps", fn := fun _ => fun
  | [d1, d2] => { results := [.lit (.bool false)], args := [d1, d2] }
  | _ => none }
def FnExactAllGapsWrongFalsely : Prop := fnExactAllGapsRow.holds Try.pinned (OpenSpec.ofChange fnExactAllGapsWrong)

/-- 'laws.FnExactFixedWords': WHATEVER THE INPUT: true; the input reads as it did. -/
def fnExactFixedWordsSpec : ChangeSpec := { name := "fnExactFixedWords", fn := fun _ => fun
  | [d1, d2] => { results := [.lit (.bool true)], args := [d1, d2] }
  | _ => none }
def fnExactFixedWordsRow : OpenClaim := { program := "yteojcnegdcopdaa", sum := "f394d7d6a819d205e3d511a57decec7a778d7a1408014af0f5f572812d0f3d15", func := "loop.example/g01151/laws.FnExactFixedWords", spec := "fnExactFixedWords", unfollowed := true, recurses := true, apart := false }
def FnExactFixedWordsSaid : Prop := fnExactFixedWordsRow.holds Try.pinned (OpenSpec.ofChange fnExactFixedWordsSpec)

/-- ITS FALSE NEIGHBOUR: 'it returns false'. Refute it at one input. -/
def fnExactFixedWordsWrong : ChangeSpec := { name := "fnExactFixedWords", fn := fun _ => fun
  | [d1, d2] => { results := [.lit (.bool false)], args := [d1, d2] }
  | _ => none }
def FnExactFixedWordsWrongFalsely : Prop := fnExactFixedWordsRow.holds Try.pinned (OpenSpec.ofChange fnExactFixedWordsWrong)

/-- 'laws.FnExactAllCycles': WHATEVER THE INPUT: true; the input reads as it did. -/
def fnExactAllCyclesSpec : ChangeSpec := { name := "fnExactAllCycles", fn := fun _ => fun
  | [d1, d2] => { results := [.lit (.bool true)], args := [d1, d2] }
  | _ => none }
def fnExactAllCyclesRow : OpenClaim := { program := "yteojcnegdcopdaa", sum := "f394d7d6a819d205e3d511a57decec7a778d7a1408014af0f5f572812d0f3d15", func := "loop.example/g01151/laws.FnExactAllCycles", spec := "fnExactAllCycles", unfollowed := true, recurses := true, apart := false }
def FnExactAllCyclesSaid : Prop := fnExactAllCyclesRow.holds Try.pinned (OpenSpec.ofChange fnExactAllCyclesSpec)

/-- ITS FALSE NEIGHBOUR: 'it returns false'. Refute it at one input. -/
def fnExactAllCyclesWrong : ChangeSpec := { name := "fnExactAllCycles", fn := fun _ => fun
  | [d1, d2] => { results := [.lit (.bool false)], args := [d1, d2] }
  | _ => none }
def FnExactAllCyclesWrongFalsely : Prop := fnExactAllCyclesRow.holds Try.pinned (OpenSpec.ofChange fnExactAllCyclesWrong)

/-- 'laws.FnExactCountReaching': WHATEVER THE INPUT: true; the input reads as it did. -/
def fnExactCountReachingSpec : ChangeSpec := { name := "fnExactCountReaching", fn := fun _ => fun
  | [d1, d2] => { results := [.lit (.bool true)], args := [d1, d2] }
  | _ => none }
def fnExactCountReachingRow : OpenClaim := { program := "yteojcnegdcopdaa", sum := "f394d7d6a819d205e3d511a57decec7a778d7a1408014af0f5f572812d0f3d15", func := "loop.example/g01151/laws.FnExactCountReaching", spec := "fnExactCountReaching", unfollowed := true, recurses := true, apart := false }
def FnExactCountReachingSaid : Prop := fnExactCountReachingRow.holds Try.pinned (OpenSpec.ofChange fnExactCountReachingSpec)

/-- ITS FALSE NEIGHBOUR: 'it returns false'. Refute it at one input. -/
def fnExactCountReachingWrong : ChangeSpec := { name := "fnExactCountReaching", fn := fun _ => fun
  | [d1, d2] => { results := [.lit (.bool false)], args := [d1, d2] }
  | _ => none }
def FnExactCountReachingWrongFalsely : Prop := fnExactCountReachingRow.holds Try.pinned (OpenSpec.ofChange fnExactCountReachingWrong)

/-- 'laws.FnExactLongestTail': WHATEVER THE INPUT: true; the input reads as it did. -/
def fnExactLongestTailSpec : ChangeSpec := { name := "fnExactLongestTail", fn := fun _ => fun
  | [d1, d2] => { results := [.lit (.bool true)], args := [d1, d2] }
  | _ => none }
def fnExactLongestTailRow : OpenClaim := { program := "yteojcnegdcopdaa", sum := "f394d7d6a819d205e3d511a57decec7a778d7a1408014af0f5f572812d0f3d15", func := "loop.example/g01151/laws.FnExactLongestTail", spec := "fnExactLongestTail", unfollowed := true, recurses := true, apart := false }
def FnExactLongestTailSaid : Prop := fnExactLongestTailRow.holds Try.pinned (OpenSpec.ofChange fnExactLongestTailSpec)

/-- ITS FALSE NEIGHBOUR: 'it returns false'. Refute it at one input. -/
def fnExactLongestTailWrong : ChangeSpec := { name := "fnExactLongestTail", fn := fun _ => fun
  | [d1, d2] => { results := [.lit (.bool false)], args := [d1, d2] }
  | _ => none }
def FnExactLongestTailWrongFalsely : Prop := fnExactLongestTailRow.holds Try.pinned (OpenSpec.ofChange fnExactLongestTailWrong)

/- THE SECOND FORM. 'bulk': how many values and letters a reading holds, each counted each time it is reached (what is shared counts as often as it is met; a slice's spare places count too). A statement '..UptoSaid' is the law's where the arguments, and the package variables that the reading takes, are together of bulk at most 1048576: NARROWER than '..Said'. Prove '..Said' where nothing that the law and all that it calls make is longer than what came in: it says more and counts as full. Else prove '..UptoSaid'. A law counts once. -/
mutual
def uptoBulk {H : Type} : DataW H → Nat
  | .lit (.string bytes) => bytes.length + 1
  | .lit _ => 1
  | .nil => 1
  | .ptr d => uptoBulk d + 1
  | .slice elems spare => uptoBulkAll elems + uptoBulkAll spare + 1
  | .agg parts => uptoBulkAll parts + 1
  | .iface _ d => uptoBulk d + 1
  | .map entries => uptoBulkEntries entries + 1
  | .held _ => 1
def uptoBulkAll {H : Type} : List (DataW H) → Nat
  | [] => 0
  | d :: r => uptoBulk d + uptoBulkAll r
def uptoBulkEntries {H : Type} : List (Lit × DataW H) → Nat
  | [] => 0
  | x :: r => uptoBulkEntry x + uptoBulkEntries r
def uptoBulkEntry {H : Type} : Lit × DataW H → Nat
  | (.string bytes, d) => bytes.length + uptoBulk d + 1
  | (_, d) => uptoBulk d + 1
 end
def uptoSmall : (H : Type) → List (DataW H) → Bool := fun _ ds => decide (uptoBulkAll ds ≤ 1048576)
def OpenSpec.upto (s : _root_.Go.ChangeSpec) : _root_.Go.OpenSpec := { _root_.Go.OpenSpec.ofChange s with cond := some uptoSmall }

/-- 'laws.FnExactSortedStep', WHERE WHAT IT READS IS OF BULK AT MOST 1048576: true; the input reads as it did. -/
def fnExactSortedStepUptoRow : OpenClaim := { program := "yteojcnegdcopdaa", sum := "f394d7d6a819d205e3d511a57decec7a778d7a1408014af0f5f572812d0f3d15", func := "loop.example/g01151/laws.FnExactSortedStep", spec := "fnExactSortedStep", unfollowed := true, recurses := true, apart := false, narrowed := true }
def FnExactSortedStepUptoSaid : Prop := fnExactSortedStepUptoRow.holds Try.pinned (OpenSpec.upto fnExactSortedStepSpec)

/-- 'laws.FnExactTailOf', WHERE WHAT IT READS IS OF BULK AT MOST 1048576: true; the input reads as it did. -/
def fnExactTailOfUptoRow : OpenClaim := { program := "yteojcnegdcopdaa", sum := "f394d7d6a819d205e3d511a57decec7a778d7a1408014af0f5f572812d0f3d15", func := "loop.example/g01151/laws.FnExactTailOf", spec := "fnExactTailOf", unfollowed := true, recurses := true, apart := false, narrowed := true }
def FnExactTailOfUptoSaid : Prop := fnExactTailOfUptoRow.holds Try.pinned (OpenSpec.upto fnExactTailOfSpec)

/-- 'laws.FnExactSortedRun', WHERE WHAT IT READS IS OF BULK AT MOST 1048576: true; the input reads as it did. -/
def fnExactSortedRunUptoRow : OpenClaim := { program := "yteojcnegdcopdaa", sum := "f394d7d6a819d205e3d511a57decec7a778d7a1408014af0f5f572812d0f3d15", func := "loop.example/g01151/laws.FnExactSortedRun", spec := "fnExactSortedRun", unfollowed := true, recurses := true, apart := false, narrowed := true }
def FnExactSortedRunUptoSaid : Prop := fnExactSortedRunUptoRow.holds Try.pinned (OpenSpec.upto fnExactSortedRunSpec)

/-- 'laws.FnExactCycleOf', WHERE WHAT IT READS IS OF BULK AT MOST 1048576: true; the input reads as it did. -/
def fnExactCycleOfUptoRow : OpenClaim := { program := "yteojcnegdcopdaa", sum := "f394d7d6a819d205e3d511a57decec7a778d7a1408014af0f5f572812d0f3d15", func := "loop.example/g01151/laws.FnExactCycleOf", spec := "fnExactCycleOf", unfollowed := true, recurses := true, apart := false, narrowed := true }
def FnExactCycleOfUptoSaid : Prop := fnExactCycleOfUptoRow.holds Try.pinned (OpenSpec.upto fnExactCycleOfSpec)

/-- 'laws.FnExactAllGaps', WHERE WHAT IT READS IS OF BULK AT MOST 1048576: true; the input reads as it did. -/
def fnExactAllGapsUptoRow : OpenClaim := { program := "yteojcnegdcopdaa", sum := "f394d7d6a819d205e3d511a57decec7a778d7a1408014af0f5f572812d0f3d15", func := "loop.example/g01151/laws.FnExactAllGaps", spec := "fnExactAllGaps", unfollowed := true, recurses := true, apart := false, narrowed := true }
def FnExactAllGapsUptoSaid : Prop := fnExactAllGapsUptoRow.holds Try.pinned (OpenSpec.upto fnExactAllGapsSpec)

/-- 'laws.FnExactFixedWords', WHERE WHAT IT READS IS OF BULK AT MOST 1048576: true; the input reads as it did. -/
def fnExactFixedWordsUptoRow : OpenClaim := { program := "yteojcnegdcopdaa", sum := "f394d7d6a819d205e3d511a57decec7a778d7a1408014af0f5f572812d0f3d15", func := "loop.example/g01151/laws.FnExactFixedWords", spec := "fnExactFixedWords", unfollowed := true, recurses := true, apart := false, narrowed := true }
def FnExactFixedWordsUptoSaid : Prop := fnExactFixedWordsUptoRow.holds Try.pinned (OpenSpec.upto fnExactFixedWordsSpec)

/-- 'laws.FnExactAllCycles', WHERE WHAT IT READS IS OF BULK AT MOST 1048576: true; the input reads as it did. -/
def fnExactAllCyclesUptoRow : OpenClaim := { program := "yteojcnegdcopdaa", sum := "f394d7d6a819d205e3d511a57decec7a778d7a1408014af0f5f572812d0f3d15", func := "loop.example/g01151/laws.FnExactAllCycles", spec := "fnExactAllCycles", unfollowed := true, recurses := true, apart := false, narrowed := true }
def FnExactAllCyclesUptoSaid : Prop := fnExactAllCyclesUptoRow.holds Try.pinned (OpenSpec.upto fnExactAllCyclesSpec)

/-- 'laws.FnExactCountReaching', WHERE WHAT IT READS IS OF BULK AT MOST 1048576: true; the input reads as it did. -/
def fnExactCountReachingUptoRow : OpenClaim := { program := "yteojcnegdcopdaa", sum := "f394d7d6a819d205e3d511a57decec7a778d7a1408014af0f5f572812d0f3d15", func := "loop.example/g01151/laws.FnExactCountReaching", spec := "fnExactCountReaching", unfollowed := true, recurses := true, apart := false, narrowed := true }
def FnExactCountReachingUptoSaid : Prop := fnExactCountReachingUptoRow.holds Try.pinned (OpenSpec.upto fnExactCountReachingSpec)

/-- 'laws.FnExactLongestTail', WHERE WHAT IT READS IS OF BULK AT MOST 1048576: true; the input reads as it did. -/
def fnExactLongestTailUptoRow : OpenClaim := { program := "yteojcnegdcopdaa", sum := "f394d7d6a819d205e3d511a57decec7a778d7a1408014af0f5f572812d0f3d15", func := "loop.example/g01151/laws.FnExactLongestTail", spec := "fnExactLongestTail", unfollowed := true, recurses := true, apart := false, narrowed := true }
def FnExactLongestTailUptoSaid : Prop := fnExactLongestTailUptoRow.holds Try.pinned (OpenSpec.upto fnExactLongestTailSpec)

end Rows
end Go.Proofs.Yteojcnegdcopdaa
