/-
  No cell of these rows narrows 'for every input' (looked for: loops, veiled, ifaces, maps, wideKeys, modest, calm, conditions, laid).
  DERIVED. THE GIVEN ROWS OF THIS SEAT. 12 by the template 'for every input the law returns true; each argument reads behind the call as it read before'; 0 by the template 'total and deterministic' (their statements: YtpmhbpapchmeiaaTotals.lean).
  GIVEN WITH THE SEED: the statements are not yours to turn. If you find one false, say at which input.
  Laid BY PROGRAM, IN A SANDBOX (cutbox-rows.mjs): the forced cells as the released guide's own fill.sh prints them over the translation 5cfe541328434553… (all of the seat's roots in one cut). By AI agents, Wed Nov 11 2026. No macro, syntax, notation, axiom, sorry.
-/
import Derived.Test.YtpmhbpapchmeiaaChecked
import GoSem.Claim
import GoSem.ClaimJoined
import GoSem.ClaimMapViews
import Derived.JoinedTies
import Derived.KernelRfl
namespace Go.Proofs.Ytpmhbpapchmeiaa
/- THE CELL 'sum', in the pinned program and in every row, IS THE sha256 OF THE DUMP (.gsa) THAT YtpmhbpapchmeiaaProg.lean LOADS. Nothing in Lean hashes anything: it is a label: what it is worth is what the hold of that sum in a sandbox is worth. -/
noncomputable def Try.pinned : Pinned := { name := "ytpmhbpapchmeiaa", sum := "5cfe541328434553f19cd48f9d5fc0af49de50dd7d028747d64a3cb75af0f8b0", checked := Try.checked }
namespace Rows
def none {H : Type} : Left H := { results := [], args := [] }

/-- 'laws.FnExactFallsBelow': WHATEVER THE INPUT: true; the input reads as it did. -/
def fnExactFallsBelowSpec : ChangeSpec := { name := "fnExactFallsBelow", fn := fun _ => fun
  | [d] => { results := [.lit (.bool true)], args := [d] }
  | _ => none }
def fnExactFallsBelowRow : OpenClaim := { program := "ytpmhbpapchmeiaa", sum := "5cfe541328434553f19cd48f9d5fc0af49de50dd7d028747d64a3cb75af0f8b0", func := "loop.example/g01151/laws.FnExactFallsBelow", spec := "fnExactFallsBelow", unfollowed := true, recurses := true, apart := false }
def FnExactFallsBelowSaid : Prop := fnExactFallsBelowRow.holds Try.pinned (OpenSpec.ofChange fnExactFallsBelowSpec)

/-- ITS FALSE NEIGHBOUR: 'it returns false'. Refute it at one input. -/
def fnExactFallsBelowWrong : ChangeSpec := { name := "fnExactFallsBelow", fn := fun _ => fun
  | [d] => { results := [.lit (.bool false)], args := [d] }
  | _ => none }
def FnExactFallsBelowWrongFalsely : Prop := fnExactFallsBelowRow.holds Try.pinned (OpenSpec.ofChange fnExactFallsBelowWrong)

/-- 'laws.FnExactStepsTo': WHATEVER THE INPUT: true; the input reads as it did. -/
def fnExactStepsToSpec : ChangeSpec := { name := "fnExactStepsTo", fn := fun _ => fun
  | [d] => { results := [.lit (.bool true)], args := [d] }
  | _ => none }
def fnExactStepsToRow : OpenClaim := { program := "ytpmhbpapchmeiaa", sum := "5cfe541328434553f19cd48f9d5fc0af49de50dd7d028747d64a3cb75af0f8b0", func := "loop.example/g01151/laws.FnExactStepsTo", spec := "fnExactStepsTo", unfollowed := true, recurses := true, apart := false }
def FnExactStepsToSaid : Prop := fnExactStepsToRow.holds Try.pinned (OpenSpec.ofChange fnExactStepsToSpec)

/-- ITS FALSE NEIGHBOUR: 'it returns false'. Refute it at one input. -/
def fnExactStepsToWrong : ChangeSpec := { name := "fnExactStepsTo", fn := fun _ => fun
  | [d] => { results := [.lit (.bool false)], args := [d] }
  | _ => none }
def FnExactStepsToWrongFalsely : Prop := fnExactStepsToRow.holds Try.pinned (OpenSpec.ofChange fnExactStepsToWrong)

/-- 'laws.FnExactGreatestOn': WHATEVER THE INPUT: true; the input reads as it did. -/
def fnExactGreatestOnSpec : ChangeSpec := { name := "fnExactGreatestOn", fn := fun _ => fun
  | [d] => { results := [.lit (.bool true)], args := [d] }
  | _ => none }
def fnExactGreatestOnRow : OpenClaim := { program := "ytpmhbpapchmeiaa", sum := "5cfe541328434553f19cd48f9d5fc0af49de50dd7d028747d64a3cb75af0f8b0", func := "loop.example/g01151/laws.FnExactGreatestOn", spec := "fnExactGreatestOn", unfollowed := true, recurses := true, apart := false }
def FnExactGreatestOnSaid : Prop := fnExactGreatestOnRow.holds Try.pinned (OpenSpec.ofChange fnExactGreatestOnSpec)

/-- ITS FALSE NEIGHBOUR: 'it returns false'. Refute it at one input. -/
def fnExactGreatestOnWrong : ChangeSpec := { name := "fnExactGreatestOn", fn := fun _ => fun
  | [d] => { results := [.lit (.bool false)], args := [d] }
  | _ => none }
def FnExactGreatestOnWrongFalsely : Prop := fnExactGreatestOnRow.holds Try.pinned (OpenSpec.ofChange fnExactGreatestOnWrong)

/-- 'laws.FnExactWayToOne': WHATEVER THE INPUT: true; the input reads as it did. -/
def fnExactWayToOneSpec : ChangeSpec := { name := "fnExactWayToOne", fn := fun _ => fun
  | [d] => { results := [.lit (.bool true)], args := [d] }
  | _ => none }
def fnExactWayToOneRow : OpenClaim := { program := "ytpmhbpapchmeiaa", sum := "5cfe541328434553f19cd48f9d5fc0af49de50dd7d028747d64a3cb75af0f8b0", func := "loop.example/g01151/laws.FnExactWayToOne", spec := "fnExactWayToOne", unfollowed := true, recurses := true, apart := false }
def FnExactWayToOneSaid : Prop := fnExactWayToOneRow.holds Try.pinned (OpenSpec.ofChange fnExactWayToOneSpec)

/-- ITS FALSE NEIGHBOUR: 'it returns false'. Refute it at one input. -/
def fnExactWayToOneWrong : ChangeSpec := { name := "fnExactWayToOne", fn := fun _ => fun
  | [d] => { results := [.lit (.bool false)], args := [d] }
  | _ => none }
def FnExactWayToOneWrongFalsely : Prop := fnExactWayToOneRow.holds Try.pinned (OpenSpec.ofChange fnExactWayToOneWrong)

/-- 'laws.FnExactPersistenceOf': WHATEVER THE INPUT: true; the input reads as it did. -/
def fnExactPersistenceOfSpec : ChangeSpec := { name := "fnExactPersistenceOf", fn := fun _ => fun
  | [d1, d2] => { results := [.lit (.bool true)], args := [d1, d2] }
  | _ => none }
def fnExactPersistenceOfRow : OpenClaim := { program := "ytpmhbpapchmeiaa", sum := "5cfe541328434553f19cd48f9d5fc0af49de50dd7d028747d64a3cb75af0f8b0", func := "loop.example/g01151/laws.FnExactPersistenceOf", spec := "fnExactPersistenceOf", unfollowed := true, recurses := true, apart := false }
def FnExactPersistenceOfSaid : Prop := fnExactPersistenceOfRow.holds Try.pinned (OpenSpec.ofChange fnExactPersistenceOfSpec)

/-- ITS FALSE NEIGHBOUR: 'it returns false'. Refute it at one input. -/
def fnExactPersistenceOfWrong : ChangeSpec := { name := "fnExactPersistenceOf", fn := fun _ => fun
  | [d1, d2] => { results := [.lit (.bool false)], args := [d1, d2] }
  | _ => none }
def FnExactPersistenceOfWrongFalsely : Prop := fnExactPersistenceOfRow.holds Try.pinned (OpenSpec.ofChange fnExactPersistenceOfWrong)

/-- 'laws.FnExactSumPersistence': WHATEVER THE INPUT: true; the input reads as it did. -/
def fnExactSumPersistenceSpec : ChangeSpec := { name := "fnExactSumPersistence", fn := fun _ => fun
  | [d1, d2] => { results := [.lit (.bool true)], args := [d1, d2] }
  | _ => none }
def fnExactSumPersistenceRow : OpenClaim := { program := "ytpmhbpapchmeiaa", sum := "5cfe541328434553f19cd48f9d5fc0af49de50dd7d028747d64a3cb75af0f8b0", func := "loop.example/g01151/laws.FnExactSumPersistence", spec := "fnExactSumPersistence", unfollowed := true, recurses := true, apart := false }
def FnExactSumPersistenceSaid : Prop := fnExactSumPersistenceRow.holds Try.pinned (OpenSpec.ofChange fnExactSumPersistenceSpec)

/-- ITS FALSE NEIGHBOUR: 'it returns false'. Refute it at one input. -/
def fnExactSumPersistenceWrong : ChangeSpec := { name := "fnExactSumPersistence", fn := fun _ => fun
  | [d1, d2] => { results := [.lit (.bool false)], args := [d1, d2] }
  | _ => none }
def FnExactSumPersistenceWrongFalsely : Prop := fnExactSumPersistenceRow.holds Try.pinned (OpenSpec.ofChange fnExactSumPersistenceWrong)

/-- 'laws.FnExactProductRoot': WHATEVER THE INPUT: true; the input reads as it did. -/
def fnExactProductRootSpec : ChangeSpec := { name := "fnExactProductRoot", fn := fun _ => fun
  | [d1, d2] => { results := [.lit (.bool true)], args := [d1, d2] }
  | _ => none }
def fnExactProductRootRow : OpenClaim := { program := "ytpmhbpapchmeiaa", sum := "5cfe541328434553f19cd48f9d5fc0af49de50dd7d028747d64a3cb75af0f8b0", func := "loop.example/g01151/laws.FnExactProductRoot", spec := "fnExactProductRoot", unfollowed := true, recurses := true, apart := false }
def FnExactProductRootSaid : Prop := fnExactProductRootRow.holds Try.pinned (OpenSpec.ofChange fnExactProductRootSpec)

/-- ITS FALSE NEIGHBOUR: 'it returns false'. Refute it at one input. -/
def fnExactProductRootWrong : ChangeSpec := { name := "fnExactProductRoot", fn := fun _ => fun
  | [d1, d2] => { results := [.lit (.bool false)], args := [d1, d2] }
  | _ => none }
def FnExactProductRootWrongFalsely : Prop := fnExactProductRootRow.holds Try.pinned (OpenSpec.ofChange fnExactProductRootWrong)

/-- 'laws.FnExactRecordsUpTo': WHATEVER THE INPUT: true; the input reads as it did. -/
def fnExactRecordsUpToSpec : ChangeSpec := { name := "fnExactRecordsUpTo", fn := fun _ => fun
  | [d] => { results := [.lit (.bool true)], args := [d] }
  | _ => none }
def fnExactRecordsUpToRow : OpenClaim := { program := "ytpmhbpapchmeiaa", sum := "5cfe541328434553f19cd48f9d5fc0af49de50dd7d028747d64a3cb75af0f8b0", func := "loop.example/g01151/laws.FnExactRecordsUpTo", spec := "fnExactRecordsUpTo", unfollowed := true, recurses := true, apart := false }
def FnExactRecordsUpToSaid : Prop := fnExactRecordsUpToRow.holds Try.pinned (OpenSpec.ofChange fnExactRecordsUpToSpec)

/-- ITS FALSE NEIGHBOUR: 'it returns false'. Refute it at one input. -/
def fnExactRecordsUpToWrong : ChangeSpec := { name := "fnExactRecordsUpTo", fn := fun _ => fun
  | [d] => { results := [.lit (.bool false)], args := [d] }
  | _ => none }
def FnExactRecordsUpToWrongFalsely : Prop := fnExactRecordsUpToRow.holds Try.pinned (OpenSpec.ofChange fnExactRecordsUpToWrong)

/-- 'laws.FnExactProductRun': WHATEVER THE INPUT: true; the input reads as it did. -/
def fnExactProductRunSpec : ChangeSpec := { name := "fnExactProductRun", fn := fun _ => fun
  | [d1, d2] => { results := [.lit (.bool true)], args := [d1, d2] }
  | _ => none }
def fnExactProductRunRow : OpenClaim := { program := "ytpmhbpapchmeiaa", sum := "5cfe541328434553f19cd48f9d5fc0af49de50dd7d028747d64a3cb75af0f8b0", func := "loop.example/g01151/laws.FnExactProductRun", spec := "fnExactProductRun", unfollowed := true, recurses := true, apart := false }
def FnExactProductRunSaid : Prop := fnExactProductRunRow.holds Try.pinned (OpenSpec.ofChange fnExactProductRunSpec)

/-- ITS FALSE NEIGHBOUR: 'it returns false'. Refute it at one input. -/
def fnExactProductRunWrong : ChangeSpec := { name := "fnExactProductRun", fn := fun _ => fun
  | [d1, d2] => { results := [.lit (.bool false)], args := [d1, d2] }
  | _ => none }
def FnExactProductRunWrongFalsely : Prop := fnExactProductRunRow.holds Try.pinned (OpenSpec.ofChange fnExactProductRunWrong)

/-- 'laws.FnExactSumRun': WHATEVER THE INPUT: true; the input reads as it did. -/
def fnExactSumRunSpec : ChangeSpec := { name := "fnExactSumRun", fn := fun _ => fun
  | [d1, d2] => { results := [.lit (.bool true)], args := [d1, d2] }
  | _ => none }
def fnExactSumRunRow : OpenClaim := { program := "ytpmhbpapchmeiaa", sum := "5cfe541328434553f19cd48f9d5fc0af49de50dd7d028747d64a3cb75af0f8b0", func := "loop.example/g01151/laws.FnExactSumRun", spec := "fnExactSumRun", unfollowed := true, recurses := true, apart := false }
def FnExactSumRunSaid : Prop := fnExactSumRunRow.holds Try.pinned (OpenSpec.ofChange fnExactSumRunSpec)

/-- ITS FALSE NEIGHBOUR: 'it returns false'. Refute it at one input. -/
def fnExactSumRunWrong : ChangeSpec := { name := "fnExactSumRun", fn := fun _ => fun
  | [d1, d2] => { results := [.lit (.bool false)], args := [d1, d2] }
  | _ => none }
def FnExactSumRunWrongFalsely : Prop := fnExactSumRunRow.holds Try.pinned (OpenSpec.ofChange fnExactSumRunWrong)

/-- 'laws.FnExactLeastPersistent': WHATEVER THE INPUT: true; the input reads as it did. -/
def fnExactLeastPersistentSpec : ChangeSpec := { name := "fnExactLeastPersistent", fn := fun _ => fun
  | [d1, d2] => { results := [.lit (.bool true)], args := [d1, d2] }
  | _ => none }
def fnExactLeastPersistentRow : OpenClaim := { program := "ytpmhbpapchmeiaa", sum := "5cfe541328434553f19cd48f9d5fc0af49de50dd7d028747d64a3cb75af0f8b0", func := "loop.example/g01151/laws.FnExactLeastPersistent", spec := "fnExactLeastPersistent", unfollowed := true, recurses := true, apart := false }
def FnExactLeastPersistentSaid : Prop := fnExactLeastPersistentRow.holds Try.pinned (OpenSpec.ofChange fnExactLeastPersistentSpec)

/-- ITS FALSE NEIGHBOUR: 'it returns false'. Refute it at one input. -/
def fnExactLeastPersistentWrong : ChangeSpec := { name := "fnExactLeastPersistent", fn := fun _ => fun
  | [d1, d2] => { results := [.lit (.bool false)], args := [d1, d2] }
  | _ => none }
def FnExactLeastPersistentWrongFalsely : Prop := fnExactLeastPersistentRow.holds Try.pinned (OpenSpec.ofChange fnExactLeastPersistentWrong)

/-- 'laws.FnExactCyclesWith': WHATEVER THE INPUT: true; the input reads as it did. -/
def fnExactCyclesWithSpec : ChangeSpec := { name := "fnExactCyclesWith", fn := fun _ => fun
  | [d1, d2] => { results := [.lit (.bool true)], args := [d1, d2] }
  | _ => none }
def fnExactCyclesWithRow : OpenClaim := { program := "ytpmhbpapchmeiaa", sum := "5cfe541328434553f19cd48f9d5fc0af49de50dd7d028747d64a3cb75af0f8b0", func := "loop.example/g01151/laws.FnExactCyclesWith", spec := "fnExactCyclesWith", unfollowed := true, recurses := true, apart := false }
def FnExactCyclesWithSaid : Prop := fnExactCyclesWithRow.holds Try.pinned (OpenSpec.ofChange fnExactCyclesWithSpec)

/-- ITS FALSE NEIGHBOUR: 'it returns false'. Refute it at one input. -/
def fnExactCyclesWithWrong : ChangeSpec := { name := "fnExactCyclesWith", fn := fun _ => fun
  | [d1, d2] => { results := [.lit (.bool false)], args := [d1, d2] }
  | _ => none }
def FnExactCyclesWithWrongFalsely : Prop := fnExactCyclesWithRow.holds Try.pinned (OpenSpec.ofChange fnExactCyclesWithWrong)

/- THE SECOND FORM. 'bulk': how many values and letters a reading holds, each counted each time it is reached (what is shared counts as often as it is met; a slice's spare places count too). A statement '..UptoSaid' is the law's where the arguments, and the package variables that the reading takes, are together of bulk at most 1048576: NARROWER than '..Said'. Prove '..Said' where nothing that the law and all that it calls make is longer than what came in: it says more and counts as full. Else prove '..UptoSaid'. A law counts once. -/
mutual
def uptoBulk {H : Type} : DataW H → Nat
  | .lit (.string bytes) => bytes.length + 1
  | .lit _ => 1
  | .nil => 1
  | .ptr d => uptoBulk d + 1
  | .slice elems spare => uptoBulkAll elems + uptoBulkAll spare + 1
  | .agg parts => uptoBulkAll parts + 1
  | .iface _ d => uptoBulk d + 1
  | .map entries => uptoBulkEntries entries + 1
  | .held _ => 1
def uptoBulkAll {H : Type} : List (DataW H) → Nat
  | [] => 0
  | d :: r => uptoBulk d + uptoBulkAll r
def uptoBulkEntries {H : Type} : List (Lit × DataW H) → Nat
  | [] => 0
  | x :: r => uptoBulkEntry x + uptoBulkEntries r
def uptoBulkEntry {H : Type} : Lit × DataW H → Nat
  | (.string bytes, d) => bytes.length + uptoBulk d + 1
  | (_, d) => uptoBulk d + 1
 end
def uptoSmall : (H : Type) → List (DataW H) → Bool := fun _ ds => decide (uptoBulkAll ds ≤ 1048576)
def OpenSpec.upto (s : _root_.Go.ChangeSpec) : _root_.Go.OpenSpec := { _root_.Go.OpenSpec.ofChange s with cond := some uptoSmall }

/-- 'laws.FnExactFallsBelow', WHERE WHAT IT READS IS OF BULK AT MOST 1048576: true; the input reads as it did. -/
def fnExactFallsBelowUptoRow : OpenClaim := { program := "ytpmhbpapchmeiaa", sum := "5cfe541328434553f19cd48f9d5fc0af49de50dd7d028747d64a3cb75af0f8b0", func := "loop.example/g01151/laws.FnExactFallsBelow", spec := "fnExactFallsBelow", unfollowed := true, recurses := true, apart := false, narrowed := true }
def FnExactFallsBelowUptoSaid : Prop := fnExactFallsBelowUptoRow.holds Try.pinned (OpenSpec.upto fnExactFallsBelowSpec)

/-- 'laws.FnExactStepsTo', WHERE WHAT IT READS IS OF BULK AT MOST 1048576: true; the input reads as it did. -/
def fnExactStepsToUptoRow : OpenClaim := { program := "ytpmhbpapchmeiaa", sum := "5cfe541328434553f19cd48f9d5fc0af49de50dd7d028747d64a3cb75af0f8b0", func := "loop.example/g01151/laws.FnExactStepsTo", spec := "fnExactStepsTo", unfollowed := true, recurses := true, apart := false, narrowed := true }
def FnExactStepsToUptoSaid : Prop := fnExactStepsToUptoRow.holds Try.pinned (OpenSpec.upto fnExactStepsToSpec)

/-- 'laws.FnExactGreatestOn', WHERE WHAT IT READS IS OF BULK AT MOST 1048576: true; the input reads as it did. -/
def fnExactGreatestOnUptoRow : OpenClaim := { program := "ytpmhbpapchmeiaa", sum := "5cfe541328434553f19cd48f9d5fc0af49de50dd7d028747d64a3cb75af0f8b0", func := "loop.example/g01151/laws.FnExactGreatestOn", spec := "fnExactGreatestOn", unfollowed := true, recurses := true, apart := false, narrowed := true }
def FnExactGreatestOnUptoSaid : Prop := fnExactGreatestOnUptoRow.holds Try.pinned (OpenSpec.upto fnExactGreatestOnSpec)

/-- 'laws.FnExactWayToOne', WHERE WHAT IT READS IS OF BULK AT MOST 1048576: true; the input reads as it did. -/
def fnExactWayToOneUptoRow : OpenClaim := { program := "ytpmhbpapchmeiaa", sum := "5cfe541328434553f19cd48f9d5fc0af49de50dd7d028747d64a3cb75af0f8b0", func := "loop.example/g01151/laws.FnExactWayToOne", spec := "fnExactWayToOne", unfollowed := true, recurses := true, apart := false, narrowed := true }
def FnExactWayToOneUptoSaid : Prop := fnExactWayToOneUptoRow.holds Try.pinned (OpenSpec.upto fnExactWayToOneSpec)

/-- 'laws.FnExactPersistenceOf', WHERE WHAT IT READS IS OF BULK AT MOST 1048576: true; the input reads as it did. -/
def fnExactPersistenceOfUptoRow : OpenClaim := { program := "ytpmhbpapchmeiaa", sum := "5cfe541328434553f19cd48f9d5fc0af49de50dd7d028747d64a3cb75af0f8b0", func := "loop.example/g01151/laws.FnExactPersistenceOf", spec := "fnExactPersistenceOf", unfollowed := true, recurses := true, apart := false, narrowed := true }
def FnExactPersistenceOfUptoSaid : Prop := fnExactPersistenceOfUptoRow.holds Try.pinned (OpenSpec.upto fnExactPersistenceOfSpec)

/-- 'laws.FnExactSumPersistence', WHERE WHAT IT READS IS OF BULK AT MOST 1048576: true; the input reads as it did. -/
def fnExactSumPersistenceUptoRow : OpenClaim := { program := "ytpmhbpapchmeiaa", sum := "5cfe541328434553f19cd48f9d5fc0af49de50dd7d028747d64a3cb75af0f8b0", func := "loop.example/g01151/laws.FnExactSumPersistence", spec := "fnExactSumPersistence", unfollowed := true, recurses := true, apart := false, narrowed := true }
def FnExactSumPersistenceUptoSaid : Prop := fnExactSumPersistenceUptoRow.holds Try.pinned (OpenSpec.upto fnExactSumPersistenceSpec)

/-- 'laws.FnExactProductRoot', WHERE WHAT IT READS IS OF BULK AT MOST 1048576: true; the input reads as it did. -/
def fnExactProductRootUptoRow : OpenClaim := { program := "ytpmhbpapchmeiaa", sum := "5cfe541328434553f19cd48f9d5fc0af49de50dd7d028747d64a3cb75af0f8b0", func := "loop.example/g01151/laws.FnExactProductRoot", spec := "fnExactProductRoot", unfollowed := true, recurses := true, apart := false, narrowed := true }
def FnExactProductRootUptoSaid : Prop := fnExactProductRootUptoRow.holds Try.pinned (OpenSpec.upto fnExactProductRootSpec)

/-- 'laws.FnExactRecordsUpTo', WHERE WHAT IT READS IS OF BULK AT MOST 1048576: true; the input reads as it did. -/
def fnExactRecordsUpToUptoRow : OpenClaim := { program := "ytpmhbpapchmeiaa", sum := "5cfe541328434553f19cd48f9d5fc0af49de50dd7d028747d64a3cb75af0f8b0", func := "loop.example/g01151/laws.FnExactRecordsUpTo", spec := "fnExactRecordsUpTo", unfollowed := true, recurses := true, apart := false, narrowed := true }
def FnExactRecordsUpToUptoSaid : Prop := fnExactRecordsUpToUptoRow.holds Try.pinned (OpenSpec.upto fnExactRecordsUpToSpec)

/-- 'laws.FnExactProductRun', WHERE WHAT IT READS IS OF BULK AT MOST 1048576: true; the input reads as it did. -/
def fnExactProductRunUptoRow : OpenClaim := { program := "ytpmhbpapchmeiaa", sum := "5cfe541328434553f19cd48f9d5fc0af49de50dd7d028747d64a3cb75af0f8b0", func := "loop.example/g01151/laws.FnExactProductRun", spec := "fnExactProductRun", unfollowed := true, recurses := true, apart := false, narrowed := true }
def FnExactProductRunUptoSaid : Prop := fnExactProductRunUptoRow.holds Try.pinned (OpenSpec.upto fnExactProductRunSpec)

/-- 'laws.FnExactSumRun', WHERE WHAT IT READS IS OF BULK AT MOST 1048576: true; the input reads as it did. -/
def fnExactSumRunUptoRow : OpenClaim := { program := "ytpmhbpapchmeiaa", sum := "5cfe541328434553f19cd48f9d5fc0af49de50dd7d028747d64a3cb75af0f8b0", func := "loop.example/g01151/laws.FnExactSumRun", spec := "fnExactSumRun", unfollowed := true, recurses := true, apart := false, narrowed := true }
def FnExactSumRunUptoSaid : Prop := fnExactSumRunUptoRow.holds Try.pinned (OpenSpec.upto fnExactSumRunSpec)

/-- 'laws.FnExactLeastPersistent', WHERE WHAT IT READS IS OF BULK AT MOST 1048576: true; the input reads as it did. -/
def fnExactLeastPersistentUptoRow : OpenClaim := { program := "ytpmhbpapchmeiaa", sum := "5cfe541328434553f19cd48f9d5fc0af49de50dd7d028747d64a3cb75af0f8b0", func := "loop.example/g01151/laws.FnExactLeastPersistent", spec := "fnExactLeastPersistent", unfollowed := true, recurses := true, apart := false, narrowed := true }
def FnExactLeastPersistentUptoSaid : Prop := fnExactLeastPersistentUptoRow.holds Try.pinned (OpenSpec.upto fnExactLeastPersistentSpec)

/-- 'laws.FnExactCyclesWith', WHERE WHAT IT READS IS OF BULK AT MOST 1048576: true; the input reads as it did. -/
def fnExactCyclesWithUptoRow : OpenClaim := { program := "ytpmhbpapchmeiaa", sum := "5cfe541328434553f19cd48f9d5fc0af49de50dd7d028747d64a3cb75af0f8b0", func := "loop.example/g01151/laws.FnExactCyclesWith", spec := "fnExactCyclesWith", unfollowed := true, recurses := true, apart := false, narrowed := true }
def FnExactCyclesWithUptoSaid : Prop := fnExactCyclesWithUptoRow.holds Try.pinned (OpenSpec.upto fnExactCyclesWithSpec)

end Rows
end Go.Proofs.Ytpmhbpapchmeiaa
