/-
  No cell of these rows narrows 'for every input' (looked for: loops, veiled, ifaces, maps, wideKeys, modest, calm, conditions, laid).
  DERIVED. THE GIVEN ROWS OF THIS SEAT. 12 by the template 'for every input the law returns true; each argument reads behind the call as it read before'; 0 by the template 'total and deterministic' (their statements: YtmdpjggjhkminaaTotals.lean).
  GIVEN WITH THE SEED: the statements are not yours to turn. If you find one false, say at which input.
  Laid BY PROGRAM, IN A SANDBOX (cutbox-rows.mjs): the forced cells as the released guide's own fill.sh prints them over the translation 303009478cbcbdaf… (all of the seat's roots in one cut). By AI agents, Wed Nov 11 2026. No macro, syntax, notation, axiom, sorry.
-/
import Derived.Test.YtmdpjggjhkminaaChecked
import GoSem.Claim
import GoSem.ClaimJoined
import GoSem.ClaimMapViews
import Derived.JoinedTies
import Derived.KernelRfl
namespace Go.Proofs.Ytmdpjggjhkminaa
/- THE CELL 'sum', in the pinned program and in every row, IS THE sha256 OF THE DUMP (.gsa) THAT YtmdpjggjhkminaaProg.lean LOADS. Nothing in Lean hashes anything: it is a label: what it is worth is what the hold of that sum in a sandbox is worth. -/
noncomputable def Try.pinned : Pinned := { name := "ytmdpjggjhkminaa", sum := "303009478cbcbdaf361012f6b70f7d72e176a1dd6e1c6cc13b00cb5af2f58735", checked := Try.checked }
namespace Rows
def none {H : Type} : Left H := { results := [], args := [] }

/-- 'laws.FnExactParityWord': WHATEVER THE INPUT: true; the input reads as it did. -/
def fnExactParityWordSpec : ChangeSpec := { name := "fnExactParityWord", fn := fun _ => fun
  | [d1, d2] => { results := [.lit (.bool true)], args := [d1, d2] }
  | _ => none }
def fnExactParityWordRow : OpenClaim := { program := "ytmdpjggjhkminaa", sum := "303009478cbcbdaf361012f6b70f7d72e176a1dd6e1c6cc13b00cb5af2f58735", func := "loop.example/g01151/laws.FnExactParityWord", spec := "fnExactParityWord", recurses := true, apart := false }
def FnExactParityWordSaid : Prop := fnExactParityWordRow.holds Try.pinned (OpenSpec.ofChange fnExactParityWordSpec)

/-- ITS FALSE NEIGHBOUR: 'it returns false'. Refute it at one input. -/
def fnExactParityWordWrong : ChangeSpec := { name := "fnExactParityWord", fn := fun _ => fun
  | [d1, d2] => { results := [.lit (.bool false)], args := [d1, d2] }
  | _ => none }
def FnExactParityWordWrongFalsely : Prop := fnExactParityWordRow.holds Try.pinned (OpenSpec.ofChange fnExactParityWordWrong)

/-- 'laws.FnExactLeastSumPersistent': WHATEVER THE INPUT: true; the input reads as it did. -/
def fnExactLeastSumPersistentSpec : ChangeSpec := { name := "fnExactLeastSumPersistent", fn := fun _ => fun
  | [d1, d2] => { results := [.lit (.bool true)], args := [d1, d2] }
  | _ => none }
def fnExactLeastSumPersistentRow : OpenClaim := { program := "ytmdpjggjhkminaa", sum := "303009478cbcbdaf361012f6b70f7d72e176a1dd6e1c6cc13b00cb5af2f58735", func := "loop.example/g01151/laws.FnExactLeastSumPersistent", spec := "fnExactLeastSumPersistent", apart := false }
def FnExactLeastSumPersistentSaid : Prop := fnExactLeastSumPersistentRow.holds Try.pinned (OpenSpec.ofChange fnExactLeastSumPersistentSpec)

/-- ITS FALSE NEIGHBOUR: 'it returns false'. Refute it at one input. -/
def fnExactLeastSumPersistentWrong : ChangeSpec := { name := "fnExactLeastSumPersistent", fn := fun _ => fun
  | [d1, d2] => { results := [.lit (.bool false)], args := [d1, d2] }
  | _ => none }
def FnExactLeastSumPersistentWrongFalsely : Prop := fnExactLeastSumPersistentRow.holds Try.pinned (OpenSpec.ofChange fnExactLeastSumPersistentWrong)

/-- 'laws.FnExactNextHarshad': WHATEVER THE INPUT: true; the input reads as it did. -/
def fnExactNextHarshadSpec : ChangeSpec := { name := "fnExactNextHarshad", fn := fun _ => fun
  | [d1, d2] => { results := [.lit (.bool true)], args := [d1, d2] }
  | _ => none }
def fnExactNextHarshadRow : OpenClaim := { program := "ytmdpjggjhkminaa", sum := "303009478cbcbdaf361012f6b70f7d72e176a1dd6e1c6cc13b00cb5af2f58735", func := "loop.example/g01151/laws.FnExactNextHarshad", spec := "fnExactNextHarshad", apart := false }
def FnExactNextHarshadSaid : Prop := fnExactNextHarshadRow.holds Try.pinned (OpenSpec.ofChange fnExactNextHarshadSpec)

/-- ITS FALSE NEIGHBOUR: 'it returns false'. Refute it at one input. -/
def fnExactNextHarshadWrong : ChangeSpec := { name := "fnExactNextHarshad", fn := fun _ => fun
  | [d1, d2] => { results := [.lit (.bool false)], args := [d1, d2] }
  | _ => none }
def FnExactNextHarshadWrongFalsely : Prop := fnExactNextHarshadRow.holds Try.pinned (OpenSpec.ofChange fnExactNextHarshadWrong)

/-- 'laws.FnExactAfterShort': WHATEVER THE INPUT: true; the input reads as it did. -/
def fnExactAfterShortSpec : ChangeSpec := { name := "fnExactAfterShort", fn := fun _ => fun
  | [d1, d2] => { results := [.lit (.bool true)], args := [d1, d2] }
  | _ => none }
def fnExactAfterShortRow : OpenClaim := { program := "ytmdpjggjhkminaa", sum := "303009478cbcbdaf361012f6b70f7d72e176a1dd6e1c6cc13b00cb5af2f58735", func := "loop.example/g01151/laws.FnExactAfterShort", spec := "fnExactAfterShort", recurses := true, apart := false }
def FnExactAfterShortSaid : Prop := fnExactAfterShortRow.holds Try.pinned (OpenSpec.ofChange fnExactAfterShortSpec)

/-- ITS FALSE NEIGHBOUR: 'it returns false'. Refute it at one input. -/
def fnExactAfterShortWrong : ChangeSpec := { name := "fnExactAfterShort", fn := fun _ => fun
  | [d1, d2] => { results := [.lit (.bool false)], args := [d1, d2] }
  | _ => none }
def FnExactAfterShortWrongFalsely : Prop := fnExactAfterShortRow.holds Try.pinned (OpenSpec.ofChange fnExactAfterShortWrong)

/-- 'laws.FnExactOddCount': WHATEVER THE INPUT: true; the input reads as it did. -/
def fnExactOddCountSpec : ChangeSpec := { name := "fnExactOddCount", fn := fun _ => fun
  | [d1, d2] => { results := [.lit (.bool true)], args := [d1, d2] }
  | _ => none }
def fnExactOddCountRow : OpenClaim := { program := "ytmdpjggjhkminaa", sum := "303009478cbcbdaf361012f6b70f7d72e176a1dd6e1c6cc13b00cb5af2f58735", func := "loop.example/g01151/laws.FnExactOddCount", spec := "fnExactOddCount", recurses := true, apart := false }
def FnExactOddCountSaid : Prop := fnExactOddCountRow.holds Try.pinned (OpenSpec.ofChange fnExactOddCountSpec)

/-- ITS FALSE NEIGHBOUR: 'it returns false'. Refute it at one input. -/
def fnExactOddCountWrong : ChangeSpec := { name := "fnExactOddCount", fn := fun _ => fun
  | [d1, d2] => { results := [.lit (.bool false)], args := [d1, d2] }
  | _ => none }
def FnExactOddCountWrongFalsely : Prop := fnExactOddCountRow.holds Try.pinned (OpenSpec.ofChange fnExactOddCountWrong)

/-- 'laws.FnExactNumberOfWord': WHATEVER THE INPUT: true; the input reads as it did. -/
def fnExactNumberOfWordSpec : ChangeSpec := { name := "fnExactNumberOfWord", fn := fun _ => fun
  | [d] => { results := [.lit (.bool true)], args := [d] }
  | _ => none }
def fnExactNumberOfWordRow : OpenClaim := { program := "ytmdpjggjhkminaa", sum := "303009478cbcbdaf361012f6b70f7d72e176a1dd6e1c6cc13b00cb5af2f58735", func := "loop.example/g01151/laws.FnExactNumberOfWord", spec := "fnExactNumberOfWord", recurses := true, apart := false }
def FnExactNumberOfWordSaid : Prop := fnExactNumberOfWordRow.holds Try.pinned (OpenSpec.ofChange fnExactNumberOfWordSpec)

/-- ITS FALSE NEIGHBOUR: 'it returns false'. Refute it at one input. -/
def fnExactNumberOfWordWrong : ChangeSpec := { name := "fnExactNumberOfWord", fn := fun _ => fun
  | [d] => { results := [.lit (.bool false)], args := [d] }
  | _ => none }
def FnExactNumberOfWordWrongFalsely : Prop := fnExactNumberOfWordRow.holds Try.pinned (OpenSpec.ofChange fnExactNumberOfWordWrong)

/-- 'laws.FnExactCountWithProduct': WHATEVER THE INPUT: true; the input reads as it did. -/
def fnExactCountWithProductSpec : ChangeSpec := { name := "fnExactCountWithProduct", fn := fun _ => fun
  | [d1, d2] => { results := [.lit (.bool true)], args := [d1, d2] }
  | _ => none }
def fnExactCountWithProductRow : OpenClaim := { program := "ytmdpjggjhkminaa", sum := "303009478cbcbdaf361012f6b70f7d72e176a1dd6e1c6cc13b00cb5af2f58735", func := "loop.example/g01151/laws.FnExactCountWithProduct", spec := "fnExactCountWithProduct", recurses := true, apart := false }
def FnExactCountWithProductSaid : Prop := fnExactCountWithProductRow.holds Try.pinned (OpenSpec.ofChange fnExactCountWithProductSpec)

/-- ITS FALSE NEIGHBOUR: 'it returns false'. Refute it at one input. -/
def fnExactCountWithProductWrong : ChangeSpec := { name := "fnExactCountWithProduct", fn := fun _ => fun
  | [d1, d2] => { results := [.lit (.bool false)], args := [d1, d2] }
  | _ => none }
def FnExactCountWithProductWrongFalsely : Prop := fnExactCountWithProductRow.holds Try.pinned (OpenSpec.ofChange fnExactCountWithProductWrong)

/-- 'laws.FnExactCycleOfWord': WHATEVER THE INPUT: true; the input reads as it did. -/
def fnExactCycleOfWordSpec : ChangeSpec := { name := "fnExactCycleOfWord", fn := fun _ => fun
  | [d] => { results := [.lit (.bool true)], args := [d] }
  | _ => none }
def fnExactCycleOfWordRow : OpenClaim := { program := "ytmdpjggjhkminaa", sum := "303009478cbcbdaf361012f6b70f7d72e176a1dd6e1c6cc13b00cb5af2f58735", func := "loop.example/g01151/laws.FnExactCycleOfWord", spec := "fnExactCycleOfWord", recurses := true, apart := false }
def FnExactCycleOfWordSaid : Prop := fnExactCycleOfWordRow.holds Try.pinned (OpenSpec.ofChange fnExactCycleOfWordSpec)

/-- ITS FALSE NEIGHBOUR: 'it returns false'. Refute it at one input. -/
def fnExactCycleOfWordWrong : ChangeSpec := { name := "fnExactCycleOfWord", fn := fun _ => fun
  | [d] => { results := [.lit (.bool false)], args := [d] }
  | _ => none }
def FnExactCycleOfWordWrongFalsely : Prop := fnExactCycleOfWordRow.holds Try.pinned (OpenSpec.ofChange fnExactCycleOfWordWrong)

/-- 'laws.FnExactSumProductNumbers': WHATEVER THE INPUT: true; the input reads as it did. -/
def fnExactSumProductNumbersSpec : ChangeSpec := { name := "fnExactSumProductNumbers", fn := fun _ => fun
  | [d1, d2] => { results := [.lit (.bool true)], args := [d1, d2] }
  | _ => none }
def fnExactSumProductNumbersRow : OpenClaim := { program := "ytmdpjggjhkminaa", sum := "303009478cbcbdaf361012f6b70f7d72e176a1dd6e1c6cc13b00cb5af2f58735", func := "loop.example/g01151/laws.FnExactSumProductNumbers", spec := "fnExactSumProductNumbers", apart := false }
def FnExactSumProductNumbersSaid : Prop := fnExactSumProductNumbersRow.holds Try.pinned (OpenSpec.ofChange fnExactSumProductNumbersSpec)

/-- ITS FALSE NEIGHBOUR: 'it returns false'. Refute it at one input. -/
def fnExactSumProductNumbersWrong : ChangeSpec := { name := "fnExactSumProductNumbers", fn := fun _ => fun
  | [d1, d2] => { results := [.lit (.bool false)], args := [d1, d2] }
  | _ => none }
def FnExactSumProductNumbersWrongFalsely : Prop := fnExactSumProductNumbersRow.holds Try.pinned (OpenSpec.ofChange fnExactSumProductNumbersWrong)

/-- 'laws.FnExactNeverWord': WHATEVER THE INPUT: true; the input reads as it did. -/
def fnExactNeverWordSpec : ChangeSpec := { name := "fnExactNeverWord", fn := fun _ => fun
  | [d] => { results := [.lit (.bool true)], args := [d] }
  | _ => none }
def fnExactNeverWordRow : OpenClaim := { program := "ytmdpjggjhkminaa", sum := "303009478cbcbdaf361012f6b70f7d72e176a1dd6e1c6cc13b00cb5af2f58735", func := "loop.example/g01151/laws.FnExactNeverWord", spec := "fnExactNeverWord", apart := false }
def FnExactNeverWordSaid : Prop := fnExactNeverWordRow.holds Try.pinned (OpenSpec.ofChange fnExactNeverWordSpec)

/-- ITS FALSE NEIGHBOUR: 'it returns false'. Refute it at one input. -/
def fnExactNeverWordWrong : ChangeSpec := { name := "fnExactNeverWord", fn := fun _ => fun
  | [d] => { results := [.lit (.bool false)], args := [d] }
  | _ => none }
def FnExactNeverWordWrongFalsely : Prop := fnExactNeverWordRow.holds Try.pinned (OpenSpec.ofChange fnExactNeverWordWrong)

/-- 'laws.FnExactLeastWithProduct': WHATEVER THE INPUT: true; the input reads as it did. -/
def fnExactLeastWithProductSpec : ChangeSpec := { name := "fnExactLeastWithProduct", fn := fun _ => fun
  | [d1, d2] => { results := [.lit (.bool true)], args := [d1, d2] }
  | _ => none }
def fnExactLeastWithProductRow : OpenClaim := { program := "ytmdpjggjhkminaa", sum := "303009478cbcbdaf361012f6b70f7d72e176a1dd6e1c6cc13b00cb5af2f58735", func := "loop.example/g01151/laws.FnExactLeastWithProduct", spec := "fnExactLeastWithProduct", recurses := true, apart := false }
def FnExactLeastWithProductSaid : Prop := fnExactLeastWithProductRow.holds Try.pinned (OpenSpec.ofChange fnExactLeastWithProductSpec)

/-- ITS FALSE NEIGHBOUR: 'it returns false'. Refute it at one input. -/
def fnExactLeastWithProductWrong : ChangeSpec := { name := "fnExactLeastWithProduct", fn := fun _ => fun
  | [d1, d2] => { results := [.lit (.bool false)], args := [d1, d2] }
  | _ => none }
def FnExactLeastWithProductWrongFalsely : Prop := fnExactLeastWithProductRow.holds Try.pinned (OpenSpec.ofChange fnExactLeastWithProductWrong)

/-- 'laws.FnExactLevelOf': WHATEVER THE INPUT: true; the input reads as it did. -/
def fnExactLevelOfSpec : ChangeSpec := { name := "fnExactLevelOf", fn := fun _ => fun
  | [d] => { results := [.lit (.bool true)], args := [d] }
  | _ => none }
def fnExactLevelOfRow : OpenClaim := { program := "ytmdpjggjhkminaa", sum := "303009478cbcbdaf361012f6b70f7d72e176a1dd6e1c6cc13b00cb5af2f58735", func := "loop.example/g01151/laws.FnExactLevelOf", spec := "fnExactLevelOf", recurses := true, apart := false }
def FnExactLevelOfSaid : Prop := fnExactLevelOfRow.holds Try.pinned (OpenSpec.ofChange fnExactLevelOfSpec)

/-- ITS FALSE NEIGHBOUR: 'it returns false'. Refute it at one input. -/
def fnExactLevelOfWrong : ChangeSpec := { name := "fnExactLevelOf", fn := fun _ => fun
  | [d] => { results := [.lit (.bool false)], args := [d] }
  | _ => none }
def FnExactLevelOfWrongFalsely : Prop := fnExactLevelOfRow.holds Try.pinned (OpenSpec.ofChange fnExactLevelOfWrong)

/- THE SECOND FORM. 'bulk': how many values and letters a reading holds, each counted each time it is reached (what is shared counts as often as it is met; a slice's spare places count too). A statement '..UptoSaid' is the law's where the arguments, and the package variables that the reading takes, are together of bulk at most 1048576: NARROWER than '..Said'. Prove '..Said' where nothing that the law and all that it calls make is longer than what came in: it says more and counts as full. Else prove '..UptoSaid'. A law counts once. -/
mutual
def uptoBulk {H : Type} : DataW H → Nat
  | .lit (.string bytes) => bytes.length + 1
  | .lit _ => 1
  | .nil => 1
  | .ptr d => uptoBulk d + 1
  | .slice elems spare => uptoBulkAll elems + uptoBulkAll spare + 1
  | .agg parts => uptoBulkAll parts + 1
  | .iface _ d => uptoBulk d + 1
  | .map entries => uptoBulkEntries entries + 1
  | .held _ => 1
def uptoBulkAll {H : Type} : List (DataW H) → Nat
  | [] => 0
  | d :: r => uptoBulk d + uptoBulkAll r
def uptoBulkEntries {H : Type} : List (Lit × DataW H) → Nat
  | [] => 0
  | x :: r => uptoBulkEntry x + uptoBulkEntries r
def uptoBulkEntry {H : Type} : Lit × DataW H → Nat
  | (.string bytes, d) => bytes.length + uptoBulk d + 1
  | (_, d) => uptoBulk d + 1
 end
def uptoSmall : (H : Type) → List (DataW H) → Bool := fun _ ds => decide (uptoBulkAll ds ≤ 1048576)
def OpenSpec.upto (s : _root_.Go.ChangeSpec) : _root_.Go.OpenSpec := { _root_.Go.OpenSpec.ofChange s with cond := some uptoSmall }

/-- 'laws.FnExactParityWord', WHERE WHAT IT READS IS OF BULK AT MOST 1048576: true; the input reads as it did. -/
def fnExactParityWordUptoRow : OpenClaim := { program := "ytmdpjggjhkminaa", sum := "303009478cbcbdaf361012f6b70f7d72e176a1dd6e1c6cc13b00cb5af2f58735", func := "loop.example/g01151/laws.FnExactParityWord", spec := "fnExactParityWord", recurses := true, apart := false, narrowed := true }
def FnExactParityWordUptoSaid : Prop := fnExactParityWordUptoRow.holds Try.pinned (OpenSpec.upto fnExactParityWordSpec)

/-- 'laws.FnExactLeastSumPersistent', WHERE WHAT IT READS IS OF BULK AT MOST 1048576: true; the input reads as it did. -/
def fnExactLeastSumPersistentUptoRow : OpenClaim := { program := "ytmdpjggjhkminaa", sum := "303009478cbcbdaf361012f6b70f7d72e176a1dd6e1c6cc13b00cb5af2f58735", func := "loop.example/g01151/laws.FnExactLeastSumPersistent", spec := "fnExactLeastSumPersistent", apart := false, narrowed := true }
def FnExactLeastSumPersistentUptoSaid : Prop := fnExactLeastSumPersistentUptoRow.holds Try.pinned (OpenSpec.upto fnExactLeastSumPersistentSpec)

/-- 'laws.FnExactNextHarshad', WHERE WHAT IT READS IS OF BULK AT MOST 1048576: true; the input reads as it did. -/
def fnExactNextHarshadUptoRow : OpenClaim := { program := "ytmdpjggjhkminaa", sum := "303009478cbcbdaf361012f6b70f7d72e176a1dd6e1c6cc13b00cb5af2f58735", func := "loop.example/g01151/laws.FnExactNextHarshad", spec := "fnExactNextHarshad", apart := false, narrowed := true }
def FnExactNextHarshadUptoSaid : Prop := fnExactNextHarshadUptoRow.holds Try.pinned (OpenSpec.upto fnExactNextHarshadSpec)

/-- 'laws.FnExactAfterShort', WHERE WHAT IT READS IS OF BULK AT MOST 1048576: true; the input reads as it did. -/
def fnExactAfterShortUptoRow : OpenClaim := { program := "ytmdpjggjhkminaa", sum := "303009478cbcbdaf361012f6b70f7d72e176a1dd6e1c6cc13b00cb5af2f58735", func := "loop.example/g01151/laws.FnExactAfterShort", spec := "fnExactAfterShort", recurses := true, apart := false, narrowed := true }
def FnExactAfterShortUptoSaid : Prop := fnExactAfterShortUptoRow.holds Try.pinned (OpenSpec.upto fnExactAfterShortSpec)

/-- 'laws.FnExactOddCount', WHERE WHAT IT READS IS OF BULK AT MOST 1048576: true; the input reads as it did. -/
def fnExactOddCountUptoRow : OpenClaim := { program := "ytmdpjggjhkminaa", sum := "303009478cbcbdaf361012f6b70f7d72e176a1dd6e1c6cc13b00cb5af2f58735", func := "loop.example/g01151/laws.FnExactOddCount", spec := "fnExactOddCount", recurses := true, apart := false, narrowed := true }
def FnExactOddCountUptoSaid : Prop := fnExactOddCountUptoRow.holds Try.pinned (OpenSpec.upto fnExactOddCountSpec)

/-- 'laws.FnExactNumberOfWord', WHERE WHAT IT READS IS OF BULK AT MOST 1048576: true; the input reads as it did. -/
def fnExactNumberOfWordUptoRow : OpenClaim := { program := "ytmdpjggjhkminaa", sum := "303009478cbcbdaf361012f6b70f7d72e176a1dd6e1c6cc13b00cb5af2f58735", func := "loop.example/g01151/laws.FnExactNumberOfWord", spec := "fnExactNumberOfWord", recurses := true, apart := false, narrowed := true }
def FnExactNumberOfWordUptoSaid : Prop := fnExactNumberOfWordUptoRow.holds Try.pinned (OpenSpec.upto fnExactNumberOfWordSpec)

/-- 'laws.FnExactCountWithProduct', WHERE WHAT IT READS IS OF BULK AT MOST 1048576: true; the input reads as it did. -/
def fnExactCountWithProductUptoRow : OpenClaim := { program := "ytmdpjggjhkminaa", sum := "303009478cbcbdaf361012f6b70f7d72e176a1dd6e1c6cc13b00cb5af2f58735", func := "loop.example/g01151/laws.FnExactCountWithProduct", spec := "fnExactCountWithProduct", recurses := true, apart := false, narrowed := true }
def FnExactCountWithProductUptoSaid : Prop := fnExactCountWithProductUptoRow.holds Try.pinned (OpenSpec.upto fnExactCountWithProductSpec)

/-- 'laws.FnExactCycleOfWord', WHERE WHAT IT READS IS OF BULK AT MOST 1048576: true; the input reads as it did. -/
def fnExactCycleOfWordUptoRow : OpenClaim := { program := "ytmdpjggjhkminaa", sum := "303009478cbcbdaf361012f6b70f7d72e176a1dd6e1c6cc13b00cb5af2f58735", func := "loop.example/g01151/laws.FnExactCycleOfWord", spec := "fnExactCycleOfWord", recurses := true, apart := false, narrowed := true }
def FnExactCycleOfWordUptoSaid : Prop := fnExactCycleOfWordUptoRow.holds Try.pinned (OpenSpec.upto fnExactCycleOfWordSpec)

/-- 'laws.FnExactSumProductNumbers', WHERE WHAT IT READS IS OF BULK AT MOST 1048576: true; the input reads as it did. -/
def fnExactSumProductNumbersUptoRow : OpenClaim := { program := "ytmdpjggjhkminaa", sum := "303009478cbcbdaf361012f6b70f7d72e176a1dd6e1c6cc13b00cb5af2f58735", func := "loop.example/g01151/laws.FnExactSumProductNumbers", spec := "fnExactSumProductNumbers", apart := false, narrowed := true }
def FnExactSumProductNumbersUptoSaid : Prop := fnExactSumProductNumbersUptoRow.holds Try.pinned (OpenSpec.upto fnExactSumProductNumbersSpec)

/-- 'laws.FnExactNeverWord', WHERE WHAT IT READS IS OF BULK AT MOST 1048576: true; the input reads as it did. -/
def fnExactNeverWordUptoRow : OpenClaim := { program := "ytmdpjggjhkminaa", sum := "303009478cbcbdaf361012f6b70f7d72e176a1dd6e1c6cc13b00cb5af2f58735", func := "loop.example/g01151/laws.FnExactNeverWord", spec := "fnExactNeverWord", apart := false, narrowed := true }
def FnExactNeverWordUptoSaid : Prop := fnExactNeverWordUptoRow.holds Try.pinned (OpenSpec.upto fnExactNeverWordSpec)

/-- 'laws.FnExactLeastWithProduct', WHERE WHAT IT READS IS OF BULK AT MOST 1048576: true; the input reads as it did. -/
def fnExactLeastWithProductUptoRow : OpenClaim := { program := "ytmdpjggjhkminaa", sum := "303009478cbcbdaf361012f6b70f7d72e176a1dd6e1c6cc13b00cb5af2f58735", func := "loop.example/g01151/laws.FnExactLeastWithProduct", spec := "fnExactLeastWithProduct", recurses := true, apart := false, narrowed := true }
def FnExactLeastWithProductUptoSaid : Prop := fnExactLeastWithProductUptoRow.holds Try.pinned (OpenSpec.upto fnExactLeastWithProductSpec)

/-- 'laws.FnExactLevelOf', WHERE WHAT IT READS IS OF BULK AT MOST 1048576: true; the input reads as it did. -/
def fnExactLevelOfUptoRow : OpenClaim := { program := "ytmdpjggjhkminaa", sum := "303009478cbcbdaf361012f6b70f7d72e176a1dd6e1c6cc13b00cb5af2f58735", func := "loop.example/g01151/laws.FnExactLevelOf", spec := "fnExactLevelOf", recurses := true, apart := false, narrowed := true }
def FnExactLevelOfUptoSaid : Prop := fnExactLevelOfUptoRow.holds Try.pinned (OpenSpec.upto fnExactLevelOfSpec)

end Rows
end Go.Proofs.Ytmdpjggjhkminaa
