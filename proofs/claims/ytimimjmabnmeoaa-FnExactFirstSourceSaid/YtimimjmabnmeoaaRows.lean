/-
  No cell of these rows narrows 'for every input' (looked for: loops, veiled, ifaces, maps, wideKeys, modest, calm, conditions, laid).
  DERIVED. THE GIVEN ROWS OF THIS SEAT. 7 by the template 'for every input the law returns true; each argument reads behind the call as it read before'; 0 by the template 'total and deterministic' (their statements: YtimimjmabnmeoaaTotals.lean).
  GIVEN WITH THE SEED: the statements are not yours to turn. If you find one false, say at which input.
  Laid BY PROGRAM, IN A SANDBOX (cutbox-rows.mjs): the forced cells as the released guide's own fill.sh prints them over the translation 447cf2b2bd1a9958… (all of the seat's roots in one cut). By AI agents, Wed Nov 11 2026. No macro, syntax, notation, axiom, sorry.
-/
import Derived.Test.YtimimjmabnmeoaaChecked
import GoSem.Claim
import GoSem.ClaimJoined
import GoSem.ClaimMapViews
import Derived.JoinedTies
import Derived.KernelRfl
namespace Go.Proofs.Ytimimjmabnmeoaa
/- THE CELL 'sum', in the pinned program and in every row, IS THE sha256 OF THE DUMP (.gsa) THAT YtimimjmabnmeoaaProg.lean LOADS. Nothing in Lean hashes anything: it is a label: what it is worth is what the hold of that sum in a sandbox is worth. -/
noncomputable def Try.pinned : Pinned := { name := "ytimimjmabnmeoaa", sum := "447cf2b2bd1a99585cf5da6af908fe7ee725241d4147cc300d2c342af4ebfefe", checked := Try.checked }
namespace Rows
def none {H : Type} : Left H := { results := [], args := [] }

/-- 'laws.FnExactCountWithProduct': WHATEVER THE INPUT: true; the input reads as it did. -/
def fnExactCountWithProductSpec : ChangeSpec := { name := "fnExactCountWithProduct", fn := fun _ => fun
  | [d1, d2] => { results := [.lit (.bool true)], args := [d1, d2] }
  | _ => none }
def fnExactCountWithProductRow : OpenClaim := { program := "ytimimjmabnmeoaa", sum := "447cf2b2bd1a99585cf5da6af908fe7ee725241d4147cc300d2c342af4ebfefe", func := "loop.example/g01151/laws.FnExactCountWithProduct", spec := "fnExactCountWithProduct", recurses := true, apart := false }
def FnExactCountWithProductSaid : Prop := fnExactCountWithProductRow.holds Try.pinned (OpenSpec.ofChange fnExactCountWithProductSpec)

/-- ITS FALSE NEIGHBOUR: 'it returns false'. Refute it at one input. -/
def fnExactCountWithProductWrong : ChangeSpec := { name := "fnExactCountWithProduct", fn := fun _ => fun
  | [d1, d2] => { results := [.lit (.bool false)], args := [d1, d2] }
  | _ => none }
def FnExactCountWithProductWrongFalsely : Prop := fnExactCountWithProductRow.holds Try.pinned (OpenSpec.ofChange fnExactCountWithProductWrong)

/-- 'laws.FnExactLeastWithProduct': WHATEVER THE INPUT: true; the input reads as it did. -/
def fnExactLeastWithProductSpec : ChangeSpec := { name := "fnExactLeastWithProduct", fn := fun _ => fun
  | [d1, d2] => { results := [.lit (.bool true)], args := [d1, d2] }
  | _ => none }
def fnExactLeastWithProductRow : OpenClaim := { program := "ytimimjmabnmeoaa", sum := "447cf2b2bd1a99585cf5da6af908fe7ee725241d4147cc300d2c342af4ebfefe", func := "loop.example/g01151/laws.FnExactLeastWithProduct", spec := "fnExactLeastWithProduct", recurses := true, apart := false }
def FnExactLeastWithProductSaid : Prop := fnExactLeastWithProductRow.holds Try.pinned (OpenSpec.ofChange fnExactLeastWithProductSpec)

/-- ITS FALSE NEIGHBOUR: 'it returns false'. Refute it at one input. -/
def fnExactLeastWithProductWrong : ChangeSpec := { name := "fnExactLeastWithProduct", fn := fun _ => fun
  | [d1, d2] => { results := [.lit (.bool false)], args := [d1, d2] }
  | _ => none }
def FnExactLeastWithProductWrongFalsely : Prop := fnExactLeastWithProductRow.holds Try.pinned (OpenSpec.ofChange fnExactLeastWithProductWrong)

/-- 'laws.FnExactLeastPersistent': WHATEVER THE INPUT: true; the input reads as it did. -/
def fnExactLeastPersistentSpec : ChangeSpec := { name := "fnExactLeastPersistent", fn := fun _ => fun
  | [d1, d2] => { results := [.lit (.bool true)], args := [d1, d2] }
  | _ => none }
def fnExactLeastPersistentRow : OpenClaim := { program := "ytimimjmabnmeoaa", sum := "447cf2b2bd1a99585cf5da6af908fe7ee725241d4147cc300d2c342af4ebfefe", func := "loop.example/g01151/laws.FnExactLeastPersistent", spec := "fnExactLeastPersistent", unfollowed := true, recurses := true, apart := false }
def FnExactLeastPersistentSaid : Prop := fnExactLeastPersistentRow.holds Try.pinned (OpenSpec.ofChange fnExactLeastPersistentSpec)

/-- ITS FALSE NEIGHBOUR: 'it returns false'. Refute it at one input. -/
def fnExactLeastPersistentWrong : ChangeSpec := { name := "fnExactLeastPersistent", fn := fun _ => fun
  | [d1, d2] => { results := [.lit (.bool false)], args := [d1, d2] }
  | _ => none }
def FnExactLeastPersistentWrongFalsely : Prop := fnExactLeastPersistentRow.holds Try.pinned (OpenSpec.ofChange fnExactLeastPersistentWrong)

/-- 'laws.FnExactAddedRun': WHATEVER THE INPUT: true; the input reads as it did. -/
def fnExactAddedRunSpec : ChangeSpec := { name := "fnExactAddedRun", fn := fun _ => fun
  | [d1, d2, d3] => { results := [.lit (.bool true)], args := [d1, d2, d3] }
  | _ => none }
def fnExactAddedRunRow : OpenClaim := { program := "ytimimjmabnmeoaa", sum := "447cf2b2bd1a99585cf5da6af908fe7ee725241d4147cc300d2c342af4ebfefe", func := "loop.example/g01151/laws.FnExactAddedRun", spec := "fnExactAddedRun", unfollowed := true, recurses := true, apart := false }
def FnExactAddedRunSaid : Prop := fnExactAddedRunRow.holds Try.pinned (OpenSpec.ofChange fnExactAddedRunSpec)

/-- ITS FALSE NEIGHBOUR: 'it returns false'. Refute it at one input. -/
def fnExactAddedRunWrong : ChangeSpec := { name := "fnExactAddedRun", fn := fun _ => fun
  | [d1, d2, d3] => { results := [.lit (.bool false)], args := [d1, d2, d3] }
  | _ => none }
def FnExactAddedRunWrongFalsely : Prop := fnExactAddedRunRow.holds Try.pinned (OpenSpec.ofChange fnExactAddedRunWrong)

/-- 'laws.FnExactCountSources': WHATEVER THE INPUT: true; the input reads as it did. -/
def fnExactCountSourcesSpec : ChangeSpec := { name := "fnExactCountSources", fn := fun _ => fun
  | [d1, d2] => { results := [.lit (.bool true)], args := [d1, d2] }
  | _ => none }
def fnExactCountSourcesRow : OpenClaim := { program := "ytimimjmabnmeoaa", sum := "447cf2b2bd1a99585cf5da6af908fe7ee725241d4147cc300d2c342af4ebfefe", func := "loop.example/g01151/laws.FnExactCountSources", spec := "fnExactCountSources", unfollowed := true, recurses := true, apart := false }
def FnExactCountSourcesSaid : Prop := fnExactCountSourcesRow.holds Try.pinned (OpenSpec.ofChange fnExactCountSourcesSpec)

/-- ITS FALSE NEIGHBOUR: 'it returns false'. Refute it at one input. -/
def fnExactCountSourcesWrong : ChangeSpec := { name := "fnExactCountSources", fn := fun _ => fun
  | [d1, d2] => { results := [.lit (.bool false)], args := [d1, d2] }
  | _ => none }
def FnExactCountSourcesWrongFalsely : Prop := fnExactCountSourcesRow.holds Try.pinned (OpenSpec.ofChange fnExactCountSourcesWrong)

/-- 'laws.FnExactFirstSource': WHATEVER THE INPUT: true; the input reads as it did. -/
def fnExactFirstSourceSpec : ChangeSpec := { name := "fnExactFirstSource", fn := fun _ => fun
  | [d1, d2] => { results := [.lit (.bool true)], args := [d1, d2] }
  | _ => none }
def fnExactFirstSourceRow : OpenClaim := { program := "ytimimjmabnmeoaa", sum := "447cf2b2bd1a99585cf5da6af908fe7ee725241d4147cc300d2c342af4ebfefe", func := "loop.example/g01151/laws.FnExactFirstSource", spec := "fnExactFirstSource", unfollowed := true, recurses := true, apart := false }
def FnExactFirstSourceSaid : Prop := fnExactFirstSourceRow.holds Try.pinned (OpenSpec.ofChange fnExactFirstSourceSpec)

/-- ITS FALSE NEIGHBOUR: 'it returns false'. Refute it at one input. -/
def fnExactFirstSourceWrong : ChangeSpec := { name := "fnExactFirstSource", fn := fun _ => fun
  | [d1, d2] => { results := [.lit (.bool false)], args := [d1, d2] }
  | _ => none }
def FnExactFirstSourceWrongFalsely : Prop := fnExactFirstSourceRow.holds Try.pinned (OpenSpec.ofChange fnExactFirstSourceWrong)

/-- 'laws.FnExactCyclesWith': WHATEVER THE INPUT: true; the input reads as it did. -/
def fnExactCyclesWithSpec : ChangeSpec := { name := "fnExactCyclesWith", fn := fun _ => fun
  | [d1, d2] => { results := [.lit (.bool true)], args := [d1, d2] }
  | _ => none }
def fnExactCyclesWithRow : OpenClaim := { program := "ytimimjmabnmeoaa", sum := "447cf2b2bd1a99585cf5da6af908fe7ee725241d4147cc300d2c342af4ebfefe", func := "loop.example/g01151/laws.FnExactCyclesWith", spec := "fnExactCyclesWith", unfollowed := true, recurses := true, apart := false }
def FnExactCyclesWithSaid : Prop := fnExactCyclesWithRow.holds Try.pinned (OpenSpec.ofChange fnExactCyclesWithSpec)

/-- ITS FALSE NEIGHBOUR: 'it returns false'. Refute it at one input. -/
def fnExactCyclesWithWrong : ChangeSpec := { name := "fnExactCyclesWith", fn := fun _ => fun
  | [d1, d2] => { results := [.lit (.bool false)], args := [d1, d2] }
  | _ => none }
def FnExactCyclesWithWrongFalsely : Prop := fnExactCyclesWithRow.holds Try.pinned (OpenSpec.ofChange fnExactCyclesWithWrong)

/- THE SECOND FORM. 'bulk': how many values and letters a reading holds, each counted each time it is reached (what is shared counts as often as it is met; a slice's spare places count too). A statement '..UptoSaid' is the law's where the arguments, and the package variables that the reading takes, are together of bulk at most 1048576: NARROWER than '..Said'. Prove '..Said' where nothing that the law and all that it calls make is longer than what came in: it says more and counts as full. Else prove '..UptoSaid'. A law counts once. -/
mutual
def uptoBulk {H : Type} : DataW H → Nat
  | .lit (.string bytes) => bytes.length + 1
  | .lit _ => 1
  | .nil => 1
  | .ptr d => uptoBulk d + 1
  | .slice elems spare => uptoBulkAll elems + uptoBulkAll spare + 1
  | .agg parts => uptoBulkAll parts + 1
  | .iface _ d => uptoBulk d + 1
  | .map entries => uptoBulkEntries entries + 1
  | .held _ => 1
def uptoBulkAll {H : Type} : List (DataW H) → Nat
  | [] => 0
  | d :: r => uptoBulk d + uptoBulkAll r
def uptoBulkEntries {H : Type} : List (Lit × DataW H) → Nat
  | [] => 0
  | x :: r => uptoBulkEntry x + uptoBulkEntries r
def uptoBulkEntry {H : Type} : Lit × DataW H → Nat
  | (.string bytes, d) => bytes.length + uptoBulk d + 1
  | (_, d) => uptoBulk d + 1
 end
def uptoSmall : (H : Type) → List (DataW H) → Bool := fun _ ds => decide (uptoBulkAll ds ≤ 1048576)
def OpenSpec.upto (s : _root_.Go.ChangeSpec) : _root_.Go.OpenSpec := { _root_.Go.OpenSpec.ofChange s with cond := some uptoSmall }

/-- 'laws.FnExactCountWithProduct', WHERE WHAT IT READS IS OF BULK AT MOST 1048576: true; the input reads as it did. -/
def fnExactCountWithProductUptoRow : OpenClaim := { program := "ytimimjmabnmeoaa", sum := "447cf2b2bd1a99585cf5da6af908fe7ee725241d4147cc300d2c342af4ebfefe", func := "loop.example/g01151/laws.FnExactCountWithProduct", spec := "fnExactCountWithProduct", recurses := true, apart := false, narrowed := true }
def FnExactCountWithProductUptoSaid : Prop := fnExactCountWithProductUptoRow.holds Try.pinned (OpenSpec.upto fnExactCountWithProductSpec)

/-- 'laws.FnExactLeastWithProduct', WHERE WHAT IT READS IS OF BULK AT MOST 1048576: true; the input reads as it did. -/
def fnExactLeastWithProductUptoRow : OpenClaim := { program := "ytimimjmabnmeoaa", sum := "447cf2b2bd1a99585cf5da6af908fe7ee725241d4147cc300d2c342af4ebfefe", func := "loop.example/g01151/laws.FnExactLeastWithProduct", spec := "fnExactLeastWithProduct", recurses := true, apart := false, narrowed := true }
def FnExactLeastWithProductUptoSaid : Prop := fnExactLeastWithProductUptoRow.holds Try.pinned (OpenSpec.upto fnExactLeastWithProductSpec)

/-- 'laws.FnExactLeastPersistent', WHERE WHAT IT READS IS OF BULK AT MOST 1048576: true; the input reads as it did. -/
def fnExactLeastPersistentUptoRow : OpenClaim := { program := "ytimimjmabnmeoaa", sum := "447cf2b2bd1a99585cf5da6af908fe7ee725241d4147cc300d2c342af4ebfefe", func := "loop.example/g01151/laws.FnExactLeastPersistent", spec := "fnExactLeastPersistent", unfollowed := true, recurses := true, apart := false, narrowed := true }
def FnExactLeastPersistentUptoSaid : Prop := fnExactLeastPersistentUptoRow.holds Try.pinned (OpenSpec.upto fnExactLeastPersistentSpec)

/-- 'laws.FnExactAddedRun', WHERE WHAT IT READS IS OF BULK AT MOST 1048576: true; the input reads as it did. -/
def fnExactAddedRunUptoRow : OpenClaim := { program := "ytimimjmabnmeoaa", sum := "447cf2b2bd1a99585cf5da6af908fe7ee725241d4147cc300d2c342af4ebfefe", func := "loop.example/g01151/laws.FnExactAddedRun", spec := "fnExactAddedRun", unfollowed := true, recurses := true, apart := false, narrowed := true }
def FnExactAddedRunUptoSaid : Prop := fnExactAddedRunUptoRow.holds Try.pinned (OpenSpec.upto fnExactAddedRunSpec)

/-- 'laws.FnExactCountSources', WHERE WHAT IT READS IS OF BULK AT MOST 1048576: true; the input reads as it did. -/
def fnExactCountSourcesUptoRow : OpenClaim := { program := "ytimimjmabnmeoaa", sum := "447cf2b2bd1a99585cf5da6af908fe7ee725241d4147cc300d2c342af4ebfefe", func := "loop.example/g01151/laws.FnExactCountSources", spec := "fnExactCountSources", unfollowed := true, recurses := true, apart := false, narrowed := true }
def FnExactCountSourcesUptoSaid : Prop := fnExactCountSourcesUptoRow.holds Try.pinned (OpenSpec.upto fnExactCountSourcesSpec)

/-- 'laws.FnExactFirstSource', WHERE WHAT IT READS IS OF BULK AT MOST 1048576: true; the input reads as it did. -/
def fnExactFirstSourceUptoRow : OpenClaim := { program := "ytimimjmabnmeoaa", sum := "447cf2b2bd1a99585cf5da6af908fe7ee725241d4147cc300d2c342af4ebfefe", func := "loop.example/g01151/laws.FnExactFirstSource", spec := "fnExactFirstSource", unfollowed := true, recurses := true, apart := false, narrowed := true }
def FnExactFirstSourceUptoSaid : Prop := fnExactFirstSourceUptoRow.holds Try.pinned (OpenSpec.upto fnExactFirstSourceSpec)

/-- 'laws.FnExactCyclesWith', WHERE WHAT IT READS IS OF BULK AT MOST 1048576: true; the input reads as it did. -/
def fnExactCyclesWithUptoRow : OpenClaim := { program := "ytimimjmabnmeoaa", sum := "447cf2b2bd1a99585cf5da6af908fe7ee725241d4147cc300d2c342af4ebfefe", func := "loop.example/g01151/laws.FnExactCyclesWith", spec := "fnExactCyclesWith", unfollowed := true, recurses := true, apart := false, narrowed := true }
def FnExactCyclesWithUptoSaid : Prop := fnExactCyclesWithUptoRow.holds Try.pinned (OpenSpec.upto fnExactCyclesWithSpec)

end Rows
end Go.Proofs.Ytimimjmabnmeoaa
