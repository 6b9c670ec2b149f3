-- Written by a program of this session (hook.py): functions, contracts and walks in the printer's form; contracts of this session's own where the printer takes none
import Derived.Test.YteojcnegdcopdaaProg
import Derived.Below
import Derived.Deep.Draws
import Derived.Deep.AppendLies
import Derived.Maps.AppendAt
import Derived.OwnWalk
import Derived.Laws.BytesArg
import Derived.Laws.MakeOwn
import Derived.Laws.OwnMore
import Derived.Deep.OwnRows
import Derived.Tactics
import Derived.Lib.ConvBytes
import Derived.Laws.Slices
import Derived.WalkKit
import Derived.KernelRfl
import Derived.RowKit3
import Derived.Deep.LoopGhost
import Derived.Deep.QuietTactic
import Derived.BigQuiet
import Derived.WideLaws
import Derived.Deep.DeepCutAuto
import Derived.Deep.CutBlock
import Derived.Deep.RegionHeld3
import Derived.Laws.Rows
import Derived.Lib.AppendStr
import Derived.ArgAppend
import Derived.Laws.IdiomCopy
import Derived.OrdersHeld
import Derived.Laws.BitsLemmas
import Derived.RowKit
import Derived.Test.YteojcnegdcopdaaSort
import Derived.Test.YteojcnegdcopdaaValues
import Derived.WalkSpells
import Derived.Test.YteojcnegdcopdaaWWords
import Derived.Test.YteojcnegdcopdaaWLast
import Derived.Test.YteojcnegdcopdaaWTab
import Derived.Test.YteojcnegdcopdaaWFour
import Derived.Test.YteojcnegdcopdaaWQPut
import Derived.Test.YteojcnegdcopdaaWApart
import Derived.Test.YteojcnegdcopdaaWArr
import Derived.Test.YteojcnegdcopdaaWZeros
import Derived.Test.YteojcnegdcopdaaWFoot
import Derived.Test.YteojcnegdcopdaaWKept
import Derived.Test.YteojcnegdcopdaaWShare
import Derived.Test.YteojcnegdcopdaaWN
import Derived.Test.YteojcnegdcopdaaWFootNe
import Derived.Test.YteojcnegdcopdaaWAt
import Derived.Test.YteojcnegdcopdaaWEqStruct
import Derived.Test.YteojcnegdcopdaaWRepsOne
import Derived.Test.YteojcnegdcopdaaWInv
import Derived.Test.YteojcnegdcopdaaWInvWords
import Derived.Test.YteojcnegdcopdaaWGuard
import Derived.Test.YteojcnegdcopdaaWNEv
import Derived.Test.YteojcnegdcopdaaWMore
namespace Go.Proofs.Yteojcnegdcopdaa.PFnExactSortedStep
open Go.RowKit Go.Proofs.YteojcnegdcopdaaW.PrintWords Go.Proofs.YteojcnegdcopdaaW.PrintLast Go.Proofs.YteojcnegdcopdaaW.PrintMore
attribute [local go_sem] max2_int min2_int max_two min_two max_three min_three max_four min_four   -- for this text's walks alone
set_option linter.unusedVariables false
set_option linter.unusedSimpArgs false



def errW : Option Int → Value
  | none => .nilIface
  | some c => .iface 0 (.int .i64 c)
theorem errW_none : errW none = .nilIface := rfl
theorem errW_some (c : Int) : errW (some c) = .iface 0 (.int .i64 c) := rfl

theorem info3 : (Try.prog.info? 3).map (fun i => (i.zero, i.size, i.bytes)) = some (some (.int .i64 0), 1, 8) := by kernel_rfl
-- the values' own types

end Go.Proofs.Yteojcnegdcopdaa.PFnExactSortedStep
