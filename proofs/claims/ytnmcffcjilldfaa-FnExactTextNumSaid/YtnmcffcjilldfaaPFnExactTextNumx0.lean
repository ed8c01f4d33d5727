-- Printed by a program of this session's (wip/mkprint.py, over the kit's print): not typed by hand.
import Derived.Test.YtnmcffcjilldfaaProg
import Derived.Below
import Derived.Deep.Draws
import Derived.Deep.AppendLies
import Derived.Maps.AppendAt
import Derived.OwnWalk
import Derived.Laws.BytesArg
import Derived.Laws.MakeOwn
import Derived.Laws.OwnMore
import Derived.Deep.OwnRows
import Derived.Tactics
import Derived.Lib.ConvBytes
import Derived.Laws.Slices
import Derived.WalkKit
import Derived.KernelRfl
import Derived.RowKit3
import Derived.Deep.LoopGhost
import Derived.Deep.QuietTactic
import Derived.BigQuiet
import Derived.WideLaws
import Derived.Deep.DeepCutAuto
import Derived.Deep.CutBlock
import Derived.Deep.RegionHeld3
import Derived.Laws.Rows
import Derived.Lib.AppendStr
import Derived.ArgAppend
import Derived.Laws.IdiomCopy
import Derived.OrdersHeld
import Derived.Laws.BitsLemmas
import Derived.RowKit
import Derived.Lib.SliceRun
import Derived.Test.YtnmcffcjilldfaaWWords
import Derived.Test.YtnmcffcjilldfaaWLast
import Derived.Test.YtnmcffcjilldfaaWTab
import Derived.Test.YtnmcffcjilldfaaWFour
import Derived.Test.YtnmcffcjilldfaaWQPut
import Derived.Test.YtnmcffcjilldfaaWApart
import Derived.Test.YtnmcffcjilldfaaWArr
import Derived.Test.YtnmcffcjilldfaaWZeros
import Derived.Test.YtnmcffcjilldfaaWFoot
import Derived.Test.YtnmcffcjilldfaaWKept
import Derived.Test.YtnmcffcjilldfaaWShare
import Derived.Test.YtnmcffcjilldfaaWN
import Derived.Test.YtnmcffcjilldfaaWFootNe
import Derived.Test.YtnmcffcjilldfaaWAt
import Derived.Test.YtnmcffcjilldfaaWEqStruct
import Derived.Test.YtnmcffcjilldfaaWRepsOne
import Derived.Test.YtnmcffcjilldfaaWInv
import Derived.Test.YtnmcffcjilldfaaWInvWords
import Derived.Test.YtnmcffcjilldfaaWGuard
import Derived.Test.YtnmcffcjilldfaaWNEv
import Derived.Test.YtnmcffcjilldfaaWMore
namespace Go.Proofs.Ytnmcffcjilldfaa.PFnExactTextNum
open Go.RowKit Go.Proofs.YtnmcffcjilldfaaW.PrintWords Go.Proofs.YtnmcffcjilldfaaW.PrintLast Go.Proofs.YtnmcffcjilldfaaW.PrintMore
attribute [local go_sem] max2_int min2_int max_two min_two max_three min_three max_four min_four   -- for this text's walks alone
set_option linter.unusedVariables false
set_option linter.unusedSimpArgs false



def errW : Option Int → Value
  | none => .nilIface
  | some c => .iface 0 (.int .i64 c)
theorem errW_none : errW none = .nilIface := rfl
theorem errW_some (c : Int) : errW (some c) = .iface 0 (.int .i64 c) := rfl

theorem info5 : (Try.prog.info? 5).map (fun i => (i.zero, i.size, i.bytes)) = some (some (.int .u8 0), 1, 1) := by kernel_rfl
-- the values' own types

end Go.Proofs.Ytnmcffcjilldfaa.PFnExactTextNum
