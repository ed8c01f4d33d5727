-- Printed by a program of this session's (wip/mkprint.py, over the kit's print): not typed by hand.
import Derived.Test.YtonmkhbojmckhaaProg
import Derived.Below
import Derived.Deep.Draws
import Derived.Deep.AppendLies
import Derived.Maps.AppendAt
import Derived.OwnWalk
import Derived.Laws.BytesArg
import Derived.Laws.MakeOwn
import Derived.Laws.OwnMore
import Derived.Deep.OwnRows
import Derived.Tactics
import Derived.Lib.ConvBytes
import Derived.Laws.Slices
import Derived.WalkKit
import Derived.KernelRfl
import Derived.RowKit3
import Derived.Deep.LoopGhost
import Derived.Deep.QuietTactic
import Derived.BigQuiet
import Derived.WideLaws
import Derived.Deep.DeepCutAuto
import Derived.Deep.CutBlock
import Derived.Deep.RegionHeld3
import Derived.Laws.Rows
import Derived.Lib.AppendStr
import Derived.ArgAppend
import Derived.Laws.IdiomCopy
import Derived.OrdersHeld
import Derived.Laws.BitsLemmas
import Derived.RowKit
import Derived.Lib.SliceRun
import Derived.Test.YtonmkhbojmckhaaWWords
import Derived.Test.YtonmkhbojmckhaaWLast
import Derived.Test.YtonmkhbojmckhaaWTab
import Derived.Test.YtonmkhbojmckhaaWFour
import Derived.Test.YtonmkhbojmckhaaWQPut
import Derived.Test.YtonmkhbojmckhaaWApart
import Derived.Test.YtonmkhbojmckhaaWArr
import Derived.Test.YtonmkhbojmckhaaWZeros
import Derived.Test.YtonmkhbojmckhaaWFoot
import Derived.Test.YtonmkhbojmckhaaWKept
import Derived.Test.YtonmkhbojmckhaaWShare
import Derived.Test.YtonmkhbojmckhaaWN
import Derived.Test.YtonmkhbojmckhaaWFootNe
import Derived.Test.YtonmkhbojmckhaaWAt
import Derived.Test.YtonmkhbojmckhaaWEqStruct
import Derived.Test.YtonmkhbojmckhaaWRepsOne
import Derived.Test.YtonmkhbojmckhaaWInv
import Derived.Test.YtonmkhbojmckhaaWInvWords
import Derived.Test.YtonmkhbojmckhaaWGuard
import Derived.Test.YtonmkhbojmckhaaWNEv
import Derived.Test.YtonmkhbojmckhaaWMore
namespace Go.Proofs.Ytonmkhbojmckhaa.PFnLock
open Go.RowKit Go.Proofs.YtonmkhbojmckhaaW.PrintWords Go.Proofs.YtonmkhbojmckhaaW.PrintLast Go.Proofs.YtonmkhbojmckhaaW.PrintMore
attribute [local go_sem] max2_int min2_int max_two min_two max_three min_three max_four min_four   -- for this text's walks alone
set_option linter.unusedVariables false
set_option linter.unusedSimpArgs false



def errW : Option Int → Value
  | none => .nilIface
  | some c => .iface 0 (.int .i64 c)
theorem errW_none : errW none = .nilIface := rfl
theorem errW_some (c : Int) : errW (some c) = .iface 0 (.int .i64 c) := rfl

/-- The same call, its arguments spelled otherwise. -/
theorem calls_eq_ {P : Program} {f : Nat} {xs ys : Array Value} {w : World} {Q : Ending → World → Prop} (h : xs = ys) (H : Calls P f xs w Q) : Calls P f ys w Q := h ▸ H
theorem info3 : (Try.prog.info? 3).map (fun i => (i.zero, i.size, i.bytes)) = some (some (.int .i64 0), 1, 8) := by kernel_rfl
-- the values' own types

end Go.Proofs.Ytonmkhbojmckhaa.PFnLock
