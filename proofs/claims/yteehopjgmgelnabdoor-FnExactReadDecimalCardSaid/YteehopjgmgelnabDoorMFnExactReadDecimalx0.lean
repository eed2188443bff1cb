/- The walks of what FnExactReadDecimal reaches: lines of the kit's print for this claim, turned by hand where they did not build. -/
import Derived.Test.YteehopjgmgelnabDoorProg
import Derived.Below
import Derived.Deep.Draws
import Derived.Deep.AppendLies
import Derived.Maps.AppendAt
import Derived.OwnWalk
import Derived.Laws.BytesArg
import Derived.Laws.MakeOwn
import Derived.Laws.OwnMore
import Derived.Deep.OwnRows
import Derived.Tactics
import Derived.Lib.ConvBytes
import Derived.Laws.Slices
import Derived.WalkKit
import Derived.KernelRfl
import Derived.RowKit3
import Derived.Deep.LoopGhost
import Derived.Deep.QuietTactic
import Derived.BigQuiet
import Derived.WideLaws
import Derived.Deep.DeepCutAuto
import Derived.Deep.CutBlock
import Derived.Deep.RegionHeld3
import Derived.Laws.Rows
import Derived.Lib.AppendStr
import Derived.ArgAppend
import Derived.Laws.IdiomCopy
import Derived.OrdersHeld
import Derived.Laws.BitsLemmas
import Derived.RowKit
import Derived.Test.YteehopjgmgelnabDoorWWords
import Derived.Test.YteehopjgmgelnabDoorWLast
import Derived.Test.YteehopjgmgelnabDoorWTab
import Derived.Test.YteehopjgmgelnabDoorWFour
import Derived.Test.YteehopjgmgelnabDoorWQPut
import Derived.Test.YteehopjgmgelnabDoorWApart
import Derived.Test.YteehopjgmgelnabDoorWArr
import Derived.Test.YteehopjgmgelnabDoorWZeros
import Derived.Test.YteehopjgmgelnabDoorWFoot
import Derived.Test.YteehopjgmgelnabDoorWKept
import Derived.Test.YteehopjgmgelnabDoorWShare
import Derived.Test.YteehopjgmgelnabDoorWN
import Derived.Test.YteehopjgmgelnabDoorWFootNe
import Derived.Test.YteehopjgmgelnabDoorWAt
import Derived.Test.YteehopjgmgelnabDoorWEqStruct
import Derived.Test.YteehopjgmgelnabDoorWRepsOne
import Derived.Test.YteehopjgmgelnabDoorWInv
import Derived.Test.YteehopjgmgelnabDoorWInvWords
import Derived.Test.YteehopjgmgelnabDoorWGuard
import Derived.Test.YteehopjgmgelnabDoorWNEv
import Derived.Test.YteehopjgmgelnabDoorWMore
namespace Go.Proofs.YteehopjgmgelnabDoor.PFnExactReadDecimal
open Go.RowKit Go.Proofs.YteehopjgmgelnabDoorW.PrintWords Go.Proofs.YteehopjgmgelnabDoorW.PrintLast Go.Proofs.YteehopjgmgelnabDoorW.PrintMore
attribute [local go_sem] max2_int min2_int max_two min_two max_three min_three max_four min_four   -- for this text's walks alone
set_option linter.unusedVariables false
set_option linter.unusedSimpArgs false



def errW : Option Int → Value
  | none => .nilIface
  | some c => .iface 51 (.int .i64 c)
theorem errW_none : errW none = .nilIface := rfl
theorem errW_some (c : Int) : errW (some c) = .iface 51 (.int .i64 c) := rfl

theorem info5 : (Tryd.prog.info? 5).map (fun i => (i.zero, i.size, i.bytes)) = some (some (.int .u8 0), 1, 1) := by kernel_rfl
-- the values' own types

end Go.Proofs.YteehopjgmgelnabDoor.PFnExactReadDecimal
