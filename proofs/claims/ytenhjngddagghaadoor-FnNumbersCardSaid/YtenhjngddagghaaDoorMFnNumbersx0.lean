/- The walks of what FnNumbers reaches: lines of the kit's print for this claim, turned by hand where they did not build. -/
import Derived.Test.YtenhjngddagghaaDoorProg
import Derived.Below
import Derived.Deep.Draws
import Derived.Deep.AppendLies
import Derived.Maps.AppendAt
import Derived.OwnWalk
import Derived.Laws.BytesArg
import Derived.Laws.MakeOwn
import Derived.Laws.OwnMore
import Derived.Deep.OwnRows
import Derived.Tactics
import Derived.Lib.ConvBytes
import Derived.Laws.Slices
import Derived.WalkKit
import Derived.KernelRfl
import Derived.RowKit3
import Derived.Deep.LoopGhost
import Derived.Deep.QuietTactic
import Derived.BigQuiet
import Derived.WideLaws
import Derived.Deep.DeepCutAuto
import Derived.Deep.CutBlock
import Derived.Deep.RegionHeld3
import Derived.Laws.Rows
import Derived.Lib.AppendStr
import Derived.ArgAppend
import Derived.Laws.IdiomCopy
import Derived.OrdersHeld
import Derived.Laws.BitsLemmas
import Derived.RowKit
import Derived.Test.YtenhjngddagghaaDoorWWords
import Derived.Test.YtenhjngddagghaaDoorWLast
import Derived.Test.YtenhjngddagghaaDoorWTab
import Derived.Test.YtenhjngddagghaaDoorWFour
import Derived.Test.YtenhjngddagghaaDoorWQPut
import Derived.Test.YtenhjngddagghaaDoorWApart
import Derived.Test.YtenhjngddagghaaDoorWArr
import Derived.Test.YtenhjngddagghaaDoorWZeros
import Derived.Test.YtenhjngddagghaaDoorWFoot
import Derived.Test.YtenhjngddagghaaDoorWKept
import Derived.Test.YtenhjngddagghaaDoorWShare
import Derived.Test.YtenhjngddagghaaDoorWN
import Derived.Test.YtenhjngddagghaaDoorWFootNe
import Derived.Test.YtenhjngddagghaaDoorWAt
import Derived.Test.YtenhjngddagghaaDoorWEqStruct
import Derived.Test.YtenhjngddagghaaDoorWRepsOne
import Derived.Test.YtenhjngddagghaaDoorWInv
import Derived.Test.YtenhjngddagghaaDoorWInvWords
import Derived.Test.YtenhjngddagghaaDoorWGuard
import Derived.Test.YtenhjngddagghaaDoorWNEv
import Derived.Test.YtenhjngddagghaaDoorWMore
namespace Go.Proofs.YtenhjngddagghaaDoor.PFnNumbers
open Go.RowKit Go.Proofs.YtenhjngddagghaaDoorW.PrintWords Go.Proofs.YtenhjngddagghaaDoorW.PrintLast Go.Proofs.YtenhjngddagghaaDoorW.PrintMore
attribute [local go_sem] max2_int min2_int max_two min_two max_three min_three max_four min_four   -- for this text's walks alone
set_option linter.unusedVariables false
set_option linter.unusedSimpArgs false



def errW : Option Int → Value
  | none => .nilIface
  | some c => .iface 80 (.int .i64 c)
theorem errW_none : errW none = .nilIface := rfl
theorem errW_some (c : Int) : errW (some c) = .iface 80 (.int .i64 c) := rfl

theorem info3 : (Tryd.prog.info? 3).map (fun i => (i.zero, i.size, i.bytes)) = some (some (.int .i64 0), 1, 8) := by kernel_rfl
theorem info5 : (Tryd.prog.info? 5).map (fun i => (i.zero, i.size, i.bytes)) = some (some (.int .u8 0), 1, 1) := by kernel_rfl
-- the values' own types

end Go.Proofs.YtenhjngddagghaaDoor.PFnNumbers
