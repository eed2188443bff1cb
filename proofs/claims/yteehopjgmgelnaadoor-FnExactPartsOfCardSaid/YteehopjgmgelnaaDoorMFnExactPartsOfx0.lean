/- The walks of what FnExactPartsOf reaches: lines of the kit's print for this claim, turned by hand where they did not build. -/
import Derived.Test.YteehopjgmgelnaaDoorProg
import Derived.Below
import Derived.Deep.Draws
import Derived.Deep.AppendLies
import Derived.Maps.AppendAt
import Derived.OwnWalk
import Derived.Laws.BytesArg
import Derived.Laws.MakeOwn
import Derived.Laws.OwnMore
import Derived.Deep.OwnRows
import Derived.Tactics
import Derived.Lib.ConvBytes
import Derived.Laws.Slices
import Derived.WalkKit
import Derived.KernelRfl
import Derived.RowKit3
import Derived.Deep.LoopGhost
import Derived.Deep.QuietTactic
import Derived.BigQuiet
import Derived.WideLaws
import Derived.Deep.DeepCutAuto
import Derived.Deep.CutBlock
import Derived.Deep.RegionHeld3
import Derived.Laws.Rows
import Derived.Lib.AppendStr
import Derived.ArgAppend
import Derived.Laws.IdiomCopy
import Derived.OrdersHeld
import Derived.Laws.BitsLemmas
import Derived.RowKit
import Derived.Test.YteehopjgmgelnaaDoorWWords
import Derived.Test.YteehopjgmgelnaaDoorWLast
import Derived.Test.YteehopjgmgelnaaDoorWTab
import Derived.Test.YteehopjgmgelnaaDoorWFour
import Derived.Test.YteehopjgmgelnaaDoorWQPut
import Derived.Test.YteehopjgmgelnaaDoorWApart
import Derived.Test.YteehopjgmgelnaaDoorWArr
import Derived.Test.YteehopjgmgelnaaDoorWZeros
import Derived.Test.YteehopjgmgelnaaDoorWFoot
import Derived.Test.YteehopjgmgelnaaDoorWKept
import Derived.Test.YteehopjgmgelnaaDoorWShare
import Derived.Test.YteehopjgmgelnaaDoorWN
import Derived.Test.YteehopjgmgelnaaDoorWFootNe
import Derived.Test.YteehopjgmgelnaaDoorWAt
import Derived.Test.YteehopjgmgelnaaDoorWEqStruct
import Derived.Test.YteehopjgmgelnaaDoorWRepsOne
import Derived.Test.YteehopjgmgelnaaDoorWInv
import Derived.Test.YteehopjgmgelnaaDoorWInvWords
import Derived.Test.YteehopjgmgelnaaDoorWGuard
import Derived.Test.YteehopjgmgelnaaDoorWNEv
import Derived.Test.YteehopjgmgelnaaDoorWMore
namespace Go.Proofs.YteehopjgmgelnaaDoor.PFnExactPartsOf
open Go.RowKit Go.Proofs.YteehopjgmgelnaaDoorW.PrintWords Go.Proofs.YteehopjgmgelnaaDoorW.PrintLast Go.Proofs.YteehopjgmgelnaaDoorW.PrintMore
attribute [local go_sem] max2_int min2_int max_two min_two max_three min_three max_four min_four   -- for this text's walks alone
set_option linter.unusedVariables false
set_option linter.unusedSimpArgs false



def errW : Option Int → Value
  | none => .nilIface
  | some c => .iface 0 (.int .i64 c)
theorem errW_none : errW none = .nilIface := rfl
theorem errW_some (c : Int) : errW (some c) = .iface 0 (.int .i64 c) := rfl

theorem info5 : (Tryd.prog.info? 5).map (fun i => (i.zero, i.size, i.bytes)) = some (some (.int .u8 0), 1, 1) := by kernel_rfl
theorem info9 : (Tryd.prog.info? 9).map (fun i => (i.zero, i.size, i.bytes)) = some (some (.string ⟨#[]⟩), 1, 16) := by kernel_rfl
-- the values' own types

end Go.Proofs.YteehopjgmgelnaaDoor.PFnExactPartsOf
