/- The walks of what FnExactUnhex reaches: lines of the kit's print for this claim, turned by hand where they did not build. -/
import Derived.Test.YtdbogijlpplcgaaProg
import Derived.Below
import Derived.Deep.Draws
import Derived.Deep.AppendLies
import Derived.Maps.AppendAt
import Derived.OwnWalk
import Derived.Laws.BytesArg
import Derived.Laws.MakeOwn
import Derived.Laws.OwnMore
import Derived.Deep.OwnRows
import Derived.Tactics
import Derived.Lib.ConvBytes
import Derived.Laws.Slices
import Derived.WalkKit
import Derived.KernelRfl
import Derived.RowKit3
import Derived.Deep.LoopGhost
import Derived.Deep.QuietTactic
import Derived.BigQuiet
import Derived.WideLaws
import Derived.Deep.DeepCutAuto
import Derived.Deep.CutBlock
import Derived.Deep.RegionHeld3
import Derived.Laws.Rows
import Derived.Lib.AppendStr
import Derived.ArgAppend
import Derived.Laws.IdiomCopy
import Derived.OrdersHeld
import Derived.Laws.BitsLemmas
import Derived.RowKit
import Derived.Test.YtdbogijlpplcgaaWWords
import Derived.Test.YtdbogijlpplcgaaWLast
import Derived.Test.YtdbogijlpplcgaaWTab
import Derived.Test.YtdbogijlpplcgaaWFour
import Derived.Test.YtdbogijlpplcgaaWQPut
import Derived.Test.YtdbogijlpplcgaaWApart
import Derived.Test.YtdbogijlpplcgaaWArr
import Derived.Test.YtdbogijlpplcgaaWZeros
import Derived.Test.YtdbogijlpplcgaaWFoot
import Derived.Test.YtdbogijlpplcgaaWKept
import Derived.Test.YtdbogijlpplcgaaWShare
import Derived.Test.YtdbogijlpplcgaaWN
import Derived.Test.YtdbogijlpplcgaaWFootNe
import Derived.Test.YtdbogijlpplcgaaWAt
import Derived.Test.YtdbogijlpplcgaaWEqStruct
import Derived.Test.YtdbogijlpplcgaaWRepsOne
import Derived.Test.YtdbogijlpplcgaaWInv
import Derived.Test.YtdbogijlpplcgaaWInvWords
import Derived.Test.YtdbogijlpplcgaaWGuard
import Derived.Test.YtdbogijlpplcgaaWNEv
import Derived.Test.YtdbogijlpplcgaaWMore
namespace Go.Proofs.Ytdbogijlpplcgaa.PFnExactUnhex
open Go.RowKit Go.Proofs.YtdbogijlpplcgaaW.PrintWords Go.Proofs.YtdbogijlpplcgaaW.PrintLast Go.Proofs.YtdbogijlpplcgaaW.PrintMore
attribute [local go_sem] max2_int min2_int max_two min_two max_three min_three max_four min_four   -- for this text's walks alone
set_option linter.unusedVariables false
set_option linter.unusedSimpArgs false



def errW : Option Int → Value
  | none => .nilIface
  | some c => .iface 0 (.int .i64 c)
theorem errW_none : errW none = .nilIface := rfl
theorem errW_some (c : Int) : errW (some c) = .iface 0 (.int .i64 c) := rfl

theorem info5 : (Try.prog.info? 5).map (fun i => (i.zero, i.size, i.bytes)) = some (some (.int .u8 0), 1, 1) := by kernel_rfl
-- the values' own types

end Go.Proofs.Ytdbogijlpplcgaa.PFnExactUnhex
