/- The walks of what FnExactClearCells reaches: lines of the kit's print for this claim, turned by hand where they did not build. -/
import Derived.Test.YtimeeohggjagfaaProg
import Derived.Below
import Derived.Deep.Draws
import Derived.Deep.AppendLies
import Derived.Maps.AppendAt
import Derived.OwnWalk
import Derived.Laws.BytesArg
import Derived.Laws.MakeOwn
import Derived.Laws.OwnMore
import Derived.Deep.OwnRows
import Derived.Tactics
import Derived.Lib.ConvBytes
import Derived.Laws.Slices
import Derived.WalkKit
import Derived.KernelRfl
import Derived.RowKit3
import Derived.Deep.LoopGhost
import Derived.Deep.QuietTactic
import Derived.BigQuiet
import Derived.WideLaws
import Derived.Deep.DeepCutAuto
import Derived.Deep.CutBlock
import Derived.Deep.RegionHeld3
import Derived.Laws.Rows
import Derived.Lib.AppendStr
import Derived.ArgAppend
import Derived.Laws.IdiomCopy
import Derived.OrdersHeld
import Derived.Laws.BitsLemmas
import Derived.RowKit
import Derived.Test.YtimeeohggjagfaaWWords
import Derived.Test.YtimeeohggjagfaaWLast
import Derived.Test.YtimeeohggjagfaaWTab
import Derived.Test.YtimeeohggjagfaaWFour
import Derived.Test.YtimeeohggjagfaaWQPut
import Derived.Test.YtimeeohggjagfaaWApart
import Derived.Test.YtimeeohggjagfaaWArr
import Derived.Test.YtimeeohggjagfaaWZeros
import Derived.Test.YtimeeohggjagfaaWFoot
import Derived.Test.YtimeeohggjagfaaWKept
import Derived.Test.YtimeeohggjagfaaWShare
import Derived.Test.YtimeeohggjagfaaWN
import Derived.Test.YtimeeohggjagfaaWFootNe
import Derived.Test.YtimeeohggjagfaaWAt
import Derived.Test.YtimeeohggjagfaaWEqStruct
import Derived.Test.YtimeeohggjagfaaWRepsOne
import Derived.Test.YtimeeohggjagfaaWInv
import Derived.Test.YtimeeohggjagfaaWInvWords
import Derived.Test.YtimeeohggjagfaaWGuard
import Derived.Test.YtimeeohggjagfaaWNEv
import Derived.Test.YtimeeohggjagfaaWMore
namespace Go.Proofs.Ytimeeohggjagfaa.PFnExactClearCells
open Go.RowKit Go.Proofs.YtimeeohggjagfaaW.PrintWords Go.Proofs.YtimeeohggjagfaaW.PrintLast Go.Proofs.YtimeeohggjagfaaW.PrintMore
attribute [local go_sem] max2_int min2_int max_two min_two max_three min_three max_four min_four   -- for this text's walks alone
set_option linter.unusedVariables false
set_option linter.unusedSimpArgs false



def errW : Option Int → Value
  | none => .nilIface
  | some c => .iface 0 (.int .i64 c)
theorem errW_none : errW none = .nilIface := rfl
theorem errW_some (c : Int) : errW (some c) = .iface 0 (.int .i64 c) := rfl

theorem info3 : (Try.prog.info? 3).map (fun i => (i.zero, i.size, i.bytes)) = some (some (.int .i64 0), 1, 8) := by kernel_rfl
-- the values' own types

end Go.Proofs.Ytimeeohggjagfaa.PFnExactClearCells
