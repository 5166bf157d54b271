-- Laid by wip/xprint.py of this session: the kit's printer over contracts typed by hand.
import Derived.Test.YtcpeomfncopkaaaDoorProg
import Derived.Below
import Derived.Deep.Draws
import Derived.Deep.AppendLies
import Derived.Maps.AppendAt
import Derived.OwnWalk
import Derived.Laws.BytesArg
import Derived.Laws.MakeOwn
import Derived.Laws.OwnMore
import Derived.Deep.OwnRows
import Derived.Tactics
import Derived.Lib.ConvBytes
import Derived.Laws.Slices
import Derived.WalkKit
import Derived.KernelRfl
import Derived.RowKit3
import Derived.Deep.LoopGhost
import Derived.Deep.QuietTactic
import Derived.BigQuiet
import Derived.WideLaws
import Derived.Deep.DeepCutAuto
import Derived.Deep.CutBlock
import Derived.Deep.RegionHeld3
import Derived.Laws.Rows
import Derived.Lib.AppendStr
import Derived.ArgAppend
import Derived.Laws.IdiomCopy
import Derived.OrdersHeld
import Derived.Laws.BitsLemmas
import Derived.RowKit
import Derived.Test.YtcpeomfncopkaaaDoorWWords
import Derived.Test.YtcpeomfncopkaaaDoorWLast
import Derived.Test.YtcpeomfncopkaaaDoorWTab
import Derived.Test.YtcpeomfncopkaaaDoorWFour
import Derived.Test.YtcpeomfncopkaaaDoorWQPut
import Derived.Test.YtcpeomfncopkaaaDoorWApart
import Derived.Test.YtcpeomfncopkaaaDoorWArr
import Derived.Test.YtcpeomfncopkaaaDoorWZeros
import Derived.Test.YtcpeomfncopkaaaDoorWFoot
import Derived.Test.YtcpeomfncopkaaaDoorWKept
import Derived.Test.YtcpeomfncopkaaaDoorWShare
import Derived.Test.YtcpeomfncopkaaaDoorWN
import Derived.Test.YtcpeomfncopkaaaDoorWFootNe
import Derived.Test.YtcpeomfncopkaaaDoorWAt
import Derived.Test.YtcpeomfncopkaaaDoorWEqStruct
import Derived.Test.YtcpeomfncopkaaaDoorWRepsOne
import Derived.Test.YtcpeomfncopkaaaDoorWInv
import Derived.Test.YtcpeomfncopkaaaDoorWInvWords
import Derived.Test.YtcpeomfncopkaaaDoorWGuard
import Derived.Test.YtcpeomfncopkaaaDoorWNEv
import Derived.Test.YtcpeomfncopkaaaDoorWMore
namespace Go.Proofs.YtcpeomfncopkaaaDoor.PFnSplitSwap
open Go.RowKit Go.Proofs.YtcpeomfncopkaaaDoorW.PrintWords Go.Proofs.YtcpeomfncopkaaaDoorW.PrintLast Go.Proofs.YtcpeomfncopkaaaDoorW.PrintMore
attribute [local go_sem] max2_int min2_int max_two min_two max_three min_three max_four min_four   -- for this text's walks alone
set_option linter.unusedVariables false
set_option linter.unusedSimpArgs false



def errW : Option Int → Value
  | none => .nilIface
  | some c => .iface 0 (.int .i64 c)
theorem errW_none : errW none = .nilIface := rfl
theorem errW_some (c : Int) : errW (some c) = .iface 0 (.int .i64 c) := rfl

theorem info5 : (Tryd.prog.info? 5).map (fun i => (i.zero, i.size, i.bytes)) = some (some (.int .u8 0), 1, 1) := by kernel_rfl
theorem info9 : (Tryd.prog.info? 9).map (fun i => (i.zero, i.size, i.bytes)) = some (some (.string ⟨#[]⟩), 1, 16) := by kernel_rfl
-- the values' own types

end Go.Proofs.YtcpeomfncopkaaaDoor.PFnSplitSwap
