-- Laid by wip/xprint.py of this session: the kit's printer over contracts typed by hand.
import Derived.Test.YtcpeomfncopkaaaDoorPFnSplitSwapx0
import Derived.Test.YtcpeomfncopkaaaDoorPFnSplitSwapx1
import Derived.Test.YtcpeomfncopkaaaDoorPFnSplitSwapx2
import Derived.Test.YtcpeomfncopkaaaDoorPFnSplitSwapx3
namespace Go.Proofs.YtcpeomfncopkaaaDoor.PFnSplitSwap
open Go.RowKit Go.Proofs.YtcpeomfncopkaaaDoorW.PrintWords Go.Proofs.YtcpeomfncopkaaaDoorW.PrintLast Go.Proofs.YtcpeomfncopkaaaDoorW.PrintMore
attribute [local go_sem] max2_int min2_int max_two min_two max_three min_three max_four min_four   -- for this text's walks alone
set_option linter.unusedVariables false
set_option linter.unusedSimpArgs false

end Go.Proofs.YtcpeomfncopkaaaDoor.PFnSplitSwap
