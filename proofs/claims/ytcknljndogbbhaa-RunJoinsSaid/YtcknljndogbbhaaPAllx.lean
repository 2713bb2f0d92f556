-- Laid by a program of this session (wip/tools), out of the translation; proved by Lean.
import Derived.Test.YtcknljndogbbhaaPAllx0
import Derived.Test.YtcknljndogbbhaaPAllx1
import Derived.Test.YtcknljndogbbhaaPAllx2
import Derived.Test.YtcknljndogbbhaaPAllx3
import Derived.Test.YtcknljndogbbhaaPAllx4
import Derived.Test.YtcknljndogbbhaaPAllx5
namespace Go.Proofs.Ytcknljndogbbhaa.PAll
open Go.RowKit Go.Proofs.YtcknljndogbbhaaW.PrintWords Go.Proofs.YtcknljndogbbhaaW.PrintLast Go.Proofs.YtcknljndogbbhaaW.PrintMore
attribute [local go_sem] max2_int min2_int max_two min_two max_three min_three max_four min_four   -- for this text's walks alone
set_option linter.unusedVariables false
set_option linter.unusedSimpArgs false

end Go.Proofs.Ytcknljndogbbhaa.PAll
