-- Laid by a program of this session (wip/tools), out of the translation; proved by Lean.
import Derived.Test.YtcankokamleloaaPAllx0
import Derived.Test.YtcankokamleloaaPAllx1
import Derived.Test.YtcankokamleloaaPAllx2
namespace Go.Proofs.Ytcankokamleloaa.PAll
open Go.RowKit Go.Proofs.YtcankokamleloaaW.PrintWords Go.Proofs.YtcankokamleloaaW.PrintLast Go.Proofs.YtcankokamleloaaW.PrintMore
attribute [local go_sem] max2_int min2_int max_two min_two max_three min_three max_four min_four   -- for this text's walks alone
set_option linter.unusedVariables false
set_option linter.unusedSimpArgs false

end Go.Proofs.Ytcankokamleloaa.PAll
