-- Laid by a program of this session (wip/tools), out of the translation; proved by Lean.
import Derived.Test.YtdcljkdbdjbjiaaPCrcSumsx0
import Derived.Test.YtdcljkdbdjbjiaaPCrcSumsx1
import Derived.Test.YtdcljkdbdjbjiaaPCrcSumsx2
namespace Go.Proofs.Ytdcljkdbdjbjiaa.PCrcSums
open Go.RowKit Go.Proofs.YtdcljkdbdjbjiaaW.PrintWords Go.Proofs.YtdcljkdbdjbjiaaW.PrintLast Go.Proofs.YtdcljkdbdjbjiaaW.PrintMore
attribute [local go_sem] max2_int min2_int max_two min_two max_three min_three max_four min_four   -- for this text's walks alone
set_option linter.unusedVariables false
set_option linter.unusedSimpArgs false

end Go.Proofs.Ytdcljkdbdjbjiaa.PCrcSums
