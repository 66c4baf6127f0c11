-- Written by programs of this session (wip/drv.py, wip/mkclaim.py) over the kit's print; not trusted: Lean checks it.
import Derived.Test.YtpbclogjoangfaaFnBestQ0
import Derived.Test.YtpbclogjoangfaaFnBestQ4
import Derived.Test.YtpbclogjoangfaaFnBestQ5
namespace Go.Proofs.Ytpbclogjoangfaa.Q
open Go.RowKit Go.Proofs.YtpbclogjoangfaaW.PrintWords Go.Proofs.YtpbclogjoangfaaW.PrintLast Go.Proofs.YtpbclogjoangfaaW.PrintMore
attribute [local go_sem] max2_int min2_int max_two min_two max_three min_three max_four min_four   -- for this text's walks alone
set_option linter.unusedVariables false
set_option linter.unusedSimpArgs false

end Go.Proofs.Ytpbclogjoangfaa.Q
