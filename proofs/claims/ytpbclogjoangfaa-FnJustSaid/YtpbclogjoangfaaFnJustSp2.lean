/- The specification's search: what lies in memory; the number of a state. Walked by hand. -/
import Derived.Test.YtpbclogjoangfaaFnJustSp1
import Derived.Test.YtpbclogjoangfaaFnJustSr4
import Derived.Test.YtpbclogjoangfaaFnJustQ3
import Derived.Test.YtpbclogjoangfaaFnJustQ4
namespace Go.Proofs.Ytpbclogjoangfaa.Sp
open Go.RowKit Go.Proofs.YtpbclogjoangfaaW.PrintWords Go.Proofs.YtpbclogjoangfaaW.PrintLast Go.Proofs.YtpbclogjoangfaaW.PrintMore Go.Proofs.Ytpbclogjoangfaa.Q Go.Proofs.Ytpbclogjoangfaa.Pu Go.Proofs.Ytpbclogjoangfaa.Sr
attribute [local go_sem] max2_int min2_int max_two min_two max_three min_three max_four min_four
set_option linter.unusedVariables false
set_option linter.unusedSimpArgs false
end Go.Proofs.Ytpbclogjoangfaa.Sp
