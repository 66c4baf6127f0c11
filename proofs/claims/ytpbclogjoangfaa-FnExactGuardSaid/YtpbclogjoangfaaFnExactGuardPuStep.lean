/- The law FnExactStep, as a plain statement. -/
import Derived.Test.YtpbclogjoangfaaFnExactGuardPure6
import Derived.Test.YtpbclogjoangfaaFnExactGuardQ5
import Derived.Test.YtpbclogjoangfaaFnExactGuardQ7
namespace Go.Proofs.Ytpbclogjoangfaa.Pu
open Go.RowKit Go.Proofs.YtpbclogjoangfaaW.PrintWords Go.Proofs.YtpbclogjoangfaaW.PrintLast Go.Proofs.Ytpbclogjoangfaa.Q
set_option linter.unusedVariables false
set_option linter.unusedSimpArgs false
section
variable {R : List Int} {T : List S35} {N : List Int}
end
end Go.Proofs.Ytpbclogjoangfaa.Pu
