/- The best order. No program in sight. -/
import Derived.Test.YtpbclogjoangfaaFnExactGuardAl0
namespace Go.Proofs.Ytpbclogjoangfaa.So
open Go.RowKit Go.Proofs.YtpbclogjoangfaaW.PrintWords Go.Proofs.YtpbclogjoangfaaW.PrintLast Go.Proofs.Ytpbclogjoangfaa.Q Go.Proofs.Ytpbclogjoangfaa.Pu Go.Proofs.Ytpbclogjoangfaa.Sr Go.Proofs.Ytpbclogjoangfaa.Sp Go.Proofs.Ytpbclogjoangfaa.Al
set_option linter.unusedVariables false
set_option linter.unusedSimpArgs false
section
variable {R : List Int} {T : List S35} {N : List Int}
end
end Go.Proofs.Ytpbclogjoangfaa.So
