/- The best order costs what is told; an order to the end makes a state safe. No program in sight. -/
import Derived.Test.YtpbclogjoangfaaFnExactGuardSo0
import Derived.Test.YtpbclogjoangfaaFnExactGuardSp6
import Derived.Test.YtpbclogjoangfaaFnExactGuardPure7
namespace Go.Proofs.Ytpbclogjoangfaa.Me
open Go.RowKit Go.Proofs.YtpbclogjoangfaaW.PrintWords Go.Proofs.YtpbclogjoangfaaW.PrintLast Go.Proofs.Ytpbclogjoangfaa.Q Go.Proofs.Ytpbclogjoangfaa.Pu Go.Proofs.Ytpbclogjoangfaa.Sr Go.Proofs.Ytpbclogjoangfaa.Sp Go.Proofs.Ytpbclogjoangfaa.Al Go.Proofs.Ytpbclogjoangfaa.So
set_option linter.unusedVariables false
set_option linter.unusedSimpArgs false
section
variable {R : List Int} {T : List S35} {N : List Int}
end
end Go.Proofs.Ytpbclogjoangfaa.Me
