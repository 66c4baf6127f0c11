/- What is allowed. No program in sight. -/
import Derived.Test.YtpbclogjoangfaaFnExactGuardSr8
import Derived.Test.YtpbclogjoangfaaFnExactGuardSp6
namespace Go.Proofs.Ytpbclogjoangfaa.Al
open Go.RowKit Go.Proofs.YtpbclogjoangfaaW.PrintWords Go.Proofs.YtpbclogjoangfaaW.PrintLast Go.Proofs.Ytpbclogjoangfaa.Q Go.Proofs.Ytpbclogjoangfaa.Pu Go.Proofs.Ytpbclogjoangfaa.Sr Go.Proofs.Ytpbclogjoangfaa.Sp
set_option linter.unusedVariables false
set_option linter.unusedSimpArgs false
def zv : List Nat := [0, 0, 0, 0, 0]
section
variable {R : List Int} {T : List S35} {N : List Int}
end
end Go.Proofs.Ytpbclogjoangfaa.Al
