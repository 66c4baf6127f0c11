/- A function that was walked by hand: with more rounds it tells the same. -/
import Derived.Test.YtpbclogjoangfaaFnBestSr8
namespace Go.Proofs.Ytpbclogjoangfaa.Sr
open Go.RowKit Go.Proofs.YtpbclogjoangfaaW.PrintWords Go.Proofs.YtpbclogjoangfaaW.PrintLast Go.Proofs.YtpbclogjoangfaaW.PrintMore Go.Proofs.Ytpbclogjoangfaa.Q Go.Proofs.Ytpbclogjoangfaa.Pu
end Go.Proofs.Ytpbclogjoangfaa.Sr
