/- A function that was walked by hand: with more rounds it tells the same. -/
import Derived.Test.YtckkppehfpjbpaaFnRingSr8
namespace Go.Proofs.Ytckkppehfpjbpaa.Sr
open Go.RowKit Go.Proofs.YtckkppehfpjbpaaW.PrintWords Go.Proofs.YtckkppehfpjbpaaW.PrintLast Go.Proofs.YtckkppehfpjbpaaW.PrintMore Go.Proofs.Ytckkppehfpjbpaa.Q Go.Proofs.Ytckkppehfpjbpaa.Pu
end Go.Proofs.Ytckkppehfpjbpaa.Sr
