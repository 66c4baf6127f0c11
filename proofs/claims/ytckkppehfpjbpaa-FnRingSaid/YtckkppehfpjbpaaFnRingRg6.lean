/- The rings' functions: with more rounds they tell the same. -/
import Derived.Test.YtckkppehfpjbpaaFnRingPuRing
namespace Go.Proofs.Ytckkppehfpjbpaa.Rg
open Go.RowKit Go.Proofs.YtckkppehfpjbpaaW.PrintWords Go.Proofs.YtckkppehfpjbpaaW.PrintLast Go.Proofs.YtckkppehfpjbpaaW.PrintMore Go.Proofs.Ytckkppehfpjbpaa.Q Go.Proofs.Ytckkppehfpjbpaa.Pu
end Go.Proofs.Ytckkppehfpjbpaa.Rg
