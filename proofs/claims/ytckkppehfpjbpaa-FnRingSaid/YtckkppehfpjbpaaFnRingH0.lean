-- kinds of the print that the base texts lack (wip/hx.py)
import Derived.Test.YtckkppehfpjbpaaFnRingQ0
namespace Go.Proofs.Ytckkppehfpjbpaa.Q
open Go.RowKit Go.Proofs.YtckkppehfpjbpaaW.PrintWords Go.Proofs.YtckkppehfpjbpaaW.PrintLast Go.Proofs.YtckkppehfpjbpaaW.PrintMore
attribute [local go_sem] max2_int min2_int max_two min_two max_three min_three max_four min_four   -- for this text's walks alone
set_option linter.unusedVariables false
set_option linter.unusedSimpArgs false



end Go.Proofs.Ytckkppehfpjbpaa.Q
