/- Plain laws: the moves, and whether anybody can move. No program in sight. -/
import Derived.Test.YtkcocomehhlpmaaDoorFnSpoiltPure6
import Derived.Test.YtkcocomehhlpmaaDoorFnSpoiltPure3
import Derived.Test.YtkcocomehhlpmaaDoorFnSpoiltQ7
namespace Go.Proofs.YtkcocomehhlpmaaDoor.Pu
open Go.RowKit Go.Proofs.YtkcocomehhlpmaaDoorW.PrintWords Go.Proofs.YtkcocomehhlpmaaDoorW.PrintLast Go.Proofs.YtkcocomehhlpmaaDoor.Q
set_option linter.unusedVariables false
set_option linter.unusedSimpArgs false
section
variable {R : List Int} {T : List S48} {N : List Int}
end
end Go.Proofs.YtkcocomehhlpmaaDoor.Pu
