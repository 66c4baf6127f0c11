/- The law FnExactShown, as a plain statement. -/
import Derived.Test.YtkcocomehhlpmaaDoorFnSpoiltSh2
import Derived.Test.YtkcocomehhlpmaaDoorFnSpoiltSh3
namespace Go.Proofs.YtkcocomehhlpmaaDoor.Pu
open Go.RowKit Go.Proofs.YtkcocomehhlpmaaDoorW.PrintWords Go.Proofs.YtkcocomehhlpmaaDoorW.PrintLast Go.Proofs.YtkcocomehhlpmaaDoor.Q Go.Proofs.YtkcocomehhlpmaaDoor.Sh
set_option linter.unusedVariables false
set_option linter.unusedSimpArgs false
theorem implShown_tells {R : List Int} {T : List S48} {N : List Int} (hR : R.length ≤ 1048576) (hT : T.length ≤ 1048576) (hN : N.length ≤ 1048576) : Ev (fun k => impl_Shown.f k R T N) (shownD R T N) :=
 Ev.bind (implStateOk_tells R T N hR hT hN) (ev_pos rfl (Ev.now _))
end Go.Proofs.YtkcocomehhlpmaaDoor.Pu
