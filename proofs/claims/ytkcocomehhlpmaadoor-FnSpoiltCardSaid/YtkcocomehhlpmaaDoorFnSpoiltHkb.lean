/- A function that was walked by hand: with more rounds it tells the same. -/
import Derived.Test.YtkcocomehhlpmaaDoorFnSpoiltSp6
namespace Go.Proofs.YtkcocomehhlpmaaDoor.Sp
open Go.RowKit Go.Proofs.YtkcocomehhlpmaaDoorW.PrintWords Go.Proofs.YtkcocomehhlpmaaDoorW.PrintLast Go.Proofs.YtkcocomehhlpmaaDoorW.PrintMore Go.Proofs.YtkcocomehhlpmaaDoor.Q Go.Proofs.YtkcocomehhlpmaaDoor.Pu
end Go.Proofs.YtkcocomehhlpmaaDoor.Sp
