/- The specification's search: what it changes, what it knows. -/
import Derived.Test.YtpbclogjoangfaaFnJustSp2
namespace Go.Proofs.Ytpbclogjoangfaa.Sp
open Go.RowKit Go.Proofs.YtpbclogjoangfaaW.PrintWords Go.Proofs.YtpbclogjoangfaaW.PrintLast Go.Proofs.YtpbclogjoangfaaW.PrintMore Go.Proofs.Ytpbclogjoangfaa.Q Go.Proofs.Ytpbclogjoangfaa.Pu Go.Proofs.Ytpbclogjoangfaa.Sr
set_option linter.unusedVariables false
set_option linter.unusedSimpArgs false
section
variable {gc gm : Nat} {W W' W2 : World}
end
section
variable {α : Type} {d : Kd α} {gc gm : Nat} {W W' : World} {A : Option Addr} {n c : Nat} {xs : List α}
end
section
variable {w0 W W' : World} {gt gc gm M : Nat} {vp vn : Value} {cc cm : Nat} {T : List S35} {N : List Int} {Cs : List Int} {Ms : List Bool}
end
end Go.Proofs.Ytpbclogjoangfaa.Sp
