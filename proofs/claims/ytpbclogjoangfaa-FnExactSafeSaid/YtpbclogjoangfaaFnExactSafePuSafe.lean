/- The law FnExactSafe, as a plain statement. -/
import Derived.Test.YtpbclogjoangfaaFnExactSafeSr8
import Derived.Test.YtpbclogjoangfaaFnExactSafeSp6
namespace Go.Proofs.Ytpbclogjoangfaa.Pu
open Go.RowKit Go.Proofs.YtpbclogjoangfaaW.PrintWords Go.Proofs.YtpbclogjoangfaaW.PrintLast Go.Proofs.Ytpbclogjoangfaa.Q Go.Proofs.Ytpbclogjoangfaa.Sr Go.Proofs.Ytpbclogjoangfaa.Sp
set_option linter.unusedVariables false
set_option linter.unusedSimpArgs false
theorem FnExactSafe (R : List Int) (T : List S95) (N : List Int) (hs : Small R T N) :
    ∃ c : Bool, Ev (fun k => spec_Safe.f k R (T.map cv) N) c ∧ Ev (fun k => impl_Safe.f k R (T.map cv) N) c := by
  have hT : (T.map cv).length ≤ 1048576 := by simpa using hs.hT
  exact ⟨_, specSafe_tells hs.hR hT hs.hN, implSafe_tells hs.hR hT hs.hN⟩
end Go.Proofs.Ytpbclogjoangfaa.Pu
