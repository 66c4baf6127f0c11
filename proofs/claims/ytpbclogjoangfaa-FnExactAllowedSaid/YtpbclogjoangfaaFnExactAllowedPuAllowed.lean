/- The law FnExactAllowed, as a plain statement. -/
import Derived.Test.YtpbclogjoangfaaFnExactAllowedAl1
import Derived.Test.YtpbclogjoangfaaFnExactAllowedAl2
namespace Go.Proofs.Ytpbclogjoangfaa.Pu
open Go.RowKit Go.Proofs.YtpbclogjoangfaaW.PrintWords Go.Proofs.YtpbclogjoangfaaW.PrintLast Go.Proofs.Ytpbclogjoangfaa.Q Go.Proofs.Ytpbclogjoangfaa.Al
set_option linter.unusedVariables false
set_option linter.unusedSimpArgs false
theorem allowedD_len (R : List Int) (T : List S35) (N : List Int) (hT : T.length ≤ 1048576) : (allowedD R T N).length ≤ 1048576 := by
  unfold allowedD
  split
  · have := alD_len R T N T.length; omega
  · simp
theorem FnExactAllowed (R : List Int) (T : List S95) (N : List Int) (hs : Small R T N) :
    ∃ m : List Int, m.length ≤ 1048576 ∧ Ev (fun k => spec_Allowed.f k R (T.map cv) N) m ∧ Ev (fun k => impl_Allowed.f k R (T.map cv) N) m := by
  have hT : (T.map cv).length ≤ 1048576 := by simpa using hs.hT
  exact ⟨_, allowedD_len _ _ _ hT, specAllowed_tells hs.hR hT hs.hN, implAllowed_tells hs.hR hT hs.hN⟩
end Go.Proofs.Ytpbclogjoangfaa.Pu
