/- The law FnExactCost, as a plain statement. -/
import Derived.Test.YtncckjibiffnaaaFnExactCostPure7
namespace Go.Proofs.Ytncckjibiffnaaa.Pu
open Go.RowKit Go.Proofs.YtncckjibiffnaaaW.PrintWords Go.Proofs.YtncckjibiffnaaaW.PrintLast Go.Proofs.Ytncckjibiffnaaa.Q
set_option linter.unusedVariables false
set_option linter.unusedSimpArgs false
theorem FnExactCost (R : List Int) (T : List S55) (N m : List Int) (hs : Small R T N) :
    ∃ c : Int, Ev (fun k => spec_Cost.f k R (T.map cv) N m) c ∧ Ev (fun k => impl_Cost.f k R (T.map cv) N m) c := by
  have hT : (T.map cv).length ≤ 1048576 := by simpa using hs.hT
  exact ⟨costD R (T.map cv) N m, specCost_tells hs.hR hT hs.hN m, implCost_tells hs.hR hT hs.hN m⟩
end Go.Proofs.Ytncckjibiffnaaa.Pu
