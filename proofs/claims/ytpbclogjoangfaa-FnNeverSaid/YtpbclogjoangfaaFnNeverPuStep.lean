/- The law FnExactStep, as a plain statement. -/
import Derived.Test.YtpbclogjoangfaaFnNeverPure6
import Derived.Test.YtpbclogjoangfaaFnNeverQ6
import Derived.Test.YtpbclogjoangfaaFnNeverQ7
import Derived.Test.YtpbclogjoangfaaFnNeverQ8
namespace Go.Proofs.Ytpbclogjoangfaa.Pu
open Go.RowKit Go.Proofs.YtpbclogjoangfaaW.PrintWords Go.Proofs.YtpbclogjoangfaaW.PrintLast Go.Proofs.Ytpbclogjoangfaa.Q
set_option linter.unusedVariables false
set_option linter.unusedSimpArgs false
/-- The state behind a step that was asked for by number; nothing when it can't be made. -/
def stD (R : List Int) (T : List S35) (N : List Int) (a : Int) : List Int × (List S35) × List Int :=
 if okS R T N = 0 then (if findD N a < 0 then ([], [], []) else if canB R T (findD N a).toNat = true then stepD R T N (findD N a).toNat else ([], [], [])) else ([], [], [])
section
variable {R : List Int} {T : List S35} {N : List Int}
theorem specStep_tells (hR : R.length ≤ 1048576) (hT : T.length ≤ 1048576) (hN : N.length ≤ 1048576) (a : Int) : Ev (fun k => spec_Step.f k R T N a) (stD R T N a) := by
 unfold spec_Step.f stD
 refine Ev.bind (specStateOk_tells R T N hR hT hN) ?_
 by_cases c : okS R T N = 0
 ·have hr := ((right_iff R T N).1 c).wf
  have hn := hr.n1
  simp only [if_pos c]
  refine Ev.bind (name_tells R T hN a) ?_
  rcases findD_tells N a with f | ⟨j, f, hj, _⟩
  ·rw [f]; exact Ev.eq (Ev.now _) (by simp)
  ·rw [f]
   simp only [show ¬ ((j : Int) < 0) by omega, if_false, Int.toNat_natCast]
   refine Ev.bind (l1can_tells hr j (by omega)) ?_
   by_cases d : canB R T j = true
   ·simp only [d, if_true]
    exact Ev.bind (l1step_tells hr j (by omega)) (Ev.now _)
   ·simp only [if_neg d]; exact Ev.now _
 ·simp only [if_neg c]; exact Ev.now _
theorem implStep_tells (hR : R.length ≤ 1048576) (hT : T.length ≤ 1048576) (hN : N.length ≤ 1048576) (a : Int) : Ev (fun k => impl_Step.f k R T N a) (stD R T N a) := by
 unfold impl_Step.f stD
 refine Ev.bind (implStateOk_tells R T N hR hT hN) ?_
 by_cases c : okS R T N = 0
 ·have hr := ((right_iff R T N).1 c).wf
  have hn := hr.n1
  simp only [if_pos c]
  refine Ev.bind (find_tells R T hN a) ?_
  rcases findD_tells N a with f | ⟨j, f, hj, _⟩
  ·rw [f]; exact Ev.eq (Ev.now _) (by simp)
  ·rw [f]
   simp only [show ¬ ((j : Int) < 0) by omega, if_false, Int.toNat_natCast]
   refine Ev.bind (can_tells hr j (by omega)) ?_
   by_cases d : canB R T j = true
   ·simp only [d, if_true]
    exact Ev.bind (step_tells hr j (by omega)) (Ev.now _)
   ·simp only [if_neg d]; exact Ev.now _
 ·simp only [if_neg c]; exact Ev.now _
end
end Go.Proofs.Ytpbclogjoangfaa.Pu
