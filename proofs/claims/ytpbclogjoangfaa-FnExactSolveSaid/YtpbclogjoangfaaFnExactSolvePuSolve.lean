/- The law FnExactSolve, as a plain statement. -/
import Derived.Test.YtpbclogjoangfaaFnExactSolveSo2
import Derived.Test.YtpbclogjoangfaaFnExactSolveSo4
namespace Go.Proofs.Ytpbclogjoangfaa.Pu
open Go.RowKit Go.Proofs.YtpbclogjoangfaaW.PrintWords Go.Proofs.YtpbclogjoangfaaW.PrintLast Go.Proofs.Ytpbclogjoangfaa.Q Go.Proofs.Ytpbclogjoangfaa.So
set_option linter.unusedVariables false
set_option linter.unusedSimpArgs false
theorem solveD_len (R : List Int) (T : List S35) (N : List Int) : (solveD R T N).2.2.length ≤ 1048576 := by
 unfold solveD
 split
 ·rename_i h
  split
  ·simp
  ·have := pthP_len ((right_iff R T N).1 h).wf Al.zv
   simp only [List.length_map]
   omega
 ·simp
theorem FnExactSolve (R : List Int) (T : List S95) (N : List Int) (hs : Small R T N) :
  ∃ (b : Bool) (c : Int) (m : List Int), m.length ≤ 1048576 ∧ Ev (fun k => spec_Solve.f k R (T.map cv) N) (b, c, m) ∧ Ev (fun k => impl_Solve.f k R (T.map cv) N) (b, c, m) := by
 have hT : (T.map cv).length ≤ 1048576 := by simpa using hs.hT
 exact ⟨(solveD R (T.map cv) N).1, (solveD R (T.map cv) N).2.1, (solveD R (T.map cv) N).2.2, solveD_len _ _ _, specSolve_tells hs.hR hT hs.hN, implSolve_tells hs.hR hT hs.hN⟩
end Go.Proofs.Ytpbclogjoangfaa.Pu
