/- The law FnExactStuck, as a plain statement. -/
import Derived.Test.YtncckjibiffnaaaFnExactStuckPure4
import Derived.Test.YtncckjibiffnaaaFnExactStuckQ7
namespace Go.Proofs.Ytncckjibiffnaaa.Pu
open Go.RowKit Go.Proofs.YtncckjibiffnaaaW.PrintWords Go.Proofs.YtncckjibiffnaaaW.PrintLast Go.Proofs.Ytncckjibiffnaaa.Q
theorem FnExactStuck (R : List Int) (T : List S55) (N : List Int) (h : Mem R T N) : Ev (fun k => laws_FnExactStuck.f k R T N) true := by
  obtain ⟨r, e, hr⟩ := szState_tells h
  unfold laws_FnExactStuck.f
  refine Ev.bind e ?_
  rcases hr with hr | ⟨hr, hs⟩
  · exact Ev.all (fun k => by rw [if_pos hr])
  · have c : ¬ r < 0 := by omega
    have hT : (T.map cv).length ≤ 1048576 := by simpa using hs.hT
    have hR := hs.hR
    have hN := hs.hN
    simp only [if_neg c]
    refine Ev.bind (toState_tells hs) (Ev.bind (specStuck_tells hs.hR hT hs.hN) (Ev.bind (toState_tells hs) (Ev.bind (implStuck_tells hs.hR hT hs.hN) ?_)))
    simp only [bne_self_eq_false, Bool.false_eq_true, if_false]
    refine Ev.bind (toState_tells hs) (Ev.bind (eqState_tells R (T.map cv) N R (T.map cv) N (by omega) (by omega) (by omega) (Small.paths hs)) ?_)
    exact Ev.all (fun k => by simp)
end Go.Proofs.Ytncckjibiffnaaa.Pu
