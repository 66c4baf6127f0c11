/- The law FnExactFree, as a plain statement. -/
import Derived.Test.YtncckjibiffnaaaFnExactFreePure3
import Derived.Test.YtncckjibiffnaaaFnExactFreeQ6
namespace Go.Proofs.Ytncckjibiffnaaa.Pu
open Go.RowKit Go.Proofs.YtncckjibiffnaaaW.PrintWords Go.Proofs.YtncckjibiffnaaaW.PrintLast Go.Proofs.Ytncckjibiffnaaa.Q
set_option linter.unusedVariables false
set_option linter.unusedSimpArgs false
def freeD (R : List Int) (T : List S49) (N : List Int) (a : Int) : Int := if okS R T N = 0 ∧ 0 ≤ a ∧ a < (R.length : Int) then R.getD a.toNat 0 - (cnt T a : Int) else -1
section
variable {R : List Int} {T : List S49} {N : List Int}
theorem specFree_tells (hR : R.length ≤ 1048576) (hT : T.length ≤ 1048576) (hN : N.length ≤ 1048576) (a : Int) : Ev (fun k => spec_Free.f k R T N a) (freeD R T N a) := by
  unfold spec_Free.f freeD
  refine Ev.bind (specStateOk_tells R T N hR hT hN) ?_
  by_cases c : okS R T N = 0
  · have hr := (right_iff R T N).1 c
    have h0 := hr.r0
    simp only [if_pos c, w64 (x := (R.length : Int) - 1) (by omega) (by omega), l1in_tells, Option.bind_some]
    by_cases d : 0 ≤ a ∧ a ≤ (R.length : Int) - 1
    · simp only [show decide (0 ≤ a ∧ a ≤ (R.length : Int) - 1) = true from decide_eq_true d, if_true, if_pos d.1, if_pos (show a < (R.length : Int) by omega)]
      have hb := room_at hr.wf d.1 (by omega)
      have hc := cnt_le T a
      refine Ev.bind (there_tells R T N a hT) (Ev.eq (Ev.now _) ?_)
      rw [if_pos ⟨c, d.1, by omega⟩, rd_N _ d.1, w64 (by omega) (by omega)]
    · simp only [show decide (0 ≤ a ∧ a ≤ (R.length : Int) - 1) = false from decide_eq_false d, Bool.false_eq_true, if_false]
      exact Ev.eq (Ev.now _) (by rw [if_neg (by omega)])
  · simp only [if_neg c]
    exact Ev.eq (Ev.now _) (by rw [if_neg (by intro h; exact c h.1)])
theorem implFree_tells (hR : R.length ≤ 1048576) (hT : T.length ≤ 1048576) (hN : N.length ≤ 1048576) (a : Int) : Ev (fun k => impl_Free.f k R T N a) (freeD R T N a) := by
  unfold impl_Free.f freeD
  refine Ev.bind (implStateOk_tells R T N hR hT hN) ?_
  by_cases c : okS R T N = 0
  · have hr := (right_iff R T N).1 c
    simp only [if_pos c]
    by_cases d1 : a < 0
    · simp only [if_pos d1]
      exact Ev.eq (Ev.now _) (by rw [if_neg (by omega)])
    · simp only [if_neg d1]
      by_cases d2 : a ≥ (R.length : Int)
      · simp only [if_pos d2]
        exact Ev.eq (Ev.now _) (by rw [if_neg (by omega)])
      · simp only [if_neg d2]
        refine Ev.bind (free_tells hr.wf a (by omega) (by omega)) (Ev.eq (Ev.now _) ?_)
        rw [if_pos ⟨c, by omega, by omega⟩]
  · simp only [if_neg c]
    exact Ev.eq (Ev.now _) (by rw [if_neg (by intro h; exact c h.1)])
end
theorem FnExactFree (R : List Int) (T : List S55) (N : List Int) (a : Int) (h : Mem R T N) : Ev (fun k => laws_FnExactFree.f k R T N a) true := by
  obtain ⟨r, e, hr⟩ := szState_tells h
  unfold laws_FnExactFree.f
  refine Ev.bind e ?_
  rcases hr with hr | ⟨hr, hs⟩
  · exact Ev.all (fun k => by rw [if_pos hr])
  · have c : ¬ r < 0 := by omega
    have hT : (T.map cv).length ≤ 1048576 := by simpa using hs.hT
    have hR := hs.hR
    have hN := hs.hN
    simp only [if_neg c]
    refine Ev.bind (toState_tells hs) (Ev.bind (specFree_tells hs.hR hT hs.hN a) (Ev.bind (toState_tells hs) (Ev.bind (implFree_tells hs.hR hT hs.hN a) ?_)))
    simp only [if_true]
    refine Ev.bind (toState_tells hs) (Ev.bind (eqState_tells R (T.map cv) N R (T.map cv) N (by omega) (by omega) (by omega) (Small.paths hs)) ?_)
    exact Ev.all (fun k => by simp)
end Go.Proofs.Ytncckjibiffnaaa.Pu
