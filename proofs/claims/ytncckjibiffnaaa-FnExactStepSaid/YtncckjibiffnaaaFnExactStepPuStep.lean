/- The law FnExactStep, as a plain statement. -/
import Derived.Test.YtncckjibiffnaaaFnExactStepPure6
import Derived.Test.YtncckjibiffnaaaFnExactStepQ7
import Derived.Test.YtncckjibiffnaaaFnExactStepQ8
namespace Go.Proofs.Ytncckjibiffnaaa.Pu
open Go.RowKit Go.Proofs.YtncckjibiffnaaaW.PrintWords Go.Proofs.YtncckjibiffnaaaW.PrintLast Go.Proofs.Ytncckjibiffnaaa.Q
set_option linter.unusedVariables false
set_option linter.unusedSimpArgs false
/-- The state behind a step that was asked for by number; nothing when it can't be made. -/
def stD (R : List Int) (T : List S49) (N : List Int) (a : Int) : List Int × (List S49) × List Int :=
  if okS R T N = 0 then (if findD N a < 0 then ([], [], []) else if canB R T (findD N a).toNat = true then stepD R T N (findD N a).toNat else ([], [], [])) else ([], [], [])
section
variable {R : List Int} {T : List S49} {N : List Int}
theorem specStep_tells (hR : R.length ≤ 1048576) (hT : T.length ≤ 1048576) (hN : N.length ≤ 1048576) (a : Int) : Ev (fun k => spec_Step.f k R T N a) (stD R T N a) := by
  unfold spec_Step.f stD
  refine Ev.bind (specStateOk_tells R T N hR hT hN) ?_
  by_cases c : okS R T N = 0
  · have hr := ((right_iff R T N).1 c).wf
    have hn := hr.n1
    simp only [if_pos c]
    refine Ev.bind (name_tells R T hN a) ?_
    rcases findD_tells N a with f | ⟨j, f, hj, _⟩
    · rw [f]; exact Ev.eq (Ev.now _) (by simp)
    · rw [f]
      simp only [show ¬ ((j : Int) < 0) by omega, if_false, Int.toNat_natCast]
      refine Ev.bind (l1can_tells hr j (by omega)) ?_
      by_cases d : canB R T j = true
      · simp only [d, if_true]
        exact Ev.bind (l1step_tells hr j (by omega)) (Ev.now _)
      · simp only [if_neg d]; exact Ev.now _
  · simp only [if_neg c]; exact Ev.now _
theorem implStep_tells (hR : R.length ≤ 1048576) (hT : T.length ≤ 1048576) (hN : N.length ≤ 1048576) (a : Int) : Ev (fun k => impl_Step.f k R T N a) (stD R T N a) := by
  unfold impl_Step.f stD
  refine Ev.bind (implStateOk_tells R T N hR hT hN) ?_
  by_cases c : okS R T N = 0
  · have hr := ((right_iff R T N).1 c).wf
    have hn := hr.n1
    simp only [if_pos c]
    refine Ev.bind (find_tells R T hN a) ?_
    rcases findD_tells N a with f | ⟨j, f, hj, _⟩
    · rw [f]; exact Ev.eq (Ev.now _) (by simp)
    · rw [f]
      simp only [show ¬ ((j : Int) < 0) by omega, if_false, Int.toNat_natCast]
      refine Ev.bind (can_tells hr j (by omega)) ?_
      by_cases d : canB R T j = true
      · simp only [d, if_true]
        exact Ev.bind (step_tells hr j (by omega)) (Ev.now _)
      · simp only [if_neg d]; exact Ev.now _
  · simp only [if_neg c]; exact Ev.now _
theorem stD_small (a : Int) : (stD R T N a).1.length ≤ 1048576 ∧ (stD R T N a).2.1.length ≤ 1048576 ∧ (stD R T N a).2.2.length ≤ 1048576 ∧ ∀ t ∈ (stD R T N a).2.1, t.f1.length ≤ 1048576 := by
  have hz : (([], [], []) : List Int × (List S49) × List Int).1.length ≤ 1048576 ∧ (([], [], []) : List Int × (List S49) × List Int).2.1.length ≤ 1048576 ∧ (([], [], []) : List Int × (List S49) × List Int).2.2.length ≤ 1048576 ∧ ∀ t ∈ (([], [], []) : List Int × (List S49) × List Int).2.1, t.f1.length ≤ 1048576 := by simp
  unfold stD
  by_cases c : okS R T N = 0
  · have hr := ((right_iff R T N).1 c).wf
    have hn := hr.n1
    rw [if_pos c]
    rcases findD_tells N a with f | ⟨j, f, hj, _⟩
    · rw [f, if_pos (by omega)]; exact hz
    · rw [f, if_neg (by omega), Int.toNat_natCast]
      by_cases d : canB R T j = true
      · rw [if_pos d]; exact (hr.step j (by omega)).small
      · rw [if_neg d]; exact hz
  · rw [if_neg c]; exact hz
end
theorem FnExactStep (R : List Int) (T : List S55) (N : List Int) (a : Int) (hs : Small R T N) :
    ∃ (mR : List Int) (mT : List S49) (mN : List Int), mR.length ≤ 1048576 ∧ mT.length ≤ 1048576 ∧ mN.length ≤ 1048576 ∧ (∀ t ∈ mT, t.f1.length ≤ 1048576) ∧ Ev (fun k => spec_Step.f k R (T.map cv) N a) (mR, mT, mN) ∧ Ev (fun k => impl_Step.f k R (T.map cv) N a) (mR, mT, mN) := by
  have hT : (T.map cv).length ≤ 1048576 := by simpa using hs.hT
  obtain ⟨h1, h2, h3, h4⟩ := stD_small (R := R) (T := T.map cv) (N := N) a
  exact ⟨_, _, _, h1, h2, h3, h4, specStep_tells hs.hR hT hs.hN a, implStep_tells hs.hR hT hs.hN a⟩
end Go.Proofs.Ytncckjibiffnaaa.Pu
