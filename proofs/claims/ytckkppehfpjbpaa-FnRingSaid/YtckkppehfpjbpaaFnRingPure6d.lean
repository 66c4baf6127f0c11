/- Plain laws: a step, and what the moves cost. No program in sight. -/
import Derived.Test.YtckkppehfpjbpaaFnRingPure5
import Derived.Test.YtckkppehfpjbpaaFnRingPure3
import Derived.Test.YtckkppehfpjbpaaFnRingQ5
import Derived.Test.YtckkppehfpjbpaaFnRingQ6
import Derived.Test.YtckkppehfpjbpaaFnRingQ7
namespace Go.Proofs.Ytckkppehfpjbpaa.Pu
open Go.RowKit Go.Proofs.YtckkppehfpjbpaaW.PrintWords Go.Proofs.YtckkppehfpjbpaaW.PrintLast Go.Proofs.Ytckkppehfpjbpaa.Q
set_option linter.unusedVariables false
set_option linter.unusedSimpArgs false

/-- A step of train i. -/
def stepD (R : List Int) (T : List S40) (N : List Int) (i : Nat) : List Int × (List S40) × List Int :=
 match (T.getD i z40).f1 with
 | [] => (R, T.eraseIdx i, N.eraseIdx i)
 | x :: p => (R, T.set i ⟨x, p, (T.getD i z40).f2⟩, N)
theorem take_snoc {T : List S40} {i : Nat} (hi : i < T.length) : T.take i ++ [⟨(T.getD i z40).f0, (T.getD i z40).f1, (T.getD i z40).f2⟩] = T.take (i + 1) := by
 rw [List.take_succ_eq_append_getElem hi, List.getD_eq_getElem?_getD, List.getElem?_eq_getElem hi]
 rfl
section
variable {R : List Int} {T : List S40} {N : List Int}
theorem l1copy_loop (R N : List Int) (hT : T.length ≤ 1048576) (hp : ∀ t ∈ T, t.f1.length ≤ 1048576) : ∀ (d i : Nat), i + d = T.length →
  Ev (fun k => spec_l1copy.l0 k T (T.length : Int) (i : Int) R (T.take i) N) (R, T, N)
 | 0, i, h => by
  refine Ev.one (fun k => ?_)
  simp only [spec_l1copy.l0]; rw [if_neg (by omega), List.take_of_length_le (by omega)]
 | d + 1, i, h => by
  have hi : i < T.length := by omega
  have h1 := hp _ (getD_mem z40 hi)
  refine Ev.step (fun k => ?_) (l1copy_loop R N hT hp d (i + 1) (by omega))
  simp only [spec_l1copy.l0]
  rw [if_pos (by omega), if_pos (by omega), if_pos (by omega), wsucc hi (by omega)]
  simp only [rd_T, Option.bind_some, List.nil_append]
  rw [if_pos (by simp only [List.length_nil]; omega), if_pos (by simp only [List.length_take]; omega), take_snoc hi]
theorem l1copy_tells (hR : R.length ≤ 1048576) (hT : T.length ≤ 1048576) (hN : N.length ≤ 1048576) (hp : ∀ t ∈ T, t.f1.length ≤ 1048576) : Ev (fun k => spec_l1copy.f k R T N) (R, T, N) := by
 refine Ev.congr (fun k => ?_) (l1copy_loop R N hT hp T.length 0 (by omega))
 unfold spec_l1copy.f
 rw [if_pos (by simp only [List.length_nil]; omega), if_pos (by simp only [List.length_nil]; omega)]
 simp
theorem getD_setT {T : List S40} {i : Nat} (hi : i < T.length) (x : S40) : (T.set i x).getD i z40 = x := by
 rw [List.getD_eq_getElem?_getD, List.getElem?_set_self hi]; rfl
theorem Wf.small (h : Wf R T N) : R.length ≤ 1048576 ∧ T.length ≤ 1048576 ∧ N.length ≤ 1048576 ∧ ∀ t ∈ T, t.f1.length ≤ 1048576 :=
 ⟨by have := h.r1; omega, by have := h.t1; omega, by have := h.n1; have := h.t1; omega, fun t m => by have := h.path t m; omega⟩
theorem l1step_tells (h : Wf R T N) (i : Nat) (hi : i < T.length) : Ev (fun k => spec_l1step.f k R T N (i : Int)) (stepD R T N i) := by
 obtain ⟨s1, s2, s3, s4⟩ := h.small
 have hn := h.n1
 have ht1 := h.t1
 unfold spec_l1step.f
 refine Ev.bind (l1copy_tells s1 s2 s3 s4) ?_
 simp only [show (0 : Int) ≤ (i : Int) by omega, show (i : Int) < (T.length : Int) by omega, if_true, rd_T, Int.toNat_natCast]
 unfold stepD
 cases hp : (T.getD i z40).f1 with
 | nil =>
  refine Ev.all (fun k => ?_)
  rw [if_neg (by simp), if_pos (by omega), w64 (by omega) (by omega), if_pos (by omega), if_pos (by omega), if_pos (by omega), if_pos (by omega)]
 | cons x p =>
  refine Ev.all (fun k => ?_)
  have e0 : rd (x :: p) 0 = x := rfl
  simp only [show ((x :: p).length : Int) > 0 by simp only [List.length_cons]; omega, show (0 : Int) < ((x :: p).length : Int) by simp only [List.length_cons]; omega, if_true, Option.bind_some, getD_setT hi, e0]
  rw [if_pos (by simp only [List.length_cons]; omega), List.set_set]
  rfl
theorem Wf.step (h : Wf R T N) (i : Nat) (hi : i < T.length) : Wf (stepD R T N i).1 (stepD R T N i).2.1 (stepD R T N i).2.2 := by
 have hn := h.n1
 have ht1 := h.t1
 have hm := getD_mem z40 hi
 unfold stepD
 cases hp : (T.getD i z40).f1 with
 | nil =>
  have hs : ∀ t, t ∈ T.eraseIdx i → t ∈ T := fun t m => List.mem_of_mem_eraseIdx m
  exact ⟨h.r1, by simp only [List.length_eraseIdx]; split <;> omega, by simp only [List.length_eraseIdx, hn], h.room, fun t m => h.at_ t (hs t m), fun t m => h.path t (hs t m), fun t m => h.on t (hs t m), fun t m => h.wt t (hs t m)⟩
 | cons x p =>
  have hon := h.on _ hm
  have hpa := h.path _ hm
  rw [hp] at hon hpa
  have hs : ∀ t, t ∈ T.set i ⟨x, p, (T.getD i z40).f2⟩ → t ∈ T ∨ t = ⟨x, p, (T.getD i z40).f2⟩ := fun t m => List.mem_or_eq_of_mem_set m
  refine ⟨h.r1, by simpa using ht1, by simpa using hn, h.room, fun t m => ?_, fun t m => ?_, fun t m => ?_, fun t m => ?_⟩
  ·rcases hs t m with m | rfl
   ·exact h.at_ t m
   ·exact hon x (by simp)
  ·rcases hs t m with m | rfl
   ·exact h.path t m
   ·simp only [List.length_cons] at hpa; show p.length ≤ 8; omega
  ·rcases hs t m with m | rfl
   ·exact h.on t m
   ·exact fun y hy => hon y (List.mem_cons_of_mem _ hy)
  ·rcases hs t m with m | rfl
   ·exact h.wt t m
   ·exact h.wt (T.getD i z40) hm
end
/-- The state behind a step that was asked for by number; nothing when it can't be made. -/
def stD (R : List Int) (T : List S40) (N : List Int) (a : Int) : List Int × (List S40) × List Int :=
 if okS R T N = 0 then (if findD N a < 0 then ([], [], []) else if canB R T (findD N a).toNat = true then stepD R T N (findD N a).toNat else ([], [], [])) else ([], [], [])
section
variable {R : List Int} {T : List S40} {N : List Int}
theorem specStep_tells (hR : R.length ≤ 1048576) (hT : T.length ≤ 1048576) (hN : N.length ≤ 1048576) (a : Int) : Ev (fun k => spec_Step.f k R T N a) (stD R T N a) := by
 unfold spec_Step.f stD
 refine Ev.bind (specStateOk_tells R T N hR hT hN) ?_
 by_cases c : okS R T N = 0
 ·have hr := ((right_iff R T N).1 c).wf
  have hn := hr.n1
  simp only [if_pos c]
  refine Ev.bind (name_tells R T hN a) ?_
  rcases findD_tells N a with f | ⟨j, f, hj, _⟩
  ·rw [f]; exact Ev.eq (Ev.now _) (by simp)
  ·rw [f]
   simp only [show ¬ ((j : Int) < 0) by omega, if_false, Int.toNat_natCast]
   refine Ev.bind (l1can_tells hr j (by omega)) ?_
   by_cases d : canB R T j = true
   ·simp only [d, if_true]
    exact Ev.bind (l1step_tells hr j (by omega)) (Ev.now _)
   ·simp only [if_neg d]; exact Ev.now _
 ·simp only [if_neg c]; exact Ev.now _
end
end Go.Proofs.Ytckkppehfpjbpaa.Pu
