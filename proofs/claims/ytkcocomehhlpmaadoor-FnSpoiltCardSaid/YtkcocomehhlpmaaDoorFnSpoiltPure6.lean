/- Plain laws: a step, and what the moves cost. No program in sight. -/
import Derived.Test.YtkcocomehhlpmaaDoorFnSpoiltPure5
import Derived.Test.YtkcocomehhlpmaaDoorFnSpoiltQ7
import Derived.Test.YtkcocomehhlpmaaDoorFnSpoiltQ2
import Derived.Test.YtkcocomehhlpmaaDoorFnSpoiltQ8
namespace Go.Proofs.YtkcocomehhlpmaaDoor.Pu
open Go.RowKit Go.Proofs.YtkcocomehhlpmaaDoorW.PrintWords Go.Proofs.YtkcocomehhlpmaaDoorW.PrintLast Go.Proofs.YtkcocomehhlpmaaDoor.Q
set_option linter.unusedVariables false
set_option linter.unusedSimpArgs false

/-- A step of train i. -/
def stepD (R : List Int) (T : List S48) (N : List Int) (i : Nat) : List Int × (List S48) × List Int :=
 match (T.getD i z48).f1 with
 | [] => (R, T.eraseIdx i, N.eraseIdx i)
 | x :: p => (R, T.set i ⟨x, p, (T.getD i z48).f2⟩, N)
/-- The weight of all. -/
def wgt : List S48 → Int
 | [] => 0
 | t :: T => t.f2 + wgt T
theorem take_snoc {T : List S48} {i : Nat} (hi : i < T.length) : T.take i ++ [⟨(T.getD i z48).f0, (T.getD i z48).f1, (T.getD i z48).f2⟩] = T.take (i + 1) := by
 rw [List.take_succ_eq_append_getElem hi, List.getD_eq_getElem?_getD, List.getElem?_eq_getElem hi]
 rfl
section
variable {R : List Int} {T : List S48} {N : List Int}
theorem l1copy_loop (R N : List Int) (hT : T.length ≤ 1048576) (hp : ∀ t ∈ T, t.f1.length ≤ 1048576) : ∀ (d i : Nat), i + d = T.length →
  Ev (fun k => spec_l1copy.l0 k T (T.length : Int) (i : Int) R (T.take i) N) (R, T, N)
 | 0, i, h => by
  refine Ev.one (fun k => ?_)
  simp only [spec_l1copy.l0]; rw [if_neg (by omega), List.take_of_length_le (by omega)]
 | d + 1, i, h => by
  have hi : i < T.length := by omega
  have h1 := hp _ (getD_mem z48 hi)
  refine Ev.step (fun k => ?_) (l1copy_loop R N hT hp d (i + 1) (by omega))
  simp only [spec_l1copy.l0]
  rw [if_pos (by omega), if_pos (by omega), if_pos (by omega), wsucc hi (by omega)]
  simp only [rd_T, Option.bind_some, List.nil_append]
  rw [if_pos (by simp only [List.length_nil]; omega), if_pos (by simp only [List.length_take]; omega), take_snoc hi]
theorem l1copy_tells (hR : R.length ≤ 1048576) (hT : T.length ≤ 1048576) (hN : N.length ≤ 1048576) (hp : ∀ t ∈ T, t.f1.length ≤ 1048576) : Ev (fun k => spec_l1copy.f k R T N) (R, T, N) := by
 refine Ev.congr (fun k => ?_) (l1copy_loop R N hT hp T.length 0 (by omega))
 unfold spec_l1copy.f
 rw [if_pos (by simp only [List.length_nil]; omega), if_pos (by simp only [List.length_nil]; omega)]
 simp
theorem getD_setT {T : List S48} {i : Nat} (hi : i < T.length) (x : S48) : (T.set i x).getD i z48 = x := by
 rw [List.getD_eq_getElem?_getD, List.getElem?_set_self hi]; rfl
theorem Wf.small (h : Wf R T N) : R.length ≤ 1048576 ∧ T.length ≤ 1048576 ∧ N.length ≤ 1048576 ∧ ∀ t ∈ T, t.f1.length ≤ 1048576 :=
 ⟨by have := h.r1; omega, by have := h.t1; omega, by have := h.n1; have := h.t1; omega, fun t m => by have := h.path t m; omega⟩
theorem l1step_tells (h : Wf R T N) (i : Nat) (hi : i < T.length) : Ev (fun k => spec_l1step.f k R T N (i : Int)) (stepD R T N i) := by
 obtain ⟨s1, s2, s3, s4⟩ := h.small
 have hn := h.n1
 have ht1 := h.t1
 unfold spec_l1step.f
 refine Ev.bind (l1copy_tells s1 s2 s3 s4) ?_
 simp only [show (0 : Int) ≤ (i : Int) by omega, show (i : Int) < (T.length : Int) by omega, if_true, rd_T, Int.toNat_natCast]
 unfold stepD
 cases hp : (T.getD i z48).f1 with
 | nil =>
  refine Ev.all (fun k => ?_)
  rw [if_neg (by simp), if_pos (by omega), w64 (by omega) (by omega), if_pos (by omega), if_pos (by omega), if_pos (by omega), if_pos (by omega)]
 | cons x p =>
  refine Ev.all (fun k => ?_)
  have e0 : rd (x :: p) 0 = x := rfl
  simp only [show ((x :: p).length : Int) > 0 by simp only [List.length_cons]; omega, show (0 : Int) < ((x :: p).length : Int) by simp only [List.length_cons]; omega, if_true, Option.bind_some, getD_setT hi, e0]
  rw [if_pos (by simp only [List.length_cons]; omega), List.set_set]
  rfl
theorem weight_loop (h : Wf R T N) : ∀ (d i : Nat) (x : Int), i + d = T.length → 0 ≤ x → x ≤ 100 * i →
  Ev (fun k => spec_l2weight.l0 k x T (T.length : Int) (i : Int)) (x + Pu.wgt (T.drop i))
 | 0, i, x, e, h0, h1 => by
  refine Ev.one (fun k => ?_)
  simp only [spec_l2weight.l0]; rw [if_neg (by omega), List.drop_eq_nil_of_le (by omega)]; simp [Pu.wgt]
 | d + 1, i, x, e, h0, h1 => by
  have hi : i < T.length := by omega
  have ht1 := h.t1
  have hw := h.wt _ (getD_mem z48 hi)
  refine Ev.eq (Ev.step (fun k => ?_) (weight_loop h d (i + 1) (x + (T.getD i z48).f2) (by omega) (by omega) (by omega))) ?_
  ·simp only [spec_l2weight.l0]
   rw [if_pos (by omega), if_pos (by omega), if_pos (by omega), rd_T, wsucc hi (by omega), w64 (by omega) (by omega)]
  ·rw [drop_cons z48 hi]; simp only [Pu.wgt]; omega
theorem weight_tells (h : Wf R T N) : Ev (fun k => spec_l2weight.f k R T N) (Pu.wgt T) := by
 refine Ev.eq (Ev.congr (fun k => ?_) (weight_loop h T.length 0 0 (by omega) (by omega) (by omega))) (by simp)
 unfold spec_l2weight.f
 rfl
end
end Go.Proofs.YtkcocomehhlpmaaDoor.Pu
