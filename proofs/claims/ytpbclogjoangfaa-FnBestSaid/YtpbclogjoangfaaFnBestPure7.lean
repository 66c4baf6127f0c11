/- Plain laws: what the moves cost. No program in sight. -/
import Derived.Test.YtpbclogjoangfaaFnBestPure6
import Derived.Test.YtpbclogjoangfaaFnBestQ7
namespace Go.Proofs.Ytpbclogjoangfaa.Pu
open Go.RowKit Go.Proofs.YtpbclogjoangfaaW.PrintWords Go.Proofs.YtpbclogjoangfaaW.PrintLast Go.Proofs.Ytpbclogjoangfaa.Q
set_option linter.unusedVariables false
set_option linter.unusedSimpArgs false
/-- What the moves cost from a state, with what they cost before it. -/
def costF (x : Int) : List Int → List Int → List S35 → List Int → Int
 | [], _, T, _ => if T.length = 0 then x else -1
 | a :: m, R, T, N => if findD N a < 0 then -1 else if canB R T (findD N a).toNat = true then costF (x + wgt T) m (stepD R T N (findD N a).toNat).1 (stepD R T N (findD N a).toNat).2.1 (stepD R T N (findD N a).toNat).2.2 else -1
def costD (R : List Int) (T : List S35) (N m : List Int) : Int := if okS R T N = 0 ∧ m.length ≤ 45 then costF 0 m R T N else -1
section
theorem specCost_loop (m : List Int) (hm : m.length ≤ 45) : ∀ (d i : Nat) (x : Int) (R : List Int) (T : List S35) (N : List Int), Wf R T N → i + d = m.length → 0 ≤ x → x ≤ 500 * i →
  Ev (fun k => spec_Cost.l0 k x m (m.length : Int) (i : Int) R T N) (costF x (m.drop i) R T N)
 | 0, i, x, R, T, N, h, e, h0, h1 => by
  refine Ev.one (fun k => ?_)
  simp only [spec_Cost.l0]
  rw [if_neg (by omega), List.drop_eq_nil_of_le (by omega)]
  simp only [costF]
  by_cases c : T.length = 0
  ·rw [if_pos c, if_neg (by omega)]
  ·rw [if_neg c, if_pos (by omega)]
 | d + 1, i, x, R, T, N, h, e, h0, h1 => by
  have hi : i < m.length := by omega
  have hn := h.n1
  rw [drop_cons 0 hi]
  simp only [costF]
  have e1 := name_tells R T (N := N) (h.small).2.2.1 (m.getD i 0)
  rcases findD_tells N (m.getD i 0) with f | ⟨j, f, hj, _⟩
  ·rw [f] at e1 ⊢
   refine Ev.eq (Ev.step (f := fun k => (spec_l1name.f k R T N (m.getD i 0)).bind fun t => if t < 0 then spec_Cost.j2 k x t m (m.length : Int) (i : Int) true R T N else (spec_l1can.f k R T N t).bind fun t' => spec_Cost.j2 k x t m (m.length : Int) (i : Int) (!t') R T N) (fun k => ?_) (Ev.bind e1 (r := -1) ?_)) (by rw [if_pos (by omega)])
   ·simp only [spec_Cost.l0]
    rw [if_pos (by omega), if_pos (by omega), if_pos (by omega), rd_I]
   ·simp only [show (-1 : Int) < 0 by omega, if_true]
    exact Ev.one (fun k => by simp only [spec_Cost.j2]; first | rw [if_pos rfl] | rw [if_pos trivial])
  ·rw [f] at e1 ⊢
   have ec := l1can_tells h j (by omega)
   simp only [Int.toNat_natCast, show ¬ ((j : Int) < 0) by omega, if_false]
   refine Ev.step (f := fun k => (spec_l1name.f k R T N (m.getD i 0)).bind fun t => if t < 0 then spec_Cost.j2 k x t m (m.length : Int) (i : Int) true R T N else (spec_l1can.f k R T N t).bind fun t' => spec_Cost.j2 k x t m (m.length : Int) (i : Int) (!t') R T N) (fun k => ?_) (Ev.bind e1 ?_)
   ·simp only [spec_Cost.l0]
    rw [if_pos (by omega), if_pos (by omega), if_pos (by omega), rd_I]
   ·simp only [show ¬ ((j : Int) < 0) by omega, if_false]
    refine Ev.bind ec ?_
    have hw := h.wgt
    by_cases c : canB R T j = true
    ·simp only [c, if_true, Bool.not_true]
     refine Ev.step (f := fun k => (spec_l2weight.f k R T N).bind fun t => (spec_l1step.f k R T N (j : Int)).bind fun s => spec_Cost.l0 k (wrap64 (x + t)) m (m.length : Int) ((i + 1 : Nat) : Int) s.1 s.2.1 s.2.2) (fun k => ?_) (Ev.bind (weight_tells h) (Ev.bind (l1step_tells h j (by omega)) ?_))
     ·simp only [spec_Cost.j2]
      rw [if_neg (by decide), wsucc hi (by omega)]
     ·rw [w64 (by omega) (by omega)]
      exact specCost_loop m hm d (i + 1) _ _ _ _ (h.step j (by omega)) (by omega) (by omega) (by omega)
    ·rw [if_neg c]
     simp only [Bool.not_eq_true] at c
     simp only [c, Bool.not_false]
     exact Ev.one (fun k => by simp only [spec_Cost.j2]; first | rw [if_pos rfl] | rw [if_pos trivial])
theorem implCost_inner {m : List Int} {i j : Nat} {R : List Int} {T : List S35} {N : List Int} (h : Wf R T N) (hj : j < T.length) (hi : i < m.length) (hm : m.length ≤ 45) {r : Int} : ∀ (d q : Nat) (x : Int), q + d = T.length → 0 ≤ x → x ≤ 500 * i + 100 * q →
  Ev (fun k => impl_Cost.l0 k (x + wgt (T.drop q)) m (m.length : Int) ((i + 1 : Nat) : Int) (stepD R T N j).1 (stepD R T N j).2.1 (stepD R T N j).2.2) r →
  Ev (fun k => impl_Cost.l1 k x (j : Int) m (m.length : Int) (i : Int) T (T.length : Int) (q : Int) R T N) r
 | 0, q, x, e, h0, h1, hr => by
  rw [List.drop_eq_nil_of_le (by omega)] at hr
  simp only [wgt, Int.add_zero] at hr
  refine Ev.step (f := fun k => (impl_step.f k R T N (j : Int)).bind fun s => impl_Cost.l0 k x m (m.length : Int) ((i + 1 : Nat) : Int) s.1 s.2.1 s.2.2) (fun k => ?_) (Ev.bind (step_tells h j hj) hr)
  simp only [impl_Cost.l1]
  rw [if_neg (by omega), wsucc hi (by omega)]
 | d + 1, q, x, e, h0, h1, hr => by
  have hq : q < T.length := by omega
  have ht1 := h.t1
  have hw := h.wt _ (getD_mem z35 hq)
  rw [drop_cons z35 hq] at hr
  simp only [wgt] at hr
  refine Ev.step (fun k => ?_) (implCost_inner h hj hi hm d (q + 1) (x + (T.getD q z35).f2) (by omega) (by omega) (by omega) ?_)
  ·simp only [impl_Cost.l1]
   rw [if_pos (by omega), if_pos (by omega), if_pos (by omega), rd_T, wsucc hq (by omega), w64 (by omega) (by omega)]
  ·rw [Int.add_assoc]; exact hr
theorem implCost_loop (m : List Int) (hm : m.length ≤ 45) : ∀ (d i : Nat) (x : Int) (R : List Int) (T : List S35) (N : List Int), Wf R T N → i + d = m.length → 0 ≤ x → x ≤ 500 * i →
  Ev (fun k => impl_Cost.l0 k x m (m.length : Int) (i : Int) R T N) (costF x (m.drop i) R T N)
 | 0, i, x, R, T, N, h, e, h0, h1 => by
  refine Ev.one (fun k => ?_)
  simp only [impl_Cost.l0]
  rw [if_neg (by omega), List.drop_eq_nil_of_le (by omega)]
  simp only [costF]
  by_cases c : T.length = 0
  ·rw [if_pos c, if_neg (by omega)]
  ·rw [if_neg c, if_pos (by omega)]
 | d + 1, i, x, R, T, N, h, e, h0, h1 => by
  have hi : i < m.length := by omega
  have hn := h.n1
  rw [drop_cons 0 hi]
  simp only [costF]
  have e1 := find_tells R T (N := N) (h.small).2.2.1 (m.getD i 0)
  rcases findD_tells N (m.getD i 0) with f | ⟨j, f, hj, _⟩
  ·rw [f] at e1 ⊢
   refine Ev.eq (Ev.step (f := fun k => (impl_find.f k R T N (m.getD i 0)).bind fun t => if t < 0 then impl_Cost.j2 k x t m (m.length : Int) (i : Int) true R T N else (impl_can.f k R T N t).bind fun t' => impl_Cost.j2 k x t m (m.length : Int) (i : Int) (!t') R T N) (fun k => ?_) (Ev.bind e1 (r := -1) ?_)) (by rw [if_pos (by omega)])
   ·simp only [impl_Cost.l0]
    rw [if_pos (by omega), if_pos (by omega), if_pos (by omega), rd_I]
   ·simp only [show (-1 : Int) < 0 by omega, if_true]
    exact Ev.one (fun k => by simp only [impl_Cost.j2]; first | rw [if_pos rfl] | rw [if_pos trivial])
  ·rw [f] at e1 ⊢
   have ec := can_tells h j (by omega)
   simp only [Int.toNat_natCast, show ¬ ((j : Int) < 0) by omega, if_false]
   refine Ev.step (f := fun k => (impl_find.f k R T N (m.getD i 0)).bind fun t => if t < 0 then impl_Cost.j2 k x t m (m.length : Int) (i : Int) true R T N else (impl_can.f k R T N t).bind fun t' => impl_Cost.j2 k x t m (m.length : Int) (i : Int) (!t') R T N) (fun k => ?_) (Ev.bind e1 ?_)
   ·simp only [impl_Cost.l0]
    rw [if_pos (by omega), if_pos (by omega), if_pos (by omega), rd_I]
   ·simp only [show ¬ ((j : Int) < 0) by omega, if_false]
    refine Ev.bind ec ?_
    have hw := h.wgt
    by_cases c : canB R T j = true
    ·simp only [c, if_true, Bool.not_true]
     refine Ev.step (f := fun k => impl_Cost.l1 k x (j : Int) m (m.length : Int) (i : Int) T (T.length : Int) ((0 : Nat) : Int) R T N) (fun k => ?_) (implCost_inner h (by omega) hi hm T.length 0 x (by omega) h0 (by omega) ?_)
     ·simp only [impl_Cost.j2]
      rw [if_neg (by decide)]
      rfl
     ·rw [List.drop_zero]
      exact implCost_loop m hm d (i + 1) _ _ _ _ (h.step j (by omega)) (by omega) (by omega) (by omega)
    ·rw [if_neg c]
     simp only [Bool.not_eq_true] at c
     simp only [c, Bool.not_false]
     exact Ev.one (fun k => by simp only [impl_Cost.j2]; first | rw [if_pos rfl] | rw [if_pos trivial])
variable {R : List Int} {T : List S35} {N : List Int}
theorem specCost_tells (hR : R.length ≤ 1048576) (hT : T.length ≤ 1048576) (hN : N.length ≤ 1048576) (m : List Int) : Ev (fun k => spec_Cost.f k R T N m) (costD R T N m) := by
 unfold spec_Cost.f costD
 refine Ev.bind (specStateOk_tells R T N hR hT hN) ?_
 by_cases c : okS R T N = 0
 ·have hr := (right_iff R T N).1 c
  simp only [if_pos c]
  by_cases d : m.length ≤ 45
  ·rw [if_pos ⟨c, d⟩]
   simp only [show decide ((m.length : Int) > 45) = false from decide_eq_false (by omega)]
   refine Ev.eq (Ev.step (fun k => ?_) (specCost_loop m d m.length 0 0 R T N hr.wf (by omega) (by omega) (by omega))) (by simp)
   simp only [spec_Cost.j0]
   rw [if_neg (by decide)]
   rfl
  ·rw [if_neg (by intro h; exact d h.2)]
   simp only [show decide ((m.length : Int) > 45) = true from decide_eq_true (by omega)]
   exact Ev.one (fun k => by simp only [spec_Cost.j0]; first | rw [if_pos rfl] | rw [if_pos trivial])
 ·simp only [if_neg c]
  rw [if_neg (by intro h; exact c h.1)]
  exact Ev.one (fun k => by simp only [spec_Cost.j0]; first | rw [if_pos rfl] | rw [if_pos trivial])
theorem implCost_tells (hR : R.length ≤ 1048576) (hT : T.length ≤ 1048576) (hN : N.length ≤ 1048576) (m : List Int) : Ev (fun k => impl_Cost.f k R T N m) (costD R T N m) := by
 unfold impl_Cost.f costD
 refine Ev.bind (implStateOk_tells R T N hR hT hN) ?_
 by_cases c : okS R T N = 0
 ·have hr := (right_iff R T N).1 c
  simp only [if_pos c]
  by_cases d : m.length ≤ 45
  ·rw [if_pos ⟨c, d⟩]
   simp only [show decide ((m.length : Int) > 45) = false from decide_eq_false (by omega)]
   refine Ev.eq (Ev.step (fun k => ?_) (implCost_loop m d m.length 0 0 R T N hr.wf (by omega) (by omega) (by omega))) (by simp)
   simp only [impl_Cost.j0]
   rw [if_neg (by decide)]
   rfl
  ·rw [if_neg (by intro h; exact d h.2)]
   simp only [show decide ((m.length : Int) > 45) = true from decide_eq_true (by omega)]
   exact Ev.one (fun k => by simp only [impl_Cost.j0]; first | rw [if_pos rfl] | rw [if_pos trivial])
 ·simp only [if_neg c]
  rw [if_neg (by intro h; exact c h.1)]
  exact Ev.one (fun k => by simp only [impl_Cost.j0]; first | rw [if_pos rfl] | rw [if_pos trivial])
end
end Go.Proofs.Ytpbclogjoangfaa.Pu
