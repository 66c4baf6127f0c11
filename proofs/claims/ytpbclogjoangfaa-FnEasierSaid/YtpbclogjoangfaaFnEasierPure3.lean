/- Plain laws: room, who can move, who waits. No program in sight. -/
import Derived.Test.YtpbclogjoangfaaFnEasierPure2
import Derived.Test.YtpbclogjoangfaaFnEasierQ4
import Derived.Test.YtpbclogjoangfaaFnEasierQ2
namespace Go.Proofs.Ytpbclogjoangfaa.Pu
open Go.RowKit Go.Proofs.YtpbclogjoangfaaW.PrintWords Go.Proofs.YtpbclogjoangfaaW.PrintLast Go.Proofs.Ytpbclogjoangfaa.Q
set_option linter.unusedVariables false
set_option linter.unusedSimpArgs false

/-- What a state must be so that moves can be asked and made: weaker than right. -/
structure Wf (R : List Int) (T : List S35) (N : List Int) : Prop where
 r1 : R.length ≤ 40
 t1 : T.length ≤ 5
 n1 : N.length = T.length
 room : ∀ r ∈ R, 1 ≤ r ∧ r ≤ 5
 at_ : ∀ t ∈ T, 0 ≤ t.f0 ∧ t.f0 < (R.length : Int)
 path : ∀ t ∈ T, t.f1.length ≤ 8
 on : ∀ t ∈ T, ∀ x ∈ t.f1, 0 ≤ x ∧ x < (R.length : Int)
 wt : ∀ t ∈ T, 1 ≤ t.f2 ∧ t.f2 ≤ 100
theorem pathOk_on {n : Int} : ∀ {p : List Int} {a : Int}, pathOk n a p = true → ∀ x ∈ p, 0 ≤ x ∧ x < n
 | [], _, _ => by simp
 | y :: p, a, h => by
  simp only [pathOk, Bool.and_eq_true, decide_eq_true_eq] at h
  intro x hx
  rcases List.mem_cons.1 hx with rfl | hx
  ·exact ⟨h.1.1, h.1.2.1⟩
  ·exact pathOk_on h.2 x hx
/-- A right state. -/
structure Right (R : List Int) (T : List S35) (N : List Int) : Prop where
 r0 : 1 ≤ R.length
 r1 : R.length ≤ 40
 t1 : T.length ≤ 5
 n1 : N.length = T.length
 room : R.all roomOk = true
 trains : T.all (trainOk R.length) = true
 names : namesOk (-1) N = true
 fits : roomsOk T 0 R = true
theorem right_iff (R : List Int) (T : List S35) (N : List Int) : okS R T N = 0 ↔ Right R T N := by
 unfold okS
 constructor
 ·intro h
  by_cases c : 1 ≤ R.length ∧ R.length ≤ 40 ∧ T.length ≤ 5 ∧ N.length = T.length
  ·rw [if_pos c] at h
   by_cases c1 : R.all roomOk = true
   ·rw [if_pos c1] at h
    by_cases c2 : T.all (trainOk R.length) = true
    ·rw [if_pos c2] at h
     by_cases c3 : namesOk (-1) N = true
     ·rw [if_pos c3] at h
      by_cases c4 : roomsOk T 0 R = true
      ·exact ⟨c.1, c.2.1, c.2.2.1, c.2.2.2, c1, c2, c3, c4⟩
      ·rw [if_neg c4] at h; omega
     ·rw [if_neg c3] at h; omega
    ·rw [if_neg c2] at h; omega
   ·rw [if_neg c1] at h; omega
  ·rw [if_neg c] at h; omega
 ·intro h
  rw [if_pos ⟨h.r0, h.r1, h.t1, h.n1⟩, if_pos h.room, if_pos h.trains, if_pos h.names, if_pos h.fits]
theorem Right.wf {R : List Int} {T : List S35} {N : List Int} (h : Right R T N) : Wf R T N := by
 have ht : ∀ t ∈ T, (0 ≤ t.f0 ∧ t.f0 < (R.length : Int) ∧ t.f1.length ≤ 8 ∧ 1 ≤ t.f2 ∧ t.f2 ≤ 100) ∧ pathOk R.length t.f0 t.f1 = true := by
  intro t ht
  have := List.all_eq_true.1 h.trains t ht
  simpa only [trainOk, Bool.and_eq_true, decide_eq_true_eq] using this
 refine ⟨h.r1, h.t1, h.n1, fun r hr => ?_, fun t m => ⟨(ht t m).1.1, (ht t m).1.2.1⟩, fun t m => (ht t m).1.2.2.1, fun t m => pathOk_on (ht t m).2, fun t m => (ht t m).1.2.2.2⟩
 have := List.all_eq_true.1 h.room r hr
 simpa only [roomOk, decide_eq_true_eq] using this

/-! ### room, can -/
def canB (R : List Int) (T : List S35) (i : Nat) : Bool :=
 match (T.getD i z35).f1 with
 | [] => true
 | x :: _ => decide ((cnt T x : Int) < R.getD x.toNat 0)
theorem rd_N (xs : List Int) {x : Int} (h : 0 ≤ x) : rd xs x = xs.getD x.toNat 0 := rfl
section
variable {R : List Int} {T : List S35} {N : List Int}
theorem l1can_tells (h : Wf R T N) (i : Nat) (hi : i < T.length) : Ev (fun k => spec_l1can.f k R T N (i : Int)) (canB R T i) := by
 unfold spec_l1can.f canB
 have ht := h.on _ (getD_mem z35 hi)
 simp only [rd_T, show (0 : Int) ≤ (i : Int) by omega, show (i : Int) < (T.length : Int) by omega, if_true]
 cases hp : (T.getD i z35).f1 with
 | nil => exact Ev.all (fun k => by simp)
 | cons x p =>
  have hx := ht x (by rw [hp]; simp)
  have e0 : rd (x :: p) 0 = x := rfl
  simp only [e0, List.length_cons, show ¬ (((p.length + 1 : Nat) : Int) = 0) by omega, show (0 : Int) < ((p.length + 1 : Nat) : Int) by omega, if_true, if_false]
  refine Ev.bind (there_tells R T N x (by have := h.t1; omega)) (Ev.all (fun k => ?_))
  rw [if_pos hx.1, if_pos hx.2, rd_N _ hx.1]
end
end Go.Proofs.Ytpbclogjoangfaa.Pu
