/- Plain laws: a state is right (StateOk), in the specification and in the program. No program in sight. -/
import Derived.Test.YtkcocomehhlpmaaDoorFnSpoiltPure0
import Derived.Test.YtkcocomehhlpmaaDoorFnSpoiltQ2
import Derived.Test.YtkcocomehhlpmaaDoorFnSpoiltQ3
import Derived.Test.YtkcocomehhlpmaaDoorFnSpoiltQ4
namespace Go.Proofs.YtkcocomehhlpmaaDoor.Pu
open Go.RowKit Go.Proofs.YtkcocomehhlpmaaDoorW.PrintWords Go.Proofs.YtkcocomehhlpmaaDoorW.PrintLast Go.Proofs.YtkcocomehhlpmaaDoor.Q
set_option linter.unusedVariables false
set_option linter.unusedSimpArgs false

def cnt (T : List S48) (a : Int) : Nat := T.countP (fun t => decide (t.f0 = a))
def pathOk (n : Int) : Int → List Int → Bool
 | _, [] => true
 | a, x :: xs => decide (0 ≤ x ∧ x < n ∧ x ≠ a) && pathOk n x xs
def trainOk (n : Int) (t : S48) : Bool := decide (0 ≤ t.f0 ∧ t.f0 < n ∧ t.f1.length ≤ 8 ∧ 1 ≤ t.f2 ∧ t.f2 ≤ 100) && pathOk n t.f0 t.f1
def namesOk : Int → List Int → Bool
 | _, [] => true
 | a, x :: xs => decide (a < x ∧ x ≤ 1000) && namesOk x xs
def roomsOk (T : List S48) : Nat → List Int → Bool
 | _, [] => true
 | i, r :: rs => decide ((cnt T (i : Int) : Int) ≤ r) && roomsOk T (i + 1) rs
def roomOk (r : Int) : Bool := decide (1 ≤ r ∧ r ≤ 5)
/-- StateOk. -/
def okS (R : List Int) (T : List S48) (N : List Int) : Int :=
 if 1 ≤ R.length ∧ R.length ≤ 40 ∧ T.length ≤ 5 ∧ N.length = T.length then
  if R.all roomOk = true then if T.all (trainOk R.length) = true then if namesOk (-1) N = true then if roomsOk T 0 R = true then 0 else 5 else 4 else 3 else 2
 else 1

theorem l1in_tells (x a b : Int) : spec_l1in.f x a b = some (decide (a ≤ x ∧ x ≤ b)) := by
 unfold spec_l1in.f
 by_cases c : x ≥ a
 ·rw [if_pos c]
  by_cases d : x ≤ b
  ·simp [d]; try omega
  ·simp [d]
 ·rw [if_neg c]
  simp; try omega

theorem there_loop (a : Int) (T : List S48) (hT : T.length ≤ 1048576) : ∀ (d i c : Nat), i + d = T.length → c ≤ i → Ev (fun k => spec_l1there.l0 k a (c : Int) T (T.length : Int) (i : Int)) ((c + cnt (T.drop i) a : Nat) : Int)
 | 0, i, c, h, hc => by
  refine Ev.one (fun k => ?_)
  simp only [spec_l1there.l0]; rw [if_neg (by omega), List.drop_eq_nil_of_le (by omega)]; simp [cnt]
 | d + 1, i, c, h, hc => by
  have hi : i < T.length := by omega
  rw [drop_cons z48 hi]
  by_cases e : (T.getD i z48).f0 = a
  ·refine Ev.eq (Ev.step (fun k => ?_) (there_loop a T hT d (i + 1) (c + 1) (by omega) (by omega))) ?_
   ·simp only [spec_l1there.l0]
    rw [if_pos (by omega), if_pos (by omega), if_pos (by omega), rd_T, if_pos e, wsucc hi (by omega), wsucc (show c < T.length by omega) (by omega)]
   ·unfold cnt; rw [List.countP_cons, if_pos (by simpa using e)]; omega
  ·refine Ev.eq (Ev.step (fun k => ?_) (there_loop a T hT d (i + 1) c (by omega) (by omega))) ?_
   ·simp only [spec_l1there.l0]
    rw [if_pos (by omega), if_pos (by omega), if_pos (by omega), rd_T, if_neg e, wsucc hi (by omega)]
   ·unfold cnt; rw [List.countP_cons, if_neg (by simpa using e)]; omega
theorem there_tells (R : List Int) (T : List S48) (N : List Int) (a : Int) (hT : T.length ≤ 1048576) : Ev (fun k => spec_l1there.f k R T N a) (cnt T a : Int) := by
 have h := there_loop a T hT T.length 0 0 (by omega) (by omega)
 exact Ev.eq (Ev.congr (fun k => by unfold spec_l1there.f; rfl) h) (by simp)

/-! ### the specification's StateOk, from its last loop back -/
section
variable (R : List Int) (T : List S48) (N : List Int)
theorem sok4 (hR : R.length ≤ 40) (hT : T.length ≤ 5) : ∀ (d i : Nat), i + d = R.length → Ev (fun k => spec_StateOk.l4 k R (R.length : Int) (i : Int) R T N) (if roomsOk T i (R.drop i) = true then 0 else 5)
 | 0, i, h => by
  refine Ev.one (fun k => ?_)
  simp only [spec_StateOk.l4]; rw [if_neg (by omega), List.drop_eq_nil_of_le (by omega)]; simp [roomsOk]
 | d + 1, i, h => by
  have hi : i < R.length := by omega
  rw [drop_cons 0 hi]
  refine Ev.step (f := fun k => (spec_l1there.f k R T N (i : Int)).bind fun t => if t > R.getD i 0 then some 5 else spec_StateOk.l4 k R (R.length : Int) ((i + 1 : Nat) : Int) R T N) (fun k => ?_) (Ev.bind (there_tells R T N i (by omega)) ?_)
  ·simp only [spec_StateOk.l4]
   rw [if_pos (by omega), if_pos (by omega), if_pos (by omega), wsucc hi (by omega)]
   simp only [rd_I]
  ·by_cases c : (cnt T (i : Int) : Int) > R.getD i 0
   ·refine Ev.all (fun k => ?_)
    rw [if_pos c, if_neg]
    simp only [roomsOk, Bool.and_eq_true, decide_eq_true_eq]
    omega
   ·refine Ev.eq (Ev.congr (fun k => by rw [if_neg c]) (sok4 hR hT d (i + 1) (by omega))) ?_
    have : (cnt T (i : Int) : Int) ≤ R.getD i 0 := by omega
    simp only [roomsOk, this, decide_true, Bool.true_and]
theorem sok3 (hR : R.length ≤ 40) (hT : T.length ≤ 5) (hN : N.length = T.length) : ∀ (d i : Nat) (a : Int), i + d = N.length → (i = 0 → a = -1) → (0 < i → a = N.getD (i - 1) 0) → -1 ≤ a →
  Ev (fun k => spec_StateOk.l3 k N (N.length : Int) (i : Int) R T N) (if namesOk a (N.drop i) = true then if roomsOk T 0 R = true then 0 else 5 else 4)
 | 0, i, a, h, h0, h1, hlo => by
  refine Ev.eq (Ev.step (fun k => ?_) (sok4 R T N hR hT R.length 0 (by omega))) ?_
  ·simp only [spec_StateOk.l3]; rw [if_neg (by omega)]; rfl
  ·rw [List.drop_eq_nil_of_le (show N.length ≤ i by omega)]; simp [namesOk]
 | d + 1, i, a, h, h0, h1, hlo => by
  have hi : i < N.length := by omega
  rw [drop_cons 0 hi]
  by_cases c1 : 0 ≤ N.getD i 0 ∧ N.getD i 0 ≤ 1000
  ·by_cases c2 : a < N.getD i 0
   ·refine Ev.eq (Ev.step (fun k => ?_) (sok3 hR hT hN d (i + 1) (N.getD i 0) (by omega) (by omega) (by intro _; rfl) (by omega))) ?_
    ·simp only [spec_StateOk.l3]
     rw [if_pos (by omega), if_pos (by omega), if_pos (by omega), l1in_tells]
     simp only [Option.bind_some, rd_I]
     rw [if_pos (by simpa using c1)]
     by_cases c3 : 0 < i
     ·rw [if_pos (by omega), w64 (by omega) (by omega), if_pos (by omega), if_pos (by omega)]
      rw [show (i : Int) - 1 = ((i - 1 : Nat) : Int) by omega, rd_I, if_neg (by have := h1 c3; omega), wsucc hi (by omega)]
     ·rw [if_neg (by omega), wsucc hi (by omega)]
    ·simp only [namesOk, show (a < N.getD i 0 ∧ N.getD i 0 ≤ 1000) from ⟨c2, c1.2⟩, and_self, decide_true, Bool.true_and]
   ·refine Ev.one (fun k => ?_)
    have c3 : 0 < i := by
     rcases Nat.eq_zero_or_pos i with h2 | h2
     ·have := h0 h2; omega
     ·exact h2
    simp only [spec_StateOk.l3]
    rw [if_pos (by omega), if_pos (by omega), if_pos (by omega), l1in_tells]
    simp only [Option.bind_some, rd_I]
    rw [if_pos (by simpa using c1), if_pos (by omega), w64 (by omega) (by omega), if_pos (by omega), if_pos (by omega)]
    rw [show (i : Int) - 1 = ((i - 1 : Nat) : Int) by omega, rd_I, if_pos (by have := h1 c3; omega), if_neg]
    simp only [namesOk, Bool.and_eq_true, decide_eq_true_eq]
    omega
  ·refine Ev.one (fun k => ?_)
   simp only [spec_StateOk.l3]
   rw [if_pos (by omega), if_pos (by omega), if_pos (by omega), l1in_tells]
   simp only [Option.bind_some, rd_I]
   rw [if_neg (by simpa using c1), if_neg]
   simp only [namesOk, Bool.and_eq_true, decide_eq_true_eq]
   omega
/-- What stands behind the trains' loop. -/
def rest3 : Int := if namesOk (-1) N = true then if roomsOk T 0 R = true then 0 else 5 else 4
theorem sok2 (hR0 : 1 ≤ R.length) (hR : R.length ≤ 40) (P : List Int) (hP : P.length ≤ 8) (j : Nat) (r : Int) (hj : j < 5) (hnext : Ev (fun k => spec_StateOk.l1 k T (T.length : Int) ((j + 1 : Nat) : Int) R T N) r) : ∀ (d i : Nat) (a : Int), i + d = P.length →
  Ev (fun k => spec_StateOk.l2 k a T (T.length : Int) (j : Int) P (P.length : Int) (i : Int) R T N) (if pathOk R.length a (P.drop i) = true then r else 3)
 | 0, i, a, h => by
  refine Ev.eq (Ev.step (fun k => ?_) hnext) ?_
  ·simp only [spec_StateOk.l2]; rw [if_neg (by omega), wsucc (show j < 5 from hj) (by omega)]
  ·rw [List.drop_eq_nil_of_le (show P.length ≤ i by omega)]; simp [pathOk]
 | d + 1, i, a, h => by
  have hi : i < P.length := by omega
  rw [drop_cons 0 hi]
  by_cases c1 : 0 ≤ P.getD i 0 ∧ P.getD i 0 ≤ (R.length : Int) - 1
  ·by_cases c2 : P.getD i 0 = a
   ·refine Ev.one (fun k => ?_)
    simp only [spec_StateOk.l2]
    rw [if_pos (by omega), if_pos (by omega), if_pos (by omega), w64 (by omega) (by omega), l1in_tells]
    simp only [Option.bind_some, rd_I]
    rw [if_pos (by simpa using c1), if_pos c2, if_neg]
    simp only [pathOk, Bool.and_eq_true, decide_eq_true_eq]
    omega
   ·refine Ev.eq (Ev.step (fun k => ?_) (sok2 hR0 hR P hP j r hj hnext d (i + 1) (P.getD i 0) (by omega))) ?_
    ·simp only [spec_StateOk.l2]
     rw [if_pos (by omega), if_pos (by omega), if_pos (by omega), w64 (x := (R.length : Int) - 1) (by omega) (by omega), l1in_tells]
     simp only [Option.bind_some, rd_I]
     rw [if_pos (by simpa using c1), if_neg c2, wsucc hi (by omega)]
    ·have : 0 ≤ P.getD i 0 ∧ P.getD i 0 < (R.length : Int) ∧ P.getD i 0 ≠ a := ⟨c1.1, by omega, c2⟩
     simp only [pathOk, this, decide_true, Bool.true_and, and_self, ne_eq, not_false_eq_true]
  ·refine Ev.one (fun k => ?_)
   simp only [spec_StateOk.l2]
   rw [if_pos (by omega), if_pos (by omega), if_pos (by omega), w64 (by omega) (by omega), l1in_tells]
   simp only [Option.bind_some, rd_I]
   rw [if_neg (by simpa using c1), if_neg]
   simp only [pathOk, Bool.and_eq_true, decide_eq_true_eq]
   omega
theorem sok1 (hR0 : 1 ≤ R.length) (hR : R.length ≤ 40) (hT : T.length ≤ 5) (hN : N.length = T.length) : ∀ (d i : Nat), i + d = T.length →
  Ev (fun k => spec_StateOk.l1 k T (T.length : Int) (i : Int) R T N) (if (T.drop i).all (trainOk R.length) = true then rest3 R T N else 3)
 | 0, i, h => by
  refine Ev.eq (Ev.step (fun k => ?_) (sok3 R T N hR hT hN N.length 0 (-1) (by omega) (by omega) (by omega) (by omega))) ?_
  ·simp only [spec_StateOk.l1]; rw [if_neg (by omega)]; rfl
  ·rw [List.drop_eq_nil_of_le (show T.length ≤ i by omega)]; simp [rest3]
 | d + 1, i, h => by
  have hi : i < T.length := by omega
  rw [drop_cons z48 hi, List.all_cons]
  have ih := sok1 hR0 hR hT hN d (i + 1) (by omega)
  by_cases c1 : 0 ≤ (T.getD i z48).f0 ∧ (T.getD i z48).f0 ≤ (R.length : Int) - 1
  ·by_cases c2 : (T.getD i z48).f1.length ≤ 8
   ·by_cases c3 : 1 ≤ (T.getD i z48).f2 ∧ (T.getD i z48).f2 ≤ 100
    ·have h2 := sok2 R T N hR0 hR (T.getD i z48).f1 c2 i _ (by omega) ih (T.getD i z48).f1.length 0 (T.getD i z48).f0 (by omega)
     refine Ev.eq (Ev.step (f := fun k => spec_StateOk.j3 k T (T.length : Int) (i : Int) false R T N (T.getD i z48).f0 (T.getD i z48).f1 (T.getD i z48).f2) (fun k => ?_) (Ev.step (fun k => ?_) h2)) ?_
     ·simp only [spec_StateOk.l1]
      rw [if_pos (by omega), if_pos (by omega), if_pos (by omega), w64 (by omega) (by omega), l1in_tells]
      simp only [Option.bind_some, rd_T]
      rw [if_pos (by simpa using c1), if_neg (by omega), l1in_tells]
      simp only [Option.bind_some]
      rw [show decide (1 ≤ (T.getD i z48).f2 ∧ (T.getD i z48).f2 ≤ 100) = true from by simpa using c3]
      rfl
     ·simp only [spec_StateOk.j3]
      rw [if_neg (by simp)]
      rfl
     ·have : 0 ≤ (T.getD i z48).f0 ∧ (T.getD i z48).f0 < (R.length : Int) ∧ (T.getD i z48).f1.length ≤ 8 ∧ 1 ≤ (T.getD i z48).f2 ∧ (T.getD i z48).f2 ≤ 100 := ⟨c1.1, by omega, c2, c3⟩
      simp only [trainOk, this, decide_true, Bool.true_and, and_self, List.drop_zero]
      cases pathOk (R.length : Int) (T.getD i z48).f0 (T.getD i z48).f1 <;> simp
    ·refine Ev.eq (Ev.step (f := fun k => spec_StateOk.j3 k T (T.length : Int) (i : Int) true R T N (T.getD i z48).f0 (T.getD i z48).f1 (T.getD i z48).f2) (fun k => ?_) (Ev.one (r := 3) (fun k => by simp only [spec_StateOk.j3, if_true]))) ?_
     ·simp only [spec_StateOk.l1]
      rw [if_pos (by omega), if_pos (by omega), if_pos (by omega), w64 (by omega) (by omega), l1in_tells]
      simp only [Option.bind_some, rd_T]
      rw [if_pos (by simpa using c1), if_neg (by omega), l1in_tells]
      simp only [Option.bind_some]
      rw [show decide (1 ≤ (T.getD i z48).f2 ∧ (T.getD i z48).f2 ≤ 100) = false from by simpa using c3]
      rfl
     ·rw [if_neg]; simp only [trainOk, Bool.and_eq_true, decide_eq_true_eq]; omega
   ·refine Ev.eq (Ev.step (f := fun k => spec_StateOk.j3 k T (T.length : Int) (i : Int) true R T N (T.getD i z48).f0 (T.getD i z48).f1 (T.getD i z48).f2) (fun k => ?_) (Ev.one (r := 3) (fun k => by simp only [spec_StateOk.j3, if_true]))) ?_
    ·simp only [spec_StateOk.l1]
     rw [if_pos (by omega), if_pos (by omega), if_pos (by omega), w64 (by omega) (by omega), l1in_tells]
     simp only [Option.bind_some, rd_T]
     rw [if_pos (by simpa using c1), if_pos (by omega)]
    ·rw [if_neg]; simp only [trainOk, Bool.and_eq_true, decide_eq_true_eq]; omega
  ·refine Ev.eq (Ev.step (f := fun k => spec_StateOk.j3 k T (T.length : Int) (i : Int) true R T N (T.getD i z48).f0 (T.getD i z48).f1 (T.getD i z48).f2) (fun k => ?_) (Ev.one (r := 3) (fun k => by simp only [spec_StateOk.j3, if_true]))) ?_
   ·simp only [spec_StateOk.l1]
    rw [if_pos (by omega), if_pos (by omega), if_pos (by omega), w64 (by omega) (by omega), l1in_tells]
    simp only [Option.bind_some, rd_T]
    rw [if_neg (by simpa using c1)]
   ·rw [if_neg]; simp only [trainOk, Bool.and_eq_true, decide_eq_true_eq]; omega
theorem sok0 (hR0 : 1 ≤ R.length) (hR : R.length ≤ 40) (hT : T.length ≤ 5) (hN : N.length = T.length) : ∀ (d i : Nat), i + d = R.length →
  Ev (fun k => spec_StateOk.l0 k R (R.length : Int) (i : Int) R T N) (if (R.drop i).all roomOk = true then if T.all (trainOk R.length) = true then rest3 R T N else 3 else 2)
 | 0, i, h => by
  refine Ev.eq (Ev.step (fun k => ?_) (sok1 R T N hR0 hR hT hN T.length 0 (by omega))) ?_
  ·simp only [spec_StateOk.l0]; rw [if_neg (by omega)]; rfl
  ·rw [List.drop_eq_nil_of_le (show R.length ≤ i by omega)]; simp
 | d + 1, i, h => by
  have hi : i < R.length := by omega
  rw [drop_cons 0 hi, List.all_cons]
  by_cases c : 1 ≤ R.getD i 0 ∧ R.getD i 0 ≤ 5
  ·refine Ev.eq (Ev.step (fun k => ?_) (sok0 hR0 hR hT hN d (i + 1) (by omega))) ?_
   ·simp only [spec_StateOk.l0]
    rw [if_pos (by omega), if_pos (by omega), if_pos (by omega), l1in_tells]
    simp only [Option.bind_some, rd_I]
    rw [if_pos (by simpa using c), wsucc hi (by omega)]
   ·rw [show roomOk (R.getD i 0) = true from by simpa [roomOk] using c]; simp
  ·refine Ev.one (fun k => ?_)
   simp only [spec_StateOk.l0]
   rw [if_pos (by omega), if_pos (by omega), if_pos (by omega), l1in_tells]
   simp only [Option.bind_some, rd_I]
   rw [if_neg (by simpa using c), if_neg]
   rw [show roomOk (R.getD i 0) = false from by simpa [roomOk] using c]; simp
theorem specStateOk_tells (hR : R.length ≤ 1048576) (hT : T.length ≤ 1048576) (hN : N.length ≤ 1048576) : Ev (fun k => spec_StateOk.f k R T N) (okS R T N) := by
 unfold spec_StateOk.f
 simp only [l1in_tells, Option.bind_some]
 by_cases c1 : 1 ≤ R.length ∧ R.length ≤ 40
 ·have c1' : decide (1 ≤ (R.length : Int) ∧ (R.length : Int) ≤ 40) = true := by simp; omega
  simp only [c1', if_true]
  by_cases c2 : T.length ≤ 5
  ·simp only [show ¬ ((T.length : Int) > 5) by omega, if_false]
   by_cases c3 : N.length = T.length
   ·refine Ev.eq (Ev.step (fun k => ?_) (sok0 R T N c1.1 c1.2 c2 c3 R.length 0 (by omega))) ?_
    ·simp only [spec_StateOk.j0]; rw [if_neg (by simp; omega)]; rfl
    ·have hh : 1 ≤ R.length ∧ R.length ≤ 40 ∧ T.length ≤ 5 ∧ N.length = T.length := ⟨c1.1, c1.2, c2, c3⟩
     unfold okS rest3; rw [List.drop_zero, if_pos hh]
   ·refine Ev.eq (Ev.one (fun k => ?_)) (show (1 : Int) = _ from ?_)
    ·simp only [spec_StateOk.j0]; rw [if_pos (by simp; omega)]
    ·unfold okS; rw [if_neg (by omega)]
  ·simp only [show ((T.length : Int) > 5) by omega, if_true]
   refine Ev.eq (Ev.one (fun k => ?_)) (show (1 : Int) = _ from ?_)
   ·simp only [spec_StateOk.j0, if_true]
   ·unfold okS; rw [if_neg (by omega)]
 ·have c1' : decide (1 ≤ (R.length : Int) ∧ (R.length : Int) ≤ 40) = false := by simp; omega
  simp only [c1', Bool.false_eq_true, if_false]
  refine Ev.eq (Ev.one (fun k => ?_)) (show (1 : Int) = _ from ?_)
  ·simp only [spec_StateOk.j0, if_true]
  ·unfold okS; rw [if_neg (by omega)]
end
end Go.Proofs.YtkcocomehhlpmaaDoor.Pu
