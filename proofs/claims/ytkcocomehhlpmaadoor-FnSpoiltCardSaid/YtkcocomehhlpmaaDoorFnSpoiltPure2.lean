/- Plain laws: the program's StateOk answers as the specification's. No program in sight. -/
import Derived.Test.YtkcocomehhlpmaaDoorFnSpoiltPure1
namespace Go.Proofs.YtkcocomehhlpmaaDoor.Pu
open Go.RowKit Go.Proofs.YtkcocomehhlpmaaDoorW.PrintWords Go.Proofs.YtkcocomehhlpmaaDoorW.PrintLast Go.Proofs.YtkcocomehhlpmaaDoor.Q
set_option linter.unusedVariables false
set_option linter.unusedSimpArgs false

theorem cnt_le (T : List S48) (a : Int) : cnt T a ≤ T.length := List.countP_le_length
theorem cnt_take_succ (T : List S48) (i : Nat) (hi : i < T.length) (a : Int) : cnt (T.take (i + 1)) a = cnt (T.take i) a + (if (T.getD i z48).f0 = a then 1 else 0) := by
 unfold cnt
 rw [List.take_succ_eq_append_getElem hi, List.countP_append, List.getD_eq_getElem?_getD, List.getElem?_eq_getElem hi]
 simp [List.countP_cons]
theorem getD_mem {α : Type} {l : List α} {i : Nat} (z : α) (hi : i < l.length) : l.getD i z ∈ l := by rw [List.getD_eq_getElem?_getD, List.getElem?_eq_getElem hi]; exact List.getElem_mem hi
theorem getD_set {l : List Int} {i j : Nat} (hi : i < l.length) (x : Int) : (l.set i x).getD j 0 = if i = j then x else l.getD j 0 := by
 simp only [List.getD_eq_getElem?_getD, List.getElem?_set]
 by_cases e : i = j
 ·subst e; simp [hi]
 ·simp [e]
section
variable (R : List Int) (T : List S48) (N : List Int)
theorem iok5 (hR : R.length ≤ 40) (C : List Int) (hC : C.length = R.length) (hc : ∀ j, j < R.length → C.getD j 0 = (cnt T (j : Int) : Int)) : ∀ (d i : Nat), i + d = R.length →
  Ev (fun k => impl_StateOk.l5 k C (C.length : Int) (i : Int) R T N) (if roomsOk T i (R.drop i) = true then 0 else 5)
 | 0, i, h => by
  refine Ev.one (fun k => ?_)
  simp only [impl_StateOk.l5]; rw [if_neg (by omega), List.drop_eq_nil_of_le (by omega)]; simp [roomsOk]
 | d + 1, i, h => by
  have hi : i < R.length := by omega
  have hci := hc i hi
  rw [drop_cons 0 hi]
  by_cases c : (cnt T (i : Int) : Int) > R.getD i 0
  ·refine Ev.one (fun k => ?_)
   simp only [impl_StateOk.l5]
   rw [if_pos (by omega), if_pos (by omega), if_pos (by omega), if_pos (by omega), rd_I, rd_I, if_pos (by omega), if_neg]
   simp only [roomsOk, Bool.and_eq_true, decide_eq_true_eq]
   omega
  ·refine Ev.eq (Ev.step (fun k => ?_) (iok5 hR C hC hc d (i + 1) (by omega))) ?_
   ·simp only [impl_StateOk.l5]
    rw [if_pos (by omega), if_pos (by omega), if_pos (by omega), if_pos (by omega), rd_I, rd_I, if_neg (by omega), wsucc hi (by omega)]
   ·have : (cnt T (i : Int) : Int) ≤ R.getD i 0 := by omega
    simp only [roomsOk, this, decide_true, Bool.true_and]
theorem iok4 (hR : R.length ≤ 40) (hT : T.length ≤ 5) (hall : T.all (trainOk R.length) = true) : ∀ (d i : Nat) (C : List Int), i + d = T.length → C.length = R.length → (∀ j, j < R.length → C.getD j 0 = (cnt (T.take i) (j : Int) : Int)) →
  Ev (fun k => impl_StateOk.l4 k C T (T.length : Int) (i : Int) R T N) (if roomsOk T 0 R = true then 0 else 5)
 | 0, i, C, h, hC, hc => by
  rw [List.take_of_length_le (show T.length ≤ i by omega)] at hc
  refine Ev.eq (Ev.step (fun k => ?_) (iok5 R T N hR C hC hc R.length 0 (by omega))) (by simp)
  simp only [impl_StateOk.l4]; rw [if_neg (by omega)]; rfl
 | d + 1, i, C, h, hC, hc => by
  have hi : i < T.length := by omega
  have hm := List.all_eq_true.1 hall _ (getD_mem z48 hi)
  simp only [trainOk, Bool.and_eq_true, decide_eq_true_eq] at hm
  obtain ⟨⟨a0, a1, _⟩, _⟩ := hm
  obtain ⟨j0, hj0⟩ : ∃ j : Nat, (T.getD i z48).f0 = (j : Int) := ⟨(T.getD i z48).f0.toNat, by omega⟩
  have hj1 : j0 < R.length := by omega
  have hcl := cnt_le (T.take i) (j0 : Int)
  have htl : (T.take i).length ≤ 5 := by rw [List.length_take]; omega
  refine Ev.step (fun k => ?_) (iok4 hR hT hall d (i + 1) (C.set j0 (C.getD j0 0 + 1)) (by omega) (by simpa using hC) ?_)
  ·simp only [impl_StateOk.l4]
   rw [if_pos (by omega), if_pos (by omega), if_pos (by omega), rd_T, hj0, if_pos (by omega), if_pos (by omega), rd_I, w64 (by rw [hc j0 hj1]; omega) (by rw [hc j0 hj1]; omega), wsucc hi (by omega), Int.toNat_natCast]
  ·intro j hj
   rw [getD_set (by omega), cnt_take_succ T i hi, hj0]
   by_cases e : j0 = j
   ·subst e; rw [if_pos rfl, if_pos rfl, hc j0 hj]; omega
   ·rw [if_neg e, if_neg (by omega), hc j hj]; omega
theorem iok3 (hR : R.length ≤ 40) (hT : T.length ≤ 5) (hN : N.length = T.length) (hall : T.all (trainOk R.length) = true) : ∀ (d i : Nat) (a : Int), i + d = N.length →
  Ev (fun k => impl_StateOk.l3 k (R.length : Int) a N (N.length : Int) (i : Int) R T N) (if namesOk a (N.drop i) = true then if roomsOk T 0 R = true then 0 else 5 else 4)
 | 0, i, a, h => by
  refine Ev.eq (Ev.step (fun k => ?_) (iok4 R T N hR hT hall T.length 0 (List.replicate R.length 0) (by omega) (by simp) (fun j hj => by simp [cnt, List.getD_eq_getElem?_getD, List.getElem?_replicate, hj]))) ?_
  ·simp only [impl_StateOk.l3]; rw [if_neg (by omega), if_pos (by omega), if_pos (by simp; omega), Int.toNat_natCast]; rfl
  ·rw [List.drop_eq_nil_of_le (show N.length ≤ i by omega)]; simp [namesOk]
 | d + 1, i, a, h => by
  have hi : i < N.length := by omega
  rw [drop_cons 0 hi]
  by_cases c1 : N.getD i 0 ≤ a
  ·refine Ev.one (fun k => ?_)
   simp only [impl_StateOk.l3]
   rw [if_pos (by omega), if_pos (by omega), if_pos (by omega), rd_I, if_pos c1, if_neg]
   simp only [namesOk, Bool.and_eq_true, decide_eq_true_eq]
   omega
  ·by_cases c2 : N.getD i 0 > 1000
   ·refine Ev.one (fun k => ?_)
    simp only [impl_StateOk.l3]
    rw [if_pos (by omega), if_pos (by omega), if_pos (by omega), rd_I, if_neg c1, if_pos c2, if_neg]
    simp only [namesOk, Bool.and_eq_true, decide_eq_true_eq]
    omega
   ·refine Ev.eq (Ev.step (fun k => ?_) (iok3 hR hT hN hall d (i + 1) (N.getD i 0) (by omega))) ?_
    ·simp only [impl_StateOk.l3]
     rw [if_pos (by omega), if_pos (by omega), if_pos (by omega), rd_I, if_neg c1, if_neg c2, wsucc hi (by omega)]
    ·simp only [namesOk, show (a < N.getD i 0 ∧ N.getD i 0 ≤ 1000) from ⟨by omega, by omega⟩, and_self, decide_true, Bool.true_and]
theorem iok2 (hR : R.length ≤ 40) (P : List Int) (hP : P.length ≤ 8) (j : Nat) (r : Int) (hj : j < 5) (hnext : Ev (fun k => impl_StateOk.l1 k (R.length : Int) T (T.length : Int) ((j + 1 : Nat) : Int) R T N) r) : ∀ (d i : Nat) (a : Int), i + d = P.length →
  Ev (fun k => impl_StateOk.l2 k (R.length : Int) a T (T.length : Int) (j : Int) P (P.length : Int) (i : Int) R T N) (if pathOk R.length a (P.drop i) = true then r else 3)
 | 0, i, a, h => by
  refine Ev.eq (Ev.step (fun k => ?_) hnext) ?_
  ·simp only [impl_StateOk.l2]; rw [if_neg (by omega), wsucc (show j < 5 from hj) (by omega)]
  ·rw [List.drop_eq_nil_of_le (show P.length ≤ i by omega)]; simp [pathOk]
 | d + 1, i, a, h => by
  have hi : i < P.length := by omega
  rw [drop_cons 0 hi]
  by_cases c1 : P.getD i 0 < 0
  ·refine Ev.one (fun k => ?_)
   simp only [impl_StateOk.l2]
   rw [if_pos (by omega), if_pos (by omega), if_pos (by omega), rd_I, if_pos c1, if_neg]
   simp only [pathOk, Bool.and_eq_true, decide_eq_true_eq]; omega
  ·by_cases c2 : P.getD i 0 ≥ (R.length : Int)
   ·refine Ev.one (fun k => ?_)
    simp only [impl_StateOk.l2]
    rw [if_pos (by omega), if_pos (by omega), if_pos (by omega), rd_I, if_neg c1, if_pos c2, if_neg]
    simp only [pathOk, Bool.and_eq_true, decide_eq_true_eq]; omega
   ·by_cases c3 : P.getD i 0 = a
    ·refine Ev.one (fun k => ?_)
     simp only [impl_StateOk.l2]
     rw [if_pos (by omega), if_pos (by omega), if_pos (by omega), rd_I, if_neg c1, if_neg c2, if_pos c3, if_neg]
     simp only [pathOk, Bool.and_eq_true, decide_eq_true_eq]; omega
    ·refine Ev.eq (Ev.step (fun k => ?_) (iok2 hR P hP j r hj hnext d (i + 1) (P.getD i 0) (by omega))) ?_
     ·simp only [impl_StateOk.l2]
      rw [if_pos (by omega), if_pos (by omega), if_pos (by omega), rd_I, if_neg c1, if_neg c2, if_neg c3, wsucc hi (by omega)]
     ·have : 0 ≤ P.getD i 0 ∧ P.getD i 0 < (R.length : Int) ∧ P.getD i 0 ≠ a := ⟨by omega, by omega, c3⟩
      simp only [pathOk, this, decide_true, Bool.true_and, and_self, ne_eq, not_false_eq_true]
theorem iok2bad (hR : R.length ≤ 40) (P : List Int) (hP : P.length ≤ 8) (j : Nat) : ∀ (d i : Nat) (a : Int), i + d = P.length → pathOk R.length a (P.drop i) = false →
  Ev (fun k => impl_StateOk.l2 k (R.length : Int) a T (T.length : Int) (j : Int) P (P.length : Int) (i : Int) R T N) 3
 | 0, i, a, h, hb => by
  rw [List.drop_eq_nil_of_le (show P.length ≤ i by omega)] at hb; simp [pathOk] at hb
 | d + 1, i, a, h, hb => by
  have hi : i < P.length := by omega
  rw [drop_cons 0 hi] at hb
  by_cases c1 : P.getD i 0 < 0
  ·refine Ev.one (fun k => ?_)
   simp only [impl_StateOk.l2]
   rw [if_pos (by omega), if_pos (by omega), if_pos (by omega), rd_I, if_pos c1]
  ·by_cases c2 : P.getD i 0 ≥ (R.length : Int)
   ·refine Ev.one (fun k => ?_)
    simp only [impl_StateOk.l2]
    rw [if_pos (by omega), if_pos (by omega), if_pos (by omega), rd_I, if_neg c1, if_pos c2]
   ·by_cases c3 : P.getD i 0 = a
    ·refine Ev.one (fun k => ?_)
     simp only [impl_StateOk.l2]
     rw [if_pos (by omega), if_pos (by omega), if_pos (by omega), rd_I, if_neg c1, if_neg c2, if_pos c3]
    ·have : 0 ≤ P.getD i 0 ∧ P.getD i 0 < (R.length : Int) ∧ P.getD i 0 ≠ a := ⟨by omega, by omega, c3⟩
     simp only [pathOk, this, decide_true, Bool.true_and, and_self, ne_eq, not_false_eq_true] at hb
     refine Ev.step (fun k => ?_) (iok2bad hR P hP j d (i + 1) (P.getD i 0) (by omega) hb)
     simp only [impl_StateOk.l2]
     rw [if_pos (by omega), if_pos (by omega), if_pos (by omega), rd_I, if_neg c1, if_neg c2, if_neg c3, wsucc hi (by omega)]
theorem iok1 (hR : R.length ≤ 40) (hT : T.length ≤ 5) (hN : N.length = T.length) (hpre : ∀ t ∈ T, True) : ∀ (d i : Nat), i + d = T.length → (T.take i).all (trainOk R.length) = true →
  Ev (fun k => impl_StateOk.l1 k (R.length : Int) T (T.length : Int) (i : Int) R T N) (if (T.drop i).all (trainOk R.length) = true then rest3 R T N else 3)
 | 0, i, h, hb => by
  rw [List.take_of_length_le (show T.length ≤ i by omega)] at hb
  refine Ev.eq (Ev.step (fun k => ?_) (iok3 R T N hR hT hN hb N.length 0 (-1) (by omega))) ?_
  ·simp only [impl_StateOk.l1]; rw [if_neg (by omega)]; rfl
  ·rw [List.drop_eq_nil_of_le (show T.length ≤ i by omega)]; simp [rest3]
 | d + 1, i, h, hb => by
  have hi : i < T.length := by omega
  rw [drop_cons z48 hi, List.all_cons]
  have bad : ∀ (hbad : ¬ (0 ≤ (T.getD i z48).f0 ∧ (T.getD i z48).f0 < (R.length : Int) ∧ (T.getD i z48).f1.length ≤ 8 ∧ 1 ≤ (T.getD i z48).f2 ∧ (T.getD i z48).f2 ≤ 100)),
    Ev (fun k => impl_StateOk.l1 k (R.length : Int) T (T.length : Int) (i : Int) R T N) (if (trainOk R.length (T.getD i z48) && (T.drop (i + 1)).all (trainOk R.length)) = true then rest3 R T N else 3) := by
   intro hbad
   refine Ev.eq (Ev.step (f := fun k => impl_StateOk.j3 k (R.length : Int) T (T.length : Int) (i : Int) true R T N (T.getD i z48).f0 (T.getD i z48).f1 (T.getD i z48).f2) (fun k => ?_) (Ev.one (r := 3) (fun k => by simp only [impl_StateOk.j3, if_true]))) ?_
   ·simp only [impl_StateOk.l1]
    rw [if_pos (by omega), if_pos (by omega), if_pos (by omega)]
    simp only [rd_T]
    by_cases d1 : (T.getD i z48).f0 < 0
    ·rw [if_pos d1]
    ·rw [if_neg d1]
     by_cases d2 : (T.getD i z48).f0 ≥ (R.length : Int)
     ·rw [if_pos d2]
     ·rw [if_neg d2]
      by_cases d3 : ((T.getD i z48).f1.length : Int) > 8
      ·rw [if_pos d3]
      ·rw [if_neg d3]
       by_cases d4 : (T.getD i z48).f2 < 1
       ·rw [if_pos d4]
       ·rw [if_neg d4, show decide ((T.getD i z48).f2 > 100) = true from decide_eq_true (by omega)]
   ·rw [if_neg]; simp only [trainOk, Bool.and_eq_true, decide_eq_true_eq]; intro hh; exact hbad hh.1.1
  by_cases hg : 0 ≤ (T.getD i z48).f0 ∧ (T.getD i z48).f0 < (R.length : Int) ∧ (T.getD i z48).f1.length ≤ 8 ∧ 1 ≤ (T.getD i z48).f2 ∧ (T.getD i z48).f2 ≤ 100
  ·by_cases hp : pathOk R.length (T.getD i z48).f0 (T.getD i z48).f1 = true
   ·have hb' : (T.take (i + 1)).all (trainOk R.length) = true := by
     rw [List.take_succ_eq_append_getElem hi, List.all_append, hb]
     have e : T[i] = T.getD i z48 := by rw [List.getD_eq_getElem?_getD, List.getElem?_eq_getElem hi]; rfl
     simp only [List.all_cons, List.all_nil, e, trainOk, hg, hp, and_self, decide_true, Bool.and_self]
    have ih := iok1 hR hT hN hpre d (i + 1) (by omega) hb'
    have h2 := iok2 R T N hR (T.getD i z48).f1 hg.2.2.1 i _ (by omega) ih (T.getD i z48).f1.length 0 (T.getD i z48).f0 (by omega)
    refine Ev.eq (Ev.step (f := fun k => impl_StateOk.j3 k (R.length : Int) T (T.length : Int) (i : Int) false R T N (T.getD i z48).f0 (T.getD i z48).f1 (T.getD i z48).f2) (fun k => ?_) (Ev.step (fun k => ?_) h2)) ?_
    ·simp only [impl_StateOk.l1]
     rw [if_pos (by omega), if_pos (by omega), if_pos (by omega)]
     simp only [rd_T]
     rw [if_neg (by omega), if_neg (by omega), if_neg (by omega), if_neg (by omega), show decide ((T.getD i z48).f2 > 100) = false from decide_eq_false (by omega)]
    ·simp only [impl_StateOk.j3]
     rw [if_neg (by simp)]
     rfl
    ·simp only [trainOk, hg, hp, and_self, decide_true, Bool.and_self, Bool.true_and, List.drop_zero, if_true]
   ·have hp' : pathOk R.length (T.getD i z48).f0 (T.getD i z48).f1 = false := by simpa using hp
    -- the loop over the path ends with 3 whatever stands behind
    have h2 : Ev (fun k => impl_StateOk.l2 k (R.length : Int) (T.getD i z48).f0 T (T.length : Int) (i : Int) (T.getD i z48).f1 ((T.getD i z48).f1.length : Int) ((0 : Nat) : Int) R T N) 3 := iok2bad R T N hR (T.getD i z48).f1 hg.2.2.1 i (T.getD i z48).f1.length 0 (T.getD i z48).f0 (by omega) (by simpa using hp')
    refine Ev.eq (Ev.step (f := fun k => impl_StateOk.j3 k (R.length : Int) T (T.length : Int) (i : Int) false R T N (T.getD i z48).f0 (T.getD i z48).f1 (T.getD i z48).f2) (fun k => ?_) (Ev.step (fun k => ?_) h2)) ?_
    ·simp only [impl_StateOk.l1]
     rw [if_pos (by omega), if_pos (by omega), if_pos (by omega)]
     simp only [rd_T]
     rw [if_neg (by omega), if_neg (by omega), if_neg (by omega), if_neg (by omega), show decide ((T.getD i z48).f2 > 100) = false from decide_eq_false (by omega)]
    ·simp only [impl_StateOk.j3]
     rw [if_neg (by simp)]
     rfl
    ·simp only [trainOk, hp', Bool.and_false, Bool.false_and, Bool.false_eq_true, if_false]
  ·exact bad hg
theorem iok0 (hR : R.length ≤ 40) (hT : T.length ≤ 5) (hN : N.length = T.length) : ∀ (d i : Nat), i + d = R.length →
  Ev (fun k => impl_StateOk.l0 k (R.length : Int) R (R.length : Int) (i : Int) R T N) (if (R.drop i).all roomOk = true then if T.all (trainOk R.length) = true then rest3 R T N else 3 else 2)
 | 0, i, h => by
  refine Ev.eq (Ev.step (fun k => ?_) (iok1 R T N hR hT hN (fun _ _ => trivial) T.length 0 (by omega) (by simp))) ?_
  ·simp only [impl_StateOk.l0]; rw [if_neg (by omega)]; rfl
  ·rw [List.drop_eq_nil_of_le (show R.length ≤ i by omega)]; simp
 | d + 1, i, h => by
  have hi : i < R.length := by omega
  rw [drop_cons 0 hi, List.all_cons]
  by_cases c1 : R.getD i 0 < 1
  ·refine Ev.one (fun k => ?_)
   simp only [impl_StateOk.l0]
   rw [if_pos (by omega), if_pos (by omega), if_pos (by omega), rd_I, if_pos c1, show roomOk (R.getD i 0) = false from decide_eq_false (by omega)]; simp
  ·by_cases c2 : R.getD i 0 > 5
   ·refine Ev.one (fun k => ?_)
    simp only [impl_StateOk.l0]
    rw [if_pos (by omega), if_pos (by omega), if_pos (by omega), rd_I, if_neg c1, if_pos c2, show roomOk (R.getD i 0) = false from decide_eq_false (by omega)]; simp
   ·refine Ev.eq (Ev.step (fun k => ?_) (iok0 hR hT hN d (i + 1) (by omega))) ?_
    ·simp only [impl_StateOk.l0]
     rw [if_pos (by omega), if_pos (by omega), if_pos (by omega), rd_I, if_neg c1, if_neg c2, wsucc hi (by omega)]
    ·rw [show roomOk (R.getD i 0) = true from decide_eq_true (by omega)]; simp
theorem implStateOk_tells (hR : R.length ≤ 1048576) (hT : T.length ≤ 1048576) (hN : N.length ≤ 1048576) : Ev (fun k => impl_StateOk.f k R T N) (okS R T N) := by
 unfold impl_StateOk.f
 by_cases c0 : (R.length : Int) < 1
 ·simp only [if_pos c0]
  refine Ev.eq (Ev.one (r := 1) (fun k => by simp only [impl_StateOk.j0, if_true])) ?_
  unfold okS; rw [if_neg (by omega)]
 ·simp only [if_neg c0]
  by_cases c1 : (R.length : Int) > 40
  ·simp only [if_pos c1]
   refine Ev.eq (Ev.one (r := 1) (fun k => by simp only [impl_StateOk.j0, if_true])) ?_
   unfold okS; rw [if_neg (by omega)]
  ·simp only [if_neg c1]
   by_cases c2 : (T.length : Int) > 5
   ·simp only [if_pos c2]
    refine Ev.eq (Ev.one (r := 1) (fun k => by simp only [impl_StateOk.j0, if_true])) ?_
    unfold okS; rw [if_neg (by omega)]
   ·simp only [if_neg c2]
    by_cases c3 : N.length = T.length
    ·refine Ev.eq (Ev.step (fun k => ?_) (iok0 R T N (by omega) (by omega) c3 R.length 0 (by omega))) ?_
     ·simp only [impl_StateOk.j0]; rw [if_neg (by simp; omega)]; rfl
     ·have hh : 1 ≤ R.length ∧ R.length ≤ 40 ∧ T.length ≤ 5 ∧ N.length = T.length := ⟨by omega, by omega, by omega, c3⟩
      unfold okS rest3; rw [List.drop_zero, if_pos hh]
    ·refine Ev.eq (Ev.one (r := 1) (fun k => ?_)) ?_
     ·simp only [impl_StateOk.j0]; rw [if_pos (by simp; omega)]
     ·unfold okS; rw [if_neg (by omega)]
end
end Go.Proofs.YtkcocomehhlpmaaDoor.Pu
