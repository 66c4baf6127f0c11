-- kinds of the print that the base texts lack (wip/hx.py)
import Derived.Test.YtpbclogjoangfaaFnTopPuStep
import Derived.Test.YtpbclogjoangfaaFnTopQ7
import Derived.Test.YtpbclogjoangfaaFnTopQ6
import Derived.Test.YtpbclogjoangfaaFnTopQ0
namespace Go.Proofs.Ytpbclogjoangfaa.Wk
open Go.RowKit Go.Proofs.YtpbclogjoangfaaW.PrintWords Go.Proofs.YtpbclogjoangfaaW.PrintLast Go.Proofs.Ytpbclogjoangfaa.Q Go.Proofs.Ytpbclogjoangfaa.Pu Go.Proofs.Ytpbclogjoangfaa.Sr Go.Proofs.Ytpbclogjoangfaa.Sp Go.Proofs.Ytpbclogjoangfaa.Al Go.Proofs.Ytpbclogjoangfaa.So Go.Proofs.Ytpbclogjoangfaa.Me
set_option linter.unusedVariables false
set_option linter.unusedSimpArgs false
theorem namesOk_le : ∀ {l : List Int} {a b : Int}, a ≤ b → namesOk b l = true → namesOk a l = true
 | [], _, _, _, _ => rfl
 | x :: l, a, b, h, hn => by
  simp only [namesOk, Bool.and_eq_true, decide_eq_true_eq] at hn ⊢
  exact ⟨⟨by omega, hn.1.2⟩, hn.2⟩
theorem namesOk_erase : ∀ {l : List Int} {a : Int} (k : Nat), namesOk a l = true → namesOk a (l.eraseIdx k) = true
 | [], _, _, _ => rfl
 | x :: l, a, 0, h => by
  simp only [namesOk, Bool.and_eq_true, decide_eq_true_eq] at h
  exact namesOk_le (by omega) h.2
 | x :: l, a, k + 1, h => by
  simp only [namesOk, Bool.and_eq_true, decide_eq_true_eq, List.eraseIdx_cons_succ] at h ⊢
  exact ⟨h.1, namesOk_erase k h.2⟩
theorem roomsOk_iff (T : List S35) : ∀ (l : List Int) (i : Nat), roomsOk T i l = true ↔ ∀ j, j < l.length → (cnt T ((i + j : Nat) : Int) : Int) ≤ l.getD j 0
 | [], i => by simp [roomsOk]
 | r :: rs, i => by
  simp only [roomsOk, Bool.and_eq_true, decide_eq_true_eq, roomsOk_iff T rs (i + 1)]
  constructor
  ·rintro ⟨h1, h2⟩ j hj
   cases j with
   | zero => simpa using h1
   | succ j =>
    have := h2 j (by simpa using hj)
    rw [show i + (j + 1) = i + 1 + j by omega]
    simpa using this
  ·intro h
   refine ⟨by simpa using h 0 (by simp), fun j hj => ?_⟩
   have := h (j + 1) (by simpa using hj)
   rw [show i + (j + 1) = i + 1 + j by omega] at this
   simpa using this
section
variable {R : List Int} {T : List S35} {N : List Int}
theorem step_right (h : Right R T N) {i : Nat} (hi : i < T.length) (hc : canB R T i = true) : (stepD R T N i).1 = R ∧ Right R (stepD R T N i).2.1 (stepD R T N i).2.2 := by
 have hn := h.n1
 have hfit := (roomsOk_iff T R 0).1 h.fits
 have hw := h.wf
 have htr := List.all_eq_true.1 h.trains
 have hm := getD_mem z35 hi
 unfold stepD
 unfold canB at hc
 have hti := htr _ hm
 generalize hq : T.getD i z35 = t at *
 cases hp : t.f1 with
 | nil =>
  refine ⟨rfl, h.r0, h.r1, ?_, ?_, h.room, ?_, namesOk_erase i h.names, ?_⟩
  ·show (T.eraseIdx i).length ≤ 5
   have := h.t1
   rw [List.length_eraseIdx]; split <;> omega
  ·show (N.eraseIdx i).length = (T.eraseIdx i).length
   rw [List.length_eraseIdx, List.length_eraseIdx, hn]
  ·exact List.all_eq_true.2 fun y hy => htr y (List.mem_of_mem_eraseIdx hy)
  ·refine (roomsOk_iff _ R 0).2 fun j hj => ?_
   have h1 := hfit j hj
   have h2 : cnt (T.eraseIdx i) ((0 + j : Nat) : Int) ≤ cnt T ((0 + j : Nat) : Int) := (List.eraseIdx_sublist T i).countP_le
   show (cnt (T.eraseIdx i) _ : Int) ≤ _
   omega
 | cons x p =>
  rw [hp] at hc
  have hc1 := of_decide_eq_true hc
  simp only [trainOk, Bool.and_eq_true, decide_eq_true_eq, hp, pathOk, List.length_cons] at hti
  refine ⟨rfl, h.r0, h.r1, ?_, ?_, h.room, ?_, h.names, ?_⟩
  ·show (T.set i _).length ≤ 5
   rw [List.length_set]; exact h.t1
  ·show N.length = (T.set i _).length
   rw [List.length_set]; exact hn
  ·refine List.all_eq_true.2 fun y hy => ?_
   rcases List.mem_or_eq_of_mem_set hy with hy | rfl
   ·exact htr y hy
   ·simp only [trainOk, Bool.and_eq_true, decide_eq_true_eq]
    exact ⟨⟨hti.2.1.1, hti.2.1.2.1, by omega, hti.1.2.2.2⟩, hti.2.2⟩
  ·refine (roomsOk_iff _ R 0).2 fun j hj => ?_
   have h1 := hfit j hj
   show (cnt (T.set i ⟨x, p, t.f2⟩) _ : Int) ≤ _
   unfold cnt
   rw [List.countP_set hi]
   by_cases e : x = ((0 + j : Nat) : Int)
   ·rw [e] at hc1
    have e2 : (((0 + j : Nat) : Int)).toNat = j := by omega
    rw [e2] at hc1
    unfold cnt at hc1
    simp only [e, decide_true, if_true]
    split <;> omega
   ·simp only [decide_eq_false e, Bool.false_eq_true, if_false]
    unfold cnt at h1
    split <;> omega
/-- What a state costs. -/
def val (R : List Int) (T : List S35) : Int := V R T zv
end
end Go.Proofs.Ytpbclogjoangfaa.Wk
namespace Go.Proofs.Ytpbclogjoangfaa.Q
open Go.RowKit Go.Proofs.YtpbclogjoangfaaW.PrintWords Go.Proofs.YtpbclogjoangfaaW.PrintLast Go.Proofs.YtpbclogjoangfaaW.PrintMore
attribute [local go_sem] max2_int min2_int max_two min_two max_three min_three max_four min_four   -- for this text's walks alone
set_option linter.unusedVariables false
set_option linter.unusedSimpArgs false



theorem info33 : (Try.prog.info? 33).map (fun i => (i.zero, i.size, i.bytes)) = some (some (.agg #[(.int .i64 0), (.slice none 0 0), (.slice none 0 0), (.slice none 0 0)]), 4, 80) := by kernel_rfl
end Go.Proofs.Ytpbclogjoangfaa.Q
