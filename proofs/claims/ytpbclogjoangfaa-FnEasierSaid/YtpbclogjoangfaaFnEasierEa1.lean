/- The law FnEasier answers true at all bytes. No program in sight. -/
import Derived.Test.YtpbclogjoangfaaFnEasierEa0
import Derived.Test.YtpbclogjoangfaaFnEasierPuSt
import Derived.Test.YtpbclogjoangfaaFnEasierHlawsFnEasier
namespace Go.Proofs.Ytpbclogjoangfaa.Ea
open Go.RowKit Go.Proofs.YtpbclogjoangfaaW.PrintWords Go.Proofs.YtpbclogjoangfaaW.PrintLast Go.Proofs.Ytpbclogjoangfaa.Q Go.Proofs.Ytpbclogjoangfaa.Pu Go.Proofs.Ytpbclogjoangfaa.Sr Go.Proofs.Ytpbclogjoangfaa.Sp Go.Proofs.Ytpbclogjoangfaa.Al Go.Proofs.Ytpbclogjoangfaa.So Go.Proofs.Ytpbclogjoangfaa.Me Go.Proofs.Ytpbclogjoangfaa.Wk Go.Proofs.Ytpbclogjoangfaa.St
set_option linter.unusedVariables false
set_option linter.unusedSimpArgs false
attribute [local irreducible] V
theorem solve_yes {R : List Int} {T : List S35} {N : List Int} (ho : okS R T N = 0) (hv : 0 ≤ V R T zv) : solveD R T N = (true, V R T zv, (pthP R T zv).map (fun i => N.getD i 0)) := by
 unfold solveD
 rw [if_pos ho, if_neg (by omega)]
theorem solve_no {R : List Int} {T : List S35} {N : List Int} (h : ¬ (okS R T N = 0 ∧ 0 ≤ V R T zv)) : solveD R T N = (false, 0, []) := by
 unfold solveD
 by_cases c : okS R T N = 0
 ·rw [if_pos c, if_pos (by omega)]
 ·rw [if_neg c]
theorem fin_tells {R : List Int} {T : List S35} {N : List Int} {a : Int} (h : Right R T N) (hv : 0 ≤ V R T zv) (ha : V R T zv ≤ a) :
  Ev (fun k => (impl_Solve.f k R T N).bind fun bt => if bt.1 = true then (if bt.2.1 ≤ a then ((spec_Solve.f k R T N).bind fun bt2 => some (bt.2.1 == bt2.2.1)) else some false) else some false) true := by
 have ho := (right_iff R T N).2 h
 have h1 := h.r1
 have h2 := h.t1
 have h3 := h.n1
 refine Ev.bind' (Ev.eq (implSolve_tells (by omega) (by omega) (by omega)) (solve_yes ho hv)) ?_
 simp only [if_true, ha]
 refine Ev.bind' (Ev.eq (specSolve_tells (by omega) (by omega) (by omega)) (solve_yes ho hv)) (Ev.all fun _ => ?_)
 simp
theorem byte_at {l : List Int} (hw : ∀ x ∈ l, 0 ≤ x ∧ x ≤ 255) (i : Nat) {n : Nat} (hn : 0 < n) : ∃ (b : Int) (q : Nat), laws_wByte.f l (i : Int) = some b ∧ Int.tmod b (n : Int) = (q : Int) ∧ q < n := by
 obtain ⟨b, e⟩ := wByte_ok l hw i
 refine ⟨_, b % n, e, ?_, Nat.mod_lt _ hn⟩
 rw [Int.tmod_eq_emod_of_nonneg (by omega)]; rfl
section
variable {R : List Int} {T : List S35} {N : List Int} {m : List Int} (hm : ∀ x ∈ m, 0 ≤ x ∧ x ≤ 255) (h : Right R T N) (hv : 0 ≤ V R T zv) (hr : ∀ x ∈ R, x ≤ 4)
include hm h hv hr
theorem j1_room (c : Bool) (y : List Int) : Ev (fun k => laws_FnEasier.j1 k m true c (V R T zv) y R T N) true := by
 have h1 := h.r0
 obtain ⟨b, q, eb, eq, hq⟩ := byte_at hm 1 (show 0 < R.length by omega)
 have eb' : laws_wByte.f m 1 = some b := eb
 have h4 := hr _ (getD_mem 0 hq)
 have h5 := List.all_eq_true.1 h.room _ (getD_mem 0 hq)
 simp only [roomOk, decide_eq_true_eq] at h5
 obtain ⟨hR', hle⟩ := right_room h hq h4
 have hV := V_room h.wf hR'.wf hle _ zv h.wf.t1 rfl hv
 refine Ev.step (fun K => ?_) (fin_tells hR' hV.1 hV.2)
 have e1 : ¬ ((R.length : Int) = 0) := by omega
 have e2 : (0 : Int) ≤ (q : Int) := by omega
 have e3 : (q : Int) < (R.length : Int) := by omega
 have e4 : wrap64 (rd R (q : Int) + 1) = R.getD q 0 + 1 := by rw [rd_I, w64 (by omega) (by omega)]
 simp only [laws_FnEasier.j1, if_true, eb', Option.bind_some, eq, e1, e2, e3, if_false, e4, Int.toNat_natCast]
end
section
variable {R : List Int} {T : List S35} {N : List Int} {m : List Int} (h : Right R T N) (hv : 0 ≤ V R T zv)
include h hv
theorem j1_less (c : Bool) (y : List Int) (ht : 0 < T.length) : Ev (fun k => laws_FnEasier.j1 k m false c (V R T zv) y R T N) true := by
 have h5 := h.t1
 have hn := h.n1
 obtain ⟨p, hp⟩ : ∃ p, T.length = p + 1 := ⟨T.length - 1, by omega⟩
 have hR' := right_take h p
 have hV := V_less hp h.wf hR'.wf _ zv h.wf.t1 rfl hv
 refine Ev.step (fun K => ?_) (fin_tells hR' hV.1 hV.2)
 have e1 : wrap64 ((T.length : Int) - 1) = (p : Int) := by rw [w64 (by omega) (by omega)]; omega
 have e2 : wrap64 ((N.length : Int) - 1) = (p : Int) := by rw [w64 (by omega) (by omega)]; omega
 have e3 : (0 : Int) ≤ (p : Int) := by omega
 have e4 : (p : Int) ≤ (T.length : Int) := by omega
 have e5 : (p : Int) ≤ (N.length : Int) := by omega
 simp only [laws_FnEasier.j1, Bool.false_eq_true, if_false, e1, e2, e3, e4, e5, if_true, Option.bind_some, Int.toNat_natCast]
end
theorem FnEasier_ev (l m : List Int) (hl : ∀ x ∈ l, 0 ≤ x ∧ x ≤ 255) (hm : ∀ x ∈ m, 0 ≤ x ∧ x ≤ 255) : Ev (fun k => laws_FnEasier.f k l m) true := by
 have yes : Ev (fun k => laws_FnEasier.j0 k l m true) true := Ev.one fun k => by simp only [laws_FnEasier.j0, if_true]
 have no : Ev (fun k => laws_FnEasier.j0 k l m false) true := by
  obtain ⟨R, T, N, hst, hR, hT, hN⟩ := States_tells hl
  obtain ⟨b, eb⟩ := wByte_ok m hm 0
  have eb' : laws_wByte.f m 0 = some (b : Int) := eb
  refine Ev.step (fun K => by simp only [laws_FnEasier.j0, Bool.false_eq_true, if_false]; rfl) ?_
  refine Ev.bind' hst ?_
  by_cases c : okS R T N = 0 ∧ 0 ≤ V R T zv
  ·refine Ev.bind' (Ev.eq (implSolve_tells (R := R) (T := T) (N := N) (by omega) (by omega) (by omega)) (solve_yes c.1 c.2)) ?_
   simp only [if_true]
   refine Ev.bind' hst ?_
   simp only [eb', Option.bind_some]
   have hr := (right_iff R T N).1 c.1
   by_cases d : Int.tmod (b : Int) 2 = 0
   ·simp only [if_pos d]
    exact j1_room hm hr c.2 hR.2.2 _ _
   ·simp only [if_neg d]
    by_cases e : T.length = 0
    ·have e2 : ((T.length : Int) == 0) = true := by simp [e]
     simp only [e2]
     exact j1_room hm hr c.2 hR.2.2 _ _
    ·have e2 : ((T.length : Int) == 0) = false := by simpa using e
     simp only [e2]
     exact j1_less hr c.2 _ _ (by omega)
  ·refine Ev.bind' (Ev.eq (implSolve_tells (R := R) (T := T) (N := N) (by omega) (by omega) (by omega)) (solve_no c)) ?_
   simp only [Bool.false_eq_true, if_false]
   refine Ev.bind' (specSafe_tells (R := R) (T := T) (N := N) (by omega) (by omega) (by omega)) (Ev.all fun _ => ?_)
   have hz : V R T [0, 0, 0, 0, 0] = V R T zv := rfl
   rw [hz]
   by_cases d : okS R T N = 0
   ·rw [if_pos d, decide_eq_false (fun h => c ⟨d, h⟩)]; rfl
   ·rw [if_neg d]; rfl
 unfold laws_FnEasier.f
 by_cases c : (l.length : Int) > 1048576
 ·simp only [c, if_true]; exact yes
 ·simp only [c, if_false]
  by_cases d : (m.length : Int) > 1048576
  ·rw [decide_eq_true d]; exact yes
  ·rw [decide_eq_false d]; exact no
theorem bytes_ok {l : List Int} (h : ∀ x ∈ l, (Lit.int .u8 x).wf = true) : ∀ x ∈ l, 0 ≤ x ∧ x ≤ 255 := by
 intro x hx
 have h := h x hx
 have h4 : IntKind.u8.min = 0 := rfl
 have h5 : IntKind.u8.max = 255 := rfl
 simp only [Lit.wf, Bool.and_eq_true, decide_eq_true_eq, h4, h5] at h
 omega
theorem FnEasier_pure : laws_FnEasier.Pure := by
 intro l m h1 h2 h3 h4 h5 h6
 exact (FnEasier_ev l m (bytes_ok h3) (bytes_ok h6)).rounds
end Go.Proofs.Ytpbclogjoangfaa.Ea
