/- The law FnJust answers true at all bytes. No program in sight. -/
import Derived.Test.YtpbclogjoangfaaFnJustKw0
import Derived.Test.YtpbclogjoangfaaFnJustPuSt
import Derived.Test.YtpbclogjoangfaaFnJustHlawsFnJust
namespace Go.Proofs.Ytpbclogjoangfaa.Ju
open Go.RowKit Go.Proofs.YtpbclogjoangfaaW.PrintWords Go.Proofs.YtpbclogjoangfaaW.PrintLast Go.Proofs.Ytpbclogjoangfaa.Q Go.Proofs.Ytpbclogjoangfaa.Pu Go.Proofs.Ytpbclogjoangfaa.Sr Go.Proofs.Ytpbclogjoangfaa.Sp Go.Proofs.Ytpbclogjoangfaa.Al Go.Proofs.Ytpbclogjoangfaa.So Go.Proofs.Ytpbclogjoangfaa.Me Go.Proofs.Ytpbclogjoangfaa.Wk Go.Proofs.Ytpbclogjoangfaa.St
set_option linter.unusedVariables false
set_option linter.unusedSimpArgs false
attribute [local irreducible] V
theorem byte_at {l : List Int} (hw : ∀ x ∈ l, 0 ≤ x ∧ x ≤ 255) (i : Nat) {n : Nat} (hn : 0 < n) : ∃ (b : Int) (q : Nat), laws_wByte.f l (i : Int) = some b ∧ Int.tmod b (n : Int) = (q : Int) ∧ q < n := by
 obtain ⟨b, e⟩ := wByte_ok l hw i
 refine ⟨_, b % n, e, ?_, Nat.mod_lt _ hn⟩
 rw [Int.tmod_eq_emod_of_nonneg (by omega)]; rfl
theorem bytes_ok {l : List Int} (h : ∀ x ∈ l, (Lit.int .u8 x).wf = true) : ∀ x ∈ l, 0 ≤ x ∧ x ≤ 255 := by
 intro x hx
 have h := h x hx
 have h4 : IntKind.u8.min = 0 := rfl
 have h5 : IntKind.u8.max = 255 := rfl
 simp only [Lit.wf, Bool.and_eq_true, decide_eq_true_eq, h4, h5] at h
 omega
theorem moves_len {R : List Int} {T : List S35} {N : List Int} : (movesD R T N).length ≤ T.length := by
 unfold movesD
 split
 ·exact mvF_len T.length 0
 ·simp
section
variable {R : List Int} {T : List S35} {N : List Int} {m : List Int} (hm : ∀ x ∈ m, 0 ≤ x ∧ x ≤ 255) (A C : List Int) (i : Nat) (hi : i < 100) (b : Bool)
 (hnext : Ev (fun k => laws_FnJust.l0 k m A C (C.length : Int) ((i + 1 : Nat) : Int) R T N) true)
include hm hi hnext
/-- Drawn moves: where they end with nobody left, the move was allowed. -/
theorem walk_tells : ∀ (d q : Nat) (U : List S35) (M : List Int), q + d = 50 → Right R U M → (0 ≤ val R U → b = true) → Ev (fun k => laws_FnJust.l2 k m A (i : Int) b (q : Int) C (C.length : Int) (i : Int) R T N R U M) true := by
 have ei : wrap64 ((i : Int) + 1) = ((i + 1 : Nat) : Int) := by rw [w64 (by omega) (by omega)]; omega
 have out : ∀ (q : Nat) (U : List S35) (M : List Int), Right R U M → (0 ≤ val R U → b = true) → Ev (fun k => if (U.length : Int) = 0 then (if b = true then (laws_FnJust.l0 k m A C (C.length : Int) (wrap64 ((i : Int) + 1)) R T N) else (some false)) else (laws_FnJust.l0 k m A C (C.length : Int) (wrap64 ((i : Int) + 1)) R T N)) true := by
  intro q U M hr hb
  rw [ei]
  by_cases c : (U.length : Int) = 0
  ·have hU : U = [] := List.eq_nil_of_length_eq_zero (by omega)
   have hb1 := hb (by rw [hU, val_nil]; omega)
   simp only [c, if_true, hb1]
   exact hnext
  ·simp only [c, if_false]
   exact hnext
 intro d
 induction d with
 | zero =>
  intro q U M hq hr hb
  have c : ¬ ((q : Int) < 50) := by omega
  refine Ev.step (fun K => by simp only [laws_FnJust.l2, c, if_false]; rfl) ?_
  refine Ev.step (fun K => by simp only [laws_FnJust.j5, Bool.false_eq_true, if_false]; rfl) ?_
  exact out q U M hr hb
 | succ d ih =>
  intro q U M hq hr hb
  have c : (q : Int) < 50 := by omega
  refine Ev.step (fun K => by simp only [laws_FnJust.l2, c, if_true]; rfl) ?_
  by_cases cu : (U.length : Int) > 0
  ·rw [decide_eq_true cu]
   refine Ev.step (fun K => by simp only [laws_FnJust.j5, if_true]; rfl) ?_
   have h1 := hr.r1
   have h2 := hr.t1
   have h3 := hr.n1
   refine Ev.bind' (specMoves_tells (R := R) (T := U) (N := M) (by omega) (by omega) (by omega)) ?_
   by_cases cm : ((movesD R U M).length : Int) = 0
   ·simp only [if_pos cm]
    exact out q U M hr hb
   ·simp only [if_neg cm]
    obtain ⟨y, z, ey, ez, hz⟩ := byte_at hm (i + q) (show 0 < (movesD R U M).length by omega)
    have ew : wrap64 ((i : Int) + (q : Int)) = ((i + q : Nat) : Int) := by rw [w64 (by omega) (by omega)]; omega
    have eq1 : wrap64 ((q : Int) + 1) = ((q + 1 : Nat) : Int) := by rw [w64 (by omega) (by omega)]; omega
    have e2 : (0 : Int) ≤ (z : Int) := by omega
    have e3 : (z : Int) < ((movesD R U M).length : Int) := by omega
    simp only [ew, ey, Option.bind_some, ez, e2, e3, if_true, rd_I, eq1]
    obtain ⟨p, hp, hc, ha, hs⟩ := move_of hr (getD_mem 0 hz)
    obtain ⟨hf, hr2⟩ := step_right hr hp hc
    refine Ev.bind' (Ev.eq (specStep_tells (by omega) (by omega) (by omega) _) hs) ?_
    simp only [hf]
    exact ih (q + 1) _ _ (by omega) hr2 fun hv => hb (val_up hr.wf hp hc hv)
  ·rw [decide_eq_false cu]
   refine Ev.step (fun K => by simp only [laws_FnJust.j5, Bool.false_eq_true, if_false]; rfl) ?_
   exact out q U M hr hb
end
section
variable {R : List Int} {T : List S35} {N : List Int} {m : List Int} (hm : ∀ x ∈ m, 0 ≤ x ∧ x ≤ 255) (h : Right R T N)
include hm h
theorem one_tells (i : Nat) (hi : i < (movesD R T N).length) (hnext : Ev (fun k => laws_FnJust.l0 k m (allowedD R T N) (movesD R T N) ((movesD R T N).length : Int) ((i + 1 : Nat) : Int) R T N) true) :
  ∀ (d j : Nat) (b : Bool), j + d = (allowedD R T N).length → (b = true ↔ (movesD R T N).getD i 0 ∈ (allowedD R T N).take j) →
   Ev (fun k => laws_FnJust.l1 k m (allowedD R T N) (i : Int) ((movesD R T N).getD i 0) b (movesD R T N) ((movesD R T N).length : Int) (i : Int) (allowedD R T N) ((allowedD R T N).length : Int) (j : Int) R T N) true := by
 have h1 := h.r1
 have h2 := h.t1
 have h3 := h.n1
 have hml := moves_len (R := R) (T := T) (N := N)
 obtain ⟨p, hp, hc, ha, hs⟩ := move_of h (getD_mem 0 hi)
 have hal := allowed_iff h hp hc
 rw [← ha] at hal
 obtain ⟨hf, hr2⟩ := step_right h hp hc
 have hAl : (allowedD R T N).length ≤ 5 := by
  unfold allowedD
  split
  ·have := alD_len R T N T.length; omega
  ·simp
 generalize (movesD R T N).getD i 0 = a at *
 generalize hA : allowedD R T N = A at *
 generalize movesD R T N = C at *
 intro d
 induction d with
 | zero =>
  intro j b hj hb
  rw [List.take_of_length_le (by omega), hal] at hb
  have c : ¬ ((j : Int) < (A.length : Int)) := by omega
  refine Ev.step (fun K => by simp only [laws_FnJust.l1, c, if_false]; rfl) ?_
  refine Ev.bind' (Ev.eq (specStep_tells (by omega) (by omega) (by omega) _) hs) ?_
  simp only [hf]
  generalize (stepD R T N p).2.1 = U at *
  generalize (stepD R T N p).2.2 = M at *
  have hend : Ev (fun k => laws_FnJust.j3 k m A (i : Int) b C (C.length : Int) (i : Int) false R T N R U M) true := by
   refine Ev.step (fun K => by simp only [laws_FnJust.j3, Bool.false_eq_true, if_false]; rfl) ?_
   exact walk_tells hm A C i (by omega) b hnext 50 0 U M (by omega) hr2 hb.2
  by_cases cu : (U.length : Int) = 0
  ·have hU : U = [] := List.eq_nil_of_length_eq_zero (by omega)
   have hb1 : b = true := hb.2 (by rw [hU, val_nil]; omega)
   simp only [if_pos cu]
   subst hb1
   exact hend
  ·simp only [if_neg cu]
   have g1 := hr2.r1
   have g2 := hr2.t1
   have g3 := hr2.n1
   refine Ev.bind' (implSolve_tells (by omega) (by omega) (by omega)) ?_
   have e : (b != (solveD R U M).1) = false := by
    rw [solve_ok hr2]
    cases b with
    | true => rw [decide_eq_true (hb.1 rfl)]; rfl
    | false => rw [decide_eq_false (fun hv => Bool.false_ne_true (hb.2 hv))]; rfl
   simp only [e]
   exact hend
 | succ d ih =>
  intro j b hj hb
  have c : (j : Int) < (A.length : Int) := by omega
  have c0 : (0 : Int) ≤ (j : Int) := by omega
  have ej : wrap64 ((j : Int) + 1) = ((j + 1 : Nat) : Int) := by rw [w64 (by omega) (by omega)]; omega
  have ht : A.take (j + 1) = A.take j ++ [A.getD j 0] := by
   rw [List.take_add_one]
   simp [List.getD, show j < A.length by omega]
  by_cases cb : b = true
  ·subst cb
   refine Ev.step (fun K => ?_) (ih (j + 1) true (by omega) ?_)
   ·simp only [laws_FnJust.l1, c, c0, if_true, ej]
   ·rw [ht]
    exact ⟨fun _ => List.mem_append_left _ (hb.1 rfl), fun _ => rfl⟩
  ·refine Ev.step (fun K => ?_) (ih (j + 1) (A.getD j 0 == a) (by omega) ?_)
   ·simp only [laws_FnJust.l1, c, c0, if_true, ej, cb, if_false, rd_I, Bool.false_eq_true]
   ·rw [ht, List.mem_append]
    constructor
    ·intro he
     exact .inr (by rw [eq_of_beq he]; simp)
    ·rintro (he | he)
     ·exact absurd (hb.2 he) cb
     ·rw [List.mem_singleton.1 he]; simp
end
theorem all_tells {R : List Int} {T : List S35} {N : List Int} {m : List Int} (hm : ∀ x ∈ m, 0 ≤ x ∧ x ≤ 255) (hT : T.length ≤ 100) : ∀ (d i : Nat), i + d = (movesD R T N).length → Ev (fun k => laws_FnJust.l0 k m (allowedD R T N) (movesD R T N) ((movesD R T N).length : Int) (i : Int) R T N) true := by
 have hml := moves_len (R := R) (T := T) (N := N)
 intro d
 induction d with
 | zero =>
  intro i hi
  refine Ev.one fun k => ?_
  simp only [laws_FnJust.l0]
  rw [if_neg (by omega)]
 | succ d ih =>
  intro i hi
  have ho : okS R T N = 0 := by
   by_cases c : okS R T N = 0
   ·exact c
   ·have : movesD R T N = [] := by unfold movesD; rw [if_neg c]
    rw [this] at hi; simp at hi
  have hr := (right_iff R T N).1 ho
  refine Ev.step (fun K => ?_) (one_tells hm hr i (by omega) (ih (i + 1) (by omega)) (allowedD R T N).length 0 false (by omega) ?_)
  ·simp only [laws_FnJust.l0]
   rw [if_pos (by omega), if_pos (by omega), if_pos (by omega), rd_I]
   rfl
  ·simp
theorem FnJust_ev (l m : List Int) (hl : ∀ x ∈ l, 0 ≤ x ∧ x ≤ 255) (hm : ∀ x ∈ m, 0 ≤ x ∧ x ≤ 255) : Ev (fun k => laws_FnJust.f k l m) true := by
 have yes : Ev (fun k => laws_FnJust.j0 k l m true) true := Ev.one fun k => by simp only [laws_FnJust.j0, if_true]
 have no : Ev (fun k => laws_FnJust.j0 k l m false) true := by
  obtain ⟨R, T, N, hst, hR, hT, hN⟩ := States_tells hl
  refine Ev.step (fun K => by simp only [laws_FnJust.j0, Bool.false_eq_true, if_false]; rfl) ?_
  refine Ev.bind' hst ?_
  refine Ev.bind' (implMoves_tells (R := R) (T := T) (N := N) (by omega) (by omega) (by omega)) ?_
  refine Ev.bind' (implAllowed_tells (R := R) (T := T) (N := N) (by omega) (by omega) (by omega)) ?_
  refine Ev.bind' (specMoves_tells (R := R) (T := T) (N := N) (by omega) (by omega) (by omega)) ?_
  have hml := moves_len (R := R) (T := T) (N := N)
  refine Ev.bind' (wInts_tells _ (by omega)) ?_
  simp only [if_true]
  exact all_tells hm hT (movesD R T N).length 0 (by omega)
 unfold laws_FnJust.f
 by_cases c : (l.length : Int) > 1048576
 ·simp only [c, if_true]; exact yes
 ·simp only [c, if_false]
  by_cases d : (m.length : Int) > 1048576
  ·rw [decide_eq_true d]; exact yes
  ·rw [decide_eq_false d]; exact no
theorem FnJust_pure : laws_FnJust.Pure := by
 intro l m h1 h2 h3 h4 h5 h6
 exact (FnJust_ev l m (bytes_ok h3) (bytes_ok h6)).rounds
end Go.Proofs.Ytpbclogjoangfaa.Ju
