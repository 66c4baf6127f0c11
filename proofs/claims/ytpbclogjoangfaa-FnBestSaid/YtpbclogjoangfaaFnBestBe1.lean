/- The law FnBest answers true at all bytes. No program in sight. -/
import Derived.Test.YtpbclogjoangfaaFnBestBe0
import Derived.Test.YtpbclogjoangfaaFnBestPuSt
import Derived.Test.YtpbclogjoangfaaFnBestHlawsFnBest
namespace Go.Proofs.Ytpbclogjoangfaa.Be
open Go.RowKit Go.Proofs.YtpbclogjoangfaaW.PrintWords Go.Proofs.YtpbclogjoangfaaW.PrintLast Go.Proofs.Ytpbclogjoangfaa.Q Go.Proofs.Ytpbclogjoangfaa.Pu Go.Proofs.Ytpbclogjoangfaa.Sr Go.Proofs.Ytpbclogjoangfaa.Sp Go.Proofs.Ytpbclogjoangfaa.Al Go.Proofs.Ytpbclogjoangfaa.So Go.Proofs.Ytpbclogjoangfaa.Me Go.Proofs.Ytpbclogjoangfaa.Wk Go.Proofs.Ytpbclogjoangfaa.Ea Go.Proofs.Ytpbclogjoangfaa.St
set_option linter.unusedVariables false
set_option linter.unusedSimpArgs false
attribute [local irreducible] V
theorem byte_at {l : List Int} (hw : ∀ x ∈ l, 0 ≤ x ∧ x ≤ 255) (i : Nat) {n : Nat} (hn : 0 < n) : ∃ (b : Int) (q : Nat), laws_wByte.f l (i : Int) = some b ∧ Int.tmod b (n : Int) = (q : Int) ∧ q < n := by
 obtain ⟨b, e⟩ := wByte_ok l hw i
 refine ⟨_, b % n, e, ?_, Nat.mod_lt _ hn⟩
 rw [Int.tmod_eq_emod_of_nonneg (by omega)]; rfl
theorem bytes_ok {l : List Int} (h : ∀ x ∈ l, (Lit.int .u8 x).wf = true) : ∀ x ∈ l, 0 ≤ x ∧ x ≤ 255 := by
 intro x hx
 have h := h x hx
 have h4 : IntKind.u8.min = 0 := rfl
 have h5 : IntKind.u8.max = 255 := rfl
 simp only [Lit.wf, Bool.and_eq_true, decide_eq_true_eq, h4, h5] at h
 omega
/-- A move of a state on the way, by its train. -/
theorem move_at {R : List Int} {T : List S35} {N : List Int} (h : Right R T N) {v : List Nat} (hl : T.length ≤ v.length) (hr : Right R (stT T v) (stN T N v)) {a : Int} (ha : a ∈ movesD R (stT T v) (stN T N v)) :
  ∃ i, i ∈ mvP R T v T.length ∧ a = N.getD i 0 ∧ stD R (stT T v) (stN T N v) a = (R, stT T (inc v i), stN T N (inc v i)) ∧ Right R (stT T (inc v i)) (stN T N (inc v i)) := by
 obtain ⟨k, hk, hc, ea, es⟩ := move_of hr ha
 rw [stT_len] at hk
 have hm := idx_mem.1 (getD_mem 0 hk)
 rw [can_st h.wf hk] at hc
 have e1 := step_st h.wf hl hk
 rw [e1] at es
 have h2 := (step_right hr (by rw [stT_len]; exact hk) (by rw [can_st h.wf hk]; exact hc)).2
 rw [e1] at h2
 refine ⟨(idx T v).getD k 0, List.mem_filter.2 ⟨List.mem_range.2 hm.1, hc⟩, ?_, es, h2⟩
 rw [ea]
 exact mapD _ _ hk 0 0
theorem wr1 {q n : Nat} (hq : q < 100) (hn : n < 100) : wrap64 ((q : Int) + (wrap64 (11 * (n : Int)))) = ((q + 11 * n : Nat) : Int) := by
 rw [w64 (x := 11 * (n : Int)) (by omega) (by omega), w64 (by omega) (by omega)]; omega
theorem wr2 {q : Nat} (hq : q < 100) : wrap64 ((q : Int) + 1) = ((q + 1 : Nat) : Int) := by rw [w64 (by omega) (by omega)]; omega
section
variable {R : List Int} {T : List S35} {N : List Int} {m : List Int} (hm : ∀ x ∈ m, 0 ≤ x ∧ x ≤ 255) (h : Right R T N) (hV : 0 ≤ V R T zv) (n : Nat) (hn : n < 3)
 (hnext : Ev (fun k => laws_FnBest.l0 k m ((n + 1 : Nat) : Int) R T N true (V R T zv) ((pthP R T zv).map (fun i => N.getD i 0))) true)
include hn hnext
/-- The numbers are held against the best order's. -/
theorem cmp_tells (L : List Nat) (hlen : L.length ≤ 45) (j : Nat) (hj : j ≤ L.length) (h1 : ∀ i, i < j → i < (pthP R T zv).length ∧ (L.map (fun i => N.getD i 0)).getD i 0 = ((pthP R T zv).map (fun i => N.getD i 0)).getD i 0)
  (h2 : j < L.length → j < (pthP R T zv).length ∧ ((pthP R T zv).map (fun i => N.getD i 0)).getD j 0 < (L.map (fun i => N.getD i 0)).getD j 0) :
  ∀ (d i : Nat), i + d = j → Ev (fun k => laws_FnBest.l2 k m (n : Int) (L.map (fun i => N.getD i 0)) ((L.map (fun i => N.getD i 0)).length : Int) (i : Int) R T N true (V R T zv) ((pthP R T zv).map (fun i => N.getD i 0))) true := by
 have en : wrap64 ((n : Int) + 1) = ((n + 1 : Nat) : Int) := by rw [w64 (by omega) (by omega)]; omega
 have eL : (L.map (fun i => N.getD i 0)).length = L.length := List.length_map ..
 have eP : ((pthP R T zv).map (fun i => N.getD i 0)).length = (pthP R T zv).length := List.length_map ..
 generalize pthP R T zv = P at *
 generalize L.map (fun i => N.getD i 0) = LN at *
 generalize P.map (fun i => N.getD i 0) = PN at *
 generalize V R T zv = c at *
 intro d
 induction d with
 | zero =>
  intro i hi
  have hi : i = j := by omega
  subst hi
  by_cases c1 : i < L.length
  ·obtain ⟨h3, h4⟩ := h2 c1
   refine Ev.step (fun K => ?_) hnext
   simp only [laws_FnBest.l2, rd_I]
   rw [if_pos (by omega), if_pos (by omega), if_pos (by omega), if_pos (by omega), if_neg (by omega), if_neg (by omega), en]
  ·refine Ev.step (fun K => ?_) hnext
   simp only [laws_FnBest.l2]
   rw [if_neg (by omega), en]
 | succ d ih =>
  intro i hi
  clear en
  have h3 := (h1 i (by omega)).1
  have q1 : (i : Int) < (LN.length : Int) := by omega
  have q2 : (0 : Int) ≤ (i : Int) := by omega
  have q3 : (i : Int) < (PN.length : Int) := by omega
  have hs := ih (i + 1) (by omega)
  have h4 := (h1 i (by omega)).2
  have ei : wrap64 ((i : Int) + 1) = ((i + 1 : Nat) : Int) := by rw [w64 (by omega) (by omega)]; omega
  refine Ev.step (fun K => ?_) hs
  simp only [laws_FnBest.l2, rd_I]
  rw [if_pos q1, if_pos q2, if_pos q1, if_pos q3, if_pos h4, ei]
include h hV
/-- Behind the drawn order. -/
theorem end_tells (L v : List Nat) (s : Int) (H : Hist R T N L v s) : Ev (fun k => laws_FnBest.j5 k m (n : Int) (L.map (fun i => N.getD i 0)) R T N true (V R T zv) ((pthP R T zv).map (fun i => N.getD i 0)) R (stT T v) (stN T N v)) true := by
 have en : wrap64 ((n : Int) + 1) = ((n + 1 : Nat) : Int) := by rw [w64 (by omega) (by omega)]; omega
 have g1 := h.r1
 have g2 := h.t1
 have g3 := h.n1
 have hc := H.ends h
 refine Ev.step (fun K => by simp only [laws_FnBest.j5]; rfl) ?_
 refine Ev.bind' (Ev.eq (implCost_tells (R := R) (T := T) (N := N) (by omega) (by omega) (by omega) _) hc) ?_
 refine Ev.bind' (Ev.eq (specCost_tells (R := R) (T := T) (N := N) (by omega) (by omega) (by omega) _) hc) ?_
 simp only [if_true]
 by_cases he : (stT T v).length = 0
 ·obtain ⟨b1, b2, b3⟩ := H.best h he
  have e0 : (((stT T v).length : Int) == 0) = true := by simp [he]
  have e1 : decide (s ≥ 0) = true := decide_eq_true (by omega)
  have e2 : decide (s < V R T zv) = false := decide_eq_false (by omega)
  have e3 : s ≥ 0 := by omega
  simp only [if_pos he, e0, e1, bne_self_eq_false, Bool.false_eq_true, if_false, if_pos e3, e2]
  refine Ev.step (fun K => by simp only [laws_FnBest.j6, Bool.false_eq_true, if_false]; rfl) ?_
  by_cases ce : s = V R T zv
  ·simp only [if_pos ce]
   have hL := H.mem
   have hP := pthP_mem (R := R) h.wf _ zv h.wf.t1 rfl
   obtain ⟨j, q1, q2, q3⟩ := parts h hL hP (b3 ce.symm)
   exact cmp_tells n hn hnext L (H.len45 h) j q1 q2 q3 j 0 (by omega)
  ·simp only [if_neg ce, en]
   exact hnext
 ·have e0 : (((stT T v).length : Int) == 0) = false := by simpa using he
  have e1 : decide ((-1 : Int) ≥ 0) = false := rfl
  have e3 : ¬ ((-1 : Int) ≥ 0) := by omega
  simp only [if_neg he, e0, e1, bne_self_eq_false, Bool.false_eq_true, if_false, if_neg e3]
  refine Ev.step (fun K => by simp only [laws_FnBest.j6, Bool.false_eq_true, if_false]; rfl) ?_
  have e4 : ¬ ((-1 : Int) = V R T zv) := by omega
  simp only [if_neg e4, en]
  exact hnext
include hm
/-- The drawn order. -/
theorem order_tells : ∀ (d q : Nat) (L v : List Nat) (s : Int), q + d = 60 → Hist R T N L v s → Right R (stT T v) (stN T N v) →
  Ev (fun k => laws_FnBest.l1 k m (n : Int) (L.map (fun i => N.getD i 0)) (q : Int) R T N true (V R T zv) ((pthP R T zv).map (fun i => N.getD i 0)) R (stT T v) (stN T N v)) true := by
 intro d
 induction d with
 | zero =>
  intro q L v s hq H hr
  have c : ¬ ((q : Int) < 60) := by omega
  refine Ev.step (fun K => by simp only [laws_FnBest.l1, c, if_false]; rfl) ?_
  refine Ev.step (fun K => by simp only [laws_FnBest.j4, Bool.false_eq_true, if_false]; rfl) ?_
  exact end_tells h hV n hn hnext L v s H
 | succ d ih =>
  intro q L v s hq H hr
  have c : (q : Int) < 60 := by omega
  have g1 := hr.r1
  have g2 := hr.t1
  have g3 := hr.n1
  have hl : T.length ≤ v.length := by rw [H.ok.1]; exact h.t1
  refine Ev.step (fun K => by simp only [laws_FnBest.l1, c, if_true]; rfl) ?_
  by_cases cu : ((stT T v).length : Int) > 0
  ·rw [decide_eq_true cu]
   refine Ev.step (fun K => by simp only [laws_FnBest.j4, if_true]; rfl) ?_
   refine Ev.bind' (specMoves_tells (R := R) (T := stT T v) (N := stN T N v) (by omega) (by omega) (by omega)) ?_
   by_cases cm : ((movesD R (stT T v) (stN T N v)).length : Int) = 0
   ·simp only [if_pos cm]
    exact end_tells h hV n hn hnext L v s H
   ·simp only [if_neg cm]
    obtain ⟨y, z, ey, ez, hz⟩ := byte_at hm (q + 11 * n) (show 0 < (movesD R (stT T v) (stN T N v)).length by omega)
    have e2 : (0 : Int) ≤ (z : Int) := by omega
    have e3 : (z : Int) < ((movesD R (stT T v) (stN T N v)).length : Int) := by omega
    have e4 : (L.map (fun i => N.getD i 0)).length < 17592186044416 := by
     rw [List.length_map]
     have := H.len45 h
     omega
    have k1 : R.length ≤ 1048576 := by omega
    have k2 : (stT T v).length ≤ 1048576 := by omega
    have k3 : (stN T N v).length ≤ 1048576 := by omega
    have k4 : q + 1 + d = 60 := by omega
    have k5 : q < 100 := by omega
    have k6 : n < 100 := by omega
    have ew := wr1 k5 k6
    have eq1 := wr2 k5
    obtain ⟨i, hi, ea, es, hr2⟩ := move_at h hl hr (getD_mem 0 hz)
    have hs := Ev.eq (specStep_tells (R := R) (T := stT T v) (N := stN T N v) k1 k2 k3 ((movesD R (stT T v) (stN T N v)).getD z 0)) es
    have hih := ih (q + 1) (L ++ [i]) (inc v i) _ k4 (H.step h hi) hr2
    have eL : L.map (fun i => N.getD i 0) ++ [(movesD R (stT T v) (stN T N v)).getD z 0] = (L ++ [i]).map (fun i => N.getD i 0) := by rw [ea, List.map_append]; rfl
    simp only [ew, ey, Option.bind_some, ez, e2, e3, e4, if_true, rd_I, eq1]
    refine Ev.bind' hs ?_
    simp only [eL]
    exact hih
  ·rw [decide_eq_false cu]
   refine Ev.step (fun K => by simp only [laws_FnBest.j4, Bool.false_eq_true, if_false]; rfl) ?_
   exact end_tells h hV n hn hnext L v s H
end
theorem three_tells {R : List Int} {T : List S35} {N : List Int} {m : List Int} (hm : ∀ x ∈ m, 0 ≤ x ∧ x ≤ 255) (h : Right R T N) (hV : 0 ≤ V R T zv) : ∀ (d n : Nat), n + d = 3 → Ev (fun k => laws_FnBest.l0 k m (n : Int) R T N true (V R T zv) ((pthP R T zv).map (fun i => N.getD i 0))) true := by
 intro d
 induction d with
 | zero =>
  intro n hn
  refine Ev.one fun k => ?_
  simp only [laws_FnBest.l0]
  rw [if_neg (by omega)]
 | succ d ih =>
  intro n hn
  have c : (n : Int) < 3 := by omega
  have e1 : stT T zv = T := stT_zero h.wf
  have e2 : stN T N zv = N := stN_zero h.wf
  have ho := order_tells hm h hV n (by omega) (ih (n + 1) (by omega)) 60 0 [] zv 0 (by omega) (Hist.start h) (by rw [e1, e2]; exact h)
  rw [e1, e2] at ho
  refine Ev.step (fun K => ?_) ho
  simp only [laws_FnBest.l0, c, if_true]
  rfl
theorem solve_yes' {R : List Int} {T : List S35} {N : List Int} (ho : okS R T N = 0) (hv : 0 ≤ V R T zv) : solveD R T N = (true, V R T zv, (pthP R T zv).map (fun i => N.getD i 0)) := by
 unfold solveD
 rw [if_pos ho, if_neg (by omega)]
theorem solve_no' {R : List Int} {T : List S35} {N : List Int} (h : ¬ (okS R T N = 0 ∧ 0 ≤ V R T zv)) : solveD R T N = (false, 0, []) := by
 unfold solveD
 by_cases c : okS R T N = 0
 ·rw [if_pos c, if_pos (by omega)]
 ·rw [if_neg c]
theorem FnBest_ev (l m : List Int) (hl : ∀ x ∈ l, 0 ≤ x ∧ x ≤ 255) (hm : ∀ x ∈ m, 0 ≤ x ∧ x ≤ 255) : Ev (fun k => laws_FnBest.f k l m) true := by
 have yes : Ev (fun k => laws_FnBest.j0 k l m true) true := Ev.one fun k => by simp only [laws_FnBest.j0, if_true]
 have no : Ev (fun k => laws_FnBest.j0 k l m false) true := by
  obtain ⟨R, T, N, hst, hR, hT, hN⟩ := States_tells hl
  refine Ev.step (fun K => by simp only [laws_FnBest.j0, Bool.false_eq_true, if_false]; rfl) ?_
  refine Ev.bind' hst ?_
  have hi := implSolve_tells (R := R) (T := T) (N := N) (by omega) (by omega) (by omega)
  have hp := specSolve_tells (R := R) (T := T) (N := N) (by omega) (by omega) (by omega)
  have hs := implSafe_tells (R := R) (T := T) (N := N) (by omega) (by omega) (by omega)
  have hz : V R T [0, 0, 0, 0, 0] = V R T zv := rfl
  rw [hz] at hs
  by_cases c : okS R T N = 0 ∧ 0 ≤ V R T zv
  ·have hr := (right_iff R T N).1 c.1
   have hlen : ((pthP R T zv).map (fun i => N.getD i 0)).length ≤ 1048576 := by
    rw [List.length_map]
    have := pthP_len hr.wf zv (R := R)
    omega
   rw [solve_yes' c.1 c.2] at hi hp
   rw [if_pos c.1, decide_eq_true c.2] at hs
   refine Ev.bind' hi ?_
   refine Ev.bind' hp ?_
   simp only [bne_self_eq_false, Bool.false_eq_true, if_false, if_true]
   refine Ev.bind' (wInts_tells _ hlen) ?_
   simp only [if_true]
   refine Ev.bind' hs ?_
   refine Ev.step (fun K => by simp only [laws_FnBest.j1, bne_self_eq_false, Bool.false_eq_true, if_false, if_true]; rfl) ?_
   refine Ev.bind' (Ev.eq (implCost_tells (R := R) (T := T) (N := N) (by omega) (by omega) (by omega) _) (cost_best hr c.2)) ?_
   simp only [if_true]
   exact three_tells hm hr c.2 3 0 (by omega)
  ·have hs2 : (if okS R T N = 0 then decide (0 ≤ V R T zv) else false) = false := by
    by_cases d : okS R T N = 0
    ·rw [if_pos d]; exact decide_eq_false fun hv => c ⟨d, hv⟩
    ·rw [if_neg d]
   rw [solve_no' c] at hi hp
   rw [hs2] at hs
   refine Ev.bind' hi ?_
   refine Ev.bind' hp ?_
   simp only [bne_self_eq_false, Bool.false_eq_true, if_false, if_true]
   refine Ev.bind' (wInts_tells [] (by simp)) ?_
   simp only [if_true]
   refine Ev.bind' hs ?_
   refine Ev.one fun K => ?_
   simp only [laws_FnBest.j1, bne_self_eq_false, Bool.false_eq_true, if_false]
 unfold laws_FnBest.f
 by_cases c : (l.length : Int) > 1048576
 ·simp only [c, if_true]; exact yes
 ·simp only [c, if_false]
  by_cases d : (m.length : Int) > 1048576
  ·rw [decide_eq_true d]; exact yes
  ·rw [decide_eq_false d]; exact no
theorem FnBest_pure : laws_FnBest.Pure := by
 intro l m h1 h2 h3 h4 h5 h6
 exact (FnBest_ev l m (bytes_ok h3) (bytes_ok h6)).rounds
end Go.Proofs.Ytpbclogjoangfaa.Be
