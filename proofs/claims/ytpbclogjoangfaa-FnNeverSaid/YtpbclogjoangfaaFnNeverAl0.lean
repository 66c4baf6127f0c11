/- What is allowed. No program in sight. -/
import Derived.Test.YtpbclogjoangfaaFnNeverSr8
import Derived.Test.YtpbclogjoangfaaFnNeverSp6
namespace Go.Proofs.Ytpbclogjoangfaa.Al
open Go.RowKit Go.Proofs.YtpbclogjoangfaaW.PrintWords Go.Proofs.YtpbclogjoangfaaW.PrintLast Go.Proofs.Ytpbclogjoangfaa.Q Go.Proofs.Ytpbclogjoangfaa.Pu Go.Proofs.Ytpbclogjoangfaa.Sr Go.Proofs.Ytpbclogjoangfaa.Sp
set_option linter.unusedVariables false
set_option linter.unusedSimpArgs false
def zv : List Nat := [0, 0, 0, 0, 0]
def alw (R : List Int) (T : List S35) (i : Nat) : Bool := okP R T zv i && decide (0 ≤ V R T (inc zv i))
def alD (R : List Int) (T : List S35) (N : List Int) (n : Nat) : List Int := ((List.range n).filter (alw R T)).map (fun i => N.getD i 0)
def allowedD (R : List Int) (T : List S35) (N : List Int) : List Int := if okS R T N = 0 then alD R T N T.length else []
section
variable {R : List Int} {T : List S35} {N : List Int}
theorem alD_succ (R : List Int) (T : List S35) (N : List Int) (n : Nat) : alD R T N (n + 1) = alD R T N n ++ (if alw R T n = true then [N.getD n 0] else []) := by
 unfold alD
 rw [List.range_succ, List.filter_append, List.map_append]
 by_cases c : alw R T n = true <;> simp [c]
theorem alD_len (R : List Int) (T : List S35) (N : List Int) (n : Nat) : (alD R T N n).length ≤ n := by
 unfold alD
 rw [List.length_map]
 have := List.length_filter_le (alw R T) (List.range n)
 simpa using this
theorem range_getD {n i : Nat} (h : i < n) : (List.range n).getD i 0 = i := by simp [List.getD, h]
theorem can0 (h : Wf R T N) {i : Nat} (hi : i < T.length) : canB R T i = okP R T zv i := by
 have hk : i < (idx T zv).length := by unfold zv; rw [idx_zero h]; simpa using hi
 have h1 := can_st h hk
 have e1 : stT T zv = T := stT_zero h
 have e2 : idx T zv = List.range T.length := idx_zero h
 rw [e1, e2, range_getD hi] at h1
 exact h1
theorem step0 (h : Wf R T N) {i : Nat} (hi : i < T.length) : stepD R T N i = (R, stT T (inc zv i), stN T N (inc zv i)) := by
 have hk : i < (idx T zv).length := by unfold zv; rw [idx_zero h]; simpa using hi
 have h1 := step_st h (v := zv) (by have := h.t1; show T.length ≤ 5; omega) hk
 have e1 : stT T zv = T := stT_zero h
 have e3 : stN T N zv = N := stN_zero h
 have e2 : idx T zv = List.range T.length := idx_zero h
 rw [e1, e3, e2, range_getD hi] at h1
 exact h1
theorem okV0 (h : Wf R T N) {i : Nat} (hi : i < T.length) (ho : okP R T zv i = true) : okV T (inc zv i) :=
 okV_inc h.t1 (okV_zero T) (by simp [mvP, hi]; exact ho)
/-- Over the moves. -/
def alM (R : List Int) (T : List S35) (N : List Int) (L : List Nat) : List Int := (L.filter (fun i => decide (0 ≤ V R T (inc zv i)))).map (fun i => N.getD i 0)
theorem alM_succ (R : List Int) (T : List S35) (N : List Int) (L : List Nat) {n : Nat} (hn : n < L.length) : alM R T N (L.take (n + 1)) = alM R T N (L.take n) ++ (if 0 ≤ V R T (inc zv (L.getD n 0)) then [N.getD (L.getD n 0) 0] else []) := by
 have h1 : L.take (n + 1) = L.take n ++ [L.getD n 0] := by
  rw [List.take_add_one]
  simp [List.getD, hn]
 unfold alM
 rw [h1, List.filter_append, List.map_append]
 by_cases c : 0 ≤ V R T (inc zv (L.getD n 0))
 ·rw [if_pos c, List.filter_cons_of_pos (by simpa using c)]; rfl
 ·rw [if_neg c, List.filter_cons_of_neg (by simpa using c)]; rfl
theorem alM_len (R : List Int) (T : List S35) (N : List Int) (L : List Nat) : (alM R T N L).length ≤ L.length := by
 unfold alM
 rw [List.length_map]
 exact List.length_filter_le _ _
theorem alM_moves (R : List Int) (T : List S35) (N : List Int) : alM R T N (mvP R T zv T.length) = alD R T N T.length := by
 unfold alM alD mvP
 rw [List.filter_filter]
 congr 1
 apply List.filter_congr
 intro i hi
 unfold alw
 exact Bool.and_comm _ _
end
end Go.Proofs.Ytpbclogjoangfaa.Al
