/- The specification's search: the number of a position; what a position costs, by the trains that are there. No program in sight. -/
import Derived.Test.YtpbclogjoangfaaFnJustSp0
namespace Go.Proofs.Ytpbclogjoangfaa.Sp
open Go.RowKit Go.Proofs.YtpbclogjoangfaaW.PrintWords Go.Proofs.YtpbclogjoangfaaW.PrintLast Go.Proofs.Ytpbclogjoangfaa.Q Go.Proofs.Ytpbclogjoangfaa.Pu Go.Proofs.Ytpbclogjoangfaa.Sr
set_option linter.unusedVariables false
set_option linter.unusedSimpArgs false
section
variable {R : List Int} {T : List S35} {N : List Int}
/-! ### names -/
theorem namesOk_lt : ∀ {N : List Int} {a : Int}, namesOk a N = true → (∀ x ∈ N, a < x) ∧ ∀ i j, i < j → j < N.length → N.getD i 0 < N.getD j 0
 | [], a, _ => by simp
 | y :: N, a, h => by
  simp only [namesOk, Bool.and_eq_true, decide_eq_true_eq] at h
  obtain ⟨⟨h1, _⟩, h2⟩ := h
  obtain ⟨h3, h4⟩ := namesOk_lt h2
  refine ⟨fun x hx => ?_, fun i j hij hj => ?_⟩
  ·rcases List.mem_cons.1 hx with rfl | hx
   ·exact h1
   ·have := h3 x hx; omega
  ·match i, j with
   | i, 0 => omega
   | 0, j + 1 =>
    have hj' : j < N.length := by simpa using hj
    have := h3 _ (getD_mem 0 hj')
    simpa using this
   | i + 1, j + 1 =>
    have := h4 i j (by omega) (by simpa using hj)
    simpa using this
theorem Right.inj (h : Right R T N) {i j : Nat} (hi : i < N.length) (hj : j < N.length) (e : N.getD i 0 = N.getD j 0) : i = j := by
 have h1 := (namesOk_lt h.names).2
 rcases Nat.lt_trichotomy i j with c | c | c
 ·have := h1 i j c hj; omega
 ·exact c
 ·have := h1 j i c hi; omega
theorem findF_none (N : List Int) (a : Int) : ∀ (d i : Nat), findF N a i d = -1 → ∀ j, i ≤ j → j < i + d → N.getD j 0 ≠ a
 | 0, i, _, j, h1, h2 => by omega
 | d + 1, i, h, j, h1, h2 => by
  unfold findF at h
  by_cases c : N.getD i 0 = a
  ·rw [if_pos c] at h; omega
  ·rw [if_neg c] at h
   by_cases e : j = i
   ·subst e; exact c
   ·exact findF_none N a d (i + 1) h j (by omega) (by omega)
theorem find_in (h : Right R T N) {v : List Nat} {k : Nat} (hk : k < (idx T v).length) : findD (stN T N v) (N.getD ((idx T v).getD k 0) 0) = (k : Int) := by
 have hn := h.wf.n1
 have hm := idx_mem.1 (getD_mem 0 hk)
 rcases findD_tells (stN T N v) (N.getD ((idx T v).getD k 0) 0) with h1 | ⟨j, h1, h2, h3⟩
 ·exfalso
  have h2 := findF_none _ _ _ _ h1 k (by omega) (by rw [stN_len]; omega)
  apply h2
  unfold stN
  rw [mapD _ _ hk 0]
 ·rw [h1]
  rw [stN_len] at h2
  unfold stN at h3
  rw [mapD _ _ h2 0] at h3
  have hm2 := idx_mem.1 (getD_mem 0 h2)
  have e := Right.inj h (by omega) (by omega) h3
  have hnd := idx_nodup T v
  have e1 : (idx T v).getD j 0 = (idx T v)[j] := by simp [List.getD, h2]
  have e2 : (idx T v).getD k 0 = (idx T v)[k] := by simp [List.getD, hk]
  rw [e1, e2] at e
  rw [(List.getElem_inj hnd).1 e]
/-! ### the value -/
theorem hereP_idx {v : List Nat} : hereP T v T.length = !(idx T v).isEmpty := by
 unfold hereP idx
 rw [Bool.eq_iff_iff]
 simp only [List.any_eq_true, List.mem_range, decide_eq_true_eq, Bool.not_eq_true', List.isEmpty_eq_false_iff, ne_eq, List.filter_eq_nil_iff]
 constructor
 ·rintro ⟨x, hx, h0⟩ h
  exact h x hx h0
 ·intro h
  apply Classical.byContradiction
  intro hc
  exact h (fun x hx h0 => hc ⟨x, hx, h0⟩)
theorem mvP_idx {v : List Nat} : mvP R T v T.length = (idx T v).filter (okP R T v) := by
 unfold mvP idx
 rw [List.filter_filter]
 apply List.filter_congr
 intro i hi
 by_cases c : okP R T v i = true
 ·rw [c, decide_eq_true (okP_at c)]; rfl
 ·simp [c]
/-- What a position costs, over the first n of those that are there. -/
def Fv (R : List Int) (T : List S35) (v : List Nat) (l : List Nat) : Int := l.foldl (fun c i => if okP R T v i = true then betP (wtP T v T.length) c (V R T (inc v i)) else c) (-1)
theorem V_idx {v : List Nat} (hl : T.length ≤ v.length) : V R T v = if (idx T v) = [] then 0 else Fv R T v (idx T v) := by
 rw [V_eq hl, hereP_idx, mvP_idx, List.foldl_filter]
 by_cases c : idx T v = []
 ·rw [if_pos c, c]; rfl
 ·rw [if_neg c]
  have e : (idx T v).isEmpty = false := by simpa using c
  rw [e]; rfl
end
end Go.Proofs.Ytpbclogjoangfaa.Sp
