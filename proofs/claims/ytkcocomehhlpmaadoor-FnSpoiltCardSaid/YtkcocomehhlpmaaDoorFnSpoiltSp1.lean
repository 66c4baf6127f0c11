/- The specification's search: the number of a position; what a position costs, by the trains that are there. No program in sight. -/
import Derived.Test.YtkcocomehhlpmaaDoorFnSpoiltSp0
namespace Go.Proofs.YtkcocomehhlpmaaDoor.Sp
open Go.RowKit Go.Proofs.YtkcocomehhlpmaaDoorW.PrintWords Go.Proofs.YtkcocomehhlpmaaDoorW.PrintLast Go.Proofs.YtkcocomehhlpmaaDoor.Q Go.Proofs.YtkcocomehhlpmaaDoor.Pu Go.Proofs.YtkcocomehhlpmaaDoor.Sr
set_option linter.unusedVariables false
set_option linter.unusedSimpArgs false
def lenP (T : List S48) (i : Nat) : Nat := (T.getD i z48).f1.length
def numP (T : List S48) (v : List Nat) : Nat → Nat
 | 0 => 0
 | n + 1 => numP T v n * (lenP T n + 2) + v.getD n 0
def szP (T : List S48) : Nat → Nat
 | 0 => 1
 | n + 1 => szP T n * (lenP T n + 2)
section
variable {R : List Int} {T : List S48} {N : List Int}
theorem numP_lt {v : List Nat} (hv : okV T v) : ∀ n, n ≤ T.length → numP T v n < szP T n
 | 0, _ => by simp [numP, szP]
 | n + 1, h => by
  have ih := numP_lt hv n (by omega)
  have h1 := hv.2.1 n (by omega)
  simp only [numP, szP, lenP]
  have h2 : (numP T v n + 1) * ((T.getD n z48).f1.length + 2) ≤ szP T n * ((T.getD n z48).f1.length + 2) := Nat.mul_le_mul_right _ ih
  rw [Nat.succ_mul] at h2
  omega
theorem szP_le (h : Wf R T N) : ∀ n, n ≤ T.length → szP T n ≤ 10 ^ n
 | 0, _ => by simp [szP]
 | n + 1, hn => by
  have ih := szP_le h n (by omega)
  have h1 := h.path _ (getD_mem z48 (show n < T.length by omega))
  simp only [szP, lenP]
  rw [Nat.pow_succ]
  exact Nat.mul_le_mul ih (by omega)
theorem szP_small (h : Wf R T N) {n : Nat} (hn : n ≤ T.length) : szP T n ≤ 100000 := by
 have h1 := szP_le h n hn
 have h2 := h.t1
 have h3 : 10 ^ n ≤ 10 ^ 5 := Nat.pow_le_pow_right (by omega) (by omega)
 omega
theorem numP_inj {u v : List Nat} (hu : okV T u) (hv : okV T v) : ∀ n, n ≤ T.length → numP T u n = numP T v n → ∀ i, i < n → u.getD i 0 = v.getD i 0
 | 0, _, _, i, hi => by omega
 | n + 1, hn, h, i, hi => by
  have h1 := hu.2.1 n (by omega)
  have h2 := hv.2.1 n (by omega)
  simp only [numP, lenP] at h
  have e1 : numP T u n = numP T v n := by
   have d1 : (numP T u n * ((T.getD n z48).f1.length + 2) + u.getD n 0) / ((T.getD n z48).f1.length + 2) = numP T u n := by
    rw [Nat.mul_comm, Nat.mul_add_div (by omega), Nat.div_eq_of_lt (by omega), Nat.add_zero]
   have d2 : (numP T v n * ((T.getD n z48).f1.length + 2) + v.getD n 0) / ((T.getD n z48).f1.length + 2) = numP T v n := by
    rw [Nat.mul_comm, Nat.mul_add_div (by omega), Nat.div_eq_of_lt (by omega), Nat.add_zero]
   rw [← d1, ← d2, h]
  by_cases c : i = n
  ·subst c
   rw [e1] at h
   omega
  ·exact numP_inj hu hv n (by omega) e1 i (by omega)
theorem okV_ext {u v : List Nat} (hu : okV T u) (hv : okV T v) (h : numP T u T.length = numP T v T.length) : u = v := by
 have h1 := numP_inj hu hv T.length (Nat.le_refl _) h
 apply List.ext_getElem
 ·rw [hu.1, hv.1]
 ·intro i h2 h3
  have e1 : u[i] = u.getD i 0 := by simp [List.getD, h2]
  have e2 : v[i] = v.getD i 0 := by simp [List.getD, h3]
  rw [e1, e2]
  by_cases c : i < T.length
  ·exact h1 i c
  ·rw [hu.2.2 i (by omega), hv.2.2 i (by omega)]
/-! ### names -/
theorem namesOk_lt : ∀ {N : List Int} {a : Int}, namesOk a N = true → (∀ x ∈ N, a < x) ∧ ∀ i j, i < j → j < N.length → N.getD i 0 < N.getD j 0
 | [], a, _ => by simp
 | y :: N, a, h => by
  simp only [namesOk, Bool.and_eq_true, decide_eq_true_eq] at h
  obtain ⟨⟨h1, _⟩, h2⟩ := h
  obtain ⟨h3, h4⟩ := namesOk_lt h2
  refine ⟨fun x hx => ?_, fun i j hij hj => ?_⟩
  ·rcases List.mem_cons.1 hx with rfl | hx
   ·exact h1
   ·have := h3 x hx; omega
  ·match i, j with
   | i, 0 => omega
   | 0, j + 1 =>
    have hj' : j < N.length := by simpa using hj
    have := h3 _ (getD_mem 0 hj')
    simpa using this
   | i + 1, j + 1 =>
    have := h4 i j (by omega) (by simpa using hj)
    simpa using this
theorem Right.inj (h : Right R T N) {i j : Nat} (hi : i < N.length) (hj : j < N.length) (e : N.getD i 0 = N.getD j 0) : i = j := by
 have h1 := (namesOk_lt h.names).2
 rcases Nat.lt_trichotomy i j with c | c | c
 ·have := h1 i j c hj; omega
 ·exact c
 ·have := h1 j i c hi; omega
theorem findF_none (N : List Int) (a : Int) : ∀ (d i : Nat), findF N a i d = -1 → ∀ j, i ≤ j → j < i + d → N.getD j 0 ≠ a
 | 0, i, _, j, h1, h2 => by omega
 | d + 1, i, h, j, h1, h2 => by
  unfold findF at h
  by_cases c : N.getD i 0 = a
  ·rw [if_pos c] at h; omega
  ·rw [if_neg c] at h
   by_cases e : j = i
   ·subst e; exact c
   ·exact findF_none N a d (i + 1) h j (by omega) (by omega)
theorem find_in (h : Right R T N) {v : List Nat} {k : Nat} (hk : k < (idx T v).length) : findD (stN T N v) (N.getD ((idx T v).getD k 0) 0) = (k : Int) := by
 have hn := h.wf.n1
 have hm := idx_mem.1 (getD_mem 0 hk)
 rcases findD_tells (stN T N v) (N.getD ((idx T v).getD k 0) 0) with h1 | ⟨j, h1, h2, h3⟩
 ·exfalso
  have h2 := findF_none _ _ _ _ h1 k (by omega) (by rw [stN_len]; omega)
  apply h2
  unfold stN
  rw [mapD _ _ hk 0]
 ·rw [h1]
  rw [stN_len] at h2
  unfold stN at h3
  rw [mapD _ _ h2 0] at h3
  have hm2 := idx_mem.1 (getD_mem 0 h2)
  have e := Right.inj h (by omega) (by omega) h3
  have hnd := idx_nodup T v
  have e1 : (idx T v).getD j 0 = (idx T v)[j] := by simp [List.getD, h2]
  have e2 : (idx T v).getD k 0 = (idx T v)[k] := by simp [List.getD, hk]
  rw [e1, e2] at e
  rw [(List.getElem_inj hnd).1 e]
theorem find_out (h : Right R T N) {v : List Nat} {i : Nat} (hi : i < T.length) (ho : i ∉ idx T v) : findD (stN T N v) (N.getD i 0) = -1 := by
 have hn := h.wf.n1
 rcases findD_tells (stN T N v) (N.getD i 0) with h1 | ⟨j, h1, h2, h3⟩
 ·exact h1
 ·exfalso
  rw [stN_len] at h2
  unfold stN at h3
  rw [mapD _ _ h2 0] at h3
  have hm2 := idx_mem.1 (getD_mem 0 h2)
  have e := Right.inj h (by omega) (by omega) h3
  exact ho (e ▸ getD_mem 0 h2)
theorem idx_at {v : List Nat} {i : Nat} (hi : i ∈ idx T v) : ∃ k, k < (idx T v).length ∧ (idx T v).getD k 0 = i := by
 obtain ⟨k, hk, e⟩ := List.mem_iff_getElem.1 hi
 exact ⟨k, hk, by simp [List.getD, hk, e]⟩
theorem far_out {v : List Nat} (hv : okV T v) {i : Nat} (hi : i < T.length) (ho : i ∉ idx T v) (h : Wf R T N) : v.getD i 0 = lenP T i + 1 := by
 have h1 := hv.2.1 i hi
 have h2 : ¬ 0 ≤ atP T v i := fun h => ho (idx_mem.2 ⟨hi, h⟩)
 unfold lenP
 by_cases c : v.getD i 0 ≤ (T.getD i z48).f1.length
 ·exfalso
  have h3 := atP_range h v hi
  apply h2
  unfold atP atD
  have hm := getD_mem z48 hi
  by_cases c0 : v.getD i 0 = 0
  ·rw [if_pos c0]; exact (h.at_ _ hm).1
  ·rw [if_neg c0, if_pos c]
   exact (h.on _ hm _ (getD_mem 0 (by omega))).1
 ·omega
theorem far_in {v : List Nat} {k : Nat} (hk : k < (idx T v).length) : ((stT T v).getD k z48).f1.length = lenP T ((idx T v).getD k 0) - v.getD ((idx T v).getD k 0) 0 ∧ v.getD ((idx T v).getD k 0) 0 ≤ lenP T ((idx T v).getD k 0) := by
 rw [stT_get hk]
 have hm := idx_mem.1 (getD_mem 0 hk)
 refine ⟨?_, atP_far hm.2⟩
 show ((T.getD _ z48).f1.drop _).length = _
 rw [List.length_drop]; rfl
/-! ### the value -/
theorem hereP_idx {v : List Nat} : hereP T v T.length = !(idx T v).isEmpty := by
 unfold hereP idx
 rw [Bool.eq_iff_iff]
 simp only [List.any_eq_true, List.mem_range, decide_eq_true_eq, Bool.not_eq_true', List.isEmpty_eq_false_iff, ne_eq, List.filter_eq_nil_iff]
 constructor
 ·rintro ⟨x, hx, h0⟩ h
  exact h x hx h0
 ·intro h
  apply Classical.byContradiction
  intro hc
  exact h (fun x hx h0 => hc ⟨x, hx, h0⟩)
theorem mvP_idx {v : List Nat} : mvP R T v T.length = (idx T v).filter (okP R T v) := by
 unfold mvP idx
 rw [List.filter_filter]
 apply List.filter_congr
 intro i hi
 by_cases c : okP R T v i = true
 ·rw [c, decide_eq_true (okP_at c)]; rfl
 ·simp [c]
/-- What a position costs, over the first n of those that are there. -/
def Fv (R : List Int) (T : List S48) (v : List Nat) (l : List Nat) : Int := l.foldl (fun c i => if okP R T v i = true then betP (wtP T v T.length) c (V R T (inc v i)) else c) (-1)
theorem V_idx {v : List Nat} (hl : T.length ≤ v.length) : V R T v = if (idx T v) = [] then 0 else Fv R T v (idx T v) := by
 rw [V_eq hl, hereP_idx, mvP_idx, List.foldl_filter]
 by_cases c : idx T v = []
 ·rw [if_pos c, c]; rfl
 ·rw [if_neg c]
  have e : (idx T v).isEmpty = false := by simpa using c
  rw [e]; rfl
theorem Fv_succ {v : List Nat} {k : Nat} (hk : k < (idx T v).length) : Fv R T v ((idx T v).take (k + 1)) = if okP R T v ((idx T v).getD k 0) = true then betP (wtP T v T.length) (Fv R T v ((idx T v).take k)) (V R T (inc v ((idx T v).getD k 0))) else Fv R T v ((idx T v).take k) := by
 have h1 : (idx T v).take (k + 1) = (idx T v).take k ++ [(idx T v).getD k 0] := by
  rw [List.take_add_one]
  simp [List.getD, hk]
 unfold Fv
 rw [h1, List.foldl_append]
 rfl
end
end Go.Proofs.YtkcocomehhlpmaaDoor.Sp
