/- The search of the program: what a position costs, one step open; bounds. No program in sight. -/
import Derived.Test.YtkcocomehhlpmaaDoorFnSpoiltSr3
namespace Go.Proofs.YtkcocomehhlpmaaDoor.Sr
open Go.RowKit Go.Proofs.YtkcocomehhlpmaaDoorW.PrintWords Go.Proofs.YtkcocomehhlpmaaDoorW.PrintLast Go.Proofs.YtkcocomehhlpmaaDoor.Q Go.Proofs.YtkcocomehhlpmaaDoor.Pu
set_option linter.unusedVariables false
set_option linter.unusedSimpArgs false
section
variable {R : List Int} {T : List S48} {N : List Int}
theorem inc_len (v : List Nat) (i : Nat) : (inc v i).length = v.length := by simp [inc]
theorem inc_get (v : List Nat) {i : Nat} (hi : i < v.length) (j : Nat) : (inc v i).getD j 0 = v.getD j 0 + (if j = i then 1 else 0) := by
 unfold inc
 by_cases c : j = i
 ·subst c; simp [List.getD, hi]
 ·have c' : i ≠ j := fun h => c h.symm
  simp [List.getD, List.getElem?_set, c, c']
theorem atP_far {v : List Nat} {i : Nat} (h : 0 ≤ atP T v i) : v.getD i 0 ≤ (T.getD i z48).f1.length := by
 unfold atP atD at h
 by_cases c : v.getD i 0 = 0
 ·omega
 ·rw [if_neg c] at h
  by_cases d : v.getD i 0 ≤ (T.getD i z48).f1.length
  ·exact d
  ·rw [if_neg d] at h; omega
theorem okP_at {v : List Nat} {i : Nat} (h : okP R T v i = true) : 0 ≤ atP T v i := by
 simp only [okP, Bool.and_eq_true, decide_eq_true_eq] at h
 exact h.1
theorem mvP_mem {v : List Nat} {n i : Nat} (h : i ∈ mvP R T v n) : i < n ∧ okP R T v i = true := by
 simpa [mvP] using h
theorem lftP_inc {v : List Nat} {i : Nat} (hi : i < v.length) (h : v.getD i 0 ≤ (T.getD i z48).f1.length) : ∀ n, lftP T (inc v i) n + (if i < n then 1 else 0) = lftP T v n
 | 0 => by simp [lftP]
 | n + 1 => by
  have ih := lftP_inc hi h n
  simp only [lftP]
  rw [inc_get v hi n]
  by_cases c : n = i
  ·subst c
   rw [if_neg (by omega)] at ih
   rw [if_pos rfl, if_pos (by omega)]
   omega
  ·rw [if_neg c]
   by_cases d : i < n
   ·rw [if_pos d] at ih
    rw [if_pos (by omega)]
    omega
   ·rw [if_neg d] at ih
    rw [if_neg (by omega)]
    omega
theorem lft_mv {v : List Nat} {i : Nat} (hl : T.length ≤ v.length) (h : i ∈ mvP R T v T.length) : lftP T (inc v i) T.length + 1 = lftP T v T.length := by
 obtain ⟨h1, h2⟩ := mvP_mem h
 have h3 := lftP_inc (T := T) (v := v) (i := i) (by omega) (atP_far (okP_at h2)) T.length
 rw [if_pos h1] at h3
 exact h3
theorem foldl_congr' {α β : Type} {f g : α → β → α} : ∀ (l : List β) (a : α), (∀ c, ∀ x ∈ l, f c x = g c x) → l.foldl f a = l.foldl g a
 | [], _, _ => rfl
 | x :: l, a, h => by
  simp only [List.foldl_cons]
  rw [h a x (by simp)]
  exact foldl_congr' l _ (fun c y hy => h c y (by simp [hy]))
theorem valP_fuel : ∀ (m : Nat) (v : List Nat), T.length ≤ v.length → lftP T v T.length = m → ∀ n, m < n → valP R T n v = valP R T (m + 1) v := by
 intro m
 induction m using Nat.strongRecOn with
 | _ m ih =>
  intro v hl hm n hn
  obtain ⟨k, rfl⟩ : ∃ k, n = k + 1 := ⟨n - 1, by omega⟩
  simp only [valP]
  apply foldl_congr'
  intro c i hi
  have h1 := lft_mv hl hi
  have h2 := ih (lftP T (inc v i) T.length) (by omega) (inc v i) (by rw [inc_len]; exact hl) rfl
  rw [h2 k (by omega), h2 m (by omega)]
/-- What a position costs: the best of what its moves lead to. -/
theorem V_eq {v : List Nat} (hl : T.length ≤ v.length) : V R T v = (mvP R T v T.length).foldl (fun c i => betP (wtP T v T.length) c (V R T (inc v i))) (if hereP T v T.length = true then -1 else 0) := by
 unfold V
 conv => lhs; unfold valP
 apply foldl_congr'
 intro c i hi
 have h1 := lft_mv hl hi
 have h2 := valP_fuel (R := R) (lftP T (inc v i) T.length) (inc v i) (by rw [inc_len]; exact hl) rfl
 rw [h2 (lftP T v T.length) (by omega)]
theorem wtP_range (h : Wf R T N) (v : List Nat) : ∀ n, n ≤ T.length → 0 ≤ wtP T v n ∧ wtP T v n ≤ 100 * (n : Int)
 | 0, _ => by simp [wtP]
 | n + 1, hn => by
  have ih := wtP_range h v n (by omega)
  have hw := h.wt _ (getD_mem z48 (show n < T.length by omega))
  simp only [wtP]
  by_cases c : 0 ≤ atP T v n
  ·rw [if_pos c]; omega
  ·rw [if_neg c]; omega
theorem betP_range {w c m b : Int} (hw0 : 0 ≤ w) (hc : -1 ≤ c ∧ c ≤ b) (hm : m + w ≤ b) : -1 ≤ betP w c m ∧ betP w c m ≤ b := by
 unfold betP
 split <;> omega
theorem foldl_range {b w : Int} {f : Nat → Int} (hw0 : 0 ≤ w) : ∀ (l : List Nat) (c : Int), -1 ≤ c ∧ c ≤ b → (∀ i ∈ l, f i + w ≤ b) → -1 ≤ l.foldl (fun c i => betP w c (f i)) c ∧ l.foldl (fun c i => betP w c (f i)) c ≤ b
 | [], c, hc, _ => hc
 | i :: l, c, hc, h => by
  simp only [List.foldl_cons]
  exact foldl_range hw0 l _ (betP_range hw0 hc (h i (by simp))) (fun j hj => h j (by simp [hj]))
theorem V_range (h : Wf R T N) : ∀ (m : Nat) (v : List Nat), T.length ≤ v.length → lftP T v T.length = m → -1 ≤ V R T v ∧ V R T v ≤ 500 * (m : Int) := by
 intro m
 induction m using Nat.strongRecOn with
 | _ m ih =>
  intro v hl hm
  have ht := h.t1
  have hw := wtP_range h v T.length (Nat.le_refl _)
  rw [V_eq hl]
  apply foldl_range hw.1
  ·split <;> omega
  ·intro i hi
   have h1 := lft_mv hl hi
   have h2 := ih (lftP T (inc v i) T.length) (by omega) (inc v i) (by rw [inc_len]; exact hl) rfl
   omega
theorem lftP_le (h : Wf R T N) (v : List Nat) : ∀ n, n ≤ T.length → lftP T v n ≤ 9 * n
 | 0, _ => by simp [lftP]
 | n + 1, hn => by
  have ih := lftP_le h v n (by omega)
  have hp := h.path _ (getD_mem z48 (show n < T.length by omega))
  simp only [lftP]
  omega
theorem V_small (h : Wf R T N) {v : List Nat} (hl : T.length ≤ v.length) : -1 ≤ V R T v ∧ V R T v ≤ 30000 := by
 have h1 := V_range h _ v hl rfl
 have h2 := lftP_le h v T.length (Nat.le_refl _)
 have h3 := h.t1
 omega
theorem hereP_succ (T : List S48) (v : List Nat) (n : Nat) : hereP T v (n + 1) = (hereP T v n || decide (0 ≤ atP T v n)) := by
 unfold hereP
 rw [List.range_succ, List.any_append]
 simp
/-- A position as the search meets it. -/
def okV (T : List S48) (v : List Nat) : Prop := v.length = 5 ∧ (∀ i, i < T.length → v.getD i 0 ≤ (T.getD i z48).f1.length + 1) ∧ ∀ i, T.length ≤ i → v.getD i 0 = 0
theorem okV_zero (T : List S48) : okV T [0, 0, 0, 0, 0] := by
 refine ⟨rfl, fun i _ => ?_, fun i _ => ?_⟩
 ·have : [0, 0, 0, 0, 0].getD i 0 = 0 := by
   match i with
   | 0 | 1 | 2 | 3 | 4 => rfl
   | n + 5 => rfl
  omega
 ·match i with
  | 0 | 1 | 2 | 3 | 4 => rfl
  | n + 5 => rfl
theorem okV_inc (ht : T.length ≤ 5) {v : List Nat} (h : okV T v) {i : Nat} (hi : i ∈ mvP R T v T.length) : okV T (inc v i) := by
 obtain ⟨h1, h2⟩ := mvP_mem hi
 have h3 := atP_far (okP_at h2)
 have hv := h.1
 refine ⟨by rw [inc_len]; exact h.1, fun j hj => ?_, fun j hj => ?_⟩
 ·rw [inc_get v (by omega)]
  have := h.2.1 j hj
  by_cases c : j = i
  ·subst c; rw [if_pos rfl]; omega
  ·rw [if_neg c]; omega
 ·rw [inc_get v (by omega), if_neg (by omega), h.2.2 j hj]
theorem okV_le (h : Wf R T N) {v : List Nat} (hv : okV T v) : ∀ x ∈ v, x < 10 := by
 intro x hx
 obtain ⟨i, hi, rfl⟩ := List.mem_iff_getElem.1 hx
 have e : v[i] = v.getD i 0 := by simp [List.getD, hi]
 rw [e]
 by_cases c : i < T.length
 ·have h1 := hv.2.1 i c
  have h2 := h.path _ (getD_mem z48 c)
  omega
 ·have := hv.2.2 i (by omega)
  omega
end
end Go.Proofs.YtkcocomehhlpmaaDoor.Sr
