/- The best order. No program in sight. -/
import Derived.Test.YtpbclogjoangfaaFnBestAl0
namespace Go.Proofs.Ytpbclogjoangfaa.So
open Go.RowKit Go.Proofs.YtpbclogjoangfaaW.PrintWords Go.Proofs.YtpbclogjoangfaaW.PrintLast Go.Proofs.Ytpbclogjoangfaa.Q Go.Proofs.Ytpbclogjoangfaa.Pu Go.Proofs.Ytpbclogjoangfaa.Sr Go.Proofs.Ytpbclogjoangfaa.Sp Go.Proofs.Ytpbclogjoangfaa.Al
set_option linter.unusedVariables false
set_option linter.unusedSimpArgs false
/-- A move by which it costs no more than it must. -/
def goodP (R : List Int) (T : List S35) (v : List Nat) (i : Nat) : Bool := decide (0 ≤ V R T (inc v i) ∧ V R T (inc v i) + wtP T v T.length = V R T v)
def nxtP (R : List Int) (T : List S35) (v : List Nat) : Option Nat := (mvP R T v T.length).find? (goodP R T v)
def pathP (R : List Int) (T : List S35) : Nat → List Nat → List Nat
 | 0, _ => []
 | k + 1, v => if hereP T v T.length = true then (match nxtP R T v with | some i => i :: pathP R T k (inc v i) | none => []) else []
/-- The order of moves from a position on. -/
def pthP (R : List Int) (T : List S35) (v : List Nat) : List Nat := pathP R T (lftP T v T.length + 1) v
section
variable {R : List Int} {T : List S35} {N : List Int}
theorem nxt_mem {v : List Nat} {i : Nat} (h : nxtP R T v = some i) : i ∈ mvP R T v T.length ∧ goodP R T v i = true := ⟨List.mem_of_find?_eq_some h, List.find?_some h⟩
theorem pathP_fuel : ∀ (m : Nat) (v : List Nat), T.length ≤ v.length → lftP T v T.length = m → ∀ n, m < n → pathP R T n v = pathP R T (m + 1) v := by
 intro m
 induction m using Nat.strongRecOn with
 | _ m ih =>
  intro v hl hm n hn
  obtain ⟨k, rfl⟩ : ∃ k, n = k + 1 := ⟨n - 1, by omega⟩
  simp only [pathP]
  cases hx : nxtP R T v with
  | none => rfl
  | some i =>
   have h1 := lft_mv hl (nxt_mem hx).1
   have h2 := ih (lftP T (inc v i) T.length) (by omega) (inc v i) (by rw [inc_len]; exact hl) rfl
   simp only [h2 k (by omega), h2 m (by omega)]
theorem pthP_none {v : List Nat} (h : hereP T v T.length = false) : pthP R T v = [] := by
 unfold pthP pathP
 rw [h]; rfl
theorem pthP_some {v : List Nat} (hl : T.length ≤ v.length) (h : hereP T v T.length = true) {i : Nat} (hi : nxtP R T v = some i) : pthP R T v = i :: pthP R T (inc v i) := by
 unfold pthP
 conv => lhs; unfold pathP
 rw [if_pos h, hi]
 have h1 := lft_mv hl (nxt_mem hi).1
 have h2 := pathP_fuel (R := R) (lftP T (inc v i) T.length) (inc v i) (by rw [inc_len]; exact hl) rfl
 simp only [h2 (lftP T v T.length) (by omega)]
theorem foldl_bet {w : Int} {f : Nat → Int} : ∀ (l : List Nat) (c : Int), l.foldl (fun c i => betP w c (f i)) c = c ∨ ∃ i ∈ l, 0 ≤ f i ∧ l.foldl (fun c i => betP w c (f i)) c = f i + w
 | [], c => .inl rfl
 | i :: l, c => by
  simp only [List.foldl_cons]
  rcases foldl_bet l (betP w c (f i)) with h | ⟨j, hj, h0, h⟩
  ·rw [h]
   unfold betP
   split
   ·rename_i hc
    exact .inr ⟨i, by simp, hc.1, rfl⟩
   ·exact .inl rfl
  ·exact .inr ⟨j, by simp [hj], h0, h⟩
/-- Where they can come home there is such a move. -/
theorem nxt_some {v : List Nat} (hl : T.length ≤ v.length) (h : hereP T v T.length = true) (hV : 0 ≤ V R T v) : ∃ i, nxtP R T v = some i := by
 have h1 := V_eq (R := R) (T := T) (v := v) hl
 rw [if_pos h] at h1
 rcases foldl_bet (w := wtP T v T.length) (f := fun i => V R T (inc v i)) (mvP R T v T.length) (-1) with h2 | ⟨i, hi, h0, h2⟩
 ·rw [← h1] at h2; omega
 ·rw [← h1] at h2
  have hg : goodP R T v i = true := by
   unfold goodP
   exact decide_eq_true ⟨h0, h2.symm⟩
  cases hx : nxtP R T v with
  | some j => exact ⟨j, rfl⟩
  | none =>
   have := List.find?_eq_none.1 hx i hi
   exact absurd hg this
theorem wt_here (h : Wf R T N) (v : List Nat) : ∀ n, n ≤ T.length → (wtP T v n = 0 ↔ hereP T v n = false)
 | 0, _ => by simp [wtP, hereP]
 | n + 1, hn => by
  have ih := wt_here h v n (by omega)
  have hw := h.wt _ (getD_mem z35 (show n < T.length by omega))
  have hr := wtP_range h v n (by omega)
  rw [hereP_succ]
  simp only [wtP, Bool.or_eq_false_iff, decide_eq_false_iff_not]
  by_cases c : 0 ≤ atP T v n
  ·rw [if_pos c]
   constructor
   ·intro h; omega
   ·intro h; exact absurd c h.2
  ·rw [if_neg c, Int.add_zero, ih]
   exact ⟨fun h => ⟨h, c⟩, fun h => h.1⟩
theorem find_take {α : Type} (p : α → Bool) (L : List α) (z : α) {n : Nat} (hn : n < L.length) (h : L.find? p = (L.drop n).find? p) : L.find? p = if p (L.getD n z) = true then some (L.getD n z) else (L.drop (n + 1)).find? p := by
 have hd : L.drop n = L.getD n z :: L.drop (n + 1) := by
  rw [List.drop_eq_getElem_cons hn]
  simp [List.getD, hn]
 rw [h, hd, List.find?_cons]
 by_cases c : p (L.getD n z) = true
 ·rw [if_pos c, c]
 ·rw [if_neg c]
  simp only [Bool.not_eq_true] at c
  rw [c]
theorem pathP_len : ∀ (k : Nat) (v : List Nat), (pathP R T k v).length ≤ k
 | 0, _ => by simp [pathP]
 | k + 1, v => by
  simp only [pathP]
  split
  ·split
   ·rename_i i _
    have := pathP_len k (inc v i)
    simp only [List.length_cons]; omega
   ·simp
  ·simp
theorem pthP_len (h : Wf R T N) (v : List Nat) : (pthP R T v).length ≤ 46 := by
 have h1 := pathP_len (R := R) (T := T) (lftP T v T.length + 1) v
 have h2 := lftP_le h v T.length (Nat.le_refl _)
 have h3 := h.t1
 unfold pthP
 omega
/-- Solve. -/
def solveD (R : List Int) (T : List S35) (N : List Int) : Bool × Int × List Int :=
 if okS R T N = 0 then if V R T zv < 0 then (false, 0, []) else (true, V R T zv, (pthP R T zv).map (fun i => N.getD i 0)) else (false, 0, [])
end
end Go.Proofs.Ytpbclogjoangfaa.So
