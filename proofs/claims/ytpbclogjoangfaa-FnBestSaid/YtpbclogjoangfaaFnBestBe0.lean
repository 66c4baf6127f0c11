/- A drawn order against the best one: what it costs, and where they first part. No program in sight. -/
import Derived.Test.YtpbclogjoangfaaFnBestEa0
namespace Go.Proofs.Ytpbclogjoangfaa.Be
open Go.RowKit Go.Proofs.YtpbclogjoangfaaW.PrintWords Go.Proofs.YtpbclogjoangfaaW.PrintLast Go.Proofs.Ytpbclogjoangfaa.Q Go.Proofs.Ytpbclogjoangfaa.Pu Go.Proofs.Ytpbclogjoangfaa.Sr Go.Proofs.Ytpbclogjoangfaa.Sp Go.Proofs.Ytpbclogjoangfaa.Al Go.Proofs.Ytpbclogjoangfaa.So Go.Proofs.Ytpbclogjoangfaa.Me Go.Proofs.Ytpbclogjoangfaa.Wk Go.Proofs.Ytpbclogjoangfaa.Ea
set_option linter.unusedVariables false
set_option linter.unusedSimpArgs false
theorem find_least {p : Nat → Bool} : ∀ (l : List Nat), l.Pairwise (· < ·) → ∀ {i j : Nat}, l.find? p = some i → j ∈ l → p j = true → i ≤ j
 | [], _, i, j, _, hj, _ => by simp at hj
 | a :: l, hl, i, j, hf, hj, hp => by
  obtain ⟨h1, h2⟩ := List.pairwise_cons.1 hl
  rw [List.find?_cons] at hf
  by_cases c : p a = true
  ·rw [c] at hf
   injection hf with hf
   subst hf
   rcases List.mem_cons.1 hj with rfl | hj
   ·exact Nat.le_refl _
   ·exact Nat.le_of_lt (h1 j hj)
  ·have hj2 : j ∈ l := by
    rcases List.mem_cons.1 hj with rfl | hj
    ·exact absurd hp c
    ·exact hj
   simp only [Bool.not_eq_true] at c
   rw [c] at hf
   exact find_least l h2 hf hj2 hp
theorem nxt_least {R : List Int} {T : List S35} {v : List Nat} {i j : Nat} (h : nxtP R T v = some i) (hj : j ∈ mvP R T v T.length) (hg : goodP R T v j = true) : i ≤ j :=
 find_least _ (List.pairwise_lt_range.filter _) h hj hg
/-- What is known of an order of moves from the beginning on: by trains L, it leads to position v and has cost s so far. -/
structure Hist (R : List Int) (T : List S35) (N : List Int) (L v : List Nat) (s : Int) : Prop where
 ok : okV T v
 mem : ∀ i ∈ L, i < T.length
 len : L.length + lftP T v T.length = lftP T zv T.length
 cost : ∀ M : List Nat, costF 0 ((L ++ M).map (fun i => N.getD i 0)) R T N = costF s (M.map (fun i => N.getD i 0)) R (stT T v) (stN T N v)
 low : 0 ≤ V R T v → 0 ≤ V R T zv ∧ V R T zv ≤ s + V R T v
 lex : 0 ≤ V R T v → V R T zv = s + V R T v → pthP R T zv = L ++ pthP R T v ∨ ∃ j, j < L.length ∧ j < (pthP R T zv).length ∧ (∀ i, i < j → L.getD i 0 = (pthP R T zv).getD i 0) ∧ (pthP R T zv).getD j 0 < L.getD j 0
theorem getD_app {l m : List Nat} {i : Nat} (h : i < l.length) : (l ++ m).getD i 0 = l.getD i 0 := by
 simp [List.getD, List.getElem?_append_left h]
section
variable {R : List Int} {T : List S35} {N : List Int}
theorem Hist.start (h : Right R T N) : Hist R T N [] zv 0 := by
 refine ⟨okV_zero T, by simp, by simp, fun M => ?_, fun h0 => ⟨h0, by omega⟩, fun _ _ => .inl rfl⟩
 rw [show stT T zv = T from stT_zero h.wf, show stN T N zv = N from stN_zero h.wf]
 rfl
theorem Hist.step (h : Right R T N) {L v : List Nat} {s : Int} (H : Hist R T N L v s) {i : Nat} (hi : i ∈ mvP R T v T.length) : Hist R T N (L ++ [i]) (inc v i) (s + wtP T v T.length) := by
 have hw := h.wf
 have hl : T.length ≤ v.length := by rw [H.ok.1]; exact hw.t1
 have hf := lft_mv hl hi
 have hlen := H.len
 obtain ⟨h1, h2⟩ := mvP_mem hi
 have hlow : 0 ≤ V R T (inc v i) → 0 ≤ V R T v ∧ V R T v ≤ V R T (inc v i) + wtP T v T.length := V_le hw hl hi
 refine ⟨okV_inc hw.t1 H.ok hi, ?_, by simp only [List.length_append, List.length_cons, List.length_nil]; omega, fun M => ?_, fun h0 => ?_, fun h0 he => ?_⟩
 ·intro j hj
  rcases List.mem_append.1 hj with hj | hj
  ·exact H.mem j hj
  ·rw [List.mem_singleton.1 hj]; exact h1
 ·rw [List.append_assoc, H.cost]
  have hidx : i ∈ idx T v := idx_mem.2 ⟨h1, okP_at h2⟩
  obtain ⟨k, hk, he⟩ := idx_at hidx
  have hfn := find_in h hk
  rw [he] at hfn
  show costF s (N.getD i 0 :: M.map (fun i => N.getD i 0)) R (stT T v) (stN T N v) = _
  conv => lhs; unfold costF
  rw [hfn, if_neg (by omega), Int.toNat_natCast, can_st hw hk, he, if_pos h2, step_st hw hl hk, he, wgt_st]
 ·have h3 := hlow h0
  have h4 := H.low h3.1
  omega
 ·have h3 := hlow h0
  have h4 := H.low h3.1
  have e1 : V R T zv = s + V R T v := by omega
  have e2 : V R T v = V R T (inc v i) + wtP T v T.length := by omega
  rcases H.lex h3.1 e1 with h5 | ⟨j, h5, h6, h7, h8⟩
  ·have hh : hereP T v T.length = true := by
    unfold hereP
    exact List.any_eq_true.2 ⟨i, List.mem_range.2 h1, decide_eq_true (okP_at h2)⟩
   obtain ⟨a, ha⟩ := nxt_some hl hh h3.1
   have hg : goodP R T v i = true := by
    unfold goodP
    exact decide_eq_true ⟨h0, e2.symm⟩
   have hai := nxt_least ha hi hg
   have hp := pthP_some hl hh ha
   rw [hp] at h5
   by_cases c : a = i
   ·subst c
    left
    rw [h5, List.append_assoc]; rfl
   ·right
    refine ⟨L.length, by simp, by rw [h5]; simp, fun j hj => ?_, ?_⟩
    ·rw [h5, getD_app hj, getD_app hj]
    ·rw [h5]
     simp [List.getD]
     omega
  ·right
   refine ⟨j, by simp only [List.length_append, List.length_cons, List.length_nil]; omega, h6, fun q hq => ?_, ?_⟩
   ·rw [getD_app (by omega)]; exact h7 q hq
   ·rw [getD_app h5]; exact h8
theorem Hist.len45 (h : Right R T N) {L v : List Nat} {s : Int} (H : Hist R T N L v s) : L.length ≤ 45 := by
 have h1 := H.len
 have h2 := lftP_le h.wf zv T.length (Nat.le_refl _)
 have h3 := h.t1
 omega
/-- What it costs. -/
theorem Hist.ends (h : Right R T N) {L v : List Nat} {s : Int} (H : Hist R T N L v s) : costD R T N (L.map (fun i => N.getD i 0)) = if (stT T v).length = 0 then s else -1 := by
 have h0 := (right_iff R T N).2 h
 have h1 := H.cost []
 rw [List.append_nil] at h1
 unfold costD
 rw [if_pos ⟨h0, by rw [List.length_map]; exact H.len45 h⟩, h1]
 rfl
/-- With nobody left: it costs no less than the best, and if as much, then the best one has the lower train where they part. -/
theorem Hist.best (h : Right R T N) {L v : List Nat} {s : Int} (H : Hist R T N L v s) (he : (stT T v).length = 0) : 0 ≤ V R T zv ∧ V R T zv ≤ s ∧ (V R T zv = s → pthP R T zv = L ∨ ∃ j, j < L.length ∧ j < (pthP R T zv).length ∧ (∀ i, i < j → L.getD i 0 = (pthP R T zv).getD i 0) ∧ (pthP R T zv).getD j 0 < L.getD j 0) := by
 have hl : T.length ≤ v.length := by rw [H.ok.1]; exact h.wf.t1
 have hi : idx T v = [] := List.eq_nil_of_length_eq_zero (by rw [← stT_len]; exact he)
 have hv : V R T v = 0 := by rw [V_idx hl, if_pos hi]
 have hh : hereP T v T.length = false := by rw [hereP_idx, hi]; rfl
 have h1 := H.low (by omega)
 refine ⟨h1.1, by omega, fun e => ?_⟩
 have h2 := H.lex (by omega) (by omega)
 rw [pthP_none hh, List.append_nil] at h2
 exact h2
theorem pthP_mem (h : Wf R T N) : ∀ (m : Nat) (v : List Nat), T.length ≤ v.length → lftP T v T.length = m → ∀ i ∈ pthP R T v, i < T.length := by
 intro m
 induction m using Nat.strongRecOn with
 | _ m ih =>
  intro v hl hm i hi
  cases hh : hereP T v T.length with
  | false => rw [pthP_none hh] at hi; simp at hi
  | true =>
   cases hx : nxtP R T v with
   | none =>
    have : pthP R T v = [] := by
     unfold pthP pathP
     rw [hx, if_pos hh]
    rw [this] at hi; simp at hi
   | some a =>
    rw [pthP_some hl hh hx] at hi
    have h1 := (nxt_mem hx).1
    have h2 := lft_mv hl h1
    rcases List.mem_cons.1 hi with rfl | hi
    ·exact (mvP_mem h1).1
    ·exact ih (lftP T (inc v a) T.length) (by omega) (inc v a) (by rw [inc_len]; exact hl) rfl i hi
/-- Where two orders first part, by numbers. -/
theorem parts (h : Right R T N) {L P : List Nat} (hL : ∀ i ∈ L, i < T.length) (hP : ∀ i ∈ P, i < T.length) (hd : P = L ∨ ∃ j, j < L.length ∧ j < P.length ∧ (∀ i, i < j → L.getD i 0 = P.getD i 0) ∧ P.getD j 0 < L.getD j 0) :
  ∃ j, j ≤ L.length ∧ (∀ i, i < j → i < P.length ∧ (L.map (fun i => N.getD i 0)).getD i 0 = (P.map (fun i => N.getD i 0)).getD i 0) ∧ (j < L.length → j < P.length ∧ (P.map (fun i => N.getD i 0)).getD j 0 < (L.map (fun i => N.getD i 0)).getD j 0) := by
 rcases hd with rfl | ⟨j, h1, h2, h3, h4⟩
 ·exact ⟨P.length, Nat.le_refl _, fun i hi => ⟨hi, rfl⟩, fun h => absurd h (Nat.lt_irrefl _)⟩
 ·refine ⟨j, by omega, fun i hi => ⟨by omega, ?_⟩, fun _ => ⟨h2, ?_⟩⟩
  ·rw [mapD L _ (show i < L.length by omega) 0 0, mapD P _ (show i < P.length by omega) 0 0, h3 i hi]
  ·rw [mapD L _ h1 0 0, mapD P _ h2 0 0]
   exact (namesOk_lt h.names).2 _ _ h4 (by rw [h.n1]; exact hL _ (getD_mem 0 h1))
end
end Go.Proofs.Ytpbclogjoangfaa.Be
