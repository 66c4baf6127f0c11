/- With more room, or a train less, it costs no more. No program in sight. -/
import Derived.Test.YtpbclogjoangfaaFnEasierKw0
namespace Go.Proofs.Ytpbclogjoangfaa.Ea
open Go.RowKit Go.Proofs.YtpbclogjoangfaaW.PrintWords Go.Proofs.YtpbclogjoangfaaW.PrintLast Go.Proofs.Ytpbclogjoangfaa.Q Go.Proofs.Ytpbclogjoangfaa.Pu Go.Proofs.Ytpbclogjoangfaa.Sr Go.Proofs.Ytpbclogjoangfaa.Sp Go.Proofs.Ytpbclogjoangfaa.Al Go.Proofs.Ytpbclogjoangfaa.So Go.Proofs.Ytpbclogjoangfaa.Me Go.Proofs.Ytpbclogjoangfaa.Wk
set_option linter.unusedVariables false
set_option linter.unusedSimpArgs false
theorem foldl_low {w : Int} {f : Nat → Int} (hw : 0 ≤ w) : ∀ (l : List Nat) (c : Int), 0 ≤ c → 0 ≤ l.foldl (fun c i => betP w c (f i)) c ∧ l.foldl (fun c i => betP w c (f i)) c ≤ c
 | [], c, h => ⟨h, Int.le_refl _⟩
 | i :: l, c, h => by
  simp only [List.foldl_cons]
  have hb : 0 ≤ betP w c (f i) ∧ betP w c (f i) ≤ c := by unfold betP; split <;> omega
  have := foldl_low (f := f) hw l _ hb.1
  omega
theorem foldl_le {w : Int} {f : Nat → Int} (hw : 0 ≤ w) : ∀ (l : List Nat) (c : Int) (i : Nat), i ∈ l → 0 ≤ f i → 0 ≤ l.foldl (fun c i => betP w c (f i)) c ∧ l.foldl (fun c i => betP w c (f i)) c ≤ f i + w
 | [], c, i, h, _ => by simp at h
 | j :: l, c, i, h, h0 => by
  simp only [List.foldl_cons]
  rcases List.mem_cons.1 h with rfl | h
  ·have hb : 0 ≤ betP w c (f i) ∧ betP w c (f i) ≤ f i + w := by unfold betP; split <;> omega
   have := foldl_low (f := f) hw l _ hb.1
   omega
  ·exact foldl_le hw l _ i h h0
section
variable {R R' : List Int} {T : List S35} {N : List Int}
theorem V_le (h : Wf R T N) {v : List Nat} (hl : T.length ≤ v.length) {i : Nat} (hi : i ∈ mvP R T v T.length) (h0 : 0 ≤ V R T (inc v i)) : 0 ≤ V R T v ∧ V R T v ≤ V R T (inc v i) + wtP T v T.length := by
 rw [V_eq hl]
 exact foldl_le (wtP_range h v T.length (Nat.le_refl _)).1 _ _ i hi h0
theorem V_out {v : List Nat} (hl : T.length ≤ v.length) (h : hereP T v T.length = false) : V R T v = 0 := by
 have hm : mvP R T v T.length = [] := by
  apply List.eq_nil_iff_forall_not_mem.2
  intro i hi
  obtain ⟨h1, h2⟩ := mvP_mem hi
  have h3 := okP_at h2
  have h4 : hereP T v T.length = true := by
   unfold hereP
   exact List.any_eq_true.2 ⟨i, List.mem_range.2 h1, decide_eq_true h3⟩
  rw [h] at h4; exact Bool.false_ne_true h4
 rw [V_eq hl, hm, h]
 rfl
theorem V_in {v : List Nat} (hl : T.length ≤ v.length) (h : hereP T v T.length = true) (h0 : 0 ≤ V R T v) : ∃ i, i ∈ mvP R T v T.length ∧ 0 ≤ V R T (inc v i) ∧ V R T v = V R T (inc v i) + wtP T v T.length := by
 have h1 := V_eq (R := R) (T := T) (v := v) hl
 rw [if_pos h] at h1
 rcases foldl_bet (w := wtP T v T.length) (f := fun i => V R T (inc v i)) (mvP R T v T.length) (-1) with h2 | ⟨i, hi, h3, h2⟩
 ·rw [← h1] at h2; omega
 ·exact ⟨i, hi, h3, by rw [h1, h2]⟩
theorem okP_room (hr : ∀ j, R.getD j 0 ≤ R'.getD j 0) {v : List Nat} {i : Nat} (h : okP R T v i = true) : okP R' T v i = true := by
 simp only [okP, Bool.and_eq_true, Bool.or_eq_true, decide_eq_true_eq] at h ⊢
 have := hr (toP T v i).toNat
 refine ⟨h.1, ?_⟩
 rcases h.2 with h | h
 ·exact .inl h
 ·exact .inr (by omega)
theorem V_room (h : Wf R T N) (h' : Wf R' T N) (hr : ∀ j, R.getD j 0 ≤ R'.getD j 0) : ∀ (m : Nat) (v : List Nat), T.length ≤ v.length → lftP T v T.length = m → 0 ≤ V R T v → 0 ≤ V R' T v ∧ V R' T v ≤ V R T v := by
 intro m
 induction m using Nat.strongRecOn with
 | _ m ih =>
  intro v hl hm h0
  cases hh : hereP T v T.length with
  | false => rw [V_out hl hh, V_out hl hh]; omega
  | true =>
   obtain ⟨i, hi, h1, h2⟩ := V_in hl hh h0
   have hf := lft_mv hl hi
   have h3 := ih (lftP T (inc v i) T.length) (by omega) (inc v i) (by rw [inc_len]; exact hl) rfl h1
   obtain ⟨h4, h5⟩ := mvP_mem hi
   have h6 : i ∈ mvP R' T v T.length := List.mem_filter.2 ⟨List.mem_range.2 h4, okP_room hr h5⟩
   have h7 := V_le h' hl h6 h3.1
   omega
/-! a train less -/
theorem take_get {m i : Nat} (hi : i < m) : (T.take m).getD i z35 = T.getD i z35 := by
 simp [List.getD, List.getElem?_take, hi]
theorem atP_take {m i : Nat} (hi : i < m) (v : List Nat) : atP (T.take m) v i = atP T v i := by unfold atP; rw [take_get hi]
theorem toP_take {m i : Nat} (hi : i < m) (v : List Nat) : toP (T.take m) v i = toP T v i := by unfold toP; rw [take_get hi]
theorem thP_take {m : Nat} (v : List Nat) (a : Int) : thP (T.take m) v a m = thP T v a m := by
 unfold thP
 apply List.countP_congr
 intro i hi
 rw [atP_take (List.mem_range.1 hi)]
theorem thP_succ (T : List S35) (v : List Nat) (a : Int) (m : Nat) : thP T v a m ≤ thP T v a (m + 1) := by
 unfold thP
 rw [List.range_succ, List.countP_append]
 omega
theorem wtP_take : ∀ (n m : Nat), n ≤ m → ∀ (v : List Nat), wtP (T.take m) v n = wtP T v n
 | 0, m, _, v => rfl
 | n + 1, m, h, v => by
  simp only [wtP]
  rw [wtP_take n m (by omega) v, atP_take (by omega), take_get (by omega)]
theorem hereP_take {m : Nat} (v : List Nat) (h : hereP (T.take m) v m = true) : hereP T v (m + 1) = true := by
 rw [hereP_succ]
 unfold hereP at h ⊢
 obtain ⟨i, hi, h⟩ := List.any_eq_true.1 h
 rw [atP_take (List.mem_range.1 hi)] at h
 have : (List.range m).any (fun i => decide (0 ≤ atP T v i)) = true := List.any_eq_true.2 ⟨i, hi, h⟩
 rw [this]; rfl
theorem V_less {m : Nat} {N' : List Int} (hT : T.length = m + 1) (h : Wf R T N) (h' : Wf R (T.take m) N') : ∀ (q : Nat) (v : List Nat), T.length ≤ v.length → lftP T v T.length = q → 0 ≤ V R T v → 0 ≤ V R (T.take m) v ∧ V R (T.take m) v ≤ V R T v := by
 have hU : (T.take m).length = m := by rw [List.length_take]; omega
 intro q
 induction q using Nat.strongRecOn with
 | _ q ih =>
  intro v hl hm h0
  have hl' : (T.take m).length ≤ v.length := by omega
  have hw := wtP_range h v T.length (Nat.le_refl _)
  cases hh : hereP (T.take m) v (T.take m).length with
  | false => rw [V_out hl' hh]; omega
  | true =>
   have hh2 : hereP T v T.length = true := by
    rw [hU] at hh
    rw [hT]; exact hereP_take v hh
   obtain ⟨i, hi, h1, h2⟩ := V_in hl hh2 h0
   have hf := lft_mv hl hi
   have h3 := ih (lftP T (inc v i) T.length) (by omega) (inc v i) (by rw [inc_len]; exact hl) rfl h1
   obtain ⟨h4, h5⟩ := mvP_mem hi
   by_cases c : i < m
   ·have h6 : i ∈ mvP R (T.take m) v (T.take m).length := by
     refine List.mem_filter.2 ⟨List.mem_range.2 (by omega), ?_⟩
     simp only [okP, Bool.and_eq_true, Bool.or_eq_true, decide_eq_true_eq] at h5 ⊢
     rw [atP_take c, toP_take c, hU, thP_take]
     have h8 := thP_succ T v (toP T v i) m
     rw [hT] at h5
     refine ⟨h5.1, ?_⟩
     rcases h5.2 with h | h
     ·exact .inl h
     ·exact .inr (by omega)
    have h7 := V_le h' hl' h6 h3.1
    have h9 : wtP (T.take m) v (T.take m).length ≤ wtP T v T.length := by
     rw [hU, hT, wtP_take m m (Nat.le_refl _) v]
     have ht := h.wt _ (getD_mem z35 (show m < T.length by omega))
     simp only [wtP]
     split <;> omega
    omega
   ·have hi2 : i = m := by omega
    subst hi2
    have he : stT (T.take i) (inc v i) = stT (T.take i) v := by
     have hat : ∀ j, j < (T.take i).length → atP (T.take i) (inc v i) j = atP (T.take i) v j := fun j hj => atP_inc_ne (by omega) (by omega)
     have hx : idx (T.take i) (inc v i) = idx (T.take i) v := by
      unfold idx
      apply List.filter_congr
      intro j hj
      rw [hat j (List.mem_range.1 hj)]
     unfold stT
     rw [hx]
     apply List.map_congr_left
     intro j hj
     exact tr_ne (by omega) (by have := (idx_mem.1 hj).1; omega)
    have hs := V_same _ h' h' (v := inc v i) (u := v) (by rw [inc_len]; exact hl') hl' rfl he
    omega
/-- The state with a train less is right. -/
theorem namesOk_take : ∀ {l : List Int} {a : Int} (k : Nat), namesOk a l = true → namesOk a (l.take k) = true
 | [], _, k, _ => by simp [namesOk]
 | x :: l, a, 0, h => rfl
 | x :: l, a, k + 1, h => by
  simp only [namesOk, Bool.and_eq_true, decide_eq_true_eq, List.take_succ_cons] at h ⊢
  exact ⟨h.1, namesOk_take k h.2⟩
theorem right_take (h : Right R T N) (m : Nat) : Right R (T.take m) (N.take m) := by
 have hfit := (roomsOk_iff T R 0).1 h.fits
 refine ⟨h.r0, h.r1, ?_, ?_, h.room, ?_, namesOk_take m h.names, ?_⟩
 ·have := h.t1
  rw [List.length_take]; omega
 ·rw [List.length_take, List.length_take, h.n1]
 ·exact List.all_eq_true.2 fun y hy => List.all_eq_true.1 h.trains y (List.mem_of_mem_take hy)
 ·refine (roomsOk_iff _ R 0).2 fun j hj => ?_
  have h1 := hfit j hj
  have h2 : cnt (T.take m) ((0 + j : Nat) : Int) ≤ cnt T ((0 + j : Nat) : Int) := (List.take_sublist m T).countP_le
  omega
/-- More room. -/
theorem right_room (h : Right R T N) {j : Nat} (hj : j < R.length) (h5 : R.getD j 0 ≤ 4) : Right (R.set j (R.getD j 0 + 1)) T N ∧ ∀ i, R.getD i 0 ≤ (R.set j (R.getD j 0 + 1)).getD i 0 := by
 have hroom := List.all_eq_true.1 h.room
 have hle : ∀ i, R.getD i 0 ≤ (R.set j (R.getD j 0 + 1)).getD i 0 := by
  intro i
  by_cases c : j = i
  ·subst c
   have e : (R.set j (R.getD j 0 + 1)).getD j 0 = R.getD j 0 + 1 := by simp [List.getD, List.getElem?_set, hj]
   omega
  ·have e : (R.set j (R.getD j 0 + 1)).getD i 0 = R.getD i 0 := by simp [List.getD, List.getElem?_set, c]
   omega
 refine ⟨⟨by rw [List.length_set]; exact h.r0, by rw [List.length_set]; exact h.r1, h.t1, h.n1, ?_, by rw [List.length_set]; exact h.trains, h.names, ?_⟩, hle⟩
 ·refine List.all_eq_true.2 fun y hy => ?_
  rcases List.mem_or_eq_of_mem_set hy with hy | rfl
  ·exact hroom y hy
  ·have := hroom _ (getD_mem 0 hj)
   simp only [roomOk, Bool.and_eq_true, decide_eq_true_eq] at this ⊢
   omega
 ·refine (roomsOk_iff _ _ 0).2 fun i hi => ?_
  rw [List.length_set] at hi
  have h1 := (roomsOk_iff T R 0).1 h.fits i hi
  have := hle i
  omega
end
end Go.Proofs.Ytpbclogjoangfaa.Ea
