/- The walk of right states: a step keeps a state right; what a state costs goes with the state. No program in sight. -/
import Derived.Test.YtpbclogjoangfaaFnNeverMe0
import Derived.Test.YtpbclogjoangfaaFnNeverPure4
import Derived.Test.YtpbclogjoangfaaFnNeverPuStep
import Derived.Test.YtpbclogjoangfaaFnNeverQ1
import Derived.Test.YtpbclogjoangfaaFnNeverQ6
namespace Go.Proofs.Ytpbclogjoangfaa.Wk
open Go.RowKit Go.Proofs.YtpbclogjoangfaaW.PrintWords Go.Proofs.YtpbclogjoangfaaW.PrintLast Go.Proofs.Ytpbclogjoangfaa.Q Go.Proofs.Ytpbclogjoangfaa.Pu Go.Proofs.Ytpbclogjoangfaa.Sr Go.Proofs.Ytpbclogjoangfaa.Sp Go.Proofs.Ytpbclogjoangfaa.Al Go.Proofs.Ytpbclogjoangfaa.So Go.Proofs.Ytpbclogjoangfaa.Me
set_option linter.unusedVariables false
set_option linter.unusedSimpArgs false
theorem namesOk_le : ∀ {l : List Int} {a b : Int}, a ≤ b → namesOk b l = true → namesOk a l = true
 | [], _, _, _, _ => rfl
 | x :: l, a, b, h, hn => by
  simp only [namesOk, Bool.and_eq_true, decide_eq_true_eq] at hn ⊢
  exact ⟨⟨by omega, hn.1.2⟩, hn.2⟩
theorem namesOk_erase : ∀ {l : List Int} {a : Int} (k : Nat), namesOk a l = true → namesOk a (l.eraseIdx k) = true
 | [], _, _, _ => rfl
 | x :: l, a, 0, h => by
  simp only [namesOk, Bool.and_eq_true, decide_eq_true_eq] at h
  exact namesOk_le (by omega) h.2
 | x :: l, a, k + 1, h => by
  simp only [namesOk, Bool.and_eq_true, decide_eq_true_eq, List.eraseIdx_cons_succ] at h ⊢
  exact ⟨h.1, namesOk_erase k h.2⟩
theorem roomsOk_iff (T : List S35) : ∀ (l : List Int) (i : Nat), roomsOk T i l = true ↔ ∀ j, j < l.length → (cnt T ((i + j : Nat) : Int) : Int) ≤ l.getD j 0
 | [], i => by simp [roomsOk]
 | r :: rs, i => by
  simp only [roomsOk, Bool.and_eq_true, decide_eq_true_eq, roomsOk_iff T rs (i + 1)]
  constructor
  ·rintro ⟨h1, h2⟩ j hj
   cases j with
   | zero => simpa using h1
   | succ j =>
    have := h2 j (by simpa using hj)
    rw [show i + (j + 1) = i + 1 + j by omega]
    simpa using this
  ·intro h
   refine ⟨by simpa using h 0 (by simp), fun j hj => ?_⟩
   have := h (j + 1) (by simpa using hj)
   rw [show i + (j + 1) = i + 1 + j by omega] at this
   simpa using this
section
variable {R : List Int} {T : List S35} {N : List Int}
theorem step_right (h : Right R T N) {i : Nat} (hi : i < T.length) (hc : canB R T i = true) : (stepD R T N i).1 = R ∧ Right R (stepD R T N i).2.1 (stepD R T N i).2.2 := by
 have hn := h.n1
 have hfit := (roomsOk_iff T R 0).1 h.fits
 have hw := h.wf
 have htr := List.all_eq_true.1 h.trains
 have hm := getD_mem z35 hi
 unfold stepD
 unfold canB at hc
 have hti := htr _ hm
 generalize hq : T.getD i z35 = t at *
 cases hp : t.f1 with
 | nil =>
  refine ⟨rfl, h.r0, h.r1, ?_, ?_, h.room, ?_, namesOk_erase i h.names, ?_⟩
  ·show (T.eraseIdx i).length ≤ 5
   have := h.t1
   rw [List.length_eraseIdx]; split <;> omega
  ·show (N.eraseIdx i).length = (T.eraseIdx i).length
   rw [List.length_eraseIdx, List.length_eraseIdx, hn]
  ·exact List.all_eq_true.2 fun y hy => htr y (List.mem_of_mem_eraseIdx hy)
  ·refine (roomsOk_iff _ R 0).2 fun j hj => ?_
   have h1 := hfit j hj
   have h2 : cnt (T.eraseIdx i) ((0 + j : Nat) : Int) ≤ cnt T ((0 + j : Nat) : Int) := (List.eraseIdx_sublist T i).countP_le
   show (cnt (T.eraseIdx i) _ : Int) ≤ _
   omega
 | cons x p =>
  rw [hp] at hc
  have hc1 := of_decide_eq_true hc
  simp only [trainOk, Bool.and_eq_true, decide_eq_true_eq, hp, pathOk, List.length_cons] at hti
  refine ⟨rfl, h.r0, h.r1, ?_, ?_, h.room, ?_, h.names, ?_⟩
  ·show (T.set i _).length ≤ 5
   rw [List.length_set]; exact h.t1
  ·show N.length = (T.set i _).length
   rw [List.length_set]; exact hn
  ·refine List.all_eq_true.2 fun y hy => ?_
   rcases List.mem_or_eq_of_mem_set hy with hy | rfl
   ·exact htr y hy
   ·simp only [trainOk, Bool.and_eq_true, decide_eq_true_eq]
    exact ⟨⟨hti.2.1.1, hti.2.1.2.1, by omega, hti.1.2.2.2⟩, hti.2.2⟩
  ·refine (roomsOk_iff _ R 0).2 fun j hj => ?_
   have h1 := hfit j hj
   show (cnt (T.set i ⟨x, p, t.f2⟩) _ : Int) ≤ _
   unfold cnt
   rw [List.countP_set hi]
   by_cases e : x = ((0 + j : Nat) : Int)
   ·rw [e] at hc1
    have e2 : (((0 + j : Nat) : Int)).toNat = j := by omega
    rw [e2] at hc1
    unfold cnt at hc1
    simp only [e, decide_true, if_true]
    split <;> omega
   ·simp only [decide_eq_false e, Bool.false_eq_true, if_false]
    unfold cnt at h1
    split <;> omega
theorem foldl_at {α β : Type} (f : β → α → β) (z : α) (l : List α) (b : β) : l.foldl f b = (List.range l.length).foldl (fun c k => f c (l.getD k z)) b := by
 have e : l = (List.range l.length).map (fun k => l.getD k z) := by
  apply List.ext_getElem
  ·simp
  ·intro j h1 h2
   simp [List.getD, h1]
 have e2 := congrArg (fun m => List.foldl f b m) e
 simp only [List.foldl_map] at e2
 exact e2
/-- What a position costs hangs on the state there alone. -/
theorem V_same : ∀ (m : Nat) {T U : List S35} {N M : List Int} {v u : List Nat}, Wf R T N → Wf R U M → T.length ≤ v.length → U.length ≤ u.length → lftP T v T.length = m → stT T v = stT U u → V R T v = V R U u := by
 intro m
 induction m using Nat.strongRecOn with
 | _ m ih =>
  intro T U N M v u hT hU hv hu hm he
  have hl : (idx T v).length = (idx U u).length := by rw [← stT_len, ← stT_len, he]
  rw [V_idx hv, V_idx hu]
  by_cases c : idx T v = []
  ·have c2 : idx U u = [] := List.eq_nil_of_length_eq_zero (by rw [← hl, c]; rfl)
   rw [if_pos c, if_pos c2]
  ·have c2 : ¬ idx U u = [] := fun e => c (List.eq_nil_of_length_eq_zero (by rw [hl, e]; rfl))
   rw [if_neg c, if_neg c2]
   unfold Fv
   rw [foldl_at _ 0 (idx T v), foldl_at _ 0 (idx U u), hl]
   apply foldl_congr'
   intro cc k hk
   have hk2 : k < (idx U u).length := List.mem_range.1 hk
   have hk1 : k < (idx T v).length := by omega
   rw [← can_st hT hk1, ← can_st hU hk2, ← wgt_st, ← wgt_st, he]
   by_cases d : canB R (stT U u) k = true
   ·rw [if_pos d, if_pos d]
    have d1 : okP R T v ((idx T v).getD k 0) = true := by rw [← can_st hT hk1, he]; exact d
    have hi := idx_mem.1 (getD_mem 0 hk1)
    have hlf := lft_mv (R := R) hv (i := (idx T v).getD k 0) (List.mem_filter.2 ⟨List.mem_range.2 hi.1, d1⟩)
    rw [ih (lftP T (inc v ((idx T v).getD k 0)) T.length) (by omega) (u := inc u ((idx U u).getD k 0)) hT hU (by rw [inc_len]; exact hv) (by rw [inc_len]; exact hu) rfl]
    have s1 := step_st hT hv hk1
    have s2 := step_st hU hu hk2
    have s3 : (stepD R (stT T v) (stN T N v) k).2.1 = (stepD R (stT U u) (stN U M u) k).2.1 := by
     rw [he]
     unfold stepD
     split <;> rfl
    rw [s1, s2] at s3
    exact s3
   ·rw [if_neg d, if_neg d]
theorem V_st (h : Wf R T N) {v : List Nat} (hv : T.length ≤ v.length) : V R (stT T v) zv = V R T v := by
 have hw := st_wf h (v := v)
 exact V_same _ hw h (Nat.le_trans hw.t1 (by decide)) hv rfl (stT_zero hw)
/-- What a state costs. -/
def val (R : List Int) (T : List S35) : Int := V R T zv
theorem val_step (h : Wf R T N) {i : Nat} (hi : i < T.length) : val R (stepD R T N i).2.1 = V R T (inc zv i) := by
 rw [step0 h hi]
 exact V_st h (by rw [inc_len]; exact h.t1)
theorem val_can (h : Wf R T N) {i : Nat} (hi : i < T.length) (hc : canB R T i = true) : i ∈ mvP R T zv T.length := by
 rw [can0 h hi] at hc
 simp [mvP, hi, hc]
/-- From where a step leads to where all can leave, all can leave. -/
theorem val_up (h : Wf R T N) {i : Nat} (hi : i < T.length) (hc : canB R T i = true) (hv : 0 ≤ val R (stepD R T N i).2.1) : 0 ≤ val R T := by
 rw [val_step h hi] at hv
 have hl : T.length ≤ zv.length := h.t1
 unfold val
 rw [V_eq hl]
 exact foldl_some (wtP_range h zv T.length (Nat.le_refl _)).1 _ _ ⟨i, val_can h hi hc, hv⟩
theorem find_name (h : Right R T N) {i : Nat} (hi : i < T.length) : findD N (N.getD i 0) = (i : Int) := by
 have hw := h.wf
 have h1 := find_in h (v := zv) (k := i) (by rw [show idx T zv = List.range T.length from idx_zero hw, List.length_range]; exact hi)
 rw [show stN T N zv = N from stN_zero hw, show idx T zv = List.range T.length from idx_zero hw, range_getD hi] at h1
 exact h1
theorem name_inj (h : Right R T N) {i j : Nat} (hi : i < T.length) (hj : j < T.length) (e : N.getD i 0 = N.getD j 0) : i = j := by
 have h1 := find_name h hi
 rw [e, find_name h hj] at h1
 omega
theorem mvF_eq : ∀ (d i : Nat), mvF R T N i d = ((List.range' i d).filter (canB R T)).map (fun i => N.getD i 0)
 | 0, i => rfl
 | d + 1, i => by
  rw [List.range'_succ, mvF, mvF_eq d (i + 1), List.filter_cons]
  by_cases c : canB R T i = true
  ·rw [if_pos c, if_pos c]; rfl
  ·rw [if_neg c, if_neg c]; rfl
theorem allowed_iff (h : Right R T N) {i : Nat} (hi : i < T.length) (hc : canB R T i = true) : N.getD i 0 ∈ allowedD R T N ↔ 0 ≤ val R (stepD R T N i).2.1 := by
 have ho := (right_iff R T N).2 h
 rw [val_step h.wf hi]
 unfold allowedD alD
 rw [if_pos ho]
 constructor
 ·intro hm
  obtain ⟨j, hj, e⟩ := List.mem_map.1 hm
  obtain ⟨h1, h2⟩ := List.mem_filter.1 hj
  have : j = i := name_inj h (List.mem_range.1 h1) hi e
  subst this
  simp only [alw, Bool.and_eq_true, decide_eq_true_eq] at h2
  exact h2.2
 ·intro hv
  refine List.mem_map.2 ⟨i, List.mem_filter.2 ⟨List.mem_range.2 hi, ?_⟩, rfl⟩
  rw [can0 h.wf hi] at hc
  simp only [alw, hc, Bool.true_and, decide_eq_true_eq]
  exact hv
end
theorem wByte_ok (l : List Int) (hw : ∀ x ∈ l, 0 ≤ x ∧ x ≤ 255) (i : Nat) : ∃ b : Nat, laws_wByte.f l (i : Int) = some (b : Int) := by
 unfold laws_wByte.f
 by_cases c : (l.length : Int) = 0
 ·rw [if_pos c]; exact ⟨0, rfl⟩
 ·rw [if_neg c]
  have e : Int.tmod (i : Int) (l.length : Int) = ((i % l.length : Nat) : Int) := by rw [Int.tmod_eq_emod_of_nonneg (by omega)]; rfl
  have hlt : i % l.length < l.length := Nat.mod_lt _ (by omega)
  rw [e, if_pos (by omega), if_pos (by omega), rd_I]
  have hm := hw _ (getD_mem 0 hlt)
  refine ⟨(l.getD (i % l.length) 0).toNat, ?_⟩
  rw [w64 (by omega) (by omega), Int.toNat_of_nonneg hm.1]
theorem wInts_loop (l : List Int) (hl : l.length ≤ 1048576) : ∀ (d i : Nat), i + d = l.length → Ev (fun k => laws_wInts.l0 k l l (l.length : Int) (i : Int)) true
 | 0, i, h => by
  refine Ev.one (fun k => ?_)
  simp only [laws_wInts.l0]; rw [if_neg (by omega)]
 | d + 1, i, h => by
  refine Ev.step (fun k => ?_) (wInts_loop l hl d (i + 1) (by omega))
  simp only [laws_wInts.l0]
  rw [if_pos (by omega), if_pos (by omega), if_pos (by omega), if_pos (by omega), if_pos trivial, show wrap64 ((i : Int) + 1) = ((i + 1 : Nat) : Int) by rw [w64 (by omega) (by omega)]; omega]
theorem wInts_tells (l : List Int) (hl : l.length ≤ 1048576) : Ev (fun k => laws_wInts.f k l l) true := by
 unfold laws_wInts.f
 simp only [if_true]
 exact wInts_loop l hl l.length 0 (by omega)
end Go.Proofs.Ytpbclogjoangfaa.Wk
