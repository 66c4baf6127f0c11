/- The walk of right states: a step keeps a state right; what a state costs goes with the state. No program in sight. -/
import Derived.Test.YtpbclogjoangfaaFnBestMe0
import Derived.Test.YtpbclogjoangfaaFnBestPuStep
import Derived.Test.YtpbclogjoangfaaFnBestQ1
import Derived.Test.YtpbclogjoangfaaFnBestQ5
namespace Go.Proofs.Ytpbclogjoangfaa.Wk
open Go.RowKit Go.Proofs.YtpbclogjoangfaaW.PrintWords Go.Proofs.YtpbclogjoangfaaW.PrintLast Go.Proofs.Ytpbclogjoangfaa.Q Go.Proofs.Ytpbclogjoangfaa.Pu Go.Proofs.Ytpbclogjoangfaa.Sr Go.Proofs.Ytpbclogjoangfaa.Sp Go.Proofs.Ytpbclogjoangfaa.Al Go.Proofs.Ytpbclogjoangfaa.So Go.Proofs.Ytpbclogjoangfaa.Me
set_option linter.unusedVariables false
set_option linter.unusedSimpArgs false
theorem namesOk_le : ∀ {l : List Int} {a b : Int}, a ≤ b → namesOk b l = true → namesOk a l = true
 | [], _, _, _, _ => rfl
 | x :: l, a, b, h, hn => by
  simp only [namesOk, Bool.and_eq_true, decide_eq_true_eq] at hn ⊢
  exact ⟨⟨by omega, hn.1.2⟩, hn.2⟩
theorem namesOk_erase : ∀ {l : List Int} {a : Int} (k : Nat), namesOk a l = true → namesOk a (l.eraseIdx k) = true
 | [], _, _, _ => rfl
 | x :: l, a, 0, h => by
  simp only [namesOk, Bool.and_eq_true, decide_eq_true_eq] at h
  exact namesOk_le (by omega) h.2
 | x :: l, a, k + 1, h => by
  simp only [namesOk, Bool.and_eq_true, decide_eq_true_eq, List.eraseIdx_cons_succ] at h ⊢
  exact ⟨h.1, namesOk_erase k h.2⟩
theorem roomsOk_iff (T : List S35) : ∀ (l : List Int) (i : Nat), roomsOk T i l = true ↔ ∀ j, j < l.length → (cnt T ((i + j : Nat) : Int) : Int) ≤ l.getD j 0
 | [], i => by simp [roomsOk]
 | r :: rs, i => by
  simp only [roomsOk, Bool.and_eq_true, decide_eq_true_eq, roomsOk_iff T rs (i + 1)]
  constructor
  ·rintro ⟨h1, h2⟩ j hj
   cases j with
   | zero => simpa using h1
   | succ j =>
    have := h2 j (by simpa using hj)
    rw [show i + (j + 1) = i + 1 + j by omega]
    simpa using this
  ·intro h
   refine ⟨by simpa using h 0 (by simp), fun j hj => ?_⟩
   have := h (j + 1) (by simpa using hj)
   rw [show i + (j + 1) = i + 1 + j by omega] at this
   simpa using this
section
variable {R : List Int} {T : List S35} {N : List Int}
theorem step_right (h : Right R T N) {i : Nat} (hi : i < T.length) (hc : canB R T i = true) : (stepD R T N i).1 = R ∧ Right R (stepD R T N i).2.1 (stepD R T N i).2.2 := by
 have hn := h.n1
 have hfit := (roomsOk_iff T R 0).1 h.fits
 have hw := h.wf
 have htr := List.all_eq_true.1 h.trains
 have hm := getD_mem z35 hi
 unfold stepD
 unfold canB at hc
 have hti := htr _ hm
 generalize hq : T.getD i z35 = t at *
 cases hp : t.f1 with
 | nil =>
  refine ⟨rfl, h.r0, h.r1, ?_, ?_, h.room, ?_, namesOk_erase i h.names, ?_⟩
  ·show (T.eraseIdx i).length ≤ 5
   have := h.t1
   rw [List.length_eraseIdx]; split <;> omega
  ·show (N.eraseIdx i).length = (T.eraseIdx i).length
   rw [List.length_eraseIdx, List.length_eraseIdx, hn]
  ·exact List.all_eq_true.2 fun y hy => htr y (List.mem_of_mem_eraseIdx hy)
  ·refine (roomsOk_iff _ R 0).2 fun j hj => ?_
   have h1 := hfit j hj
   have h2 : cnt (T.eraseIdx i) ((0 + j : Nat) : Int) ≤ cnt T ((0 + j : Nat) : Int) := (List.eraseIdx_sublist T i).countP_le
   show (cnt (T.eraseIdx i) _ : Int) ≤ _
   omega
 | cons x p =>
  rw [hp] at hc
  have hc1 := of_decide_eq_true hc
  simp only [trainOk, Bool.and_eq_true, decide_eq_true_eq, hp, pathOk, List.length_cons] at hti
  refine ⟨rfl, h.r0, h.r1, ?_, ?_, h.room, ?_, h.names, ?_⟩
  ·show (T.set i _).length ≤ 5
   rw [List.length_set]; exact h.t1
  ·show N.length = (T.set i _).length
   rw [List.length_set]; exact hn
  ·refine List.all_eq_true.2 fun y hy => ?_
   rcases List.mem_or_eq_of_mem_set hy with hy | rfl
   ·exact htr y hy
   ·simp only [trainOk, Bool.and_eq_true, decide_eq_true_eq]
    exact ⟨⟨hti.2.1.1, hti.2.1.2.1, by omega, hti.1.2.2.2⟩, hti.2.2⟩
  ·refine (roomsOk_iff _ R 0).2 fun j hj => ?_
   have h1 := hfit j hj
   show (cnt (T.set i ⟨x, p, t.f2⟩) _ : Int) ≤ _
   unfold cnt
   rw [List.countP_set hi]
   by_cases e : x = ((0 + j : Nat) : Int)
   ·rw [e] at hc1
    have e2 : (((0 + j : Nat) : Int)).toNat = j := by omega
    rw [e2] at hc1
    unfold cnt at hc1
    simp only [e, decide_true, if_true]
    split <;> omega
   ·simp only [decide_eq_false e, Bool.false_eq_true, if_false]
    unfold cnt at h1
    split <;> omega
/-- What a state costs. -/
def val (R : List Int) (T : List S35) : Int := V R T zv
theorem find_name (h : Right R T N) {i : Nat} (hi : i < T.length) : findD N (N.getD i 0) = (i : Int) := by
 have hw := h.wf
 have h1 := find_in h (v := zv) (k := i) (by rw [show idx T zv = List.range T.length from idx_zero hw, List.length_range]; exact hi)
 rw [show stN T N zv = N from stN_zero hw, show idx T zv = List.range T.length from idx_zero hw, range_getD hi] at h1
 exact h1
theorem mvF_eq : ∀ (d i : Nat), mvF R T N i d = ((List.range' i d).filter (canB R T)).map (fun i => N.getD i 0)
 | 0, i => rfl
 | d + 1, i => by
  rw [List.range'_succ, mvF, mvF_eq d (i + 1), List.filter_cons]
  by_cases c : canB R T i = true
  ·rw [if_pos c, if_pos c]; rfl
  ·rw [if_neg c, if_neg c]; rfl
/-- A name of a move stands for a train that can move. -/
theorem move_of (h : Right R T N) {a : Int} (ha : a ∈ movesD R T N) : ∃ i, i < T.length ∧ canB R T i = true ∧ a = N.getD i 0 ∧ stD R T N a = stepD R T N i := by
 have ho := (right_iff R T N).2 h
 unfold movesD at ha
 rw [if_pos ho] at ha
 unfold mvS at ha
 rw [mvF_eq] at ha
 obtain ⟨i, hi, rfl⟩ := List.mem_map.1 ha
 obtain ⟨h1, h2⟩ := List.mem_filter.1 hi
 have h3 : i < T.length := by
  have := List.mem_range'_1.1 h1; omega
 refine ⟨i, h3, h2, rfl, ?_⟩
 unfold stD
 rw [if_pos ho, find_name h h3, if_neg (by omega), Int.toNat_natCast, if_pos h2]
end
theorem wByte_ok (l : List Int) (hw : ∀ x ∈ l, 0 ≤ x ∧ x ≤ 255) (i : Nat) : ∃ b : Nat, laws_wByte.f l (i : Int) = some (b : Int) := by
 unfold laws_wByte.f
 by_cases c : (l.length : Int) = 0
 ·rw [if_pos c]; exact ⟨0, rfl⟩
 ·rw [if_neg c]
  have e : Int.tmod (i : Int) (l.length : Int) = ((i % l.length : Nat) : Int) := by rw [Int.tmod_eq_emod_of_nonneg (by omega)]; rfl
  have hlt : i % l.length < l.length := Nat.mod_lt _ (by omega)
  rw [e, if_pos (by omega), if_pos (by omega), rd_I]
  have hm := hw _ (getD_mem 0 hlt)
  refine ⟨(l.getD (i % l.length) 0).toNat, ?_⟩
  rw [w64 (by omega) (by omega), Int.toNat_of_nonneg hm.1]
theorem wInts_loop (l : List Int) (hl : l.length ≤ 1048576) : ∀ (d i : Nat), i + d = l.length → Ev (fun k => laws_wInts.l0 k l l (l.length : Int) (i : Int)) true
 | 0, i, h => by
  refine Ev.one (fun k => ?_)
  simp only [laws_wInts.l0]; rw [if_neg (by omega)]
 | d + 1, i, h => by
  refine Ev.step (fun k => ?_) (wInts_loop l hl d (i + 1) (by omega))
  simp only [laws_wInts.l0]
  rw [if_pos (by omega), if_pos (by omega), if_pos (by omega), if_pos (by omega), if_pos trivial, show wrap64 ((i : Int) + 1) = ((i + 1 : Nat) : Int) by rw [w64 (by omega) (by omega)]; omega]
theorem wInts_tells (l : List Int) (hl : l.length ≤ 1048576) : Ev (fun k => laws_wInts.f k l l) true := by
 unfold laws_wInts.f
 simp only [if_true]
 exact wInts_loop l hl l.length 0 (by omega)
end Go.Proofs.Ytpbclogjoangfaa.Wk
