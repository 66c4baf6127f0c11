/- The walk of right states: a step keeps a state right; what a state costs goes with the state. No program in sight. -/
import Derived.Test.YtpbclogjoangfaaFnEasierMe0
import Derived.Test.YtpbclogjoangfaaFnEasierPure4
import Derived.Test.YtpbclogjoangfaaFnEasierPuStep
import Derived.Test.YtpbclogjoangfaaFnEasierQ7
import Derived.Test.YtpbclogjoangfaaFnEasierQ4
namespace Go.Proofs.Ytpbclogjoangfaa.Wk
open Go.RowKit Go.Proofs.YtpbclogjoangfaaW.PrintWords Go.Proofs.YtpbclogjoangfaaW.PrintLast Go.Proofs.Ytpbclogjoangfaa.Q Go.Proofs.Ytpbclogjoangfaa.Pu Go.Proofs.Ytpbclogjoangfaa.Sr Go.Proofs.Ytpbclogjoangfaa.Sp Go.Proofs.Ytpbclogjoangfaa.Al Go.Proofs.Ytpbclogjoangfaa.So Go.Proofs.Ytpbclogjoangfaa.Me
set_option linter.unusedVariables false
set_option linter.unusedSimpArgs false
theorem roomsOk_iff (T : List S35) : ∀ (l : List Int) (i : Nat), roomsOk T i l = true ↔ ∀ j, j < l.length → (cnt T ((i + j : Nat) : Int) : Int) ≤ l.getD j 0
 | [], i => by simp [roomsOk]
 | r :: rs, i => by
  simp only [roomsOk, Bool.and_eq_true, decide_eq_true_eq, roomsOk_iff T rs (i + 1)]
  constructor
  ·rintro ⟨h1, h2⟩ j hj
   cases j with
   | zero => simpa using h1
   | succ j =>
    have := h2 j (by simpa using hj)
    rw [show i + (j + 1) = i + 1 + j by omega]
    simpa using this
  ·intro h
   refine ⟨by simpa using h 0 (by simp), fun j hj => ?_⟩
   have := h (j + 1) (by simpa using hj)
   rw [show i + (j + 1) = i + 1 + j by omega] at this
   simpa using this
section
variable {R : List Int} {T : List S35} {N : List Int}
theorem foldl_at {α β : Type} (f : β → α → β) (z : α) (l : List α) (b : β) : l.foldl f b = (List.range l.length).foldl (fun c k => f c (l.getD k z)) b := by
 have e : l = (List.range l.length).map (fun k => l.getD k z) := by
  apply List.ext_getElem
  ·simp
  ·intro j h1 h2
   simp [List.getD, h1]
 have e2 := congrArg (fun m => List.foldl f b m) e
 simp only [List.foldl_map] at e2
 exact e2
/-- What a position costs hangs on the state there alone. -/
theorem V_same : ∀ (m : Nat) {T U : List S35} {N M : List Int} {v u : List Nat}, Wf R T N → Wf R U M → T.length ≤ v.length → U.length ≤ u.length → lftP T v T.length = m → stT T v = stT U u → V R T v = V R U u := by
 intro m
 induction m using Nat.strongRecOn with
 | _ m ih =>
  intro T U N M v u hT hU hv hu hm he
  have hl : (idx T v).length = (idx U u).length := by rw [← stT_len, ← stT_len, he]
  rw [V_idx hv, V_idx hu]
  by_cases c : idx T v = []
  ·have c2 : idx U u = [] := List.eq_nil_of_length_eq_zero (by rw [← hl, c]; rfl)
   rw [if_pos c, if_pos c2]
  ·have c2 : ¬ idx U u = [] := fun e => c (List.eq_nil_of_length_eq_zero (by rw [hl, e]; rfl))
   rw [if_neg c, if_neg c2]
   unfold Fv
   rw [foldl_at _ 0 (idx T v), foldl_at _ 0 (idx U u), hl]
   apply foldl_congr'
   intro cc k hk
   have hk2 : k < (idx U u).length := List.mem_range.1 hk
   have hk1 : k < (idx T v).length := by omega
   rw [← can_st hT hk1, ← can_st hU hk2, ← wgt_st, ← wgt_st, he]
   by_cases d : canB R (stT U u) k = true
   ·rw [if_pos d, if_pos d]
    have d1 : okP R T v ((idx T v).getD k 0) = true := by rw [← can_st hT hk1, he]; exact d
    have hi := idx_mem.1 (getD_mem 0 hk1)
    have hlf := lft_mv (R := R) hv (i := (idx T v).getD k 0) (List.mem_filter.2 ⟨List.mem_range.2 hi.1, d1⟩)
    rw [ih (lftP T (inc v ((idx T v).getD k 0)) T.length) (by omega) (u := inc u ((idx U u).getD k 0)) hT hU (by rw [inc_len]; exact hv) (by rw [inc_len]; exact hu) rfl]
    have s1 := step_st hT hv hk1
    have s2 := step_st hU hu hk2
    have s3 : (stepD R (stT T v) (stN T N v) k).2.1 = (stepD R (stT U u) (stN U M u) k).2.1 := by
     rw [he]
     unfold stepD
     split <;> rfl
    rw [s1, s2] at s3
    exact s3
   ·rw [if_neg d, if_neg d]
/-- What a state costs. -/
def val (R : List Int) (T : List S35) : Int := V R T zv
end
theorem wByte_ok (l : List Int) (hw : ∀ x ∈ l, 0 ≤ x ∧ x ≤ 255) (i : Nat) : ∃ b : Nat, laws_wByte.f l (i : Int) = some (b : Int) := by
 unfold laws_wByte.f
 by_cases c : (l.length : Int) = 0
 ·rw [if_pos c]; exact ⟨0, rfl⟩
 ·rw [if_neg c]
  have e : Int.tmod (i : Int) (l.length : Int) = ((i % l.length : Nat) : Int) := by rw [Int.tmod_eq_emod_of_nonneg (by omega)]; rfl
  have hlt : i % l.length < l.length := Nat.mod_lt _ (by omega)
  rw [e, if_pos (by omega), if_pos (by omega), rd_I]
  have hm := hw _ (getD_mem 0 hlt)
  refine ⟨(l.getD (i % l.length) 0).toNat, ?_⟩
  rw [w64 (by omega) (by omega), Int.toNat_of_nonneg hm.1]
end Go.Proofs.Ytpbclogjoangfaa.Wk
