/- What is allowed. No program in sight. -/
import Derived.Test.YtpbclogjoangfaaFnBestSp4
import Derived.Test.YtpbclogjoangfaaFnBestSp5
import Derived.Test.YtpbclogjoangfaaFnBestQ1
import Derived.Test.YtpbclogjoangfaaFnBestSr8
namespace Go.Proofs.Ytpbclogjoangfaa.Sp
open Go.RowKit Go.Proofs.YtpbclogjoangfaaW.PrintWords Go.Proofs.YtpbclogjoangfaaW.PrintLast Go.Proofs.YtpbclogjoangfaaW.PrintMore Go.Proofs.Ytpbclogjoangfaa.Q Go.Proofs.Ytpbclogjoangfaa.Pu Go.Proofs.Ytpbclogjoangfaa.Sr
attribute [local go_sem] max2_int min2_int max_two min_two max_three min_three max_four min_four
set_option linter.unusedVariables false
set_option linter.unusedSimpArgs false
theorem zero_get (i : Nat) : [0, 0, 0, 0, 0].getD i 0 = 0 := by
 match i with
 | 0 | 1 | 2 | 3 | 4 => rfl
 | n + 5 => rfl
theorem idx_zero {R : List Int} {T : List S35} {N : List Int} (h : Wf R T N) : idx T [0, 0, 0, 0, 0] = List.range T.length := by
 unfold idx
 apply List.filter_eq_self.2
 intro i hi
 have h1 := h.at_ _ (getD_mem z35 (List.mem_range.1 hi))
 unfold atP atD
 rw [zero_get, if_pos rfl]
 simpa using h1.1
theorem stT_zero {R : List Int} {T : List S35} {N : List Int} (h : Wf R T N) : stT T [0, 0, 0, 0, 0] = T := by
 unfold stT
 rw [idx_zero h]
 apply List.ext_getElem
 ·simp
 ·intro i h1 h2
  simp only [List.getElem_map, List.getElem_range]
  unfold tr atP atD
  rw [zero_get, if_pos rfl, List.drop_zero]
  simp [List.getD, h2]
theorem stN_zero {R : List Int} {T : List S35} {N : List Int} (h : Wf R T N) : stN T N [0, 0, 0, 0, 0] = N := by
 unfold stN
 rw [idx_zero h]
 have hn := h.n1
 apply List.ext_getElem
 ·simp [hn]
 ·intro i h1 h2
  simp [List.getD, h2]
theorem gm_zero (R : List Int) (T : List S35) (M : Nat) : Gm R T (List.replicate M 0) (List.replicate M false) := by
 intro u hu h
 exfalso
 rw [List.getD_eq_getElem?_getD, List.getElem?_replicate] at h
 split at h <;> simp at h
end Go.Proofs.Ytpbclogjoangfaa.Sp
namespace Go.Proofs.Ytpbclogjoangfaa.Al
open Go.RowKit Go.Proofs.YtpbclogjoangfaaW.PrintWords Go.Proofs.YtpbclogjoangfaaW.PrintLast Go.Proofs.Ytpbclogjoangfaa.Q Go.Proofs.Ytpbclogjoangfaa.Pu Go.Proofs.Ytpbclogjoangfaa.Sr Go.Proofs.Ytpbclogjoangfaa.Sp
set_option linter.unusedVariables false
set_option linter.unusedSimpArgs false
def zv : List Nat := [0, 0, 0, 0, 0]
section
variable {R : List Int} {T : List S35} {N : List Int}
theorem range_getD {n i : Nat} (h : i < n) : (List.range n).getD i 0 = i := by simp [List.getD, h]
end
end Go.Proofs.Ytpbclogjoangfaa.Al
