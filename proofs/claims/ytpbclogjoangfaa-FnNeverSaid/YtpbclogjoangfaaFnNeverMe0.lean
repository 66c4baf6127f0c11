/- The best order costs what is told; an order to the end makes a state safe. No program in sight. -/
import Derived.Test.YtpbclogjoangfaaFnNeverPure6
import Derived.Test.YtpbclogjoangfaaFnNeverQ10
import Derived.Test.YtpbclogjoangfaaFnNeverSo1
import Derived.Test.YtpbclogjoangfaaFnNeverSp6
namespace Go.Proofs.Ytpbclogjoangfaa.Pu
open Go.RowKit Go.Proofs.YtpbclogjoangfaaW.PrintWords Go.Proofs.YtpbclogjoangfaaW.PrintLast Go.Proofs.Ytpbclogjoangfaa.Q
set_option linter.unusedVariables false
set_option linter.unusedSimpArgs false
section
variable {R : List Int} {T : List S35} {N : List Int}
end
end Go.Proofs.Ytpbclogjoangfaa.Pu
namespace Go.Proofs.Ytpbclogjoangfaa.Me
open Go.RowKit Go.Proofs.YtpbclogjoangfaaW.PrintWords Go.Proofs.YtpbclogjoangfaaW.PrintLast Go.Proofs.Ytpbclogjoangfaa.Q Go.Proofs.Ytpbclogjoangfaa.Pu Go.Proofs.Ytpbclogjoangfaa.Sr Go.Proofs.Ytpbclogjoangfaa.Sp Go.Proofs.Ytpbclogjoangfaa.Al Go.Proofs.Ytpbclogjoangfaa.So
set_option linter.unusedVariables false
set_option linter.unusedSimpArgs false
section
variable {R : List Int} {T : List S35} {N : List Int}
theorem foldl_keep {w : Int} {f : Nat → Int} (hw : 0 ≤ w) : ∀ (l : List Nat) (c : Int), 0 ≤ c → 0 ≤ l.foldl (fun c i => betP w c (f i)) c
 | [], c, h => h
 | i :: l, c, h => by
  simp only [List.foldl_cons]
  apply foldl_keep hw
  unfold betP
  split <;> omega
theorem foldl_some {w : Int} {f : Nat → Int} (hw : 0 ≤ w) : ∀ (l : List Nat) (c : Int), (∃ i ∈ l, 0 ≤ f i) → 0 ≤ l.foldl (fun c i => betP w c (f i)) c
 | [], c, h => by obtain ⟨i, hi, _⟩ := h; simp at hi
 | i :: l, c, h => by
  simp only [List.foldl_cons]
  by_cases c0 : 0 ≤ f i
  ·apply foldl_keep hw
   unfold betP
   split <;> omega
  ·apply foldl_some hw
   obtain ⟨j, hj, h0⟩ := h
   rcases List.mem_cons.1 hj with e | hj
   ·rw [e] at h0; exact absurd h0 c0
   ·exact ⟨j, hj, h0⟩
end
end Go.Proofs.Ytpbclogjoangfaa.Me
