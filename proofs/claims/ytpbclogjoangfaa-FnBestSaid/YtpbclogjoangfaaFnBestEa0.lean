/- With more room, or a train less, it costs no more. No program in sight. -/
import Derived.Test.YtpbclogjoangfaaFnBestKw0
namespace Go.Proofs.Ytpbclogjoangfaa.Ea
open Go.RowKit Go.Proofs.YtpbclogjoangfaaW.PrintWords Go.Proofs.YtpbclogjoangfaaW.PrintLast Go.Proofs.Ytpbclogjoangfaa.Q Go.Proofs.Ytpbclogjoangfaa.Pu Go.Proofs.Ytpbclogjoangfaa.Sr Go.Proofs.Ytpbclogjoangfaa.Sp Go.Proofs.Ytpbclogjoangfaa.Al Go.Proofs.Ytpbclogjoangfaa.So Go.Proofs.Ytpbclogjoangfaa.Me Go.Proofs.Ytpbclogjoangfaa.Wk
set_option linter.unusedVariables false
set_option linter.unusedSimpArgs false
theorem foldl_low {w : Int} {f : Nat → Int} (hw : 0 ≤ w) : ∀ (l : List Nat) (c : Int), 0 ≤ c → 0 ≤ l.foldl (fun c i => betP w c (f i)) c ∧ l.foldl (fun c i => betP w c (f i)) c ≤ c
 | [], c, h => ⟨h, Int.le_refl _⟩
 | i :: l, c, h => by
  simp only [List.foldl_cons]
  have hb : 0 ≤ betP w c (f i) ∧ betP w c (f i) ≤ c := by unfold betP; split <;> omega
  have := foldl_low (f := f) hw l _ hb.1
  omega
theorem foldl_le {w : Int} {f : Nat → Int} (hw : 0 ≤ w) : ∀ (l : List Nat) (c : Int) (i : Nat), i ∈ l → 0 ≤ f i → 0 ≤ l.foldl (fun c i => betP w c (f i)) c ∧ l.foldl (fun c i => betP w c (f i)) c ≤ f i + w
 | [], c, i, h, _ => by simp at h
 | j :: l, c, i, h, h0 => by
  simp only [List.foldl_cons]
  rcases List.mem_cons.1 h with rfl | h
  ·have hb : 0 ≤ betP w c (f i) ∧ betP w c (f i) ≤ f i + w := by unfold betP; split <;> omega
   have := foldl_low (f := f) hw l _ hb.1
   omega
  ·exact foldl_le hw l _ i h h0
section
variable {R R' : List Int} {T : List S35} {N : List Int}
theorem V_le (h : Wf R T N) {v : List Nat} (hl : T.length ≤ v.length) {i : Nat} (hi : i ∈ mvP R T v T.length) (h0 : 0 ≤ V R T (inc v i)) : 0 ≤ V R T v ∧ V R T v ≤ V R T (inc v i) + wtP T v T.length := by
 rw [V_eq hl]
 exact foldl_le (wtP_range h v T.length (Nat.le_refl _)).1 _ _ i hi h0
/-! a train less -/
end
end Go.Proofs.Ytpbclogjoangfaa.Ea
