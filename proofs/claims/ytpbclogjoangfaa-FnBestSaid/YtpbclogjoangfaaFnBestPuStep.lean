/- The law FnExactStep, as a plain statement. -/
import Derived.Test.YtpbclogjoangfaaFnBestPure3
import Derived.Test.YtpbclogjoangfaaFnBestQ5
import Derived.Test.YtpbclogjoangfaaFnBestQ9
import Derived.Test.YtpbclogjoangfaaFnBestPure6
import Derived.Test.YtpbclogjoangfaaFnBestQ7
namespace Go.Proofs.Ytpbclogjoangfaa.Pu
open Go.RowKit Go.Proofs.YtpbclogjoangfaaW.PrintWords Go.Proofs.YtpbclogjoangfaaW.PrintLast Go.Proofs.Ytpbclogjoangfaa.Q
set_option linter.unusedVariables false
set_option linter.unusedSimpArgs false
/-- The moves from place i on. -/
def mvF (R : List Int) (T : List S35) (N : List Int) : Nat → Nat → List Int
 | _, 0 => []
 | i, d + 1 => (if canB R T i = true then [N.getD i 0] else []) ++ mvF R T N (i + 1) d
def mvS (R : List Int) (T : List S35) (N : List Int) : List Int := mvF R T N 0 T.length
def movesD (R : List Int) (T : List S35) (N : List Int) : List Int := if okS R T N = 0 then mvS R T N else []
section
variable {R : List Int} {T : List S35} {N : List Int}
theorem specMoves_loop (h : Wf R T N) : ∀ (d i : Nat) (o : List Int), i + d = T.length → o.length ≤ i → Ev (fun k => spec_Moves.l0 k o N (N.length : Int) (i : Int) R T N) (o ++ mvF R T N i d)
 | 0, i, o, hd, ho => by
  have hn := h.n1
  refine Ev.one (fun k => ?_)
  simp only [spec_Moves.l0]; rw [if_neg (by omega)]; simp [mvF]
 | d + 1, i, o, hd, ho => by
  have hn := h.n1
  have ht := h.t1
  have hi : i < T.length := by omega
  refine Ev.step (f := fun k => (spec_l1can.f k R T N (i : Int)).bind fun t => if t = true then (if o.length < 17592186044416 then spec_Moves.l0 k (o ++ [N.getD i 0]) N (N.length : Int) ((i + 1 : Nat) : Int) R T N else none) else spec_Moves.l0 k o N (N.length : Int) ((i + 1 : Nat) : Int) R T N) (fun k => ?_) (Ev.bind (l1can_tells h i hi) ?_)
  ·simp only [spec_Moves.l0]
   rw [if_pos (by omega), if_pos (by omega), if_pos (by omega), wsucc hi (by omega)]
   simp only [rd_I]
  ·by_cases c : canB R T i = true
   ·refine Ev.eq (Ev.congr (fun k => by rw [if_pos c, if_pos (by omega)]) (specMoves_loop h d (i + 1) (o ++ [N.getD i 0]) (by omega) (by simp; omega))) ?_
    simp only [mvF, if_pos c, List.append_assoc]
   ·refine Ev.eq (Ev.congr (fun k => by rw [if_neg c]) (specMoves_loop h d (i + 1) o (by omega) (by omega))) ?_
    simp only [mvF, if_neg c, List.nil_append]
theorem specMoves_tells (hR : R.length ≤ 1048576) (hT : T.length ≤ 1048576) (hN : N.length ≤ 1048576) : Ev (fun k => spec_Moves.f k R T N) (movesD R T N) := by
 unfold spec_Moves.f movesD
 refine Ev.bind (specStateOk_tells R T N hR hT hN) ?_
 by_cases c : okS R T N = 0
 ·simp only [if_pos c]
  have h := ((right_iff R T N).1 c).wf
  exact Ev.eq (specMoves_loop h T.length 0 [] (by omega) (by simp)) (by simp [mvS])
 ·simp only [if_neg c]
  exact Ev.now _
end
end Go.Proofs.Ytpbclogjoangfaa.Pu
namespace Go.Proofs.Ytpbclogjoangfaa.Pu
open Go.RowKit Go.Proofs.YtpbclogjoangfaaW.PrintWords Go.Proofs.YtpbclogjoangfaaW.PrintLast Go.Proofs.Ytpbclogjoangfaa.Q
set_option linter.unusedVariables false
set_option linter.unusedSimpArgs false
/-- The state behind a step that was asked for by number; nothing when it can't be made. -/
def stD (R : List Int) (T : List S35) (N : List Int) (a : Int) : List Int × (List S35) × List Int :=
 if okS R T N = 0 then (if findD N a < 0 then ([], [], []) else if canB R T (findD N a).toNat = true then stepD R T N (findD N a).toNat else ([], [], [])) else ([], [], [])
section
variable {R : List Int} {T : List S35} {N : List Int}
theorem specStep_tells (hR : R.length ≤ 1048576) (hT : T.length ≤ 1048576) (hN : N.length ≤ 1048576) (a : Int) : Ev (fun k => spec_Step.f k R T N a) (stD R T N a) := by
 unfold spec_Step.f stD
 refine Ev.bind (specStateOk_tells R T N hR hT hN) ?_
 by_cases c : okS R T N = 0
 ·have hr := ((right_iff R T N).1 c).wf
  have hn := hr.n1
  simp only [if_pos c]
  refine Ev.bind (name_tells R T hN a) ?_
  rcases findD_tells N a with f | ⟨j, f, hj, _⟩
  ·rw [f]; exact Ev.eq (Ev.now _) (by simp)
  ·rw [f]
   simp only [show ¬ ((j : Int) < 0) by omega, if_false, Int.toNat_natCast]
   refine Ev.bind (l1can_tells hr j (by omega)) ?_
   by_cases d : canB R T j = true
   ·simp only [d, if_true]
    exact Ev.bind (l1step_tells hr j (by omega)) (Ev.now _)
   ·simp only [if_neg d]; exact Ev.now _
 ·simp only [if_neg c]; exact Ev.now _
end
end Go.Proofs.Ytpbclogjoangfaa.Pu
