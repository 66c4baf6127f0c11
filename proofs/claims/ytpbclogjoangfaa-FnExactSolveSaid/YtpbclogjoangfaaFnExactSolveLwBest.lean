/- Small words for the law of a Best. -/
import Derived.Test.YtpbclogjoangfaaFnExactSolveLwKit
import Derived.Test.YtpbclogjoangfaaFnExactSolveQ6
namespace Go.Proofs.Ytpbclogjoangfaa.Lw
open Go.RowKit Go.Proofs.YtpbclogjoangfaaW.PrintWords Go.Proofs.YtpbclogjoangfaaW.PrintLast Go.Proofs.YtpbclogjoangfaaW.PrintMore Go.Proofs.Ytpbclogjoangfaa.Q Go.Proofs.Ytpbclogjoangfaa.Pu Go.Proofs.Ytpbclogjoangfaa.Mk
set_option linter.unusedVariables false
set_option linter.unusedSimpArgs false
theorem eqBest_same (b : Bool) (c : Int) (l : List Int) (hl : l.length ≤ 9223372036854775807) : Ev (fun k => laws_eqBest.f k b c l b c l) true := by
 refine Ev.congr (fun k => ?_) (Ev.bind (eqIntS_same l hl) (f := fun k t => some t) (Ev.all (fun k => rfl)))
 unfold laws_eqBest.f
 rw [if_neg (by simp), if_pos rfl]
 congr 1
 funext t
 cases t <;> rfl
theorem markBest_tells (b : Bool) (c : Int) (l : List Int) (a : Int) (h0 : 0 ≤ a) (h1 : a + l.length ≤ 9223372036854775807) : Ev (fun k => laws_markBest.f k b c l a) (a + l.length, upTo a l.length) := by
 unfold laws_markBest.f
 exact Ev.bind (markIntS_tells l a h0 h1) (Ev.all (fun k => rfl))
theorem heldBest_tells (b : Bool) (c : Int) (n : Nat) (a : Int) (h0 : 0 ≤ a) (h1 : a + n ≤ 9223372036854775807) : Ev (fun k => laws_heldBest.f k b c (upTo a n) a) (a + n) := by
 unfold laws_heldBest.f
 refine Ev.bind (heldIntS_tells n a h0 h1) (Ev.all (fun k => ?_))
 rw [if_neg (by omega)]
end Go.Proofs.Ytpbclogjoangfaa.Lw
