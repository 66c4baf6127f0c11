/- The marks of a row of trains, read again. -/
import Derived.Test.YtpbclogjoangfaaFnExactGuardLwKit
import Derived.Test.YtpbclogjoangfaaFnExactGuardQ7
import Derived.Test.YtpbclogjoangfaaFnExactGuardQ8
namespace Go.Proofs.Ytpbclogjoangfaa.Lw
open Go.RowKit Go.Proofs.YtpbclogjoangfaaW.PrintWords Go.Proofs.YtpbclogjoangfaaW.PrintLast Go.Proofs.YtpbclogjoangfaaW.PrintMore Go.Proofs.Ytpbclogjoangfaa.Q Go.Proofs.Ytpbclogjoangfaa.Pu Go.Proofs.Ytpbclogjoangfaa.Mk
set_option linter.unusedVariables false
set_option linter.unusedSimpArgs false
theorem mkT_getD (a : Int) (l : List S35) (i : Nat) (h : i < l.length) : (mkT a l).getD i z35 = ⟨a + szT (l.take i), upTo (a + szT (l.take i) + 1) (l.getD i z35).f1.length, a + szT (l.take i) + 1 + (l.getD i z35).f1.length⟩ := by
 have e := mkT_append (l.take i) (l.drop i) a
 rw [List.take_append_drop] at e
 rw [e, List.getD_eq_getElem?_getD, List.getElem?_append_right (by rw [mkT_len, List.length_take]; omega), mkT_len, List.length_take, Nat.min_eq_left (by omega), Nat.sub_self, drop_cons z35 h]
 rfl
theorem heldTrainS_loop (l : List S35) (a : Int) (h0 : 0 ≤ a) (hl : l.length ≤ 1048576) (ha : a + szT l ≤ 2305843009213693952) : ∀ (d i : Nat), i + d = l.length →
  Ev (fun k => laws_heldTrainS.l0 k (mkT a l) (a + szT (l.take i)) (i : Int)) (a + szT l)
 | 0, i, h => by
  refine Ev.one (fun k => ?_)
  simp only [laws_heldTrainS.l0]; rw [if_neg (by rw [mkT_len]; omega), List.take_of_length_le (by omega)]
 | d + 1, i, h => by
  have hi : i < l.length := by omega
  have h1 := szT_pos (l.take i)
  have h2 := sz_succ l i hi
  have h3 := sz_le l (i + 1)
  refine Ev.step (f := fun k => (laws_heldIntS.f k (upTo (a + szT (l.take i) + 1) (l.getD i z35).f1.length) (a + szT (l.take i) + 1)).bind fun t => if t < 0 then some (-1) else if a + szT (l.take i) + 1 + (l.getD i z35).f1.length = t then laws_heldTrainS.l0 k (mkT a l) (wrap64 (t + 1)) ((i + 1 : Nat) : Int) else some (-1)) (fun k => ?_) ?_
  ·simp only [laws_heldTrainS.l0]
   rw [if_pos (by rw [mkT_len]; omega), if_pos (by omega), rd_T, mkT_getD a l i hi, wsucc hi (by omega), w64 (x := a + szT (l.take i) + 1) (by omega) (by omega)]
   simp only [if_true]
  ·refine Ev.bind (heldIntS_tells _ _ (by omega) (by omega)) ?_
   have e : a + szT (l.take i) + 1 + ((l.getD i z35).f1.length : Int) + 1 = a + szT (l.take (i + 1)) := by omega
   simp only [show ¬ (a + szT (l.take i) + 1 + ((l.getD i z35).f1.length : Int) < 0) by omega, if_false, if_true]
   rw [w64 (by omega) (by omega), e]
   exact heldTrainS_loop l a h0 hl ha d (i + 1) (by omega)
theorem heldTrainS_tells (l : List S35) (a : Int) (h0 : 0 ≤ a) (hl : l.length ≤ 1048576) (ha : a + szT l ≤ 2305843009213693952) : Ev (fun k => laws_heldTrainS.f k (mkT a l) a) (a + szT l) := by
 have e := heldTrainS_loop l a h0 hl ha l.length 0 (by omega)
 simp only [List.take_zero, szT, Int.add_zero] at e
 exact Ev.congr (fun k => by unfold laws_heldTrainS.f; rfl) e
end Go.Proofs.Ytpbclogjoangfaa.Lw
