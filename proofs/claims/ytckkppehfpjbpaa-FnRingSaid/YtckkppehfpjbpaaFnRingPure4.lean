/- Plain laws: the moves, and whether anybody can move. No program in sight. -/
import Derived.Test.YtckkppehfpjbpaaFnRingPure3
import Derived.Test.YtckkppehfpjbpaaFnRingQ5
import Derived.Test.YtckkppehfpjbpaaFnRingQ6
import Derived.Test.YtckkppehfpjbpaaFnRingQ7
namespace Go.Proofs.Ytckkppehfpjbpaa.Pu
open Go.RowKit Go.Proofs.YtckkppehfpjbpaaW.PrintWords Go.Proofs.YtckkppehfpjbpaaW.PrintLast Go.Proofs.Ytckkppehfpjbpaa.Q
set_option linter.unusedVariables false
set_option linter.unusedSimpArgs false
/-- The moves from place i on. -/
def mvF (R : List Int) (T : List S40) (N : List Int) : Nat → Nat → List Int
 | _, 0 => []
 | i, d + 1 => (if canB R T i = true then [N.getD i 0] else []) ++ mvF R T N (i + 1) d
def mvS (R : List Int) (T : List S40) (N : List Int) : List Int := mvF R T N 0 T.length
def movesD (R : List Int) (T : List S40) (N : List Int) : List Int := if okS R T N = 0 then mvS R T N else []
def stuckD (R : List Int) (T : List S40) (N : List Int) : Bool := decide (okS R T N = 0 ∧ 0 < T.length ∧ mvS R T N = [])
section
variable {R : List Int} {T : List S40} {N : List Int}
theorem mvF_len : ∀ d i, (mvF R T N i d).length ≤ d
 | 0, i => by simp [mvF]
 | d + 1, i => by
  have := mvF_len d (i + 1)
  simp only [mvF, List.length_append]
  split <;> simp <;> omega
theorem specMoves_loop (h : Wf R T N) : ∀ (d i : Nat) (o : List Int), i + d = T.length → o.length ≤ i → Ev (fun k => spec_Moves.l0 k o N (N.length : Int) (i : Int) R T N) (o ++ mvF R T N i d)
 | 0, i, o, hd, ho => by
  have hn := h.n1
  refine Ev.one (fun k => ?_)
  simp only [spec_Moves.l0]; rw [if_neg (by omega)]; simp [mvF]
 | d + 1, i, o, hd, ho => by
  have hn := h.n1
  have ht := h.t1
  have hi : i < T.length := by omega
  refine Ev.step (f := fun k => (spec_l1can.f k R T N (i : Int)).bind fun t => if t = true then (if o.length < 17592186044416 then spec_Moves.l0 k (o ++ [N.getD i 0]) N (N.length : Int) ((i + 1 : Nat) : Int) R T N else none) else spec_Moves.l0 k o N (N.length : Int) ((i + 1 : Nat) : Int) R T N) (fun k => ?_) (Ev.bind (l1can_tells h i hi) ?_)
  ·simp only [spec_Moves.l0]
   rw [if_pos (by omega), if_pos (by omega), if_pos (by omega), wsucc hi (by omega)]
   simp only [rd_I]
  ·by_cases c : canB R T i = true
   ·refine Ev.eq (Ev.congr (fun k => by rw [if_pos c, if_pos (by omega)]) (specMoves_loop h d (i + 1) (o ++ [N.getD i 0]) (by omega) (by simp; omega))) ?_
    simp only [mvF, if_pos c, List.append_assoc]
   ·refine Ev.eq (Ev.congr (fun k => by rw [if_neg c]) (specMoves_loop h d (i + 1) o (by omega) (by omega))) ?_
    simp only [mvF, if_neg c, List.nil_append]
theorem implMoves_loop (h : Wf R T N) : ∀ (d i : Nat) (o : List Int), i + d = T.length → o.length ≤ i → Ev (fun k => impl_Moves.l0 k o (T.length : Int) (i : Int) R T N) (o ++ mvF R T N i d)
 | 0, i, o, hd, ho => by
  refine Ev.one (fun k => ?_)
  simp only [impl_Moves.l0]; rw [if_neg (by omega)]; simp [mvF]
 | d + 1, i, o, hd, ho => by
  have hn := h.n1
  have ht := h.t1
  have hi : i < T.length := by omega
  refine Ev.step (f := fun k => (impl_can.f k R T N (i : Int)).bind fun t => if t = true then (if 0 ≤ (i : Int) then (if (i : Int) < (N.length : Int) then (if o.length < 17592186044416 then impl_Moves.l0 k (o ++ [N.getD i 0]) (T.length : Int) ((i + 1 : Nat) : Int) R T N else none) else none) else none) else impl_Moves.l0 k o (T.length : Int) ((i + 1 : Nat) : Int) R T N) (fun k => ?_) (Ev.bind (can_tells h i hi) ?_)
  ·simp only [impl_Moves.l0]
   rw [if_pos (by omega), wsucc hi (by omega)]
   simp only [rd_I]
  ·by_cases c : canB R T i = true
   ·refine Ev.eq (Ev.congr (fun k => by rw [if_pos c, if_pos (by omega), if_pos (by omega), if_pos (by omega)]) (implMoves_loop h d (i + 1) (o ++ [N.getD i 0]) (by omega) (by simp; omega))) ?_
    simp only [mvF, if_pos c, List.append_assoc]
   ·refine Ev.eq (Ev.congr (fun k => by rw [if_neg c]) (implMoves_loop h d (i + 1) o (by omega) (by omega))) ?_
    simp only [mvF, if_neg c, List.nil_append]
theorem specMoves_tells (hR : R.length ≤ 1048576) (hT : T.length ≤ 1048576) (hN : N.length ≤ 1048576) : Ev (fun k => spec_Moves.f k R T N) (movesD R T N) := by
 unfold spec_Moves.f movesD
 refine Ev.bind (specStateOk_tells R T N hR hT hN) ?_
 by_cases c : okS R T N = 0
 ·simp only [if_pos c]
  have h := ((right_iff R T N).1 c).wf
  exact Ev.eq (specMoves_loop h T.length 0 [] (by omega) (by simp)) (by simp [mvS])
 ·simp only [if_neg c]
  exact Ev.now _
theorem implMoves_tells (hR : R.length ≤ 1048576) (hT : T.length ≤ 1048576) (hN : N.length ≤ 1048576) : Ev (fun k => impl_Moves.f k R T N) (movesD R T N) := by
 unfold impl_Moves.f movesD
 refine Ev.bind (implStateOk_tells R T N hR hT hN) ?_
 by_cases c : okS R T N = 0
 ·simp only [if_pos c]
  have h := ((right_iff R T N).1 c).wf
  exact Ev.eq (implMoves_loop h T.length 0 [] (by omega) (by simp)) (by simp [mvS])
 ·simp only [if_neg c]
  exact Ev.now _
theorem stuck_end (c : okS R T N = 0) (c2 : (T.length : Int) > 0) : (((movesD R T N).length : Int) == 0) = stuckD R T N := by
 unfold stuckD movesD
 rw [if_pos c]
 have : 0 < T.length := by omega
 cases hm : mvS R T N with
 | nil => simp [c, this]
 | cons a l => simp; omega
theorem implStuck_tells (hR : R.length ≤ 1048576) (hT : T.length ≤ 1048576) (hN : N.length ≤ 1048576) : Ev (fun k => impl_Stuck.f k R T N) (stuckD R T N) := by
 unfold impl_Stuck.f
 refine Ev.bind (implStateOk_tells R T N hR hT hN) ?_
 by_cases c : okS R T N = 0
 ·simp only [if_pos c]
  by_cases c2 : (T.length : Int) > 0
  ·simp only [if_pos c2]
   exact Ev.eq (Ev.bind (implMoves_tells hR hT hN) (Ev.now _)) (stuck_end c c2)
  ·simp only [if_neg c2]
   exact Ev.eq (Ev.now _) (by unfold stuckD; simp; omega)
 ·simp only [if_neg c]
  exact Ev.eq (Ev.now _) (by unfold stuckD; simp [c])
end
end Go.Proofs.Ytckkppehfpjbpaa.Pu
