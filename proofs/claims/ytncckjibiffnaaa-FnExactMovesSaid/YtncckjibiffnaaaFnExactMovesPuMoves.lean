/- The law FnExactMoves, as a plain statement. -/
import Derived.Test.YtncckjibiffnaaaFnExactMovesPure4
namespace Go.Proofs.Ytncckjibiffnaaa.Pu
open Go.RowKit Go.Proofs.YtncckjibiffnaaaW.PrintWords Go.Proofs.YtncckjibiffnaaaW.PrintLast Go.Proofs.Ytncckjibiffnaaa.Q
theorem movesD_len (R : List Int) (T : List S49) (N : List Int) (hT : T.length ≤ 1048576) : (movesD R T N).length ≤ 1048576 := by
  unfold movesD
  split
  · have := mvF_len (R := R) (T := T) (N := N) T.length 0
    unfold mvS
    omega
  · simp
theorem FnExactMoves (R : List Int) (T : List S55) (N : List Int) (hs : Small R T N) :
    ∃ m : List Int, m.length ≤ 1048576 ∧ Ev (fun k => spec_Moves.f k R (T.map cv) N) m ∧ Ev (fun k => impl_Moves.f k R (T.map cv) N) m := by
  have hT : (T.map cv).length ≤ 1048576 := by simpa using hs.hT
  exact ⟨movesD R (T.map cv) N, movesD_len _ _ _ hT, specMoves_tells hs.hR hT hs.hN, implMoves_tells hs.hR hT hs.hN⟩
end Go.Proofs.Ytncckjibiffnaaa.Pu
