/- The law FnExactWaits, as a plain statement. -/
import Derived.Test.YtncckjibiffnaaaFnExactWaitsPure5
namespace Go.Proofs.Ytncckjibiffnaaa.Pu
open Go.RowKit Go.Proofs.YtncckjibiffnaaaW.PrintWords Go.Proofs.YtncckjibiffnaaaW.PrintLast Go.Proofs.Ytncckjibiffnaaa.Q
theorem FnExactWaits (R : List Int) (T : List S55) (N : List Int) (a : Int) (hs : Small R T N) :
    ∃ m : List Int, m.length ≤ 1048576 ∧ Ev (fun k => spec_Waits.f k R (T.map cv) N a) m ∧ Ev (fun k => impl_Waits.f k R (T.map cv) N a) m := by
  have hT : (T.map cv).length ≤ 1048576 := by simpa using hs.hT
  exact ⟨waitsD R (T.map cv) N a, Nat.le_trans (waitsD_len a) hT, specWaits_tells hs.hR hT hs.hN a, implWaits_tells hs.hR hT hs.hN a⟩
end Go.Proofs.Ytncckjibiffnaaa.Pu
