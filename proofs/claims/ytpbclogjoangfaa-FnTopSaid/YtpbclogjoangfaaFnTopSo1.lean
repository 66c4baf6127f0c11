/- The program's Solve: what lies in memory while it goes on. -/
import Derived.Test.YtpbclogjoangfaaFnTopPuStep
namespace Go.Proofs.Ytpbclogjoangfaa.Al
open Go.RowKit Go.Maps Go.Proofs.YtpbclogjoangfaaW.PrintWords Go.Proofs.YtpbclogjoangfaaW.PrintLast Go.Proofs.YtpbclogjoangfaaW.PrintMore Go.Proofs.Ytpbclogjoangfaa.Q Go.Proofs.Ytpbclogjoangfaa.Pu Go.Proofs.Ytpbclogjoangfaa.Sr Go.Proofs.Ytpbclogjoangfaa.Sp
set_option linter.unusedVariables false
set_option linter.unusedSimpArgs false
end Go.Proofs.Ytpbclogjoangfaa.Al
namespace Go.Proofs.Ytpbclogjoangfaa.So
open Go.RowKit Go.Maps Go.Proofs.YtpbclogjoangfaaW.PrintWords Go.Proofs.YtpbclogjoangfaaW.PrintLast Go.Proofs.YtpbclogjoangfaaW.PrintMore Go.Proofs.Ytpbclogjoangfaa.Q Go.Proofs.Ytpbclogjoangfaa.Pu Go.Proofs.Ytpbclogjoangfaa.Sr Go.Proofs.Ytpbclogjoangfaa.Sp Go.Proofs.Ytpbclogjoangfaa.Al
set_option linter.unusedVariables false
set_option linter.unusedSimpArgs false
theorem grown_row {W : World} {g t : Nat} {c c' : Array Value} (hb : W.heap[g]? = some (.cells c t (0, 0))) : (W.setRow g c').heap[g]? = some (.cells c' t (0, 0)) ∧ W.grownBy (W.setRow g c') (some g) :=
 ⟨setRow_heap W g c c' t (0, 0) hb, ⟨rfl, rfl, rfl, by simp, fun i hi hn => setRow_other W g i c' (fun e => hn (by rw [e]))⟩⟩
/-- A whole struct or array is written. -/
theorem row_event {P : Program} {ops : Array Oper} {Q : Exit → Act → World → Prop} {o : Oper} {rest : List Oper} {a : Act} {W : World} (hgd : o.guard = none) (ty : TypeId) (x y : Operand) (ho : o.op = .store ty x y) (hN : o.dst = none) (g : Nat) (hx : a.eval x = .pointer (some ⟨g, 0, none⟩)) {c c' : Array Value} {t : Nat}
  (hy : a.eval y = .agg c') (hb : W.heap[g]? = some (.cells c t (0, 0))) (hi : (P.info? ty).map (·.size) = some c'.size) (hc : c.size = c'.size) (h1 : c'.all (·.oneCell') = true)
  (h : ∀ w', w'.heap[g]? = some (.cells c' t (0, 0)) → W.grownBy w' (some g) → wpList P ops Q rest a w') : wpList P ops Q (o :: rest) a W := by
 refine wpList_plain hgd fun K hK => ?_
 unfold Oper.wp
 have hr : (execOp a.eval o).run P W = .ok .skip (W.setRow g c') := by
  simp only [execOp, ho, hx, hy, Instr.storeAt, Instr.sureAddr, Sem.run_bind, Sem.run_pure, Result.andThen_ok, run_storeVar_row W g t ty c c' hb hi hc h1]
 rw [hr]
 show K (a.put o.dst undef) _
 rw [hN]
 obtain ⟨h2, h3⟩ := grown_row (c' := c') hb
 exact hK _ _ (h _ h2 h3)
section
variable {w1 : World} {gs b kb gB n0 : Nat} {A0 : Option Addr} {c0 : Nat} {l0 : List Int} {A1 : Option Addr} {c1 : Nat} {l1 : List S35} {A2 : Option Addr} {c2 : Nat} {l2 : List Int} {cv : Int} {W W' : World} {v v' : List Nat} {mv mv' : Value} {xs xs' : List Int}
end
end Go.Proofs.Ytpbclogjoangfaa.So
