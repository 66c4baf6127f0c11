/- markAskedS writes numbers into a guard's answers: walked by hand; the marks read again; answers compared. -/
import Derived.Test.YtpbclogjoangfaaFnTopGd0
import Derived.Test.YtpbclogjoangfaaFnTopQ7
namespace Go.Proofs.Ytpbclogjoangfaa.Gd
open Go.RowKit Go.Proofs.YtpbclogjoangfaaW.PrintWords Go.Proofs.YtpbclogjoangfaaW.PrintLast Go.Proofs.YtpbclogjoangfaaW.PrintMore Go.Proofs.Ytpbclogjoangfaa.Q Go.Proofs.Ytpbclogjoangfaa.Pu Go.Proofs.Ytpbclogjoangfaa.Mk Go.Proofs.Ytpbclogjoangfaa.Lw
set_option linter.unusedVariables false
set_option linter.unusedSimpArgs false
section
variable {w0 w : World} {P : Nat → Prop} {v0 v1 v2 : Value} {l0 l2 : List Int} {l1 : List S35} {a : Int}
end
theorem _root_.Go.Proofs.Ytpbclogjoangfaa.Mk.St.step {base : Nat} {w w' : World} {P : Nat → Prop} {v0 v1 v2 : Value} {l0 l2 : List Int} {l1 : List S35} (h : St base w P v0 v1 v2 l0 l1 l2) (hm : ∀ k, P k → k < w.heap.size → w'.heap[k]? = w.heap[k]?) : St base w' P v0 v1 v2 l0 l1 l2 :=
 ⟨Kd.R_step h.r0 (fun k hk hl => hm k hk.1 hl), Kd.S_step h.s1 (fun k hk hl => hm k hk.1 hl), Kd.R_step h.r2 (fun k hk hl => hm k hk.1 hl)⟩
def one (x : AT) : Int := 1 + x.f1.f0.length + szT x.f1.f1 + x.f1.f2.length
abbrev zA : AT := z33
end Go.Proofs.Ytpbclogjoangfaa.Gd
