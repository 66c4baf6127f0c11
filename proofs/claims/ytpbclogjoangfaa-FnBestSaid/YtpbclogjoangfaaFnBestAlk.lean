/- What stays while a row of the caller's own grows. -/
import Derived.Test.YtpbclogjoangfaaFnBestAl0
namespace Go.Proofs.Ytpbclogjoangfaa.Al
open Go.RowKit Go.Maps Go.Proofs.YtpbclogjoangfaaW.PrintWords Go.Proofs.YtpbclogjoangfaaW.PrintLast Go.Proofs.YtpbclogjoangfaaW.PrintMore Go.Proofs.Ytpbclogjoangfaa.Q Go.Proofs.Ytpbclogjoangfaa.Pu Go.Proofs.Ytpbclogjoangfaa.Sr Go.Proofs.Ytpbclogjoangfaa.Sp
set_option linter.unusedVariables false
set_option linter.unusedSimpArgs false
theorem Sq.far {w0 W W' : World} {gt gc gm M : Nat} {vp vn : Value} {cc cm : Nat} {T : List S35} {N : List Int} {Cs : List Int} {Ms : List Bool} {row : Option Nat} {n : Nat} (h : Sq w0 W gt gc gm M vp vn cc cm T N Cs Ms)
  (hp : ∀ k, vp.ownBlock = some k → k < n) (hn : ∀ k, vn.ownBlock = some k → k < n) (hgt : gt < n) (hgc : gc < n) (hgm : gm < n) (h0 : w0.heap.size ≤ n) (hg : W.grownBy W' row) (hr : ∀ k, row = some k → n ≤ k) : Sq w0 W' gt gc gm M vp vn cc cm T N Cs Ms := by
 have ha : ∀ k, k < n → some k ≠ row := fun k hk e => by have := hr k e.symm; omega
 have hlt : gt < W.heap.size := (Array.getElem?_eq_some_iff.1 h.blk).1
 refine ⟨(hg.block gt hlt (ha gt hgt)).trans h.blk, h.low.grown hg h.low.size (fun k hk => by have := hr k hk; omega), h.gl, ?_, ?_, Kd.R_grown h.cR hg (fun k hk => ha k (by omega)), Kd.R_grown h.mR hg (fun k hk => ha k (by omega)), h.cl, h.ml⟩
 ·exact Kd.R_mono (Kd.R_grown (Kd.R_flat (ok' := fun k => (k ≠ gc ∧ k ≠ gm) ∧ k < n) (fun h => h) h.pR (fun k hk ho => ⟨ho, hp k hk⟩)) hg (fun k hk => ha k hk.2)) (fun k hk => hk.1)
 ·exact Kd.R_mono (Kd.R_grown (Kd.R_flat (ok' := fun k => (k ≠ gc ∧ k ≠ gm) ∧ k < n) (fun h => h) h.nR (fun k hk ho => ⟨ho, hn k hk⟩)) hg (fun k hk => ha k hk.2)) (fun k hk => hk.1)
theorem St.far {w0 W W' : World} {gs : Nat} {A0 : Option Addr} {c0 : Nat} {l0 : List Int} {A1 : Option Addr} {c1 : Nat} {l1 : List S35} {A2 : Option Addr} {c2 : Nat} {l2 : List Int} {b n : Nat} {row : Option Nat} (h : St w0 W gs A0 c0 l0 A1 c1 l1 A2 c2 l2 b) (hg : W.grownBy W' row) (hgs : gs < n) (h0 : w0.heap.size ≤ n) (hr : ∀ k, row = some k → n ≤ k) : St w0 W' gs A0 c0 l0 A1 c1 l1 A2 c2 l2 b :=
 ⟨(hg.block gs (Array.getElem?_eq_some_iff.1 h.blk).1 (fun e => by have := hr gs e.symm; omega)).trans h.blk, h.low.grown hg h.low.size (fun k hk => by have := hr k hk; omega), h.gl, h.bl, h.r0, h.h0, h.r1, h.h1, h.r2, h.h2⟩
end Go.Proofs.Ytpbclogjoangfaa.Al
