/- Small words for walking the exact law of Shown by hand: a state of the call's own. -/
import Derived.Test.YtkcocomehhlpmaaDoorFnExactShownPure0
import Derived.Test.YtkcocomehhlpmaaDoorFnExactShownQ2
import Derived.Test.YtkcocomehhlpmaaDoorFnExactShownQ3
namespace Go.Proofs.YtkcocomehhlpmaaDoor.Mk
open Go.RowKit Go.Proofs.YtkcocomehhlpmaaDoorW.PrintWords Go.Proofs.YtkcocomehhlpmaaDoorW.PrintLast Go.Proofs.YtkcocomehhlpmaaDoorW.PrintMore Go.Proofs.YtkcocomehhlpmaaDoor.Q Go.Proofs.YtkcocomehhlpmaaDoor.Pu
/-- A state of the caller's own: its three rows lie apart, in blocks of P. -/
structure St (base : Nat) (w : World) (P : Nat → Prop) (v0 v1 v2 : Value) (l0 : List Int) (l1 : List S48) (l2 : List Int) : Prop where
 r0 : Kd.R (Kd.int .i64) 3 w base (fun k => P k ∧ some k ≠ v2.ownBlock) v0 l0
 s1 : Kd.S k48 48 w base (fun k => P k ∧ some k ≠ v0.ownBlock ∧ some k ≠ v2.ownBlock) v1 l1
 r2 : Kd.R (Kd.int .i64) 3 w base (fun k => P k ∧ some k ≠ v0.ownBlock) v2 l2
end Go.Proofs.YtkcocomehhlpmaaDoor.Mk
namespace Go.Proofs.YtkcocomehhlpmaaDoor.Lw
open Go.RowKit Go.Proofs.YtkcocomehhlpmaaDoorW.PrintWords Go.Proofs.YtkcocomehhlpmaaDoorW.PrintLast Go.Proofs.YtkcocomehhlpmaaDoorW.PrintMore Go.Proofs.YtkcocomehhlpmaaDoor.Q Go.Proofs.YtkcocomehhlpmaaDoor.Pu Go.Proofs.YtkcocomehhlpmaaDoor.Mk
set_option linter.unusedVariables false
set_option linter.unusedSimpArgs false
/-- The blocks from a to b. -/
def Rng (a b : Nat) (k : Nat) : Prop := a ≤ k ∧ k < b
section
variable {base a b c d : Nat} {w W W2 : World} {v0 v1 v2 : Value} {l0 l2 : List Int} {l1 : List S48} {P : Nat → Prop}
theorem _root_.Go.Proofs.YtkcocomehhlpmaaDoor.Mk.St.below (h : St base W P v0 v1 v2 l0 l1 l2) (hb : Below W.heap.size W W2) : St base W2 P v0 v1 v2 l0 l1 l2 := ⟨Kd.R_below h.r0 hb, Kd.S_below h.s1 hb, Kd.R_below h.r2 hb⟩
theorem _root_.Go.Proofs.YtkcocomehhlpmaaDoor.Mk.St.made {ok0 ok1 ok2 : Nat → Prop} (h0 : Kd.R (Kd.int .i64) 3 W2 W.heap.size ok0 v0 l0) (h1 : Kd.S k48 48 W2 W.heap.size ok1 v1 l1) (h2 : Kd.R (Kd.int .i64) 3 W2 W.heap.size ok2 v2 l2)
  (e0 : ∀ k, ok0 k → some k ≠ v2.ownBlock) (e1 : ∀ k, ok1 k → some k ≠ v0.ownBlock ∧ some k ≠ v2.ownBlock) (e2 : ∀ k, ok2 k → some k ≠ v0.ownBlock) (hB : base ≤ W.heap.size) : St base W2 (Rng W.heap.size W2.heap.size) v0 v1 v2 l0 l1 l2 :=
 ⟨Kd.R_lower (Kd.R_mono (Kd.R_bound h0) (fun k hk => ⟨⟨hk.2.1, hk.2.2.1⟩, e0 k hk.1⟩)) hB, Kd.S_lower (Kd.S_mono (Kd.S_bound h1) (fun k hk => ⟨⟨hk.2.1, hk.2.2.1⟩, e1 k hk.1⟩)) hB, Kd.R_lower (Kd.R_mono (Kd.R_bound h2) (fun k hk => ⟨⟨hk.2.1, hk.2.2.1⟩, e2 k hk.1⟩)) hB⟩
theorem _root_.Go.Proofs.YtkcocomehhlpmaaDoor.Mk.St.slices (h : St base W P v0 v1 v2 l0 l1 l2) : ∃ A0 c0 A1 c1 A2 c2, v0 = .slice A0 l0.length c0 ∧ v1 = .slice A1 l1.length c1 ∧ v2 = .slice A2 l2.length c2 := by
 obtain ⟨A0, c0, e0⟩ := Kd.R_slice h.r0
 obtain ⟨A1, c1, e1⟩ := Kd.S_slice h.s1
 obtain ⟨A2, c2, e2⟩ := Kd.R_slice h.r2
 exact ⟨A0, c0, A1, c1, A2, c2, e0, e1, e2⟩
end
end Go.Proofs.YtkcocomehhlpmaaDoor.Lw
