/- Rows for drawn regions: one operation at a time. -/
import Derived.Test.YtkcocomehhlpmaaDoorFnSpoiltQ0
namespace Go.Proofs.YtkcocomehhlpmaaDoor.Rw
open Go.RowKit Go.Proofs.YtkcocomehhlpmaaDoorW.PrintWords Go.Proofs.YtkcocomehhlpmaaDoorW.PrintLast Go.Proofs.YtkcocomehhlpmaaDoorW.PrintMore
set_option linter.unusedVariables false
section
variable {P : Program} {ops : Array Oper} {Q : Exit → Act → World → Prop} {S : World → Prop} {ds : List Nat}
/-- Number i, which yields in every world, comes up first. -/
theorem np_ {fuel : Nat} {l : Array Bool} {a a' : Act} {w : World} (i N : Nat) {oi : Oper} {v : Value} (hi : ops[i]? = some oi) (hN : oi.dst = some N) (hc : anyB .any ops l (l.setIfInBounds i true) i = true) (hQ : ∀ c a w, Q (.panic c) (a.put oi.dst v) w → Q (.panic c) a w)
  (hw : Region.wanted oi (yielded ops a.tmps) = true) (hv : ∀ w', (execOp a.eval oi).run P w' = .ok (.value v) w') (ha : a.put (some N) v = a') (h : wpAnyLast P .any ops Q S ds fuel (l.setIfInBounds i true) a' w) : wpAnyLast P .any ops Q S ds (fuel + 1) l a w :=
 pure_ _ hi hN hc hQ (.inl ⟨hw, hv⟩) ha h
/-- Number i, which yields wherever S holds (a load). -/
theorem nt_ {fuel : Nat} {l : Array Bool} {a a' : Act} {w : World} (hS : S w) (i N : Nat) {oi : Oper} {v : Value} (hi : ops[i]? = some oi) (hN : oi.dst = some N) (hc : takeB .any ops ds l (l.setIfInBounds i true) i = true) (hQ : ∀ c a w, Q (.panic c) (a.put oi.dst v) w → Q (.panic c) a w)
  (hw : Region.wanted oi (yielded ops a.tmps) = true) (hv : ∀ w', S w' → (execOp a.eval oi).run P w' = .ok (.value v) w') (ha : a.put (some N) v = a') (h : wpAnyLast P .any ops Q S ds fuel (l.setIfInBounds i true) a' w) : wpAnyLast P .any ops Q S ds (fuel + 1) l a w :=
 take_ _ hi hN hc hQ (.inl ⟨hw, hv⟩) hS ha h
/-- An operation that comes up alone (a call, an append): S is shown behind it. -/
theorem no_ {fuel : Nat} {l : Array Bool} {a : Act} {w : World} (i N : Nat) {oi : Oper} (hi : ops[i]? = some oi) (hN : oi.dst = some N) (hc : readyB .any ops l (l.setIfInBounds i true) i = true) (hd : i ∉ ds)
  (h : ∀ K : Act → World → Prop, (∀ a' w', S w' → (S w' → wpAnyLast P .any ops Q S ds fuel (l.setIfInBounds i true) a' w') → K a' w') → if Region.wanted oi (yielded ops a.tmps) = true then Oper.wp P oi a w K Q else K (a.put (some N) undef) w) : wpAnyLast P .any ops Q S ds (fuel + 1) l a w :=
 one_ _ hi hN hc hd (fun K hK => h K hK.out)
theorem AP_ : (∀ (a : Act) (d : Nat) (v : Value), a.put (some d) v = { a with tmps := a.tmps.setIfInBounds d v }) ∧ (∀ (a : Act) (v : Value), a.put none v = a) ∧ (∀ (l : List Value) (i : Nat) (a : Value), l.toArray.setIfInBounds i a = (l.set i a).toArray) ∧ (∀ (x : Value) (l : List Value) (a : Value), (x :: l).set 0 a = a :: l) ∧ (∀ (x : Value) (l : List Value) (i : Nat) (a : Value), (x :: l).set (i + 1) a = x :: l.set i a) := ⟨fun _ _ _ => rfl, fun _ _ => rfl, fun l i a => List.setIfInBounds_toArray l i a, fun _ _ _ => rfl, fun _ _ _ _ => rfl⟩
end
end Go.Proofs.YtkcocomehhlpmaaDoor.Rw
