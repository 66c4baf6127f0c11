/- The specification's search: what it changes, what it knows. -/
import Derived.Test.YtkcocomehhlpmaaDoorFnSpoiltSp2
namespace Go.Proofs.YtkcocomehhlpmaaDoor.Sp
open Go.RowKit Go.Proofs.YtkcocomehhlpmaaDoorW.PrintWords Go.Proofs.YtkcocomehhlpmaaDoorW.PrintLast Go.Proofs.YtkcocomehhlpmaaDoorW.PrintMore Go.Proofs.YtkcocomehhlpmaaDoor.Q Go.Proofs.YtkcocomehhlpmaaDoor.Pu Go.Proofs.YtkcocomehhlpmaaDoor.Sr
set_option linter.unusedVariables false
set_option linter.unusedSimpArgs false
/-- Nothing has changed but the blocks gc and gm. -/
structure Kp (gc gm : Nat) (W W' : World) : Prop where
 os : W'.os = W.os
 tape : W'.tape = W.tape
 output : W'.output = W.output
 size : W.heap.size ≤ W'.heap.size
 block : ∀ i, i < W.heap.size → i ≠ gc → i ≠ gm → W'.heap[i]? = W.heap[i]?
section
variable {gc gm : Nat} {W W' W2 : World}
theorem Kp.refl (gc gm : Nat) (W : World) : Kp gc gm W W := ⟨rfl, rfl, rfl, Nat.le_refl _, fun _ _ _ _ => rfl⟩
theorem Kp.trans (h : Kp gc gm W W') (k : Kp gc gm W' W2) : Kp gc gm W W2 :=
 ⟨k.os.trans h.os, k.tape.trans h.tape, k.output.trans h.output, Nat.le_trans h.size k.size, fun i hi h1 h2 => (k.block i (Nat.lt_of_lt_of_le hi h.size) h1 h2).trans (h.block i hi h1 h2)⟩
theorem Kp.of_below (h : Below W.heap.size W W') : Kp gc gm W W' := ⟨h.os, h.tape, h.output, h.size, fun i hi _ _ => h.block i hi⟩
theorem Kp.of_grown {g : Nat} (h : W.grownBy W' (some g)) (hg : g = gc ∨ g = gm) : Kp gc gm W W' :=
 ⟨h.os, h.tape, h.output, h.size, fun i hi h1 h2 => h.block i hi (fun e => by injection e with e; omega)⟩
theorem Kp.low {B : Nat} {w0 : World} (h : Kp gc gm W W') (hb : Below B w0 W) (hB : B ≤ W.heap.size) (h1 : B ≤ gc) (h2 : B ≤ gm) : Below B w0 W' :=
 hb.trans ⟨h.os, h.tape, h.output, h.size, fun i hi => h.block i (by omega) (by omega) (by omega)⟩
theorem Kp.kept (h : Kp gc gm W W') : Kept W W' (fun k => k = gc ∨ k = gm) := ⟨h.size, fun i hi hn => h.block i hi (fun e => hn (.inl e)) (fun e => hn (.inr e))⟩
end
/-- A row that is read alike whatever the search writes. -/
def Stb {α : Type} (d : Kd α) (gc gm : Nat) (W : World) (A : Option Addr) (n : Nat) (xs : List α) : Prop := ∀ W', Kp gc gm W W' → d.C W' A n xs
section
variable {α : Type} {d : Kd α} {gc gm : Nat} {W W' : World} {A : Option Addr} {n c : Nat} {xs : List α}
theorem Stb.now (h : Stb d gc gm W A n xs) : d.C W A n xs := h W (Kp.refl _ _ _)
theorem Stb.step (h : Stb d gc gm W A n xs) (k : Kp gc gm W W') : Stb d gc gm W' A n xs := fun W2 k2 => h W2 (k.trans k2)
theorem Stb.of_R {e base : Nat} {ok : Nat → Prop} (h : d.R e W base ok (.slice A n c) xs) (ho : ∀ k, ok k → k ≠ gc ∧ k ≠ gm) : Stb d gc gm W A n xs := fun W2 k => by
 have h2 := (Kd.R_reads' (Kd.R_kept h k.kept (fun j hj => by have := ho j hj; omega))).2.2
 have h3 := (Kd.R_reads' h).1
 rw [h3]; exact h2
theorem Stb.of_N {e base : Nat} {ok : Nat → Prop} (h : Kd.N d e W base ok (.slice A n c) xs) (ho : ∀ k, ok k → k ≠ gc ∧ k ≠ gm) : Stb d gc gm W A n xs := fun W2 k => by
 have h2 := (Kd.N_reads' (Kd.N_kept h k.kept (fun j hj => by have := ho j hj; omega))).2.2
 have h3 := (Kd.N_reads' h).1
 rw [h3]; exact h2
end
/-- What the search knows is right. -/
def Gm (R : List Int) (T : List S48) (Cs : List Int) (Ms : List Bool) : Prop := ∀ u, okV T u → Ms.getD (numP T u T.length) false = true → Cs.getD (numP T u T.length) 0 = V R T u
theorem Gm.put {R : List Int} {T : List S48} {Cs : List Int} {Ms : List Bool} (h : Gm R T Cs Ms) {v : List Nat} (hv : okV T v) (hc : numP T v T.length < Cs.length) (hm : numP T v T.length < Ms.length) : Gm R T (Cs.set (numP T v T.length) (V R T v)) (Ms.set (numP T v T.length) true) := by
 intro u hu hh
 by_cases e : numP T v T.length = numP T u T.length
 ·have := okV_ext hv hu e
  subst this
  simp [List.getD, hc]
 ·have h1 : (Ms.set (numP T v T.length) true).getD (numP T u T.length) false = Ms.getD (numP T u T.length) false := by simp [List.getD, List.getElem?_set, e]
  have h2 : (Cs.set (numP T v T.length) (V R T v)).getD (numP T u T.length) 0 = Cs.getD (numP T u T.length) 0 := by simp [List.getD, List.getElem?_set, e]
  rw [h1] at hh
  rw [h2]
  exact h u hu hh
section
variable {w0 W W' : World} {gt gc gm M : Nat} {vp vn : Value} {cc cm : Nat} {T : List S48} {N : List Int} {Cs : List Int} {Ms : List Bool}
theorem Sq.ne (h : Sq w0 W gt gc gm M vp vn cc cm T N Cs Ms) (hM : 0 < M) : gc ≠ gm ∧ gt ≠ gc ∧ gt ≠ gm ∧ w0.heap.size ≤ gc ∧ w0.heap.size ≤ gm ∧ gc < W.heap.size ∧ gm < W.heap.size := by
 obtain ⟨g1, c1, e1, b1, l1, cl1, hc1⟩ := Kd.R_form h.cR (by rw [h.cl]; exact hM)
 obtain ⟨g2, c2, e2, b2, l2, cl2, hc2⟩ := Kd.R_form h.mR (by rw [h.ml]; exact hM)
 injection e1 with e1
 injection e1 with e1
 injection e1 with e1
 injection e2 with e2
 injection e2 with e2
 injection e2 with e2
 subst e1 e2
 have hb := h.blk
 refine ⟨fun e => ?_, fun e => ?_, fun e => ?_, b1, b2, l1, l2⟩
 ·subst e; rw [hc1] at hc2; injection hc2 with hc2; injection hc2 with _ hc2; exact absurd hc2 (by decide)
 ·subst e; rw [hc1] at hb; injection hb with hb; injection hb with _ hb; exact absurd hb (by decide)
 ·subst e; rw [hc2] at hb; injection hb with hb; injection hb with _ hb; exact absurd hb (by decide)
theorem Sq.putm (h : Sq w0 W gt gc gm M vp vn cc cm T N Cs Ms) (hM : 0 < M) (k : Nat) (x : Bool) :
  Sq w0 (W.setCell ⟨gm, k, none⟩ (.bool x)) gt gc gm M vp vn cc cm T N Cs (Ms.set k x) ∧ Kp gc gm W (W.setCell ⟨gm, k, none⟩ (.bool x)) := by
 obtain ⟨n1, n2, n3, b1, b2, l1, l2⟩ := h.ne hM
 have hp := Kd.R_putg (enc := Value.bool) h.mR (k : Int) x
 rw [Int.toNat_natCast] at hp
 have hg := hp.2
 have hlt : gt < W.heap.size := (Array.getElem?_eq_some_iff.1 h.blk).1
 refine ⟨⟨(hg.block gt hlt (fun e => by injection e with e; exact n3 e)).trans h.blk, below_set h.low b2, h.gl, Kd.R_grown h.pR hg (fun j hj e => by injection e with e; exact hj.2 e), Kd.R_grown h.nR hg (fun j hj e => by injection e with e; exact hj.2 e), Kd.R_grown h.cR hg (fun j hj e => by injection e with e; omega), hp.1, h.cl, by rw [List.length_set]; exact h.ml⟩, Kp.of_grown hg (.inr rfl)⟩
theorem Sq.putc (h : Sq w0 W gt gc gm M vp vn cc cm T N Cs Ms) (hM : 0 < M) (k : Nat) (x : Int) :
  Sq w0 (W.setCell ⟨gc, k, none⟩ (.int .i64 x)) gt gc gm M vp vn cc cm T N (Cs.set k x) Ms ∧ Kp gc gm W (W.setCell ⟨gc, k, none⟩ (.int .i64 x)) := by
 obtain ⟨n1, n2, n3, b1, b2, l1, l2⟩ := h.ne hM
 have hp := Kd.R_putg (enc := Value.int .i64) h.cR (k : Int) x
 rw [Int.toNat_natCast] at hp
 have hg := hp.2
 have hlt : gt < W.heap.size := (Array.getElem?_eq_some_iff.1 h.blk).1
 refine ⟨⟨(hg.block gt hlt (fun e => by injection e with e; exact n2 e)).trans h.blk, below_set h.low b1, h.gl, Kd.R_grown h.pR hg (fun j hj e => by injection e with e; exact hj.1 e), Kd.R_grown h.nR hg (fun j hj e => by injection e with e; exact hj.1 e), hp.1, Kd.R_grown h.mR hg (fun j hj e => by injection e with e; omega), by rw [List.length_set]; exact h.cl, h.ml⟩, Kp.of_grown hg (.inl rfl)⟩
theorem Sq.cellm (h : Sq w0 W gt gc gm M vp vn cc cm T N Cs Ms) {k : Nat} (hk : k < M) : W.cell? ⟨gm, k, none⟩ = some (.bool (Ms.getD k false)) ∧ W.frozen? ⟨gm, k, none⟩ = false := by
 have h1 := Kd.R_celln (enc := Value.bool) false h.mR (k : Int) (by omega) (by omega)
 rw [Int.toNat_natCast] at h1
 exact h1
theorem Sq.cellc (h : Sq w0 W gt gc gm M vp vn cc cm T N Cs Ms) {k : Nat} (hk : k < M) : W.cell? ⟨gc, k, none⟩ = some (.int .i64 (Cs.getD k 0)) ∧ W.frozen? ⟨gc, k, none⟩ = false := by
 have h1 := Kd.R_celln (enc := Value.int .i64) 0 h.cR (k : Int) (by omega) (by omega)
 rw [Int.toNat_natCast] at h1
 exact h1
end
end Go.Proofs.YtkcocomehhlpmaaDoor.Sp
