/- While a drawn state is spoilt: what lies where. No walk here. -/
import Derived.Test.YtkcocomehhlpmaaDoorFnSpoiltSq0
import Derived.Test.YtkcocomehhlpmaaDoorFnSpoiltPure0
import Derived.Outline
namespace Go.Proofs.YtkcocomehhlpmaaDoor.Sq
open Go.RowKit Go.Proofs.YtkcocomehhlpmaaDoorW.PrintWords Go.Proofs.YtkcocomehhlpmaaDoorW.PrintLast Go.Proofs.YtkcocomehhlpmaaDoorW.PrintMore Go.Proofs.YtkcocomehhlpmaaDoor.Q Go.Proofs.YtkcocomehhlpmaaDoor.Pu
set_option linter.unusedVariables false
set_option linter.unusedSimpArgs false
/-! ### rows for drawn regions -/
theorem row_wr_ {P : Program} {ops : Array Oper} {Q : Exit → Act → World → Prop} {o : Oper} {rest : List Oper} {a : Act} {W : World} (hgd : o.guard = none) (ty : TypeId) (x y : Operand) (ho : o.op = .store ty x y) (hN : o.dst = none) (g : Nat) (hx : a.eval x = .pointer (some ⟨g, 0, none⟩)) {c c' : Array Value} {t : Nat}
  (hy : a.eval y = .agg c') (hb : W.heap[g]? = some (.cells c t (0, 0))) (hi : (P.info? ty).map (·.size) = some c'.size) (hc : c.size = c'.size) (h1 : c'.all (·.oneCell') = true)
  (h : ∀ w', w'.heap[g]? = some (.cells c' t (0, 0)) → W.grownBy w' (some g) → wpList P ops Q rest a w') : wpList P ops Q (o :: rest) a W := by
 refine wpList_plain hgd fun K hK => ?_
 unfold Oper.wp
 have hr : (execOp a.eval o).run P W = .ok .skip (W.setRow g c') := by
  simp only [execOp, ho, hx, hy, Instr.storeAt, Instr.sureAddr, Sem.run_bind, Sem.run_pure, Result.andThen_ok, run_storeVar_row W g t ty c c' hb hi hc h1]
 rw [hr]
 show K (a.put o.dst undef) _
 rw [hN]
 exact hK _ _ (h _ (setRow_heap W g c c' t (0, 0) hb) ⟨rfl, rfl, rfl, by simp, fun i hi hn => setRow_other W g i c' (fun e => hn (by rw [e]))⟩)
section
variable {P : Program} {ops : Array Oper} {Q : Exit → Act → World → Prop} {S : World → Prop} {ds : List Nat}
/-- Number i, which yields in every world, comes up first. -/
theorem np_ {fuel : Nat} {l : Array Bool} {a a' : Act} {w : World} (i N : Nat) {oi : Oper} {v : Value} (hi : ops[i]? = some oi) (hN : oi.dst = some N) (hc : anyB .any ops l (l.setIfInBounds i true) i = true) (hQ : ∀ c a w, Q (.panic c) (a.put oi.dst v) w → Q (.panic c) a w)
  (hw : Region.wanted oi (yielded ops a.tmps) = true) (hv : ∀ w', (execOp a.eval oi).run P w' = .ok (.value v) w') (ha : a.put (some N) v = a') (h : wpAnyLast P .any ops Q S ds fuel (l.setIfInBounds i true) a' w) : wpAnyLast P .any ops Q S ds (fuel + 1) l a w :=
 pure_ _ hi hN hc hQ (.inl ⟨hw, hv⟩) ha h
/-- Number i, which yields wherever S holds (a load). -/
theorem nt_ {fuel : Nat} {l : Array Bool} {a a' : Act} {w : World} (hS : S w) (i N : Nat) {oi : Oper} {v : Value} (hi : ops[i]? = some oi) (hN : oi.dst = some N) (hc : takeB .any ops ds l (l.setIfInBounds i true) i = true) (hQ : ∀ c a w, Q (.panic c) (a.put oi.dst v) w → Q (.panic c) a w)
  (hw : Region.wanted oi (yielded ops a.tmps) = true) (hv : ∀ w', S w' → (execOp a.eval oi).run P w' = .ok (.value v) w') (ha : a.put (some N) v = a') (h : wpAnyLast P .any ops Q S ds fuel (l.setIfInBounds i true) a' w) : wpAnyLast P .any ops Q S ds (fuel + 1) l a w :=
 take_ _ hi hN hc hQ (.inl ⟨hw, hv⟩) hS ha h
/-- The region's last operation, a store, and out. -/
theorem nl_ {fuel : Nat} {l : Array Bool} {a : Act} {w : World} (i : Nat) (w1 : World) {oi : Oper} (hi : ops[i]? = some oi) (hN : oi.dst = none) (hc : readyB .any ops l (l.setIfInBounds i true) i = true) (hd : i ∈ ds) (hw : Region.wanted oi (yielded ops a.tmps) = true) (hr : (Region.ready .any ops (l.setIfInBounds i true) == []) = true)
  (hrun : (execOp a.eval oi).run P w = .ok .skip w1) (h : Q .normal a w1) : wpAnyLast P .any ops Q S ds (fuel + 1) l a w := by
 refine last_ (N := none) _ hi hN hc hd (fun K hK => ?_)
 refine skip_ hw hN hrun ?_
 exact hK.out _ _ (done_ hr h)
/-- An operation that comes up alone (a call, an append): S is shown behind it. -/
theorem no_ {fuel : Nat} {l : Array Bool} {a : Act} {w : World} (i N : Nat) {oi : Oper} (hi : ops[i]? = some oi) (hN : oi.dst = some N) (hc : readyB .any ops l (l.setIfInBounds i true) i = true) (hd : i ∉ ds)
  (h : ∀ K : Act → World → Prop, (∀ a' w', S w' → (S w' → wpAnyLast P .any ops Q S ds fuel (l.setIfInBounds i true) a' w') → K a' w') → if Region.wanted oi (yielded ops a.tmps) = true then Oper.wp P oi a w K Q else K (a.put (some N) undef) w) : wpAnyLast P .any ops Q S ds (fuel + 1) l a w :=
 one_ _ hi hN hc hd (fun K hK => h K hK.out)
theorem AP_ : (∀ (a : Act) (d : Nat) (v : Value), a.put (some d) v = { a with tmps := a.tmps.setIfInBounds d v }) ∧ (∀ (a : Act) (v : Value), a.put none v = a) ∧ (∀ (l : List Value) (i : Nat) (a : Value), l.toArray.setIfInBounds i a = (l.set i a).toArray) ∧ (∀ (x : Value) (l : List Value) (a : Value), (x :: l).set 0 a = a :: l) ∧ (∀ (x : Value) (l : List Value) (i : Nat) (a : Value), (x :: l).set (i + 1) a = x :: l.set i a) := ⟨fun _ _ _ => rfl, fun _ _ => rfl, fun l i a => List.setIfInBounds_toArray l i a, fun _ _ _ => rfl, fun _ _ _ _ => rfl⟩
end
theorem infoS : (Tryd.prog.info? 30).map (·.size) = some 3 := by kernel_rfl
section
variable {P : Program} {ops : Array Oper} {rest : List Oper} {o : Oper} {a : Act} {Q : Exit → Act → World → Prop} {Kc : Act → World → Prop}
/-- A block is made (a parameter's box, a variable's). -/
theorem box2 {W : World} {gg : Nat} (hgg : W.heap.size = gg) (hgd : o.guard = none) {M : Tmp} (_hd : o.dst = some M) {cs : Array Value} {t : TypeId}
  (hrun : (execOp a.eval o).run P W = .ok (.value (.pointer (some ⟨W.heap.size, 0, none⟩))) (W.alloc (.cells cs t (0, 0))))
  (h : ∀ w1, w1.heap[gg]? = some (.cells cs t (0, 0)) → Below W.heap.size W w1 → w1.heap.size = gg + 1 → wpList P ops Q rest (a.put o.dst (.pointer (some ⟨gg, 0, none⟩))) w1) : wpList P ops Q (o :: rest) a W := by
 subst hgg
 exact Kd.event_run hgd hrun (h _ (heap_alloc_new W _) (below_alloc (Below.refl _ _) _) (by simp))
end
theorem grown_set (W : World) (g j : Nat) (u : Value) : W.grownBy (W.setCell ⟨g, j, none⟩ u) (some g) := ⟨rfl, rfl, rfl, by simp, fun i _ hn => Below.heap_setCell W ⟨g, j, none⟩ u i (fun e => hn (by rw [e]))⟩
/-- The state at hand: its box, the answer's box, its rows of its own. -/
structure Sp (w0 w W : World) (g : Nat) (l : List Int) (a s : Int) (v0 v1 v2 : Value) (R : List Int) (T : List S48) (N : List Int) : Prop where
 hI : IsS67 w0 W g l a s
 hB : Below w0.heap.size w0 W
 hK : KeepBut w W g none
 h0 : w0.heap.size ≤ w.heap.size
 bx : W.heap[w.heap.size]? = some (.cells #[v0, v1, v2] 30 (0, 0))
 br : W.heap[w.heap.size + 1]? = some (.cells #[.slice none 0 0, .slice none 0 0, .slice none 0 0] 30 (0, 0))
 gl : g < w.heap.size
 r0 : Kd.R (Kd.int .i64) 3 W w.heap.size (fun k => w.heap.size + 2 ≤ k ∧ some k ≠ v2.ownBlock ∧ some k ≠ v1.ownBlock) v0 R
 s1 : Kd.S k48 48 W w.heap.size (fun k => w.heap.size + 2 ≤ k ∧ some k ≠ v0.ownBlock ∧ some k ≠ v2.ownBlock) v1 T
 r2 : Kd.R (Kd.int .i64) 3 W w.heap.size (fun k => w.heap.size + 2 ≤ k ∧ some k ≠ v0.ownBlock ∧ some k ≠ v1.ownBlock) v2 N
/-- .. and its trains may share their paths. -/
structure Sn (w0 w W : World) (g : Nat) (l : List Int) (a s : Int) (v0 v1 v2 : Value) (R : List Int) (T : List S48) (N : List Int) : Prop where
 hI : IsS67 w0 W g l a s
 hB : Below w0.heap.size w0 W
 hK : KeepBut w W g none
 h0 : w0.heap.size ≤ w.heap.size
 bx : W.heap[w.heap.size]? = some (.cells #[v0, v1, v2] 30 (0, 0))
 br : W.heap[w.heap.size + 1]? = some (.cells #[.slice none 0 0, .slice none 0 0, .slice none 0 0] 30 (0, 0))
 gl : g < w.heap.size
 r0 : Kd.R (Kd.int .i64) 3 W w.heap.size (fun k => w.heap.size + 2 ≤ k ∧ some k ≠ v2.ownBlock) v0 R
 n1 : Kd.N k48 48 W w.heap.size (fun k => w.heap.size + 2 ≤ k ∧ some k ≠ v0.ownBlock ∧ some k ≠ v2.ownBlock) v1 T
 r2 : Kd.R (Kd.int .i64) 3 W w.heap.size (fun k => w.heap.size + 2 ≤ k ∧ some k ≠ v0.ownBlock) v2 N
section
variable {w0 w W W2 : World} {g : Nat} {l : List Int} {a s a2 s2 : Int} {v0 v1 v2 x : Value} {R R2 : List Int} {T T2 : List S48} {N N2 : List Int}
theorem Sp.sn (h : Sp w0 w W g l a s v0 v1 v2 R T N) : Sn w0 w W g l a s v0 v1 v2 R T N :=
 ⟨h.hI, h.hB, h.hK, h.h0, h.bx, h.br, h.gl, Kd.R_mono h.r0 (fun k hk => ⟨hk.1, hk.2.1⟩), Kd.S_N h.s1, Kd.R_mono h.r2 (fun k hk => ⟨hk.1, hk.2.1⟩)⟩
/-- The cursor has read on. -/
theorem Sp.read (h : Sp w0 w W g l a s v0 v1 v2 R T N) (hI : IsS67 w0 W2 g l a2 s2) (hB : Below w0.heap.size w0 W2) (hk : KeepBut W W2 g none) : Sp w0 w W2 g l a2 s2 v0 v1 v2 R T N :=
 ⟨hI, hB, h.hK.trans hk (.inl rfl), h.h0, KeepBut.blk hk h.bx (by have := h.gl; omega) (by simp), KeepBut.blk hk h.br (by have := h.gl; omega) (by simp), h.gl,
  Kd.R_keep h.r0 hk (fun k hk => by have := h.gl; have := hk.1; omega), Kd.S_keep h.s1 hk (fun k hk => by have := h.gl; have := hk.1; omega), Kd.R_keep h.r2 hk (fun k hk => by have := h.gl; have := hk.1; omega)⟩
theorem Sp.le (h : Sp w0 w W g l a s v0 v1 v2 R T N) : w.heap.size + 2 ≤ W.heap.size := by have := blk_lt h.br; omega
theorem Sn.le (h : Sn w0 w W g l a s v0 v1 v2 R T N) : w.heap.size + 2 ≤ W.heap.size := by have := blk_lt h.br; omega
theorem Sp.below (h : Sp w0 w W g l a s v0 v1 v2 R T N) (hb : Below W.heap.size W W2) : Sp w0 w W2 g l a s v0 v1 v2 R T N :=
 ⟨h.hI.below hb, below_step h.hB hb, h.hK.trans (KeepBut.of_below hb g none) (.inl rfl), h.h0, blk_below h.bx hb, blk_below h.br hb, h.gl, Kd.R_below h.r0 hb, Kd.S_below h.s1 hb, Kd.R_below h.r2 hb⟩
theorem Sn.below (h : Sn w0 w W g l a s v0 v1 v2 R T N) (hb : Below W.heap.size W W2) : Sn w0 w W2 g l a s v0 v1 v2 R T N :=
 ⟨h.hI.below hb, below_step h.hB hb, h.hK.trans (KeepBut.of_below hb g none) (.inl rfl), h.h0, blk_below h.bx hb, blk_below h.br hb, h.gl, Kd.R_below h.r0 hb, Kd.N_below h.n1 hb, Kd.R_below h.r2 hb⟩
/-- What is alike behind a write into a block of the call's own. -/
theorem own_step {row : Option Nat} (hI : IsS67 w0 W g l a s) (hB : Below w0.heap.size w0 W) (hK : KeepBut w W g none) (h0 : w0.heap.size ≤ w.heap.size) (gl : g < w.heap.size) (hg : W.grownBy W2 row) (hr : ∀ k, row = some k → w.heap.size ≤ k) :
  IsS67 w0 W2 g l a s ∧ Below w0.heap.size w0 W2 ∧ KeepBut w W2 g none :=
 ⟨hI.grown hg (fun e => by have := hr _ e.symm; omega), hB.grown hg hB.size (fun k hk => Nat.le_trans h0 (hr k hk)), ⟨Nat.le_trans hK.1 hg.size, fun i hi hn _ => (hg.block i (Nat.lt_of_lt_of_le hi hK.1) (fun e => by have := hr _ e.symm; omega)).trans (hK.2 i hi hn (by simp))⟩⟩
theorem Sp.cells (h : Sp w0 w W g l a s v0 v1 v2 R T N) : (W.cell? ⟨w.heap.size, 0, none⟩ = some v0 ∧ W.cell? ⟨w.heap.size, 1, none⟩ = some v1 ∧ W.cell? ⟨w.heap.size, 2, none⟩ = some v2) ∧ W.frozen? ⟨w.heap.size, 0, none⟩ = false ∧ W.frozen? ⟨w.heap.size, 1, none⟩ = false ∧ W.frozen? ⟨w.heap.size, 2, none⟩ = false :=
 ⟨⟨(blk_cell h.bx 0).trans rfl, (blk_cell h.bx 1).trans rfl, (blk_cell h.bx 2).trans rfl⟩, blk_frozen h.bx 0, blk_frozen h.bx 1, blk_frozen h.bx 2⟩
theorem Sn.cells (h : Sn w0 w W g l a s v0 v1 v2 R T N) : (W.cell? ⟨w.heap.size, 0, none⟩ = some v0 ∧ W.cell? ⟨w.heap.size, 1, none⟩ = some v1 ∧ W.cell? ⟨w.heap.size, 2, none⟩ = some v2) ∧ W.frozen? ⟨w.heap.size, 0, none⟩ = false ∧ W.frozen? ⟨w.heap.size, 1, none⟩ = false ∧ W.frozen? ⟨w.heap.size, 2, none⟩ = false :=
 ⟨⟨(blk_cell h.bx 0).trans rfl, (blk_cell h.bx 1).trans rfl, (blk_cell h.bx 2).trans rfl⟩, blk_frozen h.bx 0, blk_frozen h.bx 1, blk_frozen h.bx 2⟩
/-- A room is written over. -/
theorem Sp.roomSet {gR cR : Nat} (h : Sp w0 w W g l a s (.slice (some ⟨gR, 0, none⟩) R.length cR) v1 v2 R T N) (i y : Int) : Sp w0 w (W.setCell ⟨gR, i.toNat, none⟩ (.int .i64 y)) g l a s (.slice (some ⟨gR, 0, none⟩) R.length cR) v1 v2 (R.set i.toNat y) T N := by
 obtain ⟨hp, hg⟩ := Kd.R_putg h.r0 i y
 have hk := h.r0.1 gR (by simp [Value.ownBlock])
 obtain ⟨q1, q2, q3⟩ := own_step h.hI h.hB h.hK h.h0 h.gl hg (fun k hk2 => by injection hk2; omega)
 refine ⟨q1, q2, q3, h.h0, (hg.block _ (blk_lt h.bx) (fun e => by injection e; omega)).trans h.bx, (hg.block _ (blk_lt h.br) (fun e => by injection e; omega)).trans h.br, h.gl, hp, ?_, ?_⟩
 ·exact Kd.S_grown h.s1 hg (fun k hk2 => by rw [show (some gR : Option Nat) = (Value.slice (some ⟨gR, 0, none⟩) R.length cR).ownBlock from by simp [Value.ownBlock]]; exact hk2.2.1)
 ·exact Kd.R_grown h.r2 hg (fun k hk2 => by rw [show (some gR : Option Nat) = (Value.slice (some ⟨gR, 0, none⟩) R.length cR).ownBlock from by simp [Value.ownBlock]]; exact hk2.2.1)
/-- A number is written over. -/
theorem Sp.nameSet {gN cN : Nat} (h : Sp w0 w W g l a s v0 v1 (.slice (some ⟨gN, 0, none⟩) N.length cN) R T N) (i y : Int) : Sp w0 w (W.setCell ⟨gN, i.toNat, none⟩ (.int .i64 y)) g l a s v0 v1 (.slice (some ⟨gN, 0, none⟩) N.length cN) R T (N.set i.toNat y) := by
 obtain ⟨hp, hg⟩ := Kd.R_putg h.r2 i y
 have hk := h.r2.1 gN (by simp [Value.ownBlock])
 obtain ⟨q1, q2, q3⟩ := own_step h.hI h.hB h.hK h.h0 h.gl hg (fun k hk2 => by injection hk2; omega)
 refine ⟨q1, q2, q3, h.h0, (hg.block _ (blk_lt h.bx) (fun e => by injection e; omega)).trans h.bx, (hg.block _ (blk_lt h.br) (fun e => by injection e; omega)).trans h.br, h.gl, ?_, ?_, hp⟩
 ·exact Kd.R_grown h.r0 hg (fun k hk2 => by rw [show (some gN : Option Nat) = (Value.slice (some ⟨gN, 0, none⟩) N.length cN).ownBlock from by simp [Value.ownBlock]]; exact hk2.2.1)
 ·exact Kd.S_grown h.s1 hg (fun k hk2 => by rw [show (some gN : Option Nat) = (Value.slice (some ⟨gN, 0, none⟩) N.length cN).ownBlock from by simp [Value.ownBlock]]; exact hk2.2.2)
/-- A row has been appended to, its new header stored. -/
theorem Sp.roomApp (h : Sp w0 w W g l a s v0 v1 v2 R T N) (ho : (Kd.int .i64).R 3 W2 w.heap.size (fun k => w.heap.size + 2 ≤ k ∧ some k ≠ v2.ownBlock ∧ some k ≠ v1.ownBlock) x R2) (hg : W.grownBy W2 v0.ownBlock) (hat : x.ownBlock = v0.ownBlock ∨ ∃ b, x.ownBlock = some b ∧ W.heap.size ≤ b) :
  Sp w0 w (W2.setCell ⟨w.heap.size, 0, none⟩ x) g l a s x v1 v2 R2 T N := by
 have hx := h.r0.1
 obtain ⟨q1, q2, q3⟩ := own_step h.hI h.hB h.hK h.h0 h.gl hg (fun k hk => by have := hx k hk; omega)
 have bx2 := (hg.block _ (blk_lt h.bx) (fun e => by have := hx _ e.symm; omega)).trans h.bx
 have br2 := (hg.block _ (blk_lt h.br) (fun e => by have := hx _ e.symm; omega)).trans h.br
 have s12 := Kd.S_after (Kd.S_mono h.s1 (ok' := fun k => (w.heap.size + 2 ≤ k ∧ some k ≠ v2.ownBlock) ∧ some k ≠ v0.ownBlock) (fun k hk => ⟨⟨hk.1, hk.2.2⟩, hk.2.1⟩)) hg hat
 have r22 := Kd.R_after (Kd.R_mono h.r2 (ok' := fun k => (w.heap.size + 2 ≤ k ∧ some k ≠ v1.ownBlock) ∧ some k ≠ v0.ownBlock) (fun k hk => ⟨⟨hk.1, hk.2.2⟩, hk.2.1⟩)) hg hat
 obtain ⟨p1, p2, p3⟩ := own_step q1 q2 q3 h.h0 h.gl (grown_set W2 w.heap.size 0 (x)) (fun k hk => by injection hk; omega)
 refine ⟨p1, p2, p3, h.h0, blk_put bx2 0 x rfl, blk_far br2 (by simp) x, h.gl, Kd.R_far ho (fun k hk => by have := hk.1; simp; omega) x, ?_, ?_⟩
 ·exact Kd.S_mono (Kd.S_far s12 (fun k hk => by have := hk.1.1; simp; omega) x) (fun k hk => ⟨hk.1.1, hk.2, hk.1.2⟩)
 ·exact Kd.R_mono (Kd.R_far r22 (fun k hk => by have := hk.1.1; simp; omega) x) (fun k hk => ⟨hk.1.1, hk.2, hk.1.2⟩)
theorem Sn.nameApp (h : Sn w0 w W g l a s v0 v1 v2 R T N) (ho : (Kd.int .i64).R 3 W2 w.heap.size (fun k => w.heap.size + 2 ≤ k ∧ some k ≠ v0.ownBlock) x N2) (hg : W.grownBy W2 v2.ownBlock) (hat : x.ownBlock = v2.ownBlock ∨ ∃ b, x.ownBlock = some b ∧ W.heap.size ≤ b) :
  Sn w0 w (W2.setCell ⟨w.heap.size, 2, none⟩ x) g l a s v0 v1 x R T N2 := by
 have hx := h.r2.1
 obtain ⟨q1, q2, q3⟩ := own_step h.hI h.hB h.hK h.h0 h.gl hg (fun k hk => by have := hx k hk; omega)
 have bx2 := (hg.block _ (blk_lt h.bx) (fun e => by have := hx _ e.symm; omega)).trans h.bx
 have br2 := (hg.block _ (blk_lt h.br) (fun e => by have := hx _ e.symm; omega)).trans h.br
 have s12 := Kd.N_after (Kd.N_mono h.n1 (ok' := fun k => (w.heap.size + 2 ≤ k ∧ some k ≠ v0.ownBlock) ∧ some k ≠ v2.ownBlock) (fun k hk => ⟨⟨hk.1, hk.2.1⟩, hk.2.2⟩)) hg hat
 have r02 := Kd.R_after h.r0 hg hat
 obtain ⟨p1, p2, p3⟩ := own_step q1 q2 q3 h.h0 h.gl (grown_set W2 w.heap.size 2 (x)) (fun k hk => by injection hk; omega)
 refine ⟨p1, p2, p3, h.h0, blk_put bx2 2 x rfl, blk_far br2 (by simp) x, h.gl, Kd.R_far r02 (fun k hk => by have := hk.1; simp; omega) x, ?_, Kd.R_far ho (fun k hk => by have := hk.1; simp; omega) x⟩
 exact Kd.N_mono (Kd.N_far s12 (fun k hk => by have := hk.1.1; simp; omega) x) (fun k hk => ⟨hk.1.1, hk.1.2, hk.2⟩)
theorem Sn.trainApp (h : Sn w0 w W g l a s v0 v1 v2 R T N) (ho : Kd.N k48 48 W2 w.heap.size (fun k => w.heap.size + 2 ≤ k ∧ some k ≠ v0.ownBlock ∧ some k ≠ v2.ownBlock) x T2) (hg : W.grownBy W2 v1.ownBlock) :
  Sn w0 w (W2.setCell ⟨w.heap.size, 1, none⟩ x) g l a s v0 x v2 R T2 N := by
 have hx := h.n1.1
 obtain ⟨q1, q2, q3⟩ := own_step h.hI h.hB h.hK h.h0 h.gl hg (fun k hk => by have := hx k hk; omega)
 have bx2 := (hg.block _ (blk_lt h.bx) (fun e => by have := hx _ e.symm; omega)).trans h.bx
 have br2 := (hg.block _ (blk_lt h.br) (fun e => by have := hx _ e.symm; omega)).trans h.br
 have r02 := Kd.R_over' h.r0 (Kd.N_typed h.n1) (by decide) hg
 have r22 := Kd.R_over' h.r2 (Kd.N_typed h.n1) (by decide) hg
 obtain ⟨p1, p2, p3⟩ := own_step q1 q2 q3 h.h0 h.gl (grown_set W2 w.heap.size 1 (x)) (fun k hk => by injection hk; omega)
 refine ⟨p1, p2, p3, h.h0, blk_put bx2 1 x rfl, blk_far br2 (by simp) x, h.gl, Kd.R_far r02 (fun k hk => by have := hk.1; simp; omega) x, ?_, Kd.R_far r22 (fun k hk => by have := hk.1; simp; omega) x⟩
 exact Kd.N_far ho (fun k hk => by have := hk.1; simp; omega) x
/-- No rooms. -/
theorem Sp.roomNil (h : Sp w0 w W g l a s v0 v1 v2 R T N) : Sn w0 w (W.setCell ⟨w.heap.size, 0, none⟩ (.slice none 0 0)) g l a s (.slice none 0 0) v1 v2 [] T N := by
 obtain ⟨p1, p2, p3⟩ := own_step h.hI h.hB h.hK h.h0 h.gl (grown_set W w.heap.size 0 (.slice none 0 0)) (fun k hk => by injection hk; omega)
 refine ⟨p1, p2, p3, h.h0, blk_put h.bx 0 _ rfl, blk_far h.br (by simp) _, h.gl, Kd.R_nil _ _ _ _ _, ?_, ?_⟩
 ·exact Kd.N_mono (Kd.N_far (Kd.S_N h.s1) (fun k hk => by have := hk.1; simp; omega) _) (fun k hk => ⟨hk.1, by simp [Value.ownBlock], hk.2.2⟩)
 ·exact Kd.R_mono (Kd.R_far h.r2 (fun k hk => by have := hk.1; simp; omega) _) (fun k hk => ⟨hk.1, by simp [Value.ownBlock]⟩)
/-- The i-th train: its cells, its path's row, lent; and how it is given back. -/
theorem Sp.lend (h : Sp w0 w W g l a s v0 v1 v2 R T N) {i : Nat} (hi : i < T.length) : ∃ (gT cT : Nat) (Ap : Option Addr) (cp : Nat) (oki : Nat → Prop), v1 = .slice (some ⟨gT, 0, none⟩) T.length cT ∧ w.heap.size + 2 ≤ gT ∧ gT < W.heap.size ∧ (∀ k, oki k → (w.heap.size + 2 ≤ k ∧ some k ≠ v0.ownBlock ∧ some k ≠ v2.ownBlock) ∧ k ≠ gT) ∧
  (W.cell? ⟨gT, i * 3, none⟩ = some (.int .i64 (T.getD i z48).f0) ∧ W.cell? ⟨gT, i * 3 + 1, none⟩ = some (.slice Ap (T.getD i z48).f1.length cp) ∧ W.cell? ⟨gT, i * 3 + 2, none⟩ = some (.int .i64 (T.getD i z48).f2)) ∧
  (W.frozen? ⟨gT, i * 3, none⟩ = false ∧ W.frozen? ⟨gT, i * 3 + 1, none⟩ = false ∧ W.frozen? ⟨gT, i * 3 + 2, none⟩ = false) ∧
  (Kd.int .i64).R 3 W w.heap.size oki (.slice Ap (T.getD i z48).f1.length cp) (T.getD i z48).f1 ∧
  (∀ y : Int, Sp w0 w (W.setCell ⟨gT, i * 3, none⟩ (.int .i64 y)) g l a s v0 v1 v2 R (T.set i ⟨y, (T.getD i z48).f1, (T.getD i z48).f2⟩) N) ∧
  (∀ y : Int, Sp w0 w (W.setCell ⟨gT, i * 3 + 2, none⟩ (.int .i64 y)) g l a s v0 v1 v2 R (T.set i ⟨(T.getD i z48).f0, (T.getD i z48).f1, y⟩) N) ∧
  (∀ (W2 : World) (x : Value) (p : List Int), W.grownBy W2 (Value.slice Ap (T.getD i z48).f1.length cp).ownBlock → (Kd.int .i64).R 3 W2 w.heap.size (fun k => oki k ∨ W.heap.size ≤ k) x p → Sp w0 w (W2.setCell ⟨gT, i * 3 + 1, none⟩ x) g l a s v0 v1 v2 R (T.set i ⟨(T.getD i z48).f0, p, (T.getD i z48).f2⟩) N) := by
 obtain ⟨gT, cT, rfl, hgb, hgl, cl, hcl⟩ := Kd.S_form h.s1 (by omega)
 obtain ⟨oki, c, hc, hM, hcc, hok, hH⟩ := Kd.S_lend h.s1 z48 (i : Int) (by omega) (by omega)
 rw [Int.toNat_natCast] at hM hcc
 obtain ⟨v, rfl, hv⟩ := k48_openM hM
 obtain ⟨Ap, cp, rfl⟩ := Kd.R_slice hv
 have hgo := h.s1.choose_spec.1 gT (by simp [Value.ownBlock])
 have e0 : (Value.slice (some (⟨gT, 0, none⟩ : Addr)) T.length cT).ownBlock = some gT := by simp [Value.ownBlock]
 have l0 := Kd.R_lt h.r0
 have l2 := Kd.R_lt h.r2
 -- a store into a field, the element being given back
 have back : ∀ (Wx : World) (j : Nat) (u : Value) (t' : S48) (okp : Nat → Prop), Wx.heap.size ≥ W.heap.size → IsS67 w0 Wx g l a s → Below w0.heap.size w0 Wx → KeepBut w Wx g none → Wx.heap[w.heap.size]? = W.heap[w.heap.size]? → Wx.heap[w.heap.size + 1]? = W.heap[w.heap.size + 1]? →
   Kd.R (Kd.int .i64) 3 Wx w.heap.size (fun k => w.heap.size + 2 ≤ k ∧ some k ≠ v2.ownBlock ∧ some k ≠ (Value.slice (some (⟨gT, 0, none⟩ : Addr)) T.length cT).ownBlock) v0 R → Kd.R (Kd.int .i64) 3 Wx w.heap.size (fun k => w.heap.size + 2 ≤ k ∧ some k ≠ v0.ownBlock ∧ some k ≠ (Value.slice (some (⟨gT, 0, none⟩ : Addr)) T.length cT).ownBlock) v2 N →
   Kd.H k48 48 Wx w.heap.size (fun k => w.heap.size + 2 ≤ k ∧ some k ≠ v0.ownBlock ∧ some k ≠ v2.ownBlock) (.slice (some ⟨gT, 0, none⟩) T.length cT) T (i : Int) okp [.int .i64 (T.getD i z48).f0, .slice Ap (T.getD i z48).f1.length cp, .int .i64 (T.getD i z48).f2] →
   j + 1 ≤ 3 → u.oneCell' = true → k48.M Wx w.heap.size okp t' ([.int .i64 (T.getD i z48).f0, .slice Ap (T.getD i z48).f1.length cp, .int .i64 (T.getD i z48).f2].take j ++ [u] ++ ([.int .i64 (T.getD i z48).f0, .slice Ap (T.getD i z48).f1.length cp, .int .i64 (T.getD i z48).f2] : List Value).drop (j + 1)) → (∀ k, okp k → k ≠ gT) →
   Sp w0 w (Wx.setCell ⟨gT, i * 3 + j, none⟩ u) g l a s v0 (.slice (some ⟨gT, 0, none⟩) T.length cT) v2 R (T.set i t') N := by
  intro Wx j u t' okp hsz hI hB hK hb1 hb2 hr0 hr2 hh hj hu hm hne
  obtain ⟨h2, h3⟩ := Kd.H_seg hh (by omega) (by omega) (seg := [u]) (j := j) (show j + 1 ≤ 3 from hj) (by simpa using hu)
  have hset : Wx.setCells gT ((i : Int).toNat * k48.sz + j) [u] = Wx.setCell ⟨gT, i * 3 + j, none⟩ u := by
   rw [Int.toNat_natCast]; rfl
  rw [hset] at h2 h3
  have h4 := Kd.H_back h2 (Kd.M_step hm (fun k hk hlt => h3.block k hlt (fun e => hne k hk (by injection e)))) (fun k hk => hk)
  rw [Int.toNat_natCast] at h4
  obtain ⟨q1, q2, q3⟩ := own_step hI hB hK h.h0 h.gl h3 (fun k hk => by injection hk; omega)
  refine ⟨q1, q2, q3, h.h0, (h3.block _ (by have := blk_lt h.bx; omega) (fun e => by injection e; omega)).trans (hb1.trans h.bx), (h3.block _ (by have := blk_lt h.br; omega) (fun e => by injection e; omega)).trans (hb2.trans h.br), h.gl, ?_, h4, ?_⟩
  ·exact Kd.R_grown hr0 h3 (fun k hk => by rw [← e0]; exact hk.2.2)
  ·exact Kd.R_grown hr2 h3 (fun k hk => by rw [← e0]; exact hk.2.2)
 refine ⟨gT, cT, Ap, cp, oki, rfl, hgo.1, hgl, hok, ⟨hcc 0 _ rfl, hcc 1 _ rfl, hcc 2 _ rfl⟩, ⟨blk_frozen hcl _, blk_frozen hcl _, blk_frozen hcl _⟩, hv, fun y => ?_, fun y => ?_, fun W2 x p hg hx => ?_⟩
 ·exact back W 0 (.int .i64 y) ⟨y, _, _⟩ oki (Nat.le_refl _) h.hI h.hB h.hK rfl rfl h.r0 h.r2 hH (by omega) rfl (k48_mkM _ _ _ ⟨y, _, _⟩ hv) (fun k hk => (hok k hk).2)
 ·exact back W 2 (.int .i64 y) ⟨_, _, y⟩ oki (Nat.le_refl _) h.hI h.hB h.hK rfl rfl h.r0 h.r2 hH (by omega) rfl (k48_mkM _ _ _ ⟨_, _, y⟩ hv) (fun k hk => (hok k hk).2)
 ·have hpo := hv.1
  have hp2 : ∀ k, (Value.slice Ap (T.getD i z48).f1.length cp).ownBlock = some k → (w.heap.size + 2 ≤ k ∧ some k ≠ v0.ownBlock ∧ some k ≠ v2.ownBlock) ∧ k ≠ gT := fun k hk => hok k (hpo k hk)
  obtain ⟨q1, q2, q3⟩ := own_step h.hI h.hB h.hK h.h0 h.gl hg (fun k hk => by have := (hp2 k hk).1.1; omega)
  have hH2 := Kd.H_grown (Kd.H_widen hH) hg (fun k hk => .inl (hpo k hk))
  have hx2 : (Kd.int .i64).R 3 W2 w.heap.size (fun k => oki k ∨ (w.heap.size + 2 ≤ k ∧ some k ≠ v0.ownBlock ∧ some k ≠ v2.ownBlock) ∧ W.heap.size ≤ k) x p :=
   Kd.R_mono hx (fun k hk => hk.imp (fun q => q) (fun q => ⟨⟨by have := h.le; omega, fun e => by have := l0 k e.symm; omega, fun e => by have := l2 k e.symm; omega⟩, q⟩))
  obtain ⟨Ax, cx, rfl⟩ := Kd.R_slice hx2
  refine back W2 1 (.slice Ax p.length cx) ⟨_, p, _⟩ _ hg.size q1 q2 q3 (hg.block _ (blk_lt h.bx) (fun e => by have := (hp2 _ e.symm).1.1; omega)) (hg.block _ (blk_lt h.br) (fun e => by have := (hp2 _ e.symm).1.1; omega)) ?_ ?_ hH2 (by omega) rfl (k48_mkM _ _ _ ⟨_, p, _⟩ hx2) (fun k hk => hk.elim (fun q => (hok k q).2) (fun q => by omega))
  ·exact Kd.R_mono (Kd.R_step (Kd.R_reok rfl h.r0 (ok := fun k => (w.heap.size + 2 ≤ k ∧ some k ≠ v2.ownBlock ∧ some k ≠ (Value.slice (some (⟨gT, 0, none⟩ : Addr)) T.length cT).ownBlock) ∧ some k ≠ (Value.slice Ap (T.getD i z48).f1.length cp).ownBlock) (fun k hk => ⟨h.r0.1 k hk, fun e => by have := (hp2 k e.symm).1.2.1; exact this (by rw [hk])⟩)) (fun k hk hlt => hg.block k hlt hk.2)) (fun k hk => hk.1)
  ·exact Kd.R_mono (Kd.R_step (Kd.R_reok rfl h.r2 (ok := fun k => (w.heap.size + 2 ≤ k ∧ some k ≠ v0.ownBlock ∧ some k ≠ (Value.slice (some (⟨gT, 0, none⟩ : Addr)) T.length cT).ownBlock) ∧ some k ≠ (Value.slice Ap (T.getD i z48).f1.length cp).ownBlock) (fun k hk => ⟨h.r2.1 k hk, fun e => by have := (hp2 k e.symm).1.2.2; exact this (by rw [hk])⟩)) (fun k hk hlt => hg.block k hlt hk.2)) (fun k hk => hk.1)
end
theorem getD_set' (T : List S48) {i : Nat} (h : i < T.length) (t : S48) : (T.set i t).getD i z48 = t := by
 rw [List.getD_eq_getElem?_getD, List.getElem?_set_self h]; rfl
theorem set_same (T : List S48) {i : Nat} (h : i < T.length) : T.set i ⟨(T.getD i z48).f0, (T.getD i z48).f1, (T.getD i z48).f2⟩ = T := by
 have e : (⟨(T.getD i z48).f0, (T.getD i z48).f1, (T.getD i z48).f2⟩ : S48) = T[i] := by
  rw [List.getD_eq_getElem?_getD, List.getElem?_eq_getElem h]; rfl
 rw [e, List.set_getElem_self]
/-- A slice of constants. -/
theorem lit2 {P : Program} {ops : Array Oper} {rest : List Oper} {o : Oper} {a : Act} {Q : Exit → Act → World → Prop} {W : World} (hgd : o.guard = none) {M : Tmp} (_hd : o.dst = some M) {cs : Array Value} {n : Nat} {t : TypeId}
  (hrun : (execOp a.eval o).run P W = .ok (.value (.slice (some ⟨W.heap.size, 0, none⟩) n n)) (W.alloc (.cells cs t (0, 0))))
  (h : ∀ gg w1, gg = W.heap.size → w1.heap[gg]? = some (.cells cs t (0, 0)) → Below W.heap.size W w1 → wpList P ops Q rest (a.put o.dst (.slice (some ⟨gg, 0, none⟩) n n)) w1) : wpList P ops Q (o :: rest) a W :=
 Kd.event_run hgd hrun (h _ _ rfl (heap_alloc_new W _) (below_alloc (Below.refl _ _) _))
/-- The answer is laid into its box. -/
theorem Sn.done {w0 w W wE : World} {g : Nat} {l : List Int} {a s : Int} {v0 v1 v2 : Value} {R : List Int} {T : List S48} {N : List Int} (h : Sn w0 w W g l a s v0 v1 v2 R T N) (hg : W.grownBy wE (some (w.heap.size + 1))) :
  Kd.R (Kd.int .i64) 3 wE w.heap.size (fun k_ => some k_ ≠ v2.ownBlock) v0 R ∧ Kd.N k48 48 wE w.heap.size (fun k_ => w.heap.size ≤ k_ ∧ some k_ ≠ v0.ownBlock ∧ some k_ ≠ v2.ownBlock) v1 T ∧ Kd.R (Kd.int .i64) 3 wE w.heap.size (fun k_ => some k_ ≠ v0.ownBlock) v2 N ∧ IsS67 w0 wE g l a s ∧ Below w0.heap.size w0 wE ∧ KeepBut w wE g none := by
 obtain ⟨p1, p2, p3⟩ := own_step h.hI h.hB h.hK h.h0 h.gl hg (fun k hk => by injection hk; omega)
 exact ⟨Kd.R_mono (Kd.R_grown h.r0 hg (fun k hk e => by injection e; have := hk.1; omega)) (fun k hk => hk.2), Kd.N_mono (Kd.N_grown h.n1 hg (fun k hk e => by injection e; have := hk.1; omega)) (fun k hk => ⟨by have := hk.1; omega, hk.2⟩), Kd.R_mono (Kd.R_grown h.r2 hg (fun k hk e => by injection e; have := hk.1; omega)) (fun k hk => hk.2), p1, p2, p3⟩
end Go.Proofs.YtkcocomehhlpmaaDoor.Sq
