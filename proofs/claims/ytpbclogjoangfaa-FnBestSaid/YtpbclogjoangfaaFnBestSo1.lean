/- The program's Solve: what lies in memory while it goes on. -/
import Derived.Test.YtpbclogjoangfaaFnBestSo0
import Derived.Test.YtpbclogjoangfaaFnBestAlk
namespace Go.Proofs.Ytpbclogjoangfaa.So
open Go.RowKit Go.Maps Go.Proofs.YtpbclogjoangfaaW.PrintWords Go.Proofs.YtpbclogjoangfaaW.PrintLast Go.Proofs.YtpbclogjoangfaaW.PrintMore Go.Proofs.Ytpbclogjoangfaa.Q Go.Proofs.Ytpbclogjoangfaa.Pu Go.Proofs.Ytpbclogjoangfaa.Sr Go.Proofs.Ytpbclogjoangfaa.Sp Go.Proofs.Ytpbclogjoangfaa.Al
set_option linter.unusedVariables false
set_option linter.unusedSimpArgs false
theorem grown_row {W : World} {g t : Nat} {c c' : Array Value} (hb : W.heap[g]? = some (.cells c t (0, 0))) : (W.setRow g c').heap[g]? = some (.cells c' t (0, 0)) ∧ W.grownBy (W.setRow g c') (some g) :=
 ⟨setRow_heap W g c c' t (0, 0) hb, ⟨rfl, rfl, rfl, by simp, fun i hi hn => setRow_other W g i c' (fun e => hn (by rw [e]))⟩⟩
/-- A whole struct or array is written. -/
theorem row_event {P : Program} {ops : Array Oper} {Q : Exit → Act → World → Prop} {o : Oper} {rest : List Oper} {a : Act} {W : World} (hgd : o.guard = none) (ty : TypeId) (x y : Operand) (ho : o.op = .store ty x y) (hN : o.dst = none) (g : Nat) (hx : a.eval x = .pointer (some ⟨g, 0, none⟩)) {c c' : Array Value} {t : Nat}
  (hy : a.eval y = .agg c') (hb : W.heap[g]? = some (.cells c t (0, 0))) (hi : (P.info? ty).map (·.size) = some c'.size) (hc : c.size = c'.size) (h1 : c'.all (·.oneCell') = true)
  (h : ∀ w', w'.heap[g]? = some (.cells c' t (0, 0)) → W.grownBy w' (some g) → wpList P ops Q rest a w') : wpList P ops Q (o :: rest) a W := by
 refine wpList_plain hgd fun K hK => ?_
 unfold Oper.wp
 have hr : (execOp a.eval o).run P W = .ok .skip (W.setRow g c') := by
  simp only [execOp, ho, hx, hy, Instr.storeAt, Instr.sureAddr, Sem.run_bind, Sem.run_pure, Result.andThen_ok, run_storeVar_row W g t ty c c' hb hi hc h1]
 rw [hr]
 show K (a.put o.dst undef) _
 rw [hN]
 obtain ⟨h2, h3⟩ := grown_row (c' := c') hb
 exact hK _ _ (h _ h2 h3)
theorem info41 : (Try.prog.info? 41).map (·.size) = some 3 := by kernel_rfl
/-- While Solve goes on. -/
structure Lp (w1 : World) (gs b kb gB n0 : Nat) (A0 : Option Addr) (c0 : Nat) (l0 : List Int) (A1 : Option Addr) (c1 : Nat) (l1 : List S35) (A2 : Option Addr) (c2 : Nat) (l2 : List Int) (cv : Int) (W : World) (v : List Nat) (mv : Value) (xs : List Int) : Prop where
 st : St w1 W gs A0 c0 l0 A1 c1 l1 A2 c2 l2 b
 me : ∃ D, Memo W b l0 l1 D
 kB : W.heap[kb]? = some (.cells (arrV v) 74 (0, 0))
 gb : W.heap[gB]? = some (.cells #[.bool true, .int .i64 cv, mv] 41 (0, 0))
 mr : Kd.R (Kd.int .i64) 3 W w1.heap.size (fun k => n0 ≤ k) mv xs
 sz : n0 ≤ W.heap.size
 lt : gs < n0 ∧ b < n0 ∧ kb < n0 ∧ gB < n0 ∧ w1.heap.size ≤ kb ∧ w1.heap.size ≤ gB ∧ w1.heap.size ≤ n0
section
variable {w1 : World} {gs b kb gB n0 : Nat} {A0 : Option Addr} {c0 : Nat} {l0 : List Int} {A1 : Option Addr} {c1 : Nat} {l1 : List S35} {A2 : Option Addr} {c2 : Nat} {l2 : List Int} {cv : Int} {W W' : World} {v v' : List Nat} {mv mv' : Value} {xs xs' : List Int}
theorem Lp.best (h : Lp w1 gs b kb gB n0 A0 c0 l0 A1 c1 l1 A2 c2 l2 cv W v mv xs) (hg : W.grownBy W' (some b)) (hm : ∃ D, Memo W' b l0 l1 D) : Lp w1 gs b kb gB n0 A0 c0 l0 A1 c1 l1 A2 c2 l2 cv W' v mv xs := by
 obtain ⟨D, hd⟩ := h.me
 exact ⟨h.st.grown hd hg, hm, blk_grown h.kB hg (fun e => hd.ne h.kB (by injection e)), blk_grown h.gb hg (fun e => hd.ne h.gb (by injection e)), Kd.R_grown h.mr hg (fun k hk e => by injection e with e; have := h.lt; omega), Nat.le_trans h.sz hg.size, h.lt⟩
theorem Lp.below (h : Lp w1 gs b kb gB n0 A0 c0 l0 A1 c1 l1 A2 c2 l2 cv W v mv xs) (hb : Below W.heap.size W W') : Lp w1 gs b kb gB n0 A0 c0 l0 A1 c1 l1 A2 c2 l2 cv W' v mv xs := by
 obtain ⟨D, hd⟩ := h.me
 exact h.best (grown_below hb _) ⟨D, hd.kept (grown_below hb none) (by simp)⟩
/-- A position is laid down. -/
theorem Lp.pos (h : Lp w1 gs b kb gB n0 A0 c0 l0 A1 c1 l1 A2 c2 l2 cv W v mv xs) (hg : W.grownBy W' (some kb)) (hk : W'.heap[kb]? = some (.cells (arrV v') 74 (0, 0))) : Lp w1 gs b kb gB n0 A0 c0 l0 A1 c1 l1 A2 c2 l2 cv W' v' mv xs := by
 obtain ⟨D, hd⟩ := h.me
 have hl := h.lt
 have n1 : some gs ≠ some kb := fun e => blk_ne h.st.blk h.kB (by decide) (by injection e)
 have n2 : some gB ≠ some kb := fun e => blk_ne h.gb h.kB (by decide) (by injection e)
 exact ⟨⟨blk_grown h.st.blk hg n1, h.st.low.grown hg h.st.low.size (fun k hk => by injection hk with hk; omega), h.st.gl, h.st.bl, h.st.r0, h.st.h0, h.st.r1, h.st.h1, h.st.r2, h.st.h2⟩, ⟨D, hd.kept hg (fun e => hd.ne h.kB (by injection e with e; exact e.symm))⟩, hk, blk_grown h.gb hg n2, Kd.R_grown h.mr hg (fun k hk e => by injection e with e; omega), Nat.le_trans h.sz hg.size, h.lt⟩
/-- A move is added to the row, in place or elsewhere; not yet laid down in the struct. -/
theorem Lp.row (h : Lp w1 gs b kb gB n0 A0 c0 l0 A1 c1 l1 A2 c2 l2 cv W v mv xs) (hg : W.grownBy W' mv.ownBlock) : St w1 W' gs A0 c0 l0 A1 c1 l1 A2 c2 l2 b ∧ (∃ D, Memo W' b l0 l1 D) ∧ W'.heap[kb]? = some (.cells (arrV v) 74 (0, 0)) ∧ W'.heap[gB]? = some (.cells #[.bool true, .int .i64 cv, mv] 41 (0, 0)) ∧ n0 ≤ W'.heap.size := by
 obtain ⟨D, hd⟩ := h.me
 have hl := h.lt
 have ho : ∀ k, mv.ownBlock = some k → n0 ≤ k := fun k hk => h.mr.1 k hk
 have hne : ∀ k, k < n0 → some k ≠ mv.ownBlock := fun k hk e => by have := ho k e.symm; omega
 exact ⟨St.far h.st hg (n := n0) (by omega) (by omega) ho, ⟨D, hd.kept hg (hne b (by omega))⟩, blk_grown h.kB hg (hne kb (by omega)), blk_grown h.gb hg (hne gB (by omega)), Nat.le_trans h.sz hg.size⟩
/-- The row is laid down in the struct. -/
theorem Lp.lay (hl : gs < n0 ∧ b < n0 ∧ kb < n0 ∧ gB < n0 ∧ w1.heap.size ≤ kb ∧ w1.heap.size ≤ gB ∧ w1.heap.size ≤ n0) (hst : St w1 W gs A0 c0 l0 A1 c1 l1 A2 c2 l2 b) (hme : ∃ D, Memo W b l0 l1 D) (hk : W.heap[kb]? = some (.cells (arrV v) 74 (0, 0))) (hb : W.heap[gB]? = some (.cells #[.bool true, .int .i64 cv, mv] 41 (0, 0))) (hs : n0 ≤ W.heap.size)
  (hm : Kd.R (Kd.int .i64) 3 W w1.heap.size (fun k => n0 ≤ k) mv' xs') : Lp w1 gs b kb gB n0 A0 c0 l0 A1 c1 l1 A2 c2 l2 cv (W.setCell ⟨gB, 2, none⟩ mv') v mv' xs' := by
 obtain ⟨D, hd⟩ := hme
 have n1 : gs ≠ gB := blk_ne hst.blk hb (by decide)
 have n2 : kb ≠ gB := blk_ne hk hb (by decide)
 have n3 : b ≠ gB := fun e => hd.ne hb e.symm
 have hlt := blk_lt hb
 exact ⟨⟨blk_far hst.blk (p := ⟨gB, 2, none⟩) n1 _, below_set hst.low hl.2.2.2.2.2.1, hst.gl, hst.bl, hst.r0, hst.h0, hst.r1, hst.h1, hst.r2, hst.h2⟩, ⟨D, ⟨hd.own.setCell (a := ⟨gB, 2, none⟩) n3 _, hd.cnt, hd.val⟩⟩, blk_far hk (p := ⟨gB, 2, none⟩) n2 _, blk_put hb 2 _ rfl, Kd.R_far (p := ⟨gB, 2, none⟩) hm (fun k hk e => by dsimp only at e; omega) _, by simpa using hs, hl⟩
end
end Go.Proofs.Ytpbclogjoangfaa.So
