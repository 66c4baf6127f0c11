-- Written by programs of this session (wip/drv.py, wip/mkclaim.py) over the kit's print; not trusted: Lean checks it.
import Derived.Test.YtckkppehfpjbpaaFnRingQ0
import Derived.Test.YtckkppehfpjbpaaFnRingQ2
import Derived.Test.YtckkppehfpjbpaaFnRingQ3
namespace Go.Proofs.Ytckkppehfpjbpaa.Q
open Go.RowKit Go.Proofs.YtckkppehfpjbpaaW.PrintWords Go.Proofs.YtckkppehfpjbpaaW.PrintLast Go.Proofs.YtckkppehfpjbpaaW.PrintMore
attribute [local go_sem] max2_int min2_int max_two min_two max_three min_three max_four min_four   -- for this text's walks alone
set_option linter.unusedVariables false
set_option linter.unusedSimpArgs false

/-! ### spec_l1copy: function 55 -/
def spec_l1copy.l0 : Nat → List (S40) → Int → Int → List Int → List (S40) → List Int → Option (List Int × (List (S40)) × List Int)
 | 0, _, _, _, _, _, _ => none
 | k + 1, x20, x21, x22, x365000, x365001, x365002 => if x22 < x21 then (if 0 ≤ x22 then (if x22 < (x20.length : Int) then ((some (([] : List Int) : List Int)).bind fun y374 => (if y374.length + ((rd_T40 x20 x22).f1).length < 17592186044416 then (if x365001.length < 3518437208883 then (spec_l1copy.l0 k x20 x21 (wrap64 (x22 + 1)) x365000 (x365001 ++ [(⟨(rd_T40 x20 x22).f0, (y374 ++ ((rd_T40 x20 x22).f1)), (rd_T40 x20 x22).f2⟩ : S40)]) x365002) else (none)) else (none))) else (none)) else (none)) else (some (x365000, x365001, x365002))
def spec_l1copy.f (k : Nat) (l0_0 : List Int) (l0_1 : List (S40)) (l0_2 : List Int) : Option (List Int × (List (S40)) × List Int) := if ([] : List Int).length + l0_0.length < 17592186044416 then (if ([] : List Int).length + l0_2.length < 17592186044416 then (spec_l1copy.l0 k l0_1 (l0_1.length : Int) 0 (([] : List Int) ++ l0_0) ([] : List (S40)) (([] : List Int) ++ l0_2)) else (none)) else (none)
theorem spec_l1copy.mono_l : ∀ k, (∀ y0 y1 y2 y3 y4 y5, LeO (spec_l1copy.l0 k y0 y1 y2 y3 y4 y5) (spec_l1copy.l0 (k + 1) y0 y1 y2 y3 y4 y5))
 | 0 => fun _ _ _ _ _ _ r h => by simp [spec_l1copy.l0] at h
 | k + 1 => by
  have ih0 := spec_l1copy.mono_l k
  ·intro y0 y1 y2 y3 y4 y5
   unfold spec_l1copy.l0
   repeat' first
   | (with_reducible exact ih0 _ _ _ _ _ _)
   | (with_reducible exact LeO.refl _)
   | (with_reducible exact LeO.none _)
   | (with_reducible refine LeO.ite ?_ ?_)
   | (with_reducible refine LeO.bind ?_ (fun _ => ?_))
   | exact ih0 _ _ _ _ _ _
   | exact LeO.none _
   | refine LeO.ite ?_ ?_
   | refine LeO.bind ?_ (fun _ => ?_)
theorem spec_l1copy.mono : ∀ a0 a1 a2 k, LeO (spec_l1copy.f k a0 a1 a2) (spec_l1copy.f (k + 1) a0 a1 a2) := by
 intro a0 a1 a2 k
 have ih0 := spec_l1copy.mono_l k
 unfold spec_l1copy.f
 repeat' first
   | (with_reducible exact ih0 _ _ _ _ _ _)
   | (with_reducible exact LeO.refl _)
   | (with_reducible exact LeO.none _)
   | (with_reducible refine LeO.ite ?_ ?_)
   | (with_reducible refine LeO.bind ?_ (fun _ => ?_))
   | exact ih0 _ _ _ _ _ _
   | exact LeO.none _
   | refine LeO.ite ?_ ?_
   | refine LeO.bind ?_ (fun _ => ?_)
/-- What the copy tells: the state itself, and that its rows are not too long. -/
theorem spec_l1copy.loop_ : ∀ (k : Nat) (T : List S40) (i : Nat) (R : List Int) (U : List S40) (N : List Int) (r : List Int × List S40 × List Int), i ≤ T.length → T.length ≤ 9223372036854775807 → spec_l1copy.l0 k T (T.length : Int) (i : Int) R U N = some r → r = (R, U ++ T.drop i, N) ∧ (∀ t ∈ T.drop i, t.f1.length < 17592186044416) ∧ (i < T.length → U.length + (T.length - i) ≤ 3518437208883)
 | 0, _, _, _, _, _, _, _, _, h => by simp [spec_l1copy.l0] at h
 | k + 1, T, i, R, U, N, r, hi, hT, h => by
  simp only [spec_l1copy.l0] at h
  by_cases c : (i : Int) < (T.length : Int)
  ·have hl : i < T.length := by omega
   rw [if_pos c, if_pos (by omega), if_pos c, Option.bind_some] at h
   by_cases c1 : ([] : List Int).length + (rd_T40 T (i : Int)).f1.length < 17592186044416
   ·rw [if_pos c1] at h
    by_cases c2 : U.length < 3518437208883
    ·rw [if_pos c2, show wrap64 ((i : Int) + 1) = ((i + 1 : Nat) : Int) from by unfold wrap64; omega] at h
     have e : rd_T40 T (i : Int) = T[i] := by unfold rd_T40; simp [List.getD, hl]
     rw [e, List.nil_append] at h
     obtain ⟨h1, h2, h3⟩ := spec_l1copy.loop_ k T (i + 1) R _ N r hl hT h
     rw [List.append_assoc, List.singleton_append] at h1
     rw [List.drop_eq_getElem_cons hl]
     refine ⟨h1, fun t ht => ?_, fun _ => ?_⟩
     ·rcases List.mem_cons.1 ht with rfl | ht
      ·rw [e] at c1; simpa using c1
      ·exact h2 t ht
     ·by_cases hq : i + 1 < T.length
      ·have := h3 hq; rw [List.length_append] at this; simp only [List.length_singleton] at this; omega
      ·omega
    ·rw [if_neg c2] at h; exact absurd h (by simp)
   ·rw [if_neg c1] at h; exact absurd h (by simp)
  ·rw [if_neg c] at h
   injection h with h
   rw [← h, List.drop_eq_nil_of_le (by omega)]
   exact ⟨by simp, by simp, fun q => by omega⟩
theorem spec_l1copy.tells_ {k : Nat} {R : List Int} {T : List S40} {N : List Int} {r : List Int × List S40 × List Int} (hT : T.length ≤ 9223372036854775807) (h : spec_l1copy.f k R T N = some r) : r = (R, T, N) ∧ R.length < 17592186044416 ∧ N.length < 17592186044416 ∧ (∀ t ∈ T, t.f1.length < 17592186044416) ∧ T.length ≤ 3518437208883 := by
 unfold spec_l1copy.f at h
 by_cases c1 : ([] : List Int).length + R.length < 17592186044416
 ·rw [if_pos c1] at h
  by_cases c2 : ([] : List Int).length + N.length < 17592186044416
  ·rw [if_pos c2, List.nil_append, List.nil_append] at h
   obtain ⟨h1, h2, h3⟩ := spec_l1copy.loop_ k T 0 R [] N r (Nat.zero_le _) hT h
   refine ⟨by simpa using h1, by simpa using c1, by simpa using c2, by simpa using h2, ?_⟩
   rcases Nat.eq_zero_or_pos T.length with e | e
   ·omega
   ·have := h3 e; simp only [List.length_nil] at this; omega
  ·rw [if_neg c2] at h; exact absurd h (by simp)
 ·rw [if_neg c1] at h; exact absurd h (by simp)
theorem spec_l1copy.row_wr_ {P : Program} {ops : Array Oper} {Q : Exit → Act → World → Prop} {o : Oper} {rest : List Oper} {a : Act} {W : World} (hgd : o.guard = none) (ty : TypeId) (x y : Operand) (ho : o.op = .store ty x y) (hN : o.dst = none) (g : Nat) (hx : a.eval x = .pointer (some ⟨g, 0, none⟩)) {c c' : Array Value} {t : Nat}
  (hy : a.eval y = .agg c') (hb : W.heap[g]? = some (.cells c t (0, 0))) (hi : (P.info? ty).map (·.size) = some c'.size) (hc : c.size = c'.size) (h1 : c'.all (·.oneCell') = true)
  (h : ∀ w', w'.heap[g]? = some (.cells c' t (0, 0)) → W.grownBy w' (some g) → wpList P ops Q rest a w') : wpList P ops Q (o :: rest) a W := by
 refine wpList_plain hgd fun K hK => ?_
 unfold Oper.wp
 have hr : (execOp a.eval o).run P W = .ok .skip (W.setRow g c') := by
  simp only [execOp, ho, hx, hy, Instr.storeAt, Instr.sureAddr, Sem.run_bind, Sem.run_pure, Result.andThen_ok, run_storeVar_row W g t ty c c' hb hi hc h1]
 rw [hr]
 show K (a.put o.dst undef) _
 rw [hN]
 exact hK _ _ (h _ (setRow_heap W g c c' t (0, 0) hb) ⟨rfl, rfl, rfl, by simp, fun i hi hn => setRow_other W g i c' (fun e => hn (by rw [e]))⟩)
section
variable {P : Program} {ops : Array Oper} {Q : Exit → Act → World → Prop} {S : World → Prop} {ds : List Nat}
/-- Number i, which yields in every world, comes up first. -/
theorem spec_l1copy.np_ {fuel : Nat} {l : Array Bool} {a a' : Act} {w : World} (i N : Nat) {oi : Oper} {v : Value} (hi : ops[i]? = some oi) (hN : oi.dst = some N) (hc : anyB .any ops l (l.setIfInBounds i true) i = true) (hQ : ∀ c a w, Q (.panic c) (a.put oi.dst v) w → Q (.panic c) a w)
  (hw : Region.wanted oi (yielded ops a.tmps) = true) (hv : ∀ w', (execOp a.eval oi).run P w' = .ok (.value v) w') (ha : a.put (some N) v = a') (h : wpAnyLast P .any ops Q S ds fuel (l.setIfInBounds i true) a' w) : wpAnyLast P .any ops Q S ds (fuel + 1) l a w :=
 pure_ _ hi hN hc hQ (.inl ⟨hw, hv⟩) ha h
/-- Number i, which yields wherever S holds (a load). -/
theorem spec_l1copy.nt_ {fuel : Nat} {l : Array Bool} {a a' : Act} {w : World} (hS : S w) (i N : Nat) {oi : Oper} {v : Value} (hi : ops[i]? = some oi) (hN : oi.dst = some N) (hc : takeB .any ops ds l (l.setIfInBounds i true) i = true) (hQ : ∀ c a w, Q (.panic c) (a.put oi.dst v) w → Q (.panic c) a w)
  (hw : Region.wanted oi (yielded ops a.tmps) = true) (hv : ∀ w', S w' → (execOp a.eval oi).run P w' = .ok (.value v) w') (ha : a.put (some N) v = a') (h : wpAnyLast P .any ops Q S ds fuel (l.setIfInBounds i true) a' w) : wpAnyLast P .any ops Q S ds (fuel + 1) l a w :=
 take_ _ hi hN hc hQ (.inl ⟨hw, hv⟩) hS ha h
/-- The region's last operation, a store, and out. -/
theorem spec_l1copy.nl_ {fuel : Nat} {l : Array Bool} {a : Act} {w : World} (i : Nat) (w1 : World) {oi : Oper} (hi : ops[i]? = some oi) (hN : oi.dst = none) (hc : readyB .any ops l (l.setIfInBounds i true) i = true) (hd : i ∈ ds) (hw : Region.wanted oi (yielded ops a.tmps) = true) (hr : (Region.ready .any ops (l.setIfInBounds i true) == []) = true)
  (hrun : (execOp a.eval oi).run P w = .ok .skip w1) (h : Q .normal a w1) : wpAnyLast P .any ops Q S ds (fuel + 1) l a w := by
 refine last_ (N := none) _ hi hN hc hd (fun K hK => ?_)
 refine skip_ hw hN hrun ?_
 exact hK.out _ _ (done_ hr h)
/-- An operation that comes up alone (a call, an append): S is shown behind it. -/
theorem spec_l1copy.no_ {fuel : Nat} {l : Array Bool} {a : Act} {w : World} (i N : Nat) {oi : Oper} (hi : ops[i]? = some oi) (hN : oi.dst = some N) (hc : readyB .any ops l (l.setIfInBounds i true) i = true) (hd : i ∉ ds)
  (h : ∀ K : Act → World → Prop, (∀ a' w', S w' → (S w' → wpAnyLast P .any ops Q S ds fuel (l.setIfInBounds i true) a' w') → K a' w') → if Region.wanted oi (yielded ops a.tmps) = true then Oper.wp P oi a w K Q else K (a.put (some N) undef) w) : wpAnyLast P .any ops Q S ds (fuel + 1) l a w :=
 one_ _ hi hN hc hd (fun K hK => h K hK.out)
theorem spec_l1copy.AP_ : (∀ (a : Act) (d : Nat) (v : Value), a.put (some d) v = { a with tmps := a.tmps.setIfInBounds d v }) ∧ (∀ (a : Act) (v : Value), a.put none v = a) ∧ (∀ (l : List Value) (i : Nat) (a : Value), l.toArray.setIfInBounds i a = (l.set i a).toArray) ∧ (∀ (x : Value) (l : List Value) (a : Value), (x :: l).set 0 a = a :: l) ∧ (∀ (x : Value) (l : List Value) (i : Nat) (a : Value), (x :: l).set (i + 1) a = x :: l.set i a) := ⟨fun _ _ _ => rfl, fun _ _ => rfl, fun l i a => List.setIfInBounds_toArray l i a, fun _ _ _ => rfl, fun _ _ _ _ => rfl⟩
end
theorem spec_l1copy.info26_ : (Try.prog.info? 30).map (·.size) = some 3 := by kernel_rfl
/-- A copy while it is made: its own struct at gO; the rooms' and the names' rows in blocks below n, the trains' in blocks from n on. -/
structure spec_l1copy.Cp (w wr : World) (gR gO n : Nat) (v0 u v2 : Value) (R : List Int) (U : List S40) (N : List Int) : Prop where
 bo : wr.heap[gO]? = some (.cells #[v0, u, v2] 30 (0, 0))
 r0 : Kd.R (Kd.int .i64) 3 wr w.heap.size (fun k => some k ≠ v2.ownBlock ∧ gO < k ∧ k < n) v0 R
 r2 : Kd.R (Kd.int .i64) 3 wr w.heap.size (fun k => some k ≠ v0.ownBlock ∧ gO < k ∧ k < n) v2 N
 s1 : Kd.S k40 40 wr w.heap.size (fun k => n ≤ k) u U
 hB : Below w.heap.size w wr
 hn : gO < n ∧ n ≤ wr.heap.size ∧ w.heap.size ≤ gO
 br : wr.heap[gR]? = some (.cells #[.slice none 0 0, .slice none 0 0, .slice none 0 0] 30 (0, 0))
 hr : gR < gO ∧ w.heap.size ≤ gR
section
variable {w wr w' : World} {gR gO n : Nat} {v0 u v2 : Value} {R : List Int} {U : List S40} {N : List Int}
theorem spec_l1copy.Cp.below (h : spec_l1copy.Cp w wr gR gO n v0 u v2 R U N) (hb : Below wr.heap.size wr w') : spec_l1copy.Cp w w' gR gO n v0 u v2 R U N :=
 ⟨blk_below h.bo hb, Kd.R_below h.r0 hb, Kd.R_below h.r2 hb, Kd.S_below h.s1 hb, below_step h.hB hb, ⟨h.hn.1, Nat.le_trans h.hn.2.1 hb.size, h.hn.2.2⟩, blk_below h.br hb, h.hr⟩
theorem spec_l1copy.Cp.st {ok : Nat → Prop} (h : spec_l1copy.Cp w wr gR gO n v0 u v2 R U N) (hok : ∀ k, n ≤ k → ok k) : Kd.S k40 40 wr w.heap.size ok u U := Kd.S_mono h.s1 hok
theorem spec_l1copy.Cp.start (h0 : Kd.R (Kd.int .i64) 3 wr w.heap.size (fun k => gO < k) v0 R) (h2 : Kd.R (Kd.int .i64) 3 wr w.heap.size (fun k => n ≤ k) v2 N) (hlt : ∀ k, v0.ownBlock = some k → k < n) (hg : gO < n) (hb : wr.heap[gO]? = some (.cells #[v0, .slice none 0 0, .slice none 0 0] 30 (0, 0))) (hB : Below w.heap.size w wr) (hw : w.heap.size ≤ gO) (br : wr.heap[gR]? = some (.cells #[.slice none 0 0, .slice none 0 0, .slice none 0 0] 30 (0, 0))) (hr : gR < gO ∧ w.heap.size ≤ gR) : spec_l1copy.Cp w (wr.setCell ⟨gO, 2, none⟩ v2) gR gO (wr.setCell ⟨gO, 2, none⟩ v2).heap.size v0 (.slice none 0 0) v2 R [] N := by
 have es : (wr.setCell ⟨gO, 2, none⟩ v2).heap.size = wr.heap.size := by simp
 have l0 := Kd.R_lt h0
 have l2 := Kd.R_lt h2
 have q0 : ∀ k, v0.ownBlock = some k → some k ≠ v2.ownBlock ∧ gO < k ∧ k < (wr.setCell ⟨gO, 2, none⟩ v2).heap.size := fun k e => ⟨fun q => by have := hlt k e; have := h2.1 k q.symm; omega, h0.1 k e, by rw [es]; exact l0 k e⟩
 have q2 : ∀ k, v2.ownBlock = some k → some k ≠ v0.ownBlock ∧ gO < k ∧ k < (wr.setCell ⟨gO, 2, none⟩ v2).heap.size := fun k e => ⟨fun q => by have := hlt k q.symm; have := h2.1 k e; omega, by have := h2.1 k e; omega, by rw [es]; exact l2 k e⟩
 exact ⟨blk_put hb 2 _ rfl, Kd.R_far (p := ⟨gO, 2, none⟩) (Kd.R_reok rfl h0 q0) (fun k hk => by show k ≠ gO; have := hk.2.1; omega) _, Kd.R_far (p := ⟨gO, 2, none⟩) (Kd.R_reok rfl h2 q2) (fun k hk => by show k ≠ gO; have := hk.2.1; omega) _, Kd.S_nil _ _ _ _ _, hB.setCell hw _, ⟨by rw [es]; exact blk_lt hb, Nat.le_refl _, hw⟩, blk_far (p := ⟨gO, 2, none⟩) br (by show gR ≠ gO; omega) _, hr⟩
/-- The struct is laid down anew, its trains' row grown. -/
theorem spec_l1copy.Cp.grow (h : spec_l1copy.Cp w wr gR gO n v0 u v2 R U N) {w1 : World} {u1 : Value} {U1 : List S40} (hg : wr.grownBy w1 u.ownBlock) (hb : Below w.heap.size w w1) (hs : Kd.S k40 40 w1 w.heap.size (fun k => n ≤ k) u1 U1) (z : Value) : spec_l1copy.Cp w (w1.setCell ⟨gO, 1, none⟩ u1) gR gO n v0 u1 v2 R U1 N := by
 have hn := h.hn
 have ho : ∀ k, u.ownBlock = some k → n ≤ k := fun k hk => (Kd.S_R h.s1).1 k hk
 have hne : ∀ k, k < n → some k ≠ u.ownBlock := fun k hk e => by have := ho k e.symm; omega
 have hb1 : w1.heap[gO]? = some (.cells #[v0, u, v2] 30 (0, 0)) := blk_grown h.bo hg (hne gO hn.1)
 refine ⟨blk_put hb1 1 _ rfl, ?_, ?_, Kd.S_far (p := ⟨gO, 1, none⟩) hs (fun k hk => by show k ≠ gO; omega) _, hb.setCell hn.2.2 _, ⟨hn.1, by have := hg.size; simpa using (by omega : n ≤ w1.heap.size), hn.2.2⟩, blk_far (p := ⟨gO, 1, none⟩) (blk_grown h.br hg (hne gR (by have := h.hr; omega))) (by show gR ≠ gO; have := h.hr; omega) _, h.hr⟩
 ·exact Kd.R_far (p := ⟨gO, 1, none⟩) (Kd.R_grown h.r0 hg (fun k hk => hne k hk.2.2)) (fun k hk => by show k ≠ gO; omega) _
 ·exact Kd.R_far (p := ⟨gO, 1, none⟩) (Kd.R_grown h.r2 hg (fun k hk => hne k hk.2.2)) (fun k hk => by show k ≠ gO; omega) _
end
theorem spec_l1copy.info40s : (Try.prog.info? 40).map (·.size) = some 3 := by kernel_rfl
set_option maxHeartbeats 1000000 in
set_option maxRecDepth 100000 in
theorem spec_l1copy.calls (k : Nat) (A0_0 : Option Addr) (c0_0 : Nat) (l0_0 : List Int) (A0_1 : Option Addr) (c0_1 : Nat) (l0_1 : List (S40)) (A0_2 : Option Addr) (c0_2 : Nat) (l0_2 : List Int) (r1 : List Int) (r2 : List (S40)) (r3 : List Int) (w : World) (hr0_0 : Kd.C (Kd.int .i64) w A0_0 l0_0.length l0_0) (hc0_0 : l0_0.length ≤ c0_0) (hr0_1 : Kd.C k40 w A0_1 l0_1.length l0_1) (hc0_1 : l0_1.length ≤ c0_1) (hr0_2 : Kd.C (Kd.int .i64) w A0_2 l0_2.length l0_2) (hc0_2 : l0_2.length ≤ c0_2) (h : spec_l1copy.f k l0_0 l0_1 l0_2 = some (r1, r2, r3)) :
 Calls Try.prog 55 #[.agg #[.slice A0_0 l0_0.length c0_0, .slice A0_1 l0_1.length c0_1, .slice A0_2 l0_2.length c0_2]] w fun e w' => ∃ v0_ v1_ v2_ : Value, e = .returned (.agg #[v0_, v1_, v2_]) ∧ Kd.R (Kd.int .i64) 3 w' w.heap.size (fun k_ => some k_ ≠ (v2_ : Value).ownBlock) v0_ r1 ∧ Kd.S k40 40 w' w.heap.size (fun k_ => some k_ ≠ (v0_ : Value).ownBlock ∧ some k_ ≠ (v2_ : Value).ownBlock) v1_ r2 ∧ Kd.R (Kd.int .i64) 3 w' w.heap.size (fun k_ => some k_ ≠ (v0_ : Value).ownBlock) v2_ r3 ∧ Below w.heap.size w w' := by
 have HR0 := Aside0.mk hr0_0
 have HR1 := Aside0.mk hr0_1
 have HR2 := Aside0.mk hr0_2
 obtain ⟨he, hRl, hNl, hPl, hTl⟩ := spec_l1copy.tells_ hr0_1.2.1 h
 simp only [Prod.mk.injEq] at he
 obtain ⟨ha_, hb_, hc_⟩ := he
 replace ha_ := ha_.symm
 replace hb_ := hb_.symm
 replace hc_ := hc_.symm
 subst ha_ hb_ hc_
 have HP := Aside0.mk hPl
 clear h hr0_0 hr0_1 hr0_2 hPl
 have hu26 := Try.underlying30
 have hu40 := Try.underlying40
 have HBa := Aside0.mk ((((Below.refl w.heap.size w).alloc (Nat.le_refl _) (.cells #[.slice A0_0 l0_0.length c0_0, .slice A0_1 l0_1.length c0_1, .slice A0_2 l0_2.length c0_2] 30)).alloc (by simp) (.cells #[.slice none 0 0, .slice none 0 0, .slice none 0 0] 30)).alloc (by simp; omega) (.cells #[.slice none 0 0, .slice none 0 0, .slice none 0 0] 30))
 have Ba := Aside0.mk (blk_alloc (blk_alloc (heap_alloc_new w (.cells #[.slice A0_0 l0_0.length c0_0, .slice A0_1 l0_1.length c0_1, .slice A0_2 l0_2.length c0_2] 30)) (.cells #[.slice none 0 0, .slice none 0 0, .slice none 0 0] 30)) (.cells #[.slice none 0 0, .slice none 0 0, .slice none 0 0] 30))
 have Bb := Aside0.mk (blk_alloc (heap_alloc_new (w.alloc (.cells #[.slice A0_0 l0_0.length c0_0, .slice A0_1 l0_1.length c0_1, .slice A0_2 l0_2.length c0_2] 30)) (.cells #[.slice none 0 0, .slice none 0 0, .slice none 0 0] 30)) (.cells #[.slice none 0 0, .slice none 0 0, .slice none 0 0] 30))
 have Bc := Aside0.mk (heap_alloc_new ((w.alloc (.cells #[.slice A0_0 l0_0.length c0_0, .slice A0_1 l0_1.length c0_1, .slice A0_2 l0_2.length c0_2] 30)).alloc (.cells #[.slice none 0 0, .slice none 0 0, .slice none 0 0] 30)) (.cells #[.slice none 0 0, .slice none 0 0, .slice none 0 0] 30))
 have e1 : (w.alloc (.cells #[.slice A0_0 l0_0.length c0_0, .slice A0_1 l0_1.length c0_1, .slice A0_2 l0_2.length c0_2] 30)).heap.size = w.heap.size + 1 := by simp
 have e2 : ((w.alloc (.cells #[.slice A0_0 l0_0.length c0_0, .slice A0_1 l0_1.length c0_1, .slice A0_2 l0_2.length c0_2] 30)).alloc (.cells #[.slice none 0 0, .slice none 0 0, .slice none 0 0] 30)).heap.size = w.heap.size + 1 + 1 := by simp
 have e3 : (((w.alloc (.cells #[.slice A0_0 l0_0.length c0_0, .slice A0_1 l0_1.length c0_1, .slice A0_2 l0_2.length c0_2] 30)).alloc (.cells #[.slice none 0 0, .slice none 0 0, .slice none 0 0] 30)).alloc (.cells #[.slice none 0 0, .slice none 0 0, .slice none 0 0] 30)).heap.size = w.heap.size + 1 + 1 + 1 := by simp
 rw [e1] at Bb
 rw [e2] at Bc
 go_enter Try.func55, Try.ntmps55
 go_wp2_with (first
  | ((with_reducible refine gate_builtin (b := .append) (xs := #[.tmp 8, .tmp 10]) rfl ?_); at_builtin; refine Kd.R_append_rows (Kd.int .i64) (w0 := w) w.heap.size rfl (.tmp 8) (.tmp 10) 22 3 (.int .i64 0) 8 rfl Try.underlying22 info3 rfl (by decide) (by omega) (.slice none 0 0) ([] : List Int) l0_0 _ _ _ (fun k => w.heap.size + 1 + 1 < k) (fun _ => False) rfl rfl (Kd.R_nil _ _ _ _ _) (Kd.C_below HR0.out HBa.out) (fun _ _ h => h) (fun _ h => h.elim) (fun k hk => by omega) HBa.out HBa.out.size (by simp only [List.length_nil]; omega) ?_; intro v3 w3 ho hb hg _; rw [List.nil_append] at ho; obtain ⟨D0, d0, rfl⟩ := Kd.R_slice ho; have HO3 := Aside0.mk ho; have HB3 := Aside0.mk hb; have B1 := Aside0.mk (blk_grown Ba.out hg (by simp [Value.ownBlock])); have BN := Aside0.mk (blk_grown Bb.out hg (by simp [Value.ownBlock])); have BO := Aside0.mk (blk_grown Bc.out hg (by simp [Value.ownBlock])); have hs3 := hg.size; have x0 : w3.cell? ⟨w.heap.size + 1 + 1, 0, none⟩ = some (.slice none 0 0) := (blk_cell BO.out 0).trans rfl; have y0 := blk_frozen BO.out 0; clear ho hb hg Ba Bb Bc HBa)
  | ((with_reducible refine gate_store (t := 22) (p := 12) rfl ?_); refine store_event (t := 22) (p := 12) (v := .tmp 11) (w1 := w3.setCell ⟨w.heap.size + 1 + 1, 0, none⟩ (.slice D0 l0_0.length d0)) rfl rfl rfl ?hr ?_; (case hr => first | (go_simp; done) | (go_simp; rfl)); intro w4 hw4; have HO4 := Aside0.mk (show Kd.R (Kd.int .i64) 3 w4 w.heap.size (fun k => w.heap.size + 1 + 1 < k) (.slice D0 l0_0.length d0) l0_0 from by rw [hw4]; exact Kd.R_far (p := ⟨w.heap.size + 1 + 1, 0, none⟩) HO3.out (fun k hk => by show k ≠ w.heap.size + 1 + 1; omega) _); have B1 := Aside0.mk (show w4.heap[w.heap.size]? = some (.cells #[.slice A0_0 l0_0.length c0_0, .slice A0_1 l0_1.length c0_1, .slice A0_2 l0_2.length c0_2] 30 (0, 0)) from by rw [hw4]; exact blk_far (p := ⟨w.heap.size + 1 + 1, 0, none⟩) B1.out (by show w.heap.size ≠ w.heap.size + 1 + 1; omega) _); have BN := Aside0.mk (show w4.heap[w.heap.size + 1]? = some (.cells #[.slice none 0 0, .slice none 0 0, .slice none 0 0] 30 (0, 0)) from by rw [hw4]; exact blk_far (p := ⟨w.heap.size + 1 + 1, 0, none⟩) BN.out (by show w.heap.size + 1 ≠ w.heap.size + 1 + 1; omega) _); have BO := Aside0.mk (show w4.heap[w.heap.size + 1 + 1]? = some (.cells #[.slice D0 l0_0.length d0, .slice none 0 0, .slice none 0 0] 30 (0, 0)) from by rw [hw4]; exact blk_put BO.out 0 _ rfl); have HB4 := Aside0.mk (show Below w.heap.size w w4 from by rw [hw4]; exact HB3.out.setCell (show w.heap.size ≤ w.heap.size + 1 + 1 by omega) _); have hs4 : w4.heap.size = w3.heap.size := (by rw [hw4]; simp); have x2 : w4.cell? ⟨w.heap.size + 1 + 1, 2, none⟩ = some (.slice none 0 0) := (blk_cell BO.out 2).trans rfl; have z2 : w4.cell? ⟨w.heap.size, 2, none⟩ = some (.slice A0_2 l0_2.length c0_2) := (blk_cell B1.out 2).trans rfl; clear hw4 x0 y0 HO3 HB3)
  | ((with_reducible refine gate_builtin (b := .append) (xs := #[.tmp 14, .tmp 16]) rfl ?_); at_builtin; refine Kd.R_append_rows (Kd.int .i64) (w0 := w) w.heap.size rfl (.tmp 14) (.tmp 16) 22 3 (.int .i64 0) 8 rfl Try.underlying22 info3 rfl (by decide) (by omega) (.slice none 0 0) ([] : List Int) l0_2 _ _ _ (fun k => w4.heap.size ≤ k) (fun _ => False) rfl rfl (Kd.R_nil _ _ _ _ _) (Kd.C_below HR2.out HB4.out) (fun _ _ h => h) (fun _ h => h.elim) (fun k hk => hk) HB4.out HB4.out.size (by simp only [List.length_nil]; omega) ?_; intro v5 w5 ho hb hg _; rw [List.nil_append] at ho; obtain ⟨D2, d2, rfl⟩ := Kd.R_slice ho; have HO5 := Aside0.mk ho; have HB5 := Aside0.mk hb; have HO4b := Aside0.mk (Kd.R_grown HO4.out hg (fun k _ => by simp [Value.ownBlock])); have hlt4 := Aside0.mk (Kd.R_lt HO4.out); have B1 := Aside0.mk (blk_grown B1.out hg (by simp [Value.ownBlock])); have BN := Aside0.mk (blk_grown BN.out hg (by simp [Value.ownBlock])); have BO := Aside0.mk (blk_grown BO.out hg (by simp [Value.ownBlock])); have hs5 := hg.size; have x2 : w5.cell? ⟨w.heap.size + 1 + 1, 2, none⟩ = some (.slice none 0 0) := (blk_cell BO.out 2).trans rfl; have y2 := blk_frozen BO.out 2; clear ho hb hg HO4 HB4 z2)
  | ((with_reducible refine gate_store (t := 22) (p := 18) rfl ?_); refine store_event (t := 22) (p := 18) (v := .tmp 17) (w1 := w5.setCell ⟨w.heap.size + 1 + 1, 2, none⟩ (.slice D2 l0_2.length d2)) rfl rfl rfl ?hr ?_; (case hr => first | (go_simp; done) | (go_simp; rfl)); intro w6 hw6; have CP := Aside0.mk (show spec_l1copy.Cp w w6 (w.heap.size + 1) (w.heap.size + 1 + 1) w6.heap.size (.slice D0 l0_0.length d0) (.slice none 0 0) (.slice D2 l0_2.length d2) l0_0 [] l0_2 from by rw [hw6]; exact spec_l1copy.Cp.start HO4b.out HO5.out (fun k hk => by have := hlt4.out k hk; omega) (by omega) BO.out HB5.out (by omega) BN.out ⟨by omega, by omega⟩); have B1 := Aside0.mk (show w6.heap[w.heap.size]? = some (.cells #[.slice A0_0 l0_0.length c0_0, .slice A0_1 l0_1.length c0_1, .slice A0_2 l0_2.length c0_2] 30 (0, 0)) from by rw [hw6]; exact blk_far (p := ⟨w.heap.size + 1 + 1, 2, none⟩) B1.out (by show w.heap.size ≠ w.heap.size + 1 + 1; omega) _); have z1 : w6.cell? ⟨w.heap.size, 1, none⟩ = some (.slice A0_1 l0_1.length c0_1) := (blk_cell B1.out 1).trans rfl; clear hw6 x2 y2 HO4b HO5 HB5 BO hlt4))
 generalize hn : w6.heap.size = n at *
 have HN := Aside0.mk hn
 clear hn
 clear B1 z1
 go_loopw [22] (fun x22 wr => ∃ (i : Nat) (u : Value), i ≤ l0_1.length ∧ x22 = .int .i64 i ∧ Aside0 (spec_l1copy.Cp w wr (w.heap.size + 1) (w.heap.size + 1 + 1) n (.slice D0 l0_0.length d0) u (.slice D2 l0_2.length d2) l0_0 (l0_1.take i) l0_2)) (fun x22 _ => l0_1.length - (intOf x22).toNat)
 case atStart => exact ⟨0, _, Nat.zero_le _, rfl, CP⟩
 case round =>
  clear CP
  obtain ⟨i, u, hi, rfl, CP⟩ := hrel
  by_cases hlt : i < l0_1.length
  ·have d23 : decide ((i : Int) < (l0_1.length : Int)) = true := decide_eq_true (by omega)
   have p24 : (0 : Int) ≤ (i : Int) := by omega
   have q24 : (i : Int) < (l0_1.length : Int) := by omega
   obtain ⟨ad, Ap, cp, e, hx0, hx1, hx2, hl, hC⟩ := at_T40 HR1.out (i : Int) p24 q24
   subst e
   have et : rd_T40 l0_1 (i : Int) = l0_1[i] := by unfold rd_T40; simp [List.getD, hlt]
   have hpl := HP.out l0_1[i] (List.getElem_mem hlt)
   have HTK := Aside0.mk (List.take_succ_eq_append_getElem hlt)
   rw [et] at hx0 hx1 hx2 hl hC
   rw [Int.toNat_natCast] at hx0 hx1 hx2
   generalize l0_1[i] = t at *
   replace hx0 := (CP.out.hB.cell (World.block_lt_of_cell? w _ hx0)).trans hx0
   replace hx1 := (CP.out.hB.cell (World.block_lt_of_cell? w _ hx1)).trans hx1
   replace hx2 := (CP.out.hB.cell (World.block_lt_of_cell? w _ hx2)).trans hx2
   have HC := Aside0.mk (Kd.C_below hC CP.out.hB)
   have hn := CP.out.hn
   have hnr := hn.2.1
   clear hC et hn
   have BT := Aside0.mk (heap_alloc_new wr (.cells #[.int .i64 0, .slice none 0 0, .int .i64 0] 40))
   have es : (wr.alloc (.cells #[.int .i64 0, .slice none 0 0, .int .i64 0] 40)).heap.size = wr.heap.size + 1 := by simp
   have HT5 := Aside0.mk (show (l0_1.take i).length + 1 ≤ 3518437208883 from by rw [List.length_take]; omega)
   go_wp2_with (first
    | ((with_reducible refine gate_store (t := 40) (p := 5) rfl ?_); (try simp only [Act.put, List.setIfInBounds_toArray, List.set_cons_zero, List.set_cons_succ]); refine spec_l1copy.row_wr_ rfl 40 (.tmp 5) (.tmp 25) rfl rfl wr.heap.size rfl (c' := #[.int .i64 t.f0, .slice Ap t.f1.length cp, .int .i64 t.f2]) rfl BT.out spec_l1copy.info40s rfl (by simp [Value.oneCell']) ?_; intro w7 h7 g7; have B7 := Aside0.mk h7; have b7 : Below wr.heap.size wr w7 := ((Below.refl _ _).alloc (Nat.le_refl _) _).grown g7 (by rw [es]; omega) (fun k hk => by injection hk with hk; omega); have HB7 := Aside0.mk b7; have s7 : wr.heap.size < w7.heap.size := blk_lt h7; have y0 : w7.cell? ⟨wr.heap.size, 0, none⟩ = some (.int .i64 t.f0) := (blk_cell h7 0).trans rfl; have y1 : w7.cell? ⟨wr.heap.size, 1, none⟩ = some (.slice Ap t.f1.length cp) := (blk_cell h7 1).trans rfl; have y2 : w7.cell? ⟨wr.heap.size, 2, none⟩ = some (.int .i64 t.f2) := (blk_cell h7 2).trans rfl; have BU := Aside0.mk (heap_alloc_new w7 (.cells #[.int .i64 0, .slice none 0 0, .int .i64 0] 40)); have es7 : (w7.alloc (.cells #[.int .i64 0, .slice none 0 0, .int .i64 0] 40)).heap.size = w7.heap.size + 1 := (by simp); clear h7 g7 b7 hx0 hx1 hx2 BT es)
    | ((with_reducible refine gate_store (t := 40) (p := 6) rfl ?_); (try simp only [Act.put, List.setIfInBounds_toArray, List.set_cons_zero, List.set_cons_succ]); refine spec_l1copy.row_wr_ rfl 40 (.tmp 6) (.tmp 26) rfl rfl w7.heap.size rfl (c' := #[.int .i64 t.f0, .slice Ap t.f1.length cp, .int .i64 t.f2]) rfl BU.out spec_l1copy.info40s rfl (by simp [Value.oneCell']) ?_; intro w8 h8 g8; have B8 := Aside0.mk h8; have b78 : Below w7.heap.size w7 w8 := ((Below.refl _ _).alloc (Nat.le_refl _) _).grown g8 (by rw [es7]; omega) (fun k hk => by injection hk with hk; omega); have HB8 := Aside0.mk (below_step HB7.out b78); have B7 := Aside0.mk (blk_below B7.out b78); have s8 : w7.heap.size < w8.heap.size := blk_lt h8; have y1 : w8.cell? ⟨wr.heap.size, 1, none⟩ = some (.slice Ap t.f1.length cp) := (blk_cell B7.out 1).trans rfl; clear h8 g8 b78 y0 y2 BU es7 HB7)
    | ((with_reducible refine gate_dst (N := 27) rfl ?_); refine Kd.R_lit (w0 := wr) (Kd.int .i64) wr.heap.size 3 ?hg (N := 27) ?hd (xs := ([] : List Int)) (inner := []) (ok := fun k => w8.heap.size ≤ k) (okp := fun _ => False) ?hr ?hp (fun _ hk => hk.elim) (Nat.le_refl _) HB8.out (by omega) (by simp) ?_; (case hd => rfl); (case hg => rfl); (case hr => first | (go_simp; done) | (go_simp; rfl)); (case hp => exact (Reps.none _ _)); intro v9 w9 r9 b9 g9 _; have R9 := Aside0.mk r9; have HB9 := Aside0.mk b9; have B8 := Aside0.mk (blk_grown B8.out g9 (by simp)); have B7 := Aside0.mk (blk_grown B7.out g9 (by simp)); have s9 := g9.size; have y1 : w9.cell? ⟨wr.heap.size, 1, none⟩ = some (.slice Ap t.f1.length cp) := (blk_cell B7.out 1).trans rfl; clear r9 b9 g9 HB8 B7)
    | ((with_reducible refine gate_builtin (b := .append) (xs := #[.tmp 27, .tmp 29]) rfl ?_); at_builtin; refine Kd.R_append_rows (Kd.int .i64) (w0 := wr) wr.heap.size rfl (.tmp 27) (.tmp 29) 22 3 (.int .i64 0) 8 rfl Try.underlying22 info3 rfl (by decide) (by omega) v9 ([] : List Int) t.f1 _ _ _ (fun k => w8.heap.size ≤ k) (fun _ => False) rfl rfl R9.out (Kd.C_below HC.out HB9.out) (fun _ _ h => h) (fun _ h => h.elim) (fun k hk => by omega) HB9.out HB9.out.size (by simp only [List.length_nil]; omega) ?_; intro v10 w10 r10 b10 g10 _; rw [List.nil_append] at r10; obtain ⟨D3, d3, rfl⟩ := Kd.R_slice r10; have R10 := Aside0.mk r10; have HB10 := Aside0.mk b10; have B8 := Aside0.mk (blk_grown B8.out g10 (fun e => by have := R9.out.1 _ e.symm; omega)); have s10 := g10.size; have y1 : w10.cell? ⟨w7.heap.size, 1, none⟩ = some (.slice Ap t.f1.length cp) := (blk_cell B8.out 1).trans rfl; have f1 := blk_frozen B8.out 1; clear r10 b10 g10 HB9 R9)
    | ((with_reducible refine gate_store (t := 22) (p := 31) rfl ?_); refine store_event (t := 22) (p := 31) (v := .tmp 30) (w1 := w10.setCell ⟨w7.heap.size, 1, none⟩ (.slice D3 t.f1.length d3)) rfl rfl rfl ?hr ?_; (case hr => first | (go_simp; done) | (go_simp; rfl)); intro w11 hw11; have B11 := Aside0.mk (show w11.heap[w7.heap.size]? = some (.cells #[.int .i64 t.f0, .slice D3 t.f1.length d3, .int .i64 t.f2] 40 (0, 0)) from by rw [hw11]; exact blk_put B8.out 1 _ rfl); have HB11 := Aside0.mk (show Below wr.heap.size wr w11 from by rw [hw11]; exact HB10.out.setCell (show wr.heap.size ≤ w7.heap.size by omega) _); have R11 := Aside0.mk (show Kd.R (Kd.int .i64) 3 w11 wr.heap.size (fun k => w8.heap.size ≤ k) (.slice D3 t.f1.length d3) t.f1 from by rw [hw11]; exact Kd.R_far (p := ⟨w7.heap.size, 1, none⟩) R10.out (fun k hk => by show k ≠ w7.heap.size; omega) _); have S11 := Aside0.mk (show w11.heap.size = w10.heap.size from by rw [hw11]; simp); have CP11 := Aside0.mk (CP.out.below HB11.out); have hb0 := CP11.out.bo; have HLT := Aside0.mk (Kd.R_lt (Kd.S_R CP.out.s1)); have y0 : w11.cell? ⟨w7.heap.size, 0, none⟩ = some (.int .i64 t.f0) := (blk_cell B11.out 0).trans rfl; have y1 : w11.cell? ⟨w7.heap.size, 1, none⟩ = some (.slice D3 t.f1.length d3) := (blk_cell B11.out 1).trans rfl; have y2 : w11.cell? ⟨w7.heap.size, 2, none⟩ = some (.int .i64 t.f2) := (blk_cell B11.out 2).trans rfl; have x1 : w11.cell? ⟨w.heap.size + 1 + 1, 1, none⟩ = some u := (blk_cell hb0 1).trans rfl; clear hw11 hb0 f1 B8 HB10 R10)
    | ((with_reducible refine gate_builtin (b := .append) (xs := #[.tmp 33, .tmp 35]) rfl ?_); at_builtin; refine Kd.S_append k40 (w0 := w) w.heap.size rfl (.tmp 33) (.tmp 35) 28 40 (.agg #[(.int .i64 0), (.slice none 0 0), (.int .i64 0)]) 40 rfl Try.underlying28 info40 rfl (by decide) (by omega) u (l0_1.take i) t [.int .i64 t.f0, .slice D3 t.f1.length d3, .int .i64 t.f2] (fun k => n ≤ k) (fun k => w8.heap.size ≤ k) rfl rfl (k40_mkM _ _ _ t (Kd.R_lower R11.out CP.out.hB.size)) (fun k hk => ⟨by omega, fun e => by have := HLT.out k e.symm; omega⟩) (fun k hk => by have := S11.out; omega) (Kd.S_mono (Kd.S_below (Kd.S_bound CP.out.s1) HB11.out) (fun k hk => ⟨hk.1, fun q => by have := hk.2.2.1; omega⟩)) CP11.out.hB CP11.out.hB.size (by have := HT5.out; omega) ?_; intro v12 w12 r12 b12 g12 _; obtain ⟨D4, d4, rfl⟩ := Kd.S_slice r12; have CQ := Aside0.mk (CP11.out.grow g12 b12 r12 (.int .i64 0)); have hbo := blk_grown CP11.out.bo g12 (fun e => by have := (Kd.S_R CP11.out.s1).1 _ e.symm; have := CP11.out.hn.1; omega); have x1 : w12.cell? ⟨w.heap.size + 1 + 1, 1, none⟩ = some u := (blk_cell hbo 1).trans rfl; have f1 := blk_frozen hbo 1; clear r12 b12 g12 hbo CP11 CP HB11 R11 B11 HLT y0 y1 y2))
   go_roundw
   case measure => simp [intOf]; omega
   case rel => exact ⟨i + 1, _, hlt, by go_num, ⟨by have h9 := CQ.out; rw [show (l0_1.take i ++ [t]).length = i + 1 from (by simp; omega)] at h9; rw [HTK.out]; exact h9⟩⟩
  ·have d23 : decide ((i : Int) < (l0_1.length : Int)) = false := decide_eq_false (by omega)
   have hie : i = l0_1.length := by omega
   subst hie
   have hq := CP.out
   rw [List.take_length] at hq
   obtain ⟨D1, d1, rfl⟩ := Kd.S_slice hq.s1
   have CQ := Aside0.mk hq
   have x0 : wr.cell? ⟨w.heap.size + 1 + 1, 0, none⟩ = some (.slice D0 l0_0.length d0) := (blk_cell hq.bo 0).trans rfl
   have x1 : wr.cell? ⟨w.heap.size + 1 + 1, 1, none⟩ = some (.slice D1 l0_1.length d1) := (blk_cell hq.bo 1).trans rfl
   have x2 : wr.cell? ⟨w.heap.size + 1 + 1, 2, none⟩ = some (.slice D2 l0_2.length d2) := (blk_cell hq.bo 2).trans rfl
   clear CP hq
   go_wp2_with (first
    | ((with_reducible refine gate_store (t := 30) (p := 2) rfl ?_); (try simp only [Act.put, List.setIfInBounds_toArray, List.set_cons_zero, List.set_cons_succ]); refine spec_l1copy.row_wr_ rfl 30 (.tmp 2) (.tmp 39) rfl rfl (w.heap.size + 1) rfl (c' := #[.slice D0 l0_0.length d0, .slice D1 l0_1.length d1, .slice D2 l0_2.length d2]) rfl CQ.out.br spec_l1copy.info26_ rfl (by simp [Value.oneCell']) ?_; intro wE hE gE; have BE := Aside0.mk hE; have GE := Aside0.mk gE; clear hE gE))
   refine bodyPost_ret (results_cell_row rfl _ _ (w.heap.size + 1) 30 #[.slice D0 l0_0.length d0, .slice D1 l0_1.length d1, .slice D2 l0_2.length d2] (0, 0) _ rfl BE.out hu26 rfl spec_l1copy.info26_) rfl ?_
   have h := CQ.out
   have hn := h.hn
   have hr := h.hr
   have ne : ∀ k, w.heap.size + 1 + 1 < k → k < wr.heap.size → wE.heap[k]? = wr.heap[k]? := fun k hk hl => GE.out.block k hl (fun e => by injection e with e; omega)
   refine ⟨_, _, _, rfl, Kd.R_mono (Kd.R_step h.r0 (fun k hk hl => ne k hk.2.1 hl)) (fun k hk => hk.1), Kd.S_mono (Kd.S_step h.s1 (fun k hk hl => ne k (by omega) hl)) (fun k hk => ⟨fun e => ?_, fun e => ?_⟩), Kd.R_mono (Kd.R_step h.r2 (fun k hk hl => ne k hk.2.1 hl)) (fun k hk => hk.1), h.hB.grown GE.out h.hB.size (fun k hk => by injection hk with hk; omega)⟩
   ·have := (h.r0.1 k e.symm).2.2; omega
   ·have := (h.r2.1 k e.symm).2.2; omega


/-! ### spec_l1step: function 54 -/
def spec_l1step.f (k : Nat) (l0_0 : List Int) (l0_1 : List (S40)) (l0_2 : List Int) (a1 : Int) : Option (List Int × (List (S40)) × List Int) := (spec_l1copy.f k l0_0 l0_1 l0_2).bind fun bt385 => (if 0 ≤ a1 then (if a1 < (bt385.2.1.length : Int) then (if (((rd_T40 bt385.2.1 a1).f1).length : Int) > 0 then (if 0 < (((rd_T40 bt385.2.1 a1).f1).length : Int) then ((some (bt385.2.1.set (a1 : Int).toNat (⟨rd ((rd_T40 bt385.2.1 a1).f1) 0, (rd_T40 bt385.2.1 a1).f1, (rd_T40 bt385.2.1 a1).f2⟩ : S40) : List (S40))).bind fun y398 => (if 1 ≤ (((rd_T40 y398 a1).f1).length : Int) then (some (bt385.1, (y398.set (a1 : Int).toNat (⟨(rd_T40 y398 a1).f0, (((rd_T40 y398 a1).f1).drop 1), (rd_T40 y398 a1).f2⟩ : S40)), bt385.2.2)) else (none))) else (none)) else (if a1 ≤ (bt385.2.1.length : Int) then (if 0 ≤ (wrap64 (a1 + 1)) then (if (wrap64 (a1 + 1)) ≤ (bt385.2.1.length : Int) then (if a1 ≤ (bt385.2.2.length : Int) then (if (wrap64 (a1 + 1)) ≤ (bt385.2.2.length : Int) then (some (bt385.1, (bt385.2.1.eraseIdx (a1 : Int).toNat), (bt385.2.2.eraseIdx (a1 : Int).toNat))) else (none)) else (none)) else (none)) else (none)) else (none))) else (none)) else (none))
theorem spec_l1step.mono : ∀ a0 a1 a2 a3 k, LeO (spec_l1step.f k a0 a1 a2 a3) (spec_l1step.f (k + 1) a0 a1 a2 a3) := by
 intro a0 a1 a2 a3 k
 unfold spec_l1step.f
 repeat' first
   | (with_reducible exact spec_l1copy.mono _ _ _ _)
   | (with_reducible exact LeO.refl _)
   | (with_reducible exact LeO.none _)
   | (with_reducible refine LeO.ite ?_ ?_)
   | (with_reducible refine LeO.bind ?_ (fun _ => ?_))
   | exact spec_l1copy.mono _ _ _ _
   | exact LeO.none _
   | refine LeO.ite ?_ ?_
   | refine LeO.bind ?_ (fun _ => ?_)
set_option maxHeartbeats 1000000 in
set_option maxRecDepth 100000 in
theorem spec_l1step.calls (k : Nat) (A0_0 : Option Addr) (c0_0 : Nat) (l0_0 : List Int) (A0_1 : Option Addr) (c0_1 : Nat) (l0_1 : List (S40)) (A0_2 : Option Addr) (c0_2 : Nat) (l0_2 : List Int) (a1 : Int) (r1 : List Int) (r2 : List (S40)) (r3 : List Int) (w : World) (hr0_0 : Kd.C (Kd.int .i64) w A0_0 l0_0.length l0_0) (hc0_0 : l0_0.length ≤ c0_0) (hr0_1 : Kd.C k40 w A0_1 l0_1.length l0_1) (hc0_1 : l0_1.length ≤ c0_1) (hr0_2 : Kd.C (Kd.int .i64) w A0_2 l0_2.length l0_2) (hc0_2 : l0_2.length ≤ c0_2) (h : spec_l1step.f k l0_0 l0_1 l0_2 a1 = some (r1, r2, r3)) :
 Calls Try.prog 54 #[.agg #[.slice A0_0 l0_0.length c0_0, .slice A0_1 l0_1.length c0_1, .slice A0_2 l0_2.length c0_2], .int .i64 a1] w fun e w' => ∃ v0_ v1_ v2_ : Value, e = .returned (.agg #[v0_, v1_, v2_]) ∧ Kd.R (Kd.int .i64) 3 w' w.heap.size (fun k_ => (w.heap.size ≤ k_) ∧ some k_ ≠ (v2_ : Value).ownBlock) v0_ r1 ∧ Kd.N k40 40 w' w.heap.size (fun k_ => (w.heap.size ≤ k_) ∧ some k_ ≠ (v0_ : Value).ownBlock ∧ some k_ ≠ (v2_ : Value).ownBlock) v1_ r2 ∧ Kd.R (Kd.int .i64) 3 w' w.heap.size (fun k_ => (w.heap.size ≤ k_) ∧ some k_ ≠ (v0_ : Value).ownBlock) v2_ r3 ∧ Below w.heap.size w w' := by
 have HR0 := Aside0.mk hr0_0
 have HR1 := Aside0.mk hr0_1
 have HR2 := Aside0.mk hr0_2
 obtain ⟨⟨t1, t2, t3⟩, ht, hr⟩ := Option.bind_eq_some_iff.mp h
 have HT := Aside0.mk ht
 dsimp only at hr
 clear h ht hr0_0 hr0_1 hr0_2
 by_cases ha : 0 ≤ a1
 rotate_left
 ·rw [if_neg ha] at hr; exact absurd hr (by simp)
 rw [if_pos ha] at hr
 obtain ⟨i, rfl⟩ := Int.eq_ofNat_of_zero_le ha
 by_cases hi : (i : Int) < (t2.length : Int)
 rotate_left
 ·rw [if_neg hi] at hr; exact absurd hr (by simp)
 rw [if_pos hi] at hr
 rw [show rd_T40 t2 (i : Int) = t2.getD i z40 from by unfold rd_T40; simp] at hr
 have HRR := Aside0.mk hr
 clear hr
 have hu26 := Try.underlying30
 have hu40 := Try.underlying40
 have hB := Aside0.mk (((Below.refl w.heap.size w).alloc (Nat.le_refl _) (.cells #[.slice A0_0 l0_0.length c0_0, .slice A0_1 l0_1.length c0_1, .slice A0_2 l0_2.length c0_2] 30)))
 have BR := Aside0.mk (heap_alloc_new w (.cells #[.slice A0_0 l0_0.length c0_0, .slice A0_1 l0_1.length c0_1, .slice A0_2 l0_2.length c0_2] 30))
 have hs : (w.alloc (.cells #[.slice A0_0 l0_0.length c0_0, .slice A0_1 l0_1.length c0_1, .slice A0_2 l0_2.length c0_2] 30)).heap.size = w.heap.size + 1 := by simp
 go_enter Try.func54, Try.ntmps54
 go_wp2_with (fail)
 have hB2 := Aside0.mk (hB.out.alloc (by omega) (.cells #[.slice none 0 0, .slice none 0 0, .slice none 0 0] 30))
 have BN := Aside0.mk (heap_alloc_new (w.alloc (.cells #[.slice A0_0 l0_0.length c0_0, .slice A0_1 l0_1.length c0_1, .slice A0_2 l0_2.length c0_2] 30)) (.cells #[.slice none 0 0, .slice none 0 0, .slice none 0 0] 30))
 rw [hs] at BN
 generalize ((w.alloc (.cells #[.slice A0_0 l0_0.length c0_0, .slice A0_1 l0_1.length c0_1, .slice A0_2 l0_2.length c0_2] 30)).alloc (.cells #[.slice none 0 0, .slice none 0 0, .slice none 0 0] 30)) = W at *
 refine (spec_l1copy.calls k _ _ l0_0 _ _ l0_1 _ _ l0_2 t1 t2 t3 W (Kd.C_below HR0.out hB2.out) hc0_0 (Kd.C_below HR1.out hB2.out) hc0_1 (Kd.C_below HR2.out hB2.out) hc0_2 HT.out).mono ?_
 rintro e w1 ⟨v0, v1, v2, rfl, ho0, ho1, ho2, hb⟩
 obtain ⟨B0, d0, rfl⟩ := Kd.R_slice ho0
 obtain ⟨B2, d2, rfl⟩ := Kd.R_slice ho2
 obtain ⟨gT, d1, rfl, hgT1, hgT2, hgT3⟩ := Kd.S_form ho1 (by omega)
 have e5 : (w1.alloc (.cells #[.slice none 0 0, .slice none 0 0, .slice none 0 0] 30)).heap.size = w1.heap.size + 1 := by simp
 have b1 : Below w.heap.size w w1 := below_step hB2.out hb
 have cN := blk_lt BN.out
 have BN1 := Aside0.mk (blk_below BN.out hb)
 have BO1 := Aside0.mk (heap_alloc_new w1 (.cells #[.slice none 0 0, .slice none 0 0, .slice none 0 0] 30))
 have HB1 := Aside0.mk (b1.alloc b1.size (.cells #[.slice none 0 0, .slice none 0 0, .slice none 0 0] 30))
 have hW := hb.size
 have P0 := Aside0.mk (Kd.R_bound ho0)
 have P1 := Aside0.mk (Kd.S_N (Kd.S_bound ho1))
 have P1s := Aside0.mk (Kd.S_bound ho1)
 have P2 := Aside0.mk (Kd.R_bound ho2)
 obtain ⟨cs, hcl, hM, hcc, hfr⟩ := Kd.N_elem P1.out z40 (i : Int) (by omega) (by omega)
 rw [Int.toNat_natCast] at hM hcc hfr
 generalize hx : t2.getD i z40 = x at hM HRR
 obtain ⟨Ap, cp, rfl, hle, hF⟩ := k40_openF hM
 have hp1 : w1.cell? ⟨gT, i * 3 + 1, none⟩ = some (.slice Ap x.f1.length cp) := hcc 1 _ rfl
 have HCC := Aside0.mk hcc
 have HFR := Aside0.mk hfr
 have HF := Aside0.mk hF
 have HX := Aside0.mk hx
 clear hM hF hcc hfr hx ho0 ho1 ho2 hb b1 hB hB2 BN BR hs
 have hrr := HRR.out
 clear HRR
 by_cases c0 : (x.f1.length : Int) > 0
 ·rw [if_pos c0, if_pos (by omega), Option.bind_some] at hrr
  have eS : rd_T40 (t2.set (↑i : Int).toNat ⟨rd x.f1 0, x.f1, x.f2⟩) (↑i : Int) = ⟨rd x.f1 0, x.f1, x.f2⟩ := by unfold rd_T40; rw [Int.toNat_natCast, List.getD_eq_getElem?_getD, List.getElem?_set_self (by omega)]; rfl
  rw [eS] at hrr
  dsimp only at hrr
  rw [if_pos (by omega), List.set_set, Int.toNat_natCast, Option.some.injEq, Prod.mk.injEq, Prod.mk.injEq] at hrr
  obtain ⟨rfl, rfl, rfl⟩ := hrr
  clear eS
  have d15 : decide ((x.f1.length : Int) > 0) = true := decide_eq_true c0
  obtain ⟨adP, cP, pe, _, _, _, hPk⟩ := Kd.F_get HF.out 0 0 (by omega) c0
  subst pe
  have hPg : adP.block ≠ gT := (hPk (by decide)).2
  obtain ⟨_, pe, hp0⟩ := Kd.at_int (Kd.F_now HF.out) 0 (by omega) c0
  injection pe with pe
  subst pe
  clear hPk
  have hp0 : w1.cell? adP = some (.int .i64 (rd x.f1 0)) := by simpa [Addr.add] using hp0
  have p0 : (0 : Int) ≤ (i : Int) := by omega
  go_wp2_with (first
   | ((with_reducible refine gate_store (t := 30) (p := 5) rfl ?_); (try simp only [Act.put, List.setIfInBounds_toArray, List.set_cons_zero, List.set_cons_succ]); refine spec_l1copy.row_wr_ rfl 30 (.tmp 5) (.tmp 7) rfl rfl w1.heap.size rfl (c' := #[.slice B0 t1.length d0, .slice (some ⟨gT, 0, none⟩) t2.length d1, .slice B2 t3.length d2]) rfl BO1.out spec_l1copy.info26_ rfl (by simp [Value.oneCell']) ?_; intro w2 h2 g2; have BO := Aside0.mk h2; have HG := Aside0.mk g2; have HE := Aside0.mk (fun k (hk : k < w1.heap.size) => (HG.out.block k (by rw [e5]; omega) (by intro e; injection e with e; omega)).trans (Below.heap_alloc w1 _ k hk)); have z1 : w2.cell? ⟨w1.heap.size, 1, none⟩ = some (.slice (some ⟨gT, 0, none⟩) t2.length d1) := (blk_cell h2 1).trans rfl; have z2 := Kd.cell_heap HE.out hp1; have z3 := Kd.cell_heap HE.out hp0; clear h2 g2))
  have z4 : w2.cell? ⟨gT, i * 3, none⟩ = some (.int .i64 x.f0) := Kd.cell_heap HE.out (HCC.out 0 _ rfl)
  have f4 : w2.frozen? ⟨gT, i * 3, none⟩ = false := (show w2.frozen? ⟨gT, i * 3, none⟩ = w1.frozen? ⟨gT, i * 3, none⟩ from by unfold World.frozen?; rw [HE.out gT hgT2]).trans (HFR.out 0)
  have hO : w1.heap.size ≠ gT := by omega
  go_region_held3 (fun w' => w'.cell? ⟨w1.heap.size, 1, none⟩ = some (.slice (some ⟨gT, 0, none⟩) t2.length d1) ∧ w'.cell? ⟨gT, i * 3 + 1, none⟩ = some (.slice (some adP) x.f1.length cp) ∧ w'.cell? adP = some (.int .i64 (rd x.f1 0))) (first | exact ⟨z1, z2, z3⟩ | exact ⟨(World.cell?_setCell_far _ _ _ _ (Ne.symm hO)).trans z1, (World.cell?_setCell_other _ _ _ _ (by simp)).trans z2, (World.cell?_setCell_far _ _ _ _ (Ne.symm hPg)).trans z3⟩) (fail)
  go_wp2_with (fail)
  have y1 : (w2.setCell ⟨gT, i * 3, none⟩ (.int .i64 (rd x.f1 0))).drew.cell? ⟨w1.heap.size, 1, none⟩ = _ := (World.cell?_setCell_far _ _ _ _ (Ne.symm hO)).trans z1
  have y2 : (w2.setCell ⟨gT, i * 3, none⟩ (.int .i64 (rd x.f1 0))).drew.cell? ⟨gT, i * 3 + 1, none⟩ = _ := (World.cell?_setCell_other _ _ _ _ (by simp)).trans z2
  have y4 : (w2.setCell ⟨gT, i * 3, none⟩ (.int .i64 (rd x.f1 0))).drew.frozen? ⟨gT, i * 3 + 1, none⟩ = false := by have h9 := (show w2.frozen? ⟨gT, i * 3 + 1, none⟩ = w1.frozen? ⟨gT, i * 3 + 1, none⟩ from by unfold World.frozen?; rw [HE.out gT hgT2]).trans (HFR.out 1); go_simp
  generalize hw3 : (w2.setCell ⟨gT, i * 3, none⟩ (.int .i64 (rd x.f1 0))).drew = w3 at *
  have HW3 := Aside0.mk hw3
  clear hw3 z1 z2 z3 z4 f4
  have q1 : (1 : Int) ≤ (x.f1.length : Int) := by omega
  have q2 : (x.f1.length : Int) ≤ (cp : Int) := by omega
  obtain ⟨A', hA⟩ : ∃ A' : Option Addr, A' = if cp = 1 then some adP else (some adP).map (·.add (1 * 1)) := ⟨_, rfl⟩
  have HA := Aside0.mk hA
  clear hA
  refine start_ (n := 13) (S := fun w' => w'.cell? ⟨w1.heap.size, 1, none⟩ = some (.slice (some ⟨gT, 0, none⟩) t2.length d1) ∧ w'.cell? ⟨gT, i * 3 + 1, none⟩ = some (.slice (some adP) x.f1.length cp)) (ds := [12]) (Array.replicate 13 false) (by kernel_rfl) rfl rfl ⟨y1, y2⟩ (fun hS => ?_)
  refine spec_l1copy.np_ 0 29 rfl rfl (by kernel_rfl) (fun _ _ _ h => h) (by rfl) (fun w' => by go_simp; with_reducible rfl) (by simp only [spec_l1copy.AP_, i64_w]; rfl) ?_
  refine spec_l1copy.nt_ hS 1 30 rfl rfl (by kernel_rfl) (fun _ _ _ h => h) (by rfl) (fun w' ⟨s0, s1⟩ => by go_simp; with_reducible rfl) (by simp only [spec_l1copy.AP_, i64_w]; rfl) ?_
  refine spec_l1copy.np_ 2 31 rfl rfl (by kernel_rfl) (fun _ _ _ h => h) (by rfl) (fun w' => by go_simp; with_reducible rfl) (by simp only [spec_l1copy.AP_, i64_w]; rfl) ?_
  refine spec_l1copy.np_ 3 32 rfl rfl (by kernel_rfl) (fun _ _ _ h => h) (by rfl) (fun w' => by go_simp; with_reducible rfl) (by simp only [spec_l1copy.AP_, i64_w]; rfl) ?_
  refine spec_l1copy.nt_ hS 4 33 rfl rfl (by kernel_rfl) (fun _ _ _ h => h) (by rfl) (fun w' ⟨s0, s1⟩ => by go_simp; with_reducible rfl) (by simp only [spec_l1copy.AP_, i64_w]; rfl) ?_
  refine spec_l1copy.np_ 5 34 rfl rfl (by kernel_rfl) (fun _ _ _ h => h) (by rfl) (fun w' => by go_simp; with_reducible rfl) (by simp only [spec_l1copy.AP_, i64_w]; rfl) ?_
  refine spec_l1copy.np_ 6 35 rfl rfl (by kernel_rfl) (fun _ _ _ h => h) (by rfl) (fun w' => by go_simp; with_reducible rfl) (by simp only [spec_l1copy.AP_, i64_w]; rfl) ?_
  refine spec_l1copy.np_ 7 36 rfl rfl (by kernel_rfl) (fun _ _ _ h => h) (by rfl) (fun w' => by go_simp; with_reducible rfl) (by simp only [spec_l1copy.AP_, i64_w]; rfl) ?_
  refine spec_l1copy.nt_ hS 8 37 rfl rfl (by kernel_rfl) (fun _ _ _ h => h) (by rfl) (fun w' ⟨s0, s1⟩ => by go_simp; with_reducible rfl) (by simp only [spec_l1copy.AP_, i64_w]; rfl) ?_
  refine spec_l1copy.np_ 9 38 (v := .slice A' (x.f1.length - 1) (cp - 1)) rfl rfl (by kernel_rfl) (fun _ _ _ h => h) (by rfl) (fun w' => by go_simp; rw [HA.out]; simp [Addr.add]) (by simp only [spec_l1copy.AP_, i64_w]; rfl) ?_
  refine spec_l1copy.np_ 10 39 rfl rfl (by kernel_rfl) (fun _ _ _ h => h) (by rfl) (fun w' => by go_simp; with_reducible rfl) (by simp only [spec_l1copy.AP_, i64_w]; rfl) ?_
  refine spec_l1copy.np_ 11 40 rfl rfl (by kernel_rfl) (fun _ _ _ h => h) (by rfl) (fun w' => by go_simp; with_reducible rfl) (by simp only [spec_l1copy.AP_, i64_w]; rfl) ?_
  refine spec_l1copy.nl_ 12 (w3.drew.setCell ⟨gT, i * 3 + 1, none⟩ (.slice A' (x.f1.length - 1) (cp - 1))) rfl rfl (by kernel_rfl) (by decide) (by rfl) (by kernel_rfl) (by go_simp) ?_
  have hk3 : ∀ k, k < w1.heap.size → k ≠ gT → w3.heap[k]? = w1.heap[k]? := fun k hk hn => by rw [← HW3.out]; exact (Below.heap_setCell w2 ⟨gT, i * 3, none⟩ _ k hn).trans (HE.out k hk)
  have hk3' : ∀ k, k ≠ gT → w3.heap[k]? = w2.heap[k]? := fun k hn => by rw [← HW3.out]; exact Below.heap_setCell w2 ⟨gT, i * 3, none⟩ _ k hn
  have n2 := Kd.N_step P1.out (w1 := w2) (fun k hk hlt => HE.out k hlt)
  have F2 := Kd.F_step HF.out (W1 := w2) (fun k hk hlt => HE.out k hlt)
  have F3 := Kd.F_step HF.out (W1 := w3) (fun k hk hlt => hk3 k hlt hk.2)
  have n3 := Kd.N_drew (Kd.N_seg n2 (i : Int) (by omega) hi (c := [.int .i64 x.f0, .slice (some adP) x.f1.length cp, .int .i64 x.f2]) (seg := [.int .i64 (rd x.f1 0)]) (j := 0) rfl (fun j u hu => Kd.cell_heap HE.out (HCC.out j u hu)) (show 0 + 1 ≤ 3 by omega) (x' := ⟨rd x.f1 0, x.f1, x.f2⟩) (k40_mkF w2 _ ⟨rd x.f1 0, x.f1, x.f2⟩ hle F2) (fun _ hk => hk)).1
  replace n3 : Kd.N k40 40 w3 _ _ _ _ := HW3.out ▸ n3
  obtain ⟨c3, hc3, hM3, hcc3, _⟩ := Kd.N_elem n3 z40 (i : Int) (by omega) (by omega)
  rw [show (t2.set (i : Int).toNat ⟨rd x.f1 0, x.f1, x.f2⟩).getD (i : Int).toNat z40 = ⟨rd x.f1 0, x.f1, x.f2⟩ from by rw [Int.toNat_natCast, List.getD_eq_getElem?_getD, List.getElem?_set_self (by omega)]; rfl] at hM3
  obtain ⟨A3, c3', rfl, _, _⟩ := k40_openF hM3
  have F5 := Kd.F_cut (m := 1) (c := cp) (Kd.F_drew F3) (by omega) hle
  replace F5 : Kd.F (Kd.int .i64) w3.drew _ A' (x.f1.drop 1).length (x.f1.drop 1) := HA.out ▸ F5
  have e1 : x.f1.length - 1 = (x.f1.drop 1).length := by rw [List.length_drop]
  rw [e1]
  have n5 := (Kd.N_seg (Kd.N_drew n3) (i : Int) (by omega) hi (seg := [.slice A' (x.f1.drop 1).length (cp - 1)]) (j := 1) hc3 hcc3 (show 1 + 1 ≤ 3 by omega) (x' := ⟨rd x.f1 0, x.f1.drop 1, x.f2⟩) (k40_mkF w3.drew _ ⟨rd x.f1 0, x.f1.drop 1, x.f2⟩ (by rw [← e1]; omega) F5) (fun _ hk => hk)).1
  rw [List.set_set] at n5
  have hk5 : ∀ k, k < w1.heap.size → k ≠ gT → (w3.drew.setCell ⟨gT, i * 3 + 1, none⟩ (.slice A' (x.f1.drop 1).length (cp - 1))).heap[k]? = w1.heap[k]? := fun k hk hn => (Below.heap_setCell w3.drew ⟨gT, i * 3 + 1, none⟩ _ k hn).trans (hk3 k hk hn)
  have BO5 : (w3.drew.setCell ⟨gT, i * 3 + 1, none⟩ (.slice A' (x.f1.drop 1).length (cp - 1))).heap[w1.heap.size]? = _ := (Below.heap_setCell w3.drew ⟨gT, i * 3 + 1, none⟩ _ _ hO).trans ((hk3' _ hO).trans BO.out)
  have HB3 : Below w.heap.size w w3 := by rw [← HW3.out]; exact below_drew ((pw_below_grown HB1.out _ HB1.out.size HG.out (by intro k hk; injection hk with hk; omega)).setCell (show w.heap.size ≤ gT by omega) _)
  have HB5 : Below w.heap.size w (w3.drew.setCell ⟨gT, i * 3 + 1, none⟩ (.slice A' (x.f1.drop 1).length (cp - 1))) := (below_drew HB3).setCell (show w.heap.size ≤ gT by omega) _
  replace n5 : Kd.N k40 40 (w3.drew.setCell ⟨gT, i * 3 + 1, none⟩ (.slice A' (x.f1.drop 1).length (cp - 1))) _ _ _ _ := n5
  generalize (w3.drew.setCell ⟨gT, i * 3 + 1, none⟩ (.slice A' (x.f1.drop 1).length (cp - 1))) = w5 at *
  have hg := (P1.out.1 gT rfl).1
  have hWl : w.heap.size ≤ W.heap.size := by omega
  have Z0 := Aside0.mk (Kd.R_step (Kd.R_tight rfl P0.out) (w1 := w5) (fun k hk hlt => hk5 k hlt (fun e => hg.1 (e ▸ hk))))
  have Z2 := Aside0.mk (Kd.R_step (Kd.R_tight rfl P2.out) (w1 := w5) (fun k hk hlt => hk5 k hlt (fun e => hg.2 (e ▸ hk))))
  have Z1 := Aside0.mk n5
  have BN5 := Aside0.mk ((hk5 _ (blk_lt BN1.out) (by omega)).trans BN1.out)
  have ZB := Aside0.mk HB5
  have x0 : w5.cell? ⟨w1.heap.size, 0, none⟩ = some (.slice B0 t1.length d0) := (blk_cell BO5 0).trans rfl
  have x1 : w5.cell? ⟨w1.heap.size, 1, none⟩ = some (.slice (some ⟨gT, 0, none⟩) t2.length d1) := (blk_cell BO5 1).trans rfl
  have x2 : w5.cell? ⟨w1.heap.size, 2, none⟩ = some (.slice B2 t3.length d2) := (blk_cell BO5 2).trans rfl
  clear n5 n3 n2 hk3 hk3' HB5 HB3 hk5 F5 F3 F2 hcc3 hc3 e1 BO5 y1 y2 y4 hS BO HG HE hM3
  go_wp2_with (first
   | ((with_reducible refine gate_store (t := 30) (p := 4) rfl ?_); (try simp only [Act.put, List.setIfInBounds_toArray, List.set_cons_zero, List.set_cons_succ]); refine spec_l1copy.row_wr_ rfl 30 (.tmp 4) (.tmp 41) rfl rfl (w.heap.size + 1) rfl (c' := #[.slice B0 t1.length d0, .slice (some ⟨gT, 0, none⟩) t2.length d1, .slice B2 t3.length d2]) rfl BN5.out spec_l1copy.info26_ rfl (by simp [Value.oneCell']) ?_; intro w6 h6 g6; have BR6 := Aside0.mk h6; have HG6 := Aside0.mk g6; clear h6 g6))
  refine bodyPost_ret (results_cell_row rfl _ _ (w.heap.size + 1) 30 #[.slice B0 t1.length d0, .slice (some ⟨gT, 0, none⟩) t2.length d1, .slice B2 t3.length d2] (0, 0) _ rfl BR6.out hu26 rfl spec_l1copy.info26_) rfl ?_
  have hst : ∀ k, W.heap.size ≤ k → k < w5.heap.size → w6.heap[k]? = w5.heap[k]? := fun k hk hl => HG6.out.block k hl (by intro e; injection e with e; omega)
  refine ⟨_, _, _, rfl, Kd.R_reok rfl (Kd.R_lower (Kd.R_step Z0.out (fun k hk hl => hst k (P0.out.1 k hk.symm).2.1 hl)) hWl) (fun k e => ⟨Nat.le_trans hWl (P0.out.1 k e).2.1, (P0.out.1 k e).1⟩), ?_, Kd.R_reok rfl (Kd.R_lower (Kd.R_step Z2.out (fun k hk hl => hst k (P2.out.1 k hk.symm).2.1 hl)) hWl) (fun k e => ⟨Nat.le_trans hWl (P2.out.1 k e).2.1, (P2.out.1 k e).1⟩), pw_below_grown ZB.out _ ZB.out.size HG6.out (by intro k hk; injection hk with hk; omega)⟩
  have hz := Kd.N_mono (Kd.N_lower (Kd.N_step Z1.out (w1 := w6) (fun k hk hl => hst k hk.2.1 hl)) hWl) (ok' := fun k => w.heap.size ≤ k ∧ some k ≠ (Value.slice B0 t1.length d0).ownBlock ∧ some k ≠ (Value.slice B2 t3.length d2).ownBlock) (fun k hk => ⟨Nat.le_trans hWl hk.2.1, hk.1⟩)
  rw [List.drop_one] at hz
  exact hz
 ·rw [if_neg c0, if_pos (by omega)] at hrr
  have d15 : decide ((x.f1.length : Int) > 0) = false := decide_eq_false c0
  have hlt := (Kd.S_reads' P1s.out).2.2.2.1
  by_cases c1 : 0 ≤ wrap64 ((i : Int) + 1)
  rotate_left
  ·rw [if_neg c1] at hrr; exact absurd hrr (by simp)
  rw [if_pos c1] at hrr
  have ew : wrap64 ((i : Int) + 1) = ((i + 1 : Nat) : Int) := by unfold wrap64 at c1 ⊢; omega
  by_cases c2 : wrap64 ((i : Int) + 1) ≤ (t2.length : Int)
  rotate_left
  ·rw [if_neg c2] at hrr; exact absurd hrr (by simp)
  rw [if_pos c2] at hrr
  by_cases c3 : (i : Int) ≤ (t3.length : Int)
  rotate_left
  ·rw [if_neg c3] at hrr; exact absurd hrr (by simp)
  rw [if_pos c3] at hrr
  by_cases c4 : wrap64 ((i : Int) + 1) ≤ (t3.length : Int)
  rotate_left
  ·rw [if_neg c4] at hrr; exact absurd hrr (by simp)
  rw [if_pos c4, Option.some.injEq, Prod.mk.injEq, Prod.mk.injEq] at hrr
  obtain ⟨rfl, rfl, rfl⟩ := hrr
  rw [ew] at c2 c4
  have EW := Aside0.mk ew
  clear c1 ew
  obtain ⟨gN, dN, eN, _, hN2, _⟩ := Kd.R_form P2.out (by omega)
  injection eN with eN _ eN'
  subst eN eN'
  have p0 : (0 : Int) ≤ (i : Int) := by omega
  have p1 : (i : Int) ≤ (t2.length : Int) := by omega
  have p2 : (t2.length : Int) ≤ (d1 : Int) := by have := (Kd.S_reads' P1s.out).2.1; omega
  have p3 : (t3.length : Int) ≤ (d2 : Int) := by have := (Kd.R_reads' P2.out).2.1; omega
  clear hlt
  go_wp2_with (first
   | ((with_reducible refine gate_store (t := 30) (p := 5) rfl ?_); (try simp only [Act.put, List.setIfInBounds_toArray, List.set_cons_zero, List.set_cons_succ]); refine spec_l1copy.row_wr_ rfl 30 (.tmp 5) (.tmp 7) rfl rfl w1.heap.size rfl (c' := #[.slice B0 t1.length d0, .slice (some ⟨gT, 0, none⟩) t2.length d1, .slice (some ⟨gN, 0, none⟩) t3.length d2]) rfl BO1.out spec_l1copy.info26_ rfl (by simp [Value.oneCell']) ?_; intro w2 h2 g2; have BO := Aside0.mk h2; have HG := Aside0.mk g2; have HE := Aside0.mk (fun k (hk : k < w1.heap.size) => (HG.out.block k (by rw [e5]; omega) (by intro e; injection e with e; omega)).trans (Below.heap_alloc w1 _ k hk)); have z1 : w2.cell? ⟨w1.heap.size, 1, none⟩ = some (.slice (some ⟨gT, 0, none⟩) t2.length d1) := (blk_cell h2 1).trans rfl; have z2 := Kd.cell_heap HE.out hp1; clear h2 g2))
  obtain ⟨A6, hA6⟩ : ∃ A' : Option Addr, A' = if d1 = i + 1 then some ⟨gT, 0, none⟩ else (some (⟨gT, 0, none⟩ : Addr)).map (·.add ((i + 1) * 3)) := ⟨_, rfl⟩
  have HA6 := Aside0.mk hA6
  clear hA6 z2
  refine start_ (n := 12) (S := fun w' => w'.cell? ⟨w1.heap.size, 1, none⟩ = some (.slice (some ⟨gT, 0, none⟩) t2.length d1)) (ds := [11]) (Array.replicate 12 false) (by kernel_rfl) rfl rfl z1 (fun hS => ?_)
  refine spec_l1copy.np_ 0 42 rfl rfl (by kernel_rfl) (fun _ _ _ h => h) (by rfl) (fun w' => by go_simp; with_reducible rfl) (by simp only [spec_l1copy.AP_, i64_w]; rfl) ?_
  refine spec_l1copy.nt_ hS 1 43 rfl rfl (by kernel_rfl) (fun _ _ _ h => h) (by rfl) (fun w' s0 => by go_simp; with_reducible rfl) (by simp only [spec_l1copy.AP_, i64_w]; rfl) ?_
  refine spec_l1copy.np_ 2 44 rfl rfl (by kernel_rfl) (fun _ _ _ h => h) (by rfl) (fun w' => by go_simp; with_reducible rfl) (by simp only [spec_l1copy.AP_, i64_w]; rfl) ?_
  refine spec_l1copy.np_ 3 45 (v := .slice (some ⟨gT, 0, none⟩) i d1) rfl rfl (by kernel_rfl) (fun _ _ _ h => h) (by rfl) (fun w' => by go_simp; intro _; exfalso; omega) (by simp only [spec_l1copy.AP_, i64_w]; rfl) ?_
  refine spec_l1copy.np_ 4 46 rfl rfl (by kernel_rfl) (fun _ _ _ h => h) (by rfl) (fun w' => by go_simp; with_reducible rfl) (by simp only [spec_l1copy.AP_, i64_w]; rfl) ?_
  refine spec_l1copy.nt_ hS 5 47 rfl rfl (by kernel_rfl) (fun _ _ _ h => h) (by rfl) (fun w' s0 => by go_simp; with_reducible rfl) (by simp only [spec_l1copy.AP_, i64_w]; rfl) ?_
  refine spec_l1copy.np_ 6 48 rfl rfl (by kernel_rfl) (fun _ _ _ h => h) (by rfl) (fun w' => by go_simp; with_reducible rfl) (by simp only [spec_l1copy.AP_, i64_w]; rfl) ?_
  refine spec_l1copy.np_ 7 49 (v := .int .i64 ((i + 1 : Nat) : Int)) rfl rfl (by kernel_rfl) (fun _ _ _ h => h) (by rfl) (fun w' => by go_simp; rw [i64_w, EW.out]; omega) (by simp only [spec_l1copy.AP_, i64_w]; rfl) ?_
  refine spec_l1copy.np_ 8 50 (v := .slice A6 (t2.length - (i + 1)) (d1 - (i + 1))) rfl rfl (by kernel_rfl) (fun _ _ _ h => h) (by rfl) (fun w' => by go_simp; rw [if_pos (by omega), HA6.out]; simp [Addr.add]) (by simp only [spec_l1copy.AP_, i64_w]; rfl) ?_
  have n2 := Kd.N_lower (Kd.N_drew (Kd.N_step P1.out (w1 := w2) (fun k hk hlt => HE.out k hlt))) (show w.heap.size ≤ W.heap.size by omega)
  have b2 : Below w.heap.size w w2.drew := below_drew (pw_below_grown HB1.out _ HB1.out.size HG.out (by intro k hk; injection hk with hk; omega))
  have ll : w1.heap.size < w2.heap.size := blk_lt BO.out
  refine spec_l1copy.no_ 9 51 rfl rfl (by kernel_rfl) (by decide) (fun K hK => ?_)
  refine Kd.N_delete_step k40 (w0 := w) w.heap.size (by rfl) (.tmp 45) (.tmp 50) 28 40 rfl Try.underlying28 (by kernel_rfl) (g := gT) (n := t2.length) (c := d1) (k := i) rfl rfl HA6.out rfl n2 (by omega) b2 b2.size ?_
  intro w4 n4 b4 g4
  have h4 : ∀ k, k ≠ gT → k < w2.heap.size → w4.heap[k]? = w2.heap[k]? := fun k hn hl => g4.block k hl (fun e => hn (by injection e))
  have BO4 := Aside0.mk ((h4 _ (by omega) ll).trans BO.out)
  refine hK _ _ ((blk_cell BO4.out 1).trans rfl) (fun hS => norm_ (by show Act.put _ (some 51) _ = _; simp only [spec_l1copy.AP_]; rfl) ?_)
  refine spec_l1copy.np_ 10 52 rfl rfl (by kernel_rfl) (fun _ _ _ h => h) (by rfl) (fun w' => by go_simp; with_reducible rfl) (by simp only [spec_l1copy.AP_, i64_w]; rfl) ?_
  refine spec_l1copy.nl_ 11 (w4.setCell ⟨w1.heap.size, 1, none⟩ (.slice (some ⟨gT, 0, none⟩) (t2.length - 1) d1)) rfl rfl (by kernel_rfl) (by decide) (by rfl) (by kernel_rfl) (by have h9 := blk_frozen BO4.out 1; go_simp) ?_
  go_wp2_with (fail)
  have hg := (P1.out.1 gT rfl).1
  have hNT : gN ≠ gT := fun e => hg.2 (by rw [← e]; rfl)
  have BO5 := Aside0.mk (show (w4.setCell ⟨w1.heap.size, 1, none⟩ (.slice (some ⟨gT, 0, none⟩) (t2.length - 1) d1)).heap[w1.heap.size]? = some (.cells #[.slice B0 t1.length d0, .slice (some ⟨gT, 0, none⟩) (t2.length - 1) d1, .slice (some ⟨gN, 0, none⟩) t3.length d2] 30 (0, 0)) from blk_put BO4.out 1 _ rfl)
  have n5 := Kd.N_far (p := ⟨w1.heap.size, 1, none⟩) n4 (fun k hk => by have := hk.2.2.1; show k ≠ w1.heap.size; omega) (.slice (some ⟨gT, 0, none⟩) (t2.length - 1) d1)
  have h5 : ∀ k, k < w1.heap.size → k ≠ gT → (w4.setCell ⟨w1.heap.size, 1, none⟩ (.slice (some ⟨gT, 0, none⟩) (t2.length - 1) d1)).heap[k]? = w1.heap[k]? := fun k hk hn => (Below.heap_setCell w4 ⟨w1.heap.size, 1, none⟩ _ k (by show k ≠ w1.heap.size; omega)).trans ((h4 k hn (by omega)).trans (HE.out k hk))
  have b5 := b4.setCell (p := ⟨w1.heap.size, 1, none⟩) (show w.heap.size ≤ w1.heap.size by omega) (u := .slice (some ⟨gT, 0, none⟩) (t2.length - 1) d1)
  clear n4 h4 BO4 b4 g4 n2 b2 hK K
  generalize w4.setCell ⟨w1.heap.size, 1, none⟩ (.slice (some ⟨gT, 0, none⟩) (t2.length - 1) d1) = w5 at *
  have r5 := Kd.R_lower (Kd.R_drew (Kd.R_step (Kd.R_tight rfl P2.out) (w1 := w5) (fun k hk hlt => h5 k hlt (fun e => hg.2 (e ▸ hk))))) (show w.heap.size ≤ W.heap.size by omega)
  have z5 : w5.cell? ⟨w1.heap.size, 2, none⟩ = some (.slice (some ⟨gN, 0, none⟩) t3.length d2) := (blk_cell BO5.out 2).trans rfl
  have p4 : (i : Int) ≤ (d2 : Int) := by omega
  obtain ⟨A7, hA7⟩ : ∃ A' : Option Addr, A' = if d2 = i + 1 then some ⟨gN, 0, none⟩ else (some (⟨gN, 0, none⟩ : Addr)).map (·.add ((i + 1) * 1)) := ⟨_, rfl⟩
  have HA7 := Aside0.mk hA7
  clear hA7
  refine start_ (n := 12) (S := fun w' => w'.cell? ⟨w1.heap.size, 2, none⟩ = some (.slice (some ⟨gN, 0, none⟩) t3.length d2)) (ds := [11]) (Array.replicate 12 false) (by kernel_rfl) rfl rfl z5 (fun hS => ?_)
  refine spec_l1copy.np_ 0 53 rfl rfl (by kernel_rfl) (fun _ _ _ h => h) (by rfl) (fun w' => by go_simp; with_reducible rfl) (by simp only [spec_l1copy.AP_, i64_w]; rfl) ?_
  refine spec_l1copy.nt_ hS 1 54 rfl rfl (by kernel_rfl) (fun _ _ _ h => h) (by rfl) (fun w' s0 => by go_simp; with_reducible rfl) (by simp only [spec_l1copy.AP_, i64_w]; rfl) ?_
  refine spec_l1copy.np_ 2 55 rfl rfl (by kernel_rfl) (fun _ _ _ h => h) (by rfl) (fun w' => by go_simp; with_reducible rfl) (by simp only [spec_l1copy.AP_, i64_w]; rfl) ?_
  refine spec_l1copy.np_ 3 56 (v := .slice (some ⟨gN, 0, none⟩) i d2) rfl rfl (by kernel_rfl) (fun _ _ _ h => h) (by rfl) (fun w' => by go_simp) (by simp only [spec_l1copy.AP_, i64_w]; rfl) ?_
  refine spec_l1copy.np_ 4 57 rfl rfl (by kernel_rfl) (fun _ _ _ h => h) (by rfl) (fun w' => by go_simp; with_reducible rfl) (by simp only [spec_l1copy.AP_, i64_w]; rfl) ?_
  refine spec_l1copy.nt_ hS 5 58 rfl rfl (by kernel_rfl) (fun _ _ _ h => h) (by rfl) (fun w' s0 => by go_simp; with_reducible rfl) (by simp only [spec_l1copy.AP_, i64_w]; rfl) ?_
  refine spec_l1copy.np_ 6 59 rfl rfl (by kernel_rfl) (fun _ _ _ h => h) (by rfl) (fun w' => by go_simp; with_reducible rfl) (by simp only [spec_l1copy.AP_, i64_w]; rfl) ?_
  refine spec_l1copy.np_ 7 60 (v := .int .i64 ((i + 1 : Nat) : Int)) rfl rfl (by kernel_rfl) (fun _ _ _ h => h) (by rfl) (fun w' => by go_simp; rw [i64_w, EW.out]; omega) (by simp only [spec_l1copy.AP_, i64_w]; rfl) ?_
  refine spec_l1copy.np_ 8 61 (v := .slice A7 (t3.length - (i + 1)) (d2 - (i + 1))) rfl rfl (by kernel_rfl) (fun _ _ _ h => h) (by rfl) (fun w' => by go_simp; rw [if_pos (by omega), HA7.out]; simp [Addr.add]) (by simp only [spec_l1copy.AP_, i64_w]; rfl) ?_
  refine spec_l1copy.no_ 9 62 rfl rfl (by kernel_rfl) (by decide) (fun K hK => ?_)
  refine Kd.R_delete_step (Kd.int .i64) (w0 := w) w.heap.size (by rfl) (.tmp 56) (.tmp 61) 22 3 rfl Try.underlying22 (by kernel_rfl) (g := gN) (n := t3.length) (c := d2) (k := i) rfl rfl HA7.out rfl r5 (by omega) (below_drew b5) b5.size ?_
  intro w6 r6 b6 g6
  have h6 : ∀ k, k ≠ gN → k < w5.heap.size → w6.heap[k]? = w5.heap[k]? := fun k hn hl => g6.block k hl (fun e => hn (by injection e))
  have BO6 := Aside0.mk ((h6 _ (by omega) (blk_lt BO5.out)).trans BO5.out)
  refine hK _ _ ((blk_cell BO6.out 2).trans rfl) (fun hS => norm_ (by show Act.put _ (some 62) _ = _; simp only [spec_l1copy.AP_]; rfl) ?_)
  refine spec_l1copy.np_ 10 63 rfl rfl (by kernel_rfl) (fun _ _ _ h => h) (by rfl) (fun w' => by go_simp; with_reducible rfl) (by simp only [spec_l1copy.AP_, i64_w]; rfl) ?_
  refine spec_l1copy.nl_ 11 (w6.setCell ⟨w1.heap.size, 2, none⟩ (.slice (some ⟨gN, 0, none⟩) (t3.length - 1) d2)) rfl rfl (by kernel_rfl) (by decide) (by rfl) (by kernel_rfl) (by have h9 := blk_frozen BO6.out 2; go_simp) ?_
  have BO7 := Aside0.mk (show (w6.setCell ⟨w1.heap.size, 2, none⟩ (.slice (some ⟨gN, 0, none⟩) (t3.length - 1) d2)).heap[w1.heap.size]? = some (.cells #[.slice B0 t1.length d0, .slice (some ⟨gT, 0, none⟩) (t2.length - 1) d1, .slice (some ⟨gN, 0, none⟩) (t3.length - 1) d2] 30 (0, 0)) from blk_put BO6.out 2 _ rfl)
  have h7 : ∀ k, k < w1.heap.size → k ≠ gN → (w6.setCell ⟨w1.heap.size, 2, none⟩ (.slice (some ⟨gN, 0, none⟩) (t3.length - 1) d2)).heap[k]? = w5.heap[k]? := fun k hk hn => (Below.heap_setCell w6 ⟨w1.heap.size, 2, none⟩ _ k (by show k ≠ w1.heap.size; omega)).trans (h6 k hn (Nat.lt_trans hk (blk_lt BO5.out)))
  have hN3 : some gN ≠ (Value.slice B0 t1.length d0).ownBlock := (P2.out.1 gN rfl).1
  have Z0 := Aside0.mk (Kd.R_step (Kd.R_tight rfl P0.out) (w1 := w6.setCell ⟨w1.heap.size, 2, none⟩ (.slice (some ⟨gN, 0, none⟩) (t3.length - 1) d2)) (fun k hk hlt => (h7 k hlt (fun e => hN3 (e ▸ hk))).trans (h5 k hlt (fun e => hg.1 (e ▸ hk)))))
  have Z1 := Aside0.mk (Kd.N_step (Kd.N_mono n5 (fun k hk => (⟨hk, fun e => hk.1.2 (by rw [e]; rfl)⟩ : _ ∧ k ≠ gN))) (w1 := w6.setCell ⟨w1.heap.size, 2, none⟩ (.slice (some ⟨gN, 0, none⟩) (t3.length - 1) d2)) (fun k hk _ => h7 k hk.1.2.2.1 hk.2))
  have Z2 := Aside0.mk (Kd.R_far (p := ⟨w1.heap.size, 2, none⟩) r6 (fun k hk => by have h9 : k = gN := Option.some.inj hk; show k ≠ w1.heap.size; omega) (.slice (some ⟨gN, 0, none⟩) (t3.length - 1) d2))
  have ZB := Aside0.mk (b6.setCell (p := ⟨w1.heap.size, 2, none⟩) (show w.heap.size ≤ w1.heap.size by omega) (u := .slice (some ⟨gN, 0, none⟩) (t3.length - 1) d2))
  have BN7 := Aside0.mk ((h7 _ (blk_lt BN1.out) (by have := (P2.out.1 gN rfl).2.1; omega)).trans ((h5 _ (blk_lt BN1.out) (by omega)).trans BN1.out))
  clear r6 h6 BO6 b6 g6 r5 hK K h5 n5 b5 h7 z5 hS
  generalize w6.setCell ⟨w1.heap.size, 2, none⟩ (.slice (some ⟨gN, 0, none⟩) (t3.length - 1) d2) = w7 at *
  have x0 : w7.cell? ⟨w1.heap.size, 0, none⟩ = some (.slice B0 t1.length d0) := (blk_cell BO7.out 0).trans rfl
  have x1 : w7.cell? ⟨w1.heap.size, 1, none⟩ = some (.slice (some ⟨gT, 0, none⟩) (t2.length - 1) d1) := (blk_cell BO7.out 1).trans rfl
  have x2 : w7.cell? ⟨w1.heap.size, 2, none⟩ = some (.slice (some ⟨gN, 0, none⟩) (t3.length - 1) d2) := (blk_cell BO7.out 2).trans rfl
  go_wp2_with (first
   | ((with_reducible refine gate_store (t := 30) (p := 4) rfl ?_); (try simp only [Act.put, List.setIfInBounds_toArray, List.set_cons_zero, List.set_cons_succ]); refine spec_l1copy.row_wr_ rfl 30 (.tmp 4) (.tmp 64) rfl rfl (w.heap.size + 1) rfl (c' := #[.slice B0 t1.length d0, .slice (some ⟨gT, 0, none⟩) (t2.length - 1) d1, .slice (some ⟨gN, 0, none⟩) (t3.length - 1) d2]) rfl BN7.out spec_l1copy.info26_ rfl (by simp [Value.oneCell']) ?_; intro w8 h8 g8; have BR8 := Aside0.mk h8; have HG8 := Aside0.mk g8; clear h8 g8))
  refine bodyPost_ret (results_cell_row rfl _ _ (w.heap.size + 1) 30 #[.slice B0 t1.length d0, .slice (some ⟨gT, 0, none⟩) (t2.length - 1) d1, .slice (some ⟨gN, 0, none⟩) (t3.length - 1) d2] (0, 0) _ rfl BR8.out hu26 rfl spec_l1copy.info26_) rfl ?_
  have hst : ∀ k, W.heap.size ≤ k → k < w7.heap.size → w8.heap[k]? = w7.heap[k]? := fun k hk hl => HG8.out.block k hl (by intro e; injection e with e; omega)
  have hWl : w.heap.size ≤ W.heap.size := by omega
  refine ⟨_, _, _, rfl, Kd.R_reok rfl (Kd.R_lower (Kd.R_step Z0.out (fun k hk hl => hst k (P0.out.1 k hk.symm).2.1 hl)) hWl) (fun k e => ⟨Nat.le_trans hWl (P0.out.1 k e).2.1, (P0.out.1 k e).1⟩), ?_, Kd.R_reok rfl (Kd.R_step Z2.out (fun k hk hl => hst k (P2.out.1 k hk.symm).2.1 hl)) (fun k e => ⟨Nat.le_trans hWl (P2.out.1 k e).2.1, (P2.out.1 k e).1⟩), pw_below_grown ZB.out _ ZB.out.size HG8.out (by intro k hk; injection hk with hk; omega)⟩
  exact Kd.N_mono (Kd.N_step Z1.out (w1 := w8) (fun k hk hl => hst k hk.1.2.1 hl)) (ok' := fun k => w.heap.size ≤ k ∧ some k ≠ (Value.slice B0 t1.length d0).ownBlock ∧ some k ≠ (Value.slice (some ⟨gN, 0, none⟩) (t3.length - 1) d2).ownBlock) (fun k hk => ⟨Nat.le_trans hWl hk.1.2.1, hk.1.1⟩)


/-! ### spec_Step: function 48 -/
def spec_Step.f (k : Nat) (l0_0 : List Int) (l0_1 : List (S40)) (l0_2 : List Int) (a1 : Int) : Option (List Int × (List (S40)) × List Int) := (spec_StateOk.f k l0_0 l0_1 l0_2).bind fun t434 => (if t434 = 0 then ((spec_l1name.f k l0_0 l0_1 l0_2 a1).bind fun t435 => (if t435 < 0 then (some (([] : List Int), ([] : List (S40)), ([] : List Int))) else ((spec_l1can.f k l0_0 l0_1 l0_2 t435).bind fun t436 => (if t436 = true then ((spec_l1step.f k l0_0 l0_1 l0_2 t435).bind fun bt437 => (some (bt437.1, bt437.2.1, bt437.2.2))) else (some (([] : List Int), ([] : List (S40)), ([] : List Int))))))) else (some (([] : List Int), ([] : List (S40)), ([] : List Int))))
theorem spec_Step.mono : ∀ a0 a1 a2 a3 k, LeO (spec_Step.f k a0 a1 a2 a3) (spec_Step.f (k + 1) a0 a1 a2 a3) := by
 intro a0 a1 a2 a3 k
 unfold spec_Step.f
 repeat' with_reducible first | exact spec_StateOk.mono _ _ _ _ | exact spec_l1can.mono _ _ _ _ _ | exact spec_l1name.mono _ _ _ _ _ | exact spec_l1step.mono _ _ _ _ _ | exact LeO.refl _ | exact LeO.none _ | refine LeO.ite ?_ ?_ | refine LeO.bind ?_ (fun _ => ?_)
set_option maxHeartbeats 8000000 in
set_option maxRecDepth 100000 in
theorem spec_Step.calls (k : Nat) (A0_0 : Option Addr) (c0_0 : Nat) (l0_0 : List Int) (A0_1 : Option Addr) (c0_1 : Nat) (l0_1 : List (S40)) (A0_2 : Option Addr) (c0_2 : Nat) (l0_2 : List Int) (a1 : Int) (r1 : List Int) (r2 : List (S40)) (r3 : List Int) (w : World) (hr0_0 : Kd.C (Kd.int .i64) w A0_0 l0_0.length l0_0) (hc0_0 : l0_0.length ≤ c0_0) (hr0_1 : Kd.C k40 w A0_1 l0_1.length l0_1) (hc0_1 : l0_1.length ≤ c0_1) (hr0_2 : Kd.C (Kd.int .i64) w A0_2 l0_2.length l0_2) (hc0_2 : l0_2.length ≤ c0_2) (h : spec_Step.f k l0_0 l0_1 l0_2 a1 = some (r1, r2, r3)) :
  Calls Try.prog 48 #[.agg #[.slice A0_0 l0_0.length c0_0, .slice A0_1 l0_1.length c0_1, .slice A0_2 l0_2.length c0_2], .int .i64 a1] w fun e w' => ∃ v0_ v1_ v2_ : Value, e = .returned (.agg #[v0_, v1_, v2_]) ∧ Kd.R (Kd.int .i64) 3 w' w.heap.size (fun k_ => (w.heap.size ≤ k_) ∧ X_ k_ v2_) v0_ r1 ∧ Kd.N k40 40 w' w.heap.size (fun k_ => (w.heap.size ≤ k_) ∧ X_ k_ v0_ ∧ X_ k_ v2_) v1_ r2 ∧ Kd.R (Kd.int .i64) 3 w' w.heap.size (fun k_ => (w.heap.size ≤ k_) ∧ X_ k_ v0_) v2_ r3 ∧ Below w.heap.size w w' := by
 have hu30 := Try.underlying30
 have HR0_0 := K_ hr0_0
 have HC0_0 := K_ hc0_0
 clear hr0_0 hc0_0
 have HR0_1 := K_ hr0_1
 have HC0_1 := K_ hc0_1
 clear hr0_1 hc0_1
 have HR0_2 := K_ hr0_2
 have HC0_2 := K_ hc0_2
 clear hr0_2 hc0_2
 have HB := K_ (Below.refl w.heap.size w)
 unfold spec_Step.f at h
 have H := h
 clear h
 replace H := Option.bind_eq_some_iff.mp H
 obtain ⟨t434, A30, H⟩ := H
 try dsimp only at H
 have A3 := K_ A30
 clear A30
 replace H := ps_ H
 rcases H with ⟨c4, H⟩ | ⟨c4, H⟩
 case inr =>
  have c4b0 := beq_eq_false_iff_ne.mpr c4
  have c4b1 := bne_iff_ne.mpr c4
  simp only [Option.some.injEq, Prod.mk.injEq] at H
  obtain ⟨rfl, rfl, rfl⟩ := H
  go_enter Try.func48, Try.ntmps48
  go_wp2_with (first | ((with_reducible refine gate_dst (N := 2) rfl ?_); refine box_event (by rfl) (N := 2) (by rfl) (cs := #[.slice A0_0 l0_0.length c0_0, .slice A0_1 l0_1.length c0_1, .slice A0_2 l0_2.length c0_2]) (t := 30) (by go_simp; try rfl) ?_; intro gb432 hg w43 hbox hb; have BK432 := K_ (hbox); have GW432 := ge_ hg HB.out; have GE432 := ge_ hg HB.out; replace HB := K_ (below_step HB.out hb); clear hb hbox hg) | ((with_reducible refine gate_dst (N := 4) rfl ?_); refine box_event (by rfl) (N := 4) (by rfl) (cs := #[.slice none 0 0, .slice none 0 0, .slice none 0 0]) (t := 30) (by go_simp; try rfl) ?_; intro gb433 hg w44 hbox hb; have BK433 := K_ (hbox); have GW433 := ge_ hg HB.out; have GE433 := ge_ hg HB.out; have NB432_433 := nl_ hg BK432.out; have NB433_432 := ng_ hg BK432.out; replace BK432 := K_ (blk_below BK432.out hb); replace HB := K_ (below_step HB.out hb); clear hb hbox hg; have hnb45 := NB432_433.out; have hnc45 := NB433_432.out; obtain ⟨hcz46_0, hcz46_1, hcz46_2, hfz46_0, hfz46_1, hfz46_2⟩ := blkf3_ BK432.out) | ((with_reducible refine gate_callee (f := 23) rfl ?_); refine goesL_ (some 7) rfl rfl Try.func23 (by kernel_rfl) rfl #[.agg #[.slice A0_0 l0_0.length c0_0, .slice A0_1 l0_1.length c0_1, .slice A0_2 l0_2.length c0_2]] rfl (by simp only [List.map_toArray, List.map_cons, List.map_nil]; try rfl) ?_; (with_reducible refine (spec_StateOk.calls k _ _ l0_0 _ _ l0_1 _ _ l0_2 t434 _ ?side1 ?side2 ?side3 ?side4 ?side5 ?side6 A3.out).mono ?_); (case side1 => exact (Kd.C_below HR0_0.out HB.out)); (case side2 => exact HC0_0.out); (case side3 => exact (Kd.C_below HR0_1.out HB.out)); (case side4 => exact HC0_1.out); (case side5 => exact (Kd.C_below HR0_2.out HB.out)); (case side6 => exact HC0_2.out); rintro e w47 ⟨rfl, hb⟩; refine ⟨_, rfl, ?_⟩; replace BK432 := K_ (blk_below BK432.out hb); replace BK433 := K_ (blk_below BK433.out hb); replace HB := K_ (below_step HB.out hb); clear hb; obtain ⟨hcz48_0, hcz48_1, hcz48_2, hfz48_0, hfz48_1, hfz48_2⟩ := blkf3_ BK433.out))
  refine bodyPost_ret (results_cell_row rfl _ _ gb433 30 #[.slice none 0 0, .slice none 0 0, .slice none 0 0] (0, 0) _ rfl (by refine blk_put (cs := #[.slice none 0 0, .slice none 0 0, .slice none 0 0]) ?_ 2 _ rfl; refine blk_put (cs := #[.slice none 0 0, .slice none 0 0, .slice none 0 0]) ?_ 1 _ rfl; refine blk_put (cs := #[.slice none 0 0, .slice none 0 0, .slice none 0 0]) ?_ 0 _ rfl; exact BK433.out) Try.underlying30 rfl (by kernel_rfl)) rfl ?_
  exact ⟨_, _, _, by first | rfl | (simp [errW_none, errW_some] <;> rfl) | (simp [*, errW_none, errW_some] <;> rfl), by first | exact Kd.R_nil _ _ _ _ _ | exact Kd.N_nil _ _ _ _ _ | exact Kd.V_nil _ _ _ _ _ | exact Kd.Q_nil _ _ _ _ _ | exact Kd.S_nil _ _ _ _ _, by first | exact Kd.S_nil _ _ _ _ _ | exact Kd.N_nil _ _ _ _ _ | exact Kd.V_nil _ _ _ _ _ | exact Kd.Q_nil _ _ _ _ _ | exact Kd.R_nil _ _ _ _ _, by first | exact Kd.R_nil _ _ _ _ _ | exact Kd.N_nil _ _ _ _ _ | exact Kd.V_nil _ _ _ _ _ | exact Kd.Q_nil _ _ _ _ _ | exact Kd.S_nil _ _ _ _ _, by repeat (first | (with_reducible first | exact HB.out | apply below_alloc | apply pw_below_drewN | apply below_drew1 | refine below_set ?_ GE432.out | refine below_set ?_ GE433.out) | exact HB.out)⟩
 have c4b0 := beq_iff_eq.mpr c4
 have c4b1 := bne_eq_false_iff_eq.mpr c4
 clear c4
 replace H := Option.bind_eq_some_iff.mp H
 obtain ⟨t435, A50, H⟩ := H
 try dsimp only at H
 have A5 := K_ A50
 clear A50
 replace H := ds_ H
 rcases H with ⟨c6b0, H⟩ | ⟨c6b0, H⟩
 case inl =>
  simp only [Option.some.injEq, Prod.mk.injEq] at H
  obtain ⟨rfl, rfl, rfl⟩ := H
  go_enter Try.func48, Try.ntmps48
  go_wp2_with (first | ((with_reducible refine gate_dst (N := 2) rfl ?_); refine box_event (by rfl) (N := 2) (by rfl) (cs := #[.slice A0_0 l0_0.length c0_0, .slice A0_1 l0_1.length c0_1, .slice A0_2 l0_2.length c0_2]) (t := 30) (by go_simp; try rfl) ?_; intro gb432 hg w7 hbox hb; have BK432 := K_ (hbox); have GW432 := ge_ hg HB.out; have GE432 := ge_ hg HB.out; replace HB := K_ (below_step HB.out hb); clear hb hbox hg) | ((with_reducible refine gate_dst (N := 4) rfl ?_); refine box_event (by rfl) (N := 4) (by rfl) (cs := #[.slice none 0 0, .slice none 0 0, .slice none 0 0]) (t := 30) (by go_simp; try rfl) ?_; intro gb433 hg w8 hbox hb; have BK433 := K_ (hbox); have GW433 := ge_ hg HB.out; have GE433 := ge_ hg HB.out; have NB432_433 := nl_ hg BK432.out; have NB433_432 := ng_ hg BK432.out; replace BK432 := K_ (blk_below BK432.out hb); replace HB := K_ (below_step HB.out hb); clear hb hbox hg; have hnb9 := NB432_433.out; have hnc9 := NB433_432.out; obtain ⟨hcz10_0, hcz10_1, hcz10_2, hfz10_0, hfz10_1, hfz10_2⟩ := blkf3_ BK432.out) | ((with_reducible refine gate_callee (f := 23) rfl ?_); refine goesL_ (some 7) rfl rfl Try.func23 (by kernel_rfl) rfl #[.agg #[.slice A0_0 l0_0.length c0_0, .slice A0_1 l0_1.length c0_1, .slice A0_2 l0_2.length c0_2]] rfl (by simp only [List.map_toArray, List.map_cons, List.map_nil]; try rfl) ?_; (with_reducible refine (spec_StateOk.calls k _ _ l0_0 _ _ l0_1 _ _ l0_2 t434 _ ?side1 ?side2 ?side3 ?side4 ?side5 ?side6 A3.out).mono ?_); (case side1 => exact (Kd.C_below HR0_0.out HB.out)); (case side2 => exact HC0_0.out); (case side3 => exact (Kd.C_below HR0_1.out HB.out)); (case side4 => exact HC0_1.out); (case side5 => exact (Kd.C_below HR0_2.out HB.out)); (case side6 => exact HC0_2.out); rintro e w11 ⟨rfl, hb⟩; refine ⟨_, rfl, ?_⟩; replace BK432 := K_ (blk_below BK432.out hb); replace BK433 := K_ (blk_below BK433.out hb); replace HB := K_ (below_step HB.out hb); clear hb; obtain ⟨hcz12_0, hcz12_1, hcz12_2, hfz12_0, hfz12_1, hfz12_2⟩ := blkf3_ BK432.out) | ((with_reducible refine gate_callee (f := 51) rfl ?_); refine goesL_ (some 12) rfl rfl Try.func51 (by kernel_rfl) rfl #[.agg #[.slice A0_0 l0_0.length c0_0, .slice A0_1 l0_1.length c0_1, .slice A0_2 l0_2.length c0_2], .int .i64 a1] rfl (by simp only [List.map_toArray, List.map_cons, List.map_nil]; try rfl) ?_; (with_reducible refine (spec_l1name.calls k _ _ l0_0 _ _ l0_1 _ _ l0_2 a1 t435 _ ?side1 ?side2 ?side3 ?side4 ?side5 ?side6 A5.out).mono ?_); (case side1 => exact (Kd.C_below HR0_0.out HB.out)); (case side2 => exact HC0_0.out); (case side3 => exact (Kd.C_below HR0_1.out HB.out)); (case side4 => exact HC0_1.out); (case side5 => exact (Kd.C_below HR0_2.out HB.out)); (case side6 => exact HC0_2.out); rintro e w13 ⟨rfl, hb⟩; refine ⟨_, rfl, ?_⟩; replace BK432 := K_ (blk_below BK432.out hb); replace BK433 := K_ (blk_below BK433.out hb); replace HB := K_ (below_step HB.out hb); clear hb; obtain ⟨hcz14_0, hcz14_1, hcz14_2, hfz14_0, hfz14_1, hfz14_2⟩ := blkf3_ BK433.out))
  refine bodyPost_ret (results_cell_row rfl _ _ gb433 30 #[.slice none 0 0, .slice none 0 0, .slice none 0 0] (0, 0) _ rfl (by refine blk_put (cs := #[.slice none 0 0, .slice none 0 0, .slice none 0 0]) ?_ 2 _ rfl; refine blk_put (cs := #[.slice none 0 0, .slice none 0 0, .slice none 0 0]) ?_ 1 _ rfl; refine blk_put (cs := #[.slice none 0 0, .slice none 0 0, .slice none 0 0]) ?_ 0 _ rfl; exact BK433.out) Try.underlying30 rfl (by kernel_rfl)) rfl ?_
  exact ⟨_, _, _, by first | rfl | (simp [errW_none, errW_some] <;> rfl) | (simp [*, errW_none, errW_some] <;> rfl), by first | exact Kd.R_nil _ _ _ _ _ | exact Kd.N_nil _ _ _ _ _ | exact Kd.V_nil _ _ _ _ _ | exact Kd.Q_nil _ _ _ _ _ | exact Kd.S_nil _ _ _ _ _, by first | exact Kd.S_nil _ _ _ _ _ | exact Kd.N_nil _ _ _ _ _ | exact Kd.V_nil _ _ _ _ _ | exact Kd.Q_nil _ _ _ _ _ | exact Kd.R_nil _ _ _ _ _, by first | exact Kd.R_nil _ _ _ _ _ | exact Kd.N_nil _ _ _ _ _ | exact Kd.V_nil _ _ _ _ _ | exact Kd.Q_nil _ _ _ _ _ | exact Kd.S_nil _ _ _ _ _, by repeat (first | (with_reducible first | exact HB.out | apply below_alloc | apply pw_below_drewN | apply below_drew1 | refine below_set ?_ GE432.out | refine below_set ?_ GE433.out) | exact HB.out)⟩
 replace H := Option.bind_eq_some_iff.mp H
 obtain ⟨t436, A150, H⟩ := H
 try dsimp only at H
 have A15 := K_ A150
 clear A150
 by_cases c16 : t436 = true
 case neg =>
  replace c16 := Bool.eq_false_iff.mpr c16
  subst c16
  rw [if_neg (show ¬ (false = true) by decide)] at H
  simp only [Option.some.injEq, Prod.mk.injEq] at H
  obtain ⟨rfl, rfl, rfl⟩ := H
  go_enter Try.func48, Try.ntmps48
  go_wp2_with (first | ((with_reducible refine gate_dst (N := 2) rfl ?_); refine box_event ?hg (N := 2) ?hd (cs := #[.slice A0_0 l0_0.length c0_0, .slice A0_1 l0_1.length c0_1, .slice A0_2 l0_2.length c0_2]) (t := 30) ?hr ?_; (case hd => rfl); (case hg => rfl); (case hr => go_simp; try rfl); intro gb432 hg w33 hbox hb; have n0_ := K_ (below_step HB.out hb); have n1_ := K_ (hbox); have n2_ := ge_ hg HB.out; have n3_ := ge_ hg HB.out; clear HB; have HB := n0_; have BK432 := n1_; have GW432 := n2_; have GE432 := n3_; clear n0_ n1_ n2_ n3_; clear hb hbox hg) | ((with_reducible refine gate_dst (N := 4) rfl ?_); refine box_event ?hg (N := 4) ?hd (cs := #[.slice none 0 0, .slice none 0 0, .slice none 0 0]) (t := 30) ?hr ?_; (case hd => rfl); (case hg => rfl); (case hr => go_simp; try rfl); intro gb433 hg w34 hbox hb; have n0_ := K_ (blk_below BK432.out hb); have n1_ := K_ (below_step HB.out hb); have n2_ := K_ (hbox); have n3_ := ge_ hg HB.out; have n4_ := ge_ hg HB.out; have n5_ := nl_ hg BK432.out; have n6_ := ng_ hg BK432.out; clear BK432; clear HB; have BK432 := n0_; have HB := n1_; have BK433 := n2_; have GW433 := n3_; have GE433 := n4_; have NB432_433 := n5_; have NB433_432 := n6_; clear n0_ n1_ n2_ n3_ n4_ n5_ n6_; clear hb hbox hg; have hnb35 := NB432_433.out; have hnc35 := NB433_432.out; obtain ⟨hcz36_0, hcz36_1, hcz36_2, hfz36_0, hfz36_1, hfz36_2⟩ := blkf3_ BK432.out) | ((with_reducible refine gate_callee (f := 23) rfl ?_); refine goesL_ (some 7) rfl rfl Try.func23 (by kernel_rfl) rfl #[.agg #[.slice A0_0 l0_0.length c0_0, .slice A0_1 l0_1.length c0_1, .slice A0_2 l0_2.length c0_2]] rfl (by (try simp only [List.map_toArray, List.map_cons, List.map_nil]); first | done | rfl | (simp only [List.length_drop, List.length_take]; rfl)) ?_; (with_reducible refine (spec_StateOk.calls k _ _ l0_0 _ _ l0_1 _ _ l0_2 t434 _ ?side1 ?side2 ?side3 ?side4 ?side5 ?side6 A3.out).mono ?_); (case side1 => repeat (first | exact (Kd.C_below HR0_0.out HB.out) | (with_reducible refine Kd.C_alloc ?_ _) | (with_reducible refine Kd.C_drewN ?_ _) | (with_reducible refine Kd.C_drew ?_))); (case side2 => exact HC0_0.out); (case side3 => repeat (first | exact (Kd.C_below HR0_1.out HB.out) | (with_reducible refine Kd.C_alloc ?_ _) | (with_reducible refine Kd.C_drewN ?_ _) | (with_reducible refine Kd.C_drew ?_))); (case side4 => exact HC0_1.out); (case side5 => repeat (first | exact (Kd.C_below HR0_2.out HB.out) | (with_reducible refine Kd.C_alloc ?_ _) | (with_reducible refine Kd.C_drewN ?_ _) | (with_reducible refine Kd.C_drew ?_))); (case side6 => exact HC0_2.out); rintro e w37 ⟨rfl, hb⟩; refine ⟨_, rfl, ?_⟩; have n0_ := K_ (blk_below BK432.out hb); have n1_ := K_ (blk_below BK433.out hb); have n2_ := K_ (below_step HB.out hb); clear BK432; clear BK433; clear HB; have BK432 := n0_; have BK433 := n1_; have HB := n2_; clear n0_ n1_ n2_; (try clear hb); (try clear hb2); (try clear hk); (try clear hi); obtain ⟨hcz38_0, hcz38_1, hcz38_2, hfz38_0, hfz38_1, hfz38_2⟩ := blkf3_ BK432.out) | ((with_reducible refine gate_callee (f := 51) rfl ?_); refine goesL_ (some 12) rfl rfl Try.func51 (by kernel_rfl) rfl #[.agg #[.slice A0_0 l0_0.length c0_0, .slice A0_1 l0_1.length c0_1, .slice A0_2 l0_2.length c0_2], .int .i64 a1] rfl (by (try simp only [List.map_toArray, List.map_cons, List.map_nil]); first | done | rfl | (simp only [List.length_drop, List.length_take]; rfl)) ?_; (with_reducible refine (spec_l1name.calls k _ _ l0_0 _ _ l0_1 _ _ l0_2 a1 t435 _ ?side1 ?side2 ?side3 ?side4 ?side5 ?side6 A5.out).mono ?_); (case side1 => repeat (first | exact (Kd.C_below HR0_0.out HB.out) | (with_reducible refine Kd.C_alloc ?_ _) | (with_reducible refine Kd.C_drewN ?_ _) | (with_reducible refine Kd.C_drew ?_))); (case side2 => exact HC0_0.out); (case side3 => repeat (first | exact (Kd.C_below HR0_1.out HB.out) | (with_reducible refine Kd.C_alloc ?_ _) | (with_reducible refine Kd.C_drewN ?_ _) | (with_reducible refine Kd.C_drew ?_))); (case side4 => exact HC0_1.out); (case side5 => repeat (first | exact (Kd.C_below HR0_2.out HB.out) | (with_reducible refine Kd.C_alloc ?_ _) | (with_reducible refine Kd.C_drewN ?_ _) | (with_reducible refine Kd.C_drew ?_))); (case side6 => exact HC0_2.out); rintro e w39 ⟨rfl, hb⟩; refine ⟨_, rfl, ?_⟩; have n0_ := K_ (blk_below BK432.out hb); have n1_ := K_ (blk_below BK433.out hb); have n2_ := K_ (below_step HB.out hb); clear BK432; clear BK433; clear HB; have BK432 := n0_; have BK433 := n1_; have HB := n2_; clear n0_ n1_ n2_; (try clear hb); (try clear hb2); (try clear hk); (try clear hi); obtain ⟨hcz40_0, hcz40_1, hcz40_2, hfz40_0, hfz40_1, hfz40_2⟩ := blkf3_ BK432.out) | (go_at_call 52; (with_reducible refine (spec_l1can.calls k _ _ l0_0 _ _ l0_1 _ _ l0_2 t435 false _ ?side1 ?side2 ?side3 ?side4 ?side5 ?side6 A15.out).mono ?_); (case side1 => repeat (first | exact (Kd.C_below HR0_0.out HB.out) | (with_reducible refine Kd.C_alloc ?_ _) | (with_reducible refine Kd.C_drewN ?_ _) | (with_reducible refine Kd.C_drew ?_))); (case side2 => exact HC0_0.out); (case side3 => repeat (first | exact (Kd.C_below HR0_1.out HB.out) | (with_reducible refine Kd.C_alloc ?_ _) | (with_reducible refine Kd.C_drewN ?_ _) | (with_reducible refine Kd.C_drew ?_))); (case side4 => exact HC0_1.out); (case side5 => repeat (first | exact (Kd.C_below HR0_2.out HB.out) | (with_reducible refine Kd.C_alloc ?_ _) | (with_reducible refine Kd.C_drewN ?_ _) | (with_reducible refine Kd.C_drew ?_))); (case side6 => exact HC0_2.out); rintro e w41 ⟨rfl, hb⟩; have n0_ := K_ (blk_below BK432.out hb); have n1_ := K_ (blk_below BK433.out hb); have n2_ := K_ (below_step HB.out hb); clear BK432; clear BK433; clear HB; have BK432 := n0_; have BK433 := n1_; have HB := n2_; clear n0_ n1_ n2_; (try clear hb); (try clear hb2); (try clear hk); (try clear hi); obtain ⟨hcz42_0, hcz42_1, hcz42_2, hfz42_0, hfz42_1, hfz42_2⟩ := blkf3_ BK433.out))
  refine bodyPost_ret (results_cell_row rfl _ _ gb433 30 #[.slice none 0 0, .slice none 0 0, .slice none 0 0] (0, 0) _ rfl (by refine blk_put (cs := #[.slice none 0 0, .slice none 0 0, .slice none 0 0]) ?_ 2 _ rfl; refine blk_put (cs := #[.slice none 0 0, .slice none 0 0, .slice none 0 0]) ?_ 1 _ rfl; refine blk_put (cs := #[.slice none 0 0, .slice none 0 0, .slice none 0 0]) ?_ 0 _ rfl; exact BK433.out) Try.underlying30 rfl (by kernel_rfl)) rfl ?_
  exact ⟨_, _, _, by first | rfl | (simp [errW_none, errW_some] <;> rfl) | (simp [*, errW_none, errW_some] <;> rfl), by first | exact Kd.R_nil _ _ _ _ _ | exact Kd.N_nil _ _ _ _ _ | exact Kd.V_nil _ _ _ _ _ | exact Kd.Q_nil _ _ _ _ _ | exact Kd.S_nil _ _ _ _ _, by first | exact Kd.S_nil _ _ _ _ _ | exact Kd.N_nil _ _ _ _ _ | exact Kd.V_nil _ _ _ _ _ | exact Kd.Q_nil _ _ _ _ _ | exact Kd.R_nil _ _ _ _ _, by first | exact Kd.R_nil _ _ _ _ _ | exact Kd.N_nil _ _ _ _ _ | exact Kd.V_nil _ _ _ _ _ | exact Kd.Q_nil _ _ _ _ _ | exact Kd.S_nil _ _ _ _ _, by repeat (first | (with_reducible first | exact HB.out | apply below_alloc | apply pw_below_drewN | apply below_drew1 | refine below_set ?_ GE432.out | refine below_set ?_ GE433.out) | exact HB.out)⟩
 subst c16
 rw [if_pos rfl] at H
 replace H := Option.bind_eq_some_iff.mp H
 obtain ⟨⟨t437, t440, t443⟩, A170, H⟩ := H
 try dsimp only at H
 have A17 := K_ A170
 clear A170
 simp only [Option.some.injEq, Prod.mk.injEq] at H
 obtain ⟨rfl, rfl, rfl⟩ := H
 go_enter Try.func48, Try.ntmps48
 go_wp2_with (first | ((with_reducible refine gate_dst (N := 2) rfl ?_); refine box_event ?hg (N := 2) ?hd (cs := #[.slice A0_0 l0_0.length c0_0, .slice A0_1 l0_1.length c0_1, .slice A0_2 l0_2.length c0_2]) (t := 30) ?hr ?_; (case hd => rfl); (case hg => rfl); (case hr => go_simp; try rfl); intro gb432 hg w18 hbox hb; have n0_ := K_ (below_step HB.out hb); have n1_ := K_ (hbox); have n2_ := ge_ hg HB.out; have n3_ := ge_ hg HB.out; clear HB; have HB := n0_; have BK432 := n1_; have GW432 := n2_; have GE432 := n3_; clear n0_ n1_ n2_ n3_; clear hb hbox hg) | ((with_reducible refine gate_dst (N := 4) rfl ?_); refine box_event ?hg (N := 4) ?hd (cs := #[.slice none 0 0, .slice none 0 0, .slice none 0 0]) (t := 30) ?hr ?_; (case hd => rfl); (case hg => rfl); (case hr => go_simp; try rfl); intro gb433 hg w19 hbox hb; have n0_ := K_ (blk_below BK432.out hb); have n1_ := K_ (below_step HB.out hb); have n2_ := K_ (hbox); have n3_ := ge_ hg HB.out; have n4_ := ge_ hg HB.out; have n5_ := nl_ hg BK432.out; have n6_ := ng_ hg BK432.out; clear BK432; clear HB; have BK432 := n0_; have HB := n1_; have BK433 := n2_; have GW433 := n3_; have GE433 := n4_; have NB432_433 := n5_; have NB433_432 := n6_; clear n0_ n1_ n2_ n3_ n4_ n5_ n6_; clear hb hbox hg; have hnb20 := NB432_433.out; have hnc20 := NB433_432.out; obtain ⟨hcz21_0, hcz21_1, hcz21_2, hfz21_0, hfz21_1, hfz21_2⟩ := blkf3_ BK432.out) | ((with_reducible refine gate_callee (f := 23) rfl ?_); refine goesL_ (some 7) rfl rfl Try.func23 (by kernel_rfl) rfl #[.agg #[.slice A0_0 l0_0.length c0_0, .slice A0_1 l0_1.length c0_1, .slice A0_2 l0_2.length c0_2]] rfl (by (try simp only [List.map_toArray, List.map_cons, List.map_nil]); first | done | rfl | (simp only [List.length_drop, List.length_take]; rfl)) ?_; (with_reducible refine (spec_StateOk.calls k _ _ l0_0 _ _ l0_1 _ _ l0_2 t434 _ ?side1 ?side2 ?side3 ?side4 ?side5 ?side6 A3.out).mono ?_); (case side1 => repeat (first | exact (Kd.C_below HR0_0.out HB.out) | (with_reducible refine Kd.C_alloc ?_ _) | (with_reducible refine Kd.C_drewN ?_ _) | (with_reducible refine Kd.C_drew ?_))); (case side2 => exact HC0_0.out); (case side3 => repeat (first | exact (Kd.C_below HR0_1.out HB.out) | (with_reducible refine Kd.C_alloc ?_ _) | (with_reducible refine Kd.C_drewN ?_ _) | (with_reducible refine Kd.C_drew ?_))); (case side4 => exact HC0_1.out); (case side5 => repeat (first | exact (Kd.C_below HR0_2.out HB.out) | (with_reducible refine Kd.C_alloc ?_ _) | (with_reducible refine Kd.C_drewN ?_ _) | (with_reducible refine Kd.C_drew ?_))); (case side6 => exact HC0_2.out); rintro e w22 ⟨rfl, hb⟩; refine ⟨_, rfl, ?_⟩; have n0_ := K_ (blk_below BK432.out hb); have n1_ := K_ (blk_below BK433.out hb); have n2_ := K_ (below_step HB.out hb); clear BK432; clear BK433; clear HB; have BK432 := n0_; have BK433 := n1_; have HB := n2_; clear n0_ n1_ n2_; (try clear hb); (try clear hb2); (try clear hk); (try clear hi); obtain ⟨hcz23_0, hcz23_1, hcz23_2, hfz23_0, hfz23_1, hfz23_2⟩ := blkf3_ BK432.out) | ((with_reducible refine gate_callee (f := 51) rfl ?_); refine goesL_ (some 12) rfl rfl Try.func51 (by kernel_rfl) rfl #[.agg #[.slice A0_0 l0_0.length c0_0, .slice A0_1 l0_1.length c0_1, .slice A0_2 l0_2.length c0_2], .int .i64 a1] rfl (by (try simp only [List.map_toArray, List.map_cons, List.map_nil]); first | done | rfl | (simp only [List.length_drop, List.length_take]; rfl)) ?_; (with_reducible refine (spec_l1name.calls k _ _ l0_0 _ _ l0_1 _ _ l0_2 a1 t435 _ ?side1 ?side2 ?side3 ?side4 ?side5 ?side6 A5.out).mono ?_); (case side1 => repeat (first | exact (Kd.C_below HR0_0.out HB.out) | (with_reducible refine Kd.C_alloc ?_ _) | (with_reducible refine Kd.C_drewN ?_ _) | (with_reducible refine Kd.C_drew ?_))); (case side2 => exact HC0_0.out); (case side3 => repeat (first | exact (Kd.C_below HR0_1.out HB.out) | (with_reducible refine Kd.C_alloc ?_ _) | (with_reducible refine Kd.C_drewN ?_ _) | (with_reducible refine Kd.C_drew ?_))); (case side4 => exact HC0_1.out); (case side5 => repeat (first | exact (Kd.C_below HR0_2.out HB.out) | (with_reducible refine Kd.C_alloc ?_ _) | (with_reducible refine Kd.C_drewN ?_ _) | (with_reducible refine Kd.C_drew ?_))); (case side6 => exact HC0_2.out); rintro e w24 ⟨rfl, hb⟩; refine ⟨_, rfl, ?_⟩; have n0_ := K_ (blk_below BK432.out hb); have n1_ := K_ (blk_below BK433.out hb); have n2_ := K_ (below_step HB.out hb); clear BK432; clear BK433; clear HB; have BK432 := n0_; have BK433 := n1_; have HB := n2_; clear n0_ n1_ n2_; (try clear hb); (try clear hb2); (try clear hk); (try clear hi); obtain ⟨hcz25_0, hcz25_1, hcz25_2, hfz25_0, hfz25_1, hfz25_2⟩ := blkf3_ BK432.out) | (go_at_call 52; (with_reducible refine (spec_l1can.calls k _ _ l0_0 _ _ l0_1 _ _ l0_2 t435 true _ ?side1 ?side2 ?side3 ?side4 ?side5 ?side6 A15.out).mono ?_); (case side1 => repeat (first | exact (Kd.C_below HR0_0.out HB.out) | (with_reducible refine Kd.C_alloc ?_ _) | (with_reducible refine Kd.C_drewN ?_ _) | (with_reducible refine Kd.C_drew ?_))); (case side2 => exact HC0_0.out); (case side3 => repeat (first | exact (Kd.C_below HR0_1.out HB.out) | (with_reducible refine Kd.C_alloc ?_ _) | (with_reducible refine Kd.C_drewN ?_ _) | (with_reducible refine Kd.C_drew ?_))); (case side4 => exact HC0_1.out); (case side5 => repeat (first | exact (Kd.C_below HR0_2.out HB.out) | (with_reducible refine Kd.C_alloc ?_ _) | (with_reducible refine Kd.C_drewN ?_ _) | (with_reducible refine Kd.C_drew ?_))); (case side6 => exact HC0_2.out); rintro e w26 ⟨rfl, hb⟩; have n0_ := K_ (blk_below BK432.out hb); have n1_ := K_ (blk_below BK433.out hb); have n2_ := K_ (below_step HB.out hb); clear BK432; clear BK433; clear HB; have BK432 := n0_; have BK433 := n1_; have HB := n2_; clear n0_ n1_ n2_; (try clear hb); (try clear hb2); (try clear hk); (try clear hi); obtain ⟨hcz27_0, hcz27_1, hcz27_2, hfz27_0, hfz27_1, hfz27_2⟩ := blkf3_ BK432.out) | ((with_reducible refine gate_callee (f := 54) rfl ?_); refine goesL_ (some 24) rfl rfl Try.func54 (by kernel_rfl) rfl #[.agg #[.slice A0_0 l0_0.length c0_0, .slice A0_1 l0_1.length c0_1, .slice A0_2 l0_2.length c0_2], .int .i64 t435] rfl (by (try simp only [List.map_toArray, List.map_cons, List.map_nil]); first | done | rfl | (simp only [List.length_drop, List.length_take]; rfl)) ?_; (with_reducible refine (spec_l1step.calls k _ _ l0_0 _ _ l0_1 _ _ l0_2 t435 t437 t440 t443 _ ?side1 ?side2 ?side3 ?side4 ?side5 ?side6 A17.out).mono ?_); (case side1 => repeat (first | exact (Kd.C_below HR0_0.out HB.out) | (with_reducible refine Kd.C_alloc ?_ _) | (with_reducible refine Kd.C_drewN ?_ _) | (with_reducible refine Kd.C_drew ?_))); (case side2 => exact HC0_0.out); (case side3 => repeat (first | exact (Kd.C_below HR0_1.out HB.out) | (with_reducible refine Kd.C_alloc ?_ _) | (with_reducible refine Kd.C_drewN ?_ _) | (with_reducible refine Kd.C_drew ?_))); (case side4 => exact HC0_1.out); (case side5 => repeat (first | exact (Kd.C_below HR0_2.out HB.out) | (with_reducible refine Kd.C_alloc ?_ _) | (with_reducible refine Kd.C_drewN ?_ _) | (with_reducible refine Kd.C_drew ?_))); (case side6 => exact HC0_2.out); rintro e w28 ⟨v438, v441, v444, rfl, ho0, ho1, ho2, hb⟩; refine ⟨_, rfl, ?_⟩; have n0_ := K_ (Kd.R_lower (Kd.R_newM (M := fun k_ => (w.heap.size ≤ k_)) (Kd.R_mono (ok' := fun k_ => X_ k_ v444) ho0 (fun _ hk_ => hk_.2)) (below_size HB.out) (fun k_ h_ => h_)) (below_size HB.out)); have n1_ := K_ (Kd.N_lower (Kd.N_mono (ok' := fun k_ => (w.heap.size ≤ k_) ∧ X_ k_ v438 ∧ X_ k_ v444 ∧ k_ ≠ gb432 ∧ k_ ≠ gb433) ho1 (fun k_ hk_ => ⟨(Nat.le_trans (below_size HB.out) hk_.1), hk_.2.1, hk_.2.2, (Kd.freshB BK432.out k_ hk_.1), (Kd.freshB BK433.out k_ hk_.1)⟩)) (below_size HB.out)); have n2_ := K_ (Kd.R_lower (Kd.R_newM (M := fun k_ => (w.heap.size ≤ k_)) (Kd.R_mono (ok' := fun k_ => X_ k_ v438) ho2 (fun _ hk_ => hk_.2)) (below_size HB.out) (fun k_ h_ => h_)) (below_size HB.out)); have n3_ := K_ (blk_below BK432.out hb); have n4_ := K_ (blk_below BK433.out hb); have n5_ := K_ (below_step HB.out hb); clear BK432; clear BK433; clear HB; have HO439 := n0_; have HO442 := n1_; have HO445 := n2_; have BK432 := n3_; have BK433 := n4_; have HB := n5_; clear n0_ n1_ n2_ n3_ n4_ n5_; (try clear hb); (try clear hb2); (try clear hk); (try clear hi); (try clear ho0); (try clear ho1); (try clear ho2); obtain ⟨Ao29, co29, eo29⟩ := Kd.R_slice HO439.out; subst eo29; obtain ⟨hcz30_0, hcz30_1, hcz30_2, hfz30_0, hfz30_1, hfz30_2⟩ := blkf3_ BK433.out; obtain ⟨Ao31, co31, eo31⟩ := Kd.N_slice HO442.out; subst eo31; obtain ⟨Ao32, co32, eo32⟩ := Kd.R_slice HO445.out; subst eo32))
 refine bodyPost_ret (results_cell_row rfl _ _ gb433 30 #[.slice Ao29 t437.length co29, .slice Ao31 t440.length co31, .slice Ao32 t443.length co32] (0, 0) _ rfl (by refine blk_put (cs := #[.slice Ao29 t437.length co29, .slice Ao31 t440.length co31, .slice none 0 0]) ?_ 2 _ rfl; refine blk_put (cs := #[.slice Ao29 t437.length co29, .slice none 0 0, .slice none 0 0]) ?_ 1 _ rfl; refine blk_put (cs := #[.slice none 0 0, .slice none 0 0, .slice none 0 0]) ?_ 0 _ rfl; exact BK433.out) Try.underlying30 rfl (by kernel_rfl)) rfl ?_
 exact ⟨_, _, _, rfl, by exact Kd.R_mono (Kd.R_far (p := ⟨gb433, 2, none⟩) (Kd.R_far (p := ⟨gb433, 1, none⟩) (Kd.R_far (p := ⟨gb433, 0, none⟩) (Kd.R_types HO439.out BK433.out (by decide)) (fun _ hk => hk.2) (.slice Ao29 t437.length co29)) (fun _ hk => hk.2) (.slice Ao31 t440.length co31)) (fun _ hk => hk.2) (.slice Ao32 t443.length co32)) (fun _ hk => ⟨hk.1.1, hk.1.2⟩), by exact Kd.N_mono (Kd.N_far (p := ⟨gb433, 2, none⟩) (Kd.N_far (p := ⟨gb433, 1, none⟩) (Kd.N_far (p := ⟨gb433, 0, none⟩) (Kd.N_mono HO442.out (fun k_ hk => (⟨hk, hk.2.2.2.2⟩ : _ ∧ k_ ≠ gb433))) (fun _ hk => hk.2) (.slice Ao29 t437.length co29)) (fun _ hk => hk.2) (.slice Ao31 t440.length co31)) (fun _ hk => hk.2) (.slice Ao32 t443.length co32)) (fun _ hk => ⟨hk.1.1, ⟨hk.1.2.1, hk.1.2.2.1⟩⟩), by exact Kd.R_mono (Kd.R_far (p := ⟨gb433, 2, none⟩) (Kd.R_far (p := ⟨gb433, 1, none⟩) (Kd.R_far (p := ⟨gb433, 0, none⟩) (Kd.R_types HO445.out BK433.out (by decide)) (fun _ hk => hk.2) (.slice Ao29 t437.length co29)) (fun _ hk => hk.2) (.slice Ao31 t440.length co31)) (fun _ hk => hk.2) (.slice Ao32 t443.length co32)) (fun _ hk => ⟨hk.1.1, hk.1.2⟩), by repeat (first | exact HB.out | refine below_set ?_ GE432.out | refine below_set ?_ GE433.out)⟩

-- NOT PRINTED: function 49 (spec_l5Cur_spoil)

-- NOT PRINTED: function 33 (spec_l5state)

-- NOT PRINTED: function 18 (spec_DrawRing)

/-! ### impl_find: function 34 -/
def impl_find.l0 : Nat → Int → List Int → Int → Int → Option (Int)
 | 0, _, _, _, _ => none
 | k + 1, x1, x8, x9, x10 => if x10 < x9 then (if 0 ≤ x10 then (if x10 < (x8.length : Int) then (if (rd x8 x10) = x1 then (some x10) else (impl_find.l0 k x1 x8 x9 (wrap64 (x10 + 1)))) else (none)) else (none)) else (some (-1))
def impl_find.f (k : Nat) (l0_0 : List Int) (l0_1 : List (S40)) (l0_2 : List Int) (a1 : Int) : Option (Int) := impl_find.l0 k a1 l0_2 (l0_2.length : Int) 0
theorem impl_find.mono_l : ∀ k, (∀ y0 y1 y2 y3, LeO (impl_find.l0 k y0 y1 y2 y3) (impl_find.l0 (k + 1) y0 y1 y2 y3))
 | 0 => fun _ _ _ _ r h => by simp [impl_find.l0] at h
 | k + 1 => by
  have ih0 := impl_find.mono_l k
  ·intro y0 y1 y2 y3
   unfold impl_find.l0
   repeat' with_reducible first | exact ih0 _ _ _ _ | exact LeO.refl _ | exact LeO.none _ | refine LeO.ite ?_ ?_ | refine LeO.bind ?_ (fun _ => ?_)
theorem impl_find.mono : ∀ a0 a1 a2 a3 k, LeO (impl_find.f k a0 a1 a2 a3) (impl_find.f (k + 1) a0 a1 a2 a3) := by
 intro a0 a1 a2 a3 k
 have ih0 := impl_find.mono_l k
 unfold impl_find.f
 repeat' with_reducible first | exact ih0 _ _ _ _ | exact LeO.refl _ | exact LeO.none _ | refine LeO.ite ?_ ?_ | refine LeO.bind ?_ (fun _ => ?_)
set_option maxHeartbeats 8000000 in
set_option maxRecDepth 100000 in
theorem impl_find.calls (k : Nat) (A0_0 : Option Addr) (c0_0 : Nat) (l0_0 : List Int) (A0_1 : Option Addr) (c0_1 : Nat) (l0_1 : List (S40)) (A0_2 : Option Addr) (c0_2 : Nat) (l0_2 : List Int) (a1 : Int) (r : Int) (w : World) (hr0_0 : Kd.C (Kd.int .i64) w A0_0 l0_0.length l0_0) (hc0_0 : l0_0.length ≤ c0_0) (hr0_1 : Kd.C k40 w A0_1 l0_1.length l0_1) (hc0_1 : l0_1.length ≤ c0_1) (hr0_2 : Kd.C (Kd.int .i64) w A0_2 l0_2.length l0_2) (hc0_2 : l0_2.length ≤ c0_2) (h : impl_find.f k l0_0 l0_1 l0_2 a1 = some r) :
  Calls Try.prog 34 #[.agg #[.slice A0_0 l0_0.length c0_0, .slice A0_1 l0_1.length c0_1, .slice A0_2 l0_2.length c0_2], .int .i64 a1] w fun e w' => e = .returned (.int .i64 r) ∧ Below w.heap.size w w' := by
 have hu30 := Try.underlying30
 have HR0_0 := K_ hr0_0
 have HC0_0 := K_ hc0_0
 clear hr0_0 hc0_0
 have HR0_1 := K_ hr0_1
 have HC0_1 := K_ hc0_1
 clear hr0_1 hc0_1
 have HR0_2 := K_ hr0_2
 have HC0_2 := K_ hc0_2
 clear hr0_2 hc0_2
 have HB := K_ (Below.refl w.heap.size w)
 unfold impl_find.f at h
 have H := h
 clear h
 have H' := K_ H
 clear H
 go_enter Try.func34, Try.ntmps34
 go_wp2_with (first | ((with_reducible refine gate_dst (N := 2) rfl ?_); refine box_event (by rfl) (N := 2) (by rfl) (cs := #[.slice A0_0 l0_0.length c0_0, .slice A0_1 l0_1.length c0_1, .slice A0_2 l0_2.length c0_2]) (t := 30) (by go_simp; try rfl) ?_; intro gb527 hg w3 hbox hb; have BK527 := K_ (hbox); have GW527 := ge_ hg HB.out; have GE527 := ge_ hg HB.out; replace HB := K_ (below_step HB.out hb); clear hb hbox hg; obtain ⟨hcz4_0, hcz4_1, hcz4_2, hfz4_0, hfz4_1, hfz4_2⟩ := blkf3_ BK527.out))
 go_loopg [10] k (fun kq v10 w' => ∃ (x10_1 : Int), v10 = .int .i64 x10_1 ∧ Aside0 (impl_find.l0 kq a1 l0_2 (l0_2.length : Int) x10_1 = some r) ∧ Aside0 (kq ≤ k) ∧ Aside0 (w'.heap[gb527]? = some (.cells #[(.slice A0_0 l0_0.length c0_0), (.slice A0_1 l0_1.length c0_1), (.slice A0_2 l0_2.length c0_2)] 30 (0, 0))) ∧ Aside0 (Below w.heap.size w w'))
 case atStart => exact ⟨(0), rfl, H', ⟨Nat.le_refl _⟩, ⟨BK527.out⟩, ⟨HB.out⟩⟩
 case round =>
  clear H'
  clear hcz4_0 hcz4_1 hcz4_2 hfz4_0 hfz4_1 hfz4_2
  obtain ⟨x10_1, rfl, HA, HK1, BK527, HB⟩ := hrel
  cases gk with
  | zero => exact absurd HA.out (by simp [impl_find.l0])
  | succ k1 =>
   have H := HA.out
   clear HA
   simp only [impl_find.l0] at H
   replace H := ds_ H
   rcases H with ⟨c5b0, H⟩ | ⟨c5b0, H⟩
   case inr =>
    obtain rfl := Option.some.inj H
    go_wp2
    go_ret
    exact ⟨rfl, HB.out⟩
   replace H := dn_ H
   obtain ⟨c6b0, H⟩ := H
   replace H := dn_ H
   obtain ⟨c7b0, H⟩ := H
   replace H := ps_ H
   rcases H with ⟨c8, H⟩ | ⟨c8, H⟩
   case inl =>
    have c8b0 := beq_iff_eq.mpr c8
    have c8b1 := bne_eq_false_iff_eq.mpr c8
    clear c8
    obtain rfl := Option.some.inj H
    obtain ⟨ad528, rfl, hx528_0, p528, q528⟩ := rd_ HR0_2.out HB.out x10_1 (by assumption) (by assumption)
    go_wp2
    go_ret
    exact ⟨rfl, HB.out⟩
   have c8b0 := beq_eq_false_iff_ne.mpr c8
   have c8b1 := bne_iff_ne.mpr c8
   have H' := K_ H
   clear H
   obtain ⟨ad528, rfl, hx528_0, p528, q528⟩ := rd_ HR0_2.out HB.out x10_1 (by assumption) (by assumption)
   go_wp2
   go_roundg k1
   case measure => have := HK1.out; omega
   case rel => exact ⟨(wrap64 (x10_1 + 1)), rfl, H', ⟨by have := HK1.out; omega⟩, ⟨BK527.out⟩, ⟨HB.out⟩⟩
end Go.Proofs.Ytckkppehfpjbpaa.Q
