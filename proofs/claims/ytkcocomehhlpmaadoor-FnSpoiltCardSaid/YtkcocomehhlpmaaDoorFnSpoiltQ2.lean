-- Written by programs of this session (wip/drv.py, wip/mkclaim.py) over the kit's print; not trusted: Lean checks it.
import Derived.Test.YtkcocomehhlpmaaDoorFnSpoiltQ0
import Derived.Test.YtkcocomehhlpmaaDoorFnSpoiltQ1
namespace Go.Proofs.YtkcocomehhlpmaaDoor.Q
open Go.RowKit Go.Proofs.YtkcocomehhlpmaaDoorW.PrintWords Go.Proofs.YtkcocomehhlpmaaDoorW.PrintLast Go.Proofs.YtkcocomehhlpmaaDoorW.PrintMore
attribute [local go_sem] max2_int min2_int max_two min_two max_three min_three max_four min_four   -- for this text's walks alone
set_option linter.unusedVariables false
set_option linter.unusedSimpArgs false

/-! ### spec_l5Cur_pick: function 35 -/
def spec_l5Cur_pick.f (s0_0 : List Int) (s0_1 : Int) (s0_2 : Int) (a1 : Int) : Option (Int × Int × Int) := if a1 ≤ 1 then (some (0, s0_1, s0_2)) else ((spec_l5Cur_next.f s0_0 s0_1 s0_2).bind fun bt348 => (if a1 > 200 then ((spec_l5Cur_next.f s0_0 bt348.2.1 bt348.2.2).bind fun bt351 => (if a1 = 0 then (none) else (some (Int.tmod (wrap64 ((wrap64 (bt348.1 * 256)) + bt351.1)) a1, bt351.2.1, bt351.2.2)))) else (if a1 = 0 then (none) else (some (Int.tmod bt348.1 a1, bt348.2.1, bt348.2.2)))))
set_option maxHeartbeats 8000000 in
set_option maxRecDepth 100000 in
theorem spec_l5Cur_pick.calls (g : Nat) (s0_0 : List Int) (s0_1 : Int) (s0_2 : Int) (a1 : Int) (r1 : Int) (r2 : Int) (r3 : Int) (w0 w : World) (hI : IsS67 w0 w g s0_0 s0_1 s0_2) (hB : Below w0.heap.size w0 w) (h : spec_l5Cur_pick.f s0_0 s0_1 s0_2 a1 = some (r1, r2, r3)) :
  Calls Tryd.prog 35 #[.pointer (some ⟨g, 0, none⟩), .int .i64 a1] w fun e w' => e = .returned (.int .i64 r1) ∧ IsS67 w0 w' g s0_0 r2 r3 ∧ Below w0.heap.size w0 w' ∧ KeepBut w w' g none := by
 have HI0 := K_ hI
 have HK := K_ (KeepBut.refl w g none)
 have HL := K_ hB.size
 clear hI
 have HW0 := K_ hB.size
 have HB := K_ hB
 clear hB
 unfold spec_l5Cur_pick.f at h
 have H := h
 clear h
 replace H := ds_ H
 rcases H with ⟨c3b0, H⟩ | ⟨c3b0, H⟩
 case inl =>
  simp only [Option.some.injEq, Prod.mk.injEq] at H
  obtain ⟨rfl, rfl, rfl⟩ := H
  go_enter Tryd.func35, Tryd.ntmps35
  go_wp2
  go_ret
  exact ⟨rfl, by repeat (first | (with_reducible first | exact HI0.out | apply IsS67.alloc | apply IsS67.drewN | apply IsS67.drew | apply IsS67.set_1 | apply IsS67.set_2) | exact HI0.out), by repeat (first | (with_reducible first | exact HB.out | refine below_set ?_ (IsS67.ge HI0.out)) | exact HB.out), by repeat (first | (with_reducible first | exact HK.out | apply KeepBut.set_ | apply keep_drewN | apply keep_drew | apply keep_alloc) | exact HK.out)⟩
 replace H := Option.bind_eq_some_iff.mp H
 obtain ⟨⟨t348, t349, t350⟩, A40, H⟩ := H
 try dsimp only at H
 have A4 := K_ A40
 clear A40
 by_cases c5 : a1 > 200
 case neg =>
  rw [if_neg c5] at H
  have c5b0 := decide_eq_false c5
  clear c5
  replace H := nn_ H
  obtain ⟨c10, H⟩ := H
  have c10b0 := beq_eq_false_iff_ne.mpr c10
  have c10b1 := bne_iff_ne.mpr c10
  simp only [Option.some.injEq, Prod.mk.injEq] at H
  obtain ⟨rfl, rfl, rfl⟩ := H
  go_enter Tryd.func35, Tryd.ntmps35
  go_wp2_with (first | ((with_reducible refine gate_callee (f := 54) rfl ?_); refine goesL_ (some 9) rfl rfl Tryd.func54 (by kernel_rfl) rfl #[.pointer (some ⟨g, 0, none⟩)] rfl (by simp only [List.map_toArray, List.map_cons, List.map_nil]; try rfl) ?_; (with_reducible refine (spec_l5Cur_next.calls g s0_0 s0_1 s0_2 t348 t349 t350 w0 _ ?side1 ?side2 A4.out).mono ?_); (case side1 => repeat (first | (with_reducible first | exact HI0.out | apply IsS67.alloc | apply IsS67.drewN | apply IsS67.drew | apply IsS67.set_1 | apply IsS67.set_2) | exact HI0.out)); (case side2 => repeat (first | (with_reducible first | exact HB.out | refine below_set ?_ (IsS67.ge HI0.out)) | exact HB.out)); rintro e w11 ⟨rfl, hi, hb, hk⟩; refine ⟨_, rfl, ?_⟩; replace HK := K_ (KeepBut.trans (by repeat (first | (with_reducible first | exact HK.out | apply KeepBut.set_ | apply keep_drewN | apply keep_drew | apply keep_alloc) | exact HK.out)) hk (.inl rfl)); replace HB := K_ (hb); replace HI0 := K_ (hi); clear hb hk hi))
  go_ret
  exact ⟨rfl, by repeat (first | (with_reducible first | exact HI0.out | apply IsS67.alloc | apply IsS67.drewN | apply IsS67.drew | apply IsS67.set_1 | apply IsS67.set_2) | exact HI0.out), by repeat (first | (with_reducible first | exact HB.out | refine below_set ?_ (IsS67.ge HI0.out)) | exact HB.out), by repeat (first | (with_reducible first | exact HK.out | apply KeepBut.set_ | apply keep_drewN | apply keep_drew | apply keep_alloc) | exact HK.out)⟩
 rw [if_pos c5] at H
 have c5b0 := decide_eq_true c5
 clear c5
 replace H := Option.bind_eq_some_iff.mp H
 obtain ⟨⟨t351, t352, t353⟩, A60, H⟩ := H
 try dsimp only at H
 have A6 := K_ A60
 clear A60
 replace H := nn_ H
 obtain ⟨c7, H⟩ := H
 have c7b0 := beq_eq_false_iff_ne.mpr c7
 have c7b1 := bne_iff_ne.mpr c7
 simp only [Option.some.injEq, Prod.mk.injEq] at H
 obtain ⟨rfl, rfl, rfl⟩ := H
 go_enter Tryd.func35, Tryd.ntmps35
 go_wp2_with (first | ((with_reducible refine gate_callee (f := 54) rfl ?_); refine goesL_ (some 9) rfl rfl Tryd.func54 (by kernel_rfl) rfl #[.pointer (some ⟨g, 0, none⟩)] rfl (by simp only [List.map_toArray, List.map_cons, List.map_nil]; try rfl) ?_; (with_reducible refine (spec_l5Cur_next.calls g s0_0 s0_1 s0_2 t348 t349 t350 w0 _ ?side1 ?side2 A4.out).mono ?_); (case side1 => repeat (first | (with_reducible first | exact HI0.out | apply IsS67.alloc | apply IsS67.drewN | apply IsS67.drew | apply IsS67.set_1 | apply IsS67.set_2) | exact HI0.out)); (case side2 => repeat (first | (with_reducible first | exact HB.out | refine below_set ?_ (IsS67.ge HI0.out)) | exact HB.out)); rintro e w8 ⟨rfl, hi, hb, hk⟩; refine ⟨_, rfl, ?_⟩; replace HK := K_ (KeepBut.trans (by repeat (first | (with_reducible first | exact HK.out | apply KeepBut.set_ | apply keep_drewN | apply keep_drew | apply keep_alloc) | exact HK.out)) hk (.inl rfl)); replace HB := K_ (hb); replace HI0 := K_ (hi); clear hb hk hi) | ((with_reducible refine gate_callee (f := 54) rfl ?_); refine goesL_ (some 15) rfl rfl Tryd.func54 (by kernel_rfl) rfl #[.pointer (some ⟨g, 0, none⟩)] rfl (by simp only [List.map_toArray, List.map_cons, List.map_nil]; try rfl) ?_; (with_reducible refine (spec_l5Cur_next.calls g s0_0 t349 t350 t351 t352 t353 w0 _ ?side1 ?side2 A6.out).mono ?_); (case side1 => repeat (first | (with_reducible first | exact HI0.out | apply IsS67.alloc | apply IsS67.drewN | apply IsS67.drew | apply IsS67.set_1 | apply IsS67.set_2) | exact HI0.out)); (case side2 => repeat (first | (with_reducible first | exact HB.out | refine below_set ?_ (IsS67.ge HI0.out)) | exact HB.out)); rintro e w9 ⟨rfl, hi, hb, hk⟩; refine ⟨_, rfl, ?_⟩; replace HK := K_ (KeepBut.trans (by repeat (first | (with_reducible first | exact HK.out | apply KeepBut.set_ | apply keep_drewN | apply keep_drew | apply keep_alloc) | exact HK.out)) hk (.inl rfl)); replace HB := K_ (hb); replace HI0 := K_ (hi); clear hb hk hi))
 go_ret
 exact ⟨rfl, by repeat (first | (with_reducible first | exact HI0.out | apply IsS67.alloc | apply IsS67.drewN | apply IsS67.drew | apply IsS67.set_1 | apply IsS67.set_2) | exact HI0.out), by repeat (first | (with_reducible first | exact HB.out | refine below_set ?_ (IsS67.ge HI0.out)) | exact HB.out), by repeat (first | (with_reducible first | exact HK.out | apply KeepBut.set_ | apply keep_drewN | apply keep_drew | apply keep_alloc) | exact HK.out)⟩


/-! ### spec_l1copy: function 55 -/
def spec_l1copy.l0 : Nat → List (S48) → Int → Int → List Int → List (S48) → List Int → Option (List Int × (List (S48)) × List Int)
 | 0, _, _, _, _, _, _ => none
 | k + 1, x20, x21, x22, x179000, x179001, x179002 => if x22 < x21 then (if 0 ≤ x22 then (if x22 < (x20.length : Int) then ((some (([] : List Int) : List Int)).bind fun y188 => (if y188.length + ((rd_T48 x20 x22).f1).length < 17592186044416 then (if x179001.length < 3518437208883 then (spec_l1copy.l0 k x20 x21 (wrap64 (x22 + 1)) x179000 (x179001 ++ [(⟨(rd_T48 x20 x22).f0, (y188 ++ ((rd_T48 x20 x22).f1)), (rd_T48 x20 x22).f2⟩ : S48)]) x179002) else (none)) else (none))) else (none)) else (none)) else (some (x179000, x179001, x179002))
def spec_l1copy.f (k : Nat) (l0_0 : List Int) (l0_1 : List (S48)) (l0_2 : List Int) : Option (List Int × (List (S48)) × List Int) := if ([] : List Int).length + l0_0.length < 17592186044416 then (if ([] : List Int).length + l0_2.length < 17592186044416 then (spec_l1copy.l0 k l0_1 (l0_1.length : Int) 0 (([] : List Int) ++ l0_0) ([] : List (S48)) (([] : List Int) ++ l0_2)) else (none)) else (none)
theorem spec_l1copy.mono_l : ∀ k, (∀ y0 y1 y2 y3 y4 y5, LeO (spec_l1copy.l0 k y0 y1 y2 y3 y4 y5) (spec_l1copy.l0 (k + 1) y0 y1 y2 y3 y4 y5))
 | 0 => fun _ _ _ _ _ _ r h => by simp [spec_l1copy.l0] at h
 | k + 1 => by
  have ih0 := spec_l1copy.mono_l k
  ·intro y0 y1 y2 y3 y4 y5
   unfold spec_l1copy.l0
   repeat' with_reducible first | exact ih0 _ _ _ _ _ _ | exact LeO.refl _ | exact LeO.none _ | refine LeO.ite ?_ ?_ | refine LeO.bind ?_ (fun _ => ?_)
theorem spec_l1copy.mono : ∀ a0 a1 a2 k, LeO (spec_l1copy.f k a0 a1 a2) (spec_l1copy.f (k + 1) a0 a1 a2) := by
 intro a0 a1 a2 k
 have ih0 := spec_l1copy.mono_l k
 unfold spec_l1copy.f
 repeat' with_reducible first | exact ih0 _ _ _ _ _ _ | exact LeO.refl _ | exact LeO.none _ | refine LeO.ite ?_ ?_ | refine LeO.bind ?_ (fun _ => ?_)
/-- What the copy tells: the state itself, and that its rows are not too long. -/
theorem spec_l1copy.loop_ : ∀ (k : Nat) (T : List S48) (i : Nat) (R : List Int) (U : List S48) (N : List Int) (r : List Int × List S48 × List Int), i ≤ T.length → T.length ≤ 9223372036854775807 → spec_l1copy.l0 k T (T.length : Int) (i : Int) R U N = some r → r = (R, U ++ T.drop i, N) ∧ (∀ t ∈ T.drop i, t.f1.length < 17592186044416) ∧ (i < T.length → U.length + (T.length - i) ≤ 3518437208883)
 | 0, _, _, _, _, _, _, _, _, h => by simp [spec_l1copy.l0] at h
 | k + 1, T, i, R, U, N, r, hi, hT, h => by
  simp only [spec_l1copy.l0] at h
  by_cases c : (i : Int) < (T.length : Int)
  case neg =>
   rw [if_neg c] at h
   injection h with h
   rw [← h, List.drop_eq_nil_of_le (by omega)]
   exact ⟨by simp, by simp, fun q => by omega⟩
  have hl : i < T.length := by omega
  rw [if_pos c, if_pos (by omega), if_pos c, Option.bind_some] at h
  by_cases c1 : ([] : List Int).length + (rd_T48 T (i : Int)).f1.length < 17592186044416
  case neg =>rw [if_neg c1] at h; exact absurd h (by simp)
  rw [if_pos c1] at h
  by_cases c2 : U.length < 3518437208883
  case neg =>rw [if_neg c2] at h; exact absurd h (by simp)
  rw [if_pos c2, show wrap64 ((i : Int) + 1) = ((i + 1 : Nat) : Int) from by unfold wrap64; omega] at h
  have e : rd_T48 T (i : Int) = T[i] := by unfold rd_T48; simp [List.getD, hl]
  rw [e, List.nil_append] at h
  obtain ⟨h1, h2, h3⟩ := spec_l1copy.loop_ k T (i + 1) R _ N r hl hT h
  rw [List.append_assoc, List.singleton_append] at h1
  rw [List.drop_eq_getElem_cons hl]
  refine ⟨h1, fun t ht => ?_, fun _ => ?_⟩
  ·rcases List.mem_cons.1 ht with rfl | ht
   ·rw [e] at c1; simpa using c1
   ·exact h2 t ht
  ·by_cases hq : i + 1 < T.length
   ·have := h3 hq; rw [List.length_append] at this; simp only [List.length_singleton] at this; omega
   ·omega
theorem spec_l1copy.tells_ {k : Nat} {R : List Int} {T : List S48} {N : List Int} {r : List Int × List S48 × List Int} (hT : T.length ≤ 9223372036854775807) (h : spec_l1copy.f k R T N = some r) : r = (R, T, N) ∧ R.length < 17592186044416 ∧ N.length < 17592186044416 ∧ (∀ t ∈ T, t.f1.length < 17592186044416) ∧ T.length ≤ 3518437208883 := by
 unfold spec_l1copy.f at h
 by_cases c1 : ([] : List Int).length + R.length < 17592186044416
 case neg =>rw [if_neg c1] at h; exact absurd h (by simp)
 rw [if_pos c1] at h
 by_cases c2 : ([] : List Int).length + N.length < 17592186044416
 case neg =>rw [if_neg c2] at h; exact absurd h (by simp)
 rw [if_pos c2, List.nil_append, List.nil_append] at h
 obtain ⟨h1, h2, h3⟩ := spec_l1copy.loop_ k T 0 R [] N r (Nat.zero_le _) hT h
 refine ⟨by simpa using h1, by simpa using c1, by simpa using c2, by simpa using h2, ?_⟩
 rcases Nat.eq_zero_or_pos T.length with e | e
 ·omega
 ·have := h3 e; simp only [List.length_nil] at this; omega
theorem spec_l1copy.row_wr_ {P : Program} {ops : Array Oper} {Q : Exit → Act → World → Prop} {o : Oper} {rest : List Oper} {a : Act} {W : World} (hgd : o.guard = none) (ty : TypeId) (x y : Operand) (ho : o.op = .store ty x y) (hN : o.dst = none) (g : Nat) (hx : a.eval x = .pointer (some ⟨g, 0, none⟩)) {c c' : Array Value} {t : Nat}
  (hy : a.eval y = .agg c') (hb : W.heap[g]? = some (.cells c t (0, 0))) (hi : (P.info? ty).map (·.size) = some c'.size) (hc : c.size = c'.size) (h1 : c'.all (·.oneCell') = true)
  (h : ∀ w', w'.heap[g]? = some (.cells c' t (0, 0)) → W.grownBy w' (some g) → wpList P ops Q rest a w') : wpList P ops Q (o :: rest) a W := by
 refine wpList_plain hgd fun K hK => ?_
 unfold Oper.wp
 have hr : (execOp a.eval o).run P W = .ok .skip (W.setRow g c') := by
  simp only [execOp, ho, hx, hy, Instr.storeAt, Instr.sureAddr, Sem.run_bind, Sem.run_pure, Result.andThen_ok, run_storeVar_row W g t ty c c' hb hi hc h1]
 rw [hr]
 show K (a.put o.dst undef) _
 rw [hN]
 exact hK _ _ (h _ (setRow_heap W g c c' t (0, 0) hb) ⟨rfl, rfl, rfl, by simp, fun i hi hn => setRow_other W g i c' (fun e => hn (by rw [e]))⟩)
section
variable {P : Program} {ops : Array Oper} {Q : Exit → Act → World → Prop} {S : World → Prop} {ds : List Nat}
/-- Number i, which yields in every world, comes up first. -/
theorem spec_l1copy.np_ {fuel : Nat} {l : Array Bool} {a a' : Act} {w : World} (i N : Nat) {oi : Oper} {v : Value} (hi : ops[i]? = some oi) (hN : oi.dst = some N) (hc : anyB .any ops l (l.setIfInBounds i true) i = true) (hQ : ∀ c a w, Q (.panic c) (a.put oi.dst v) w → Q (.panic c) a w)
  (hw : Region.wanted oi (yielded ops a.tmps) = true) (hv : ∀ w', (execOp a.eval oi).run P w' = .ok (.value v) w') (ha : a.put (some N) v = a') (h : wpAnyLast P .any ops Q S ds fuel (l.setIfInBounds i true) a' w) : wpAnyLast P .any ops Q S ds (fuel + 1) l a w :=
 pure_ _ hi hN hc hQ (.inl ⟨hw, hv⟩) ha h
/-- Number i, which yields wherever S holds (a load). -/
theorem spec_l1copy.nt_ {fuel : Nat} {l : Array Bool} {a a' : Act} {w : World} (hS : S w) (i N : Nat) {oi : Oper} {v : Value} (hi : ops[i]? = some oi) (hN : oi.dst = some N) (hc : takeB .any ops ds l (l.setIfInBounds i true) i = true) (hQ : ∀ c a w, Q (.panic c) (a.put oi.dst v) w → Q (.panic c) a w)
  (hw : Region.wanted oi (yielded ops a.tmps) = true) (hv : ∀ w', S w' → (execOp a.eval oi).run P w' = .ok (.value v) w') (ha : a.put (some N) v = a') (h : wpAnyLast P .any ops Q S ds fuel (l.setIfInBounds i true) a' w) : wpAnyLast P .any ops Q S ds (fuel + 1) l a w :=
 take_ _ hi hN hc hQ (.inl ⟨hw, hv⟩) hS ha h
/-- The region's last operation, a store, and out. -/
theorem spec_l1copy.nl_ {fuel : Nat} {l : Array Bool} {a : Act} {w : World} (i : Nat) (w1 : World) {oi : Oper} (hi : ops[i]? = some oi) (hN : oi.dst = none) (hc : readyB .any ops l (l.setIfInBounds i true) i = true) (hd : i ∈ ds) (hw : Region.wanted oi (yielded ops a.tmps) = true) (hr : (Region.ready .any ops (l.setIfInBounds i true) == []) = true)
  (hrun : (execOp a.eval oi).run P w = .ok .skip w1) (h : Q .normal a w1) : wpAnyLast P .any ops Q S ds (fuel + 1) l a w := by
 refine last_ (N := none) _ hi hN hc hd (fun K hK => ?_)
 refine skip_ hw hN hrun ?_
 exact hK.out _ _ (done_ hr h)
/-- An operation that comes up alone (a call, an append): S is shown behind it. -/
theorem spec_l1copy.no_ {fuel : Nat} {l : Array Bool} {a : Act} {w : World} (i N : Nat) {oi : Oper} (hi : ops[i]? = some oi) (hN : oi.dst = some N) (hc : readyB .any ops l (l.setIfInBounds i true) i = true) (hd : i ∉ ds)
  (h : ∀ K : Act → World → Prop, (∀ a' w', S w' → (S w' → wpAnyLast P .any ops Q S ds fuel (l.setIfInBounds i true) a' w') → K a' w') → if Region.wanted oi (yielded ops a.tmps) = true then Oper.wp P oi a w K Q else K (a.put (some N) undef) w) : wpAnyLast P .any ops Q S ds (fuel + 1) l a w :=
 one_ _ hi hN hc hd (fun K hK => h K hK.out)
theorem spec_l1copy.AP_ : (∀ (a : Act) (d : Nat) (v : Value), a.put (some d) v = { a with tmps := a.tmps.setIfInBounds d v }) ∧ (∀ (a : Act) (v : Value), a.put none v = a) ∧ (∀ (l : List Value) (i : Nat) (a : Value), l.toArray.setIfInBounds i a = (l.set i a).toArray) ∧ (∀ (x : Value) (l : List Value) (a : Value), (x :: l).set 0 a = a :: l) ∧ (∀ (x : Value) (l : List Value) (i : Nat) (a : Value), (x :: l).set (i + 1) a = x :: l.set i a) := ⟨fun _ _ _ => rfl, fun _ _ => rfl, fun l i a => List.setIfInBounds_toArray l i a, fun _ _ _ => rfl, fun _ _ _ _ => rfl⟩
end
theorem spec_l1copy.info26_ : (Tryd.prog.info? 30).map (·.size) = some 3 := by kernel_rfl
/-- A copy while it is made: its own struct at gO; the rooms' and the names' rows in blocks below n, the trains' in blocks from n on. -/
structure spec_l1copy.Cp (w wr : World) (gR gO n : Nat) (v0 u v2 : Value) (R : List Int) (U : List S48) (N : List Int) : Prop where
 bo : wr.heap[gO]? = some (.cells #[v0, u, v2] 30 (0, 0))
 r0 : Kd.R (Kd.int .i64) 3 wr w.heap.size (fun k => some k ≠ v2.ownBlock ∧ gO < k ∧ k < n) v0 R
 r2 : Kd.R (Kd.int .i64) 3 wr w.heap.size (fun k => some k ≠ v0.ownBlock ∧ gO < k ∧ k < n) v2 N
 s1 : Kd.S k48 48 wr w.heap.size (fun k => n ≤ k) u U
 hB : Below w.heap.size w wr
 hn : gO < n ∧ n ≤ wr.heap.size ∧ w.heap.size ≤ gO
 br : wr.heap[gR]? = some (.cells #[.slice none 0 0, .slice none 0 0, .slice none 0 0] 30 (0, 0))
 hr : gR < gO ∧ w.heap.size ≤ gR
section
variable {w wr w' : World} {gR gO n : Nat} {v0 u v2 : Value} {R : List Int} {U : List S48} {N : List Int}
theorem spec_l1copy.Cp.below (h : spec_l1copy.Cp w wr gR gO n v0 u v2 R U N) (hb : Below wr.heap.size wr w') : spec_l1copy.Cp w w' gR gO n v0 u v2 R U N :=
 ⟨blk_below h.bo hb, Kd.R_below h.r0 hb, Kd.R_below h.r2 hb, Kd.S_below h.s1 hb, below_step h.hB hb, ⟨h.hn.1, Nat.le_trans h.hn.2.1 hb.size, h.hn.2.2⟩, blk_below h.br hb, h.hr⟩
theorem spec_l1copy.Cp.st {ok : Nat → Prop} (h : spec_l1copy.Cp w wr gR gO n v0 u v2 R U N) (hok : ∀ k, n ≤ k → ok k) : Kd.S k48 48 wr w.heap.size ok u U := Kd.S_mono h.s1 hok
theorem spec_l1copy.Cp.start (h0 : Kd.R (Kd.int .i64) 3 wr w.heap.size (fun k => gO < k) v0 R) (h2 : Kd.R (Kd.int .i64) 3 wr w.heap.size (fun k => n ≤ k) v2 N) (hlt : ∀ k, v0.ownBlock = some k → k < n) (hg : gO < n) (hb : wr.heap[gO]? = some (.cells #[v0, .slice none 0 0, .slice none 0 0] 30 (0, 0))) (hB : Below w.heap.size w wr) (hw : w.heap.size ≤ gO) (br : wr.heap[gR]? = some (.cells #[.slice none 0 0, .slice none 0 0, .slice none 0 0] 30 (0, 0))) (hr : gR < gO ∧ w.heap.size ≤ gR) : spec_l1copy.Cp w (wr.setCell ⟨gO, 2, none⟩ v2) gR gO (wr.setCell ⟨gO, 2, none⟩ v2).heap.size v0 (.slice none 0 0) v2 R [] N := by
 have es : (wr.setCell ⟨gO, 2, none⟩ v2).heap.size = wr.heap.size := by simp
 have l0 := Kd.R_lt h0
 have l2 := Kd.R_lt h2
 have q0 : ∀ k, v0.ownBlock = some k → some k ≠ v2.ownBlock ∧ gO < k ∧ k < (wr.setCell ⟨gO, 2, none⟩ v2).heap.size := fun k e => ⟨fun q => by have := hlt k e; have := h2.1 k q.symm; omega, h0.1 k e, by rw [es]; exact l0 k e⟩
 have q2 : ∀ k, v2.ownBlock = some k → some k ≠ v0.ownBlock ∧ gO < k ∧ k < (wr.setCell ⟨gO, 2, none⟩ v2).heap.size := fun k e => ⟨fun q => by have := hlt k q.symm; have := h2.1 k e; omega, by have := h2.1 k e; omega, by rw [es]; exact l2 k e⟩
 exact ⟨blk_put hb 2 _ rfl, Kd.R_far (p := ⟨gO, 2, none⟩) (Kd.R_reok rfl h0 q0) (fun k hk => by show k ≠ gO; have := hk.2.1; omega) _, Kd.R_far (p := ⟨gO, 2, none⟩) (Kd.R_reok rfl h2 q2) (fun k hk => by show k ≠ gO; have := hk.2.1; omega) _, Kd.S_nil _ _ _ _ _, hB.setCell hw _, ⟨by rw [es]; exact blk_lt hb, Nat.le_refl _, hw⟩, blk_far (p := ⟨gO, 2, none⟩) br (by show gR ≠ gO; omega) _, hr⟩
/-- The struct is laid down anew, its trains' row grown. -/
theorem spec_l1copy.Cp.grow (h : spec_l1copy.Cp w wr gR gO n v0 u v2 R U N) {w1 : World} {u1 : Value} {U1 : List S48} (hg : wr.grownBy w1 u.ownBlock) (hb : Below w.heap.size w w1) (hs : Kd.S k48 48 w1 w.heap.size (fun k => n ≤ k) u1 U1) (z : Value) : spec_l1copy.Cp w (w1.setCell ⟨gO, 1, none⟩ u1) gR gO n v0 u1 v2 R U1 N := by
 have hn := h.hn
 have ho : ∀ k, u.ownBlock = some k → n ≤ k := fun k hk => (Kd.S_R h.s1).1 k hk
 have hne : ∀ k, k < n → some k ≠ u.ownBlock := fun k hk e => by have := ho k e.symm; omega
 have hb1 : w1.heap[gO]? = some (.cells #[v0, u, v2] 30 (0, 0)) := blk_grown h.bo hg (hne gO hn.1)
 refine ⟨blk_put hb1 1 _ rfl, ?_, ?_, Kd.S_far (p := ⟨gO, 1, none⟩) hs (fun k hk => by show k ≠ gO; omega) _, hb.setCell hn.2.2 _, ⟨hn.1, by have := hg.size; simpa using (by omega : n ≤ w1.heap.size), hn.2.2⟩, blk_far (p := ⟨gO, 1, none⟩) (blk_grown h.br hg (hne gR (by have := h.hr; omega))) (by show gR ≠ gO; have := h.hr; omega) _, h.hr⟩
 ·exact Kd.R_far (p := ⟨gO, 1, none⟩) (Kd.R_grown h.r0 hg (fun k hk => hne k hk.2.2)) (fun k hk => by show k ≠ gO; omega) _
 ·exact Kd.R_far (p := ⟨gO, 1, none⟩) (Kd.R_grown h.r2 hg (fun k hk => hne k hk.2.2)) (fun k hk => by show k ≠ gO; omega) _
end
theorem spec_l1copy.info48s : (Tryd.prog.info? 48).map (·.size) = some 3 := by kernel_rfl
set_option maxHeartbeats 1000000 in
set_option maxRecDepth 100000 in
theorem spec_l1copy.calls (k : Nat) (A0_0 : Option Addr) (c0_0 : Nat) (l0_0 : List Int) (A0_1 : Option Addr) (c0_1 : Nat) (l0_1 : List (S48)) (A0_2 : Option Addr) (c0_2 : Nat) (l0_2 : List Int) (r1 : List Int) (r2 : List (S48)) (r3 : List Int) (w : World) (hr0_0 : Kd.C (Kd.int .i64) w A0_0 l0_0.length l0_0) (hc0_0 : l0_0.length ≤ c0_0) (hr0_1 : Kd.C k48 w A0_1 l0_1.length l0_1) (hc0_1 : l0_1.length ≤ c0_1) (hr0_2 : Kd.C (Kd.int .i64) w A0_2 l0_2.length l0_2) (hc0_2 : l0_2.length ≤ c0_2) (h : spec_l1copy.f k l0_0 l0_1 l0_2 = some (r1, r2, r3)) :
 Calls Tryd.prog 55 #[.agg #[.slice A0_0 l0_0.length c0_0, .slice A0_1 l0_1.length c0_1, .slice A0_2 l0_2.length c0_2]] w fun e w' => ∃ v0_ v1_ v2_ : Value, e = .returned (.agg #[v0_, v1_, v2_]) ∧ Kd.R (Kd.int .i64) 3 w' w.heap.size (fun k_ => X_ k_ v2_) v0_ r1 ∧ Kd.S k48 48 w' w.heap.size (fun k_ => X_ k_ v0_ ∧ X_ k_ v2_) v1_ r2 ∧ Kd.R (Kd.int .i64) 3 w' w.heap.size (fun k_ => X_ k_ v0_) v2_ r3 ∧ Below w.heap.size w w' := by
 have HR0 := K_ hr0_0
 have HR1 := K_ hr0_1
 have HR2 := K_ hr0_2
 obtain ⟨he, hRl, hNl, hPl, hTl⟩ := spec_l1copy.tells_ hr0_1.2.1 h
 simp only [Prod.mk.injEq] at he
 obtain ⟨ha_, hb_, hc_⟩ := he
 replace ha_ := ha_.symm
 replace hb_ := hb_.symm
 replace hc_ := hc_.symm
 subst ha_ hb_ hc_
 have HP := K_ hPl
 clear h hr0_0 hr0_1 hr0_2 hPl
 have hu26 := Tryd.underlying30
 have hu48 := Tryd.underlying48
 have HBa := K_ ((((Below.refl w.heap.size w).alloc (Nat.le_refl _) (.cells #[.slice A0_0 l0_0.length c0_0, .slice A0_1 l0_1.length c0_1, .slice A0_2 l0_2.length c0_2] 30)).alloc (by simp) (.cells #[.slice none 0 0, .slice none 0 0, .slice none 0 0] 30)).alloc (by simp; omega) (.cells #[.slice none 0 0, .slice none 0 0, .slice none 0 0] 30))
 have Ba := K_ (blk_alloc (blk_alloc (heap_alloc_new w (.cells #[.slice A0_0 l0_0.length c0_0, .slice A0_1 l0_1.length c0_1, .slice A0_2 l0_2.length c0_2] 30)) (.cells #[.slice none 0 0, .slice none 0 0, .slice none 0 0] 30)) (.cells #[.slice none 0 0, .slice none 0 0, .slice none 0 0] 30))
 have Bb := K_ (blk_alloc (heap_alloc_new (w.alloc (.cells #[.slice A0_0 l0_0.length c0_0, .slice A0_1 l0_1.length c0_1, .slice A0_2 l0_2.length c0_2] 30)) (.cells #[.slice none 0 0, .slice none 0 0, .slice none 0 0] 30)) (.cells #[.slice none 0 0, .slice none 0 0, .slice none 0 0] 30))
 have Bc := K_ (heap_alloc_new ((w.alloc (.cells #[.slice A0_0 l0_0.length c0_0, .slice A0_1 l0_1.length c0_1, .slice A0_2 l0_2.length c0_2] 30)).alloc (.cells #[.slice none 0 0, .slice none 0 0, .slice none 0 0] 30)) (.cells #[.slice none 0 0, .slice none 0 0, .slice none 0 0] 30))
 have e1 : (w.alloc (.cells #[.slice A0_0 l0_0.length c0_0, .slice A0_1 l0_1.length c0_1, .slice A0_2 l0_2.length c0_2] 30)).heap.size = w.heap.size + 1 := by simp
 have e2 : ((w.alloc (.cells #[.slice A0_0 l0_0.length c0_0, .slice A0_1 l0_1.length c0_1, .slice A0_2 l0_2.length c0_2] 30)).alloc (.cells #[.slice none 0 0, .slice none 0 0, .slice none 0 0] 30)).heap.size = w.heap.size + 1 + 1 := by simp
 have e3 : (((w.alloc (.cells #[.slice A0_0 l0_0.length c0_0, .slice A0_1 l0_1.length c0_1, .slice A0_2 l0_2.length c0_2] 30)).alloc (.cells #[.slice none 0 0, .slice none 0 0, .slice none 0 0] 30)).alloc (.cells #[.slice none 0 0, .slice none 0 0, .slice none 0 0] 30)).heap.size = w.heap.size + 1 + 1 + 1 := by simp
 rw [e1] at Bb
 rw [e2] at Bc
 go_enter Tryd.func55, Tryd.ntmps55
 go_wp2_with (first
  | ((with_reducible refine gate_builtin (b := .append) (xs := #[.tmp 8, .tmp 10]) rfl ?_); at_builtin; refine Kd.R_append_rows (Kd.int .i64) (w0 := w) w.heap.size rfl (.tmp 8) (.tmp 10) 22 3 (.int .i64 0) 8 rfl Tryd.underlying22 info3 rfl (by decide) (by omega) (.slice none 0 0) ([] : List Int) l0_0 _ _ _ (fun k => w.heap.size + 1 + 1 < k) (fun _ => False) rfl rfl (Kd.R_nil _ _ _ _ _) (Kd.C_below HR0.out HBa.out) (fun _ _ h => h) (fun _ h => h.elim) (fun k hk => by omega) HBa.out HBa.out.size (by simp only [List.length_nil]; omega) ?_; intro v3 w3 ho hb hg _; rw [List.nil_append] at ho; obtain ⟨D0, d0, rfl⟩ := Kd.R_slice ho; have HO3 := K_ ho; have HB3 := K_ hb; have B1 := K_ (blk_grown Ba.out hg (by simp [Value.ownBlock])); have BN := K_ (blk_grown Bb.out hg (by simp [Value.ownBlock])); have BO := K_ (blk_grown Bc.out hg (by simp [Value.ownBlock])); have hs3 := hg.size; have x0 : w3.cell? ⟨w.heap.size + 1 + 1, 0, none⟩ = some (.slice none 0 0) := (blk_cell BO.out 0).trans rfl; have y0 := blk_frozen BO.out 0; clear ho hb hg Ba Bb Bc HBa)
  | ((with_reducible refine gate_store (t := 22) (p := 12) rfl ?_); refine store_event (t := 22) (p := 12) (v := .tmp 11) (w1 := w3.setCell ⟨w.heap.size + 1 + 1, 0, none⟩ (.slice D0 l0_0.length d0)) rfl rfl rfl ?hr ?_; (case hr => go_simp; try rfl); intro w4 hw4; have HO4 := K_ (show Kd.R (Kd.int .i64) 3 w4 w.heap.size (fun k => w.heap.size + 1 + 1 < k) (.slice D0 l0_0.length d0) l0_0 from by rw [hw4]; exact Kd.R_far (p := ⟨w.heap.size + 1 + 1, 0, none⟩) HO3.out (fun k hk => by show k ≠ w.heap.size + 1 + 1; omega) _); have B1 := K_ (show w4.heap[w.heap.size]? = some (.cells #[.slice A0_0 l0_0.length c0_0, .slice A0_1 l0_1.length c0_1, .slice A0_2 l0_2.length c0_2] 30 (0, 0)) from by rw [hw4]; exact blk_far (p := ⟨w.heap.size + 1 + 1, 0, none⟩) B1.out (by show w.heap.size ≠ w.heap.size + 1 + 1; omega) _); have BN := K_ (show w4.heap[w.heap.size + 1]? = some (.cells #[.slice none 0 0, .slice none 0 0, .slice none 0 0] 30 (0, 0)) from by rw [hw4]; exact blk_far (p := ⟨w.heap.size + 1 + 1, 0, none⟩) BN.out (by show w.heap.size + 1 ≠ w.heap.size + 1 + 1; omega) _); have BO := K_ (show w4.heap[w.heap.size + 1 + 1]? = some (.cells #[.slice D0 l0_0.length d0, .slice none 0 0, .slice none 0 0] 30 (0, 0)) from by rw [hw4]; exact blk_put BO.out 0 _ rfl); have HB4 := K_ (show Below w.heap.size w w4 from by rw [hw4]; exact HB3.out.setCell (show w.heap.size ≤ w.heap.size + 1 + 1 by omega) _); have hs4 : w4.heap.size = w3.heap.size := (by rw [hw4]; simp); have x2 : w4.cell? ⟨w.heap.size + 1 + 1, 2, none⟩ = some (.slice none 0 0) := (blk_cell BO.out 2).trans rfl; have z2 : w4.cell? ⟨w.heap.size, 2, none⟩ = some (.slice A0_2 l0_2.length c0_2) := (blk_cell B1.out 2).trans rfl; clear hw4 x0 y0 HO3 HB3)
  | ((with_reducible refine gate_builtin (b := .append) (xs := #[.tmp 14, .tmp 16]) rfl ?_); at_builtin; refine Kd.R_append_rows (Kd.int .i64) (w0 := w) w.heap.size rfl (.tmp 14) (.tmp 16) 22 3 (.int .i64 0) 8 rfl Tryd.underlying22 info3 rfl (by decide) (by omega) (.slice none 0 0) ([] : List Int) l0_2 _ _ _ (fun k => w4.heap.size ≤ k) (fun _ => False) rfl rfl (Kd.R_nil _ _ _ _ _) (Kd.C_below HR2.out HB4.out) (fun _ _ h => h) (fun _ h => h.elim) (fun k hk => hk) HB4.out HB4.out.size (by simp only [List.length_nil]; omega) ?_; intro v5 w5 ho hb hg _; rw [List.nil_append] at ho; obtain ⟨D2, d2, rfl⟩ := Kd.R_slice ho; have HO5 := K_ ho; have HB5 := K_ hb; have HO4b := K_ (Kd.R_grown HO4.out hg (fun k _ => by simp [Value.ownBlock])); have hlt4 := K_ (Kd.R_lt HO4.out); have B1 := K_ (blk_grown B1.out hg (by simp [Value.ownBlock])); have BN := K_ (blk_grown BN.out hg (by simp [Value.ownBlock])); have BO := K_ (blk_grown BO.out hg (by simp [Value.ownBlock])); have hs5 := hg.size; have x2 : w5.cell? ⟨w.heap.size + 1 + 1, 2, none⟩ = some (.slice none 0 0) := (blk_cell BO.out 2).trans rfl; have y2 := blk_frozen BO.out 2; clear ho hb hg HO4 HB4 z2)
  | ((with_reducible refine gate_store (t := 22) (p := 18) rfl ?_); refine store_event (t := 22) (p := 18) (v := .tmp 17) (w1 := w5.setCell ⟨w.heap.size + 1 + 1, 2, none⟩ (.slice D2 l0_2.length d2)) rfl rfl rfl ?hr ?_; (case hr => go_simp; try rfl); intro w6 hw6; have CP := K_ (show spec_l1copy.Cp w w6 (w.heap.size + 1) (w.heap.size + 1 + 1) w6.heap.size (.slice D0 l0_0.length d0) (.slice none 0 0) (.slice D2 l0_2.length d2) l0_0 [] l0_2 from by rw [hw6]; exact spec_l1copy.Cp.start HO4b.out HO5.out (fun k hk => by have := hlt4.out k hk; omega) (by omega) BO.out HB5.out (by omega) BN.out ⟨by omega, by omega⟩); have B1 := K_ (show w6.heap[w.heap.size]? = some (.cells #[.slice A0_0 l0_0.length c0_0, .slice A0_1 l0_1.length c0_1, .slice A0_2 l0_2.length c0_2] 30 (0, 0)) from by rw [hw6]; exact blk_far (p := ⟨w.heap.size + 1 + 1, 2, none⟩) B1.out (by show w.heap.size ≠ w.heap.size + 1 + 1; omega) _); have z1 : w6.cell? ⟨w.heap.size, 1, none⟩ = some (.slice A0_1 l0_1.length c0_1) := (blk_cell B1.out 1).trans rfl; clear hw6 x2 y2 HO4b HO5 HB5 BO hlt4))
 generalize hn : w6.heap.size = n at *
 have HN := K_ hn
 clear hn
 clear B1 z1
 go_loopw [22] (fun x22 wr => ∃ (i : Nat) (u : Value), i ≤ l0_1.length ∧ x22 = .int .i64 i ∧ Aside0 (spec_l1copy.Cp w wr (w.heap.size + 1) (w.heap.size + 1 + 1) n (.slice D0 l0_0.length d0) u (.slice D2 l0_2.length d2) l0_0 (l0_1.take i) l0_2)) (fun x22 _ => l0_1.length - (intOf x22).toNat)
 case atStart => exact ⟨0, _, Nat.zero_le _, rfl, CP⟩
 case round =>
  clear CP
  obtain ⟨i, u, hi, rfl, CP⟩ := hrel
  by_cases hlt : i < l0_1.length
  ·have d23 : decide ((i : Int) < (l0_1.length : Int)) = true := decide_eq_true (by omega)
   have p24 : (0 : Int) ≤ (i : Int) := by omega
   have q24 : (i : Int) < (l0_1.length : Int) := by omega
   obtain ⟨ad, Ap, cp, e, hx0, hx1, hx2, hl, hC⟩ := at_T48 HR1.out (i : Int) p24 q24
   subst e
   have et : rd_T48 l0_1 (i : Int) = l0_1[i] := by unfold rd_T48; simp [List.getD, hlt]
   have hpl := HP.out l0_1[i] (List.getElem_mem hlt)
   have HTK := K_ (List.take_succ_eq_append_getElem hlt)
   rw [et] at hx0 hx1 hx2 hl hC
   rw [Int.toNat_natCast] at hx0 hx1 hx2
   generalize l0_1[i] = t at *
   replace hx0 := (CP.out.hB.cell (World.block_lt_of_cell? w _ hx0)).trans hx0
   replace hx1 := (CP.out.hB.cell (World.block_lt_of_cell? w _ hx1)).trans hx1
   replace hx2 := (CP.out.hB.cell (World.block_lt_of_cell? w _ hx2)).trans hx2
   have HC := K_ (Kd.C_below hC CP.out.hB)
   have hn := CP.out.hn
   have hnr := hn.2.1
   clear hC et hn
   have BT := K_ (heap_alloc_new wr (.cells #[.int .i64 0, .slice none 0 0, .int .i64 0] 48))
   have es : (wr.alloc (.cells #[.int .i64 0, .slice none 0 0, .int .i64 0] 48)).heap.size = wr.heap.size + 1 := by simp
   have HT5 := K_ (show (l0_1.take i).length + 1 ≤ 3518437208883 from by rw [List.length_take]; omega)
   go_wp2_with (first
    | ((with_reducible refine gate_store (t := 48) (p := 5) rfl ?_); (try simp only [P_]); refine spec_l1copy.row_wr_ rfl 48 (.tmp 5) (.tmp 25) rfl rfl wr.heap.size rfl (c' := #[.int .i64 t.f0, .slice Ap t.f1.length cp, .int .i64 t.f2]) rfl BT.out spec_l1copy.info48s rfl (by simp [Value.oneCell']) ?_; intro w7 h7 g7; have B7 := K_ h7; have b7 : Below wr.heap.size wr w7 := ((Below.refl _ _).alloc (Nat.le_refl _) _).grown g7 (by rw [es]; omega) (fun k hk => by injection hk with hk; omega); have HB7 := K_ b7; have s7 : wr.heap.size < w7.heap.size := blk_lt h7; have y0 : w7.cell? ⟨wr.heap.size, 0, none⟩ = some (.int .i64 t.f0) := (blk_cell h7 0).trans rfl; have y1 : w7.cell? ⟨wr.heap.size, 1, none⟩ = some (.slice Ap t.f1.length cp) := (blk_cell h7 1).trans rfl; have y2 : w7.cell? ⟨wr.heap.size, 2, none⟩ = some (.int .i64 t.f2) := (blk_cell h7 2).trans rfl; have BU := K_ (heap_alloc_new w7 (.cells #[.int .i64 0, .slice none 0 0, .int .i64 0] 48)); have es7 : (w7.alloc (.cells #[.int .i64 0, .slice none 0 0, .int .i64 0] 48)).heap.size = w7.heap.size + 1 := (by simp); clear h7 g7 b7 hx0 hx1 hx2 BT es)
    | ((with_reducible refine gate_store (t := 48) (p := 6) rfl ?_); (try simp only [P_]); refine spec_l1copy.row_wr_ rfl 48 (.tmp 6) (.tmp 26) rfl rfl w7.heap.size rfl (c' := #[.int .i64 t.f0, .slice Ap t.f1.length cp, .int .i64 t.f2]) rfl BU.out spec_l1copy.info48s rfl (by simp [Value.oneCell']) ?_; intro w8 h8 g8; have B8 := K_ h8; have b78 : Below w7.heap.size w7 w8 := ((Below.refl _ _).alloc (Nat.le_refl _) _).grown g8 (by rw [es7]; omega) (fun k hk => by injection hk with hk; omega); have HB8 := K_ (below_step HB7.out b78); have B7 := K_ (blk_below B7.out b78); have s8 : w7.heap.size < w8.heap.size := blk_lt h8; have y1 : w8.cell? ⟨wr.heap.size, 1, none⟩ = some (.slice Ap t.f1.length cp) := (blk_cell B7.out 1).trans rfl; clear h8 g8 b78 y0 y2 BU es7 HB7)
    | ((with_reducible refine gate_dst (N := 27) rfl ?_); refine Kd.R_lit (w0 := wr) (Kd.int .i64) wr.heap.size 3 ?hg (N := 27) ?hd (xs := ([] : List Int)) (inner := []) (ok := fun k => w8.heap.size ≤ k) (okp := fun _ => False) ?hr ?hp (fun _ hk => hk.elim) (Nat.le_refl _) HB8.out (by omega) (by simp) ?_; (case hd => rfl); (case hg => rfl); (case hr => go_simp; try rfl); (case hp => exact (Reps.none _ _)); intro v9 w9 r9 b9 g9 _; have R9 := K_ r9; have HB9 := K_ b9; have B8 := K_ (blk_grown B8.out g9 (by simp)); have B7 := K_ (blk_grown B7.out g9 (by simp)); have s9 := g9.size; have y1 : w9.cell? ⟨wr.heap.size, 1, none⟩ = some (.slice Ap t.f1.length cp) := (blk_cell B7.out 1).trans rfl; clear r9 b9 g9 HB8 B7)
    | ((with_reducible refine gate_builtin (b := .append) (xs := #[.tmp 27, .tmp 29]) rfl ?_); at_builtin; refine Kd.R_append_rows (Kd.int .i64) (w0 := wr) wr.heap.size rfl (.tmp 27) (.tmp 29) 22 3 (.int .i64 0) 8 rfl Tryd.underlying22 info3 rfl (by decide) (by omega) v9 ([] : List Int) t.f1 _ _ _ (fun k => w8.heap.size ≤ k) (fun _ => False) rfl rfl R9.out (Kd.C_below HC.out HB9.out) (fun _ _ h => h) (fun _ h => h.elim) (fun k hk => by omega) HB9.out HB9.out.size (by simp only [List.length_nil]; omega) ?_; intro v10 w10 r10 b10 g10 _; rw [List.nil_append] at r10; obtain ⟨D3, d3, rfl⟩ := Kd.R_slice r10; have R10 := K_ r10; have HB10 := K_ b10; have B8 := K_ (blk_grown B8.out g10 (fun e => by have := R9.out.1 _ e.symm; omega)); have s10 := g10.size; have y1 : w10.cell? ⟨w7.heap.size, 1, none⟩ = some (.slice Ap t.f1.length cp) := (blk_cell B8.out 1).trans rfl; have f1 := blk_frozen B8.out 1; clear r10 b10 g10 HB9 R9)
    | ((with_reducible refine gate_store (t := 22) (p := 31) rfl ?_); refine store_event (t := 22) (p := 31) (v := .tmp 30) (w1 := w10.setCell ⟨w7.heap.size, 1, none⟩ (.slice D3 t.f1.length d3)) rfl rfl rfl ?hr ?_; (case hr => go_simp; try rfl); intro w11 hw11; have B11 := K_ (show w11.heap[w7.heap.size]? = some (.cells #[.int .i64 t.f0, .slice D3 t.f1.length d3, .int .i64 t.f2] 48 (0, 0)) from by rw [hw11]; exact blk_put B8.out 1 _ rfl); have HB11 := K_ (show Below wr.heap.size wr w11 from by rw [hw11]; exact HB10.out.setCell (show wr.heap.size ≤ w7.heap.size by omega) _); have R11 := K_ (show Kd.R (Kd.int .i64) 3 w11 wr.heap.size (fun k => w8.heap.size ≤ k) (.slice D3 t.f1.length d3) t.f1 from by rw [hw11]; exact Kd.R_far (p := ⟨w7.heap.size, 1, none⟩) R10.out (fun k hk => by show k ≠ w7.heap.size; omega) _); have S11 := K_ (show w11.heap.size = w10.heap.size from by rw [hw11]; simp); have CP11 := K_ (CP.out.below HB11.out); have hb0 := CP11.out.bo; have HLT := K_ (Kd.R_lt (Kd.S_R CP.out.s1)); have y0 : w11.cell? ⟨w7.heap.size, 0, none⟩ = some (.int .i64 t.f0) := (blk_cell B11.out 0).trans rfl; have y1 : w11.cell? ⟨w7.heap.size, 1, none⟩ = some (.slice D3 t.f1.length d3) := (blk_cell B11.out 1).trans rfl; have y2 : w11.cell? ⟨w7.heap.size, 2, none⟩ = some (.int .i64 t.f2) := (blk_cell B11.out 2).trans rfl; have x1 : w11.cell? ⟨w.heap.size + 1 + 1, 1, none⟩ = some u := (blk_cell hb0 1).trans rfl; clear hw11 hb0 f1 B8 HB10 R10)
    | ((with_reducible refine gate_builtin (b := .append) (xs := #[.tmp 33, .tmp 35]) rfl ?_); at_builtin; refine Kd.S_append k48 (w0 := w) w.heap.size rfl (.tmp 33) (.tmp 35) 28 48 (.agg #[(.int .i64 0), (.slice none 0 0), (.int .i64 0)]) 40 rfl Tryd.underlying28 info48 rfl (by decide) (by omega) u (l0_1.take i) t [.int .i64 t.f0, .slice D3 t.f1.length d3, .int .i64 t.f2] (fun k => n ≤ k) (fun k => w8.heap.size ≤ k) rfl rfl (k48_mkM _ _ _ t (Kd.R_lower R11.out CP.out.hB.size)) (fun k hk => ⟨by omega, fun e => by have := HLT.out k e.symm; omega⟩) (fun k hk => by have := S11.out; omega) (Kd.S_mono (Kd.S_below (Kd.S_bound CP.out.s1) HB11.out) (fun k hk => ⟨hk.1, fun q => by have := hk.2.2.1; omega⟩)) CP11.out.hB CP11.out.hB.size (by have := HT5.out; omega) ?_; intro v12 w12 r12 b12 g12 _; obtain ⟨D4, d4, rfl⟩ := Kd.S_slice r12; have CQ := K_ (CP11.out.grow g12 b12 r12 (.int .i64 0)); have hbo := blk_grown CP11.out.bo g12 (fun e => by have := (Kd.S_R CP11.out.s1).1 _ e.symm; have := CP11.out.hn.1; omega); have x1 : w12.cell? ⟨w.heap.size + 1 + 1, 1, none⟩ = some u := (blk_cell hbo 1).trans rfl; have f1 := blk_frozen hbo 1; clear r12 b12 g12 hbo CP11 CP HB11 R11 B11 HLT y0 y1 y2))
   go_roundw
   case measure => simp [intOf]; omega
   case rel => exact ⟨i + 1, _, hlt, by go_num, ⟨by have h9 := CQ.out; rw [show (l0_1.take i ++ [t]).length = i + 1 from (by simp; omega)] at h9; rw [HTK.out]; exact h9⟩⟩
  ·have d23 : decide ((i : Int) < (l0_1.length : Int)) = false := decide_eq_false (by omega)
   have hie : i = l0_1.length := by omega
   subst hie
   have hq := CP.out
   rw [List.take_length] at hq
   obtain ⟨D1, d1, rfl⟩ := Kd.S_slice hq.s1
   have CQ := K_ hq
   have x0 : wr.cell? ⟨w.heap.size + 1 + 1, 0, none⟩ = some (.slice D0 l0_0.length d0) := (blk_cell hq.bo 0).trans rfl
   have x1 : wr.cell? ⟨w.heap.size + 1 + 1, 1, none⟩ = some (.slice D1 l0_1.length d1) := (blk_cell hq.bo 1).trans rfl
   have x2 : wr.cell? ⟨w.heap.size + 1 + 1, 2, none⟩ = some (.slice D2 l0_2.length d2) := (blk_cell hq.bo 2).trans rfl
   clear CP hq
   go_wp2_with (first
    | ((with_reducible refine gate_store (t := 30) (p := 2) rfl ?_); (try simp only [P_]); refine spec_l1copy.row_wr_ rfl 30 (.tmp 2) (.tmp 39) rfl rfl (w.heap.size + 1) rfl (c' := #[.slice D0 l0_0.length d0, .slice D1 l0_1.length d1, .slice D2 l0_2.length d2]) rfl CQ.out.br spec_l1copy.info26_ rfl (by simp [Value.oneCell']) ?_; intro wE hE gE; have BE := K_ hE; have GE := K_ gE; clear hE gE))
   refine bodyPost_ret (results_cell_row rfl _ _ (w.heap.size + 1) 30 #[.slice D0 l0_0.length d0, .slice D1 l0_1.length d1, .slice D2 l0_2.length d2] (0, 0) _ rfl BE.out hu26 rfl spec_l1copy.info26_) rfl ?_
   have h := CQ.out
   have hn := h.hn
   have hr := h.hr
   have ne : ∀ k, w.heap.size + 1 + 1 < k → k < wr.heap.size → wE.heap[k]? = wr.heap[k]? := fun k hk hl => GE.out.block k hl (fun e => by injection e with e; omega)
   refine ⟨_, _, _, rfl, Kd.R_mono (Kd.R_step h.r0 (fun k hk hl => ne k hk.2.1 hl)) (fun k hk => hk.1), Kd.S_mono (Kd.S_step h.s1 (fun k hk hl => ne k (by omega) hl)) (fun k hk => ⟨fun e => ?_, fun e => ?_⟩), Kd.R_mono (Kd.R_step h.r2 (fun k hk hl => ne k hk.2.1 hl)) (fun k hk => hk.1), h.hB.grown GE.out h.hB.size (fun k hk => by injection hk with hk; omega)⟩
   ·have := (h.r0.1 k e.symm).2.2; omega
   ·have := (h.r2.1 k e.symm).2.2; omega


/-! ### spec_l1in: function 37 -/
def spec_l1in.f (a0 : Int) (a1 : Int) (a2 : Int) : Option (Bool) := if a0 ≥ a1 then (some (decide (a0 ≤ a2))) else (some false)
set_option maxHeartbeats 8000000 in
set_option maxRecDepth 100000 in
theorem spec_l1in.calls (a0 : Int) (a1 : Int) (a2 : Int) (r : Bool) (w : World) (h : spec_l1in.f a0 a1 a2 = some r) :
  Calls Tryd.prog 37 #[.int .i64 a0, .int .i64 a1, .int .i64 a2] w fun e w' => e = .returned (.bool r) ∧ Drawn0 w w' := by
 unfold spec_l1in.f at h
 have H := h
 clear h
 replace H := ps_ H
 rcases H with ⟨c4, H⟩ | ⟨c4, H⟩
 case inr =>
  have c4b0 := decide_eq_false c4
  clear c4
  obtain rfl := Option.some.inj H
  go_enter Tryd.func37, Tryd.ntmps37
  go_wp2
  go_ret
  exact ⟨by first | rfl | (simp; done) | (simp [*]; done), by repeat (first | exact Drawn0.refl _ | apply Drawn0.step)⟩
 have c4b0 := decide_eq_true c4
 clear c4
 obtain rfl := Option.some.inj H
 go_enter Tryd.func37, Tryd.ntmps37
 go_wp2
 go_ret
 exact ⟨by first | rfl | (simp; done) | (simp [*]; done), by repeat (first | exact Drawn0.refl _ | apply Drawn0.step)⟩


/-! ### spec_l1there: function 38 -/
def spec_l1there.l0 : Nat → Int → Int → List (S48) → Int → Int → Option (Int)
 | 0, _, _, _, _, _ => none
 | k + 1, x1, x5, x9, x10, x11 => if x11 < x10 then (if 0 ≤ x11 then (if x11 < (x9.length : Int) then (if ((rd_T48 x9 x11).f0) = x1 then (spec_l1there.l0 k x1 (wrap64 (x5 + 1)) x9 x10 (wrap64 (x11 + 1))) else (spec_l1there.l0 k x1 x5 x9 x10 (wrap64 (x11 + 1)))) else (none)) else (none)) else (some x5)
def spec_l1there.f (k : Nat) (l0_0 : List Int) (l0_1 : List (S48)) (l0_2 : List Int) (a1 : Int) : Option (Int) := spec_l1there.l0 k a1 0 l0_1 (l0_1.length : Int) 0
theorem spec_l1there.mono_l : ∀ k, (∀ y0 y1 y2 y3 y4, LeO (spec_l1there.l0 k y0 y1 y2 y3 y4) (spec_l1there.l0 (k + 1) y0 y1 y2 y3 y4))
 | 0 => fun _ _ _ _ _ r h => by simp [spec_l1there.l0] at h
 | k + 1 => by
  have ih0 := spec_l1there.mono_l k
  ·intro y0 y1 y2 y3 y4
   unfold spec_l1there.l0
   repeat' with_reducible first | exact ih0 _ _ _ _ _ | exact LeO.refl _ | exact LeO.none _ | refine LeO.ite ?_ ?_ | refine LeO.bind ?_ (fun _ => ?_)
theorem spec_l1there.mono : ∀ a0 a1 a2 a3 k, LeO (spec_l1there.f k a0 a1 a2 a3) (spec_l1there.f (k + 1) a0 a1 a2 a3) := by
 intro a0 a1 a2 a3 k
 have ih0 := spec_l1there.mono_l k
 unfold spec_l1there.f
 repeat' with_reducible first | exact ih0 _ _ _ _ _ | exact LeO.refl _ | exact LeO.none _ | refine LeO.ite ?_ ?_ | refine LeO.bind ?_ (fun _ => ?_)
set_option maxHeartbeats 8000000 in
set_option maxRecDepth 100000 in
theorem spec_l1there.calls (k : Nat) (A0_0 : Option Addr) (c0_0 : Nat) (l0_0 : List Int) (A0_1 : Option Addr) (c0_1 : Nat) (l0_1 : List (S48)) (A0_2 : Option Addr) (c0_2 : Nat) (l0_2 : List Int) (a1 : Int) (r : Int) (w : World) (hr0_0 : Kd.C (Kd.int .i64) w A0_0 l0_0.length l0_0) (hc0_0 : l0_0.length ≤ c0_0) (hr0_1 : Kd.C k48 w A0_1 l0_1.length l0_1) (hc0_1 : l0_1.length ≤ c0_1) (hr0_2 : Kd.C (Kd.int .i64) w A0_2 l0_2.length l0_2) (hc0_2 : l0_2.length ≤ c0_2) (h : spec_l1there.f k l0_0 l0_1 l0_2 a1 = some r) :
  Calls Tryd.prog 38 #[.agg #[.slice A0_0 l0_0.length c0_0, .slice A0_1 l0_1.length c0_1, .slice A0_2 l0_2.length c0_2], .int .i64 a1] w fun e w' => e = .returned (.int .i64 r) ∧ Below w.heap.size w w' := by
 have hu30 := Tryd.underlying30
 have hu48 := Tryd.underlying48
 have HR0_0 := K_ hr0_0
 have HC0_0 := K_ hc0_0
 clear hr0_0 hc0_0
 have HR0_1 := K_ hr0_1
 have HC0_1 := K_ hc0_1
 clear hr0_1 hc0_1
 have HR0_2 := K_ hr0_2
 have HC0_2 := K_ hc0_2
 clear hr0_2 hc0_2
 have HB := K_ (Below.refl w.heap.size w)
 unfold spec_l1there.f at h
 have H := h
 clear h
 have H' := K_ H
 clear H
 go_enter Tryd.func38, Tryd.ntmps38
 go_wp2_with (first | ((with_reducible refine gate_dst (N := 2) rfl ?_); refine box_event (by rfl) (N := 2) (by rfl) (cs := #[.slice A0_0 l0_0.length c0_0, .slice A0_1 l0_1.length c0_1, .slice A0_2 l0_2.length c0_2]) (t := 30) (by go_simp; try rfl) ?_; intro gb109 hg w3 hbox hb; have BK109 := K_ (hbox); have GW109 := ge_ hg HB.out; have GE109 := ge_ hg HB.out; replace HB := K_ (below_step HB.out hb); clear hb hbox hg; obtain ⟨hcz4_0, hcz4_1, hcz4_2, hfz4_0, hfz4_1, hfz4_2⟩ := blkf3_ BK109.out))
 go_loopg [5, 11] k (fun kq v5 v11 w' => ∃ (x5_1 : Int) (x11_1 : Int), v5 = .int .i64 x5_1 ∧ v11 = .int .i64 x11_1 ∧ Aside0 (spec_l1there.l0 kq a1 x5_1 l0_1 (l0_1.length : Int) x11_1 = some r) ∧ Aside0 (kq ≤ k) ∧ Aside0 (w'.heap[gb109]? = some (.cells #[(.slice A0_0 l0_0.length c0_0), (.slice A0_1 l0_1.length c0_1), (.slice A0_2 l0_2.length c0_2)] 30 (0, 0))) ∧ Aside0 (Below w.heap.size w w'))
 case atStart => exact ⟨(0), (0), rfl, rfl, H', ⟨Nat.le_refl _⟩, ⟨BK109.out⟩, ⟨HB.out⟩⟩
 case round =>
  clear H'
  clear hcz4_0 hcz4_1 hcz4_2 hfz4_0 hfz4_1 hfz4_2
  obtain ⟨x5_1, x11_1, rfl, rfl, HA, HK1, BK109, HB⟩ := hrel
  cases gk with
  | zero => exact absurd HA.out (by simp [spec_l1there.l0])
  | succ k1 =>
   have H := HA.out
   clear HA
   simp only [spec_l1there.l0] at H
   replace H := ds_ H
   rcases H with ⟨c5b0, H⟩ | ⟨c5b0, H⟩
   case inr =>
    obtain rfl := Option.some.inj H
    go_wp2
    go_ret
    exact ⟨rfl, HB.out⟩
   replace H := dn_ H
   obtain ⟨c6b0, H⟩ := H
   replace H := dn_ H
   obtain ⟨c7b0, H⟩ := H
   replace H := ps_ H
   rcases H with ⟨c8, H⟩ | ⟨c8, H⟩
   case inr =>
    have c8b0 := beq_eq_false_iff_ne.mpr c8
    have c8b1 := bne_iff_ne.mpr c8
    have H' := K_ H
    clear H
    have p110 : 0 ≤ (x11_1 : Int) := of_decide_eq_true (by assumption)
    have q110 : x11_1 < (l0_1.length : Int) := of_decide_eq_true (by assumption)
    obtain ⟨ad110, A110_1, c110_1, e110, hx110_0, hx110_1, hx110_2, hl110_1, hi110_1⟩ := at_T48 HR0_1.out x11_1 p110 q110
    cases e110
    replace hx110_0 := (HB.out.cell (World.block_lt_of_cell? w _ hx110_0)).trans hx110_0
    replace hx110_1 := (HB.out.cell (World.block_lt_of_cell? w _ hx110_1)).trans hx110_1
    replace hx110_2 := (HB.out.cell (World.block_lt_of_cell? w _ hx110_2)).trans hx110_2
    have HR110_1 := K_ hi110_1
    have HC110_1 := K_ hl110_1
    clear hi110_1 hl110_1
    replace p110 := eq_true p110
    replace q110 := eq_true q110
    go_wp2_with (first | ((with_reducible refine gate_dst (N := 7) rfl ?_); refine box_event (by rfl) (N := 7) (by rfl) (cs := #[.int .i64 0, .slice none 0 0, .int .i64 0]) (t := 48) (by go_simp; try rfl) ?_; intro gb111 hg w12 hbox hb; have BK111 := K_ (hbox); have GW111 := ge_ hg HB.out; have GE111 := ge_ hg HB.out; have NB109_111 := nl_ hg BK109.out; have NB111_109 := ng_ hg BK109.out; replace BK109 := K_ (blk_below BK109.out hb); replace HB := K_ (below_step HB.out hb); clear hb hbox hg; have hnb13 := NB111_109.out; have hnc13 := NB109_111.out; obtain ⟨hcz14_0, hcz14_1, hcz14_2, hfz14_0, hfz14_1, hfz14_2⟩ := blkf3_ BK111.out))
    go_roundg k1
    case measure => have := HK1.out; omega
    case rel => exact ⟨(x5_1), (wrap64 (x11_1 + 1)), rfl, rfl, H', ⟨by have := HK1.out; omega⟩, ⟨by refine blk_far ?_ NB109_111.out _; refine blk_far ?_ NB109_111.out _; refine blk_far ?_ NB109_111.out _; exact BK109.out⟩, ⟨by repeat (first | exact HB.out | refine below_set ?_ GE109.out | refine below_set ?_ GE111.out)⟩⟩
   have c8b0 := beq_iff_eq.mpr c8
   have c8b1 := bne_eq_false_iff_eq.mpr c8
   clear c8
   have H' := K_ H
   clear H
   have p110 : 0 ≤ (x11_1 : Int) := of_decide_eq_true (by assumption)
   have q110 : x11_1 < (l0_1.length : Int) := of_decide_eq_true (by assumption)
   obtain ⟨ad110, A110_1, c110_1, e110, hx110_0, hx110_1, hx110_2, hl110_1, hi110_1⟩ := at_T48 HR0_1.out x11_1 p110 q110
   cases e110
   replace hx110_0 := (HB.out.cell (World.block_lt_of_cell? w _ hx110_0)).trans hx110_0
   replace hx110_1 := (HB.out.cell (World.block_lt_of_cell? w _ hx110_1)).trans hx110_1
   replace hx110_2 := (HB.out.cell (World.block_lt_of_cell? w _ hx110_2)).trans hx110_2
   have HR110_1 := K_ hi110_1
   have HC110_1 := K_ hl110_1
   clear hi110_1 hl110_1
   replace p110 := eq_true p110
   replace q110 := eq_true q110
   go_wp2_with (first | ((with_reducible refine gate_dst (N := 7) rfl ?_); refine box_event (by rfl) (N := 7) (by rfl) (cs := #[.int .i64 0, .slice none 0 0, .int .i64 0]) (t := 48) (by go_simp; try rfl) ?_; intro gb111 hg w9 hbox hb; have BK111 := K_ (hbox); have GW111 := ge_ hg HB.out; have GE111 := ge_ hg HB.out; have NB109_111 := nl_ hg BK109.out; have NB111_109 := ng_ hg BK109.out; replace BK109 := K_ (blk_below BK109.out hb); replace HB := K_ (below_step HB.out hb); clear hb hbox hg; have hnb10 := NB111_109.out; have hnc10 := NB109_111.out; obtain ⟨hcz11_0, hcz11_1, hcz11_2, hfz11_0, hfz11_1, hfz11_2⟩ := blkf3_ BK111.out))
   go_roundg k1
   case measure => have := HK1.out; omega
   case rel => exact ⟨(wrap64 (x5_1 + 1)), (wrap64 (x11_1 + 1)), rfl, rfl, H', ⟨by have := HK1.out; omega⟩, ⟨by refine blk_far ?_ NB109_111.out _; refine blk_far ?_ NB109_111.out _; refine blk_far ?_ NB109_111.out _; exact BK109.out⟩, ⟨by repeat (first | exact HB.out | refine below_set ?_ GE109.out | refine below_set ?_ GE111.out)⟩⟩


/-! ### spec_l2weight: function 59 -/
def spec_l2weight.l0 : Nat → Int → List (S48) → Int → Int → Option (Int)
 | 0, _, _, _, _ => none
 | k + 1, x3, x7, x8, x9 => if x9 < x8 then (if 0 ≤ x9 then (if x9 < (x7.length : Int) then (spec_l2weight.l0 k (wrap64 (x3 + ((rd_T48 x7 x9).f2))) x7 x8 (wrap64 (x9 + 1))) else (none)) else (none)) else (some x3)
def spec_l2weight.f (k : Nat) (l0_0 : List Int) (l0_1 : List (S48)) (l0_2 : List Int) : Option (Int) := spec_l2weight.l0 k 0 l0_1 (l0_1.length : Int) 0
theorem spec_l2weight.mono_l : ∀ k, (∀ y0 y1 y2 y3, LeO (spec_l2weight.l0 k y0 y1 y2 y3) (spec_l2weight.l0 (k + 1) y0 y1 y2 y3))
 | 0 => fun _ _ _ _ r h => by simp [spec_l2weight.l0] at h
 | k + 1 => by
  have ih0 := spec_l2weight.mono_l k
  ·intro y0 y1 y2 y3
   unfold spec_l2weight.l0
   repeat' with_reducible first | exact ih0 _ _ _ _ | exact LeO.refl _ | exact LeO.none _ | refine LeO.ite ?_ ?_ | refine LeO.bind ?_ (fun _ => ?_)
theorem spec_l2weight.mono : ∀ a0 a1 a2 k, LeO (spec_l2weight.f k a0 a1 a2) (spec_l2weight.f (k + 1) a0 a1 a2) := by
 intro a0 a1 a2 k
 have ih0 := spec_l2weight.mono_l k
 unfold spec_l2weight.f
 repeat' with_reducible first | exact ih0 _ _ _ _ | exact LeO.refl _ | exact LeO.none _ | refine LeO.ite ?_ ?_ | refine LeO.bind ?_ (fun _ => ?_)
set_option maxHeartbeats 8000000 in
set_option maxRecDepth 100000 in
theorem spec_l2weight.calls (k : Nat) (A0_0 : Option Addr) (c0_0 : Nat) (l0_0 : List Int) (A0_1 : Option Addr) (c0_1 : Nat) (l0_1 : List (S48)) (A0_2 : Option Addr) (c0_2 : Nat) (l0_2 : List Int) (r : Int) (w : World) (hr0_0 : Kd.C (Kd.int .i64) w A0_0 l0_0.length l0_0) (hc0_0 : l0_0.length ≤ c0_0) (hr0_1 : Kd.C k48 w A0_1 l0_1.length l0_1) (hc0_1 : l0_1.length ≤ c0_1) (hr0_2 : Kd.C (Kd.int .i64) w A0_2 l0_2.length l0_2) (hc0_2 : l0_2.length ≤ c0_2) (h : spec_l2weight.f k l0_0 l0_1 l0_2 = some r) :
  Calls Tryd.prog 59 #[.agg #[.slice A0_0 l0_0.length c0_0, .slice A0_1 l0_1.length c0_1, .slice A0_2 l0_2.length c0_2]] w fun e w' => e = .returned (.int .i64 r) ∧ Below w.heap.size w w' := by
 have hu30 := Tryd.underlying30
 have hu48 := Tryd.underlying48
 have HR0_0 := K_ hr0_0
 have HC0_0 := K_ hc0_0
 clear hr0_0 hc0_0
 have HR0_1 := K_ hr0_1
 have HC0_1 := K_ hc0_1
 clear hr0_1 hc0_1
 have HR0_2 := K_ hr0_2
 have HC0_2 := K_ hc0_2
 clear hr0_2 hc0_2
 have HB := K_ (Below.refl w.heap.size w)
 unfold spec_l2weight.f at h
 have H := h
 clear h
 have H' := K_ H
 clear H
 go_enter Tryd.func59, Tryd.ntmps59
 go_wp2_with (first | ((with_reducible refine gate_dst (N := 1) rfl ?_); refine box_event (by rfl) (N := 1) (by rfl) (cs := #[.slice A0_0 l0_0.length c0_0, .slice A0_1 l0_1.length c0_1, .slice A0_2 l0_2.length c0_2]) (t := 30) (by go_simp; try rfl) ?_; intro gb246 hg w2 hbox hb; have BK246 := K_ (hbox); have GW246 := ge_ hg HB.out; have GE246 := ge_ hg HB.out; replace HB := K_ (below_step HB.out hb); clear hb hbox hg; obtain ⟨hcz3_0, hcz3_1, hcz3_2, hfz3_0, hfz3_1, hfz3_2⟩ := blkf3_ BK246.out))
 go_loopg [3, 9] k (fun kq v3 v9 w' => ∃ (x3_1 : Int) (x9_1 : Int), v3 = .int .i64 x3_1 ∧ v9 = .int .i64 x9_1 ∧ Aside0 (spec_l2weight.l0 kq x3_1 l0_1 (l0_1.length : Int) x9_1 = some r) ∧ Aside0 (kq ≤ k) ∧ Aside0 (w'.heap[gb246]? = some (.cells #[(.slice A0_0 l0_0.length c0_0), (.slice A0_1 l0_1.length c0_1), (.slice A0_2 l0_2.length c0_2)] 30 (0, 0))) ∧ Aside0 (Below w.heap.size w w'))
 case atStart => exact ⟨(0), (0), rfl, rfl, H', ⟨Nat.le_refl _⟩, ⟨BK246.out⟩, ⟨HB.out⟩⟩
 case round =>
  clear H'
  clear hcz3_0 hcz3_1 hcz3_2 hfz3_0 hfz3_1 hfz3_2
  obtain ⟨x3_1, x9_1, rfl, rfl, HA, HK1, BK246, HB⟩ := hrel
  cases gk with
  | zero => exact absurd HA.out (by simp [spec_l2weight.l0])
  | succ k1 =>
   have H := HA.out
   clear HA
   simp only [spec_l2weight.l0] at H
   replace H := ds_ H
   rcases H with ⟨c4b0, H⟩ | ⟨c4b0, H⟩
   case inr =>
    obtain rfl := Option.some.inj H
    go_wp2
    go_ret
    exact ⟨rfl, HB.out⟩
   replace H := dn_ H
   obtain ⟨c5b0, H⟩ := H
   replace H := dn_ H
   obtain ⟨c6b0, H⟩ := H
   have H' := K_ H
   clear H
   have p247 : 0 ≤ (x9_1 : Int) := of_decide_eq_true (by assumption)
   have q247 : x9_1 < (l0_1.length : Int) := of_decide_eq_true (by assumption)
   obtain ⟨ad247, A247_1, c247_1, e247, hx247_0, hx247_1, hx247_2, hl247_1, hi247_1⟩ := at_T48 HR0_1.out x9_1 p247 q247
   cases e247
   replace hx247_0 := (HB.out.cell (World.block_lt_of_cell? w _ hx247_0)).trans hx247_0
   replace hx247_1 := (HB.out.cell (World.block_lt_of_cell? w _ hx247_1)).trans hx247_1
   replace hx247_2 := (HB.out.cell (World.block_lt_of_cell? w _ hx247_2)).trans hx247_2
   have HR247_1 := K_ hi247_1
   have HC247_1 := K_ hl247_1
   clear hi247_1 hl247_1
   replace p247 := eq_true p247
   replace q247 := eq_true q247
   go_wp2_with (first | ((with_reducible refine gate_dst (N := 5) rfl ?_); refine box_event (by rfl) (N := 5) (by rfl) (cs := #[.int .i64 0, .slice none 0 0, .int .i64 0]) (t := 48) (by go_simp; try rfl) ?_; intro gb248 hg w7 hbox hb; have BK248 := K_ (hbox); have GW248 := ge_ hg HB.out; have GE248 := ge_ hg HB.out; have NB246_248 := nl_ hg BK246.out; have NB248_246 := ng_ hg BK246.out; replace BK246 := K_ (blk_below BK246.out hb); replace HB := K_ (below_step HB.out hb); clear hb hbox hg; have hnb8 := NB248_246.out; have hnc8 := NB246_248.out; obtain ⟨hcz9_0, hcz9_1, hcz9_2, hfz9_0, hfz9_1, hfz9_2⟩ := blkf3_ BK248.out))
   go_roundg k1
   case measure => have := HK1.out; omega
   case rel => exact ⟨(wrap64 (x3_1 + ((rd_T48 l0_1 x9_1).f2))), (wrap64 (x9_1 + 1)), rfl, rfl, H', ⟨by have := HK1.out; omega⟩, ⟨by refine blk_far ?_ NB246_248.out _; refine blk_far ?_ NB246_248.out _; refine blk_far ?_ NB246_248.out _; exact BK246.out⟩, ⟨by repeat (first | exact HB.out | refine below_set ?_ GE246.out | refine below_set ?_ GE248.out)⟩⟩

-- NOT PRINTED: function 49 (spec_l2T_value)

-- NOT PRINTED: function 24 (spec_Safe)

-- NOT PRINTED: function 6 (spec_Shown)


end Go.Proofs.YtkcocomehhlpmaaDoor.Q
