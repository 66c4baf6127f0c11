-- Written by programs of this session (wip/drv.py, wip/mkclaim.py) over the kit's print; not trusted: Lean checks it.
import Derived.Test.YtncckjibiffnaaaFnExactStepQ0
import Derived.Test.YtncckjibiffnaaaFnExactStepQ2
import Derived.Test.YtncckjibiffnaaaFnExactStepQ3
import Derived.Test.YtncckjibiffnaaaFnExactStepQ4
import Derived.Test.YtncckjibiffnaaaFnExactStepQ5
import Derived.Test.YtncckjibiffnaaaFnExactStepQ6
namespace Go.Proofs.Ytncckjibiffnaaa.Q
open Go.RowKit Go.Proofs.YtncckjibiffnaaaW.PrintWords Go.Proofs.YtncckjibiffnaaaW.PrintLast Go.Proofs.YtncckjibiffnaaaW.PrintMore
attribute [local go_sem] max2_int min2_int max_two min_two max_three min_three max_four min_four   -- for this text's walks alone
set_option linter.unusedVariables false
set_option linter.unusedSimpArgs false

/-! ### impl_copyState: function 60 -/
def impl_copyState.l0 : Nat → List (S49) → Int → Int → List Int → List (S49) → List Int → Option (List Int × (List (S49)) × List Int)
 | 0, _, _, _, _, _, _ => none
 | k + 1, x14, x15, x16, x548000, x548001, x548002 => if x16 < x15 then (if 0 ≤ x16 then (if x16 < (x14.length : Int) then (if ([] : List Int).length + ((rd_T49 x14 x16).f1).length < 17592186044416 then (if x548001.length < 3518437208883 then (impl_copyState.l0 k x14 x15 (wrap64 (x16 + 1)) x548000 (x548001 ++ [(⟨(rd_T49 x14 x16).f0, (([] : List Int) ++ ((rd_T49 x14 x16).f1)), (rd_T49 x14 x16).f2⟩ : S49)]) x548002) else (none)) else (none)) else (none)) else (none)) else (some (x548000, x548001, x548002))
def impl_copyState.f (k : Nat) (l0_0 : List Int) (l0_1 : List (S49)) (l0_2 : List Int) : Option (List Int × (List (S49)) × List Int) := if ([] : List Int).length + l0_0.length < 17592186044416 then (if ([] : List Int).length + l0_2.length < 17592186044416 then (impl_copyState.l0 k l0_1 (l0_1.length : Int) 0 (([] : List Int) ++ l0_0) ([] : List (S49)) (([] : List Int) ++ l0_2)) else (none)) else (none)
theorem impl_copyState.mono_l : ∀ k, (∀ y0 y1 y2 y3 y4 y5, LeO (impl_copyState.l0 k y0 y1 y2 y3 y4 y5) (impl_copyState.l0 (k + 1) y0 y1 y2 y3 y4 y5))
 | 0 => fun _ _ _ _ _ _ r h => by simp [impl_copyState.l0] at h
 | k + 1 => by
  have ih0 := impl_copyState.mono_l k
  ·intro y0 y1 y2 y3 y4 y5
   unfold impl_copyState.l0
   repeat' first
   | (with_reducible exact ih0 _ _ _ _ _ _)
   | (with_reducible exact LeO.refl _)
   | (with_reducible exact LeO.none _)
   | (with_reducible refine LeO.ite ?_ ?_)
   | (with_reducible refine LeO.bind ?_ (fun _ => ?_))
   | exact ih0 _ _ _ _ _ _
   | exact LeO.none _
   | refine LeO.ite ?_ ?_
   | refine LeO.bind ?_ (fun _ => ?_)
theorem impl_copyState.mono : ∀ a0 a1 a2 k, LeO (impl_copyState.f k a0 a1 a2) (impl_copyState.f (k + 1) a0 a1 a2) := by
 intro a0 a1 a2 k
 have ih0 := impl_copyState.mono_l k
 unfold impl_copyState.f
 repeat' first
   | (with_reducible exact ih0 _ _ _ _ _ _)
   | (with_reducible exact LeO.refl _)
   | (with_reducible exact LeO.none _)
   | (with_reducible refine LeO.ite ?_ ?_)
   | (with_reducible refine LeO.bind ?_ (fun _ => ?_))
   | exact ih0 _ _ _ _ _ _
   | exact LeO.none _
   | refine LeO.ite ?_ ?_
   | refine LeO.bind ?_ (fun _ => ?_)
def impl_copyState.T1 : Bool × List (List Nat × List Nat) := (true, [([], []), ([0], [0]), ([1], [1]), ([], []), ([3], [3]), ([4, 2], [4]), ([2, 5], [2, 5]), ([], []), ([7, 6, 5, 0, 1, 2, 3, 4, 5, 6, 7], [6, 7])])
def impl_copyState.B1 : List Nat := [0, 1, 3, 0, 8, 31, 63, 0, 255]
theorem impl_copyState.tab1 : rtab .any (opsOf Try.f60 1) = impl_copyState.T1 := by kernel_rfl
theorem impl_copyState.bits1 : waitsOk impl_copyState.T1.2 impl_copyState.B1 = true := by kernel_rfl
set_option maxHeartbeats 8000000 in
set_option maxRecDepth 100000 in
theorem impl_copyState.calls (k : Nat) (A0_0 : Option Addr) (c0_0 : Nat) (l0_0 : List Int) (A0_1 : Option Addr) (c0_1 : Nat) (l0_1 : List (S49)) (A0_2 : Option Addr) (c0_2 : Nat) (l0_2 : List Int) (r1 : List Int) (r2 : List (S49)) (r3 : List Int) (w : World) (hr0_0 : Kd.C (Kd.int .i64) w A0_0 l0_0.length l0_0) (hc0_0 : l0_0.length ≤ c0_0) (hr0_1 : Kd.C k49 w A0_1 l0_1.length l0_1) (hc0_1 : l0_1.length ≤ c0_1) (hr0_2 : Kd.C (Kd.int .i64) w A0_2 l0_2.length l0_2) (hc0_2 : l0_2.length ≤ c0_2) (h : impl_copyState.f k l0_0 l0_1 l0_2 = some (r1, r2, r3)) :
  Calls Try.prog 60 #[.agg #[.slice A0_0 l0_0.length c0_0, .slice A0_1 l0_1.length c0_1, .slice A0_2 l0_2.length c0_2]] w fun e w' => ∃ v0_ v1_ v2_ : Value, e = .returned (.agg #[v0_, v1_, v2_]) ∧ Kd.R (Kd.int .i64) 3 w' w.heap.size (fun k_ => some k_ ≠ (v2_ : Value).ownBlock) v0_ r1 ∧ Kd.S k49 49 w' w.heap.size (fun k_ => some k_ ≠ (v0_ : Value).ownBlock ∧ some k_ ≠ (v2_ : Value).ownBlock) v1_ r2 ∧ Kd.R (Kd.int .i64) 3 w' w.heap.size (fun k_ => some k_ ≠ (v0_ : Value).ownBlock) v2_ r3 ∧ Below w.heap.size w w' := by
 have hu31 := Try.underlying31
 have hu49 := Try.underlying49
 have HR0_0 := Aside0.mk hr0_0
 have HC0_0 := Aside0.mk hc0_0
 clear hr0_0 hc0_0
 have HR0_1 := Aside0.mk hr0_1
 have HC0_1 := Aside0.mk hc0_1
 clear hr0_1 hc0_1
 have HR0_2 := Aside0.mk hr0_2
 have HC0_2 := Aside0.mk hc0_2
 clear hr0_2 hc0_2
 have HB := Aside0.mk (Below.refl w.heap.size w)
 have H : (if ([] : List Int).length + l0_0.length < 17592186044416 then (if ([] : List Int).length + l0_2.length < 17592186044416 then (impl_copyState.l0 k l0_1 (l0_1.length : Int) 0 (([] : List Int) ++ l0_0) ([] : List (S49)) (([] : List Int) ++ l0_2)) else (none)) else (none)) = some (r1, r2, r3) := h
 clear h
 by_cases c2 : ([] : List Int).length + l0_0.length < 17592186044416
 ·rw [if_pos c2] at H
  have LMc2 := Aside0.mk c2
  clear c2
  obtain ⟨y541, hy541⟩ : ∃ y_ : List Int, y_ = (([] : List Int) ++ l0_0) := ⟨_, rfl⟩
  replace H : (if ([] : List Int).length + l0_2.length < 17592186044416 then (impl_copyState.l0 k l0_1 (l0_1.length : Int) 0 y541 ([] : List (S49)) (([] : List Int) ++ l0_2)) else (none)) = some (r1, r2, r3) := by first | (rw [hy541]; with_reducible exact H) | (have H2_ := (Option.bind_some _ _).symm.trans H; rw [hy541]; with_reducible exact H2_) | (have H2_ := (Option.bind_some _ _).symm.trans H; with_reducible exact H2_) | with_reducible exact H | (rw [hy541]; exact H) | exact H
  have Ny541 := Aside0.mk hy541
  clear hy541
  by_cases c3 : ([] : List Int).length + l0_2.length < 17592186044416
  ·rw [if_pos c3] at H
   have LMc3 := Aside0.mk c3
   clear c3
   obtain ⟨y544, hy544⟩ : ∃ y_ : List Int, y_ = (([] : List Int) ++ l0_2) := ⟨_, rfl⟩
   replace H : (impl_copyState.l0 k l0_1 (l0_1.length : Int) 0 y541 ([] : List (S49)) y544) = some (r1, r2, r3) := by first | (rw [hy544]; with_reducible exact H) | (have H2_ := (Option.bind_some _ _).symm.trans H; rw [hy544]; with_reducible exact H2_) | (have H2_ := (Option.bind_some _ _).symm.trans H; with_reducible exact H2_) | with_reducible exact H | (rw [hy544]; exact H) | exact H
   have Ny544 := Aside0.mk hy544
   clear hy544
   have H' := Aside0.mk H
   clear H
   go_enter Try.func60, Try.ntmps60
   try go_wp2_with (first | ((with_reducible refine gate_dst (N := 1) rfl ?_); refine box_event ?hg (N := 1) ?hd (cs := #[.slice A0_0 l0_0.length c0_0, .slice A0_1 l0_1.length c0_1, .slice A0_2 l0_2.length c0_2]) (t := 31) ?hr ?_; (case hd => rfl); (case hg => rfl); (case hr => first | (go_simp; done) | (go_simp; rfl)); intro gb539 hg w4 hbox hb; have n0_ := Aside0.mk (below_step (by exact HB.out) hb); have n1_ := Aside0.mk (hbox); have n2_ := Aside0.mk ((by rw [hg]; exact (below_size (by exact HB.out)) : w.heap.size ≤ gb539)); have n3_ := Aside0.mk ((by rw [hg]; exact (below_size (by exact HB.out)) : w.heap.size ≤ gb539)); clear HB; have HB := n0_; have BK539 := n1_; have GW539 := n2_; have GE539 := n3_; clear n0_ n1_ n2_ n3_; clear hb hbox hg) | ((with_reducible refine gate_dst (N := 2) rfl ?_); refine box_event ?hg (N := 2) ?hd (cs := #[.slice none 0 0, .slice none 0 0, .slice none 0 0]) (t := 31) ?hr ?_; (case hd => rfl); (case hg => rfl); (case hr => first | (go_simp; done) | (go_simp; rfl)); intro gb540 hg w5 hbox hb; have n0_ := Aside0.mk (blk_below (g := gb539) (o := .cells #[.slice A0_0 l0_0.length c0_0, .slice A0_1 l0_1.length c0_1, .slice A0_2 l0_2.length c0_2] 31 (0, 0)) (by exact BK539.out) hb); have n1_ := Aside0.mk (below_step (by exact HB.out) hb); have n2_ := Aside0.mk (hbox); have n3_ := Aside0.mk ((by rw [hg]; exact (below_size (by exact HB.out)) : w.heap.size ≤ gb540)); have n4_ := Aside0.mk ((by rw [hg]; exact (below_size (by exact HB.out)) : w.heap.size ≤ gb540)); have n5_ := Aside0.mk ((by rw [hg]; exact Nat.ne_of_lt (blk_lt (g := gb539) (o := .cells #[.slice A0_0 l0_0.length c0_0, .slice A0_1 l0_1.length c0_1, .slice A0_2 l0_2.length c0_2] 31 (0, 0)) (by exact BK539.out)) : gb539 ≠ gb540)); have n6_ := Aside0.mk ((by rw [hg]; exact Nat.ne_of_gt (blk_lt (g := gb539) (o := .cells #[.slice A0_0 l0_0.length c0_0, .slice A0_1 l0_1.length c0_1, .slice A0_2 l0_2.length c0_2] 31 (0, 0)) (by exact BK539.out)) : gb540 ≠ gb539)); clear BK539; clear HB; have BK539 := n0_; have HB := n1_; have BK540 := n2_; have GW540 := n3_; have GE540 := n4_; have NB539_540 := n5_; have NB540_539 := n6_; clear n0_ n1_ n2_ n3_ n4_ n5_ n6_; clear hb hbox hg))
   have n0_ := Aside0.mk (blk_drew BK539.out)
   have n1_ := Aside0.mk (blk_drew BK540.out)
   have n2_ := Aside0.mk (below_drew1 HB.out)
   clear BK539
   clear BK540
   clear HB
   have BK539 := n0_
   have BK540 := n1_
   have HB := n2_
   clear n0_ n1_ n2_
   refine start_ (n := 9) (S := fun w' => w'.cell? ⟨gb539, 0, none⟩ = some (.slice A0_0 l0_0.length c0_0) ∧ w'.cell? ⟨gb539, 1, none⟩ = some (.slice A0_1 l0_1.length c0_1) ∧ w'.cell? ⟨gb539, 2, none⟩ = some (.slice A0_2 l0_2.length c0_2)) (ds := []) #[false, false, false, false, false, false, false, false, false] (by kernel_rfl) rfl rfl ⟨(blk_cell BK539.out 0).trans rfl, (blk_cell BK539.out 1).trans rfl, (blk_cell BK539.out 2).trans rfl⟩ (fun hHeld => ?_); refine with_tabW impl_copyState.tab1 impl_copyState.bits1 (fun HT_ HW_ => ?_)
   generalize w5.drew = w6 at BK539 BK540 HB hHeld ⊢
   refine pure_ (i := 0) (N := some 6) (v := ?_) (a' := ?_) #[true, false, false, false, false, false, false, false, false] rfl rfl (any_of HT_.out (by kernel_rfl)) (fun _ _ _ h => h) (Or.inl ⟨by rfl, ?_⟩) ?_ ?_
   rotate_left
   ·intro w'
    go_simp
    with_reducible rfl
   rotate_left
   ·simp only [Act.put, List.setIfInBounds_toArray, List.set_cons_zero, List.set_cons_succ, i64_w, i32_w]
    rfl
   refine pure_ (i := 3) (N := some 9) (v := ?_) (a' := ?_) #[true, false, false, true, false, false, false, false, false] rfl rfl (any_of HT_.out (by kernel_rfl)) (fun _ _ _ h => h) (Or.inl ⟨by rfl, ?_⟩) ?_ ?_
   rotate_left
   ·intro w'
    go_simp
    with_reducible rfl
   rotate_left
   ·simp only [Act.put, List.setIfInBounds_toArray, List.set_cons_zero, List.set_cons_succ, i64_w, i32_w]
    rfl
   refine take_ (i := 1) (N := some 7) (v := ?_) (a' := ?_) #[true, true, false, true, false, false, false, false, false] rfl rfl (take_ofW HT_.out HW_.out (by kernel_rfl)) (fun _ _ _ h => h) (Or.inl ⟨by rfl, ?_⟩) hHeld ?_ ?_
   rotate_left
   ·rintro w' ⟨s0, s1, s2⟩
    go_simp
    with_reducible rfl
   rotate_left
   ·simp only [Act.put, List.setIfInBounds_toArray, List.set_cons_zero, List.set_cons_succ, i64_w, i32_w]
    rfl
   refine take_ (i := 4) (N := some 10) (v := ?_) (a' := ?_) #[true, true, false, true, true, false, false, false, false] rfl rfl (take_ofW HT_.out HW_.out (by kernel_rfl)) (fun _ _ _ h => h) (Or.inl ⟨by rfl, ?_⟩) hHeld ?_ ?_
   rotate_left
   ·rintro w' ⟨s0, s1, s2⟩
    go_simp
    with_reducible rfl
   rotate_left
   ·simp only [Act.put, List.setIfInBounds_toArray, List.set_cons_zero, List.set_cons_succ, i64_w, i32_w]
    rfl
   refine join_ (σ := Value × Value × Nat) 1 #[true, true, true, true, true, true, true, true, false] (fun s_ => [(8, s_.1), (11, s_.2.1), (3, .pointer (some ⟨s_.2.2, 0, none⟩)), (12, .agg #[s_.1, .slice none 0 0, s_.2.1])]) (fun s_ w' => (w'.cell? ⟨gb539, 0, none⟩ = some (.slice A0_0 l0_0.length c0_0) ∧ w'.cell? ⟨gb539, 1, none⟩ = some (.slice A0_1 l0_1.length c0_1) ∧ w'.cell? ⟨gb539, 2, none⟩ = some (.slice A0_2 l0_2.length c0_2)) ∧ (Kd.R (Kd.int .i64) 3 w' w.heap.size (fun k_ => some k_ ≠ (s_.2.1 : Value).ownBlock) s_.1 y541) ∧ (Kd.R (Kd.int .i64) 3 w' w.heap.size (fun k_ => some k_ ≠ (s_.1 : Value).ownBlock) s_.2.1 y544) ∧ (w'.heap[gb539]? = some (.cells #[.slice A0_0 l0_0.length c0_0, .slice A0_1 l0_1.length c0_1, .slice A0_2 l0_2.length c0_2] 31 (0, 0))) ∧ (w'.heap[gb540]? = some (.cells #[.slice none 0 0, .slice none 0 0, .slice none 0 0] 31 (0, 0))) ∧ (w'.heap[s_.2.2]? = some (.cells #[.slice none 0 0, .slice none 0 0, .slice none 0 0] 31 (0, 0))) ∧ (w.heap.size ≤ s_.2.2) ∧ (w.heap.size ≤ s_.2.2) ∧ (gb539 ≠ s_.2.2) ∧ (s_.2.2 ≠ gb539) ∧ (gb540 ≠ s_.2.2) ∧ (s_.2.2 ≠ gb540) ∧ (Below w.heap.size w w')) ?_ ?_
   rotate_left
   ·intro hCont
    refine two_ (i := 2) (j := 7) (Ni := some 8) (Nj := some 3) #[true, true, true, true, true, false, false, false, false] #[true, true, false, true, true, false, false, true, false] rfl rfl rfl rfl (two_of HT_.out (by kernel_rfl)) (by decide) (by decide) (fun K hK => ?_) (fun K hK => ?_)
    ·skip
     refine Kd.R_append_rows_step (Kd.int .i64) (w0 := w) w.heap.size (by rfl) (.const (.slice none 0 0)) (.tmp 7) 23 3 (.int .i64 0) 8 rfl Try.underlying23 info3 rfl (by decide) (by omega) (.slice none 0 0) ([] : List Int) l0_0 _ _ _ (fun _ => True) (fun _ => False) rfl rfl ?aO ?aR (fun _ _ h => h) (fun _ h => h.elim) ?aF ?aB ?aS ?aL ?_
     (case aR => repeat (first | exact (Kd.C_below HR0_0.out HB.out) | (with_reducible refine Kd.C_alloc ?_ _) | (with_reducible refine Kd.C_drewN ?_ _) | (with_reducible refine Kd.C_drew ?_)))
     (case aB => exact (by exact HB.out))
     (case aF => exact (fun _ _ => trivial))
     (case aO => exact ((Kd.R_nil _ _ _ _ (fun _ => True))))
     (case aS => exact (below_size (by exact HB.out)))
     (case aL => have := LMc2.out; omega)
     intro v542 w7 ho hb hg hat
     rw [← Ny541.out] at ho
     have n0_ := Aside0.mk (blk_grown (g := gb539) (o := .cells #[.slice A0_0 l0_0.length c0_0, .slice A0_1 l0_1.length c0_1, .slice A0_2 l0_2.length c0_2] 31 (0, 0)) (by exact BK539.out) hg (by simp [Value.ownBlock]))
     have n1_ := Aside0.mk (blk_grown (g := gb540) (o := .cells #[.slice none 0 0, .slice none 0 0, .slice none 0 0] 31 (0, 0)) (by exact BK540.out) hg (by simp [Value.ownBlock]))
     have n2_ := Aside0.mk (hb)
     have n3_ := Aside0.mk (ho)
     clear BK539
     clear BK540
     clear HB
     have BK539 := n0_
     have BK540 := n1_
     have HB := n2_
     have HO543 := n3_
     clear n0_ n1_ n2_ n3_
     clear ho hb hg hat
     refine hK.out _ _ ⟨(blk_cell BK539.out 0).trans rfl, (blk_cell BK539.out 1).trans rfl, (blk_cell BK539.out 2).trans rfl⟩ (fun hHeld => ?_)
     clear hK K
     refine norm_ (a' := ?_) ?_ ?_
     rotate_left
     ·show Act.put _ (some 8) _ = _
      simp only [Act.put, List.setIfInBounds_toArray, List.set_cons_zero, List.set_cons_succ, i64_w, i32_w]
      rfl
     refine two_ (i := 5) (j := 7) (Ni := some 11) (Nj := some 3) #[true, true, true, true, true, true, false, false, false] #[true, true, true, true, true, false, false, true, false] rfl rfl rfl rfl (two_of HT_.out (by kernel_rfl)) (by decide) (by decide) (fun K hK => ?_) (fun K hK => ?_)
     ·skip
      refine Kd.R_append_rows_step (Kd.int .i64) (w0 := w) w.heap.size (by rfl) (.const (.slice none 0 0)) (.tmp 10) 23 3 (.int .i64 0) 8 rfl Try.underlying23 info3 rfl (by decide) (by omega) (.slice none 0 0) ([] : List Int) l0_2 _ _ _ (fun k_ => some k_ ≠ (v542 : Value).ownBlock) (fun _ => False) rfl rfl ?aO ?aR (fun _ _ h => h) (fun _ h => h.elim) ?aF ?aB ?aS ?aL ?_
      (case aR => repeat (first | exact (Kd.C_below HR0_2.out HB.out) | (with_reducible refine Kd.C_alloc ?_ _) | (with_reducible refine Kd.C_drewN ?_ _) | (with_reducible refine Kd.C_drew ?_)))
      (case aB => exact (by exact HB.out))
      (case aF => exact (fun k_ hk => Kd.fresh' (Kd.R_lt (by exact HO543.out)) k_ hk))
      (case aO => exact ((Kd.R_nil _ _ _ _ (fun k_ => some k_ ≠ (v542 : Value).ownBlock))))
      (case aS => exact (below_size (by exact HB.out)))
      (case aL => have := LMc3.out; omega)
      intro v545 w8 ho hb hg hat
      rw [← Ny544.out] at ho
      have n0_ := Aside0.mk (blk_grown (g := gb539) (o := .cells #[.slice A0_0 l0_0.length c0_0, .slice A0_1 l0_1.length c0_1, .slice A0_2 l0_2.length c0_2] 31 (0, 0)) (by exact BK539.out) hg (by simp [Value.ownBlock]))
      have n1_ := Aside0.mk (blk_grown (g := gb540) (o := .cells #[.slice none 0 0, .slice none 0 0, .slice none 0 0] 31 (0, 0)) (by exact BK540.out) hg (by simp [Value.ownBlock]))
      have n2_ := Aside0.mk (Kd.R_after (Kd.R_apart_nil (by exact HO543.out)) hg hat)
      have n3_ := Aside0.mk (hb)
      have n4_ := Aside0.mk (ho)
      clear BK539
      clear BK540
      clear HO543
      clear HB
      have BK539 := n0_
      have BK540 := n1_
      have HO543 := n2_
      have HB := n3_
      have HO546 := n4_
      clear n0_ n1_ n2_ n3_ n4_
      clear ho hb hg hat
      obtain ⟨Ao9, co9, eo9⟩ := Kd.R_slice HO546.out
      (first | subst eo9 | (injection eo9 with f1_ f2_ f3_; have f4_ := f1_.symm; have f5_ := f3_.symm; clear f1_ f2_ f3_; subst f4_; subst f5_))
      obtain ⟨Ao10, co10, eo10⟩ := Kd.R_slice HO543.out
      (first | subst eo10 | (injection eo10 with f1_ f2_ f3_; have f4_ := f1_.symm; have f5_ := f3_.symm; clear f1_ f2_ f3_; subst f4_; subst f5_))
      refine hK.out _ _ ⟨(blk_cell BK539.out 0).trans rfl, (blk_cell BK539.out 1).trans rfl, (blk_cell BK539.out 2).trans rfl⟩ (fun hHeld => ?_)
      clear hK K
      refine norm_ (a' := ?_) ?_ ?_
      rotate_left
      ·show Act.put _ (some 11) _ = _
       simp only [Act.put, List.setIfInBounds_toArray, List.set_cons_zero, List.set_cons_succ, i64_w, i32_w]
       rfl
      refine pure_ (i := 6) (N := some 12) (v := ?_) (a' := ?_) #[true, true, true, true, true, true, true, false, false] rfl rfl (any_of HT_.out (by kernel_rfl)) (fun _ _ _ h => h) (Or.inl ⟨by rfl, ?_⟩) ?_ ?_
      rotate_left
      ·intro w'
       go_simp
       with_reducible rfl
      rotate_left
      ·simp only [Act.put, List.setIfInBounds_toArray, List.set_cons_zero, List.set_cons_succ, i64_w, i32_w]
       rfl
      refine one_ (i := 7) (N := some 3) #[true, true, true, true, true, true, true, true, false] rfl rfl (one_of HT_.out (by kernel_rfl)) (by decide) (fun K hK => ?_)
      refine box_step ?hg (N := 3) ?hd (cs := #[.slice none 0 0, .slice none 0 0, .slice none 0 0]) (t := 31) ?hr ?_; (case hd => rfl); (case hg => rfl); (case hr => first | (go_simp; done) | (go_simp; rfl))
      intro gb547 hg w11 hbox hb
      have n0_ := Aside0.mk (Kd.R_below (by exact HO543.out) hb)
      have n1_ := Aside0.mk (Kd.R_below (by exact HO546.out) hb)
      have n2_ := Aside0.mk (blk_below (g := gb539) (o := .cells #[.slice A0_0 l0_0.length c0_0, .slice A0_1 l0_1.length c0_1, .slice A0_2 l0_2.length c0_2] 31 (0, 0)) (by exact BK539.out) hb)
      have n3_ := Aside0.mk (blk_below (g := gb540) (o := .cells #[.slice none 0 0, .slice none 0 0, .slice none 0 0] 31 (0, 0)) (by exact BK540.out) hb)
      have n4_ := Aside0.mk (below_step (by exact HB.out) hb)
      have n5_ := Aside0.mk (hbox)
      have n6_ := Aside0.mk ((by rw [hg]; exact (below_size (by exact HB.out)) : w.heap.size ≤ gb547))
      have n7_ := Aside0.mk ((by rw [hg]; exact (below_size (by exact HB.out)) : w.heap.size ≤ gb547))
      have n8_ := Aside0.mk ((by rw [hg]; exact Nat.ne_of_lt (blk_lt (g := gb539) (o := .cells #[.slice A0_0 l0_0.length c0_0, .slice A0_1 l0_1.length c0_1, .slice A0_2 l0_2.length c0_2] 31 (0, 0)) (by exact BK539.out)) : gb539 ≠ gb547))
      have n9_ := Aside0.mk ((by rw [hg]; exact Nat.ne_of_gt (blk_lt (g := gb539) (o := .cells #[.slice A0_0 l0_0.length c0_0, .slice A0_1 l0_1.length c0_1, .slice A0_2 l0_2.length c0_2] 31 (0, 0)) (by exact BK539.out)) : gb547 ≠ gb539))
      have n10_ := Aside0.mk ((by rw [hg]; exact Nat.ne_of_lt (blk_lt (g := gb540) (o := .cells #[.slice none 0 0, .slice none 0 0, .slice none 0 0] 31 (0, 0)) (by exact BK540.out)) : gb540 ≠ gb547))
      have n11_ := Aside0.mk ((by rw [hg]; exact Nat.ne_of_gt (blk_lt (g := gb540) (o := .cells #[.slice none 0 0, .slice none 0 0, .slice none 0 0] 31 (0, 0)) (by exact BK540.out)) : gb547 ≠ gb540))
      clear HO543
      clear HO546
      clear BK539
      clear BK540
      clear HB
      have HO543 := n0_
      have HO546 := n1_
      have BK539 := n2_
      have BK540 := n3_
      have HB := n4_
      have BK547 := n5_
      have GW547 := n6_
      have GE547 := n7_
      have NB539_547 := n8_
      have NB547_539 := n9_
      have NB540_547 := n10_
      have NB547_540 := n11_
      clear n0_ n1_ n2_ n3_ n4_ n5_ n6_ n7_ n8_ n9_ n10_ n11_
      clear hb hbox hg
      refine hK.out _ _ ⟨(blk_cell BK539.out 0).trans rfl, (blk_cell BK539.out 1).trans rfl, (blk_cell BK539.out 2).trans rfl⟩ (fun hHeld => ?_)
      clear hK K
      refine norm_ (a' := ?_) ?_ ?_
      rotate_left
      ·show Act.put _ (some 3) _ = _
       simp only [Act.put, List.setIfInBounds_toArray, List.set_cons_zero, List.set_cons_succ, i64_w, i32_w]
       rfl
      exact norm_ (by simp only [putAll, Act.put, List.setIfInBounds_toArray, List.set_cons_zero, List.set_cons_succ]) (hCont (.slice Ao10 y541.length co10, .slice Ao9 y544.length co9, gb547) _ ⟨hHeld, (by exact Kd.R_mono HO543.out (fun _ hk => hk.2)), (by exact HO546.out), (by exact BK539.out), (by exact BK540.out), (by exact BK547.out), GW547.out, GE547.out, NB539_547.out, NB547_539.out, NB540_547.out, NB547_540.out, (by exact HB.out)⟩)
     ·skip
      refine box_step ?hg (N := 3) ?hd (cs := #[.slice none 0 0, .slice none 0 0, .slice none 0 0]) (t := 31) ?hr ?_; (case hd => rfl); (case hg => rfl); (case hr => first | (go_simp; done) | (go_simp; rfl))
      intro gb547 hg w8 hbox hb
      have n0_ := Aside0.mk (Kd.R_below (by exact HO543.out) hb)
      have n1_ := Aside0.mk (blk_below (g := gb539) (o := .cells #[.slice A0_0 l0_0.length c0_0, .slice A0_1 l0_1.length c0_1, .slice A0_2 l0_2.length c0_2] 31 (0, 0)) (by exact BK539.out) hb)
      have n2_ := Aside0.mk (blk_below (g := gb540) (o := .cells #[.slice none 0 0, .slice none 0 0, .slice none 0 0] 31 (0, 0)) (by exact BK540.out) hb)
      have n3_ := Aside0.mk (below_step (by exact HB.out) hb)
      have n4_ := Aside0.mk (hbox)
      have n5_ := Aside0.mk ((by rw [hg]; exact (below_size (by exact HB.out)) : w.heap.size ≤ gb547))
      have n6_ := Aside0.mk ((by rw [hg]; exact (below_size (by exact HB.out)) : w.heap.size ≤ gb547))
      have n7_ := Aside0.mk ((by rw [hg]; exact Nat.ne_of_lt (blk_lt (g := gb539) (o := .cells #[.slice A0_0 l0_0.length c0_0, .slice A0_1 l0_1.length c0_1, .slice A0_2 l0_2.length c0_2] 31 (0, 0)) (by exact BK539.out)) : gb539 ≠ gb547))
      have n8_ := Aside0.mk ((by rw [hg]; exact Nat.ne_of_gt (blk_lt (g := gb539) (o := .cells #[.slice A0_0 l0_0.length c0_0, .slice A0_1 l0_1.length c0_1, .slice A0_2 l0_2.length c0_2] 31 (0, 0)) (by exact BK539.out)) : gb547 ≠ gb539))
      have n9_ := Aside0.mk ((by rw [hg]; exact Nat.ne_of_lt (blk_lt (g := gb540) (o := .cells #[.slice none 0 0, .slice none 0 0, .slice none 0 0] 31 (0, 0)) (by exact BK540.out)) : gb540 ≠ gb547))
      have n10_ := Aside0.mk ((by rw [hg]; exact Nat.ne_of_gt (blk_lt (g := gb540) (o := .cells #[.slice none 0 0, .slice none 0 0, .slice none 0 0] 31 (0, 0)) (by exact BK540.out)) : gb547 ≠ gb540))
      clear HO543
      clear BK539
      clear BK540
      clear HB
      have HO543 := n0_
      have BK539 := n1_
      have BK540 := n2_
      have HB := n3_
      have BK547 := n4_
      have GW547 := n5_
      have GE547 := n6_
      have NB539_547 := n7_
      have NB547_539 := n8_
      have NB540_547 := n9_
      have NB547_540 := n10_
      clear n0_ n1_ n2_ n3_ n4_ n5_ n6_ n7_ n8_ n9_ n10_
      clear hb hbox hg
      refine hK.out _ _ ⟨(blk_cell BK539.out 0).trans rfl, (blk_cell BK539.out 1).trans rfl, (blk_cell BK539.out 2).trans rfl⟩ (fun hHeld => ?_)
      clear hK K
      refine norm_ (a' := ?_) ?_ ?_
      rotate_left
      ·show Act.put _ (some 3) _ = _
       simp only [Act.put, List.setIfInBounds_toArray, List.set_cons_zero, List.set_cons_succ, i64_w, i32_w]
       rfl
      refine one_ (i := 5) (N := some 11) #[true, true, true, true, true, true, false, true, false] rfl rfl (one_of HT_.out (by kernel_rfl)) (by decide) (fun K hK => ?_)
      refine Kd.R_append_rows_step (Kd.int .i64) (w0 := w) w.heap.size (by rfl) (.const (.slice none 0 0)) (.tmp 10) 23 3 (.int .i64 0) 8 rfl Try.underlying23 info3 rfl (by decide) (by omega) (.slice none 0 0) ([] : List Int) l0_2 _ _ _ (fun k_ => some k_ ≠ (v542 : Value).ownBlock) (fun _ => False) rfl rfl ?aO ?aR (fun _ _ h => h) (fun _ h => h.elim) ?aF ?aB ?aS ?aL ?_
      (case aR => repeat (first | exact (Kd.C_below HR0_2.out HB.out) | (with_reducible refine Kd.C_alloc ?_ _) | (with_reducible refine Kd.C_drewN ?_ _) | (with_reducible refine Kd.C_drew ?_)))
      (case aB => exact (by exact HB.out))
      (case aF => exact (fun k_ hk => Kd.fresh' (Kd.R_lt (by exact HO543.out)) k_ hk))
      (case aO => exact ((Kd.R_nil _ _ _ _ (fun k_ => some k_ ≠ (v542 : Value).ownBlock))))
      (case aS => exact (below_size (by exact HB.out)))
      (case aL => have := LMc3.out; omega)
      intro v545 w9 ho hb hg hat
      rw [← Ny544.out] at ho
      have n0_ := Aside0.mk (blk_grown (g := gb539) (o := .cells #[.slice A0_0 l0_0.length c0_0, .slice A0_1 l0_1.length c0_1, .slice A0_2 l0_2.length c0_2] 31 (0, 0)) (by exact BK539.out) hg (by simp [Value.ownBlock]))
      have n1_ := Aside0.mk (blk_grown (g := gb540) (o := .cells #[.slice none 0 0, .slice none 0 0, .slice none 0 0] 31 (0, 0)) (by exact BK540.out) hg (by simp [Value.ownBlock]))
      have n2_ := Aside0.mk (Kd.R_after (Kd.R_apart_nil (by exact HO543.out)) hg hat)
      have n3_ := Aside0.mk (blk_grown (g := gb547) (o := .cells #[.slice none 0 0, .slice none 0 0, .slice none 0 0] 31 (0, 0)) (by exact BK547.out) hg (by simp [Value.ownBlock]))
      have n4_ := Aside0.mk (hb)
      have n5_ := Aside0.mk (ho)
      clear BK539
      clear BK540
      clear HO543
      clear BK547
      clear HB
      have BK539 := n0_
      have BK540 := n1_
      have HO543 := n2_
      have BK547 := n3_
      have HB := n4_
      have HO546 := n5_
      clear n0_ n1_ n2_ n3_ n4_ n5_
      clear ho hb hg hat
      obtain ⟨Ao10, co10, eo10⟩ := Kd.R_slice HO546.out
      (first | subst eo10 | (injection eo10 with f1_ f2_ f3_; have f4_ := f1_.symm; have f5_ := f3_.symm; clear f1_ f2_ f3_; subst f4_; subst f5_))
      obtain ⟨Ao11, co11, eo11⟩ := Kd.R_slice HO543.out
      (first | subst eo11 | (injection eo11 with f1_ f2_ f3_; have f4_ := f1_.symm; have f5_ := f3_.symm; clear f1_ f2_ f3_; subst f4_; subst f5_))
      refine hK.out _ _ ⟨(blk_cell BK539.out 0).trans rfl, (blk_cell BK539.out 1).trans rfl, (blk_cell BK539.out 2).trans rfl⟩ (fun hHeld => ?_)
      clear hK K
      refine norm_ (a' := ?_) ?_ ?_
      rotate_left
      ·show Act.put _ (some 11) _ = _
       simp only [Act.put, List.setIfInBounds_toArray, List.set_cons_zero, List.set_cons_succ, i64_w, i32_w]
       rfl
      refine pure_ (i := 6) (N := some 12) (v := ?_) (a' := ?_) #[true, true, true, true, true, true, true, true, false] rfl rfl (any_of HT_.out (by kernel_rfl)) (fun _ _ _ h => h) (Or.inl ⟨by rfl, ?_⟩) ?_ ?_
      rotate_left
      ·intro w'
       go_simp
       with_reducible rfl
      rotate_left
      ·simp only [Act.put, List.setIfInBounds_toArray, List.set_cons_zero, List.set_cons_succ, i64_w, i32_w]
       rfl
      exact norm_ (by simp only [putAll, Act.put, List.setIfInBounds_toArray, List.set_cons_zero, List.set_cons_succ]) (hCont (.slice Ao11 y541.length co11, .slice Ao10 y544.length co10, gb547) _ ⟨hHeld, (by exact Kd.R_mono HO543.out (fun _ hk => hk.2)), (by exact HO546.out), (by exact BK539.out), (by exact BK540.out), (by exact BK547.out), GW547.out, GE547.out, NB539_547.out, NB547_539.out, NB540_547.out, NB547_540.out, (by exact HB.out)⟩)
    ·skip
     refine box_step ?hg (N := 3) ?hd (cs := #[.slice none 0 0, .slice none 0 0, .slice none 0 0]) (t := 31) ?hr ?_; (case hd => rfl); (case hg => rfl); (case hr => first | (go_simp; done) | (go_simp; rfl))
     intro gb547 hg w7 hbox hb
     have n0_ := Aside0.mk (blk_below (g := gb539) (o := .cells #[.slice A0_0 l0_0.length c0_0, .slice A0_1 l0_1.length c0_1, .slice A0_2 l0_2.length c0_2] 31 (0, 0)) (by exact BK539.out) hb)
     have n1_ := Aside0.mk (blk_below (g := gb540) (o := .cells #[.slice none 0 0, .slice none 0 0, .slice none 0 0] 31 (0, 0)) (by exact BK540.out) hb)
     have n2_ := Aside0.mk (below_step (by exact HB.out) hb)
     have n3_ := Aside0.mk (hbox)
     have n4_ := Aside0.mk ((by rw [hg]; exact (below_size (by exact HB.out)) : w.heap.size ≤ gb547))
     have n5_ := Aside0.mk ((by rw [hg]; exact (below_size (by exact HB.out)) : w.heap.size ≤ gb547))
     have n6_ := Aside0.mk ((by rw [hg]; exact Nat.ne_of_lt (blk_lt (g := gb539) (o := .cells #[.slice A0_0 l0_0.length c0_0, .slice A0_1 l0_1.length c0_1, .slice A0_2 l0_2.length c0_2] 31 (0, 0)) (by exact BK539.out)) : gb539 ≠ gb547))
     have n7_ := Aside0.mk ((by rw [hg]; exact Nat.ne_of_gt (blk_lt (g := gb539) (o := .cells #[.slice A0_0 l0_0.length c0_0, .slice A0_1 l0_1.length c0_1, .slice A0_2 l0_2.length c0_2] 31 (0, 0)) (by exact BK539.out)) : gb547 ≠ gb539))
     have n8_ := Aside0.mk ((by rw [hg]; exact Nat.ne_of_lt (blk_lt (g := gb540) (o := .cells #[.slice none 0 0, .slice none 0 0, .slice none 0 0] 31 (0, 0)) (by exact BK540.out)) : gb540 ≠ gb547))
     have n9_ := Aside0.mk ((by rw [hg]; exact Nat.ne_of_gt (blk_lt (g := gb540) (o := .cells #[.slice none 0 0, .slice none 0 0, .slice none 0 0] 31 (0, 0)) (by exact BK540.out)) : gb547 ≠ gb540))
     clear BK539
     clear BK540
     clear HB
     have BK539 := n0_
     have BK540 := n1_
     have HB := n2_
     have BK547 := n3_
     have GW547 := n4_
     have GE547 := n5_
     have NB539_547 := n6_
     have NB547_539 := n7_
     have NB540_547 := n8_
     have NB547_540 := n9_
     clear n0_ n1_ n2_ n3_ n4_ n5_ n6_ n7_ n8_ n9_
     clear hb hbox hg
     refine hK.out _ _ ⟨(blk_cell BK539.out 0).trans rfl, (blk_cell BK539.out 1).trans rfl, (blk_cell BK539.out 2).trans rfl⟩ (fun hHeld => ?_)
     clear hK K
     refine norm_ (a' := ?_) ?_ ?_
     rotate_left
     ·show Act.put _ (some 3) _ = _
      simp only [Act.put, List.setIfInBounds_toArray, List.set_cons_zero, List.set_cons_succ, i64_w, i32_w]
      rfl
     refine one_ (i := 2) (N := some 8) #[true, true, true, true, true, false, false, true, false] rfl rfl (one_of HT_.out (by kernel_rfl)) (by decide) (fun K hK => ?_)
     refine Kd.R_append_rows_step (Kd.int .i64) (w0 := w) w.heap.size (by rfl) (.const (.slice none 0 0)) (.tmp 7) 23 3 (.int .i64 0) 8 rfl Try.underlying23 info3 rfl (by decide) (by omega) (.slice none 0 0) ([] : List Int) l0_0 _ _ _ (fun _ => True) (fun _ => False) rfl rfl ?aO ?aR (fun _ _ h => h) (fun _ h => h.elim) ?aF ?aB ?aS ?aL ?_
     (case aR => repeat (first | exact (Kd.C_below HR0_0.out HB.out) | (with_reducible refine Kd.C_alloc ?_ _) | (with_reducible refine Kd.C_drewN ?_ _) | (with_reducible refine Kd.C_drew ?_)))
     (case aB => exact (by exact HB.out))
     (case aF => exact (fun _ _ => trivial))
     (case aO => exact ((Kd.R_nil _ _ _ _ (fun _ => True))))
     (case aS => exact (below_size (by exact HB.out)))
     (case aL => have := LMc2.out; omega)
     intro v542 w8 ho hb hg hat
     rw [← Ny541.out] at ho
     have n0_ := Aside0.mk (blk_grown (g := gb539) (o := .cells #[.slice A0_0 l0_0.length c0_0, .slice A0_1 l0_1.length c0_1, .slice A0_2 l0_2.length c0_2] 31 (0, 0)) (by exact BK539.out) hg (by simp [Value.ownBlock]))
     have n1_ := Aside0.mk (blk_grown (g := gb540) (o := .cells #[.slice none 0 0, .slice none 0 0, .slice none 0 0] 31 (0, 0)) (by exact BK540.out) hg (by simp [Value.ownBlock]))
     have n2_ := Aside0.mk (blk_grown (g := gb547) (o := .cells #[.slice none 0 0, .slice none 0 0, .slice none 0 0] 31 (0, 0)) (by exact BK547.out) hg (by simp [Value.ownBlock]))
     have n3_ := Aside0.mk (hb)
     have n4_ := Aside0.mk (ho)
     clear BK539
     clear BK540
     clear BK547
     clear HB
     have BK539 := n0_
     have BK540 := n1_
     have BK547 := n2_
     have HB := n3_
     have HO543 := n4_
     clear n0_ n1_ n2_ n3_ n4_
     clear ho hb hg hat
     refine hK.out _ _ ⟨(blk_cell BK539.out 0).trans rfl, (blk_cell BK539.out 1).trans rfl, (blk_cell BK539.out 2).trans rfl⟩ (fun hHeld => ?_)
     clear hK K
     refine norm_ (a' := ?_) ?_ ?_
     rotate_left
     ·show Act.put _ (some 8) _ = _
      simp only [Act.put, List.setIfInBounds_toArray, List.set_cons_zero, List.set_cons_succ, i64_w, i32_w]
      rfl
     refine one_ (i := 5) (N := some 11) #[true, true, true, true, true, true, false, true, false] rfl rfl (one_of HT_.out (by kernel_rfl)) (by decide) (fun K hK => ?_)
     refine Kd.R_append_rows_step (Kd.int .i64) (w0 := w) w.heap.size (by rfl) (.const (.slice none 0 0)) (.tmp 10) 23 3 (.int .i64 0) 8 rfl Try.underlying23 info3 rfl (by decide) (by omega) (.slice none 0 0) ([] : List Int) l0_2 _ _ _ (fun k_ => some k_ ≠ (v542 : Value).ownBlock) (fun _ => False) rfl rfl ?aO ?aR (fun _ _ h => h) (fun _ h => h.elim) ?aF ?aB ?aS ?aL ?_
     (case aR => repeat (first | exact (Kd.C_below HR0_2.out HB.out) | (with_reducible refine Kd.C_alloc ?_ _) | (with_reducible refine Kd.C_drewN ?_ _) | (with_reducible refine Kd.C_drew ?_)))
     (case aB => exact (by exact HB.out))
     (case aF => exact (fun k_ hk => Kd.fresh' (Kd.R_lt (by exact HO543.out)) k_ hk))
     (case aO => exact ((Kd.R_nil _ _ _ _ (fun k_ => some k_ ≠ (v542 : Value).ownBlock))))
     (case aS => exact (below_size (by exact HB.out)))
     (case aL => have := LMc3.out; omega)
     intro v545 w9 ho hb hg hat
     rw [← Ny544.out] at ho
     have n0_ := Aside0.mk (blk_grown (g := gb539) (o := .cells #[.slice A0_0 l0_0.length c0_0, .slice A0_1 l0_1.length c0_1, .slice A0_2 l0_2.length c0_2] 31 (0, 0)) (by exact BK539.out) hg (by simp [Value.ownBlock]))
     have n1_ := Aside0.mk (blk_grown (g := gb540) (o := .cells #[.slice none 0 0, .slice none 0 0, .slice none 0 0] 31 (0, 0)) (by exact BK540.out) hg (by simp [Value.ownBlock]))
     have n2_ := Aside0.mk (blk_grown (g := gb547) (o := .cells #[.slice none 0 0, .slice none 0 0, .slice none 0 0] 31 (0, 0)) (by exact BK547.out) hg (by simp [Value.ownBlock]))
     have n3_ := Aside0.mk (Kd.R_after (Kd.R_apart_nil (by exact HO543.out)) hg hat)
     have n4_ := Aside0.mk (hb)
     have n5_ := Aside0.mk (ho)
     clear BK539
     clear BK540
     clear BK547
     clear HO543
     clear HB
     have BK539 := n0_
     have BK540 := n1_
     have BK547 := n2_
     have HO543 := n3_
     have HB := n4_
     have HO546 := n5_
     clear n0_ n1_ n2_ n3_ n4_ n5_
     clear ho hb hg hat
     obtain ⟨Ao10, co10, eo10⟩ := Kd.R_slice HO546.out
     (first | subst eo10 | (injection eo10 with f1_ f2_ f3_; have f4_ := f1_.symm; have f5_ := f3_.symm; clear f1_ f2_ f3_; subst f4_; subst f5_))
     obtain ⟨Ao11, co11, eo11⟩ := Kd.R_slice HO543.out
     (first | subst eo11 | (injection eo11 with f1_ f2_ f3_; have f4_ := f1_.symm; have f5_ := f3_.symm; clear f1_ f2_ f3_; subst f4_; subst f5_))
     refine hK.out _ _ ⟨(blk_cell BK539.out 0).trans rfl, (blk_cell BK539.out 1).trans rfl, (blk_cell BK539.out 2).trans rfl⟩ (fun hHeld => ?_)
     clear hK K
     refine norm_ (a' := ?_) ?_ ?_
     rotate_left
     ·show Act.put _ (some 11) _ = _
      simp only [Act.put, List.setIfInBounds_toArray, List.set_cons_zero, List.set_cons_succ, i64_w, i32_w]
      rfl
     refine pure_ (i := 6) (N := some 12) (v := ?_) (a' := ?_) #[true, true, true, true, true, true, true, true, false] rfl rfl (any_of HT_.out (by kernel_rfl)) (fun _ _ _ h => h) (Or.inl ⟨by rfl, ?_⟩) ?_ ?_
     rotate_left
     ·intro w'
      go_simp
      with_reducible rfl
     rotate_left
     ·simp only [Act.put, List.setIfInBounds_toArray, List.set_cons_zero, List.set_cons_succ, i64_w, i32_w]
      rfl
     exact norm_ (by simp only [putAll, Act.put, List.setIfInBounds_toArray, List.set_cons_zero, List.set_cons_succ]) (hCont (.slice Ao11 y541.length co11, .slice Ao10 y544.length co10, gb547) _ ⟨hHeld, (by exact Kd.R_mono HO543.out (fun _ hk => hk.2)), (by exact HO546.out), (by exact BK539.out), (by exact BK540.out), (by exact BK547.out), GW547.out, GE547.out, NB539_547.out, NB547_539.out, NB540_547.out, NB547_540.out, (by exact HB.out)⟩)
   rintro ⟨v542, v545, gb547⟩ w12 ⟨hS_, h0_, h1_, h2_, h3_, h4_, h5_, h6_, h7_, h8_, h9_, h10_, h11_⟩
   have n0_ : Aside0 (Kd.R (Kd.int .i64) 3 w12 w.heap.size (fun k_ => some k_ ≠ (v545 : Value).ownBlock) v542 y541) := ⟨h0_⟩
   have n1_ : Aside0 (Kd.R (Kd.int .i64) 3 w12 w.heap.size (fun k_ => some k_ ≠ (v542 : Value).ownBlock) v545 y544) := ⟨h1_⟩
   have n2_ : Aside0 (w12.heap[gb539]? = some (.cells #[.slice A0_0 l0_0.length c0_0, .slice A0_1 l0_1.length c0_1, .slice A0_2 l0_2.length c0_2] 31 (0, 0))) := ⟨h2_⟩
   have n3_ : Aside0 (w12.heap[gb540]? = some (.cells #[.slice none 0 0, .slice none 0 0, .slice none 0 0] 31 (0, 0))) := ⟨h3_⟩
   have n4_ : Aside0 (w12.heap[gb547]? = some (.cells #[.slice none 0 0, .slice none 0 0, .slice none 0 0] 31 (0, 0))) := ⟨h4_⟩
   have n5_ : Aside0 (w.heap.size ≤ gb547) := ⟨h5_⟩
   have n6_ : Aside0 (w.heap.size ≤ gb547) := ⟨h6_⟩
   have n7_ : Aside0 (gb539 ≠ gb547) := ⟨h7_⟩
   have n8_ : Aside0 (gb547 ≠ gb539) := ⟨h8_⟩
   have n9_ : Aside0 (gb540 ≠ gb547) := ⟨h9_⟩
   have n10_ : Aside0 (gb547 ≠ gb540) := ⟨h10_⟩
   have n11_ : Aside0 (Below w.heap.size w w12) := ⟨h11_⟩
   clear BK539
   clear BK540
   clear HB
   clear h0_ h1_ h2_ h3_ h4_ h5_ h6_ h7_ h8_ h9_ h10_ h11_
   have HO543 := n0_
   have HO546 := n1_
   have BK539 := n2_
   have BK540 := n3_
   have BK547 := n4_
   have GW547 := n5_
   have GE547 := n6_
   have NB539_547 := n7_
   have NB547_539 := n8_
   have NB540_547 := n9_
   have NB547_540 := n10_
   have HB := n11_
   clear n0_ n1_ n2_ n3_ n4_ n5_ n6_ n7_ n8_ n9_ n10_ n11_
   have hHeld : w12.cell? ⟨gb539, 0, none⟩ = some (.slice A0_0 l0_0.length c0_0) ∧ w12.cell? ⟨gb539, 1, none⟩ = some (.slice A0_1 l0_1.length c0_1) ∧ w12.cell? ⟨gb539, 2, none⟩ = some (.slice A0_2 l0_2.length c0_2) := hS_
   obtain ⟨Ao13, co13, eo13⟩ := Kd.R_slice HO546.out
   (first | subst eo13 | (injection eo13 with f1_ f2_ f3_; have f4_ := f1_.symm; have f5_ := f3_.symm; clear f1_ f2_ f3_; subst f4_; subst f5_))
   obtain ⟨Ao14, co14, eo14⟩ := Kd.R_slice HO543.out
   (first | subst eo14 | (injection eo14 with f1_ f2_ f3_; have f4_ := f1_.symm; have f5_ := f3_.symm; clear f1_ f2_ f3_; subst f4_; subst f5_))
   refine norm_ (a' := ?_) ?_ ?_
   rotate_left
   ·simp only [putAll, Act.put, List.setIfInBounds_toArray, List.set_cons_zero, List.set_cons_succ]
    rfl
   refine one_ (i := 8) (N := none) #[true, true, true, true, true, true, true, true, true] rfl rfl (one_of HT_.out (by kernel_rfl)) (by decide) (fun K hK => ?_)
   have hs15 : w12.cell? ⟨gb547, 0, none⟩ = some (.slice none 0 0) := (blk_cell BK547.out 0).trans rfl
   have hfs15 := blk_frozen BK547.out 0
   have hns15_0 := NB539_547.out
   have hns15_1 := NB540_547.out
   have hms15_0 := NB547_539.out
   have hms15_1 := NB547_540.out
   have hs16 : w12.cell? ⟨gb547, 1, none⟩ = some (.slice none 0 0) := (blk_cell BK547.out 1).trans rfl
   have hfs16 := blk_frozen BK547.out 1
   have hns16_0 := NB539_547.out
   have hns16_1 := NB540_547.out
   have hms16_0 := NB547_539.out
   have hms16_1 := NB547_540.out
   have hs17 : w12.cell? ⟨gb547, 2, none⟩ = some (.slice none 0 0) := (blk_cell BK547.out 2).trans rfl
   have hfs17 := blk_frozen BK547.out 2
   have hns17_0 := NB539_547.out
   have hns17_1 := NB540_547.out
   have hms17_0 := NB547_539.out
   have hms17_1 := NB547_540.out
   refine skip_ (w1 := ?_) (by rfl) rfl ?_ ?_
   rotate_left
   ·go_simp
    rfl
   refine hK.out _ _ ⟨((cell_far (p := ⟨gb547, _, none⟩) NB539_547.out _).trans (((cell_far (p := ⟨gb547, _, none⟩) NB539_547.out _).trans (((cell_far (p := ⟨gb547, _, none⟩) NB539_547.out _).trans (hHeld.1)))))), ((cell_far (p := ⟨gb547, _, none⟩) NB539_547.out _).trans (((cell_far (p := ⟨gb547, _, none⟩) NB539_547.out _).trans (((cell_far (p := ⟨gb547, _, none⟩) NB539_547.out _).trans (hHeld.2.1)))))), ((cell_far (p := ⟨gb547, _, none⟩) NB539_547.out _).trans (((cell_far (p := ⟨gb547, _, none⟩) NB539_547.out _).trans (((cell_far (p := ⟨gb547, _, none⟩) NB539_547.out _).trans (hHeld.2.2))))))⟩ (fun hHeld => ?_)
   clear hK K
   refine done_ (done_of HT_.out (by kernel_rfl)) ?_
   have hnb18 := NB539_540.out
   have hnc18 := NB540_539.out
   have hnb19 := NB539_547.out
   have hnc19 := NB547_539.out
   have hcz20_0 : w12.cell? ⟨gb539, 0, none⟩ = some (.slice A0_0 l0_0.length c0_0) := (blk_cell BK539.out 0).trans rfl
   have hcz20_1 : w12.cell? ⟨gb539, 1, none⟩ = some (.slice A0_1 l0_1.length c0_1) := (blk_cell BK539.out 1).trans rfl
   have hcz20_2 : w12.cell? ⟨gb539, 2, none⟩ = some (.slice A0_2 l0_2.length c0_2) := (blk_cell BK539.out 2).trans rfl
   have hfz20_0 := blk_frozen BK539.out 0
   have hfz20_1 := blk_frozen BK539.out 1
   have hfz20_2 := blk_frozen BK539.out 2
   try go_wp2
   go_loopg [16] k (fun kq v16 w' => ∃ (x16_1 : Int) (x548001_1 : List (S49)) (u548001 : Value), v16 = .int .i64 x16_1 ∧ Aside0 (impl_copyState.l0 kq l0_1 (l0_1.length : Int) x16_1 y541 x548001_1 y544 = some (r1, r2, r3)) ∧ Aside0 (kq ≤ k) ∧ Aside0 (Kd.R (Kd.int .i64) 3 w' w.heap.size (fun k_ => some k_ ≠ ((.slice Ao13 y544.length co13) : Value).ownBlock) (.slice Ao14 y541.length co14) y541) ∧ Aside0 (Kd.S k49 49 w' w.heap.size (fun k_ => some k_ ≠ ((.slice Ao14 y541.length co14) : Value).ownBlock ∧ some k_ ≠ ((.slice Ao13 y544.length co13) : Value).ownBlock) u548001 x548001_1) ∧ Aside0 (Kd.R (Kd.int .i64) 3 w' w.heap.size (fun k_ => some k_ ≠ ((.slice Ao14 y541.length co14) : Value).ownBlock) (.slice Ao13 y544.length co13) y544) ∧ Aside0 (w'.heap[gb539]? = some (.cells #[(.slice A0_0 l0_0.length c0_0), (.slice A0_1 l0_1.length c0_1), (.slice A0_2 l0_2.length c0_2)] 31 (0, 0))) ∧ Aside0 (w'.heap[gb540]? = some (.cells #[(.slice none 0 0), (.slice none 0 0), (.slice none 0 0)] 31 (0, 0))) ∧ Aside0 (w'.heap[gb547]? = some (.cells #[(.slice Ao14 y541.length co14), u548001, (.slice Ao13 y544.length co13)] 31 (0, 0))) ∧ Aside0 (Below w.heap.size w w'))
   case atStart => exact ⟨(0), (([] : List (S49))), (.slice none 0 0), (by first | rfl | (simp; done) | (simp [*]; done)), H', ⟨Nat.le_refl _⟩, ⟨by exact Kd.R_mono (Kd.R_far (p := ⟨gb547, 2, none⟩) (Kd.R_far (p := ⟨gb547, 1, none⟩) (Kd.R_far (p := ⟨gb547, 0, none⟩) (Kd.R_types HO543.out BK547.out (by decide)) (fun _ hk => hk.2) (.slice Ao14 y541.length co14)) (fun _ hk => hk.2) (.slice none 0 0)) (fun _ hk => hk.2) (.slice Ao13 y544.length co13)) (fun _ hk => hk.1)⟩, ⟨by first | exact Kd.S_nil _ _ _ _ _ | exact Kd.N_nil _ _ _ _ _ | exact Kd.V_nil _ _ _ _ _ | exact Kd.Q_nil _ _ _ _ _ | exact Kd.R_nil _ _ _ _ _⟩, ⟨by exact Kd.R_mono (Kd.R_far (p := ⟨gb547, 2, none⟩) (Kd.R_far (p := ⟨gb547, 1, none⟩) (Kd.R_far (p := ⟨gb547, 0, none⟩) (Kd.R_types HO546.out BK547.out (by decide)) (fun _ hk => hk.2) (.slice Ao14 y541.length co14)) (fun _ hk => hk.2) (.slice none 0 0)) (fun _ hk => hk.2) (.slice Ao13 y544.length co13)) (fun _ hk => hk.1)⟩, ⟨by refine blk_far ?_ NB539_547.out _; refine blk_far ?_ NB539_547.out _; refine blk_far ?_ NB539_547.out _; exact BK539.out⟩, ⟨by refine blk_far ?_ NB540_547.out _; refine blk_far ?_ NB540_547.out _; refine blk_far ?_ NB540_547.out _; exact BK540.out⟩, ⟨by refine blk_put (cs := #[.slice Ao14 y541.length co14, .slice none 0 0, .slice none 0 0]) ?_ 2 _ rfl; refine blk_put (cs := #[.slice Ao14 y541.length co14, .slice none 0 0, .slice none 0 0]) ?_ 1 _ rfl; refine blk_put (cs := #[.slice none 0 0, .slice none 0 0, .slice none 0 0]) ?_ 0 _ rfl; exact BK547.out⟩, ⟨by repeat (first | (with_reducible first | exact HB.out | apply below_alloc | apply pw_below_drewN | apply below_drew1 | refine below_set ?_ GE539.out | refine below_set ?_ GE540.out | refine below_set ?_ GE547.out) | exact HB.out)⟩⟩
   case round =>
    clear H'
    try clear c1
    try clear c2
    try clear p2
    try clear c3
    try clear c6
    try clear c18
    try clear c19
    try clear hcz20_0
    try clear hcz20_1
    try clear hcz20_2
    try clear hfz20_0
    try clear hfz20_1
    try clear hfz20_2
    obtain ⟨x16_1, x548001_1, u548001, rfl, HA, HK1, HO_548000, HO_548001, HO_548002, BK539, BK540, BK547, HB⟩ := hrel
    cases gk with
    | zero => exact absurd HA.out (by simp [impl_copyState.l0])
    | succ k1 =>
     have H := HA.out
     clear HA
     simp only [impl_copyState.l0] at H
     by_cases c21 : x16_1 < (l0_1.length : Int)
     ·rw [if_pos c21] at H
      have c21b0 : decide (x16_1 < (l0_1.length : Int)) = true := decide_eq_true c21
      clear c21
      by_cases c22 : 0 ≤ x16_1
      ·rw [if_pos c22] at H
       have c22b0 : decide (0 ≤ x16_1) = true := decide_eq_true c22
       clear c22
       by_cases c23 : x16_1 < (l0_1.length : Int)
       ·rw [if_pos c23] at H
        have c23b0 : decide (x16_1 < (l0_1.length : Int)) = true := decide_eq_true c23
        clear c23
        by_cases c24 : ([] : List Int).length + ((rd_T49 l0_1 x16_1).f1).length < 17592186044416
        ·rw [if_pos c24] at H
         have LMc24 := Aside0.mk c24
         clear c24
         obtain ⟨y550, hy550⟩ : ∃ y_ : List Int, y_ = (([] : List Int) ++ ((rd_T49 l0_1 x16_1).f1)) := ⟨_, rfl⟩
         replace H : (if x548001_1.length < 3518437208883 then (impl_copyState.l0 k1 l0_1 (l0_1.length : Int) (wrap64 (x16_1 + 1)) y541 (x548001_1 ++ [(⟨(rd_T49 l0_1 x16_1).f0, y550, (rd_T49 l0_1 x16_1).f2⟩ : S49)]) y544) else (none)) = some (r1, r2, r3) := by first | (rw [hy550]; with_reducible exact H) | (have H2_ := (Option.bind_some _ _).symm.trans H; rw [hy550]; with_reducible exact H2_) | (have H2_ := (Option.bind_some _ _).symm.trans H; with_reducible exact H2_) | with_reducible exact H | (rw [hy550]; exact H) | exact H
         have Ny550 := Aside0.mk hy550
         clear hy550
         by_cases c25 : x548001_1.length < 3518437208883
         ·rw [if_pos c25] at H
          have LMc25 := Aside0.mk c25
          clear c25
          obtain ⟨y553, hy553⟩ : ∃ y_ : List (S49), y_ = (x548001_1 ++ [(⟨(rd_T49 l0_1 x16_1).f0, y550, (rd_T49 l0_1 x16_1).f2⟩ : S49)]) := ⟨_, rfl⟩
          replace H : (impl_copyState.l0 k1 l0_1 (l0_1.length : Int) (wrap64 (x16_1 + 1)) y541 y553 y544) = some (r1, r2, r3) := by first | (rw [hy553]; with_reducible exact H) | (have H2_ := (Option.bind_some _ _).symm.trans H; rw [hy553]; with_reducible exact H2_) | (have H2_ := (Option.bind_some _ _).symm.trans H; with_reducible exact H2_) | with_reducible exact H | (rw [hy553]; exact H) | exact H
          have Ny553 := Aside0.mk hy553
          clear hy553
          have H' := Aside0.mk H
          clear H
          have p548 : 0 ≤ (x16_1 : Int) := of_decide_eq_true (by assumption)
          have q548 : x16_1 < (l0_1.length : Int) := of_decide_eq_true (by assumption)
          obtain ⟨ad548, A548_1, c548_1, e548, hx548_0, hx548_1, hx548_2, hl548_1, hi548_1⟩ := at_T49 HR0_1.out x16_1 p548 q548
          cases e548
          replace hx548_0 := (HB.out.cell (World.block_lt_of_cell? w _ hx548_0)).trans hx548_0
          replace hx548_1 := (HB.out.cell (World.block_lt_of_cell? w _ hx548_1)).trans hx548_1
          replace hx548_2 := (HB.out.cell (World.block_lt_of_cell? w _ hx548_2)).trans hx548_2
          have HR548_1 := Aside0.mk hi548_1
          have HC548_1 := Aside0.mk hl548_1
          clear hi548_1 hl548_1
          replace p548 := eq_true p548
          replace q548 := eq_true q548
          go_wp2_with (first | ((with_reducible refine gate_dst (N := 5) rfl ?_); refine box_event ?hg (N := 5) ?hd (cs := #[.int .i64 0, .slice none 0 0, .int .i64 0]) (t := 49) ?hr ?_; (case hd => rfl); (case hg => rfl); (case hr => first | (go_simp; done) | (go_simp; rfl)); intro gb549 hg w26 hbox hb; have n0_ := Aside0.mk (Kd.R_below (by exact HO_548000.out) hb); have n1_ := Aside0.mk (Kd.S_below (Kd.S_elderB (by exact HO_548001.out) gb549 (Nat.le_of_eq hg.symm)) hb); have n2_ := Aside0.mk (Kd.R_below (by exact HO_548002.out) hb); have n3_ := Aside0.mk (blk_below (g := gb539) (o := .cells #[.slice A0_0 l0_0.length c0_0, .slice (some ad548) l0_1.length c0_1, .slice A0_2 l0_2.length c0_2] 31 (0, 0)) (by exact BK539.out) hb); have n4_ := Aside0.mk (blk_below (g := gb540) (o := .cells #[.slice none 0 0, .slice none 0 0, .slice none 0 0] 31 (0, 0)) (by exact BK540.out) hb); have n5_ := Aside0.mk (blk_below (g := gb547) (o := .cells #[.slice Ao14 y541.length co14, u548001, .slice Ao13 y544.length co13] 31 (0, 0)) (by exact BK547.out) hb); have n6_ := Aside0.mk (below_step (by exact HB.out) hb); have n7_ := Aside0.mk (hbox); have n8_ := Aside0.mk ((by rw [hg]; exact (below_size (by exact HB.out)) : w.heap.size ≤ gb549)); have n9_ := Aside0.mk ((by rw [hg]; exact (below_size (by exact HB.out)) : w.heap.size ≤ gb549)); have n10_ := Aside0.mk ((by rw [hg]; exact Nat.ne_of_lt (blk_lt (g := gb539) (o := .cells #[.slice A0_0 l0_0.length c0_0, .slice (some ad548) l0_1.length c0_1, .slice A0_2 l0_2.length c0_2] 31 (0, 0)) (by exact BK539.out)) : gb539 ≠ gb549)); have n11_ := Aside0.mk ((by rw [hg]; exact Nat.ne_of_gt (blk_lt (g := gb539) (o := .cells #[.slice A0_0 l0_0.length c0_0, .slice (some ad548) l0_1.length c0_1, .slice A0_2 l0_2.length c0_2] 31 (0, 0)) (by exact BK539.out)) : gb549 ≠ gb539)); have n12_ := Aside0.mk ((by rw [hg]; exact Nat.ne_of_lt (blk_lt (g := gb540) (o := .cells #[.slice none 0 0, .slice none 0 0, .slice none 0 0] 31 (0, 0)) (by exact BK540.out)) : gb540 ≠ gb549)); have n13_ := Aside0.mk ((by rw [hg]; exact Nat.ne_of_gt (blk_lt (g := gb540) (o := .cells #[.slice none 0 0, .slice none 0 0, .slice none 0 0] 31 (0, 0)) (by exact BK540.out)) : gb549 ≠ gb540)); have n14_ := Aside0.mk ((by rw [hg]; exact Nat.ne_of_lt (blk_lt (g := gb547) (o := .cells #[.slice Ao14 y541.length co14, u548001, .slice Ao13 y544.length co13] 31 (0, 0)) (by exact BK547.out)) : gb547 ≠ gb549)); have n15_ := Aside0.mk ((by rw [hg]; exact Nat.ne_of_gt (blk_lt (g := gb547) (o := .cells #[.slice Ao14 y541.length co14, u548001, .slice Ao13 y544.length co13] 31 (0, 0)) (by exact BK547.out)) : gb549 ≠ gb547)); clear HO_548000; clear HO_548001; clear HO_548002; clear BK539; clear BK540; clear BK547; clear HB; have HO_548000 := n0_; have HO_548001 := n1_; have HO_548002 := n2_; have BK539 := n3_; have BK540 := n4_; have BK547 := n5_; have HB := n6_; have BK549 := n7_; have GW549 := n8_; have GE549 := n9_; have NB539_549 := n10_; have NB549_539 := n11_; have NB540_549 := n12_; have NB549_540 := n13_; have NB547_549 := n14_; have NB549_547 := n15_; clear n0_ n1_ n2_ n3_ n4_ n5_ n6_ n7_ n8_ n9_ n10_ n11_ n12_ n13_ n14_ n15_; clear hb hbox hg; have hnb27 := NB549_539.out; have hnc27 := NB539_549.out; have hnb28 := NB549_540.out; have hnc28 := NB540_549.out; have hnb29 := NB549_547.out; have hnc29 := NB547_549.out; have hcz30_0 : w26.cell? ⟨gb549, 0, none⟩ = some (.int .i64 0) := (blk_cell BK549.out 0).trans rfl; have hcz30_1 : w26.cell? ⟨gb549, 1, none⟩ = some (.slice none 0 0) := (blk_cell BK549.out 1).trans rfl; have hcz30_2 : w26.cell? ⟨gb549, 2, none⟩ = some (.int .i64 0) := (blk_cell BK549.out 2).trans rfl; have hfz30_0 := blk_frozen BK549.out 0; have hfz30_1 := blk_frozen BK549.out 1; have hfz30_2 := blk_frozen BK549.out 2) | ((with_reducible refine gate_builtin (b := .append) (xs := #[.const (.slice none 0 0), .tmp 21]) rfl ?_); at_builtin; refine Kd.R_append_rows (Kd.int .i64) (w0 := w) w.heap.size rfl (.const (.slice none 0 0)) (.tmp 21) 23 3 (.int .i64 0) 8 rfl Try.underlying23 info3 rfl (by decide) (by omega) (.slice none 0 0) ([] : List Int) ((rd_T49 l0_1 x16_1).f1) _ _ _ (fun k_ => some k_ ≠ (.slice Ao14 y541.length co14 : Value).ownBlock ∧ some k_ ≠ (.slice Ao13 y544.length co13 : Value).ownBlock) (fun _ => False) rfl rfl ?aO ?aR (fun _ _ h => h) (fun _ h => h.elim) ?aF ?aB ?aS ?aL ?_; (case aR => exact Kd.C_below HR548_1.out (by repeat (first | (with_reducible first | exact HB.out | apply below_alloc | apply pw_below_drewN | apply below_drew1 | refine below_set ?_ GE539.out | refine below_set ?_ GE540.out | refine below_set ?_ GE547.out | refine below_set ?_ GE549.out) | exact HB.out))); (case aB => exact (by repeat (first | (with_reducible first | exact HB.out | apply below_alloc | apply pw_below_drewN | apply below_drew1 | refine below_set ?_ GE539.out | refine below_set ?_ GE540.out | refine below_set ?_ GE547.out | refine below_set ?_ GE549.out) | exact HB.out))); (case aF => exact (fun k_ hk => ⟨Kd.fresh' (Kd.R_lt (by exact (Kd.R_mono (Kd.R_far (p := ⟨gb549, 2, none⟩) (Kd.R_far (p := ⟨gb549, 1, none⟩) (Kd.R_far (p := ⟨gb549, 0, none⟩) (Kd.R_types HO_548000.out BK549.out (by decide)) (fun _ hk => hk.2) (.int .i64 ((rd_T49 l0_1 x16_1).f0))) (fun _ hk => hk.2) (.slice A548_1 ((rd_T49 l0_1 x16_1).f1).length c548_1)) (fun _ hk => hk.2) (.int .i64 ((rd_T49 l0_1 x16_1).f2))) (fun _ h_ => h_.1)))) k_ hk, Kd.fresh' (Kd.R_lt (by exact (Kd.R_mono (Kd.R_far (p := ⟨gb549, 2, none⟩) (Kd.R_far (p := ⟨gb549, 1, none⟩) (Kd.R_far (p := ⟨gb549, 0, none⟩) (Kd.R_types HO_548002.out BK549.out (by decide)) (fun _ hk => hk.2) (.int .i64 ((rd_T49 l0_1 x16_1).f0))) (fun _ hk => hk.2) (.slice A548_1 ((rd_T49 l0_1 x16_1).f1).length c548_1)) (fun _ hk => hk.2) (.int .i64 ((rd_T49 l0_1 x16_1).f2))) (fun _ h_ => h_.1)))) k_ hk⟩)); (case aO => exact ((Kd.R_nil _ _ _ _ (fun k_ => some k_ ≠ (.slice Ao14 y541.length co14 : Value).ownBlock ∧ some k_ ≠ (.slice Ao13 y544.length co13 : Value).ownBlock)))); (case aS => exact (below_size (by repeat (first | (with_reducible first | exact HB.out | apply below_alloc | apply pw_below_drewN | apply below_drew1 | refine below_set ?_ GE539.out | refine below_set ?_ GE540.out | refine below_set ?_ GE547.out | refine below_set ?_ GE549.out) | exact HB.out)))); (case aL => have := LMc24.out; omega); intro v551 w31 ho hb hg hat; rw [← Ny550.out] at ho; have n0_ := Aside0.mk (Kd.R_after (Kd.R_apart_nil (by exact (Kd.R_mono (Kd.R_far (p := ⟨gb549, 2, none⟩) (Kd.R_far (p := ⟨gb549, 1, none⟩) (Kd.R_far (p := ⟨gb549, 0, none⟩) (Kd.R_types HO_548000.out BK549.out (by decide)) (fun _ hk => hk.2) (.int .i64 ((rd_T49 l0_1 x16_1).f0))) (fun _ hk => hk.2) (.slice A548_1 ((rd_T49 l0_1 x16_1).f1).length c548_1)) (fun _ hk => hk.2) (.int .i64 ((rd_T49 l0_1 x16_1).f2))) (fun _ h_ => h_.1)))) hg hat); have n1_ := Aside0.mk (Kd.S_after (Kd.S_apart_nil (by exact (Kd.S_mono (Kd.S_far (p := ⟨gb549, 2, none⟩) (Kd.S_far (p := ⟨gb549, 1, none⟩) (Kd.S_far (p := ⟨gb549, 0, none⟩) (Kd.S_mono HO_548001.out (fun k_ hk => (⟨hk, hk.2⟩ : _ ∧ k_ ≠ gb549))) (fun _ hk => hk.2) (.int .i64 ((rd_T49 l0_1 x16_1).f0))) (fun _ hk => hk.2) (.slice A548_1 ((rd_T49 l0_1 x16_1).f1).length c548_1)) (fun _ hk => hk.2) (.int .i64 ((rd_T49 l0_1 x16_1).f2))) (fun _ h_ => h_.1)))) hg hat); have n2_ := Aside0.mk (Kd.R_after (Kd.R_apart_nil (by exact (Kd.R_mono (Kd.R_far (p := ⟨gb549, 2, none⟩) (Kd.R_far (p := ⟨gb549, 1, none⟩) (Kd.R_far (p := ⟨gb549, 0, none⟩) (Kd.R_types HO_548002.out BK549.out (by decide)) (fun _ hk => hk.2) (.int .i64 ((rd_T49 l0_1 x16_1).f0))) (fun _ hk => hk.2) (.slice A548_1 ((rd_T49 l0_1 x16_1).f1).length c548_1)) (fun _ hk => hk.2) (.int .i64 ((rd_T49 l0_1 x16_1).f2))) (fun _ h_ => h_.1)))) hg hat); have n3_ := Aside0.mk (blk_grown (g := gb539) (o := .cells #[.slice A0_0 l0_0.length c0_0, .slice (some ad548) l0_1.length c0_1, .slice A0_2 l0_2.length c0_2] 31 (0, 0)) (by refine blk_far ?_ NB539_549.out _; refine blk_far ?_ NB539_549.out _; refine blk_far ?_ NB539_549.out _; exact BK539.out) hg (by simp [Value.ownBlock])); have n4_ := Aside0.mk (blk_grown (g := gb540) (o := .cells #[.slice none 0 0, .slice none 0 0, .slice none 0 0] 31 (0, 0)) (by refine blk_far ?_ NB540_549.out _; refine blk_far ?_ NB540_549.out _; refine blk_far ?_ NB540_549.out _; exact BK540.out) hg (by simp [Value.ownBlock])); have n5_ := Aside0.mk (blk_grown (g := gb547) (o := .cells #[.slice Ao14 y541.length co14, u548001, .slice Ao13 y544.length co13] 31 (0, 0)) (by refine blk_far ?_ NB547_549.out _; refine blk_far ?_ NB547_549.out _; refine blk_far ?_ NB547_549.out _; exact BK547.out) hg (by simp [Value.ownBlock])); have n6_ := Aside0.mk (blk_grown (g := gb549) (o := .cells #[.int .i64 ((rd_T49 l0_1 x16_1).f0), .slice A548_1 ((rd_T49 l0_1 x16_1).f1).length c548_1, .int .i64 ((rd_T49 l0_1 x16_1).f2)] 49 (0, 0)) (by refine blk_put (cs := #[.int .i64 ((rd_T49 l0_1 x16_1).f0), .slice A548_1 ((rd_T49 l0_1 x16_1).f1).length c548_1, .int .i64 0]) ?_ 2 _ rfl; refine blk_put (cs := #[.int .i64 ((rd_T49 l0_1 x16_1).f0), .slice none 0 0, .int .i64 0]) ?_ 1 _ rfl; refine blk_put (cs := #[.int .i64 0, .slice none 0 0, .int .i64 0]) ?_ 0 _ rfl; exact BK549.out) hg (by simp [Value.ownBlock])); have n7_ := Aside0.mk (hb); have n8_ := Aside0.mk (ho); clear HO_548000; clear HO_548001; clear HO_548002; clear BK539; clear BK540; clear BK547; clear BK549; clear HB; have HO_548000 := n0_; have HO_548001 := n1_; have HO_548002 := n2_; have BK539 := n3_; have BK540 := n4_; have BK547 := n5_; have BK549 := n6_; have HB := n7_; have HO552 := n8_; clear n0_ n1_ n2_ n3_ n4_ n5_ n6_ n7_ n8_; clear ho hb hg hat; obtain ⟨Ao32, co32, eo32⟩ := Kd.R_slice HO552.out; subst eo32; have hcz33_0 : w31.cell? ⟨gb549, 0, none⟩ = some (.int .i64 ((rd_T49 l0_1 x16_1).f0)) := (blk_cell BK549.out 0).trans rfl; have hcz33_1 : w31.cell? ⟨gb549, 1, none⟩ = some (.slice A548_1 ((rd_T49 l0_1 x16_1).f1).length c548_1) := (blk_cell BK549.out 1).trans rfl; have hcz33_2 : w31.cell? ⟨gb549, 2, none⟩ = some (.int .i64 ((rd_T49 l0_1 x16_1).f2)) := (blk_cell BK549.out 2).trans rfl; have hfz33_0 := blk_frozen BK549.out 0; have hfz33_1 := blk_frozen BK549.out 1; have hfz33_2 := blk_frozen BK549.out 2) | ((with_reducible refine gate_store (t := 23) (p := 23) rfl ?_); refine store_event (t := 23) (p := 23) (v := ?vo_w34) (w1 := (w31.setCell ⟨gb549, 1, none⟩ (.slice Ao32 y550.length co32))) ?hg ?ho ?hn ?hr ?_; (case ho => rfl); (case hg => rfl); (case hn => rfl); (case hr => first | (go_simp; done) | (go_simp; rfl)); intro w34 hw; have n0_ : Aside0 (Kd.R (Kd.int .i64) 3 w34 w.heap.size (fun k_ => some k_ ≠ (.slice Ao13 y544.length co13 : Value).ownBlock ∧ some k_ ≠ (.slice Ao32 y550.length co32 : Value).ownBlock) (.slice Ao14 y541.length co14) y541) := ⟨(by rw [hw]; exact (by exact Kd.R_mono (Kd.R_far (p := ⟨gb549, 1, none⟩) (Kd.R_types HO_548000.out BK549.out (by decide)) (fun _ hk => hk.2) (.slice Ao32 y550.length co32)) (fun _ hk => ⟨hk.1.1, hk.1.2⟩)))⟩; have n1_ : Aside0 (Kd.S k49 49 w34 w.heap.size (fun k_ => some k_ ≠ (.slice Ao14 y541.length co14 : Value).ownBlock ∧ some k_ ≠ (.slice Ao13 y544.length co13 : Value).ownBlock ∧ some k_ ≠ (.slice Ao32 y550.length co32 : Value).ownBlock ∧ k_ ≠ gb549) u548001 x548001_1) := ⟨(by rw [hw]; exact (by exact Kd.S_mono (Kd.S_far (p := ⟨gb549, 1, none⟩) (Kd.S_mono HO_548001.out (fun k_ hk => (⟨hk, hk.1.2⟩ : _ ∧ k_ ≠ gb549))) (fun _ hk => hk.2) (.slice Ao32 y550.length co32)) (fun _ hk => ⟨hk.1.1.1.1, ⟨hk.1.1.1.2, ⟨hk.1.2, hk.1.1.2⟩⟩⟩)))⟩; have n2_ : Aside0 (Kd.R (Kd.int .i64) 3 w34 w.heap.size (fun k_ => some k_ ≠ (.slice Ao14 y541.length co14 : Value).ownBlock ∧ some k_ ≠ (.slice Ao32 y550.length co32 : Value).ownBlock) (.slice Ao13 y544.length co13) y544) := ⟨(by rw [hw]; exact (by exact Kd.R_mono (Kd.R_far (p := ⟨gb549, 1, none⟩) (Kd.R_types HO_548002.out BK549.out (by decide)) (fun _ hk => hk.2) (.slice Ao32 y550.length co32)) (fun _ hk => ⟨hk.1.1, hk.1.2⟩)))⟩; have n3_ : Aside0 (Kd.R (Kd.int .i64) 3 w34 w.heap.size (fun k_ => some k_ ≠ (.slice Ao14 y541.length co14 : Value).ownBlock ∧ some k_ ≠ (.slice Ao13 y544.length co13 : Value).ownBlock) (.slice Ao32 y550.length co32) y550) := ⟨(by rw [hw]; exact (by exact Kd.R_mono (Kd.R_far (p := ⟨gb549, 1, none⟩) (Kd.R_types HO552.out BK549.out (by decide)) (fun _ hk => hk.2) (.slice Ao32 y550.length co32)) (fun _ hk => ⟨hk.1.1, hk.1.2⟩)))⟩; have n4_ : Aside0 (w34.heap[gb539]? = some (.cells #[.slice A0_0 l0_0.length c0_0, .slice (some ad548) l0_1.length c0_1, .slice A0_2 l0_2.length c0_2] 31 (0, 0))) := ⟨(by rw [hw]; exact (by refine blk_far ?_ NB539_549.out _; exact BK539.out))⟩; have n5_ : Aside0 (w34.heap[gb540]? = some (.cells #[.slice none 0 0, .slice none 0 0, .slice none 0 0] 31 (0, 0))) := ⟨(by rw [hw]; exact (by refine blk_far ?_ NB540_549.out _; exact BK540.out))⟩; have n6_ : Aside0 (w34.heap[gb547]? = some (.cells #[.slice Ao14 y541.length co14, u548001, .slice Ao13 y544.length co13] 31 (0, 0))) := ⟨(by rw [hw]; exact (by refine blk_far ?_ NB547_549.out _; exact BK547.out))⟩; have n7_ : Aside0 (w34.heap[gb549]? = some (.cells #[.int .i64 ((rd_T49 l0_1 x16_1).f0), .slice Ao32 y550.length co32, .int .i64 ((rd_T49 l0_1 x16_1).f2)] 49 (0, 0))) := ⟨(by rw [hw]; exact (by refine blk_put (cs := #[.int .i64 ((rd_T49 l0_1 x16_1).f0), .slice A548_1 ((rd_T49 l0_1 x16_1).f1).length c548_1, .int .i64 ((rd_T49 l0_1 x16_1).f2)]) ?_ 1 _ rfl; exact BK549.out))⟩; have n8_ : Aside0 (Below w.heap.size w w34) := ⟨(by rw [hw]; exact (by repeat (first | (with_reducible first | exact HB.out | apply below_alloc | apply pw_below_drewN | apply below_drew1 | refine below_set ?_ GE539.out | refine below_set ?_ GE540.out | refine below_set ?_ GE547.out | refine below_set ?_ GE549.out) | exact HB.out)))⟩; clear hw; clear HO_548000; clear HO_548001; clear HO_548002; clear HO552; clear BK539; clear BK540; clear BK547; clear BK549; clear HB; have HO_548000 := n0_; have HO_548001 := n1_; have HO_548002 := n2_; have HO552 := n3_; have BK539 := n4_; have BK540 := n5_; have BK547 := n6_; have BK549 := n7_; have HB := n8_; clear n0_ n1_ n2_ n3_ n4_ n5_ n6_ n7_ n8_; have hnb35 := NB547_539.out; have hnc35 := NB539_547.out; have hnb36 := NB547_540.out; have hnc36 := NB540_547.out; have hcz37_0 : w34.cell? ⟨gb547, 0, none⟩ = some (.slice Ao14 y541.length co14) := (blk_cell BK547.out 0).trans rfl; have hcz37_1 : w34.cell? ⟨gb547, 1, none⟩ = some (u548001) := (blk_cell BK547.out 1).trans rfl; have hcz37_2 : w34.cell? ⟨gb547, 2, none⟩ = some (.slice Ao13 y544.length co13) := (blk_cell BK547.out 2).trans rfl; have hfz37_0 := blk_frozen BK547.out 0; have hfz37_1 := blk_frozen BK547.out 1; have hfz37_2 := blk_frozen BK547.out 2; have hcz38_0 : w34.cell? ⟨gb549, 0, none⟩ = some (.int .i64 ((rd_T49 l0_1 x16_1).f0)) := (blk_cell BK549.out 0).trans rfl; have hcz38_1 : w34.cell? ⟨gb549, 1, none⟩ = some (.slice Ao32 y550.length co32) := (blk_cell BK549.out 1).trans rfl; have hcz38_2 : w34.cell? ⟨gb549, 2, none⟩ = some (.int .i64 ((rd_T49 l0_1 x16_1).f2)) := (blk_cell BK549.out 2).trans rfl; have hfz38_0 := blk_frozen BK549.out 0; have hfz38_1 := blk_frozen BK549.out 1; have hfz38_2 := blk_frozen BK549.out 2) | ((with_reducible refine gate_builtin (b := .append) (xs := #[.tmp 25, .tmp 27]) rfl ?_); at_builtin; refine Kd.S_append k49 (w0 := w) w.heap.size rfl (.tmp 25) (.tmp 27) 29 49 (.agg #[(.int .i64 0), (.slice none 0 0), (.int .i64 0)]) 40 rfl Try.underlying29 info49 rfl (by decide) (by omega) u548001 x548001_1 (⟨(rd_T49 l0_1 x16_1).f0, y550, (rd_T49 l0_1 x16_1).f2⟩ : S49) [.int .i64 ((rd_T49 l0_1 x16_1).f0), .slice Ao32 y550.length co32, .int .i64 ((rd_T49 l0_1 x16_1).f2)] (fun k_ => some k_ ≠ (.slice Ao14 y541.length co14 : Value).ownBlock ∧ some k_ ≠ (.slice Ao13 y544.length co13 : Value).ownBlock ∧ k_ ≠ gb549) (fun k_ => some k_ = (.slice Ao32 y550.length co32 : Value).ownBlock) rfl rfl ?aP (fun k_ hk_ => ((Kd.R_mono (ok' := fun k_ => ((fun k_ => some k_ ≠ (.slice Ao14 y541.length co14 : Value).ownBlock ∧ some k_ ≠ (.slice Ao13 y544.length co13 : Value).ownBlock ∧ k_ ≠ gb549)) k_ ∧ some k_ ≠ (u548001 : Value).ownBlock) (Kd.R_types (Kd.R_apart' (HO552.out) (Kd.S_typed HO_548001.out) (by decide)) BK549.out (by decide)) (fun k_ hk => ⟨⟨hk.1.1.1, ⟨hk.1.1.2, hk.2⟩⟩, hk.1.2⟩))).1 k_ hk_.symm) ?aF ?aO ?aB ?aS ?aL ?_; (case aP => exact k49_mkM _ _ _ (⟨(rd_T49 l0_1 x16_1).f0, y550, (rd_T49 l0_1 x16_1).f2⟩ : S49) (Kd.R_mono (Kd.R_tight rfl (Kd.R_mono (ok' := fun k_ => ((fun k_ => some k_ ≠ (.slice Ao14 y541.length co14 : Value).ownBlock ∧ some k_ ≠ (.slice Ao13 y544.length co13 : Value).ownBlock ∧ k_ ≠ gb549)) k_ ∧ some k_ ≠ (u548001 : Value).ownBlock) (Kd.R_types (Kd.R_apart' (HO552.out) (Kd.S_typed HO_548001.out) (by decide)) BK549.out (by decide)) (fun k_ hk => ⟨⟨hk.1.1.1, ⟨hk.1.1.2, hk.2⟩⟩, hk.1.2⟩))) (fun _ h_ => h_))); (case aB => exact (by exact HB.out)); (case aF => exact (fun k_ hk => ⟨Kd.fresh' (Kd.R_lt (by exact HO_548000.out)) k_ hk, Kd.fresh' (Kd.R_lt (by exact HO_548002.out)) k_ hk, Kd.freshB (g := gb549) (o := .cells #[.int .i64 ((rd_T49 l0_1 x16_1).f0), .slice Ao32 y550.length co32, .int .i64 ((rd_T49 l0_1 x16_1).f2)] 49 (0, 0)) (by exact BK549.out) k_ hk⟩)); (case aO => exact (by exact Kd.S_mono HO_548001.out (fun k_ hk => ⟨⟨hk.1, ⟨hk.2.1, hk.2.2.2⟩⟩, fun e_ => hk.2.2.1 e_⟩))); (case aS => exact (below_size (by exact HB.out))); (case aL => have := LMc25.out; omega); intro v554 w39 ho hb hg hat; rw [← Ny553.out] at ho; have n0_ := Aside0.mk (Kd.R_over' (by exact HO_548000.out) (Kd.S_typed (by exact HO_548001.out)) (by decide) hg); have n1_ := Aside0.mk (Kd.R_over' (by exact HO_548002.out) (Kd.S_typed (by exact HO_548001.out)) (by decide) hg); have n2_ := Aside0.mk (blk_grown (g := gb539) (o := .cells #[.slice A0_0 l0_0.length c0_0, .slice (some ad548) l0_1.length c0_1, .slice A0_2 l0_2.length c0_2] 31 (0, 0)) (by exact BK539.out) hg (Kd.S_ne HO_548001.out BK539.out (by decide))); have n3_ := Aside0.mk (blk_grown (g := gb540) (o := .cells #[.slice none 0 0, .slice none 0 0, .slice none 0 0] 31 (0, 0)) (by exact BK540.out) hg (Kd.S_ne HO_548001.out BK540.out (by decide))); have n4_ := Aside0.mk (blk_grown (g := gb547) (o := .cells #[.slice Ao14 y541.length co14, u548001, .slice Ao13 y544.length co13] 31 (0, 0)) (by exact BK547.out) hg (Kd.S_ne HO_548001.out BK547.out (by decide))); have n5_ := Aside0.mk (blk_grown (g := gb549) (o := .cells #[.int .i64 ((rd_T49 l0_1 x16_1).f0), .slice Ao32 y550.length co32, .int .i64 ((rd_T49 l0_1 x16_1).f2)] 49 (0, 0)) (by exact BK549.out) hg (Kd.S_away HO_548001.out (fun _ hk => hk.2.2.2))); have n6_ := Aside0.mk (hb); have n7_ := Aside0.mk (ho); clear HO_548000; clear HO_548002; clear BK539; clear BK540; clear BK547; clear BK549; clear HB; clear HO_548001; clear HO552; have HO_548000 := n0_; have HO_548002 := n1_; have BK539 := n2_; have BK540 := n3_; have BK547 := n4_; have BK549 := n5_; have HB := n6_; have HO555 := n7_; clear n0_ n1_ n2_ n3_ n4_ n5_ n6_ n7_; clear ho hb hg hat; obtain ⟨Ao40, co40, eo40⟩ := Kd.S_slice HO555.out; subst eo40; have hcz41_0 : w39.cell? ⟨gb547, 0, none⟩ = some (.slice Ao14 y541.length co14) := (blk_cell BK547.out 0).trans rfl; have hcz41_1 : w39.cell? ⟨gb547, 1, none⟩ = some (u548001) := (blk_cell BK547.out 1).trans rfl; have hcz41_2 : w39.cell? ⟨gb547, 2, none⟩ = some (.slice Ao13 y544.length co13) := (blk_cell BK547.out 2).trans rfl; have hfz41_0 := blk_frozen BK547.out 0; have hfz41_1 := blk_frozen BK547.out 1; have hfz41_2 := blk_frozen BK547.out 2))
          go_roundg k1
          case measure => have := HK1.out; omega
          case rel => exact ⟨(wrap64 (x16_1 + 1)), (y553), (.slice Ao40 y553.length co40), (by first | rfl | (simp; done) | (simp [*]; done)), H', ⟨by have := HK1.out; omega⟩, ⟨by exact Kd.R_mono (Kd.R_far (p := ⟨gb547, 1, none⟩) (Kd.R_types HO_548000.out BK547.out (by decide)) (fun _ hk => hk.2) (.slice Ao40 y553.length co40)) (fun _ hk => hk.1.1)⟩, ⟨by exact Kd.S_mono (Kd.S_far (p := ⟨gb547, 1, none⟩) (Kd.S_types HO555.out BK547.out (by decide)) (fun _ hk => hk.2) (.slice Ao40 y553.length co40)) (fun _ hk => ⟨hk.1.1, hk.1.2.1⟩)⟩, ⟨by exact Kd.R_mono (Kd.R_far (p := ⟨gb547, 1, none⟩) (Kd.R_types HO_548002.out BK547.out (by decide)) (fun _ hk => hk.2) (.slice Ao40 y553.length co40)) (fun _ hk => hk.1.1)⟩, ⟨by refine blk_far ?_ NB539_547.out _; exact BK539.out⟩, ⟨by refine blk_far ?_ NB540_547.out _; exact BK540.out⟩, ⟨by refine blk_put (cs := #[.slice Ao14 y541.length co14, u548001, .slice Ao13 y544.length co13]) ?_ 1 _ rfl; exact BK547.out⟩, ⟨by repeat (first | (with_reducible first | exact HB.out | apply below_alloc | apply pw_below_drewN | apply below_drew1 | refine below_set ?_ GE539.out | refine below_set ?_ GE540.out | refine below_set ?_ GE547.out | refine below_set ?_ GE549.out) | exact HB.out)⟩⟩
         ·rw [if_neg c25] at H
          exact absurd H (by simp)
        ·rw [if_neg c24] at H
         exact absurd H (by simp)
       ·rw [if_neg c23] at H
        exact absurd H (by simp)
      ·rw [if_neg c22] at H
       exact absurd H (by simp)
     ·rw [if_neg c21] at H
      have c21b0 : decide (x16_1 < (l0_1.length : Int)) = false := decide_eq_false c21
      clear c21
      simp only [Option.some.injEq, Prod.mk.injEq] at H
      obtain ⟨rfl, rfl, rfl⟩ := H
      have hnb42 := NB547_539.out
      have hnc42 := NB539_547.out
      have hnb43 := NB547_540.out
      have hnc43 := NB540_547.out
      have hcz44_0 : wr.cell? ⟨gb547, 0, none⟩ = some (.slice Ao14 y541.length co14) := (blk_cell BK547.out 0).trans rfl
      have hcz44_1 : wr.cell? ⟨gb547, 1, none⟩ = some (u548001) := (blk_cell BK547.out 1).trans rfl
      have hcz44_2 : wr.cell? ⟨gb547, 2, none⟩ = some (.slice Ao13 y544.length co13) := (blk_cell BK547.out 2).trans rfl
      have hfz44_0 := blk_frozen BK547.out 0
      have hfz44_1 := blk_frozen BK547.out 1
      have hfz44_2 := blk_frozen BK547.out 2
      have hnb45 := NB540_539.out
      have hnc45 := NB539_540.out
      have hcz46_0 : wr.cell? ⟨gb540, 0, none⟩ = some (.slice none 0 0) := (blk_cell BK540.out 0).trans rfl
      have hcz46_1 : wr.cell? ⟨gb540, 1, none⟩ = some (.slice none 0 0) := (blk_cell BK540.out 1).trans rfl
      have hcz46_2 : wr.cell? ⟨gb540, 2, none⟩ = some (.slice none 0 0) := (blk_cell BK540.out 2).trans rfl
      have hfz46_0 := blk_frozen BK540.out 0
      have hfz46_1 := blk_frozen BK540.out 1
      have hfz46_2 := blk_frozen BK540.out 2
      obtain ⟨Ao47, co47, eo47⟩ := Kd.S_slice HO_548001.out
      subst eo47
      go_wp2
      refine bodyPost_ret (results_cell_row rfl _ _ gb540 31 #[.slice Ao14 y541.length co14, .slice Ao47 x548001_1.length co47, .slice Ao13 y544.length co13] (0, 0) _ rfl (by refine blk_put (cs := #[.slice Ao14 y541.length co14, .slice Ao47 x548001_1.length co47, .slice none 0 0]) ?_ 2 _ rfl; refine blk_put (cs := #[.slice Ao14 y541.length co14, .slice none 0 0, .slice none 0 0]) ?_ 1 _ rfl; refine blk_put (cs := #[.slice none 0 0, .slice none 0 0, .slice none 0 0]) ?_ 0 _ rfl; exact BK540.out) Try.underlying31 rfl (by kernel_rfl)) rfl ?_
      exact ⟨_, _, _, by first | rfl | (simp [errW_none, errW_some] <;> rfl) | (simp [*, errW_none, errW_some] <;> rfl), by exact Kd.R_mono (Kd.R_far (p := ⟨gb540, 2, none⟩) (Kd.R_far (p := ⟨gb540, 1, none⟩) (Kd.R_far (p := ⟨gb540, 0, none⟩) (Kd.R_types HO_548000.out BK540.out (by decide)) (fun _ hk => hk.2) (.slice Ao14 y541.length co14)) (fun _ hk => hk.2) (.slice Ao47 x548001_1.length co47)) (fun _ hk => hk.2) (.slice Ao13 y544.length co13)) (fun _ hk => hk.1), by exact Kd.S_mono (Kd.S_far (p := ⟨gb540, 2, none⟩) (Kd.S_far (p := ⟨gb540, 1, none⟩) (Kd.S_far (p := ⟨gb540, 0, none⟩) (Kd.S_types HO_548001.out BK540.out (by decide)) (fun _ hk => hk.2) (.slice Ao14 y541.length co14)) (fun _ hk => hk.2) (.slice Ao47 x548001_1.length co47)) (fun _ hk => hk.2) (.slice Ao13 y544.length co13)) (fun _ hk => ⟨hk.1.1, hk.1.2⟩), by exact Kd.R_mono (Kd.R_far (p := ⟨gb540, 2, none⟩) (Kd.R_far (p := ⟨gb540, 1, none⟩) (Kd.R_far (p := ⟨gb540, 0, none⟩) (Kd.R_types HO_548002.out BK540.out (by decide)) (fun _ hk => hk.2) (.slice Ao14 y541.length co14)) (fun _ hk => hk.2) (.slice Ao47 x548001_1.length co47)) (fun _ hk => hk.2) (.slice Ao13 y544.length co13)) (fun _ hk => hk.1), by repeat (first | (with_reducible first | exact HB.out | apply below_alloc | apply pw_below_drewN | apply below_drew1 | refine below_set ?_ GE539.out | refine below_set ?_ GE540.out | refine below_set ?_ GE547.out) | exact HB.out)⟩
  ·rw [if_neg c3] at H
   exact absurd H (by simp)
 ·rw [if_neg c2] at H
  exact absurd H (by simp)


/-! ### impl_step: function 52 -/
def impl_step.f (k : Nat) (l0_0 : List Int) (l0_1 : List (S49)) (l0_2 : List Int) (a1 : Int) : Option (List Int × (List (S49)) × List Int) := (impl_copyState.f k l0_0 l0_1 l0_2).bind fun bt558 => (if 0 ≤ a1 then (if a1 < (bt558.2.1.length : Int) then (if (((rd_T49 bt558.2.1 a1).f1).length : Int) = 0 then (if a1 ≤ (bt558.2.1.length : Int) then (if 0 ≤ (wrap64 (a1 + 1)) then (if (wrap64 (a1 + 1)) ≤ (bt558.2.1.length : Int) then (if a1 ≤ (bt558.2.2.length : Int) then (if (wrap64 (a1 + 1)) ≤ (bt558.2.2.length : Int) then (some (bt558.1, (bt558.2.1.eraseIdx (a1 : Int).toNat), (bt558.2.2.eraseIdx (a1 : Int).toNat))) else (none)) else (none)) else (none)) else (none)) else (none)) else (if 0 < (((rd_T49 bt558.2.1 a1).f1).length : Int) then ((some (bt558.2.1.set (a1 : Int).toNat (⟨rd ((rd_T49 bt558.2.1 a1).f1) 0, (rd_T49 bt558.2.1 a1).f1, (rd_T49 bt558.2.1 a1).f2⟩ : S49) : List (S49))).bind fun y597 => (if 1 ≤ (((rd_T49 y597 a1).f1).length : Int) then ((some (((rd_T49 y597 a1).f1).drop 1 : List Int)).bind fun y599 => (if ([] : List Int).length + y599.length < 17592186044416 then (some (bt558.1, (y597.set (a1 : Int).toNat (⟨(rd_T49 y597 a1).f0, (([] : List Int) ++ y599), (rd_T49 y597 a1).f2⟩ : S49)), bt558.2.2)) else (none))) else (none))) else (none))) else (none)) else (none))
theorem impl_step.mono : ∀ a0 a1 a2 a3 k, LeO (impl_step.f k a0 a1 a2 a3) (impl_step.f (k + 1) a0 a1 a2 a3) := by
 intro a0 a1 a2 a3 k
 unfold impl_step.f
 repeat' first
   | (with_reducible exact impl_copyState.mono _ _ _ _)
   | (with_reducible exact LeO.refl _)
   | (with_reducible exact LeO.none _)
   | (with_reducible refine LeO.ite ?_ ?_)
   | (with_reducible refine LeO.bind ?_ (fun _ => ?_))
   | exact impl_copyState.mono _ _ _ _
   | exact LeO.none _
   | refine LeO.ite ?_ ?_
   | refine LeO.bind ?_ (fun _ => ?_)
def impl_step.T3 : Bool × List (List Nat × List Nat) := (true, [([], []), ([0], [0]), ([], []), ([1, 2], [1, 2]), ([], []), ([4], [4]), ([], []), ([6], [6]), ([5, 7], [5, 7]), ([3, 8], [3, 8]), ([0, 1, 2, 3, 4, 5, 6, 7, 8, 9], []), ([10, 9, 9, 0, 1, 2, 3, 4, 5, 6, 7, 8, 9], [9, 10])])
def impl_step.B3 : List Nat := [0, 1, 0, 7, 0, 16, 0, 64, 240, 511, 1023, 2047]
theorem impl_step.tab3 : rtab .any (opsOf Try.f52 3) = impl_step.T3 := by kernel_rfl
theorem impl_step.bits3 : waitsOk impl_step.T3.2 impl_step.B3 = true := by kernel_rfl
def impl_step.T4 : Bool × List (List Nat × List Nat) := (true, [([], []), ([0], [0]), ([], []), ([1, 2], [1, 2]), ([], []), ([4], [4]), ([], []), ([6], [6]), ([5, 7], [5, 7]), ([3, 8], [3, 8]), ([0, 1, 2, 3, 4, 5, 6, 7, 8, 9], []), ([10, 9, 9, 0, 1, 2, 3, 4, 5, 6, 7, 8, 9], [9, 10])])
def impl_step.B4 : List Nat := [0, 1, 0, 7, 0, 16, 0, 64, 240, 511, 1023, 2047]
theorem impl_step.tab4 : rtab .any (opsOf Try.f52 4) = impl_step.T4 := by kernel_rfl
theorem impl_step.bits4 : waitsOk impl_step.T4.2 impl_step.B4 = true := by kernel_rfl
def impl_step.T6 : Bool × List (List Nat × List Nat) := (true, [([], []), ([0], [0]), ([], []), ([], []), ([3], [3]), ([], []), ([4, 5], [4, 5]), ([6], [6]), ([7], [7]), ([8], [8]), ([9], [9]), ([1, 2, 0, 1, 2, 3, 4, 5, 6, 7, 8, 9, 10], [1, 2]), ([11, 0, 1, 2, 3, 4, 5, 6, 7, 8, 9, 10], [11]), ([12, 10, 0, 1, 2, 3, 4, 5, 6, 7, 8, 9, 10], [10, 12])])
def impl_step.B6 : List Nat := [0, 1, 0, 0, 8, 0, 56, 120, 248, 504, 1016, 2047, 4095, 8191]
theorem impl_step.tab6 : rtab .any (opsOf Try.f52 6) = impl_step.T6 := by kernel_rfl
theorem impl_step.bits6 : waitsOk impl_step.T6.2 impl_step.B6 = true := by kernel_rfl
def impl_step.T7 : Bool × List (List Nat × List Nat) := (true, [([], []), ([0], [0]), ([], []), ([], []), ([3], [3]), ([], []), ([4, 5], [4, 5]), ([6], [6]), ([7], [7]), ([8], [8]), ([9], [9]), ([1, 2, 0, 1, 2, 3, 4, 5, 6, 7, 8, 9, 10], [1, 2]), ([11, 0, 1, 2, 3, 4, 5, 6, 7, 8, 9, 10], [11]), ([12, 10, 10, 0, 1, 2, 3, 4, 5, 6, 7, 8, 9, 10], [10, 12])])
def impl_step.B7 : List Nat := [0, 1, 0, 0, 8, 0, 56, 120, 248, 504, 1016, 2047, 4095, 8191]
theorem impl_step.tab7 : rtab .any (opsOf Try.f52 7) = impl_step.T7 := by kernel_rfl
theorem impl_step.bits7 : waitsOk impl_step.T7.2 impl_step.B7 = true := by kernel_rfl

/-! ### spec_Step: function 34 -/
def spec_Step.f (k : Nat) (l0_0 : List Int) (l0_1 : List (S49)) (l0_2 : List Int) (a1 : Int) : Option (List Int × (List (S49)) × List Int) := (spec_StateOk.f k l0_0 l0_1 l0_2).bind fun t716 => (if t716 = 0 then ((spec_l1name.f k l0_0 l0_1 l0_2 a1).bind fun t717 => (if t717 < 0 then (some (([] : List Int), ([] : List (S49)), ([] : List Int))) else ((spec_l1can.f k l0_0 l0_1 l0_2 t717).bind fun t718 => (if t718 = true then ((spec_l1step.f k l0_0 l0_1 l0_2 t717).bind fun bt719 => (some (bt719.1, bt719.2.1, bt719.2.2))) else (some (([] : List Int), ([] : List (S49)), ([] : List Int))))))) else (some (([] : List Int), ([] : List (S49)), ([] : List Int))))
theorem spec_Step.mono : ∀ a0 a1 a2 a3 k, LeO (spec_Step.f k a0 a1 a2 a3) (spec_Step.f (k + 1) a0 a1 a2 a3) := by
 intro a0 a1 a2 a3 k
 unfold spec_Step.f
 repeat' first
   | (with_reducible exact spec_StateOk.mono _ _ _ _)
   | (with_reducible exact spec_l1can.mono _ _ _ _ _)
   | (with_reducible exact spec_l1name.mono _ _ _ _ _)
   | (with_reducible exact spec_l1step.mono _ _ _ _ _)
   | (with_reducible exact LeO.refl _)
   | (with_reducible exact LeO.none _)
   | (with_reducible refine LeO.ite ?_ ?_)
   | (with_reducible refine LeO.bind ?_ (fun _ => ?_))
   | exact spec_StateOk.mono _ _ _ _
   | exact spec_l1can.mono _ _ _ _ _
   | exact spec_l1name.mono _ _ _ _ _
   | exact spec_l1step.mono _ _ _ _ _
   | exact LeO.none _
   | refine LeO.ite ?_ ?_
   | refine LeO.bind ?_ (fun _ => ?_)
set_option maxHeartbeats 8000000 in
set_option maxRecDepth 100000 in
theorem spec_Step.calls (k : Nat) (A0_0 : Option Addr) (c0_0 : Nat) (l0_0 : List Int) (A0_1 : Option Addr) (c0_1 : Nat) (l0_1 : List (S49)) (A0_2 : Option Addr) (c0_2 : Nat) (l0_2 : List Int) (a1 : Int) (r1 : List Int) (r2 : List (S49)) (r3 : List Int) (w : World) (hr0_0 : Kd.C (Kd.int .i64) w A0_0 l0_0.length l0_0) (hc0_0 : l0_0.length ≤ c0_0) (hr0_1 : Kd.C k49 w A0_1 l0_1.length l0_1) (hc0_1 : l0_1.length ≤ c0_1) (hr0_2 : Kd.C (Kd.int .i64) w A0_2 l0_2.length l0_2) (hc0_2 : l0_2.length ≤ c0_2) (h : spec_Step.f k l0_0 l0_1 l0_2 a1 = some (r1, r2, r3)) :
  Calls Try.prog 34 #[.agg #[.slice A0_0 l0_0.length c0_0, .slice A0_1 l0_1.length c0_1, .slice A0_2 l0_2.length c0_2], .int .i64 a1] w fun e w' => ∃ v0_ v1_ v2_ : Value, e = .returned (.agg #[v0_, v1_, v2_]) ∧ Kd.R (Kd.int .i64) 3 w' w.heap.size (fun k_ => (w.heap.size ≤ k_) ∧ some k_ ≠ (v2_ : Value).ownBlock) v0_ r1 ∧ Kd.N k49 49 w' w.heap.size (fun k_ => (w.heap.size ≤ k_) ∧ some k_ ≠ (v0_ : Value).ownBlock ∧ some k_ ≠ (v2_ : Value).ownBlock) v1_ r2 ∧ Kd.R (Kd.int .i64) 3 w' w.heap.size (fun k_ => (w.heap.size ≤ k_) ∧ some k_ ≠ (v0_ : Value).ownBlock) v2_ r3 ∧ Below w.heap.size w w' := by
 have hu31 := Try.underlying31
 have HR0_0 := Aside0.mk hr0_0
 have HC0_0 := Aside0.mk hc0_0
 clear hr0_0 hc0_0
 have HR0_1 := Aside0.mk hr0_1
 have HC0_1 := Aside0.mk hc0_1
 clear hr0_1 hc0_1
 have HR0_2 := Aside0.mk hr0_2
 have HC0_2 := Aside0.mk hc0_2
 clear hr0_2 hc0_2
 have HB := Aside0.mk (Below.refl w.heap.size w)
 have H : ((spec_StateOk.f k l0_0 l0_1 l0_2).bind fun t716 => (if t716 = 0 then ((spec_l1name.f k l0_0 l0_1 l0_2 a1).bind fun t717 => (if t717 < 0 then (some (([] : List Int), ([] : List (S49)), ([] : List Int))) else ((spec_l1can.f k l0_0 l0_1 l0_2 t717).bind fun t718 => (if t718 = true then ((spec_l1step.f k l0_0 l0_1 l0_2 t717).bind fun bt719 => (some (bt719.1, bt719.2.1, bt719.2.2))) else (some (([] : List Int), ([] : List (S49)), ([] : List Int))))))) else (some (([] : List Int), ([] : List (S49)), ([] : List Int))))) = some (r1, r2, r3) := h
 clear h
 replace H := Option.bind_eq_some_iff.mp H
 obtain ⟨t716, A30, H⟩ := H
 replace H : (if t716 = 0 then ((spec_l1name.f k l0_0 l0_1 l0_2 a1).bind fun t717 => (if t717 < 0 then (some (([] : List Int), ([] : List (S49)), ([] : List Int))) else ((spec_l1can.f k l0_0 l0_1 l0_2 t717).bind fun t718 => (if t718 = true then ((spec_l1step.f k l0_0 l0_1 l0_2 t717).bind fun bt719 => (some (bt719.1, bt719.2.1, bt719.2.2))) else (some (([] : List Int), ([] : List (S49)), ([] : List Int))))))) else (some (([] : List Int), ([] : List (S49)), ([] : List Int)))) = some (r1, r2, r3) := H
 have A3 := Aside0.mk A30
 clear A30
 by_cases c4 : t716 = 0
 ·rw [if_pos c4] at H
  have c4b0 : (t716 == 0) = true := beq_iff_eq.mpr c4
  have c4b1 : (t716 != 0) = false := bne_eq_false_iff_eq.mpr c4
  clear c4
  replace H := Option.bind_eq_some_iff.mp H
  obtain ⟨t717, A50, H⟩ := H
  replace H : (if t717 < 0 then (some (([] : List Int), ([] : List (S49)), ([] : List Int))) else ((spec_l1can.f k l0_0 l0_1 l0_2 t717).bind fun t718 => (if t718 = true then ((spec_l1step.f k l0_0 l0_1 l0_2 t717).bind fun bt719 => (some (bt719.1, bt719.2.1, bt719.2.2))) else (some (([] : List Int), ([] : List (S49)), ([] : List Int)))))) = some (r1, r2, r3) := H
  have A5 := Aside0.mk A50
  clear A50
  by_cases c6 : t717 < 0
  ·rw [if_pos c6] at H
   have c6b0 : decide (t717 < 0) = true := decide_eq_true c6
   clear c6
   simp only [Option.some.injEq, Prod.mk.injEq] at H
   obtain ⟨rfl, rfl, rfl⟩ := H
   go_enter Try.func34, Try.ntmps34
   go_wp2_with (first | ((with_reducible refine gate_dst (N := 2) rfl ?_); refine box_event ?hg (N := 2) ?hd (cs := #[.slice A0_0 l0_0.length c0_0, .slice A0_1 l0_1.length c0_1, .slice A0_2 l0_2.length c0_2]) (t := 31) ?hr ?_; (case hd => rfl); (case hg => rfl); (case hr => first | (go_simp; done) | (go_simp; rfl)); intro gb714 hg w7 hbox hb; have n0_ := Aside0.mk (below_step (by exact HB.out) hb); have n1_ := Aside0.mk (hbox); have n2_ := Aside0.mk ((by rw [hg]; exact (below_size (by exact HB.out)) : w.heap.size ≤ gb714)); have n3_ := Aside0.mk ((by rw [hg]; exact (below_size (by exact HB.out)) : w.heap.size ≤ gb714)); clear HB; have HB := n0_; have BK714 := n1_; have GW714 := n2_; have GE714 := n3_; clear n0_ n1_ n2_ n3_; clear hb hbox hg) | ((with_reducible refine gate_dst (N := 4) rfl ?_); refine box_event ?hg (N := 4) ?hd (cs := #[.slice none 0 0, .slice none 0 0, .slice none 0 0]) (t := 31) ?hr ?_; (case hd => rfl); (case hg => rfl); (case hr => first | (go_simp; done) | (go_simp; rfl)); intro gb715 hg w8 hbox hb; have n0_ := Aside0.mk (blk_below (g := gb714) (o := .cells #[.slice A0_0 l0_0.length c0_0, .slice A0_1 l0_1.length c0_1, .slice A0_2 l0_2.length c0_2] 31 (0, 0)) (by exact BK714.out) hb); have n1_ := Aside0.mk (below_step (by exact HB.out) hb); have n2_ := Aside0.mk (hbox); have n3_ := Aside0.mk ((by rw [hg]; exact (below_size (by exact HB.out)) : w.heap.size ≤ gb715)); have n4_ := Aside0.mk ((by rw [hg]; exact (below_size (by exact HB.out)) : w.heap.size ≤ gb715)); have n5_ := Aside0.mk ((by rw [hg]; exact Nat.ne_of_lt (blk_lt (g := gb714) (o := .cells #[.slice A0_0 l0_0.length c0_0, .slice A0_1 l0_1.length c0_1, .slice A0_2 l0_2.length c0_2] 31 (0, 0)) (by exact BK714.out)) : gb714 ≠ gb715)); have n6_ := Aside0.mk ((by rw [hg]; exact Nat.ne_of_gt (blk_lt (g := gb714) (o := .cells #[.slice A0_0 l0_0.length c0_0, .slice A0_1 l0_1.length c0_1, .slice A0_2 l0_2.length c0_2] 31 (0, 0)) (by exact BK714.out)) : gb715 ≠ gb714)); clear BK714; clear HB; have BK714 := n0_; have HB := n1_; have BK715 := n2_; have GW715 := n3_; have GE715 := n4_; have NB714_715 := n5_; have NB715_714 := n6_; clear n0_ n1_ n2_ n3_ n4_ n5_ n6_; clear hb hbox hg; have hnb9 := NB714_715.out; have hnc9 := NB715_714.out; have hcz10_0 : w8.cell? ⟨gb714, 0, none⟩ = some (.slice A0_0 l0_0.length c0_0) := (blk_cell BK714.out 0).trans rfl; have hcz10_1 : w8.cell? ⟨gb714, 1, none⟩ = some (.slice A0_1 l0_1.length c0_1) := (blk_cell BK714.out 1).trans rfl; have hcz10_2 : w8.cell? ⟨gb714, 2, none⟩ = some (.slice A0_2 l0_2.length c0_2) := (blk_cell BK714.out 2).trans rfl; have hfz10_0 := blk_frozen BK714.out 0; have hfz10_1 := blk_frozen BK714.out 1; have hfz10_2 := blk_frozen BK714.out 2) | ((with_reducible refine gate_callee (f := 13) rfl ?_); refine goesL_ (some 7) rfl rfl Try.func13 (by kernel_rfl) rfl #[.agg #[.slice A0_0 l0_0.length c0_0, .slice A0_1 l0_1.length c0_1, .slice A0_2 l0_2.length c0_2]] rfl (by (try simp only [List.map_toArray, List.map_cons, List.map_nil]); first | done | rfl | (simp only [List.length_drop, List.length_take]; rfl)) ?_; (with_reducible refine (spec_StateOk.calls k _ _ l0_0 _ _ l0_1 _ _ l0_2 t716 _ ?side1 ?side2 ?side3 ?side4 ?side5 ?side6 A3.out).mono ?_); (case side1 => repeat (first | exact (Kd.C_below HR0_0.out HB.out) | (with_reducible refine Kd.C_alloc ?_ _) | (with_reducible refine Kd.C_drewN ?_ _) | (with_reducible refine Kd.C_drew ?_))); (case side2 => exact HC0_0.out); (case side3 => repeat (first | exact (Kd.C_below HR0_1.out HB.out) | (with_reducible refine Kd.C_alloc ?_ _) | (with_reducible refine Kd.C_drewN ?_ _) | (with_reducible refine Kd.C_drew ?_))); (case side4 => exact HC0_1.out); (case side5 => repeat (first | exact (Kd.C_below HR0_2.out HB.out) | (with_reducible refine Kd.C_alloc ?_ _) | (with_reducible refine Kd.C_drewN ?_ _) | (with_reducible refine Kd.C_drew ?_))); (case side6 => exact HC0_2.out); rintro e w11 ⟨rfl, hb⟩; refine ⟨_, rfl, ?_⟩; have n0_ := Aside0.mk (blk_below (g := gb714) (o := .cells #[.slice A0_0 l0_0.length c0_0, .slice A0_1 l0_1.length c0_1, .slice A0_2 l0_2.length c0_2] 31 (0, 0)) (by exact BK714.out) hb); have n1_ := Aside0.mk (blk_below (g := gb715) (o := .cells #[.slice none 0 0, .slice none 0 0, .slice none 0 0] 31 (0, 0)) (by exact BK715.out) hb); have n2_ := Aside0.mk (below_step (by exact HB.out) hb); clear BK714; clear BK715; clear HB; have BK714 := n0_; have BK715 := n1_; have HB := n2_; clear n0_ n1_ n2_; (try clear hb); (try clear hb2); (try clear hk); (try clear hi); have hcz12_0 : w11.cell? ⟨gb714, 0, none⟩ = some (.slice A0_0 l0_0.length c0_0) := (blk_cell BK714.out 0).trans rfl; have hcz12_1 : w11.cell? ⟨gb714, 1, none⟩ = some (.slice A0_1 l0_1.length c0_1) := (blk_cell BK714.out 1).trans rfl; have hcz12_2 : w11.cell? ⟨gb714, 2, none⟩ = some (.slice A0_2 l0_2.length c0_2) := (blk_cell BK714.out 2).trans rfl; have hfz12_0 := blk_frozen BK714.out 0; have hfz12_1 := blk_frozen BK714.out 1; have hfz12_2 := blk_frozen BK714.out 2) | ((with_reducible refine gate_callee (f := 47) rfl ?_); refine goesL_ (some 12) rfl rfl Try.func47 (by kernel_rfl) rfl #[.agg #[.slice A0_0 l0_0.length c0_0, .slice A0_1 l0_1.length c0_1, .slice A0_2 l0_2.length c0_2], .int .i64 a1] rfl (by (try simp only [List.map_toArray, List.map_cons, List.map_nil]); first | done | rfl | (simp only [List.length_drop, List.length_take]; rfl)) ?_; (with_reducible refine (spec_l1name.calls k _ _ l0_0 _ _ l0_1 _ _ l0_2 a1 t717 _ ?side1 ?side2 ?side3 ?side4 ?side5 ?side6 A5.out).mono ?_); (case side1 => repeat (first | exact (Kd.C_below HR0_0.out HB.out) | (with_reducible refine Kd.C_alloc ?_ _) | (with_reducible refine Kd.C_drewN ?_ _) | (with_reducible refine Kd.C_drew ?_))); (case side2 => exact HC0_0.out); (case side3 => repeat (first | exact (Kd.C_below HR0_1.out HB.out) | (with_reducible refine Kd.C_alloc ?_ _) | (with_reducible refine Kd.C_drewN ?_ _) | (with_reducible refine Kd.C_drew ?_))); (case side4 => exact HC0_1.out); (case side5 => repeat (first | exact (Kd.C_below HR0_2.out HB.out) | (with_reducible refine Kd.C_alloc ?_ _) | (with_reducible refine Kd.C_drewN ?_ _) | (with_reducible refine Kd.C_drew ?_))); (case side6 => exact HC0_2.out); rintro e w13 ⟨rfl, hb⟩; refine ⟨_, rfl, ?_⟩; have n0_ := Aside0.mk (blk_below (g := gb714) (o := .cells #[.slice A0_0 l0_0.length c0_0, .slice A0_1 l0_1.length c0_1, .slice A0_2 l0_2.length c0_2] 31 (0, 0)) (by exact BK714.out) hb); have n1_ := Aside0.mk (blk_below (g := gb715) (o := .cells #[.slice none 0 0, .slice none 0 0, .slice none 0 0] 31 (0, 0)) (by exact BK715.out) hb); have n2_ := Aside0.mk (below_step (by exact HB.out) hb); clear BK714; clear BK715; clear HB; have BK714 := n0_; have BK715 := n1_; have HB := n2_; clear n0_ n1_ n2_; (try clear hb); (try clear hb2); (try clear hk); (try clear hi); have hcz14_0 : w13.cell? ⟨gb715, 0, none⟩ = some (.slice none 0 0) := (blk_cell BK715.out 0).trans rfl; have hcz14_1 : w13.cell? ⟨gb715, 1, none⟩ = some (.slice none 0 0) := (blk_cell BK715.out 1).trans rfl; have hcz14_2 : w13.cell? ⟨gb715, 2, none⟩ = some (.slice none 0 0) := (blk_cell BK715.out 2).trans rfl; have hfz14_0 := blk_frozen BK715.out 0; have hfz14_1 := blk_frozen BK715.out 1; have hfz14_2 := blk_frozen BK715.out 2))
   refine bodyPost_ret (results_cell_row rfl _ _ gb715 31 #[.slice none 0 0, .slice none 0 0, .slice none 0 0] (0, 0) _ rfl (by refine blk_put (cs := #[.slice none 0 0, .slice none 0 0, .slice none 0 0]) ?_ 2 _ rfl; refine blk_put (cs := #[.slice none 0 0, .slice none 0 0, .slice none 0 0]) ?_ 1 _ rfl; refine blk_put (cs := #[.slice none 0 0, .slice none 0 0, .slice none 0 0]) ?_ 0 _ rfl; exact BK715.out) Try.underlying31 rfl (by kernel_rfl)) rfl ?_
   exact ⟨_, _, _, by first | rfl | (simp [errW_none, errW_some] <;> rfl) | (simp [*, errW_none, errW_some] <;> rfl), by first | exact Kd.R_nil _ _ _ _ _ | exact Kd.N_nil _ _ _ _ _ | exact Kd.V_nil _ _ _ _ _ | exact Kd.Q_nil _ _ _ _ _ | exact Kd.S_nil _ _ _ _ _, by first | exact Kd.S_nil _ _ _ _ _ | exact Kd.N_nil _ _ _ _ _ | exact Kd.V_nil _ _ _ _ _ | exact Kd.Q_nil _ _ _ _ _ | exact Kd.R_nil _ _ _ _ _, by first | exact Kd.R_nil _ _ _ _ _ | exact Kd.N_nil _ _ _ _ _ | exact Kd.V_nil _ _ _ _ _ | exact Kd.Q_nil _ _ _ _ _ | exact Kd.S_nil _ _ _ _ _, by repeat (first | (with_reducible first | exact HB.out | apply below_alloc | apply pw_below_drewN | apply below_drew1 | refine below_set ?_ GE714.out | refine below_set ?_ GE715.out) | exact HB.out)⟩
  ·rw [if_neg c6] at H
   have c6b0 : decide (t717 < 0) = false := decide_eq_false c6
   clear c6
   replace H := Option.bind_eq_some_iff.mp H
   obtain ⟨t718, A150, H⟩ := H
   replace H : (if t718 = true then ((spec_l1step.f k l0_0 l0_1 l0_2 t717).bind fun bt719 => (some (bt719.1, bt719.2.1, bt719.2.2))) else (some (([] : List Int), ([] : List (S49)), ([] : List Int)))) = some (r1, r2, r3) := H
   have A15 := Aside0.mk A150
   clear A150
   by_cases c16 : t718 = true
   ·subst c16
    have H1 : ((spec_l1step.f k l0_0 l0_1 l0_2 t717).bind fun bt719 => (some (bt719.1, bt719.2.1, bt719.2.2))) = some (r1, r2, r3) := by rw [if_pos rfl] at H; exact H
    clear H
    have H := H1
    clear H1
    replace H := Option.bind_eq_some_iff.mp H
    obtain ⟨⟨t719, t722, t725⟩, A170, H⟩ := H
    replace H : (some (t719, t722, t725)) = some (r1, r2, r3) := H
    have A17 := Aside0.mk A170
    clear A170
    simp only [Option.some.injEq, Prod.mk.injEq] at H
    obtain ⟨rfl, rfl, rfl⟩ := H
    go_enter Try.func34, Try.ntmps34
    go_wp2_with (first | ((with_reducible refine gate_dst (N := 2) rfl ?_); refine box_event ?hg (N := 2) ?hd (cs := #[.slice A0_0 l0_0.length c0_0, .slice A0_1 l0_1.length c0_1, .slice A0_2 l0_2.length c0_2]) (t := 31) ?hr ?_; (case hd => rfl); (case hg => rfl); (case hr => first | (go_simp; done) | (go_simp; rfl)); intro gb714 hg w18 hbox hb; have n0_ := Aside0.mk (below_step (by exact HB.out) hb); have n1_ := Aside0.mk (hbox); have n2_ := Aside0.mk ((by rw [hg]; exact (below_size (by exact HB.out)) : w.heap.size ≤ gb714)); have n3_ := Aside0.mk ((by rw [hg]; exact (below_size (by exact HB.out)) : w.heap.size ≤ gb714)); clear HB; have HB := n0_; have BK714 := n1_; have GW714 := n2_; have GE714 := n3_; clear n0_ n1_ n2_ n3_; clear hb hbox hg) | ((with_reducible refine gate_dst (N := 4) rfl ?_); refine box_event ?hg (N := 4) ?hd (cs := #[.slice none 0 0, .slice none 0 0, .slice none 0 0]) (t := 31) ?hr ?_; (case hd => rfl); (case hg => rfl); (case hr => first | (go_simp; done) | (go_simp; rfl)); intro gb715 hg w19 hbox hb; have n0_ := Aside0.mk (blk_below (g := gb714) (o := .cells #[.slice A0_0 l0_0.length c0_0, .slice A0_1 l0_1.length c0_1, .slice A0_2 l0_2.length c0_2] 31 (0, 0)) (by exact BK714.out) hb); have n1_ := Aside0.mk (below_step (by exact HB.out) hb); have n2_ := Aside0.mk (hbox); have n3_ := Aside0.mk ((by rw [hg]; exact (below_size (by exact HB.out)) : w.heap.size ≤ gb715)); have n4_ := Aside0.mk ((by rw [hg]; exact (below_size (by exact HB.out)) : w.heap.size ≤ gb715)); have n5_ := Aside0.mk ((by rw [hg]; exact Nat.ne_of_lt (blk_lt (g := gb714) (o := .cells #[.slice A0_0 l0_0.length c0_0, .slice A0_1 l0_1.length c0_1, .slice A0_2 l0_2.length c0_2] 31 (0, 0)) (by exact BK714.out)) : gb714 ≠ gb715)); have n6_ := Aside0.mk ((by rw [hg]; exact Nat.ne_of_gt (blk_lt (g := gb714) (o := .cells #[.slice A0_0 l0_0.length c0_0, .slice A0_1 l0_1.length c0_1, .slice A0_2 l0_2.length c0_2] 31 (0, 0)) (by exact BK714.out)) : gb715 ≠ gb714)); clear BK714; clear HB; have BK714 := n0_; have HB := n1_; have BK715 := n2_; have GW715 := n3_; have GE715 := n4_; have NB714_715 := n5_; have NB715_714 := n6_; clear n0_ n1_ n2_ n3_ n4_ n5_ n6_; clear hb hbox hg; have hnb20 := NB714_715.out; have hnc20 := NB715_714.out; have hcz21_0 : w19.cell? ⟨gb714, 0, none⟩ = some (.slice A0_0 l0_0.length c0_0) := (blk_cell BK714.out 0).trans rfl; have hcz21_1 : w19.cell? ⟨gb714, 1, none⟩ = some (.slice A0_1 l0_1.length c0_1) := (blk_cell BK714.out 1).trans rfl; have hcz21_2 : w19.cell? ⟨gb714, 2, none⟩ = some (.slice A0_2 l0_2.length c0_2) := (blk_cell BK714.out 2).trans rfl; have hfz21_0 := blk_frozen BK714.out 0; have hfz21_1 := blk_frozen BK714.out 1; have hfz21_2 := blk_frozen BK714.out 2) | ((with_reducible refine gate_callee (f := 13) rfl ?_); refine goesL_ (some 7) rfl rfl Try.func13 (by kernel_rfl) rfl #[.agg #[.slice A0_0 l0_0.length c0_0, .slice A0_1 l0_1.length c0_1, .slice A0_2 l0_2.length c0_2]] rfl (by (try simp only [List.map_toArray, List.map_cons, List.map_nil]); first | done | rfl | (simp only [List.length_drop, List.length_take]; rfl)) ?_; (with_reducible refine (spec_StateOk.calls k _ _ l0_0 _ _ l0_1 _ _ l0_2 t716 _ ?side1 ?side2 ?side3 ?side4 ?side5 ?side6 A3.out).mono ?_); (case side1 => repeat (first | exact (Kd.C_below HR0_0.out HB.out) | (with_reducible refine Kd.C_alloc ?_ _) | (with_reducible refine Kd.C_drewN ?_ _) | (with_reducible refine Kd.C_drew ?_))); (case side2 => exact HC0_0.out); (case side3 => repeat (first | exact (Kd.C_below HR0_1.out HB.out) | (with_reducible refine Kd.C_alloc ?_ _) | (with_reducible refine Kd.C_drewN ?_ _) | (with_reducible refine Kd.C_drew ?_))); (case side4 => exact HC0_1.out); (case side5 => repeat (first | exact (Kd.C_below HR0_2.out HB.out) | (with_reducible refine Kd.C_alloc ?_ _) | (with_reducible refine Kd.C_drewN ?_ _) | (with_reducible refine Kd.C_drew ?_))); (case side6 => exact HC0_2.out); rintro e w22 ⟨rfl, hb⟩; refine ⟨_, rfl, ?_⟩; have n0_ := Aside0.mk (blk_below (g := gb714) (o := .cells #[.slice A0_0 l0_0.length c0_0, .slice A0_1 l0_1.length c0_1, .slice A0_2 l0_2.length c0_2] 31 (0, 0)) (by exact BK714.out) hb); have n1_ := Aside0.mk (blk_below (g := gb715) (o := .cells #[.slice none 0 0, .slice none 0 0, .slice none 0 0] 31 (0, 0)) (by exact BK715.out) hb); have n2_ := Aside0.mk (below_step (by exact HB.out) hb); clear BK714; clear BK715; clear HB; have BK714 := n0_; have BK715 := n1_; have HB := n2_; clear n0_ n1_ n2_; (try clear hb); (try clear hb2); (try clear hk); (try clear hi); have hcz23_0 : w22.cell? ⟨gb714, 0, none⟩ = some (.slice A0_0 l0_0.length c0_0) := (blk_cell BK714.out 0).trans rfl; have hcz23_1 : w22.cell? ⟨gb714, 1, none⟩ = some (.slice A0_1 l0_1.length c0_1) := (blk_cell BK714.out 1).trans rfl; have hcz23_2 : w22.cell? ⟨gb714, 2, none⟩ = some (.slice A0_2 l0_2.length c0_2) := (blk_cell BK714.out 2).trans rfl; have hfz23_0 := blk_frozen BK714.out 0; have hfz23_1 := blk_frozen BK714.out 1; have hfz23_2 := blk_frozen BK714.out 2) | ((with_reducible refine gate_callee (f := 47) rfl ?_); refine goesL_ (some 12) rfl rfl Try.func47 (by kernel_rfl) rfl #[.agg #[.slice A0_0 l0_0.length c0_0, .slice A0_1 l0_1.length c0_1, .slice A0_2 l0_2.length c0_2], .int .i64 a1] rfl (by (try simp only [List.map_toArray, List.map_cons, List.map_nil]); first | done | rfl | (simp only [List.length_drop, List.length_take]; rfl)) ?_; (with_reducible refine (spec_l1name.calls k _ _ l0_0 _ _ l0_1 _ _ l0_2 a1 t717 _ ?side1 ?side2 ?side3 ?side4 ?side5 ?side6 A5.out).mono ?_); (case side1 => repeat (first | exact (Kd.C_below HR0_0.out HB.out) | (with_reducible refine Kd.C_alloc ?_ _) | (with_reducible refine Kd.C_drewN ?_ _) | (with_reducible refine Kd.C_drew ?_))); (case side2 => exact HC0_0.out); (case side3 => repeat (first | exact (Kd.C_below HR0_1.out HB.out) | (with_reducible refine Kd.C_alloc ?_ _) | (with_reducible refine Kd.C_drewN ?_ _) | (with_reducible refine Kd.C_drew ?_))); (case side4 => exact HC0_1.out); (case side5 => repeat (first | exact (Kd.C_below HR0_2.out HB.out) | (with_reducible refine Kd.C_alloc ?_ _) | (with_reducible refine Kd.C_drewN ?_ _) | (with_reducible refine Kd.C_drew ?_))); (case side6 => exact HC0_2.out); rintro e w24 ⟨rfl, hb⟩; refine ⟨_, rfl, ?_⟩; have n0_ := Aside0.mk (blk_below (g := gb714) (o := .cells #[.slice A0_0 l0_0.length c0_0, .slice A0_1 l0_1.length c0_1, .slice A0_2 l0_2.length c0_2] 31 (0, 0)) (by exact BK714.out) hb); have n1_ := Aside0.mk (blk_below (g := gb715) (o := .cells #[.slice none 0 0, .slice none 0 0, .slice none 0 0] 31 (0, 0)) (by exact BK715.out) hb); have n2_ := Aside0.mk (below_step (by exact HB.out) hb); clear BK714; clear BK715; clear HB; have BK714 := n0_; have BK715 := n1_; have HB := n2_; clear n0_ n1_ n2_; (try clear hb); (try clear hb2); (try clear hk); (try clear hi); have hcz25_0 : w24.cell? ⟨gb714, 0, none⟩ = some (.slice A0_0 l0_0.length c0_0) := (blk_cell BK714.out 0).trans rfl; have hcz25_1 : w24.cell? ⟨gb714, 1, none⟩ = some (.slice A0_1 l0_1.length c0_1) := (blk_cell BK714.out 1).trans rfl; have hcz25_2 : w24.cell? ⟨gb714, 2, none⟩ = some (.slice A0_2 l0_2.length c0_2) := (blk_cell BK714.out 2).trans rfl; have hfz25_0 := blk_frozen BK714.out 0; have hfz25_1 := blk_frozen BK714.out 1; have hfz25_2 := blk_frozen BK714.out 2) | (go_at_call 44; (with_reducible refine (spec_l1can.calls k _ _ l0_0 _ _ l0_1 _ _ l0_2 t717 true _ ?side1 ?side2 ?side3 ?side4 ?side5 ?side6 A15.out).mono ?_); (case side1 => repeat (first | exact (Kd.C_below HR0_0.out HB.out) | (with_reducible refine Kd.C_alloc ?_ _) | (with_reducible refine Kd.C_drewN ?_ _) | (with_reducible refine Kd.C_drew ?_))); (case side2 => exact HC0_0.out); (case side3 => repeat (first | exact (Kd.C_below HR0_1.out HB.out) | (with_reducible refine Kd.C_alloc ?_ _) | (with_reducible refine Kd.C_drewN ?_ _) | (with_reducible refine Kd.C_drew ?_))); (case side4 => exact HC0_1.out); (case side5 => repeat (first | exact (Kd.C_below HR0_2.out HB.out) | (with_reducible refine Kd.C_alloc ?_ _) | (with_reducible refine Kd.C_drewN ?_ _) | (with_reducible refine Kd.C_drew ?_))); (case side6 => exact HC0_2.out); rintro e w26 ⟨rfl, hb⟩; have n0_ := Aside0.mk (blk_below (g := gb714) (o := .cells #[.slice A0_0 l0_0.length c0_0, .slice A0_1 l0_1.length c0_1, .slice A0_2 l0_2.length c0_2] 31 (0, 0)) (by exact BK714.out) hb); have n1_ := Aside0.mk (blk_below (g := gb715) (o := .cells #[.slice none 0 0, .slice none 0 0, .slice none 0 0] 31 (0, 0)) (by exact BK715.out) hb); have n2_ := Aside0.mk (below_step (by exact HB.out) hb); clear BK714; clear BK715; clear HB; have BK714 := n0_; have BK715 := n1_; have HB := n2_; clear n0_ n1_ n2_; (try clear hb); (try clear hb2); (try clear hk); (try clear hi); have hcz27_0 : w26.cell? ⟨gb714, 0, none⟩ = some (.slice A0_0 l0_0.length c0_0) := (blk_cell BK714.out 0).trans rfl; have hcz27_1 : w26.cell? ⟨gb714, 1, none⟩ = some (.slice A0_1 l0_1.length c0_1) := (blk_cell BK714.out 1).trans rfl; have hcz27_2 : w26.cell? ⟨gb714, 2, none⟩ = some (.slice A0_2 l0_2.length c0_2) := (blk_cell BK714.out 2).trans rfl; have hfz27_0 := blk_frozen BK714.out 0; have hfz27_1 := blk_frozen BK714.out 1; have hfz27_2 := blk_frozen BK714.out 2) | ((with_reducible refine gate_callee (f := 51) rfl ?_); refine goesL_ (some 24) rfl rfl Try.func51 (by kernel_rfl) rfl #[.agg #[.slice A0_0 l0_0.length c0_0, .slice A0_1 l0_1.length c0_1, .slice A0_2 l0_2.length c0_2], .int .i64 t717] rfl (by (try simp only [List.map_toArray, List.map_cons, List.map_nil]); first | done | rfl | (simp only [List.length_drop, List.length_take]; rfl)) ?_; (with_reducible refine (spec_l1step.calls k _ _ l0_0 _ _ l0_1 _ _ l0_2 t717 t719 t722 t725 _ ?side1 ?side2 ?side3 ?side4 ?side5 ?side6 A17.out).mono ?_); (case side1 => repeat (first | exact (Kd.C_below HR0_0.out HB.out) | (with_reducible refine Kd.C_alloc ?_ _) | (with_reducible refine Kd.C_drewN ?_ _) | (with_reducible refine Kd.C_drew ?_))); (case side2 => exact HC0_0.out); (case side3 => repeat (first | exact (Kd.C_below HR0_1.out HB.out) | (with_reducible refine Kd.C_alloc ?_ _) | (with_reducible refine Kd.C_drewN ?_ _) | (with_reducible refine Kd.C_drew ?_))); (case side4 => exact HC0_1.out); (case side5 => repeat (first | exact (Kd.C_below HR0_2.out HB.out) | (with_reducible refine Kd.C_alloc ?_ _) | (with_reducible refine Kd.C_drewN ?_ _) | (with_reducible refine Kd.C_drew ?_))); (case side6 => exact HC0_2.out); rintro e w28 ⟨v720, v723, v726, rfl, ho0, ho1, ho2, hb⟩; refine ⟨_, rfl, ?_⟩; have n0_ := Aside0.mk (Kd.R_lower (Kd.R_newM (M := fun k_ => (w.heap.size ≤ k_)) (Kd.R_mono (ok' := fun k_ => some k_ ≠ (v726 : Value).ownBlock) ho0 (fun _ hk_ => hk_.2)) (below_size (by exact HB.out)) (fun k_ h_ => h_)) (below_size (by exact HB.out))); have n1_ := Aside0.mk (Kd.N_lower (Kd.N_mono (ok' := fun k_ => (w.heap.size ≤ k_) ∧ some k_ ≠ (v720 : Value).ownBlock ∧ some k_ ≠ (v726 : Value).ownBlock ∧ k_ ≠ gb714 ∧ k_ ≠ gb715) ho1 (fun k_ hk_ => ⟨(Nat.le_trans (below_size (by exact HB.out)) hk_.1), hk_.2.1, hk_.2.2, (Kd.freshB (g := gb714) (o := .cells #[.slice A0_0 l0_0.length c0_0, .slice A0_1 l0_1.length c0_1, .slice A0_2 l0_2.length c0_2] 31 (0, 0)) (by exact BK714.out) k_ hk_.1), (Kd.freshB (g := gb715) (o := .cells #[.slice none 0 0, .slice none 0 0, .slice none 0 0] 31 (0, 0)) (by exact BK715.out) k_ hk_.1)⟩)) (below_size (by exact HB.out))); have n2_ := Aside0.mk (Kd.R_lower (Kd.R_newM (M := fun k_ => (w.heap.size ≤ k_)) (Kd.R_mono (ok' := fun k_ => some k_ ≠ (v720 : Value).ownBlock) ho2 (fun _ hk_ => hk_.2)) (below_size (by exact HB.out)) (fun k_ h_ => h_)) (below_size (by exact HB.out))); have n3_ := Aside0.mk (blk_below (g := gb714) (o := .cells #[.slice A0_0 l0_0.length c0_0, .slice A0_1 l0_1.length c0_1, .slice A0_2 l0_2.length c0_2] 31 (0, 0)) (by exact BK714.out) hb); have n4_ := Aside0.mk (blk_below (g := gb715) (o := .cells #[.slice none 0 0, .slice none 0 0, .slice none 0 0] 31 (0, 0)) (by exact BK715.out) hb); have n5_ := Aside0.mk (below_step (by exact HB.out) hb); clear BK714; clear BK715; clear HB; have HO721 := n0_; have HO724 := n1_; have HO727 := n2_; have BK714 := n3_; have BK715 := n4_; have HB := n5_; clear n0_ n1_ n2_ n3_ n4_ n5_; (try clear hb); (try clear hb2); (try clear hk); (try clear hi); (try clear ho0); (try clear ho1); (try clear ho2); obtain ⟨Ao29, co29, eo29⟩ := Kd.R_slice HO721.out; subst eo29; have hcz30_0 : w28.cell? ⟨gb715, 0, none⟩ = some (.slice none 0 0) := (blk_cell BK715.out 0).trans rfl; have hcz30_1 : w28.cell? ⟨gb715, 1, none⟩ = some (.slice none 0 0) := (blk_cell BK715.out 1).trans rfl; have hcz30_2 : w28.cell? ⟨gb715, 2, none⟩ = some (.slice none 0 0) := (blk_cell BK715.out 2).trans rfl; have hfz30_0 := blk_frozen BK715.out 0; have hfz30_1 := blk_frozen BK715.out 1; have hfz30_2 := blk_frozen BK715.out 2; obtain ⟨Ao31, co31, eo31⟩ := Kd.N_slice HO724.out; subst eo31; obtain ⟨Ao32, co32, eo32⟩ := Kd.R_slice HO727.out; subst eo32))
    refine bodyPost_ret (results_cell_row rfl _ _ gb715 31 #[.slice Ao29 t719.length co29, .slice Ao31 t722.length co31, .slice Ao32 t725.length co32] (0, 0) _ rfl (by refine blk_put (cs := #[.slice Ao29 t719.length co29, .slice Ao31 t722.length co31, .slice none 0 0]) ?_ 2 _ rfl; refine blk_put (cs := #[.slice Ao29 t719.length co29, .slice none 0 0, .slice none 0 0]) ?_ 1 _ rfl; refine blk_put (cs := #[.slice none 0 0, .slice none 0 0, .slice none 0 0]) ?_ 0 _ rfl; exact BK715.out) Try.underlying31 rfl (by kernel_rfl)) rfl ?_
    exact ⟨_, _, _, by first | rfl | (simp [errW_none, errW_some] <;> rfl) | (simp [*, errW_none, errW_some] <;> rfl), by exact Kd.R_mono (Kd.R_far (p := ⟨gb715, 2, none⟩) (Kd.R_far (p := ⟨gb715, 1, none⟩) (Kd.R_far (p := ⟨gb715, 0, none⟩) (Kd.R_types HO721.out BK715.out (by decide)) (fun _ hk => hk.2) (.slice Ao29 t719.length co29)) (fun _ hk => hk.2) (.slice Ao31 t722.length co31)) (fun _ hk => hk.2) (.slice Ao32 t725.length co32)) (fun _ hk => ⟨hk.1.1, hk.1.2⟩), by exact Kd.N_mono (Kd.N_far (p := ⟨gb715, 2, none⟩) (Kd.N_far (p := ⟨gb715, 1, none⟩) (Kd.N_far (p := ⟨gb715, 0, none⟩) (Kd.N_mono HO724.out (fun k_ hk => (⟨hk, hk.2.2.2.2⟩ : _ ∧ k_ ≠ gb715))) (fun _ hk => hk.2) (.slice Ao29 t719.length co29)) (fun _ hk => hk.2) (.slice Ao31 t722.length co31)) (fun _ hk => hk.2) (.slice Ao32 t725.length co32)) (fun _ hk => ⟨hk.1.1, ⟨hk.1.2.1, hk.1.2.2.1⟩⟩), by exact Kd.R_mono (Kd.R_far (p := ⟨gb715, 2, none⟩) (Kd.R_far (p := ⟨gb715, 1, none⟩) (Kd.R_far (p := ⟨gb715, 0, none⟩) (Kd.R_types HO727.out BK715.out (by decide)) (fun _ hk => hk.2) (.slice Ao29 t719.length co29)) (fun _ hk => hk.2) (.slice Ao31 t722.length co31)) (fun _ hk => hk.2) (.slice Ao32 t725.length co32)) (fun _ hk => ⟨hk.1.1, hk.1.2⟩), by repeat (first | (with_reducible first | exact HB.out | apply below_alloc | apply pw_below_drewN | apply below_drew1 | refine below_set ?_ GE714.out | refine below_set ?_ GE715.out) | exact HB.out)⟩
   ·replace c16 := Bool.eq_false_iff.mpr c16
    subst c16
    have H1 : (some (([] : List Int), ([] : List (S49)), ([] : List Int))) = some (r1, r2, r3) := by rw [if_neg (show ¬ (false = true) by decide)] at H; exact H
    clear H
    have H := H1
    clear H1
    simp only [Option.some.injEq, Prod.mk.injEq] at H
    obtain ⟨rfl, rfl, rfl⟩ := H
    go_enter Try.func34, Try.ntmps34
    go_wp2_with (first | ((with_reducible refine gate_dst (N := 2) rfl ?_); refine box_event ?hg (N := 2) ?hd (cs := #[.slice A0_0 l0_0.length c0_0, .slice A0_1 l0_1.length c0_1, .slice A0_2 l0_2.length c0_2]) (t := 31) ?hr ?_; (case hd => rfl); (case hg => rfl); (case hr => first | (go_simp; done) | (go_simp; rfl)); intro gb714 hg w33 hbox hb; have n0_ := Aside0.mk (below_step (by exact HB.out) hb); have n1_ := Aside0.mk (hbox); have n2_ := Aside0.mk ((by rw [hg]; exact (below_size (by exact HB.out)) : w.heap.size ≤ gb714)); have n3_ := Aside0.mk ((by rw [hg]; exact (below_size (by exact HB.out)) : w.heap.size ≤ gb714)); clear HB; have HB := n0_; have BK714 := n1_; have GW714 := n2_; have GE714 := n3_; clear n0_ n1_ n2_ n3_; clear hb hbox hg) | ((with_reducible refine gate_dst (N := 4) rfl ?_); refine box_event ?hg (N := 4) ?hd (cs := #[.slice none 0 0, .slice none 0 0, .slice none 0 0]) (t := 31) ?hr ?_; (case hd => rfl); (case hg => rfl); (case hr => first | (go_simp; done) | (go_simp; rfl)); intro gb715 hg w34 hbox hb; have n0_ := Aside0.mk (blk_below (g := gb714) (o := .cells #[.slice A0_0 l0_0.length c0_0, .slice A0_1 l0_1.length c0_1, .slice A0_2 l0_2.length c0_2] 31 (0, 0)) (by exact BK714.out) hb); have n1_ := Aside0.mk (below_step (by exact HB.out) hb); have n2_ := Aside0.mk (hbox); have n3_ := Aside0.mk ((by rw [hg]; exact (below_size (by exact HB.out)) : w.heap.size ≤ gb715)); have n4_ := Aside0.mk ((by rw [hg]; exact (below_size (by exact HB.out)) : w.heap.size ≤ gb715)); have n5_ := Aside0.mk ((by rw [hg]; exact Nat.ne_of_lt (blk_lt (g := gb714) (o := .cells #[.slice A0_0 l0_0.length c0_0, .slice A0_1 l0_1.length c0_1, .slice A0_2 l0_2.length c0_2] 31 (0, 0)) (by exact BK714.out)) : gb714 ≠ gb715)); have n6_ := Aside0.mk ((by rw [hg]; exact Nat.ne_of_gt (blk_lt (g := gb714) (o := .cells #[.slice A0_0 l0_0.length c0_0, .slice A0_1 l0_1.length c0_1, .slice A0_2 l0_2.length c0_2] 31 (0, 0)) (by exact BK714.out)) : gb715 ≠ gb714)); clear BK714; clear HB; have BK714 := n0_; have HB := n1_; have BK715 := n2_; have GW715 := n3_; have GE715 := n4_; have NB714_715 := n5_; have NB715_714 := n6_; clear n0_ n1_ n2_ n3_ n4_ n5_ n6_; clear hb hbox hg; have hnb35 := NB714_715.out; have hnc35 := NB715_714.out; have hcz36_0 : w34.cell? ⟨gb714, 0, none⟩ = some (.slice A0_0 l0_0.length c0_0) := (blk_cell BK714.out 0).trans rfl; have hcz36_1 : w34.cell? ⟨gb714, 1, none⟩ = some (.slice A0_1 l0_1.length c0_1) := (blk_cell BK714.out 1).trans rfl; have hcz36_2 : w34.cell? ⟨gb714, 2, none⟩ = some (.slice A0_2 l0_2.length c0_2) := (blk_cell BK714.out 2).trans rfl; have hfz36_0 := blk_frozen BK714.out 0; have hfz36_1 := blk_frozen BK714.out 1; have hfz36_2 := blk_frozen BK714.out 2) | ((with_reducible refine gate_callee (f := 13) rfl ?_); refine goesL_ (some 7) rfl rfl Try.func13 (by kernel_rfl) rfl #[.agg #[.slice A0_0 l0_0.length c0_0, .slice A0_1 l0_1.length c0_1, .slice A0_2 l0_2.length c0_2]] rfl (by (try simp only [List.map_toArray, List.map_cons, List.map_nil]); first | done | rfl | (simp only [List.length_drop, List.length_take]; rfl)) ?_; (with_reducible refine (spec_StateOk.calls k _ _ l0_0 _ _ l0_1 _ _ l0_2 t716 _ ?side1 ?side2 ?side3 ?side4 ?side5 ?side6 A3.out).mono ?_); (case side1 => repeat (first | exact (Kd.C_below HR0_0.out HB.out) | (with_reducible refine Kd.C_alloc ?_ _) | (with_reducible refine Kd.C_drewN ?_ _) | (with_reducible refine Kd.C_drew ?_))); (case side2 => exact HC0_0.out); (case side3 => repeat (first | exact (Kd.C_below HR0_1.out HB.out) | (with_reducible refine Kd.C_alloc ?_ _) | (with_reducible refine Kd.C_drewN ?_ _) | (with_reducible refine Kd.C_drew ?_))); (case side4 => exact HC0_1.out); (case side5 => repeat (first | exact (Kd.C_below HR0_2.out HB.out) | (with_reducible refine Kd.C_alloc ?_ _) | (with_reducible refine Kd.C_drewN ?_ _) | (with_reducible refine Kd.C_drew ?_))); (case side6 => exact HC0_2.out); rintro e w37 ⟨rfl, hb⟩; refine ⟨_, rfl, ?_⟩; have n0_ := Aside0.mk (blk_below (g := gb714) (o := .cells #[.slice A0_0 l0_0.length c0_0, .slice A0_1 l0_1.length c0_1, .slice A0_2 l0_2.length c0_2] 31 (0, 0)) (by exact BK714.out) hb); have n1_ := Aside0.mk (blk_below (g := gb715) (o := .cells #[.slice none 0 0, .slice none 0 0, .slice none 0 0] 31 (0, 0)) (by exact BK715.out) hb); have n2_ := Aside0.mk (below_step (by exact HB.out) hb); clear BK714; clear BK715; clear HB; have BK714 := n0_; have BK715 := n1_; have HB := n2_; clear n0_ n1_ n2_; (try clear hb); (try clear hb2); (try clear hk); (try clear hi); have hcz38_0 : w37.cell? ⟨gb714, 0, none⟩ = some (.slice A0_0 l0_0.length c0_0) := (blk_cell BK714.out 0).trans rfl; have hcz38_1 : w37.cell? ⟨gb714, 1, none⟩ = some (.slice A0_1 l0_1.length c0_1) := (blk_cell BK714.out 1).trans rfl; have hcz38_2 : w37.cell? ⟨gb714, 2, none⟩ = some (.slice A0_2 l0_2.length c0_2) := (blk_cell BK714.out 2).trans rfl; have hfz38_0 := blk_frozen BK714.out 0; have hfz38_1 := blk_frozen BK714.out 1; have hfz38_2 := blk_frozen BK714.out 2) | ((with_reducible refine gate_callee (f := 47) rfl ?_); refine goesL_ (some 12) rfl rfl Try.func47 (by kernel_rfl) rfl #[.agg #[.slice A0_0 l0_0.length c0_0, .slice A0_1 l0_1.length c0_1, .slice A0_2 l0_2.length c0_2], .int .i64 a1] rfl (by (try simp only [List.map_toArray, List.map_cons, List.map_nil]); first | done | rfl | (simp only [List.length_drop, List.length_take]; rfl)) ?_; (with_reducible refine (spec_l1name.calls k _ _ l0_0 _ _ l0_1 _ _ l0_2 a1 t717 _ ?side1 ?side2 ?side3 ?side4 ?side5 ?side6 A5.out).mono ?_); (case side1 => repeat (first | exact (Kd.C_below HR0_0.out HB.out) | (with_reducible refine Kd.C_alloc ?_ _) | (with_reducible refine Kd.C_drewN ?_ _) | (with_reducible refine Kd.C_drew ?_))); (case side2 => exact HC0_0.out); (case side3 => repeat (first | exact (Kd.C_below HR0_1.out HB.out) | (with_reducible refine Kd.C_alloc ?_ _) | (with_reducible refine Kd.C_drewN ?_ _) | (with_reducible refine Kd.C_drew ?_))); (case side4 => exact HC0_1.out); (case side5 => repeat (first | exact (Kd.C_below HR0_2.out HB.out) | (with_reducible refine Kd.C_alloc ?_ _) | (with_reducible refine Kd.C_drewN ?_ _) | (with_reducible refine Kd.C_drew ?_))); (case side6 => exact HC0_2.out); rintro e w39 ⟨rfl, hb⟩; refine ⟨_, rfl, ?_⟩; have n0_ := Aside0.mk (blk_below (g := gb714) (o := .cells #[.slice A0_0 l0_0.length c0_0, .slice A0_1 l0_1.length c0_1, .slice A0_2 l0_2.length c0_2] 31 (0, 0)) (by exact BK714.out) hb); have n1_ := Aside0.mk (blk_below (g := gb715) (o := .cells #[.slice none 0 0, .slice none 0 0, .slice none 0 0] 31 (0, 0)) (by exact BK715.out) hb); have n2_ := Aside0.mk (below_step (by exact HB.out) hb); clear BK714; clear BK715; clear HB; have BK714 := n0_; have BK715 := n1_; have HB := n2_; clear n0_ n1_ n2_; (try clear hb); (try clear hb2); (try clear hk); (try clear hi); have hcz40_0 : w39.cell? ⟨gb714, 0, none⟩ = some (.slice A0_0 l0_0.length c0_0) := (blk_cell BK714.out 0).trans rfl; have hcz40_1 : w39.cell? ⟨gb714, 1, none⟩ = some (.slice A0_1 l0_1.length c0_1) := (blk_cell BK714.out 1).trans rfl; have hcz40_2 : w39.cell? ⟨gb714, 2, none⟩ = some (.slice A0_2 l0_2.length c0_2) := (blk_cell BK714.out 2).trans rfl; have hfz40_0 := blk_frozen BK714.out 0; have hfz40_1 := blk_frozen BK714.out 1; have hfz40_2 := blk_frozen BK714.out 2) | (go_at_call 44; (with_reducible refine (spec_l1can.calls k _ _ l0_0 _ _ l0_1 _ _ l0_2 t717 false _ ?side1 ?side2 ?side3 ?side4 ?side5 ?side6 A15.out).mono ?_); (case side1 => repeat (first | exact (Kd.C_below HR0_0.out HB.out) | (with_reducible refine Kd.C_alloc ?_ _) | (with_reducible refine Kd.C_drewN ?_ _) | (with_reducible refine Kd.C_drew ?_))); (case side2 => exact HC0_0.out); (case side3 => repeat (first | exact (Kd.C_below HR0_1.out HB.out) | (with_reducible refine Kd.C_alloc ?_ _) | (with_reducible refine Kd.C_drewN ?_ _) | (with_reducible refine Kd.C_drew ?_))); (case side4 => exact HC0_1.out); (case side5 => repeat (first | exact (Kd.C_below HR0_2.out HB.out) | (with_reducible refine Kd.C_alloc ?_ _) | (with_reducible refine Kd.C_drewN ?_ _) | (with_reducible refine Kd.C_drew ?_))); (case side6 => exact HC0_2.out); rintro e w41 ⟨rfl, hb⟩; have n0_ := Aside0.mk (blk_below (g := gb714) (o := .cells #[.slice A0_0 l0_0.length c0_0, .slice A0_1 l0_1.length c0_1, .slice A0_2 l0_2.length c0_2] 31 (0, 0)) (by exact BK714.out) hb); have n1_ := Aside0.mk (blk_below (g := gb715) (o := .cells #[.slice none 0 0, .slice none 0 0, .slice none 0 0] 31 (0, 0)) (by exact BK715.out) hb); have n2_ := Aside0.mk (below_step (by exact HB.out) hb); clear BK714; clear BK715; clear HB; have BK714 := n0_; have BK715 := n1_; have HB := n2_; clear n0_ n1_ n2_; (try clear hb); (try clear hb2); (try clear hk); (try clear hi); have hcz42_0 : w41.cell? ⟨gb715, 0, none⟩ = some (.slice none 0 0) := (blk_cell BK715.out 0).trans rfl; have hcz42_1 : w41.cell? ⟨gb715, 1, none⟩ = some (.slice none 0 0) := (blk_cell BK715.out 1).trans rfl; have hcz42_2 : w41.cell? ⟨gb715, 2, none⟩ = some (.slice none 0 0) := (blk_cell BK715.out 2).trans rfl; have hfz42_0 := blk_frozen BK715.out 0; have hfz42_1 := blk_frozen BK715.out 1; have hfz42_2 := blk_frozen BK715.out 2))
    refine bodyPost_ret (results_cell_row rfl _ _ gb715 31 #[.slice none 0 0, .slice none 0 0, .slice none 0 0] (0, 0) _ rfl (by refine blk_put (cs := #[.slice none 0 0, .slice none 0 0, .slice none 0 0]) ?_ 2 _ rfl; refine blk_put (cs := #[.slice none 0 0, .slice none 0 0, .slice none 0 0]) ?_ 1 _ rfl; refine blk_put (cs := #[.slice none 0 0, .slice none 0 0, .slice none 0 0]) ?_ 0 _ rfl; exact BK715.out) Try.underlying31 rfl (by kernel_rfl)) rfl ?_
    exact ⟨_, _, _, by first | rfl | (simp [errW_none, errW_some] <;> rfl) | (simp [*, errW_none, errW_some] <;> rfl), by first | exact Kd.R_nil _ _ _ _ _ | exact Kd.N_nil _ _ _ _ _ | exact Kd.V_nil _ _ _ _ _ | exact Kd.Q_nil _ _ _ _ _ | exact Kd.S_nil _ _ _ _ _, by first | exact Kd.S_nil _ _ _ _ _ | exact Kd.N_nil _ _ _ _ _ | exact Kd.V_nil _ _ _ _ _ | exact Kd.Q_nil _ _ _ _ _ | exact Kd.R_nil _ _ _ _ _, by first | exact Kd.R_nil _ _ _ _ _ | exact Kd.N_nil _ _ _ _ _ | exact Kd.V_nil _ _ _ _ _ | exact Kd.Q_nil _ _ _ _ _ | exact Kd.S_nil _ _ _ _ _, by repeat (first | (with_reducible first | exact HB.out | apply below_alloc | apply pw_below_drewN | apply below_drew1 | refine below_set ?_ GE714.out | refine below_set ?_ GE715.out) | exact HB.out)⟩
 ·rw [if_neg c4] at H
  have c4b0 : (t716 == 0) = false := beq_eq_false_iff_ne.mpr c4
  have c4b1 : (t716 != 0) = true := bne_iff_ne.mpr c4
  simp only [Option.some.injEq, Prod.mk.injEq] at H
  obtain ⟨rfl, rfl, rfl⟩ := H
  go_enter Try.func34, Try.ntmps34
  go_wp2_with (first | ((with_reducible refine gate_dst (N := 2) rfl ?_); refine box_event ?hg (N := 2) ?hd (cs := #[.slice A0_0 l0_0.length c0_0, .slice A0_1 l0_1.length c0_1, .slice A0_2 l0_2.length c0_2]) (t := 31) ?hr ?_; (case hd => rfl); (case hg => rfl); (case hr => first | (go_simp; done) | (go_simp; rfl)); intro gb714 hg w43 hbox hb; have n0_ := Aside0.mk (below_step (by exact HB.out) hb); have n1_ := Aside0.mk (hbox); have n2_ := Aside0.mk ((by rw [hg]; exact (below_size (by exact HB.out)) : w.heap.size ≤ gb714)); have n3_ := Aside0.mk ((by rw [hg]; exact (below_size (by exact HB.out)) : w.heap.size ≤ gb714)); clear HB; have HB := n0_; have BK714 := n1_; have GW714 := n2_; have GE714 := n3_; clear n0_ n1_ n2_ n3_; clear hb hbox hg) | ((with_reducible refine gate_dst (N := 4) rfl ?_); refine box_event ?hg (N := 4) ?hd (cs := #[.slice none 0 0, .slice none 0 0, .slice none 0 0]) (t := 31) ?hr ?_; (case hd => rfl); (case hg => rfl); (case hr => first | (go_simp; done) | (go_simp; rfl)); intro gb715 hg w44 hbox hb; have n0_ := Aside0.mk (blk_below (g := gb714) (o := .cells #[.slice A0_0 l0_0.length c0_0, .slice A0_1 l0_1.length c0_1, .slice A0_2 l0_2.length c0_2] 31 (0, 0)) (by exact BK714.out) hb); have n1_ := Aside0.mk (below_step (by exact HB.out) hb); have n2_ := Aside0.mk (hbox); have n3_ := Aside0.mk ((by rw [hg]; exact (below_size (by exact HB.out)) : w.heap.size ≤ gb715)); have n4_ := Aside0.mk ((by rw [hg]; exact (below_size (by exact HB.out)) : w.heap.size ≤ gb715)); have n5_ := Aside0.mk ((by rw [hg]; exact Nat.ne_of_lt (blk_lt (g := gb714) (o := .cells #[.slice A0_0 l0_0.length c0_0, .slice A0_1 l0_1.length c0_1, .slice A0_2 l0_2.length c0_2] 31 (0, 0)) (by exact BK714.out)) : gb714 ≠ gb715)); have n6_ := Aside0.mk ((by rw [hg]; exact Nat.ne_of_gt (blk_lt (g := gb714) (o := .cells #[.slice A0_0 l0_0.length c0_0, .slice A0_1 l0_1.length c0_1, .slice A0_2 l0_2.length c0_2] 31 (0, 0)) (by exact BK714.out)) : gb715 ≠ gb714)); clear BK714; clear HB; have BK714 := n0_; have HB := n1_; have BK715 := n2_; have GW715 := n3_; have GE715 := n4_; have NB714_715 := n5_; have NB715_714 := n6_; clear n0_ n1_ n2_ n3_ n4_ n5_ n6_; clear hb hbox hg; have hnb45 := NB714_715.out; have hnc45 := NB715_714.out; have hcz46_0 : w44.cell? ⟨gb714, 0, none⟩ = some (.slice A0_0 l0_0.length c0_0) := (blk_cell BK714.out 0).trans rfl; have hcz46_1 : w44.cell? ⟨gb714, 1, none⟩ = some (.slice A0_1 l0_1.length c0_1) := (blk_cell BK714.out 1).trans rfl; have hcz46_2 : w44.cell? ⟨gb714, 2, none⟩ = some (.slice A0_2 l0_2.length c0_2) := (blk_cell BK714.out 2).trans rfl; have hfz46_0 := blk_frozen BK714.out 0; have hfz46_1 := blk_frozen BK714.out 1; have hfz46_2 := blk_frozen BK714.out 2) | ((with_reducible refine gate_callee (f := 13) rfl ?_); refine goesL_ (some 7) rfl rfl Try.func13 (by kernel_rfl) rfl #[.agg #[.slice A0_0 l0_0.length c0_0, .slice A0_1 l0_1.length c0_1, .slice A0_2 l0_2.length c0_2]] rfl (by (try simp only [List.map_toArray, List.map_cons, List.map_nil]); first | done | rfl | (simp only [List.length_drop, List.length_take]; rfl)) ?_; (with_reducible refine (spec_StateOk.calls k _ _ l0_0 _ _ l0_1 _ _ l0_2 t716 _ ?side1 ?side2 ?side3 ?side4 ?side5 ?side6 A3.out).mono ?_); (case side1 => repeat (first | exact (Kd.C_below HR0_0.out HB.out) | (with_reducible refine Kd.C_alloc ?_ _) | (with_reducible refine Kd.C_drewN ?_ _) | (with_reducible refine Kd.C_drew ?_))); (case side2 => exact HC0_0.out); (case side3 => repeat (first | exact (Kd.C_below HR0_1.out HB.out) | (with_reducible refine Kd.C_alloc ?_ _) | (with_reducible refine Kd.C_drewN ?_ _) | (with_reducible refine Kd.C_drew ?_))); (case side4 => exact HC0_1.out); (case side5 => repeat (first | exact (Kd.C_below HR0_2.out HB.out) | (with_reducible refine Kd.C_alloc ?_ _) | (with_reducible refine Kd.C_drewN ?_ _) | (with_reducible refine Kd.C_drew ?_))); (case side6 => exact HC0_2.out); rintro e w47 ⟨rfl, hb⟩; refine ⟨_, rfl, ?_⟩; have n0_ := Aside0.mk (blk_below (g := gb714) (o := .cells #[.slice A0_0 l0_0.length c0_0, .slice A0_1 l0_1.length c0_1, .slice A0_2 l0_2.length c0_2] 31 (0, 0)) (by exact BK714.out) hb); have n1_ := Aside0.mk (blk_below (g := gb715) (o := .cells #[.slice none 0 0, .slice none 0 0, .slice none 0 0] 31 (0, 0)) (by exact BK715.out) hb); have n2_ := Aside0.mk (below_step (by exact HB.out) hb); clear BK714; clear BK715; clear HB; have BK714 := n0_; have BK715 := n1_; have HB := n2_; clear n0_ n1_ n2_; (try clear hb); (try clear hb2); (try clear hk); (try clear hi); have hcz48_0 : w47.cell? ⟨gb715, 0, none⟩ = some (.slice none 0 0) := (blk_cell BK715.out 0).trans rfl; have hcz48_1 : w47.cell? ⟨gb715, 1, none⟩ = some (.slice none 0 0) := (blk_cell BK715.out 1).trans rfl; have hcz48_2 : w47.cell? ⟨gb715, 2, none⟩ = some (.slice none 0 0) := (blk_cell BK715.out 2).trans rfl; have hfz48_0 := blk_frozen BK715.out 0; have hfz48_1 := blk_frozen BK715.out 1; have hfz48_2 := blk_frozen BK715.out 2))
  refine bodyPost_ret (results_cell_row rfl _ _ gb715 31 #[.slice none 0 0, .slice none 0 0, .slice none 0 0] (0, 0) _ rfl (by refine blk_put (cs := #[.slice none 0 0, .slice none 0 0, .slice none 0 0]) ?_ 2 _ rfl; refine blk_put (cs := #[.slice none 0 0, .slice none 0 0, .slice none 0 0]) ?_ 1 _ rfl; refine blk_put (cs := #[.slice none 0 0, .slice none 0 0, .slice none 0 0]) ?_ 0 _ rfl; exact BK715.out) Try.underlying31 rfl (by kernel_rfl)) rfl ?_
  exact ⟨_, _, _, by first | rfl | (simp [errW_none, errW_some] <;> rfl) | (simp [*, errW_none, errW_some] <;> rfl), by first | exact Kd.R_nil _ _ _ _ _ | exact Kd.N_nil _ _ _ _ _ | exact Kd.V_nil _ _ _ _ _ | exact Kd.Q_nil _ _ _ _ _ | exact Kd.S_nil _ _ _ _ _, by first | exact Kd.S_nil _ _ _ _ _ | exact Kd.N_nil _ _ _ _ _ | exact Kd.V_nil _ _ _ _ _ | exact Kd.Q_nil _ _ _ _ _ | exact Kd.R_nil _ _ _ _ _, by first | exact Kd.R_nil _ _ _ _ _ | exact Kd.N_nil _ _ _ _ _ | exact Kd.V_nil _ _ _ _ _ | exact Kd.Q_nil _ _ _ _ _ | exact Kd.S_nil _ _ _ _ _, by repeat (first | (with_reducible first | exact HB.out | apply below_alloc | apply pw_below_drewN | apply below_drew1 | refine below_set ?_ GE714.out | refine below_set ?_ GE715.out) | exact HB.out)⟩


/-! ### impl_Step: function 35 -/
def impl_Step.f (k : Nat) (l0_0 : List Int) (l0_1 : List (S49)) (l0_2 : List Int) (a1 : Int) : Option (List Int × (List (S49)) × List Int) := (impl_StateOk.f k l0_0 l0_1 l0_2).bind fun t730 => (if t730 = 0 then ((impl_find.f k l0_0 l0_1 l0_2 a1).bind fun t731 => (if t731 < 0 then (some (([] : List Int), ([] : List (S49)), ([] : List Int))) else ((impl_can.f k l0_0 l0_1 l0_2 t731).bind fun t732 => (if t732 = true then ((impl_step.f k l0_0 l0_1 l0_2 t731).bind fun bt733 => (some (bt733.1, bt733.2.1, bt733.2.2))) else (some (([] : List Int), ([] : List (S49)), ([] : List Int))))))) else (some (([] : List Int), ([] : List (S49)), ([] : List Int))))
theorem impl_Step.mono : ∀ a0 a1 a2 a3 k, LeO (impl_Step.f k a0 a1 a2 a3) (impl_Step.f (k + 1) a0 a1 a2 a3) := by
 intro a0 a1 a2 a3 k
 unfold impl_Step.f
 repeat' first
   | (with_reducible exact impl_StateOk.mono _ _ _ _)
   | (with_reducible exact impl_can.mono _ _ _ _ _)
   | (with_reducible exact impl_find.mono _ _ _ _ _)
   | (with_reducible exact impl_step.mono _ _ _ _ _)
   | (with_reducible exact LeO.refl _)
   | (with_reducible exact LeO.none _)
   | (with_reducible refine LeO.ite ?_ ?_)
   | (with_reducible refine LeO.bind ?_ (fun _ => ?_))
   | exact impl_StateOk.mono _ _ _ _
   | exact impl_can.mono _ _ _ _ _
   | exact impl_find.mono _ _ _ _ _
   | exact impl_step.mono _ _ _ _ _
   | exact LeO.none _
   | refine LeO.ite ?_ ?_
   | refine LeO.bind ?_ (fun _ => ?_)

/-! ### laws_heldTrainS: function 55 -/
def laws_heldTrainS.l0 : Nat → List (S49) → Int → Int → Option (Int)
 | 0, _, _, _ => none
 | k + 1, x0, x1, x5 => if x5 < (x0.length : Int) then (if 0 ≤ x5 then (if ((rd_T49 x0 x5).f0) = x1 then ((laws_heldIntS.f k ((rd_T49 x0 x5).f1) (wrap64 (x1 + 1))).bind fun t744 => (if t744 < 0 then (some (-1)) else (if ((rd_T49 x0 x5).f2) = t744 then (laws_heldTrainS.l0 k x0 (wrap64 (t744 + 1)) (wrap64 (x5 + 1))) else (some (-1))))) else (some (-1))) else (none)) else (some x1)
def laws_heldTrainS.f (k : Nat) (l0 : List (S49)) (a1 : Int) : Option (Int) := laws_heldTrainS.l0 k l0 a1 0
theorem laws_heldTrainS.mono_l : ∀ k, (∀ y0 y1 y2, LeO (laws_heldTrainS.l0 k y0 y1 y2) (laws_heldTrainS.l0 (k + 1) y0 y1 y2))
 | 0 => fun _ _ _ r h => by simp [laws_heldTrainS.l0] at h
 | k + 1 => by
  have ih0 := laws_heldTrainS.mono_l k
  ·intro y0 y1 y2
   unfold laws_heldTrainS.l0
   repeat' first
   | (with_reducible exact ih0 _ _ _)
   | (with_reducible exact laws_heldIntS.mono _ _ _)
   | (with_reducible exact LeO.refl _)
   | (with_reducible exact LeO.none _)
   | (with_reducible refine LeO.ite ?_ ?_)
   | (with_reducible refine LeO.bind ?_ (fun _ => ?_))
   | exact ih0 _ _ _
   | exact laws_heldIntS.mono _ _ _
   | exact LeO.none _
   | refine LeO.ite ?_ ?_
   | refine LeO.bind ?_ (fun _ => ?_)
theorem laws_heldTrainS.mono : ∀ a0 a1 k, LeO (laws_heldTrainS.f k a0 a1) (laws_heldTrainS.f (k + 1) a0 a1) := by
 intro a0 a1 k
 have ih0 := laws_heldTrainS.mono_l k
 unfold laws_heldTrainS.f
 repeat' first
   | (with_reducible exact ih0 _ _ _)
   | (with_reducible exact laws_heldIntS.mono _ _ _)
   | (with_reducible exact LeO.refl _)
   | (with_reducible exact LeO.none _)
   | (with_reducible refine LeO.ite ?_ ?_)
   | (with_reducible refine LeO.bind ?_ (fun _ => ?_))
   | exact ih0 _ _ _
   | exact laws_heldIntS.mono _ _ _
   | exact LeO.none _
   | refine LeO.ite ?_ ?_
   | refine LeO.bind ?_ (fun _ => ?_)
set_option maxHeartbeats 8000000 in
set_option maxRecDepth 100000 in
theorem laws_heldTrainS.calls (k : Nat) (A0 : Option Addr) (c0 : Nat) (l0 : List (S49)) (a1 : Int) (r : Int) (w : World) (hr0 : Kd.C k49 w A0 l0.length l0) (hc0 : l0.length ≤ c0) (h : laws_heldTrainS.f k l0 a1 = some r) :
  Calls Try.prog 55 #[.slice A0 l0.length c0, .int .i64 a1] w fun e w' => e = .returned (.int .i64 r) ∧ Drawn0 w w' := by
 have HR0 := Aside0.mk hr0
 have HC0 := Aside0.mk hc0
 clear hr0 hc0
 have H : (laws_heldTrainS.l0 k l0 a1 0) = some r := h
 clear h
 have H' := Aside0.mk H
 clear H
 go_enter Try.func55, Try.ntmps55
 go_wp2
 go_loopg [1, 5] k (fun kq v1 v5 w' => ∃ (x1_1 : Int) (x5_1 : Int), v1 = .int .i64 x1_1 ∧ v5 = .int .i64 x5_1 ∧ Aside0 (laws_heldTrainS.l0 kq l0 x1_1 x5_1 = some r) ∧ Aside0 (kq ≤ k) ∧ Drawn0 w w')
 case atStart => exact ⟨(a1), (0), (by first | rfl | (simp; done) | (simp [*]; done)), (by first | rfl | (simp; done) | (simp [*]; done)), H', ⟨Nat.le_refl _⟩, by repeat (first | exact Drawn0.refl _ | apply Drawn0.step)⟩
 case round =>
  clear H'
  try clear p2
  obtain ⟨x1_1, x5_1, rfl, rfl, HA, HK1, ⟨m1, rfl⟩⟩ := hrel
  cases gk with
  | zero => exact absurd HA.out (by simp [laws_heldTrainS.l0])
  | succ k1 =>
   have H := HA.out
   clear HA
   simp only [laws_heldTrainS.l0] at H
   by_cases c3 : x5_1 < (l0.length : Int)
   ·rw [if_pos c3] at H
    have c3b0 : decide (x5_1 < (l0.length : Int)) = true := decide_eq_true c3
    clear c3
    by_cases c4 : 0 ≤ x5_1
    ·rw [if_pos c4] at H
     have c4b0 : decide (0 ≤ x5_1) = true := decide_eq_true c4
     clear c4
     by_cases c5 : ((rd_T49 l0 x5_1).f0) = x1_1
     ·rw [if_pos c5] at H
      have c5b0 : (((rd_T49 l0 x5_1).f0) == x1_1) = true := beq_iff_eq.mpr c5
      have c5b1 : (((rd_T49 l0 x5_1).f0) != x1_1) = false := bne_eq_false_iff_eq.mpr c5
      clear c5
      replace H := Option.bind_eq_some_iff.mp H
      obtain ⟨t744, A60, H⟩ := H
      replace H : (if t744 < 0 then (some (-1)) else (if ((rd_T49 l0 x5_1).f2) = t744 then (laws_heldTrainS.l0 k1 l0 (wrap64 (t744 + 1)) (wrap64 (x5_1 + 1))) else (some (-1)))) = some r := H
      have A6 := Aside0.mk A60
      clear A60
      by_cases c7 : t744 < 0
      ·rw [if_pos c7] at H
       have c7b0 : decide (t744 < 0) = true := decide_eq_true c7
       clear c7
       obtain rfl := Option.some.inj H
       have p742 : 0 ≤ (x5_1 : Int) := of_decide_eq_true (by assumption)
       have q742 : x5_1 < (l0.length : Int) := of_decide_eq_true (by assumption)
       obtain ⟨ad742, A742_1, c742_1, e742, hx742_0, hx742_1, hx742_2, hl742_1, hi742_1⟩ := at_T49 HR0.out x5_1 p742 q742
       cases e742
       have HR742_1 := Aside0.mk hi742_1
       have HC742_1 := Aside0.mk hl742_1
       clear hi742_1 hl742_1
       replace p742 := eq_true p742
       replace q742 := eq_true q742
       have p743 : 0 ≤ (x5_1 : Int) := of_decide_eq_true (by assumption)
       have q743 : x5_1 < (l0.length : Int) := of_decide_eq_true (by assumption)
       obtain ⟨ad743, A743_1, c743_1, e743, hx743_0, hx743_1, hx743_2, hl743_1, hi743_1⟩ := at_T49 HR0.out x5_1 p743 q743
       obtain rfl : ad742 = ad743 := (by injection e743)
       have HR743_1 := Aside0.mk hi743_1
       have HC743_1 := Aside0.mk hl743_1
       clear hi743_1 hl743_1
       replace p743 := eq_true p743
       replace q743 := eq_true q743
       have ea_ := Option.some.inj (hx742_1.symm.trans hx743_1)
       injection ea_ with ea_ en_ ec_
       subst ea_
       subst ec_
       clear en_
       go_wp2_with (first | ((with_reducible refine gate_callee (f := 26) rfl ?_); refine goesL_ (some 27) rfl rfl Try.func26 (by kernel_rfl) rfl #[.slice A742_1 ((rd_T49 l0 x5_1).f1).length c742_1, .int .i64 (wrap64 (x1_1 + 1))] rfl (by (try simp only [List.map_toArray, List.map_cons, List.map_nil]); first | done | rfl | (simp only [List.length_drop, List.length_take]; rfl)) ?_; (with_reducible refine (laws_heldIntS.calls k1 _ _ ((rd_T49 l0 x5_1).f1) (wrap64 (x1_1 + 1)) t744 _ ?side1 ?side2 A6.out).mono ?_); (case side1 => repeat (first | exact HR743_1.out | (with_reducible refine Kd.C_alloc ?_ _) | (with_reducible refine Kd.C_drewN ?_ _) | (with_reducible refine Kd.C_drew ?_))); (case side2 => exact HC743_1.out); rintro e w' ⟨rfl, ⟨nd, rfl⟩⟩; refine ⟨_, rfl, ?_⟩))
       go_ret
       exact ⟨by first | rfl | (simp; done) | (simp [*]; done), by repeat (first | exact Drawn0.refl _ | apply Drawn0.step)⟩
      ·rw [if_neg c7] at H
       have c7b0 : decide (t744 < 0) = false := decide_eq_false c7
       clear c7
       by_cases c8 : ((rd_T49 l0 x5_1).f2) = t744
       ·rw [if_pos c8] at H
        have c8b0 : (((rd_T49 l0 x5_1).f2) == t744) = true := beq_iff_eq.mpr c8
        have c8b1 : (((rd_T49 l0 x5_1).f2) != t744) = false := bne_eq_false_iff_eq.mpr c8
        clear c8
        have H' := Aside0.mk H
        clear H
        have p742 : 0 ≤ (x5_1 : Int) := of_decide_eq_true (by assumption)
        have q742 : x5_1 < (l0.length : Int) := of_decide_eq_true (by assumption)
        obtain ⟨ad742, A742_1, c742_1, e742, hx742_0, hx742_1, hx742_2, hl742_1, hi742_1⟩ := at_T49 HR0.out x5_1 p742 q742
        cases e742
        have HR742_1 := Aside0.mk hi742_1
        have HC742_1 := Aside0.mk hl742_1
        clear hi742_1 hl742_1
        replace p742 := eq_true p742
        replace q742 := eq_true q742
        have p743 : 0 ≤ (x5_1 : Int) := of_decide_eq_true (by assumption)
        have q743 : x5_1 < (l0.length : Int) := of_decide_eq_true (by assumption)
        obtain ⟨ad743, A743_1, c743_1, e743, hx743_0, hx743_1, hx743_2, hl743_1, hi743_1⟩ := at_T49 HR0.out x5_1 p743 q743
        obtain rfl : ad742 = ad743 := (by injection e743)
        have HR743_1 := Aside0.mk hi743_1
        have HC743_1 := Aside0.mk hl743_1
        clear hi743_1 hl743_1
        replace p743 := eq_true p743
        replace q743 := eq_true q743
        have ea_ := Option.some.inj (hx742_1.symm.trans hx743_1)
        injection ea_ with ea_ en_ ec_
        subst ea_
        subst ec_
        clear en_
        go_wp2_with (first | ((with_reducible refine gate_callee (f := 26) rfl ?_); refine goesL_ (some 27) rfl rfl Try.func26 (by kernel_rfl) rfl #[.slice A742_1 ((rd_T49 l0 x5_1).f1).length c742_1, .int .i64 (wrap64 (x1_1 + 1))] rfl (by (try simp only [List.map_toArray, List.map_cons, List.map_nil]); first | done | rfl | (simp only [List.length_drop, List.length_take]; rfl)) ?_; (with_reducible refine (laws_heldIntS.calls k1 _ _ ((rd_T49 l0 x5_1).f1) (wrap64 (x1_1 + 1)) t744 _ ?side1 ?side2 A6.out).mono ?_); (case side1 => repeat (first | exact HR743_1.out | (with_reducible refine Kd.C_alloc ?_ _) | (with_reducible refine Kd.C_drewN ?_ _) | (with_reducible refine Kd.C_drew ?_))); (case side2 => exact HC743_1.out); rintro e w' ⟨rfl, ⟨nd, rfl⟩⟩; refine ⟨_, rfl, ?_⟩; have p745 : 0 ≤ (x5_1 : Int) := of_decide_eq_true (by assumption); have q745 : x5_1 < (l0.length : Int) := of_decide_eq_true (by assumption); obtain ⟨ad745, A745_1, c745_1, e745, hx745_0, hx745_1, hx745_2, hl745_1, hi745_1⟩ := at_T49 HR0.out x5_1 p745 q745; obtain rfl : ad742 = ad745 := (by injection e745); have HR745_1 := Aside0.mk hi745_1; have HC745_1 := Aside0.mk hl745_1; clear hi745_1 hl745_1; replace p745 := eq_true p745; replace q745 := eq_true q745; have ea_ := Option.some.inj (hx742_1.symm.trans hx745_1); injection ea_ with ea_ en_ ec_; subst ea_; subst ec_; clear en_))
        go_roundg k1
        case measure => have := HK1.out; omega
        case rel => exact ⟨(wrap64 (t744 + 1)), (wrap64 (x5_1 + 1)), (by first | rfl | (simp; done) | (simp [*]; done)), (by first | rfl | (simp; done) | (simp [*]; done)), H', ⟨by have := HK1.out; omega⟩, by repeat (first | exact Drawn0.refl _ | apply Drawn0.step)⟩
       ·rw [if_neg c8] at H
        have c8b0 : (((rd_T49 l0 x5_1).f2) == t744) = false := beq_eq_false_iff_ne.mpr c8
        have c8b1 : (((rd_T49 l0 x5_1).f2) != t744) = true := bne_iff_ne.mpr c8
        obtain rfl := Option.some.inj H
        have p742 : 0 ≤ (x5_1 : Int) := of_decide_eq_true (by assumption)
        have q742 : x5_1 < (l0.length : Int) := of_decide_eq_true (by assumption)
        obtain ⟨ad742, A742_1, c742_1, e742, hx742_0, hx742_1, hx742_2, hl742_1, hi742_1⟩ := at_T49 HR0.out x5_1 p742 q742
        cases e742
        have HR742_1 := Aside0.mk hi742_1
        have HC742_1 := Aside0.mk hl742_1
        clear hi742_1 hl742_1
        replace p742 := eq_true p742
        replace q742 := eq_true q742
        have p743 : 0 ≤ (x5_1 : Int) := of_decide_eq_true (by assumption)
        have q743 : x5_1 < (l0.length : Int) := of_decide_eq_true (by assumption)
        obtain ⟨ad743, A743_1, c743_1, e743, hx743_0, hx743_1, hx743_2, hl743_1, hi743_1⟩ := at_T49 HR0.out x5_1 p743 q743
        obtain rfl : ad742 = ad743 := (by injection e743)
        have HR743_1 := Aside0.mk hi743_1
        have HC743_1 := Aside0.mk hl743_1
        clear hi743_1 hl743_1
        replace p743 := eq_true p743
        replace q743 := eq_true q743
        have ea_ := Option.some.inj (hx742_1.symm.trans hx743_1)
        injection ea_ with ea_ en_ ec_
        subst ea_
        subst ec_
        clear en_
        go_wp2_with (first | ((with_reducible refine gate_callee (f := 26) rfl ?_); refine goesL_ (some 27) rfl rfl Try.func26 (by kernel_rfl) rfl #[.slice A742_1 ((rd_T49 l0 x5_1).f1).length c742_1, .int .i64 (wrap64 (x1_1 + 1))] rfl (by (try simp only [List.map_toArray, List.map_cons, List.map_nil]); first | done | rfl | (simp only [List.length_drop, List.length_take]; rfl)) ?_; (with_reducible refine (laws_heldIntS.calls k1 _ _ ((rd_T49 l0 x5_1).f1) (wrap64 (x1_1 + 1)) t744 _ ?side1 ?side2 A6.out).mono ?_); (case side1 => repeat (first | exact HR743_1.out | (with_reducible refine Kd.C_alloc ?_ _) | (with_reducible refine Kd.C_drewN ?_ _) | (with_reducible refine Kd.C_drew ?_))); (case side2 => exact HC743_1.out); rintro e w' ⟨rfl, ⟨nd, rfl⟩⟩; refine ⟨_, rfl, ?_⟩; have p745 : 0 ≤ (x5_1 : Int) := of_decide_eq_true (by assumption); have q745 : x5_1 < (l0.length : Int) := of_decide_eq_true (by assumption); obtain ⟨ad745, A745_1, c745_1, e745, hx745_0, hx745_1, hx745_2, hl745_1, hi745_1⟩ := at_T49 HR0.out x5_1 p745 q745; obtain rfl : ad742 = ad745 := (by injection e745); have HR745_1 := Aside0.mk hi745_1; have HC745_1 := Aside0.mk hl745_1; clear hi745_1 hl745_1; replace p745 := eq_true p745; replace q745 := eq_true q745; have ea_ := Option.some.inj (hx742_1.symm.trans hx745_1); injection ea_ with ea_ en_ ec_; subst ea_; subst ec_; clear en_))
        go_ret
        exact ⟨by first | rfl | (simp; done) | (simp [*]; done), by repeat (first | exact Drawn0.refl _ | apply Drawn0.step)⟩
     ·rw [if_neg c5] at H
      have c5b0 : (((rd_T49 l0 x5_1).f0) == x1_1) = false := beq_eq_false_iff_ne.mpr c5
      have c5b1 : (((rd_T49 l0 x5_1).f0) != x1_1) = true := bne_iff_ne.mpr c5
      obtain rfl := Option.some.inj H
      have p742 : 0 ≤ (x5_1 : Int) := of_decide_eq_true (by assumption)
      have q742 : x5_1 < (l0.length : Int) := of_decide_eq_true (by assumption)
      obtain ⟨ad742, A742_1, c742_1, e742, hx742_0, hx742_1, hx742_2, hl742_1, hi742_1⟩ := at_T49 HR0.out x5_1 p742 q742
      cases e742
      have HR742_1 := Aside0.mk hi742_1
      have HC742_1 := Aside0.mk hl742_1
      clear hi742_1 hl742_1
      replace p742 := eq_true p742
      replace q742 := eq_true q742
      go_wp2
      go_ret
      exact ⟨by first | rfl | (simp; done) | (simp [*]; done), by repeat (first | exact Drawn0.refl _ | apply Drawn0.step)⟩
    ·rw [if_neg c4] at H
     exact absurd H (by simp)
   ·rw [if_neg c3] at H
    have c3b0 : decide (x5_1 < (l0.length : Int)) = false := decide_eq_false c3
    clear c3
    obtain rfl := Option.some.inj H
    go_wp2
    go_ret
    exact ⟨by first | rfl | (simp; done) | (simp [*]; done), by repeat (first | exact Drawn0.refl _ | apply Drawn0.step)⟩


end Go.Proofs.Ytncckjibiffnaaa.Q
