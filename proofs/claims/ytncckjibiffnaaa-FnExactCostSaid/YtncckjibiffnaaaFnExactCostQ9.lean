-- Written by programs of this session (wip/drv.py, wip/mkclaim.py) over the kit's print; not trusted: Lean checks it.
import Derived.Test.YtncckjibiffnaaaFnExactCostQ0
import Derived.Test.YtncckjibiffnaaaFnExactCostQ3
import Derived.Test.YtncckjibiffnaaaFnExactCostQ4
import Derived.Test.YtncckjibiffnaaaFnExactCostQ5
import Derived.Test.YtncckjibiffnaaaFnExactCostQ8
namespace Go.Proofs.Ytncckjibiffnaaa.Q
open Go.RowKit Go.Proofs.YtncckjibiffnaaaW.PrintWords Go.Proofs.YtncckjibiffnaaaW.PrintLast Go.Proofs.YtncckjibiffnaaaW.PrintMore
attribute [local go_sem] max2_int min2_int max_two min_two max_three min_three max_four min_four   -- for this text's walks alone
set_option linter.unusedVariables false
set_option linter.unusedSimpArgs false

/-! ### impl_Cost: function 31 -/
mutual
def impl_Cost.j0 : Nat → List Int → Bool → List Int → List (S49) → List Int → Option (Int)
 | 0, _, _, _, _, _ => none
 | k + 1, x1, x18, x609000, x609001, x609002 => if x18 = true then (some (-1)) else (impl_Cost.l0 k 0 x1 (x1.length : Int) 0 x609000 x609001 x609002)
def impl_Cost.l0 : Nat → Int → List Int → Int → Int → List Int → List (S49) → List Int → Option (Int)
 | 0, _, _, _, _, _, _, _ => none
 | k + 1, x5, x19, x20, x21, x609000, x609001, x609002 => if x21 < x20 then (if 0 ≤ x21 then (if x21 < (x19.length : Int) then ((impl_find.f k x609000 x609001 x609002 (rd x19 x21)).bind fun t611 => (if t611 < 0 then (impl_Cost.j2 k x5 t611 x19 x20 x21 true x609000 x609001 x609002) else ((impl_can.f k x609000 x609001 x609002 t611).bind fun t612 => (impl_Cost.j2 k x5 t611 x19 x20 x21 (!t612) x609000 x609001 x609002)))) else (none)) else (none)) else (if (x609001.length : Int) > 0 then (some (-1)) else (some x5))
def impl_Cost.j2 : Nat → Int → Int → List Int → Int → Int → Bool → List Int → List (S49) → List Int → Option (Int)
 | 0, _, _, _, _, _, _, _, _, _ => none
 | k + 1, x5, x8, x19, x20, x21, x35, x609000, x609001, x609002 => if x35 = true then (some (-1)) else (impl_Cost.l1 k x5 x8 x19 x20 x21 x609001 (x609001.length : Int) 0 x609000 x609001 x609002)
def impl_Cost.l1 : Nat → Int → Int → List Int → Int → Int → List (S49) → Int → Int → List Int → List (S49) → List Int → Option (Int)
 | 0, _, _, _, _, _, _, _, _, _, _, _ => none
 | k + 1, x5, x8, x19, x20, x21, x37, x38, x39, x609000, x609001, x609002 => if x39 < x38 then (if 0 ≤ x39 then (if x39 < (x37.length : Int) then (impl_Cost.l1 k (wrap64 (x5 + ((rd_T49 x37 x39).f2))) x8 x19 x20 x21 x37 x38 (wrap64 (x39 + 1)) x609000 x609001 x609002) else (none)) else (none)) else ((impl_step.f k x609000 x609001 x609002 x8).bind fun bt615 => (impl_Cost.l0 k x5 x19 x20 (wrap64 (x21 + 1)) bt615.1 bt615.2.1 bt615.2.2))
end
def impl_Cost.f (k : Nat) (l0_0 : List Int) (l0_1 : List (S49)) (l0_2 : List Int) (l1 : List Int) : Option (Int) := (impl_StateOk.f k l0_0 l0_1 l0_2).bind fun t609 => (if t609 = 0 then (impl_Cost.j0 k l1 (decide ((l1.length : Int) > 45)) l0_0 l0_1 l0_2) else (impl_Cost.j0 k l1 true l0_0 l0_1 l0_2))
theorem impl_Cost.mono_l : ∀ k, (∀ y0 y1 y2 y3 y4, LeO (impl_Cost.j0 k y0 y1 y2 y3 y4) (impl_Cost.j0 (k + 1) y0 y1 y2 y3 y4)) ∧ (∀ y0 y1 y2 y3 y4 y5 y6, LeO (impl_Cost.l0 k y0 y1 y2 y3 y4 y5 y6) (impl_Cost.l0 (k + 1) y0 y1 y2 y3 y4 y5 y6)) ∧ (∀ y0 y1 y2 y3 y4 y5 y6 y7 y8, LeO (impl_Cost.j2 k y0 y1 y2 y3 y4 y5 y6 y7 y8) (impl_Cost.j2 (k + 1) y0 y1 y2 y3 y4 y5 y6 y7 y8)) ∧ (∀ y0 y1 y2 y3 y4 y5 y6 y7 y8 y9 y10, LeO (impl_Cost.l1 k y0 y1 y2 y3 y4 y5 y6 y7 y8 y9 y10) (impl_Cost.l1 (k + 1) y0 y1 y2 y3 y4 y5 y6 y7 y8 y9 y10))
 | 0 => ⟨fun _ _ _ _ _ r h => by simp [impl_Cost.j0] at h, fun _ _ _ _ _ _ _ r h => by simp [impl_Cost.l0] at h, fun _ _ _ _ _ _ _ _ _ r h => by simp [impl_Cost.j2] at h, fun _ _ _ _ _ _ _ _ _ _ _ r h => by simp [impl_Cost.l1] at h⟩
 | k + 1 => by
  obtain ⟨ih0, ih1, ih2, ih3⟩ := impl_Cost.mono_l k
  refine ⟨?_, ?_, ?_, ?_⟩
  ·intro y0 y1 y2 y3 y4
   unfold impl_Cost.j0
   repeat' first
   | (with_reducible exact ih0 _ _ _ _ _)
   | (with_reducible exact ih1 _ _ _ _ _ _ _)
   | (with_reducible exact ih2 _ _ _ _ _ _ _ _ _)
   | (with_reducible exact ih3 _ _ _ _ _ _ _ _ _ _ _)
   | (with_reducible exact impl_StateOk.mono _ _ _ _)
   | (with_reducible exact impl_can.mono _ _ _ _ _)
   | (with_reducible exact impl_find.mono _ _ _ _ _)
   | (with_reducible exact impl_step.mono _ _ _ _ _)
   | (with_reducible exact LeO.refl _)
   | (with_reducible exact LeO.none _)
   | (with_reducible refine LeO.ite ?_ ?_)
   | (with_reducible refine LeO.bind ?_ (fun _ => ?_))
   | exact ih0 _ _ _ _ _
   | exact ih1 _ _ _ _ _ _ _
   | exact ih2 _ _ _ _ _ _ _ _ _
   | exact ih3 _ _ _ _ _ _ _ _ _ _ _
   | exact impl_StateOk.mono _ _ _ _
   | exact impl_can.mono _ _ _ _ _
   | exact impl_find.mono _ _ _ _ _
   | exact impl_step.mono _ _ _ _ _
   | exact LeO.none _
   | refine LeO.ite ?_ ?_
   | refine LeO.bind ?_ (fun _ => ?_)
  ·intro y0 y1 y2 y3 y4 y5 y6
   unfold impl_Cost.l0
   repeat' first
   | (with_reducible exact ih0 _ _ _ _ _)
   | (with_reducible exact ih1 _ _ _ _ _ _ _)
   | (with_reducible exact ih2 _ _ _ _ _ _ _ _ _)
   | (with_reducible exact ih3 _ _ _ _ _ _ _ _ _ _ _)
   | (with_reducible exact impl_StateOk.mono _ _ _ _)
   | (with_reducible exact impl_can.mono _ _ _ _ _)
   | (with_reducible exact impl_find.mono _ _ _ _ _)
   | (with_reducible exact impl_step.mono _ _ _ _ _)
   | (with_reducible exact LeO.refl _)
   | (with_reducible exact LeO.none _)
   | (with_reducible refine LeO.ite ?_ ?_)
   | (with_reducible refine LeO.bind ?_ (fun _ => ?_))
   | exact ih0 _ _ _ _ _
   | exact ih1 _ _ _ _ _ _ _
   | exact ih2 _ _ _ _ _ _ _ _ _
   | exact ih3 _ _ _ _ _ _ _ _ _ _ _
   | exact impl_StateOk.mono _ _ _ _
   | exact impl_can.mono _ _ _ _ _
   | exact impl_find.mono _ _ _ _ _
   | exact impl_step.mono _ _ _ _ _
   | exact LeO.none _
   | refine LeO.ite ?_ ?_
   | refine LeO.bind ?_ (fun _ => ?_)
  ·intro y0 y1 y2 y3 y4 y5 y6 y7 y8
   unfold impl_Cost.j2
   repeat' first
   | (with_reducible exact ih0 _ _ _ _ _)
   | (with_reducible exact ih1 _ _ _ _ _ _ _)
   | (with_reducible exact ih2 _ _ _ _ _ _ _ _ _)
   | (with_reducible exact ih3 _ _ _ _ _ _ _ _ _ _ _)
   | (with_reducible exact impl_StateOk.mono _ _ _ _)
   | (with_reducible exact impl_can.mono _ _ _ _ _)
   | (with_reducible exact impl_find.mono _ _ _ _ _)
   | (with_reducible exact impl_step.mono _ _ _ _ _)
   | (with_reducible exact LeO.refl _)
   | (with_reducible exact LeO.none _)
   | (with_reducible refine LeO.ite ?_ ?_)
   | (with_reducible refine LeO.bind ?_ (fun _ => ?_))
   | exact ih0 _ _ _ _ _
   | exact ih1 _ _ _ _ _ _ _
   | exact ih2 _ _ _ _ _ _ _ _ _
   | exact ih3 _ _ _ _ _ _ _ _ _ _ _
   | exact impl_StateOk.mono _ _ _ _
   | exact impl_can.mono _ _ _ _ _
   | exact impl_find.mono _ _ _ _ _
   | exact impl_step.mono _ _ _ _ _
   | exact LeO.none _
   | refine LeO.ite ?_ ?_
   | refine LeO.bind ?_ (fun _ => ?_)
  ·intro y0 y1 y2 y3 y4 y5 y6 y7 y8 y9 y10
   unfold impl_Cost.l1
   repeat' first
   | (with_reducible exact ih0 _ _ _ _ _)
   | (with_reducible exact ih1 _ _ _ _ _ _ _)
   | (with_reducible exact ih2 _ _ _ _ _ _ _ _ _)
   | (with_reducible exact ih3 _ _ _ _ _ _ _ _ _ _ _)
   | (with_reducible exact impl_StateOk.mono _ _ _ _)
   | (with_reducible exact impl_can.mono _ _ _ _ _)
   | (with_reducible exact impl_find.mono _ _ _ _ _)
   | (with_reducible exact impl_step.mono _ _ _ _ _)
   | (with_reducible exact LeO.refl _)
   | (with_reducible exact LeO.none _)
   | (with_reducible refine LeO.ite ?_ ?_)
   | (with_reducible refine LeO.bind ?_ (fun _ => ?_))
   | exact ih0 _ _ _ _ _
   | exact ih1 _ _ _ _ _ _ _
   | exact ih2 _ _ _ _ _ _ _ _ _
   | exact ih3 _ _ _ _ _ _ _ _ _ _ _
   | exact impl_StateOk.mono _ _ _ _
   | exact impl_can.mono _ _ _ _ _
   | exact impl_find.mono _ _ _ _ _
   | exact impl_step.mono _ _ _ _ _
   | exact LeO.none _
   | refine LeO.ite ?_ ?_
   | refine LeO.bind ?_ (fun _ => ?_)
theorem impl_Cost.mono : ∀ a0 a1 a2 a3 k, LeO (impl_Cost.f k a0 a1 a2 a3) (impl_Cost.f (k + 1) a0 a1 a2 a3) := by
 intro a0 a1 a2 a3 k
 obtain ⟨ih0, ih1, ih2, ih3⟩ := impl_Cost.mono_l k
 unfold impl_Cost.f
 repeat' first
   | (with_reducible exact ih0 _ _ _ _ _)
   | (with_reducible exact ih1 _ _ _ _ _ _ _)
   | (with_reducible exact ih2 _ _ _ _ _ _ _ _ _)
   | (with_reducible exact ih3 _ _ _ _ _ _ _ _ _ _ _)
   | (with_reducible exact impl_StateOk.mono _ _ _ _)
   | (with_reducible exact impl_can.mono _ _ _ _ _)
   | (with_reducible exact impl_find.mono _ _ _ _ _)
   | (with_reducible exact impl_step.mono _ _ _ _ _)
   | (with_reducible exact LeO.refl _)
   | (with_reducible exact LeO.none _)
   | (with_reducible refine LeO.ite ?_ ?_)
   | (with_reducible refine LeO.bind ?_ (fun _ => ?_))
   | exact ih0 _ _ _ _ _
   | exact ih1 _ _ _ _ _ _ _
   | exact ih2 _ _ _ _ _ _ _ _ _
   | exact ih3 _ _ _ _ _ _ _ _ _ _ _
   | exact impl_StateOk.mono _ _ _ _
   | exact impl_can.mono _ _ _ _ _
   | exact impl_find.mono _ _ _ _ _
   | exact impl_step.mono _ _ _ _ _
   | exact LeO.none _
   | refine LeO.ite ?_ ?_
   | refine LeO.bind ?_ (fun _ => ?_)
set_option maxHeartbeats 8000000 in
set_option maxRecDepth 100000 in
theorem impl_Cost.calls (k : Nat) (P0_0_ : Nat → Prop) (A0_0 : Option Addr) (c0_0 : Nat) (l0_0 : List Int) (P0_1_ : Nat → Prop) (A0_1 : Option Addr) (c0_1 : Nat) (l0_1 : List (S49)) (P0_2_ : Nat → Prop) (A0_2 : Option Addr) (c0_2 : Nat) (l0_2 : List Int) (A1 : Option Addr) (c1 : Nat) (l1 : List Int) (r : Int) (w : World) (hs0_0 : Kd.V (Kd.int .i64) 3 w w.heap.size (fun k_ => P0_0_ k_) (.slice A0_0 l0_0.length c0_0) l0_0) (hs0_1 : Kd.V k49 49 w w.heap.size (fun k_ => P0_1_ k_) (.slice A0_1 l0_1.length c0_1) l0_1) (hs0_2 : Kd.V (Kd.int .i64) 3 w w.heap.size (fun k_ => P0_2_ k_) (.slice A0_2 l0_2.length c0_2) l0_2) (hr1 : Kd.C (Kd.int .i64) w A1 l1.length l1) (hc1 : l1.length ≤ c1) (h : impl_Cost.f k l0_0 l0_1 l0_2 l1 = some r) :
  Calls Try.prog 31 #[.agg #[.slice A0_0 l0_0.length c0_0, .slice A0_1 l0_1.length c0_1, .slice A0_2 l0_2.length c0_2], .slice A1 l1.length c1] w fun e w' => e = .returned (.int .i64 r) ∧ Below w.heap.size w w' := by
 have hu31 := Try.underlying31
 have hu49 := Try.underlying49
 have HO0_0 := Aside0.mk (show Kd.V (Kd.int .i64) 3 w w.heap.size (fun k_ => ((P0_0_ k_ ∨ P0_1_ k_ ∨ P0_2_ k_) ∨ w.heap.size ≤ k_)) (.slice A0_0 l0_0.length c0_0) l0_0 from Kd.V_mono hs0_0 (fun k_ hk => .inl (.inl hk)))
 have HO0_1 := Aside0.mk (show Kd.V k49 49 w w.heap.size (fun k_ => ((P0_0_ k_ ∨ P0_1_ k_ ∨ P0_2_ k_) ∨ w.heap.size ≤ k_)) (.slice A0_1 l0_1.length c0_1) l0_1 from Kd.V_mono hs0_1 (fun k_ hk => .inl (.inr (.inl hk))))
 have HO0_2 := Aside0.mk (show Kd.V (Kd.int .i64) 3 w w.heap.size (fun k_ => ((P0_0_ k_ ∨ P0_1_ k_ ∨ P0_2_ k_) ∨ w.heap.size ≤ k_)) (.slice A0_2 l0_2.length c0_2) l0_2 from Kd.V_mono hs0_2 (fun k_ hk => .inl (.inr (.inr hk))))
 have HR1 := Aside0.mk hr1
 have HC1 := Aside0.mk hc1
 clear hr1 hc1
 have HB := Aside0.mk (Below.refl w.heap.size w)
 have H : ((impl_StateOk.f k l0_0 l0_1 l0_2).bind fun t609 => (if t609 = 0 then (impl_Cost.j0 k l1 (decide ((l1.length : Int) > 45)) l0_0 l0_1 l0_2) else (impl_Cost.j0 k l1 true l0_0 l0_1 l0_2))) = some r := h
 clear h
 have HC3 := Aside0.mk H
 clear H
 go_enter Try.func31, Try.ntmps31
 go_upto_region 1 with (first | ((with_reducible refine gate_dst (N := 2) rfl ?_); (try (refine gate_guard (by rfl) ?_; dsimp only)); refine box_event ?hg (N := 2) ?hd (cs := #[.slice A0_0 l0_0.length c0_0, .slice A0_1 l0_1.length c0_1, .slice A0_2 l0_2.length c0_2]) (t := 31) ?hr ?_; (case hd => rfl); (case hg => rfl); (case hr => first | (go_simp; done) | (go_simp; rfl)); intro gb608 hg w4 hbox hb; have n0_ := Aside0.mk (Kd.V_below (Kd.V_elderB (by exact HO0_0.out) gb608 (Nat.le_of_eq hg.symm)) hb); have n1_ := Aside0.mk (Kd.V_below (Kd.V_elderB (by exact HO0_1.out) gb608 (Nat.le_of_eq hg.symm)) hb); have n2_ := Aside0.mk (Kd.V_below (Kd.V_elderB (by exact HO0_2.out) gb608 (Nat.le_of_eq hg.symm)) hb); have n3_ := Aside0.mk (below_step (by exact HB.out) hb); have n4_ := Aside0.mk (hbox); have n5_ := Aside0.mk ((by rw [hg]; exact (below_size (by exact HB.out)) : w.heap.size ≤ gb608)); have n6_ := Aside0.mk ((by rw [hg]; exact (below_size (by exact HB.out)) : w.heap.size ≤ gb608)); clear HO0_0; clear HO0_1; clear HO0_2; clear HB; have HO0_0 := n0_; have HO0_1 := n1_; have HO0_2 := n2_; have HB := n3_; have BK608 := n4_; have GW608 := n5_; have GE608 := n6_; clear n0_ n1_ n2_ n3_ n4_ n5_ n6_; clear hb hbox hg))
 (try simp only [Act.put, List.setIfInBounds_toArray, List.set_cons_zero, List.set_cons_succ])
 go_cut [18] (fun v18 wc => ∃ (kq : Nat) (x18_2 : Bool), v18 = .bool x18_2 ∧ Aside0 (impl_Cost.j0 kq l1 x18_2 l0_0 l0_1 l0_2 = some r) ∧ Aside0 (kq ≤ k) ∧ Aside0 (Kd.V (Kd.int .i64) 3 wc w.heap.size (fun k_ => ((P0_0_ k_ ∨ P0_1_ k_ ∨ P0_2_ k_) ∨ w.heap.size ≤ k_) ∧ k_ ≠ gb608) (.slice A0_0 l0_0.length c0_0) l0_0) ∧ Aside0 (Kd.V k49 49 wc w.heap.size (fun k_ => ((P0_0_ k_ ∨ P0_1_ k_ ∨ P0_2_ k_) ∨ w.heap.size ≤ k_) ∧ k_ ≠ gb608) (.slice A0_1 l0_1.length c0_1) l0_1) ∧ Aside0 (Kd.V (Kd.int .i64) 3 wc w.heap.size (fun k_ => ((P0_0_ k_ ∨ P0_1_ k_ ∨ P0_2_ k_) ∨ w.heap.size ≤ k_) ∧ k_ ≠ gb608) (.slice A0_2 l0_2.length c0_2) l0_2) ∧ Aside0 (wc.heap[gb608]? = some (.cells #[(.slice A0_0 l0_0.length c0_0), (.slice A0_1 l0_1.length c0_1), (.slice A0_2 l0_2.length c0_2)] 31 (0, 0))) ∧ Aside0 (Below w.heap.size w wc))
 case first =>
  have H := HC3.out
  clear HC3
  replace H := Option.bind_eq_some_iff.mp H
  obtain ⟨t609, A50, H⟩ := H
  replace H : (if t609 = 0 then (impl_Cost.j0 k l1 (decide ((l1.length : Int) > 45)) l0_0 l0_1 l0_2) else (impl_Cost.j0 k l1 true l0_0 l0_1 l0_2)) = some r := H
  have A5 := Aside0.mk A50
  clear A50
  by_cases c6 : t609 = 0
  ·rw [if_pos c6] at H
   have c6b0 : (t609 == 0) = true := beq_iff_eq.mpr c6
   have c6b1 : (t609 != 0) = false := bne_eq_false_iff_eq.mpr c6
   clear c6
   (first | rw [c6b0] | (simp only [i64_w, i32_w]; rw [c6b0]) | skip)
   have H' := Aside0.mk H
   clear H
   have hcz7_0 : w4.cell? ⟨gb608, 0, none⟩ = some (.slice A0_0 l0_0.length c0_0) := (blk_cell BK608.out 0).trans rfl
   have hcz7_1 : w4.cell? ⟨gb608, 1, none⟩ = some (.slice A0_1 l0_1.length c0_1) := (blk_cell BK608.out 1).trans rfl
   have hcz7_2 : w4.cell? ⟨gb608, 2, none⟩ = some (.slice A0_2 l0_2.length c0_2) := (blk_cell BK608.out 2).trans rfl
   have hfz7_0 := blk_frozen BK608.out 0
   have hfz7_1 := blk_frozen BK608.out 1
   have hfz7_2 := blk_frozen BK608.out 2
   go_wp2_with (first | ((with_reducible refine gate_callee (f := 15) rfl ?_); refine goesL_ (some 12) rfl rfl Try.func15 (by kernel_rfl) rfl #[.agg #[.slice A0_0 l0_0.length c0_0, .slice A0_1 l0_1.length c0_1, .slice A0_2 l0_2.length c0_2]] rfl (by (try simp only [List.map_toArray, List.map_cons, List.map_nil]); first | done | rfl | (simp only [List.length_drop, List.length_take]; rfl)) ?_; (with_reducible refine (impl_StateOk.calls k _ _ l0_0 _ _ l0_1 _ _ l0_2 t609 _ ?side1 ?side2 ?side3 ?side4 ?side5 ?side6 A5.out).mono ?_); (case side1 => repeat (first | exact (Kd.V_reads' HO0_0.out).2.2 | (with_reducible refine Kd.C_alloc ?_ _) | (with_reducible refine Kd.C_drewN ?_ _) | (with_reducible refine Kd.C_drew ?_))); (case side2 => exact (Kd.V_reads' HO0_0.out).2.1); (case side3 => repeat (first | exact (Kd.V_reads' HO0_1.out).2.2 | (with_reducible refine Kd.C_alloc ?_ _) | (with_reducible refine Kd.C_drewN ?_ _) | (with_reducible refine Kd.C_drew ?_))); (case side4 => exact (Kd.V_reads' HO0_1.out).2.1); (case side5 => repeat (first | exact (Kd.V_reads' HO0_2.out).2.2 | (with_reducible refine Kd.C_alloc ?_ _) | (with_reducible refine Kd.C_drewN ?_ _) | (with_reducible refine Kd.C_drew ?_))); (case side6 => exact (Kd.V_reads' HO0_2.out).2.1); rintro e w8 ⟨rfl, hb⟩; refine ⟨_, rfl, ?_⟩; have n0_ := Aside0.mk (Kd.V_below (by exact HO0_0.out) hb); have n1_ := Aside0.mk (Kd.V_below (by exact HO0_1.out) hb); have n2_ := Aside0.mk (Kd.V_below (by exact HO0_2.out) hb); have n3_ := Aside0.mk (blk_below (g := gb608) (o := .cells #[.slice A0_0 l0_0.length c0_0, .slice A0_1 l0_1.length c0_1, .slice A0_2 l0_2.length c0_2] 31 (0, 0)) (by exact BK608.out) hb); have n4_ := Aside0.mk (below_step (by exact HB.out) hb); clear HO0_0; clear HO0_1; clear HO0_2; clear BK608; clear HB; have HO0_0 := n0_; have HO0_1 := n1_; have HO0_2 := n2_; have BK608 := n3_; have HB := n4_; clear n0_ n1_ n2_ n3_ n4_; (try clear hb); (try clear hb2); (try clear hk); (try clear hi)))
   go_meet
   case rel => exact ⟨_, (decide ((l1.length : Int) > 45)), (by first | rfl | (simp; done) | (simp [*]; done)), H', ⟨by first | omega | exact Nat.le_refl _⟩, ⟨by exact HO0_0.out⟩, ⟨by exact HO0_1.out⟩, ⟨by exact HO0_2.out⟩, ⟨by exact BK608.out⟩, ⟨by exact HB.out⟩⟩
  ·rw [if_neg c6] at H
   have c6b0 : (t609 == 0) = false := beq_eq_false_iff_ne.mpr c6
   have c6b1 : (t609 != 0) = true := bne_iff_ne.mpr c6
   (first | rw [c6b0] | (simp only [i64_w, i32_w]; rw [c6b0]) | skip)
   have H' := Aside0.mk H
   clear H
   have hcz9_0 : w4.cell? ⟨gb608, 0, none⟩ = some (.slice A0_0 l0_0.length c0_0) := (blk_cell BK608.out 0).trans rfl
   have hcz9_1 : w4.cell? ⟨gb608, 1, none⟩ = some (.slice A0_1 l0_1.length c0_1) := (blk_cell BK608.out 1).trans rfl
   have hcz9_2 : w4.cell? ⟨gb608, 2, none⟩ = some (.slice A0_2 l0_2.length c0_2) := (blk_cell BK608.out 2).trans rfl
   have hfz9_0 := blk_frozen BK608.out 0
   have hfz9_1 := blk_frozen BK608.out 1
   have hfz9_2 := blk_frozen BK608.out 2
   go_wp2_with (first | ((with_reducible refine gate_callee (f := 15) rfl ?_); refine goesL_ (some 12) rfl rfl Try.func15 (by kernel_rfl) rfl #[.agg #[.slice A0_0 l0_0.length c0_0, .slice A0_1 l0_1.length c0_1, .slice A0_2 l0_2.length c0_2]] rfl (by (try simp only [List.map_toArray, List.map_cons, List.map_nil]); first | done | rfl | (simp only [List.length_drop, List.length_take]; rfl)) ?_; (with_reducible refine (impl_StateOk.calls k _ _ l0_0 _ _ l0_1 _ _ l0_2 t609 _ ?side1 ?side2 ?side3 ?side4 ?side5 ?side6 A5.out).mono ?_); (case side1 => repeat (first | exact (Kd.V_reads' HO0_0.out).2.2 | (with_reducible refine Kd.C_alloc ?_ _) | (with_reducible refine Kd.C_drewN ?_ _) | (with_reducible refine Kd.C_drew ?_))); (case side2 => exact (Kd.V_reads' HO0_0.out).2.1); (case side3 => repeat (first | exact (Kd.V_reads' HO0_1.out).2.2 | (with_reducible refine Kd.C_alloc ?_ _) | (with_reducible refine Kd.C_drewN ?_ _) | (with_reducible refine Kd.C_drew ?_))); (case side4 => exact (Kd.V_reads' HO0_1.out).2.1); (case side5 => repeat (first | exact (Kd.V_reads' HO0_2.out).2.2 | (with_reducible refine Kd.C_alloc ?_ _) | (with_reducible refine Kd.C_drewN ?_ _) | (with_reducible refine Kd.C_drew ?_))); (case side6 => exact (Kd.V_reads' HO0_2.out).2.1); rintro e w10 ⟨rfl, hb⟩; refine ⟨_, rfl, ?_⟩; have n0_ := Aside0.mk (Kd.V_below (by exact HO0_0.out) hb); have n1_ := Aside0.mk (Kd.V_below (by exact HO0_1.out) hb); have n2_ := Aside0.mk (Kd.V_below (by exact HO0_2.out) hb); have n3_ := Aside0.mk (blk_below (g := gb608) (o := .cells #[.slice A0_0 l0_0.length c0_0, .slice A0_1 l0_1.length c0_1, .slice A0_2 l0_2.length c0_2] 31 (0, 0)) (by exact BK608.out) hb); have n4_ := Aside0.mk (below_step (by exact HB.out) hb); clear HO0_0; clear HO0_1; clear HO0_2; clear BK608; clear HB; have HO0_0 := n0_; have HO0_1 := n1_; have HO0_2 := n2_; have BK608 := n3_; have HB := n4_; clear n0_ n1_ n2_ n3_ n4_; (try clear hb); (try clear hb2); (try clear hk); (try clear hi)))
   go_meet
   case rel => exact ⟨_, (true), (by first | rfl | (simp; done) | (simp [*]; done)), H', ⟨by first | omega | exact Nat.le_refl _⟩, ⟨by exact HO0_0.out⟩, ⟨by exact HO0_1.out⟩, ⟨by exact HO0_2.out⟩, ⟨by exact BK608.out⟩, ⟨by exact HB.out⟩⟩
 case rest =>
  clear HC3
  try clear c1
  try clear p2
  try clear c3
  try clear c6
  try clear c6b0
  try clear c6b1
  try clear hcz7_0
  try clear hcz7_1
  try clear hcz7_2
  try clear hcz9_0
  try clear hcz9_1
  try clear hcz9_2
  try clear hfz7_0
  try clear hfz7_1
  try clear hfz7_2
  try clear hfz9_0
  try clear hfz9_1
  try clear hfz9_2
  obtain ⟨kq, x18_2, rfl, HA, HJ2, HO_609000, HO_609001, HO_609002, BK608, HB⟩ := hcut
  cases kq with
  | zero => exact absurd HA.out (by simp [impl_Cost.j0])
  | succ kj2 =>
   have H := HA.out
   clear HA
   simp only [impl_Cost.j0] at H
   by_cases c11 : x18_2 = true
   ·subst c11
    have H1 : (some (-1)) = some r := by rw [if_pos rfl] at H; exact H
    clear H
    have H := H1
    clear H1
    obtain rfl := Option.some.inj H
    go_wp2
    go_ret
    exact ⟨by first | rfl | (simp [errW_none, errW_some] <;> rfl) | (simp [*, errW_none, errW_some] <;> rfl), by exact HB.out⟩
   ·replace c11 := Bool.eq_false_iff.mpr c11
    subst c11
    have H1 : (impl_Cost.l0 kj2 0 l1 (l1.length : Int) 0 l0_0 l0_1 l0_2) = some r := by rw [if_neg (show ¬ (false = true) by decide)] at H; exact H
    clear H
    have H := H1
    clear H1
    have H' := Aside0.mk H
    clear H
    go_wp2
    go_loopg [5, 21] kj2 (fun kq v5 v21 w' => ∃ (x5_2 : Int) (x21_2 : Int) (x609000_2 : List Int) (x609001_2 : List (S49)) (x609002_2 : List Int) (u609000 : Value) (u609001 : Value) (u609002 : Value), v5 = .int .i64 x5_2 ∧ v21 = .int .i64 x21_2 ∧ Aside0 (impl_Cost.l0 kq x5_2 l1 (l1.length : Int) x21_2 x609000_2 x609001_2 x609002_2 = some r) ∧ Aside0 (kq ≤ kj2) ∧ Aside0 (Kd.V (Kd.int .i64) 3 w' w.heap.size (fun k_ => ((P0_0_ k_ ∨ P0_1_ k_ ∨ P0_2_ k_) ∨ w.heap.size ≤ k_) ∧ k_ ≠ gb608) u609000 x609000_2) ∧ Aside0 (Kd.V k49 49 w' w.heap.size (fun k_ => ((P0_0_ k_ ∨ P0_1_ k_ ∨ P0_2_ k_) ∨ w.heap.size ≤ k_) ∧ k_ ≠ gb608) u609001 x609001_2) ∧ Aside0 (Kd.V (Kd.int .i64) 3 w' w.heap.size (fun k_ => ((P0_0_ k_ ∨ P0_1_ k_ ∨ P0_2_ k_) ∨ w.heap.size ≤ k_) ∧ k_ ≠ gb608) u609002 x609002_2) ∧ Aside0 (w'.heap[gb608]? = some (.cells #[u609000, u609001, u609002] 31 (0, 0))) ∧ Aside0 (Below w.heap.size w w'))
    case atStart => exact ⟨(0), (0), (l0_0), (l0_1), (l0_2), (.slice A0_0 l0_0.length c0_0), (.slice A0_1 l0_1.length c0_1), (.slice A0_2 l0_2.length c0_2), (by first | rfl | (simp; done) | (simp [*]; done)), (by first | rfl | (simp; done) | (simp [*]; done)), H', ⟨Nat.le_refl _⟩, ⟨by exact HO_609000.out⟩, ⟨by exact HO_609001.out⟩, ⟨by exact HO_609002.out⟩, ⟨by exact BK608.out⟩, ⟨by exact HB.out⟩⟩
    case round =>
     clear H'
     try clear c1
     try clear p2
     try clear c3
     try clear c6
     try clear c6b0
     try clear c6b1
     try clear c11
     try clear hcz7_0
     try clear hcz7_1
     try clear hcz7_2
     try clear hcz9_0
     try clear hcz9_1
     try clear hcz9_2
     try clear hfz7_0
     try clear hfz7_1
     try clear hfz7_2
     try clear hfz9_0
     try clear hfz9_1
     try clear hfz9_2
     try clear p2
     obtain ⟨x5_2, x21_2, x609000_2, x609001_2, x609002_2, u609000, u609001, u609002, rfl, rfl, HA, HK2, HO_609000, HO_609001, HO_609002, BK608, HB⟩ := hrel
     cases gk with
     | zero => exact absurd HA.out (by simp [impl_Cost.l0])
     | succ k2 =>
      have H := HA.out
      clear HA
      simp only [impl_Cost.l0] at H
      by_cases c12 : x21_2 < (l1.length : Int)
      ·rw [if_pos c12] at H
       have c12b0 : decide (x21_2 < (l1.length : Int)) = true := decide_eq_true c12
       clear c12
       by_cases c13 : 0 ≤ x21_2
       ·rw [if_pos c13] at H
        have c13b0 : decide (0 ≤ x21_2) = true := decide_eq_true c13
        clear c13
        by_cases c14 : x21_2 < (l1.length : Int)
        ·rw [if_pos c14] at H
         have c14b0 : decide (x21_2 < (l1.length : Int)) = true := decide_eq_true c14
         clear c14
         replace H := Option.bind_eq_some_iff.mp H
         obtain ⟨t611, A150, H⟩ := H
         replace H : (if t611 < 0 then (impl_Cost.j2 k2 x5_2 t611 l1 (l1.length : Int) x21_2 true x609000_2 x609001_2 x609002_2) else ((impl_can.f k2 x609000_2 x609001_2 x609002_2 t611).bind fun t612 => (impl_Cost.j2 k2 x5_2 t611 l1 (l1.length : Int) x21_2 (!t612) x609000_2 x609001_2 x609002_2))) = some r := H
         have A15 := Aside0.mk A150
         clear A150
         have HC16 := Aside0.mk H
         clear H
         have p610 : 0 ≤ (x21_2 : Int) := of_decide_eq_true (by first | (with_reducible assumption) | assumption)
         have q610 : x21_2 < (l1.length : Int) := of_decide_eq_true (by first | (with_reducible assumption) | assumption)
         obtain ⟨ad610, e610, hx610_0⟩ := Kd.at_int HR1.out x21_2 p610 q610
         cases e610
         replace hx610_0 := (HB.out.cell (World.block_lt_of_cell? w _ hx610_0)).trans hx610_0
         replace p610 := eq_true p610
         replace q610 := eq_true q610
         have hcz17_0 : wr.cell? ⟨gb608, 0, none⟩ = some (u609000) := (blk_cell BK608.out 0).trans rfl
         have hcz17_1 : wr.cell? ⟨gb608, 1, none⟩ = some (u609001) := (blk_cell BK608.out 1).trans rfl
         have hcz17_2 : wr.cell? ⟨gb608, 2, none⟩ = some (u609002) := (blk_cell BK608.out 2).trans rfl
         have hfz17_0 := blk_frozen BK608.out 0
         have hfz17_1 := blk_frozen BK608.out 1
         have hfz17_2 := blk_frozen BK608.out 2
         obtain ⟨Ao18, co18, eo18⟩ := Kd.V_slice HO_609000.out
         subst eo18
         obtain ⟨Ao19, co19, eo19⟩ := Kd.V_slice HO_609001.out
         subst eo19
         obtain ⟨Ao20, co20, eo20⟩ := Kd.V_slice HO_609002.out
         subst eo20
         go_upto_region 8 with (first | ((with_reducible refine gate_callee (f := 48) rfl ?_); refine goesL_ (some 27) rfl rfl Try.func48 (by kernel_rfl) rfl #[.agg #[.slice Ao18 x609000_2.length co18, .slice Ao19 x609001_2.length co19, .slice Ao20 x609002_2.length co20], .int .i64 (rd l1 x21_2)] rfl (by (try simp only [List.map_toArray, List.map_cons, List.map_nil]); first | done | rfl | (simp only [List.length_drop, List.length_take]; rfl)) ?_; (with_reducible refine (impl_find.calls k2 _ _ x609000_2 _ _ x609001_2 _ _ x609002_2 (rd l1 x21_2) t611 _ ?side1 ?side2 ?side3 ?side4 ?side5 ?side6 A15.out).mono ?_); (case side1 => repeat (first | exact (Kd.V_reads' HO_609000.out).2.2 | (with_reducible refine Kd.C_alloc ?_ _) | (with_reducible refine Kd.C_drewN ?_ _) | (with_reducible refine Kd.C_drew ?_))); (case side2 => exact (Kd.V_reads' HO_609000.out).2.1); (case side3 => repeat (first | exact (Kd.V_reads' HO_609001.out).2.2 | (with_reducible refine Kd.C_alloc ?_ _) | (with_reducible refine Kd.C_drewN ?_ _) | (with_reducible refine Kd.C_drew ?_))); (case side4 => exact (Kd.V_reads' HO_609001.out).2.1); (case side5 => repeat (first | exact (Kd.V_reads' HO_609002.out).2.2 | (with_reducible refine Kd.C_alloc ?_ _) | (with_reducible refine Kd.C_drewN ?_ _) | (with_reducible refine Kd.C_drew ?_))); (case side6 => exact (Kd.V_reads' HO_609002.out).2.1); rintro e w21 ⟨rfl, hb⟩; refine ⟨_, rfl, ?_⟩; have n0_ := Aside0.mk (Kd.V_below (by exact HO_609000.out) hb); have n1_ := Aside0.mk (Kd.V_below (by exact HO_609001.out) hb); have n2_ := Aside0.mk (Kd.V_below (by exact HO_609002.out) hb); have n3_ := Aside0.mk (blk_below (g := gb608) (o := .cells #[.slice Ao18 x609000_2.length co18, .slice Ao19 x609001_2.length co19, .slice Ao20 x609002_2.length co20] 31 (0, 0)) (by exact BK608.out) hb); have n4_ := Aside0.mk (below_step (by exact HB.out) hb); clear HO_609000; clear HO_609001; clear HO_609002; clear BK608; clear HB; have HO_609000 := n0_; have HO_609001 := n1_; have HO_609002 := n2_; have BK608 := n3_; have HB := n4_; clear n0_ n1_ n2_ n3_ n4_; (try clear hb); (try clear hb2); (try clear hk); (try clear hi)))
         (try simp only [Act.put, List.setIfInBounds_toArray, List.set_cons_zero, List.set_cons_succ])
         go_cut [35] (fun v35 wc => ∃ (kq : Nat) (x35_15 : Bool), v35 = .bool x35_15 ∧ Aside0 (impl_Cost.j2 kq x5_2 t611 l1 (l1.length : Int) x21_2 x35_15 x609000_2 x609001_2 x609002_2 = some r) ∧ Aside0 (kq ≤ k2) ∧ Aside0 (Kd.V (Kd.int .i64) 3 wc w.heap.size (fun k_ => ((P0_0_ k_ ∨ P0_1_ k_ ∨ P0_2_ k_) ∨ w.heap.size ≤ k_) ∧ k_ ≠ gb608) (.slice Ao18 x609000_2.length co18) x609000_2) ∧ Aside0 (Kd.V k49 49 wc w.heap.size (fun k_ => ((P0_0_ k_ ∨ P0_1_ k_ ∨ P0_2_ k_) ∨ w.heap.size ≤ k_) ∧ k_ ≠ gb608) (.slice Ao19 x609001_2.length co19) x609001_2) ∧ Aside0 (Kd.V (Kd.int .i64) 3 wc w.heap.size (fun k_ => ((P0_0_ k_ ∨ P0_1_ k_ ∨ P0_2_ k_) ∨ w.heap.size ≤ k_) ∧ k_ ≠ gb608) (.slice Ao20 x609002_2.length co20) x609002_2) ∧ Aside0 (wc.heap[gb608]? = some (.cells #[(.slice Ao18 x609000_2.length co18), (.slice Ao19 x609001_2.length co19), (.slice Ao20 x609002_2.length co20)] 31 (0, 0))) ∧ Aside0 (Below w.heap.size w wc))
         case first =>
          have H := HC16.out
          clear HC16
          by_cases c22 : t611 < 0
          ·rw [if_pos c22] at H
           have c22b0 : decide (t611 < 0) = true := decide_eq_true c22
           clear c22
           (first | rw [c22b0] | (simp only [i64_w, i32_w]; rw [c22b0]) | skip)
           have H' := Aside0.mk H
           clear H
           go_wp2
           go_meet
           case rel => exact ⟨_, (true), (by first | rfl | (simp; done) | (simp [*]; done)), H', ⟨by have := HJ2.out; have := HK2.out; first | omega | exact Nat.le_refl _⟩, ⟨by exact HO_609000.out⟩, ⟨by exact HO_609001.out⟩, ⟨by exact HO_609002.out⟩, ⟨by exact BK608.out⟩, ⟨by exact HB.out⟩⟩
          ·rw [if_neg c22] at H
           have c22b0 : decide (t611 < 0) = false := decide_eq_false c22
           clear c22
           (first | rw [c22b0] | (simp only [i64_w, i32_w]; rw [c22b0]) | skip)
           replace H := Option.bind_eq_some_iff.mp H
           obtain ⟨t612, A230, H⟩ := H
           replace H : (impl_Cost.j2 k2 x5_2 t611 l1 (l1.length : Int) x21_2 (!t612) x609000_2 x609001_2 x609002_2) = some r := H
           have A23 := Aside0.mk A230
           clear A230
           have H' := Aside0.mk H
           clear H
           have hcz24_0 : w21.cell? ⟨gb608, 0, none⟩ = some (.slice Ao18 x609000_2.length co18) := (blk_cell BK608.out 0).trans rfl
           have hcz24_1 : w21.cell? ⟨gb608, 1, none⟩ = some (.slice Ao19 x609001_2.length co19) := (blk_cell BK608.out 1).trans rfl
           have hcz24_2 : w21.cell? ⟨gb608, 2, none⟩ = some (.slice Ao20 x609002_2.length co20) := (blk_cell BK608.out 2).trans rfl
           have hfz24_0 := blk_frozen BK608.out 0
           have hfz24_1 := blk_frozen BK608.out 1
           have hfz24_2 := blk_frozen BK608.out 2
           go_wp2_with (first | (go_at_call 45; (with_reducible refine (impl_can.calls k2 _ _ x609000_2 _ _ x609001_2 _ _ x609002_2 t611 t612 _ ?side1 ?side2 ?side3 ?side4 ?side5 ?side6 A23.out).mono ?_); (case side1 => repeat (first | exact (Kd.V_reads' HO_609000.out).2.2 | (with_reducible refine Kd.C_alloc ?_ _) | (with_reducible refine Kd.C_drewN ?_ _) | (with_reducible refine Kd.C_drew ?_))); (case side2 => exact (Kd.V_reads' HO_609000.out).2.1); (case side3 => repeat (first | exact (Kd.V_reads' HO_609001.out).2.2 | (with_reducible refine Kd.C_alloc ?_ _) | (with_reducible refine Kd.C_drewN ?_ _) | (with_reducible refine Kd.C_drew ?_))); (case side4 => exact (Kd.V_reads' HO_609001.out).2.1); (case side5 => repeat (first | exact (Kd.V_reads' HO_609002.out).2.2 | (with_reducible refine Kd.C_alloc ?_ _) | (with_reducible refine Kd.C_drewN ?_ _) | (with_reducible refine Kd.C_drew ?_))); (case side6 => exact (Kd.V_reads' HO_609002.out).2.1); rintro e w25 ⟨rfl, hb⟩; have n0_ := Aside0.mk (Kd.V_below (by exact HO_609000.out) hb); have n1_ := Aside0.mk (Kd.V_below (by exact HO_609001.out) hb); have n2_ := Aside0.mk (Kd.V_below (by exact HO_609002.out) hb); have n3_ := Aside0.mk (blk_below (g := gb608) (o := .cells #[.slice Ao18 x609000_2.length co18, .slice Ao19 x609001_2.length co19, .slice Ao20 x609002_2.length co20] 31 (0, 0)) (by exact BK608.out) hb); have n4_ := Aside0.mk (below_step (by exact HB.out) hb); clear HO_609000; clear HO_609001; clear HO_609002; clear BK608; clear HB; have HO_609000 := n0_; have HO_609001 := n1_; have HO_609002 := n2_; have BK608 := n3_; have HB := n4_; clear n0_ n1_ n2_ n3_ n4_; (try clear hb); (try clear hb2); (try clear hk); (try clear hi)))
           go_meet
           case rel => exact ⟨_, (!t612), (by first | rfl | (simp; done) | (simp [*]; done)), H', ⟨by have := HJ2.out; have := HK2.out; first | omega | exact Nat.le_refl _⟩, ⟨by exact HO_609000.out⟩, ⟨by exact HO_609001.out⟩, ⟨by exact HO_609002.out⟩, ⟨by exact BK608.out⟩, ⟨by exact HB.out⟩⟩
         case rest =>
          clear HC16
          try clear c1
          try clear c2
          try clear p2
          try clear c3
          try clear c4
          try clear c6
          try clear c6b0
          try clear c6b1
          try clear p6
          try clear q6
          try clear hx6
          try clear c11
          try clear c12
          try clear c12b0
          try clear c13
          try clear c13b0
          try clear c14
          try clear c14b0
          try clear c15
          try clear c22
          try clear c22b0
          try clear hcz17_0
          try clear hcz17_1
          try clear hcz17_2
          try clear hcz24_0
          try clear hcz24_1
          try clear hcz24_2
          try clear hcz7_0
          try clear hcz7_1
          try clear hcz7_2
          try clear hcz9_0
          try clear hcz9_1
          try clear hcz9_2
          try clear hfz17_0
          try clear hfz17_1
          try clear hfz17_2
          try clear hfz24_0
          try clear hfz24_1
          try clear hfz24_2
          try clear hfz7_0
          try clear hfz7_1
          try clear hfz7_2
          try clear hfz9_0
          try clear hfz9_1
          try clear hfz9_2
          try clear hx610_0
          try clear p2
          try clear p610
          try clear q610
          obtain ⟨kq, x35_15, rfl, HA, HJ15, HO_609000, HO_609001, HO_609002, BK608, HB⟩ := hcut
          cases kq with
          | zero => exact absurd HA.out (by simp [impl_Cost.j2])
          | succ kj15 =>
           have H := HA.out
           clear HA
           simp only [impl_Cost.j2] at H
           by_cases c26 : x35_15 = true
           ·subst c26
            have H1 : (some (-1)) = some r := by rw [if_pos rfl] at H; exact H
            clear H
            have H := H1
            clear H1
            obtain rfl := Option.some.inj H
            go_wp2
            go_ret
            exact ⟨by first | rfl | (simp [errW_none, errW_some] <;> rfl) | (simp [*, errW_none, errW_some] <;> rfl), by exact HB.out⟩
           ·replace c26 := Bool.eq_false_iff.mpr c26
            subst c26
            have H1 : (impl_Cost.l1 kj15 x5_2 t611 l1 (l1.length : Int) x21_2 x609001_2 (x609001_2.length : Int) 0 x609000_2 x609001_2 x609002_2) = some r := by rw [if_neg (show ¬ (false = true) by decide)] at H; exact H
            clear H
            have H := H1
            clear H1
            have H' := Aside0.mk H
            clear H
            have hcz27_0 : wc.cell? ⟨gb608, 0, none⟩ = some (.slice Ao18 x609000_2.length co18) := (blk_cell BK608.out 0).trans rfl
            have hcz27_1 : wc.cell? ⟨gb608, 1, none⟩ = some (.slice Ao19 x609001_2.length co19) := (blk_cell BK608.out 1).trans rfl
            have hcz27_2 : wc.cell? ⟨gb608, 2, none⟩ = some (.slice Ao20 x609002_2.length co20) := (blk_cell BK608.out 2).trans rfl
            have hfz27_0 := blk_frozen BK608.out 0
            have hfz27_1 := blk_frozen BK608.out 1
            have hfz27_2 := blk_frozen BK608.out 2
            go_wp2
            go_loopg [5, 39] kj15 (fun kq v5 v39 w' => ∃ (x5_4 : Int) (x39_4 : Int), v5 = .int .i64 x5_4 ∧ v39 = .int .i64 x39_4 ∧ Aside0 (impl_Cost.l1 kq x5_4 t611 l1 (l1.length : Int) x21_2 x609001_2 (x609001_2.length : Int) x39_4 x609000_2 x609001_2 x609002_2 = some r) ∧ Aside0 (kq ≤ kj15) ∧ Aside0 (Kd.V k49 49 w' w.heap.size (fun k_ => ((P0_0_ k_ ∨ P0_1_ k_ ∨ P0_2_ k_) ∨ w.heap.size ≤ k_) ∧ k_ ≠ gb608) (.slice Ao19 x609001_2.length co19) x609001_2) ∧ Aside0 (Kd.V (Kd.int .i64) 3 w' w.heap.size (fun k_ => ((P0_0_ k_ ∨ P0_1_ k_ ∨ P0_2_ k_) ∨ w.heap.size ≤ k_) ∧ k_ ≠ gb608) (.slice Ao18 x609000_2.length co18) x609000_2) ∧ Aside0 (Kd.V k49 49 w' w.heap.size (fun k_ => ((P0_0_ k_ ∨ P0_1_ k_ ∨ P0_2_ k_) ∨ w.heap.size ≤ k_) ∧ k_ ≠ gb608) (.slice Ao19 x609001_2.length co19) x609001_2) ∧ Aside0 (Kd.V (Kd.int .i64) 3 w' w.heap.size (fun k_ => ((P0_0_ k_ ∨ P0_1_ k_ ∨ P0_2_ k_) ∨ w.heap.size ≤ k_) ∧ k_ ≠ gb608) (.slice Ao20 x609002_2.length co20) x609002_2) ∧ Aside0 (w'.heap[gb608]? = some (.cells #[(.slice Ao18 x609000_2.length co18), (.slice Ao19 x609001_2.length co19), (.slice Ao20 x609002_2.length co20)] 31 (0, 0))) ∧ Aside0 (Below w.heap.size w w'))
            case atStart => exact ⟨(x5_2), (0), (by first | rfl | (simp; done) | (simp [*]; done)), (by first | rfl | (simp; done) | (simp [*]; done)), H', ⟨Nat.le_refl _⟩, ⟨by exact HO_609001.out⟩, ⟨by exact HO_609000.out⟩, ⟨by exact HO_609001.out⟩, ⟨by exact HO_609002.out⟩, ⟨by exact BK608.out⟩, ⟨by exact HB.out⟩⟩
            case round =>
             clear H'
             try clear c1
             try clear c2
             try clear p2
             try clear c3
             try clear c4
             try clear c6
             try clear c6b0
             try clear c6b1
             try clear p6
             try clear q6
             try clear hx6
             try clear c11
             try clear c12
             try clear c12b0
             try clear c13
             try clear c13b0
             try clear c14
             try clear c14b0
             try clear c15
             try clear c22
             try clear c22b0
             try clear c26
             try clear hcz17_0
             try clear hcz17_1
             try clear hcz17_2
             try clear hcz24_0
             try clear hcz24_1
             try clear hcz24_2
             try clear hcz27_0
             try clear hcz27_1
             try clear hcz27_2
             try clear hcz7_0
             try clear hcz7_1
             try clear hcz7_2
             try clear hcz9_0
             try clear hcz9_1
             try clear hcz9_2
             try clear hfz17_0
             try clear hfz17_1
             try clear hfz17_2
             try clear hfz24_0
             try clear hfz24_1
             try clear hfz24_2
             try clear hfz27_0
             try clear hfz27_1
             try clear hfz27_2
             try clear hfz7_0
             try clear hfz7_1
             try clear hfz7_2
             try clear hfz9_0
             try clear hfz9_1
             try clear hfz9_2
             try clear hx610_0
             try clear p2
             try clear p6
             try clear p610
             try clear q6
             try clear q610
             obtain ⟨x5_4, x39_4, rfl, rfl, HA, HK4, HO_37, HO_609000, HO_609001, HO_609002, BK608, HB⟩ := hrel
             cases gk with
             | zero => exact absurd HA.out (by simp [impl_Cost.l1])
             | succ k4 =>
              have H := HA.out
              clear HA
              simp only [impl_Cost.l1] at H
              by_cases c28 : x39_4 < (x609001_2.length : Int)
              ·rw [if_pos c28] at H
               have c28b0 : decide (x39_4 < (x609001_2.length : Int)) = true := decide_eq_true c28
               clear c28
               by_cases c29 : 0 ≤ x39_4
               ·rw [if_pos c29] at H
                have c29b0 : decide (0 ≤ x39_4) = true := decide_eq_true c29
                clear c29
                by_cases c30 : x39_4 < (x609001_2.length : Int)
                ·rw [if_pos c30] at H
                 have c30b0 : decide (x39_4 < (x609001_2.length : Int)) = true := decide_eq_true c30
                 clear c30
                 have H' := Aside0.mk H
                 clear H
                 have p613 : 0 ≤ (x39_4 : Int) := of_decide_eq_true (by first | (with_reducible assumption) | assumption)
                 have q613 : x39_4 < (x609001_2.length : Int) := of_decide_eq_true (by first | (with_reducible assumption) | assumption)
                 obtain ⟨ad613, A613_1, c613_1, e613, hx613_0, hx613_1, hx613_2, hl613_1, hi613_1⟩ := at_T49 (Kd.V_reads' HO_37.out).2.2 x39_4 p613 q613
                 cases e613
                 obtain ⟨ce613, hce613, hMe613, hcc613⟩ := Kd.V_get HO_37.out z49 x39_4 p613 (by first | exact q613 | exact of_decide_eq_true (by first | (with_reducible assumption) | assumption) | (have e_ := (Kd.V_reads' HO_37.out).1; omega))
                 obtain ⟨ua613_1, uc613_1, rfl, ul613_1, ge613_1⟩ := k49_openF hMe613
                 have hv613_1 := hcc613 1 _ rfl
                 rw [add_field _ _ 1 (by omega)] at hv613_1
                 replace hv613_1 := Option.some.inj (hv613_1.symm.trans hx613_1)
                 injection hv613_1 with hva_ hvn_ hvc_
                 rw [hva_] at ge613_1
                 rw [hvc_] at ul613_1
                 have HL613_1 := Aside0.mk (show Kd.V (Kd.int .i64) 3 _ w.heap.size _ _ ((rd_T49 x609001_2 x39_4).f1) from Kd.V_mk ul613_1 ge613_1)
                 clear hva_ hvn_ hvc_ ge613_1 ul613_1
                 clear hcc613 hce613
                 have HR613_1 := Aside0.mk hi613_1
                 have HC613_1 := Aside0.mk hl613_1
                 clear hi613_1 hl613_1
                 replace p613 := eq_true p613
                 replace q613 := eq_true q613
                 go_wp2_with (first | ((with_reducible refine gate_dst (N := 10) rfl ?_); (try (refine gate_guard (by rfl) ?_; dsimp only)); refine box_event ?hg (N := 10) ?hd (cs := #[.int .i64 0, .slice none 0 0, .int .i64 0]) (t := 49) ?hr ?_; (case hd => rfl); (case hg => rfl); (case hr => first | (go_simp; done) | (go_simp; rfl)); intro gb614 hg w31 hbox hb; have n0_ := Aside0.mk (Kd.V_below (Kd.V_elderB (by exact HO_37.out) gb614 (Nat.le_of_eq hg.symm)) hb); have n1_ := Aside0.mk (Kd.V_below (Kd.V_elderB (by exact HO_609000.out) gb614 (Nat.le_of_eq hg.symm)) hb); have n2_ := Aside0.mk (Kd.V_below (Kd.V_elderB (by exact HO_609001.out) gb614 (Nat.le_of_eq hg.symm)) hb); have n3_ := Aside0.mk (Kd.V_below (Kd.V_elderB (by exact HO_609002.out) gb614 (Nat.le_of_eq hg.symm)) hb); have n4_ := Aside0.mk (Kd.V_below (Kd.V_elderB (by exact HL613_1.out) gb614 (Nat.le_of_eq hg.symm)) hb); have n5_ := Aside0.mk (blk_below (g := gb608) (o := .cells #[.slice Ao18 x609000_2.length co18, .slice (some ad613) x609001_2.length co19, .slice Ao20 x609002_2.length co20] 31 (0, 0)) (by exact BK608.out) hb); have n6_ := Aside0.mk (Kd.C_below (by repeat (first | (with_reducible exact HR613_1.out) | (with_reducible refine Kd.C_alloc ?_ _) | (with_reducible refine Kd.C_drewN ?_ _) | (with_reducible refine Kd.C_drew ?_) | exact HR613_1.out)) hb); have n7_ := Aside0.mk (below_step (by exact HB.out) hb); have n8_ := Aside0.mk (hbox); have n9_ := Aside0.mk ((by rw [hg]; exact (below_size (by exact HB.out)) : w.heap.size ≤ gb614)); have n10_ := Aside0.mk ((by rw [hg]; exact (below_size (by exact HB.out)) : w.heap.size ≤ gb614)); have n11_ := Aside0.mk ((by rw [hg]; exact Nat.ne_of_lt (blk_lt (g := gb608) (o := .cells #[.slice Ao18 x609000_2.length co18, .slice (some ad613) x609001_2.length co19, .slice Ao20 x609002_2.length co20] 31 (0, 0)) (by exact BK608.out)) : gb608 ≠ gb614)); have n12_ := Aside0.mk ((by rw [hg]; exact Nat.ne_of_gt (blk_lt (g := gb608) (o := .cells #[.slice Ao18 x609000_2.length co18, .slice (some ad613) x609001_2.length co19, .slice Ao20 x609002_2.length co20] 31 (0, 0)) (by exact BK608.out)) : gb614 ≠ gb608)); clear HO_37; clear HO_609000; clear HO_609001; clear HO_609002; clear HL613_1; clear BK608; clear HR613_1; clear HB; have HO_37 := n0_; have HO_609000 := n1_; have HO_609001 := n2_; have HO_609002 := n3_; have HL613_1 := n4_; have BK608 := n5_; have HR613_1 := n6_; have HB := n7_; have BK614 := n8_; have GW614 := n9_; have GE614 := n10_; have NB608_614 := n11_; have NB614_608 := n12_; clear n0_ n1_ n2_ n3_ n4_ n5_ n6_ n7_ n8_ n9_ n10_ n11_ n12_; clear hb hbox hg; have hnb32 := NB614_608.out; have hnc32 := NB608_614.out; have hcz33_0 : w31.cell? ⟨gb614, 0, none⟩ = some (.int .i64 0) := (blk_cell BK614.out 0).trans rfl; have hcz33_1 : w31.cell? ⟨gb614, 1, none⟩ = some (.slice none 0 0) := (blk_cell BK614.out 1).trans rfl; have hcz33_2 : w31.cell? ⟨gb614, 2, none⟩ = some (.int .i64 0) := (blk_cell BK614.out 2).trans rfl; have hfz33_0 := blk_frozen BK614.out 0; have hfz33_1 := blk_frozen BK614.out 1; have hfz33_2 := blk_frozen BK614.out 2))
                 go_roundg k4
                 case measure => have := HJ2.out; have := HK2.out; have := HJ15.out; have := HK4.out; omega
                 case rel => exact ⟨(wrap64 (x5_4 + ((rd_T49 x609001_2 x39_4).f2))), (wrap64 (x39_4 + 1)), (by first | rfl | (simp; done) | (simp [*]; done)), (by first | rfl | (simp; done) | (simp [*]; done)), H', ⟨by have := HJ2.out; have := HK2.out; have := HJ15.out; have := HK4.out; omega⟩, ⟨by exact Kd.V_mono (Kd.V_far (p := ⟨gb614, 2, none⟩) (Kd.V_far (p := ⟨gb614, 1, none⟩) (Kd.V_far (p := ⟨gb614, 0, none⟩) (Kd.V_mono HO_37.out (fun k_ hk => (⟨hk, hk.2⟩ : _ ∧ k_ ≠ gb614))) (fun _ hk => hk.2) (.int .i64 ((rd_T49 x609001_2 x39_4).f0))) (fun _ hk => hk.2) (.slice A613_1 ((rd_T49 x609001_2 x39_4).f1).length c613_1)) (fun _ hk => hk.2) (.int .i64 ((rd_T49 x609001_2 x39_4).f2))) (fun _ hk => ⟨hk.1.1.1, hk.1.1.2⟩)⟩, ⟨by exact Kd.V_mono (Kd.V_far (p := ⟨gb614, 2, none⟩) (Kd.V_far (p := ⟨gb614, 1, none⟩) (Kd.V_far (p := ⟨gb614, 0, none⟩) (Kd.V_mono HO_609000.out (fun k_ hk => (⟨hk, hk.2⟩ : _ ∧ k_ ≠ gb614))) (fun _ hk => hk.2) (.int .i64 ((rd_T49 x609001_2 x39_4).f0))) (fun _ hk => hk.2) (.slice A613_1 ((rd_T49 x609001_2 x39_4).f1).length c613_1)) (fun _ hk => hk.2) (.int .i64 ((rd_T49 x609001_2 x39_4).f2))) (fun _ hk => ⟨hk.1.1.1, hk.1.1.2⟩)⟩, ⟨by exact Kd.V_mono (Kd.V_far (p := ⟨gb614, 2, none⟩) (Kd.V_far (p := ⟨gb614, 1, none⟩) (Kd.V_far (p := ⟨gb614, 0, none⟩) (Kd.V_mono HO_609001.out (fun k_ hk => (⟨hk, hk.2⟩ : _ ∧ k_ ≠ gb614))) (fun _ hk => hk.2) (.int .i64 ((rd_T49 x609001_2 x39_4).f0))) (fun _ hk => hk.2) (.slice A613_1 ((rd_T49 x609001_2 x39_4).f1).length c613_1)) (fun _ hk => hk.2) (.int .i64 ((rd_T49 x609001_2 x39_4).f2))) (fun _ hk => ⟨hk.1.1.1, hk.1.1.2⟩)⟩, ⟨by exact Kd.V_mono (Kd.V_far (p := ⟨gb614, 2, none⟩) (Kd.V_far (p := ⟨gb614, 1, none⟩) (Kd.V_far (p := ⟨gb614, 0, none⟩) (Kd.V_mono HO_609002.out (fun k_ hk => (⟨hk, hk.2⟩ : _ ∧ k_ ≠ gb614))) (fun _ hk => hk.2) (.int .i64 ((rd_T49 x609001_2 x39_4).f0))) (fun _ hk => hk.2) (.slice A613_1 ((rd_T49 x609001_2 x39_4).f1).length c613_1)) (fun _ hk => hk.2) (.int .i64 ((rd_T49 x609001_2 x39_4).f2))) (fun _ hk => ⟨hk.1.1.1, hk.1.1.2⟩)⟩, ⟨by refine blk_far ?_ NB608_614.out _; refine blk_far ?_ NB608_614.out _; refine blk_far ?_ NB608_614.out _; exact BK608.out⟩, ⟨by repeat (first | (with_reducible first | exact HB.out | apply below_alloc | apply pw_below_drewN | apply below_drew1 | refine below_set ?_ GE608.out | refine below_set ?_ GE614.out) | exact HB.out)⟩⟩
                ·rw [if_neg c30] at H
                 exact absurd H (by simp)
               ·rw [if_neg c29] at H
                exact absurd H (by simp)
              ·rw [if_neg c28] at H
               have c28b0 : decide (x39_4 < (x609001_2.length : Int)) = false := decide_eq_false c28
               clear c28
               replace H := Option.bind_eq_some_iff.mp H
               obtain ⟨⟨t615, t618, t621⟩, A340, H⟩ := H
               replace H : (impl_Cost.l0 k4 x5_4 l1 (l1.length : Int) (wrap64 (x21_2 + 1)) t615 t618 t621) = some r := H
               have A34 := Aside0.mk A340
               clear A340
               have H' := Aside0.mk H
               clear H
               have hcz35_0 : wr.cell? ⟨gb608, 0, none⟩ = some (.slice Ao18 x609000_2.length co18) := (blk_cell BK608.out 0).trans rfl
               have hcz35_1 : wr.cell? ⟨gb608, 1, none⟩ = some (.slice Ao19 x609001_2.length co19) := (blk_cell BK608.out 1).trans rfl
               have hcz35_2 : wr.cell? ⟨gb608, 2, none⟩ = some (.slice Ao20 x609002_2.length co20) := (blk_cell BK608.out 2).trans rfl
               have hfz35_0 := blk_frozen BK608.out 0
               have hfz35_1 := blk_frozen BK608.out 1
               have hfz35_2 := blk_frozen BK608.out 2
               go_wp2_with (first | ((with_reducible refine gate_callee (f := 52) rfl ?_); refine goesL_ (some 50) rfl rfl Try.func52 (by kernel_rfl) rfl #[.agg #[.slice Ao18 x609000_2.length co18, .slice Ao19 x609001_2.length co19, .slice Ao20 x609002_2.length co20], .int .i64 t611] rfl (by (try simp only [List.map_toArray, List.map_cons, List.map_nil]); first | done | rfl | (simp only [List.length_drop, List.length_take]; rfl)) ?_; (with_reducible refine (impl_step.calls k4 _ _ x609000_2 _ _ x609001_2 _ _ x609002_2 t611 t615 t618 t621 _ ?side1 ?side2 ?side3 ?side4 ?side5 ?side6 A34.out).mono ?_); (case side1 => repeat (first | exact (Kd.V_reads' HO_609000.out).2.2 | (with_reducible refine Kd.C_alloc ?_ _) | (with_reducible refine Kd.C_drewN ?_ _) | (with_reducible refine Kd.C_drew ?_))); (case side2 => exact (Kd.V_reads' HO_609000.out).2.1); (case side3 => repeat (first | exact (Kd.V_reads' HO_609001.out).2.2 | (with_reducible refine Kd.C_alloc ?_ _) | (with_reducible refine Kd.C_drewN ?_ _) | (with_reducible refine Kd.C_drew ?_))); (case side4 => exact (Kd.V_reads' HO_609001.out).2.1); (case side5 => repeat (first | exact (Kd.V_reads' HO_609002.out).2.2 | (with_reducible refine Kd.C_alloc ?_ _) | (with_reducible refine Kd.C_drewN ?_ _) | (with_reducible refine Kd.C_drew ?_))); (case side6 => exact (Kd.V_reads' HO_609002.out).2.1); rintro e w36 ⟨v616, v619, v622, rfl, ho0, ho1, ho2, hb⟩; refine ⟨_, rfl, ?_⟩; have n0_ := Aside0.mk (Kd.V_mono (Kd.V_told (Kd.V_told (Kd.V_told (Kd.V_old (by exact HO_37.out) hb) (Kd.R_base ho0)) (Kd.N_base ho1)) (Kd.R_base ho2)) (fun _ h_ => h_.1)); have n1_ := Aside0.mk (Kd.V_mono (Kd.V_told (Kd.V_told (Kd.V_told (Kd.V_old (by exact HO_609000.out) hb) (Kd.R_base ho0)) (Kd.N_base ho1)) (Kd.R_base ho2)) (fun _ h_ => h_.1)); have n2_ := Aside0.mk (Kd.V_mono (Kd.V_told (Kd.V_told (Kd.V_told (Kd.V_old (by exact HO_609001.out) hb) (Kd.R_base ho0)) (Kd.N_base ho1)) (Kd.R_base ho2)) (fun _ h_ => h_.1)); have n3_ := Aside0.mk (Kd.V_mono (Kd.V_told (Kd.V_told (Kd.V_told (Kd.V_old (by exact HO_609002.out) hb) (Kd.R_base ho0)) (Kd.N_base ho1)) (Kd.R_base ho2)) (fun _ h_ => h_.1)); have n4_ := Aside0.mk (Kd.R_lower (Kd.R_newM (M := fun k_ => (w.heap.size ≤ k_)) (Kd.R_mono (ok' := fun k_ => some k_ ≠ (v622 : Value).ownBlock) ho0 (fun _ hk_ => hk_.2)) (below_size (by exact HB.out)) (fun k_ h_ => h_)) (below_size (by exact HB.out))); have n5_ := Aside0.mk (Kd.N_lower (Kd.N_mono (ok' := fun k_ => ((P0_0_ k_ ∨ P0_1_ k_ ∨ P0_2_ k_) ∨ w.heap.size ≤ k_) ∧ some k_ ≠ (v616 : Value).ownBlock ∧ some k_ ≠ (v622 : Value).ownBlock ∧ k_ ≠ gb608) ho1 (fun k_ hk_ => ⟨(.inr (Nat.le_trans (below_size (by exact HB.out)) hk_.1)), hk_.2.1, hk_.2.2, (Kd.freshB (g := gb608) (o := .cells #[.slice Ao18 x609000_2.length co18, .slice Ao19 x609001_2.length co19, .slice Ao20 x609002_2.length co20] 31 (0, 0)) (by exact BK608.out) k_ hk_.1)⟩)) (below_size (by exact HB.out))); have n6_ := Aside0.mk (Kd.R_lower (Kd.R_newM (M := fun k_ => (w.heap.size ≤ k_)) (Kd.R_mono (ok' := fun k_ => some k_ ≠ (v616 : Value).ownBlock) ho2 (fun _ hk_ => hk_.2)) (below_size (by exact HB.out)) (fun k_ h_ => h_)) (below_size (by exact HB.out))); have n7_ := Aside0.mk (blk_below (g := gb608) (o := .cells #[.slice Ao18 x609000_2.length co18, .slice Ao19 x609001_2.length co19, .slice Ao20 x609002_2.length co20] 31 (0, 0)) (by exact BK608.out) hb); have n8_ := Aside0.mk (below_step (by exact HB.out) hb); clear HO_37; clear HO_609000; clear HO_609001; clear HO_609002; clear BK608; clear HB; have HO_37 := n0_; have HO_609000 := n1_; have HO_609001 := n2_; have HO_609002 := n3_; have HO617 := n4_; have HO620 := n5_; have HO623 := n6_; have BK608 := n7_; have HB := n8_; clear n0_ n1_ n2_ n3_ n4_ n5_ n6_ n7_ n8_; (try clear hb); (try clear hb2); (try clear hk); (try clear hi); (try clear ho0); (try clear ho1); (try clear ho2); obtain ⟨Ao37, co37, eo37⟩ := Kd.R_slice HO617.out; subst eo37; have hcz38_0 : w36.cell? ⟨gb608, 0, none⟩ = some (.slice Ao18 x609000_2.length co18) := (blk_cell BK608.out 0).trans rfl; have hcz38_1 : w36.cell? ⟨gb608, 1, none⟩ = some (.slice Ao19 x609001_2.length co19) := (blk_cell BK608.out 1).trans rfl; have hcz38_2 : w36.cell? ⟨gb608, 2, none⟩ = some (.slice Ao20 x609002_2.length co20) := (blk_cell BK608.out 2).trans rfl; have hfz38_0 := blk_frozen BK608.out 0; have hfz38_1 := blk_frozen BK608.out 1; have hfz38_2 := blk_frozen BK608.out 2; obtain ⟨Ao39, co39, eo39⟩ := Kd.N_slice HO620.out; subst eo39; obtain ⟨Ao40, co40, eo40⟩ := Kd.R_slice HO623.out; subst eo40))
               go_roundg k4
               case measure => have := HJ2.out; have := HK2.out; have := HJ15.out; have := HK4.out; omega
               case rel => exact ⟨(x5_4), (wrap64 (x21_2 + 1)), (t615), (t618), (t621), (.slice Ao37 t615.length co37), (.slice Ao39 t618.length co39), (.slice Ao40 t621.length co40), (by first | rfl | (simp; done) | (simp [*]; done)), (by first | rfl | (simp; done) | (simp [*]; done)), H', ⟨by have := HJ2.out; have := HK2.out; have := HJ15.out; have := HK4.out; omega⟩, ⟨Kd.V_mono (Kd.R_V (by exact Kd.R_mono (Kd.R_far (p := ⟨gb608, 2, none⟩) (Kd.R_far (p := ⟨gb608, 1, none⟩) (Kd.R_far (p := ⟨gb608, 0, none⟩) (Kd.R_types (Kd.R_types HO617.out BK608.out (by decide)) BK608.out (by decide)) (fun _ hk => hk.2) (.slice Ao37 t615.length co37)) (fun _ hk => hk.2) (.slice Ao39 t618.length co39)) (fun _ hk => hk.2) (.slice Ao40 t621.length co40)) (fun k_ hk => (⟨hk.1.1.1, hk.1.2⟩ : _ ∧ k_ ≠ gb608)))) (fun k_ hk => by first | exact ⟨(.inr (hk.1)), hk.2⟩ | exact (.inr (hk)))⟩, ⟨Kd.N_V (by exact Kd.N_mono (Kd.N_far (p := ⟨gb608, 2, none⟩) (Kd.N_far (p := ⟨gb608, 1, none⟩) (Kd.N_far (p := ⟨gb608, 0, none⟩) (Kd.N_mono HO620.out (fun k_ hk => (⟨hk, hk.2.2.2⟩ : _ ∧ k_ ≠ gb608))) (fun _ hk => hk.2) (.slice Ao37 t615.length co37)) (fun _ hk => hk.2) (.slice Ao39 t618.length co39)) (fun _ hk => hk.2) (.slice Ao40 t621.length co40)) (fun _ hk => ⟨hk.1.1, hk.1.2.2.2⟩))⟩, ⟨Kd.V_mono (Kd.R_V (by exact Kd.R_mono (Kd.R_far (p := ⟨gb608, 2, none⟩) (Kd.R_far (p := ⟨gb608, 1, none⟩) (Kd.R_far (p := ⟨gb608, 0, none⟩) (Kd.R_types (Kd.R_types HO623.out BK608.out (by decide)) BK608.out (by decide)) (fun _ hk => hk.2) (.slice Ao37 t615.length co37)) (fun _ hk => hk.2) (.slice Ao39 t618.length co39)) (fun _ hk => hk.2) (.slice Ao40 t621.length co40)) (fun k_ hk => (⟨hk.1.1.1, hk.1.2⟩ : _ ∧ k_ ≠ gb608)))) (fun k_ hk => by first | exact ⟨(.inr (hk.1)), hk.2⟩ | exact (.inr (hk)))⟩, ⟨by refine blk_put (cs := #[.slice Ao37 t615.length co37, .slice Ao39 t618.length co39, .slice Ao20 x609002_2.length co20]) ?_ 2 _ rfl; refine blk_put (cs := #[.slice Ao37 t615.length co37, .slice Ao19 x609001_2.length co19, .slice Ao20 x609002_2.length co20]) ?_ 1 _ rfl; refine blk_put (cs := #[.slice Ao18 x609000_2.length co18, .slice Ao19 x609001_2.length co19, .slice Ao20 x609002_2.length co20]) ?_ 0 _ rfl; exact BK608.out⟩, ⟨by repeat (first | (with_reducible first | exact HB.out | apply below_alloc | apply pw_below_drewN | apply below_drew1 | refine below_set ?_ GE608.out) | exact HB.out)⟩⟩
        ·rw [if_neg c14] at H
         exact absurd H (by simp)
       ·rw [if_neg c13] at H
        exact absurd H (by simp)
      ·rw [if_neg c12] at H
       have c12b0 : decide (x21_2 < (l1.length : Int)) = false := decide_eq_false c12
       clear c12
       by_cases c41 : (x609001_2.length : Int) > 0
       ·rw [if_pos c41] at H
        have c41b0 : decide (0 < (x609001_2.length : Int)) = true := decide_eq_true c41
        have c41b1 : decide (0 < x609001_2.length) = true := decide_eq_true (by omega)
        clear c41
        obtain rfl := Option.some.inj H
        have hcz42_0 : wr.cell? ⟨gb608, 0, none⟩ = some (u609000) := (blk_cell BK608.out 0).trans rfl
        have hcz42_1 : wr.cell? ⟨gb608, 1, none⟩ = some (u609001) := (blk_cell BK608.out 1).trans rfl
        have hcz42_2 : wr.cell? ⟨gb608, 2, none⟩ = some (u609002) := (blk_cell BK608.out 2).trans rfl
        have hfz42_0 := blk_frozen BK608.out 0
        have hfz42_1 := blk_frozen BK608.out 1
        have hfz42_2 := blk_frozen BK608.out 2
        obtain ⟨Ao43, co43, eo43⟩ := Kd.V_slice HO_609001.out
        subst eo43
        go_wp2
        go_ret
        exact ⟨by first | rfl | (simp [errW_none, errW_some] <;> rfl) | (simp [*, errW_none, errW_some] <;> rfl), by exact HB.out⟩
       ·rw [if_neg c41] at H
        have c41b0 : decide (0 < (x609001_2.length : Int)) = false := decide_eq_false c41
        have c41b1 : decide (0 < x609001_2.length) = false := decide_eq_false (by omega)
        clear c41
        obtain rfl := Option.some.inj H
        have hcz44_0 : wr.cell? ⟨gb608, 0, none⟩ = some (u609000) := (blk_cell BK608.out 0).trans rfl
        have hcz44_1 : wr.cell? ⟨gb608, 1, none⟩ = some (u609001) := (blk_cell BK608.out 1).trans rfl
        have hcz44_2 : wr.cell? ⟨gb608, 2, none⟩ = some (u609002) := (blk_cell BK608.out 2).trans rfl
        have hfz44_0 := blk_frozen BK608.out 0
        have hfz44_1 := blk_frozen BK608.out 1
        have hfz44_2 := blk_frozen BK608.out 2
        obtain ⟨Ao45, co45, eo45⟩ := Kd.V_slice HO_609001.out
        subst eo45
        go_wp2
        go_ret
        exact ⟨by first | rfl | (simp [errW_none, errW_some] <;> rfl) | (simp [*, errW_none, errW_some] <;> rfl), by exact HB.out⟩


end Go.Proofs.Ytncckjibiffnaaa.Q
