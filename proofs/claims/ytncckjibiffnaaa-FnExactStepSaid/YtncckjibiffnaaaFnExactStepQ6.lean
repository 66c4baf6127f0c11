-- Written by programs of this session (wip/drv.py, wip/mkclaim.py) over the kit's print; not trusted: Lean checks it.
import Derived.Test.YtncckjibiffnaaaFnExactStepQ0
import Derived.Test.YtncckjibiffnaaaFnExactStepQ5
namespace Go.Proofs.Ytncckjibiffnaaa.Q
open Go.RowKit Go.Proofs.YtncckjibiffnaaaW.PrintWords Go.Proofs.YtncckjibiffnaaaW.PrintLast Go.Proofs.YtncckjibiffnaaaW.PrintMore
attribute [local go_sem] max2_int min2_int max_two min_two max_three min_three max_four min_four   -- for this text's walks alone
set_option linter.unusedVariables false
set_option linter.unusedSimpArgs false

/-! ### spec_l1step: function 51 -/
def spec_l1step.f (k : Nat) (l0_0 : List Int) (l0_1 : List (S49)) (l0_2 : List Int) (a1 : Int) : Option (List Int × (List (S49)) × List Int) := (spec_l1copy.f k l0_0 l0_1 l0_2).bind fun bt477 => (if 0 ≤ a1 then (if a1 < (bt477.2.1.length : Int) then (if (((rd_T49 bt477.2.1 a1).f1).length : Int) > 0 then (if 0 < (((rd_T49 bt477.2.1 a1).f1).length : Int) then ((some (bt477.2.1.set (a1 : Int).toNat (⟨rd ((rd_T49 bt477.2.1 a1).f1) 0, (rd_T49 bt477.2.1 a1).f1, (rd_T49 bt477.2.1 a1).f2⟩ : S49) : List (S49))).bind fun y490 => (if 1 ≤ (((rd_T49 y490 a1).f1).length : Int) then (some (bt477.1, (y490.set (a1 : Int).toNat (⟨(rd_T49 y490 a1).f0, (((rd_T49 y490 a1).f1).drop 1), (rd_T49 y490 a1).f2⟩ : S49)), bt477.2.2)) else (none))) else (none)) else (if a1 ≤ (bt477.2.1.length : Int) then (if 0 ≤ (wrap64 (a1 + 1)) then (if (wrap64 (a1 + 1)) ≤ (bt477.2.1.length : Int) then (if a1 ≤ (bt477.2.2.length : Int) then (if (wrap64 (a1 + 1)) ≤ (bt477.2.2.length : Int) then (some (bt477.1, (bt477.2.1.eraseIdx (a1 : Int).toNat), (bt477.2.2.eraseIdx (a1 : Int).toNat))) else (none)) else (none)) else (none)) else (none)) else (none))) else (none)) else (none))
theorem spec_l1step.mono : ∀ a0 a1 a2 a3 k, LeO (spec_l1step.f k a0 a1 a2 a3) (spec_l1step.f (k + 1) a0 a1 a2 a3) := by
 intro a0 a1 a2 a3 k
 unfold spec_l1step.f
 repeat' first
   | (with_reducible exact spec_l1copy.mono _ _ _ _)
   | (with_reducible exact LeO.refl _)
   | (with_reducible exact LeO.none _)
   | (with_reducible refine LeO.ite ?_ ?_)
   | (with_reducible refine LeO.bind ?_ (fun _ => ?_))
   | exact spec_l1copy.mono _ _ _ _
   | exact LeO.none _
   | refine LeO.ite ?_ ?_
   | refine LeO.bind ?_ (fun _ => ?_)
def spec_l1step.T3 : Bool × List (List Nat × List Nat) := (true, [([], []), ([0], [0]), ([], []), ([], []), ([3], [3]), ([], []), ([4, 5], [4, 5]), ([6], [6]), ([7], [7]), ([8], [8]), ([9], [9]), ([1, 2, 0, 1, 2, 3, 4, 5, 6, 7, 8, 9, 10], [1, 2]), ([11, 0, 1, 2, 3, 4, 5, 6, 7, 8, 9, 10], [11]), ([12, 10, 0, 1, 2, 3, 4, 5, 6, 7, 8, 9, 10], [10, 12])])
def spec_l1step.B3 : List Nat := [0, 1, 0, 0, 8, 0, 56, 120, 248, 504, 1016, 2047, 4095, 8191]
theorem spec_l1step.tab3 : rtab .any (opsOf Try.f51 3) = spec_l1step.T3 := by kernel_rfl
theorem spec_l1step.bits3 : waitsOk spec_l1step.T3.2 spec_l1step.B3 = true := by kernel_rfl
def spec_l1step.T4 : Bool × List (List Nat × List Nat) := (true, [([], []), ([0], [0]), ([], []), ([], []), ([3], [3]), ([], []), ([4, 5], [4, 5]), ([6], [6]), ([7], [7]), ([8], [8]), ([1, 2, 0, 1, 2, 3, 4, 5, 6, 7, 8, 9], [1, 2]), ([10, 0, 1, 2, 3, 4, 5, 6, 7, 8, 9], [10]), ([11, 9, 0, 1, 2, 3, 4, 5, 6, 7, 8, 9], [9, 11])])
def spec_l1step.B4 : List Nat := [0, 1, 0, 0, 8, 0, 56, 120, 248, 504, 1023, 2047, 4095]
theorem spec_l1step.tab4 : rtab .any (opsOf Try.f51 4) = spec_l1step.T4 := by kernel_rfl
theorem spec_l1step.bits4 : waitsOk spec_l1step.T4.2 spec_l1step.B4 = true := by kernel_rfl
def spec_l1step.T6 : Bool × List (List Nat × List Nat) := (true, [([], []), ([0], [0]), ([], []), ([1, 2], [1, 2]), ([], []), ([4], [4]), ([], []), ([6], [6]), ([5, 7], [5, 7]), ([3, 8], [3, 8]), ([0, 1, 2, 3, 4, 5, 6, 7, 8, 9], []), ([10, 9, 9, 0, 1, 2, 3, 4, 5, 6, 7, 8, 9], [9, 10])])
def spec_l1step.B6 : List Nat := [0, 1, 0, 7, 0, 16, 0, 64, 240, 511, 1023, 2047]
theorem spec_l1step.tab6 : rtab .any (opsOf Try.f51 6) = spec_l1step.T6 := by kernel_rfl
theorem spec_l1step.bits6 : waitsOk spec_l1step.T6.2 spec_l1step.B6 = true := by kernel_rfl
def spec_l1step.T7 : Bool × List (List Nat × List Nat) := (true, [([], []), ([0], [0]), ([], []), ([1, 2], [1, 2]), ([], []), ([4], [4]), ([], []), ([6], [6]), ([5, 7], [5, 7]), ([3, 8], [3, 8]), ([0, 1, 2, 3, 4, 5, 6, 7, 8, 9], []), ([10, 9, 9, 0, 1, 2, 3, 4, 5, 6, 7, 8, 9], [9, 10])])
def spec_l1step.B7 : List Nat := [0, 1, 0, 7, 0, 16, 0, 64, 240, 511, 1023, 2047]
theorem spec_l1step.tab7 : rtab .any (opsOf Try.f51 7) = spec_l1step.T7 := by kernel_rfl
theorem spec_l1step.bits7 : waitsOk spec_l1step.T7.2 spec_l1step.B7 = true := by kernel_rfl
set_option maxHeartbeats 8000000 in
set_option maxRecDepth 100000 in
theorem spec_l1step.calls (k : Nat) (A0_0 : Option Addr) (c0_0 : Nat) (l0_0 : List Int) (A0_1 : Option Addr) (c0_1 : Nat) (l0_1 : List (S49)) (A0_2 : Option Addr) (c0_2 : Nat) (l0_2 : List Int) (a1 : Int) (r1 : List Int) (r2 : List (S49)) (r3 : List Int) (w : World) (hr0_0 : Kd.C (Kd.int .i64) w A0_0 l0_0.length l0_0) (hc0_0 : l0_0.length ≤ c0_0) (hr0_1 : Kd.C k49 w A0_1 l0_1.length l0_1) (hc0_1 : l0_1.length ≤ c0_1) (hr0_2 : Kd.C (Kd.int .i64) w A0_2 l0_2.length l0_2) (hc0_2 : l0_2.length ≤ c0_2) (h : spec_l1step.f k l0_0 l0_1 l0_2 a1 = some (r1, r2, r3)) :
  Calls Try.prog 51 #[.agg #[.slice A0_0 l0_0.length c0_0, .slice A0_1 l0_1.length c0_1, .slice A0_2 l0_2.length c0_2], .int .i64 a1] w fun e w' => ∃ v0_ v1_ v2_ : Value, e = .returned (.agg #[v0_, v1_, v2_]) ∧ Kd.R (Kd.int .i64) 3 w' w.heap.size (fun k_ => (w.heap.size ≤ k_) ∧ some k_ ≠ (v2_ : Value).ownBlock) v0_ r1 ∧ Kd.N k49 49 w' w.heap.size (fun k_ => (w.heap.size ≤ k_) ∧ some k_ ≠ (v0_ : Value).ownBlock ∧ some k_ ≠ (v2_ : Value).ownBlock) v1_ r2 ∧ Kd.R (Kd.int .i64) 3 w' w.heap.size (fun k_ => (w.heap.size ≤ k_) ∧ some k_ ≠ (v0_ : Value).ownBlock) v2_ r3 ∧ Below w.heap.size w w' := by
 have hu31 := Try.underlying31
 have HR0_0 := Aside0.mk hr0_0
 have HC0_0 := Aside0.mk hc0_0
 clear hr0_0 hc0_0
 have HR0_1 := Aside0.mk hr0_1
 have HC0_1 := Aside0.mk hc0_1
 clear hr0_1 hc0_1
 have HR0_2 := Aside0.mk hr0_2
 have HC0_2 := Aside0.mk hc0_2
 clear hr0_2 hc0_2
 have HB := Aside0.mk (Below.refl w.heap.size w)
 have H : ((spec_l1copy.f k l0_0 l0_1 l0_2).bind fun bt477 => (if 0 ≤ a1 then (if a1 < (bt477.2.1.length : Int) then (if (((rd_T49 bt477.2.1 a1).f1).length : Int) > 0 then (if 0 < (((rd_T49 bt477.2.1 a1).f1).length : Int) then ((some (bt477.2.1.set (a1 : Int).toNat (⟨rd ((rd_T49 bt477.2.1 a1).f1) 0, (rd_T49 bt477.2.1 a1).f1, (rd_T49 bt477.2.1 a1).f2⟩ : S49) : List (S49))).bind fun y490 => (if 1 ≤ (((rd_T49 y490 a1).f1).length : Int) then (some (bt477.1, (y490.set (a1 : Int).toNat (⟨(rd_T49 y490 a1).f0, (((rd_T49 y490 a1).f1).drop 1), (rd_T49 y490 a1).f2⟩ : S49)), bt477.2.2)) else (none))) else (none)) else (if a1 ≤ (bt477.2.1.length : Int) then (if 0 ≤ (wrap64 (a1 + 1)) then (if (wrap64 (a1 + 1)) ≤ (bt477.2.1.length : Int) then (if a1 ≤ (bt477.2.2.length : Int) then (if (wrap64 (a1 + 1)) ≤ (bt477.2.2.length : Int) then (some (bt477.1, (bt477.2.1.eraseIdx (a1 : Int).toNat), (bt477.2.2.eraseIdx (a1 : Int).toNat))) else (none)) else (none)) else (none)) else (none)) else (none))) else (none)) else (none))) = some (r1, r2, r3) := h
 clear h
 replace H := Option.bind_eq_some_iff.mp H
 obtain ⟨⟨t477, t480, t483⟩, A30, H⟩ := H
 replace H : (if 0 ≤ a1 then (if a1 < (t480.length : Int) then (if (((rd_T49 t480 a1).f1).length : Int) > 0 then (if 0 < (((rd_T49 t480 a1).f1).length : Int) then ((some (t480.set (a1 : Int).toNat (⟨rd ((rd_T49 t480 a1).f1) 0, (rd_T49 t480 a1).f1, (rd_T49 t480 a1).f2⟩ : S49) : List (S49))).bind fun y490 => (if 1 ≤ (((rd_T49 y490 a1).f1).length : Int) then (some (t477, (y490.set (a1 : Int).toNat (⟨(rd_T49 y490 a1).f0, (((rd_T49 y490 a1).f1).drop 1), (rd_T49 y490 a1).f2⟩ : S49)), t483)) else (none))) else (none)) else (if a1 ≤ (t480.length : Int) then (if 0 ≤ (wrap64 (a1 + 1)) then (if (wrap64 (a1 + 1)) ≤ (t480.length : Int) then (if a1 ≤ (t483.length : Int) then (if (wrap64 (a1 + 1)) ≤ (t483.length : Int) then (some (t477, (t480.eraseIdx (a1 : Int).toNat), (t483.eraseIdx (a1 : Int).toNat))) else (none)) else (none)) else (none)) else (none)) else (none))) else (none)) else (none)) = some (r1, r2, r3) := H
 have A3 := Aside0.mk A30
 clear A30
 by_cases c4 : 0 ≤ a1
 ·rw [if_pos c4] at H
  have c4b0 : decide (0 ≤ a1) = true := decide_eq_true c4
  clear c4
  by_cases c5 : a1 < (t480.length : Int)
  ·rw [if_pos c5] at H
   have c5b0 : decide (a1 < (t480.length : Int)) = true := decide_eq_true c5
   clear c5
   by_cases c6 : (((rd_T49 t480 a1).f1).length : Int) > 0
   ·rw [if_pos c6] at H
    have c6b0 : decide (0 < (((rd_T49 t480 a1).f1).length : Int)) = true := decide_eq_true c6
    have c6b1 : decide (0 < ((rd_T49 t480 a1).f1).length) = true := decide_eq_true (by omega)
    clear c6
    by_cases c7 : 0 < (((rd_T49 t480 a1).f1).length : Int)
    ·rw [if_pos c7] at H
     have c7b0 : decide (0 < (((rd_T49 t480 a1).f1).length : Int)) = true := decide_eq_true c7
     have c7b1 : decide (0 < ((rd_T49 t480 a1).f1).length) = true := decide_eq_true (by omega)
     clear c7
     obtain ⟨y490, hy490⟩ : ∃ y_ : List (S49), y_ = (t480.set (a1 : Int).toNat (⟨rd ((rd_T49 t480 a1).f1) 0, (rd_T49 t480 a1).f1, (rd_T49 t480 a1).f2⟩ : S49)) := ⟨_, rfl⟩
     replace H : (if 1 ≤ (((rd_T49 y490 a1).f1).length : Int) then (some (t477, (y490.set (a1 : Int).toNat (⟨(rd_T49 y490 a1).f0, (((rd_T49 y490 a1).f1).drop 1), (rd_T49 y490 a1).f2⟩ : S49)), t483)) else (none)) = some (r1, r2, r3) := by first | (rw [hy490]; with_reducible exact H) | (have H2_ := (Option.bind_some _ _).symm.trans H; rw [hy490]; with_reducible exact H2_) | (have H2_ := (Option.bind_some _ _).symm.trans H; with_reducible exact H2_) | with_reducible exact H | (rw [hy490]; exact H) | exact H
     have Ny490 := Aside0.mk hy490
     clear hy490
     by_cases c9 : 1 ≤ (((rd_T49 y490 a1).f1).length : Int)
     ·rw [if_pos c9] at H
      have c9b0 := eq_true c9
      have c9b1 : decide (1 ≤ (((rd_T49 y490 a1).f1).length : Int)) = true := decide_eq_true c9
      clear c9
      obtain ⟨y492, hy492⟩ : ∃ y_ : List Int, y_ = (((rd_T49 y490 a1).f1).drop 1) := ⟨_, rfl⟩
      replace H : (some (t477, (y490.set (a1 : Int).toNat (⟨(rd_T49 y490 a1).f0, y492, (rd_T49 y490 a1).f2⟩ : S49)), t483)) = some (r1, r2, r3) := by first | (rw [hy492]; with_reducible exact H) | (have H2_ := (Option.bind_some _ _).symm.trans H; rw [hy492]; with_reducible exact H2_) | (have H2_ := (Option.bind_some _ _).symm.trans H; with_reducible exact H2_) | with_reducible exact H | (rw [hy492]; exact H) | exact H
      have Ny492 := Aside0.mk hy492
      clear hy492
      obtain ⟨y497, hy497⟩ : ∃ y_ : List (S49), y_ = (y490.set (a1 : Int).toNat (⟨(rd_T49 y490 a1).f0, y492, (rd_T49 y490 a1).f2⟩ : S49)) := ⟨_, rfl⟩
      replace H : (some (t477, y497, t483)) = some (r1, r2, r3) := by first | (rw [hy497]; with_reducible exact H) | (have H2_ := (Option.bind_some _ _).symm.trans H; rw [hy497]; with_reducible exact H2_) | (have H2_ := (Option.bind_some _ _).symm.trans H; with_reducible exact H2_) | with_reducible exact H | (rw [hy497]; exact H) | exact H
      have Ny497 := Aside0.mk hy497
      clear hy497
      simp only [Option.some.injEq, Prod.mk.injEq] at H
      obtain ⟨rfl, rfl, rfl⟩ := H
      go_enter Try.func51, Try.ntmps51
      try go_wp2_with (first | ((with_reducible refine gate_dst (N := 2) rfl ?_); refine box_event ?hg (N := 2) ?hd (cs := #[.slice A0_0 l0_0.length c0_0, .slice A0_1 l0_1.length c0_1, .slice A0_2 l0_2.length c0_2]) (t := 31) ?hr ?_; (case hd => rfl); (case hg => rfl); (case hr => first | (go_simp; done) | (go_simp; rfl)); intro gb475 hg w11 hbox hb; have n0_ := Aside0.mk (below_step (by exact HB.out) hb); have n1_ := Aside0.mk (hbox); have n2_ := Aside0.mk ((by rw [hg]; exact (below_size (by exact HB.out)) : w.heap.size ≤ gb475)); have n3_ := Aside0.mk ((by rw [hg]; exact (below_size (by exact HB.out)) : w.heap.size ≤ gb475)); clear HB; have HB := n0_; have BK475 := n1_; have GW475 := n2_; have GE475 := n3_; clear n0_ n1_ n2_ n3_; clear hb hbox hg) | ((with_reducible refine gate_dst (N := 4) rfl ?_); refine box_event ?hg (N := 4) ?hd (cs := #[.slice none 0 0, .slice none 0 0, .slice none 0 0]) (t := 31) ?hr ?_; (case hd => rfl); (case hg => rfl); (case hr => first | (go_simp; done) | (go_simp; rfl)); intro gb476 hg w12 hbox hb; have n0_ := Aside0.mk (blk_below (g := gb475) (o := .cells #[.slice A0_0 l0_0.length c0_0, .slice A0_1 l0_1.length c0_1, .slice A0_2 l0_2.length c0_2] 31 (0, 0)) (by exact BK475.out) hb); have n1_ := Aside0.mk (below_step (by exact HB.out) hb); have n2_ := Aside0.mk (hbox); have n3_ := Aside0.mk ((by rw [hg]; exact (below_size (by exact HB.out)) : w.heap.size ≤ gb476)); have n4_ := Aside0.mk ((by rw [hg]; exact (below_size (by exact HB.out)) : w.heap.size ≤ gb476)); have n5_ := Aside0.mk ((by rw [hg]; exact Nat.ne_of_lt (blk_lt (g := gb475) (o := .cells #[.slice A0_0 l0_0.length c0_0, .slice A0_1 l0_1.length c0_1, .slice A0_2 l0_2.length c0_2] 31 (0, 0)) (by exact BK475.out)) : gb475 ≠ gb476)); have n6_ := Aside0.mk ((by rw [hg]; exact Nat.ne_of_gt (blk_lt (g := gb475) (o := .cells #[.slice A0_0 l0_0.length c0_0, .slice A0_1 l0_1.length c0_1, .slice A0_2 l0_2.length c0_2] 31 (0, 0)) (by exact BK475.out)) : gb476 ≠ gb475)); clear BK475; clear HB; have BK475 := n0_; have HB := n1_; have BK476 := n2_; have GW476 := n3_; have GE476 := n4_; have NB475_476 := n5_; have NB476_475 := n6_; clear n0_ n1_ n2_ n3_ n4_ n5_ n6_; clear hb hbox hg; have hnb13 := NB475_476.out; have hnc13 := NB476_475.out; have hcz14_0 : w12.cell? ⟨gb475, 0, none⟩ = some (.slice A0_0 l0_0.length c0_0) := (blk_cell BK475.out 0).trans rfl; have hcz14_1 : w12.cell? ⟨gb475, 1, none⟩ = some (.slice A0_1 l0_1.length c0_1) := (blk_cell BK475.out 1).trans rfl; have hcz14_2 : w12.cell? ⟨gb475, 2, none⟩ = some (.slice A0_2 l0_2.length c0_2) := (blk_cell BK475.out 2).trans rfl; have hfz14_0 := blk_frozen BK475.out 0; have hfz14_1 := blk_frozen BK475.out 1; have hfz14_2 := blk_frozen BK475.out 2) | ((with_reducible refine gate_callee (f := 59) rfl ?_); refine goesL_ (some 7) rfl rfl Try.func59 (by kernel_rfl) rfl #[.agg #[.slice A0_0 l0_0.length c0_0, .slice A0_1 l0_1.length c0_1, .slice A0_2 l0_2.length c0_2]] rfl (by (try simp only [List.map_toArray, List.map_cons, List.map_nil]); first | done | rfl | (simp only [List.length_drop, List.length_take]; rfl)) ?_; (with_reducible refine (spec_l1copy.calls k _ _ l0_0 _ _ l0_1 _ _ l0_2 t477 t480 t483 _ ?side1 ?side2 ?side3 ?side4 ?side5 ?side6 A3.out).mono ?_); (case side1 => repeat (first | exact (Kd.C_below HR0_0.out HB.out) | (with_reducible refine Kd.C_alloc ?_ _) | (with_reducible refine Kd.C_drewN ?_ _) | (with_reducible refine Kd.C_drew ?_))); (case side2 => exact HC0_0.out); (case side3 => repeat (first | exact (Kd.C_below HR0_1.out HB.out) | (with_reducible refine Kd.C_alloc ?_ _) | (with_reducible refine Kd.C_drewN ?_ _) | (with_reducible refine Kd.C_drew ?_))); (case side4 => exact HC0_1.out); (case side5 => repeat (first | exact (Kd.C_below HR0_2.out HB.out) | (with_reducible refine Kd.C_alloc ?_ _) | (with_reducible refine Kd.C_drewN ?_ _) | (with_reducible refine Kd.C_drew ?_))); (case side6 => exact HC0_2.out); rintro e w15 ⟨v478, v481, v484, rfl, ho0, ho1, ho2, hb⟩; refine ⟨_, rfl, ?_⟩; have n0_ := Aside0.mk (Kd.R_lower (Kd.R_newM (M := fun k_ => (w.heap.size ≤ k_)) ho0 (below_size (by exact HB.out)) (fun k_ h_ => h_)) (below_size (by exact HB.out))); have n1_ := Aside0.mk (Kd.N_lower (Kd.N_mono (ok' := fun k_ => (w.heap.size ≤ k_) ∧ some k_ ≠ (v478 : Value).ownBlock ∧ some k_ ≠ (v484 : Value).ownBlock ∧ k_ ≠ gb475 ∧ k_ ≠ gb476) (Kd.S_N (Kd.S_bound ho1)) (fun k_ hk_ => ⟨(Nat.le_trans (below_size (by exact HB.out)) hk_.2.1), hk_.1.1, hk_.1.2, (Kd.freshB (g := gb475) (o := .cells #[.slice A0_0 l0_0.length c0_0, .slice A0_1 l0_1.length c0_1, .slice A0_2 l0_2.length c0_2] 31 (0, 0)) (by exact BK475.out) k_ hk_.2.1), (Kd.freshB (g := gb476) (o := .cells #[.slice none 0 0, .slice none 0 0, .slice none 0 0] 31 (0, 0)) (by exact BK476.out) k_ hk_.2.1)⟩)) (below_size (by exact HB.out))); have n2_ := Aside0.mk (Kd.R_lower (Kd.R_newM (M := fun k_ => (w.heap.size ≤ k_)) ho2 (below_size (by exact HB.out)) (fun k_ h_ => h_)) (below_size (by exact HB.out))); have n3_ := Aside0.mk (blk_below (g := gb475) (o := .cells #[.slice A0_0 l0_0.length c0_0, .slice A0_1 l0_1.length c0_1, .slice A0_2 l0_2.length c0_2] 31 (0, 0)) (by exact BK475.out) hb); have n4_ := Aside0.mk (blk_below (g := gb476) (o := .cells #[.slice none 0 0, .slice none 0 0, .slice none 0 0] 31 (0, 0)) (by exact BK476.out) hb); have n5_ := Aside0.mk (below_step (by exact HB.out) hb); clear BK475; clear BK476; clear HB; have HO479 := n0_; have HO482 := n1_; have HO485 := n2_; have BK475 := n3_; have BK476 := n4_; have HB := n5_; clear n0_ n1_ n2_ n3_ n4_ n5_; (try clear hb); (try clear hb2); (try clear hk); (try clear hi); (try clear ho0); (try clear ho1); (try clear ho2)) | ((with_reducible refine gate_dst (N := 5) rfl ?_); refine box_event ?hg (N := 5) ?hd (cs := #[.slice none 0 0, .slice none 0 0, .slice none 0 0]) (t := 31) ?hr ?_; (case hd => rfl); (case hg => rfl); (case hr => first | (go_simp; done) | (go_simp; rfl)); intro gb486 hg w16 hbox hb; have n0_ := Aside0.mk (Kd.R_below (by exact HO479.out) hb); have n1_ := Aside0.mk (Kd.N_below (Kd.N_elderB (by exact HO482.out) gb486 (Nat.le_of_eq hg.symm)) hb); have n2_ := Aside0.mk (Kd.R_below (by exact HO485.out) hb); have n3_ := Aside0.mk (blk_below (g := gb475) (o := .cells #[.slice A0_0 l0_0.length c0_0, .slice A0_1 l0_1.length c0_1, .slice A0_2 l0_2.length c0_2] 31 (0, 0)) (by exact BK475.out) hb); have n4_ := Aside0.mk (blk_below (g := gb476) (o := .cells #[.slice none 0 0, .slice none 0 0, .slice none 0 0] 31 (0, 0)) (by exact BK476.out) hb); have n5_ := Aside0.mk (below_step (by exact HB.out) hb); have n6_ := Aside0.mk (hbox); have n7_ := Aside0.mk ((by rw [hg]; exact (below_size (by exact HB.out)) : w.heap.size ≤ gb486)); have n8_ := Aside0.mk ((by rw [hg]; exact (below_size (by exact HB.out)) : w.heap.size ≤ gb486)); have n9_ := Aside0.mk ((by rw [hg]; exact Nat.ne_of_lt (blk_lt (g := gb475) (o := .cells #[.slice A0_0 l0_0.length c0_0, .slice A0_1 l0_1.length c0_1, .slice A0_2 l0_2.length c0_2] 31 (0, 0)) (by exact BK475.out)) : gb475 ≠ gb486)); have n10_ := Aside0.mk ((by rw [hg]; exact Nat.ne_of_gt (blk_lt (g := gb475) (o := .cells #[.slice A0_0 l0_0.length c0_0, .slice A0_1 l0_1.length c0_1, .slice A0_2 l0_2.length c0_2] 31 (0, 0)) (by exact BK475.out)) : gb486 ≠ gb475)); have n11_ := Aside0.mk ((by rw [hg]; exact Nat.ne_of_lt (blk_lt (g := gb476) (o := .cells #[.slice none 0 0, .slice none 0 0, .slice none 0 0] 31 (0, 0)) (by exact BK476.out)) : gb476 ≠ gb486)); have n12_ := Aside0.mk ((by rw [hg]; exact Nat.ne_of_gt (blk_lt (g := gb476) (o := .cells #[.slice none 0 0, .slice none 0 0, .slice none 0 0] 31 (0, 0)) (by exact BK476.out)) : gb486 ≠ gb476)); clear HO479; clear HO482; clear HO485; clear BK475; clear BK476; clear HB; have HO479 := n0_; have HO482 := n1_; have HO485 := n2_; have BK475 := n3_; have BK476 := n4_; have HB := n5_; have BK486 := n6_; have GW486 := n7_; have GE486 := n8_; have NB475_486 := n9_; have NB486_475 := n10_; have NB476_486 := n11_; have NB486_476 := n12_; clear n0_ n1_ n2_ n3_ n4_ n5_ n6_ n7_ n8_ n9_ n10_ n11_ n12_; clear hb hbox hg; obtain ⟨Ao17, co17, eo17⟩ := Kd.R_slice HO479.out; subst eo17; have hnb18 := NB486_475.out; have hnc18 := NB475_486.out; have hnb19 := NB486_476.out; have hnc19 := NB476_486.out; have hcz20_0 : w16.cell? ⟨gb486, 0, none⟩ = some (.slice none 0 0) := (blk_cell BK486.out 0).trans rfl; have hcz20_1 : w16.cell? ⟨gb486, 1, none⟩ = some (.slice none 0 0) := (blk_cell BK486.out 1).trans rfl; have hcz20_2 : w16.cell? ⟨gb486, 2, none⟩ = some (.slice none 0 0) := (blk_cell BK486.out 2).trans rfl; have hfz20_0 := blk_frozen BK486.out 0; have hfz20_1 := blk_frozen BK486.out 1; have hfz20_2 := blk_frozen BK486.out 2; obtain ⟨Ao21, co21, eo21⟩ := Kd.N_slice HO482.out; subst eo21; obtain ⟨Ao22, co22, eo22⟩ := Kd.R_slice HO485.out; subst eo22) | ((with_reducible refine gate_store (t := 31) (p := 5) rfl ?_); refine store_event (t := 31) (p := 5) (v := ?vo_w23) (w1 := (((w16.setCell ⟨gb486, 0, none⟩ (.slice Ao17 t477.length co17)).setCell ⟨gb486, 1, none⟩ (.slice Ao21 t480.length co21)).setCell ⟨gb486, 2, none⟩ (.slice Ao22 t483.length co22))) ?hg ?ho ?hn ?hr ?_; (case ho => rfl); (case hg => rfl); (case hn => rfl); (case hr => first | (go_simp; done) | (go_simp; rfl)); intro w23 hw; have n0_ : Aside0 (Kd.R (Kd.int .i64) 3 w23 w.heap.size (fun k_ => (w.heap.size ≤ k_) ∧ some k_ ≠ (.slice Ao22 t483.length co22 : Value).ownBlock) (.slice Ao17 t477.length co17) t477) := ⟨(by rw [hw]; exact (by exact Kd.R_mono (Kd.R_far (p := ⟨gb486, 2, none⟩) (Kd.R_far (p := ⟨gb486, 1, none⟩) (Kd.R_far (p := ⟨gb486, 0, none⟩) (Kd.R_types HO479.out BK486.out (by decide)) (fun _ hk => hk.2) (.slice Ao17 t477.length co17)) (fun _ hk => hk.2) (.slice Ao21 t480.length co21)) (fun _ hk => hk.2) (.slice Ao22 t483.length co22)) (fun _ hk => ⟨hk.1.1, hk.1.2⟩)))⟩; have n1_ : Aside0 (Kd.N k49 49 w23 w.heap.size (fun k_ => (w.heap.size ≤ k_) ∧ some k_ ≠ (.slice Ao17 t477.length co17 : Value).ownBlock ∧ some k_ ≠ (.slice Ao22 t483.length co22 : Value).ownBlock ∧ k_ ≠ gb475 ∧ k_ ≠ gb476 ∧ k_ ≠ gb486) (.slice Ao21 t480.length co21) t480) := ⟨(by rw [hw]; exact (by exact Kd.N_mono (Kd.N_far (p := ⟨gb486, 2, none⟩) (Kd.N_far (p := ⟨gb486, 1, none⟩) (Kd.N_far (p := ⟨gb486, 0, none⟩) (Kd.N_mono HO482.out (fun k_ hk => (⟨hk, hk.2⟩ : _ ∧ k_ ≠ gb486))) (fun _ hk => hk.2) (.slice Ao17 t477.length co17)) (fun _ hk => hk.2) (.slice Ao21 t480.length co21)) (fun _ hk => hk.2) (.slice Ao22 t483.length co22)) (fun _ hk => ⟨hk.1.1.1, ⟨hk.1.1.2.1, ⟨hk.1.1.2.2.1, ⟨hk.1.1.2.2.2.1, ⟨hk.1.1.2.2.2.2, hk.1.2⟩⟩⟩⟩⟩)))⟩; have n2_ : Aside0 (Kd.R (Kd.int .i64) 3 w23 w.heap.size (fun k_ => (w.heap.size ≤ k_) ∧ some k_ ≠ (.slice Ao17 t477.length co17 : Value).ownBlock) (.slice Ao22 t483.length co22) t483) := ⟨(by rw [hw]; exact (by exact Kd.R_mono (Kd.R_far (p := ⟨gb486, 2, none⟩) (Kd.R_far (p := ⟨gb486, 1, none⟩) (Kd.R_far (p := ⟨gb486, 0, none⟩) (Kd.R_types HO485.out BK486.out (by decide)) (fun _ hk => hk.2) (.slice Ao17 t477.length co17)) (fun _ hk => hk.2) (.slice Ao21 t480.length co21)) (fun _ hk => hk.2) (.slice Ao22 t483.length co22)) (fun _ hk => ⟨hk.1.1, hk.1.2⟩)))⟩; have n3_ : Aside0 (w23.heap[gb475]? = some (.cells #[.slice A0_0 l0_0.length c0_0, .slice A0_1 l0_1.length c0_1, .slice A0_2 l0_2.length c0_2] 31 (0, 0))) := ⟨(by rw [hw]; exact (by refine blk_far ?_ NB475_486.out _; refine blk_far ?_ NB475_486.out _; refine blk_far ?_ NB475_486.out _; exact BK475.out))⟩; have n4_ : Aside0 (w23.heap[gb476]? = some (.cells #[.slice none 0 0, .slice none 0 0, .slice none 0 0] 31 (0, 0))) := ⟨(by rw [hw]; exact (by refine blk_far ?_ NB476_486.out _; refine blk_far ?_ NB476_486.out _; refine blk_far ?_ NB476_486.out _; exact BK476.out))⟩; have n5_ : Aside0 (w23.heap[gb486]? = some (.cells #[.slice Ao17 t477.length co17, .slice Ao21 t480.length co21, .slice Ao22 t483.length co22] 31 (0, 0))) := ⟨(by rw [hw]; exact (by refine blk_put (cs := #[.slice Ao17 t477.length co17, .slice Ao21 t480.length co21, .slice none 0 0]) ?_ 2 _ rfl; refine blk_put (cs := #[.slice Ao17 t477.length co17, .slice none 0 0, .slice none 0 0]) ?_ 1 _ rfl; refine blk_put (cs := #[.slice none 0 0, .slice none 0 0, .slice none 0 0]) ?_ 0 _ rfl; exact BK486.out))⟩; have n6_ : Aside0 (Below w.heap.size w w23) := ⟨(by rw [hw]; exact (by repeat (first | (with_reducible first | exact HB.out | apply below_alloc | apply pw_below_drewN | apply below_drew1 | refine below_set ?_ GE475.out | refine below_set ?_ GE476.out | refine below_set ?_ GE486.out) | exact HB.out)))⟩; clear hw; clear HO479; clear HO482; clear HO485; clear BK475; clear BK476; clear BK486; clear HB; have HO479 := n0_; have HO482 := n1_; have HO485 := n2_; have BK475 := n3_; have BK476 := n4_; have BK486 := n5_; have HB := n6_; clear n0_ n1_ n2_ n3_ n4_ n5_ n6_; have hcz24_0 : w23.cell? ⟨gb486, 0, none⟩ = some (.slice Ao17 t477.length co17) := (blk_cell BK486.out 0).trans rfl; have hcz24_1 : w23.cell? ⟨gb486, 1, none⟩ = some (.slice Ao21 t480.length co21) := (blk_cell BK486.out 1).trans rfl; have hcz24_2 : w23.cell? ⟨gb486, 2, none⟩ = some (.slice Ao22 t483.length co22) := (blk_cell BK486.out 2).trans rfl; have hfz24_0 := blk_frozen BK486.out 0; have hfz24_1 := blk_frozen BK486.out 1; have hfz24_2 := blk_frozen BK486.out 2; have p487 : 0 ≤ (a1 : Int) := of_decide_eq_true (by assumption); have q487 : a1 < (t480.length : Int) := of_decide_eq_true (by assumption); obtain ⟨ad487, A487_1, c487_1, e487, hx487_0, hx487_1, hx487_2, hl487_1, hi487_1⟩ := at_T49 (Kd.N_reads' HO482.out).2.2 a1 p487 q487; cases e487; obtain ⟨ce487, hce487, hMe487, hcc487⟩ := Kd.N_get HO482.out z49 a1 p487 (by first | exact q487 | exact of_decide_eq_true (by assumption) | (have e_ := (Kd.N_reads' HO482.out).1; omega)); obtain ⟨ua487_1, uc487_1, rfl, ul487_1, ge487_1⟩ := k49_openF hMe487; have hv487_1 := hcc487 1 _ rfl; rw [add_field _ _ 1 (by omega)] at hv487_1; replace hv487_1 := Option.some.inj (hv487_1.symm.trans hx487_1); injection hv487_1 with hva_ hvn_ hvc_; rw [hva_] at ge487_1; rw [hvc_] at ul487_1; have HL487_1 := Aside0.mk (show Kd.V (Kd.int .i64) 3 _ w.heap.size _ _ ((rd_T49 t480 a1).f1) from Kd.V_mk ul487_1 ge487_1); clear hva_ hvn_ hvc_ ge487_1 ul487_1; clear hcc487 hce487; have HR487_1 := Aside0.mk hi487_1; have HC487_1 := Aside0.mk hl487_1; clear hi487_1 hl487_1; replace p487 := eq_true p487; replace q487 := eq_true q487))
      have n0_ := Aside0.mk (Kd.R_drew HO479.out)
      have n1_ := Aside0.mk (Kd.N_drew HO482.out)
      have n2_ := Aside0.mk (Kd.R_drew HO485.out)
      have n3_ := Aside0.mk (Kd.V_drew HL487_1.out)
      have n4_ := Aside0.mk (blk_drew BK475.out)
      have n5_ := Aside0.mk (blk_drew BK476.out)
      have n6_ := Aside0.mk (blk_drew BK486.out)
      have n7_ := Aside0.mk (Kd.C_drew HR487_1.out)
      have n8_ := Aside0.mk (below_drew1 HB.out)
      clear HO479
      clear HO482
      clear HO485
      clear HL487_1
      clear BK475
      clear BK476
      clear BK486
      clear HR487_1
      clear HB
      have HO479 := n0_
      have HO482 := n1_
      have HO485 := n2_
      have HL487_1 := n3_
      have BK475 := n4_
      have BK476 := n5_
      have BK486 := n6_
      have HR487_1 := n7_
      have HB := n8_
      clear n0_ n1_ n2_ n3_ n4_ n5_ n6_ n7_ n8_
      have p488 : 0 ≤ (a1 : Int) := of_decide_eq_true (by assumption)
      have q488 : a1 < (t480.length : Int) := of_decide_eq_true (by assumption)
      obtain ⟨ad488, A488_1, c488_1, e488, hx488_0, hx488_1, hx488_2, hl488_1, hi488_1⟩ := at_T49 (Kd.N_reads' HO482.out).2.2 a1 p488 q488
      obtain rfl : ad487 = ad488 := (by injection e488)
      obtain ⟨ce488, hce488, hMe488, hcc488⟩ := Kd.N_get HO482.out z49 a1 p488 (by first | exact q488 | exact of_decide_eq_true (by assumption) | (have e_ := (Kd.N_reads' HO482.out).1; omega))
      obtain ⟨ua488_1, uc488_1, rfl, ul488_1, ge488_1⟩ := k49_openF hMe488
      have hv488_1 := hcc488 1 _ rfl
      rw [add_field _ _ 1 (by omega)] at hv488_1
      replace hv488_1 := Option.some.inj (hv488_1.symm.trans hx488_1)
      injection hv488_1 with hva_ hvn_ hvc_
      rw [hva_] at ge488_1
      rw [hvc_] at ul488_1
      have HL488_1 := Aside0.mk (show Kd.V (Kd.int .i64) 3 _ w.heap.size _ _ ((rd_T49 t480 a1).f1) from Kd.V_mk ul488_1 ge488_1)
      clear hva_ hvn_ hvc_ ge488_1 ul488_1
      clear hcc488 hce488
      have HR488_1 := Aside0.mk hi488_1
      have HC488_1 := Aside0.mk hl488_1
      clear hi488_1 hl488_1
      replace p488 := eq_true p488
      replace q488 := eq_true q488
      have p489 : 0 ≤ (0 : Int) := (by omega)
      have q489 : 0 < (((rd_T49 t480 a1).f1).length : Int) := of_decide_eq_true (by assumption)
      obtain ⟨ad489, e489, hx489_0⟩ := Kd.at_int (by repeat (first | (with_reducible exact HR488_1.out) | (with_reducible refine Kd.C_alloc ?_ _) | (with_reducible refine Kd.C_drewN ?_ _) | (with_reducible refine Kd.C_drew ?_) | exact HR488_1.out)) 0 p489 q489
      cases e489
      have qi489 : (0 < ((rd_T49 t480 a1).f1).length) = True := eq_true (by omega)
      (try rw [show ((0 : Int)).toNat = 0 from rfl] at hx489_0)
      (try rw [Addr.add_zero'] at hx489_0)
      replace p489 := eq_true p489
      replace q489 := eq_true q489
      have p8 : 0 ≤ (a1 : Int) := of_decide_eq_true (by assumption)
      have q8 : (a1 : Int) < ((t480.length : Int) : Int) := of_decide_eq_true (by assumption)
      obtain ⟨go8, co8, eo8, gb8, gl8, cl8, HG8⟩ := Kd.N_form HO482.out (by omega)
      (first | cases eo8 | (injection eo8 with ea_ en_ ec_; (first | subst ea_ | (injection ea_ with ea_; subst ea_)); subst ec_; clear en_))
      have GB8 := Aside0.mk gb8
      have GG8 := Aside0.mk HG8
      clear gb8 gl8 HG8
      (first | simp only [add_plain] at hx487_0 | skip)
      (first | simp only [add_plain] at hx487_1 | skip)
      (first | simp only [add_plain] at hx487_2 | skip)
      (first | simp only [add_plain] at hx488_0 | skip)
      (first | simp only [add_plain] at hx488_1 | skip)
      (first | simp only [add_plain] at hx488_2 | skip)
      obtain ⟨ce8, hcl8, hM8, hcc8, hfr8⟩ := Kd.N_elem HO482.out z49 (a1 : Int) p8 q8
      obtain ⟨ua8_1, uc8_1, rfl, ul8_1, ge8_1⟩ := k49_openF hM8
      have hx8_0 : World.cell? _ ⟨go8, (a1 : Int).toNat * 3, none⟩ = some (.int .i64 ((rd_T49 t480 a1).f0)) := hcc8 0 _ rfl
      have hx8_1 : World.cell? _ ⟨go8, (a1 : Int).toNat * 3 + 1, none⟩ = some (.slice ua8_1 ((rd_T49 t480 a1).f1).length uc8_1) := hcc8 1 _ rfl
      have hx8_2 : World.cell? _ ⟨go8, (a1 : Int).toNat * 3 + 2, none⟩ = some (.int .i64 ((rd_T49 t480 a1).f2)) := hcc8 2 _ rfl
      have hf8_0 : World.frozen? _ ⟨go8, (a1 : Int).toNat * 3, none⟩ = false := hfr8 0
      have hf8_1 : World.frozen? _ ⟨go8, (a1 : Int).toNat * 3 + 1, none⟩ = false := hfr8 1
      have hf8_2 : World.frozen? _ ⟨go8, (a1 : Int).toNat * 3 + 2, none⟩ = false := hfr8 2
      clear hcl8 hcc8 hfr8 hM8
      replace p8 := eq_true p8
      replace q8 := eq_true q8
      have HX26 := Aside0.mk (show Kd.N k49 49 _ w.heap.size (fun k_ => (w.heap.size ≤ k_) ∧ some k_ ≠ (.slice Ao17 t477.length co17 : Value).ownBlock ∧ some k_ ≠ (.slice Ao22 t483.length co22 : Value).ownBlock ∧ k_ ≠ gb475 ∧ k_ ≠ gb476 ∧ k_ ≠ gb486) (.slice (some ⟨go8, 0, none⟩) t480.length co21) t480 from (Kd.N_mono (HO482.out) (fun k_ hk => ⟨hk.1, ⟨hk.2.1, ⟨hk.2.2.1, ⟨hk.2.2.2.1, ⟨hk.2.2.2.2.1, hk.2.2.2.2.2⟩⟩⟩⟩⟩)))
      obtain ⟨ce26, hcl26, hM26, hcc26, hfr26⟩ := Kd.N_elem HX26.out z49 (a1 : Int) (of_decide_eq_true (by assumption)) (by have h_ : (a1 : Int) < ((t480.length : Int) : Int) := of_decide_eq_true (by assumption); first | exact h_ | (have e_ := (Kd.N_reads' HO482.out).1; omega) | simpa using h_)
      obtain ⟨ua26_1, uc26_1, rfl, ul26_1, ge26_1⟩ := k49_openF hM26
      have HP26 := (Kd.N_seg HX26.out (a1 : Int) (of_decide_eq_true (by assumption)) (by have h_ : (a1 : Int) < ((t480.length : Int) : Int) := of_decide_eq_true (by assumption); first | exact h_ | (have e_ := (Kd.N_reads' HO482.out).1; omega) | simpa using h_) (seg := [.int .i64 (rd ((rd_T49 t480 a1).f1) 0)]) (j := 0) hcl26 hcc26 (show 1 ≤ 3 from by decide) (x' := (⟨rd ((rd_T49 t480 a1).f1) 0, (rd_T49 t480 a1).f1, (rd_T49 t480 a1).f2⟩ : S49)) (k49_mkF _ _ (⟨rd ((rd_T49 t480 a1).f1) 0, (rd_T49 t480 a1).f1, (rd_T49 t480 a1).f2⟩ : S49) ul26_1 ge26_1) (fun _ hk => hk)).1
      rw [← Ny490.out] at HP26
      have HQ26 := Aside0.mk HP26
      clear hcl26 hcc26 hfr26 hM26 HP26
      refine start_ (n := 14) (S := fun w' => w'.cell? ⟨gb486, 0, none⟩ = some (.slice Ao17 t477.length co17) ∧ w'.cell? ⟨gb486, 1, none⟩ = some (.slice (some ⟨go8, 0, none⟩) t480.length co21) ∧ w'.cell? ⟨gb486, 2, none⟩ = some (.slice Ao22 t483.length co22) ∧ w'.cell? ⟨go8, ((a1).toNat * 3), none⟩ = some (.int .i64 ((rd_T49 t480 a1).f0)) ∧ w'.cell? ⟨go8, ((a1).toNat * 3) + 1, none⟩ = some (.slice (some ad489) ((rd_T49 t480 a1).f1).length c488_1) ∧ w'.cell? ⟨go8, ((a1).toNat * 3) + 2, none⟩ = some (.int .i64 ((rd_T49 t480 a1).f2)) ∧ w'.cell? ad489 = some (.int .i64 (rd ((rd_T49 t480 a1).f1) 0))) (ds := [13]) #[false, false, false, false, false, false, false, false, false, false, false, false, false, false] (by kernel_rfl) rfl rfl ⟨(blk_cell BK486.out 0).trans rfl, (blk_cell BK486.out 1).trans rfl, (blk_cell BK486.out 2).trans rfl, hx488_0, hx488_1, hx488_2, hx489_0⟩ (fun hHeld => ?_); refine with_tabW spec_l1step.tab3 spec_l1step.bits3 (fun HT_ HW_ => ?_)
      generalize w23.drew = w25 at HO479 HO482 HO485 HL487_1 BK475 BK476 BK486 HR487_1 HB GG8 HL488_1 HQ26 HR488_1 hf8_0 hf8_1 hf8_2 hx487_0 hx487_1 hx487_2 hx488_0 hx488_1 hx488_2 hx489_0 hx8_0 hx8_1 hx8_2 hHeld ⊢
      refine pure_ (i := 0) (N := some 16) (v := ?_) (a' := ?_) #[true, false, false, false, false, false, false, false, false, false, false, false, false, false] rfl rfl (any_of HT_.out (by kernel_rfl)) (fun _ _ _ h => h) (Or.inl ⟨by rfl, ?_⟩) ?_ ?_
      rotate_left
      ·intro w'
       go_simp
       with_reducible rfl
      rotate_left
      ·simp only [Act.put, List.setIfInBounds_toArray, List.set_cons_zero, List.set_cons_succ, i64_w, i32_w]
       rfl
      refine pure_ (i := 2) (N := some 18) (v := ?_) (a' := ?_) #[true, false, true, false, false, false, false, false, false, false, false, false, false, false] rfl rfl (any_of HT_.out (by kernel_rfl)) (fun _ _ _ h => h) (Or.inl ⟨by rfl, ?_⟩) ?_ ?_
      rotate_left
      ·intro w'
       go_simp
       with_reducible rfl
      rotate_left
      ·simp only [Act.put, List.setIfInBounds_toArray, List.set_cons_zero, List.set_cons_succ, i64_w, i32_w]
       rfl
      refine pure_ (i := 3) (N := some 19) (v := ?_) (a' := ?_) #[true, false, true, true, false, false, false, false, false, false, false, false, false, false] rfl rfl (any_of HT_.out (by kernel_rfl)) (fun _ _ _ h => h) (Or.inl ⟨by rfl, ?_⟩) ?_ ?_
      rotate_left
      ·intro w'
       go_simp
       with_reducible rfl
      rotate_left
      ·simp only [Act.put, List.setIfInBounds_toArray, List.set_cons_zero, List.set_cons_succ, i64_w, i32_w]
       rfl
      refine pure_ (i := 5) (N := some 21) (v := ?_) (a' := ?_) #[true, false, true, true, false, true, false, false, false, false, false, false, false, false] rfl rfl (any_of HT_.out (by kernel_rfl)) (fun _ _ _ h => h) (Or.inl ⟨by rfl, ?_⟩) ?_ ?_
      rotate_left
      ·intro w'
       go_simp
       with_reducible rfl
      rotate_left
      ·simp only [Act.put, List.setIfInBounds_toArray, List.set_cons_zero, List.set_cons_succ, i64_w, i32_w]
       rfl
      refine take_ (i := 1) (N := some 17) (v := ?_) (a' := ?_) #[true, true, true, true, false, true, false, false, false, false, false, false, false, false] rfl rfl (take_ofW HT_.out HW_.out (by kernel_rfl)) (fun _ _ _ h => h) (Or.inl ⟨by rfl, ?_⟩) hHeld ?_ ?_
      rotate_left
      ·rintro w' ⟨s0, s1, s2, s3, s4, s5, s6⟩
       go_simp
       with_reducible rfl
      rotate_left
      ·simp only [Act.put, List.setIfInBounds_toArray, List.set_cons_zero, List.set_cons_succ, i64_w, i32_w]
       rfl
      refine take_ (i := 4) (N := some 20) (v := ?_) (a' := ?_) #[true, true, true, true, true, true, false, false, false, false, false, false, false, false] rfl rfl (take_ofW HT_.out HW_.out (by kernel_rfl)) (fun _ _ _ h => h) (Or.inl ⟨by rfl, ?_⟩) hHeld ?_ ?_
      rotate_left
      ·rintro w' ⟨s0, s1, s2, s3, s4, s5, s6⟩
       go_simp
       with_reducible rfl
      rotate_left
      ·simp only [Act.put, List.setIfInBounds_toArray, List.set_cons_zero, List.set_cons_succ, i64_w, i32_w]
       rfl
      refine pure_ (i := 6) (N := some 22) (v := ?_) (a' := ?_) #[true, true, true, true, true, true, true, false, false, false, false, false, false, false] rfl rfl (any_of HT_.out (by kernel_rfl)) (fun _ _ _ h => h) (Or.inl ⟨by rfl, ?_⟩) ?_ ?_
      rotate_left
      ·intro w'
       go_simp
       with_reducible rfl
      rotate_left
      ·simp only [Act.put, List.setIfInBounds_toArray, List.set_cons_zero, List.set_cons_succ, i64_w, i32_w]
       rfl
      refine pure_ (i := 7) (N := some 23) (v := ?_) (a' := ?_) #[true, true, true, true, true, true, true, true, false, false, false, false, false, false] rfl rfl (any_of HT_.out (by kernel_rfl)) (fun _ _ _ h => h) (Or.inl ⟨by rfl, ?_⟩) ?_ ?_
      rotate_left
      ·intro w'
       go_simp
       with_reducible rfl
      rotate_left
      ·simp only [Act.put, List.setIfInBounds_toArray, List.set_cons_zero, List.set_cons_succ, i64_w, i32_w]
       rfl
      refine take_ (i := 8) (N := some 24) (v := ?_) (a' := ?_) #[true, true, true, true, true, true, true, true, true, false, false, false, false, false] rfl rfl (take_ofW HT_.out HW_.out (by kernel_rfl)) (fun _ _ _ h => h) (Or.inl ⟨by rfl, ?_⟩) hHeld ?_ ?_
      rotate_left
      ·rintro w' ⟨s0, s1, s2, s3, s4, s5, s6⟩
       go_simp
       with_reducible rfl
      rotate_left
      ·simp only [Act.put, List.setIfInBounds_toArray, List.set_cons_zero, List.set_cons_succ, i64_w, i32_w]
       rfl
      refine pure_ (i := 9) (N := some 25) (v := ?_) (a' := ?_) #[true, true, true, true, true, true, true, true, true, true, false, false, false, false] rfl rfl (any_of HT_.out (by kernel_rfl)) (fun _ _ _ h => h) (Or.inl ⟨by rfl, ?_⟩) ?_ ?_
      rotate_left
      ·intro w'
       go_simp
       with_reducible rfl
      rotate_left
      ·simp only [Act.put, List.setIfInBounds_toArray, List.set_cons_zero, List.set_cons_succ, i64_w, i32_w]
       rfl
      refine take_ (i := 10) (N := some 26) (v := ?_) (a' := ?_) #[true, true, true, true, true, true, true, true, true, true, true, false, false, false] rfl rfl (take_ofW HT_.out HW_.out (by kernel_rfl)) (fun _ _ _ h => h) (Or.inl ⟨by rfl, ?_⟩) hHeld ?_ ?_
      rotate_left
      ·rintro w' ⟨s0, s1, s2, s3, s4, s5, s6⟩
       go_simp
       with_reducible rfl
      rotate_left
      ·simp only [Act.put, List.setIfInBounds_toArray, List.set_cons_zero, List.set_cons_succ, i64_w, i32_w]
       rfl
      refine pure_ (i := 11) (N := some 27) (v := ?_) (a' := ?_) #[true, true, true, true, true, true, true, true, true, true, true, true, false, false] rfl rfl (any_of HT_.out (by kernel_rfl)) (fun _ _ _ h => h) (Or.inl ⟨by rfl, ?_⟩) ?_ ?_
      rotate_left
      ·intro w'
       go_simp
       with_reducible rfl
      rotate_left
      ·simp only [Act.put, List.setIfInBounds_toArray, List.set_cons_zero, List.set_cons_succ, i64_w, i32_w]
       rfl
      refine pure_ (i := 12) (N := some 28) (v := ?_) (a' := ?_) #[true, true, true, true, true, true, true, true, true, true, true, true, true, false] rfl rfl (any_of HT_.out (by kernel_rfl)) (fun _ _ _ h => h) (Or.inl ⟨by rfl, ?_⟩) ?_ ?_
      rotate_left
      ·intro w'
       go_simp
       with_reducible rfl
      rotate_left
      ·simp only [Act.put, List.setIfInBounds_toArray, List.set_cons_zero, List.set_cons_succ, i64_w, i32_w]
       rfl
      refine last_ (i := 13) (N := none) #[true, true, true, true, true, true, true, true, true, true, true, true, true, true] rfl rfl (one_of HT_.out (by kernel_rfl)) (by decide) (fun K hK => ?_)
      refine skip_ (w1 := ?_) (by rfl) rfl ?_ ?_
      rotate_left
      ·go_simp
       rfl
      refine hK.out _ _ ?_
      clear hK K
      refine done_ (done_of HT_.out (by kernel_rfl)) ?_
      have n0_ : Aside0 (Kd.R (Kd.int .i64) 3 (w25.setCell ⟨go8, (a1 : Int).toNat * 3, none⟩ (.int .i64 (rd ((rd_T49 t480 a1).f1) 0))) w.heap.size (fun k_ => (w.heap.size ≤ k_) ∧ some k_ ≠ (.slice Ao22 t483.length co22 : Value).ownBlock) (.slice Ao17 t477.length co17) t477) := ⟨by first | exact Kd.R_mono (Kd.R_far (p := ⟨go8, (a1 : Int).toNat * 3, none⟩) (Kd.R_types HO479.out GG8.out (by decide)) (fun _ hk => hk.2) (.int .i64 (rd ((rd_T49 t480 a1).f1) 0))) (fun _ hk => ⟨hk.1.1, hk.1.2⟩) | exact Kd.R_mono (Kd.R_far (p := ⟨go8, (a1 : Int).toNat * 3, none⟩) (Kd.R_mono (Kd.R_apart' HO479.out (Kd.N_typed HO482.out) (by decide)) (fun k_ hk => (⟨hk.1, fun e_ => hk.2 (by rw [e_]; rfl)⟩ : _ ∧ k_ ≠ go8))) (fun _ hk => hk.2) (.int .i64 (rd ((rd_T49 t480 a1).f1) 0))) (fun _ hk => ⟨hk.1.1, hk.1.2⟩)⟩
      have n1_ : Aside0 (Kd.N k49 49 (w25.setCell ⟨go8, (a1 : Int).toNat * 3, none⟩ (.int .i64 (rd ((rd_T49 t480 a1).f1) 0))) w.heap.size (fun k_ => (w.heap.size ≤ k_) ∧ some k_ ≠ (.slice Ao17 t477.length co17 : Value).ownBlock ∧ some k_ ≠ (.slice Ao22 t483.length co22 : Value).ownBlock ∧ k_ ≠ gb475 ∧ k_ ≠ gb476 ∧ k_ ≠ gb486) (.slice (some ⟨go8, 0, none⟩) t480.length co21) y490) := ⟨by exact HQ26.out⟩
      have n2_ : Aside0 (Kd.R (Kd.int .i64) 3 (w25.setCell ⟨go8, (a1 : Int).toNat * 3, none⟩ (.int .i64 (rd ((rd_T49 t480 a1).f1) 0))) w.heap.size (fun k_ => (w.heap.size ≤ k_) ∧ some k_ ≠ (.slice Ao17 t477.length co17 : Value).ownBlock) (.slice Ao22 t483.length co22) t483) := ⟨by first | exact Kd.R_mono (Kd.R_far (p := ⟨go8, (a1 : Int).toNat * 3, none⟩) (Kd.R_types HO485.out GG8.out (by decide)) (fun _ hk => hk.2) (.int .i64 (rd ((rd_T49 t480 a1).f1) 0))) (fun _ hk => ⟨hk.1.1, hk.1.2⟩) | exact Kd.R_mono (Kd.R_far (p := ⟨go8, (a1 : Int).toNat * 3, none⟩) (Kd.R_mono (Kd.R_apart' HO485.out (Kd.N_typed HO482.out) (by decide)) (fun k_ hk => (⟨hk.1, fun e_ => hk.2 (by rw [e_]; rfl)⟩ : _ ∧ k_ ≠ go8))) (fun _ hk => hk.2) (.int .i64 (rd ((rd_T49 t480 a1).f1) 0))) (fun _ hk => ⟨hk.1.1, hk.1.2⟩)⟩
      have n3_ : Aside0 (Kd.V (Kd.int .i64) 3 (w25.setCell ⟨go8, (a1 : Int).toNat * 3, none⟩ (.int .i64 (rd ((rd_T49 t480 a1).f1) 0))) w.heap.size (fun k_ => (w.heap.size ≤ k_) ∧ some k_ ≠ (.slice Ao17 t477.length co17 : Value).ownBlock ∧ some k_ ≠ (.slice (some ⟨go8, 0, none⟩) t480.length co21 : Value).ownBlock ∧ some k_ ≠ (.slice Ao22 t483.length co22 : Value).ownBlock ∧ k_ ≠ gb475 ∧ k_ ≠ gb476 ∧ k_ ≠ gb486) (.slice A487_1 ((rd_T49 t480 a1).f1).length c487_1) ((rd_T49 t480 a1).f1)) := ⟨by exact Kd.V_mono (Kd.V_far (p := ⟨go8, (a1 : Int).toNat * 3, none⟩) (Kd.V_mono HL487_1.out (fun k_ hk => (⟨hk, fun e_ => hk.2 (by rw [e_]; rfl)⟩ : _ ∧ k_ ≠ go8))) (fun _ hk => hk.2) (.int .i64 (rd ((rd_T49 t480 a1).f1) 0))) (fun _ hk => ⟨hk.1.1.1, ⟨hk.1.1.2.1, ⟨hk.1.2, ⟨hk.1.1.2.2.1, ⟨hk.1.1.2.2.2.1, ⟨hk.1.1.2.2.2.2.1, hk.1.1.2.2.2.2.2⟩⟩⟩⟩⟩⟩)⟩
      have n4_ : Aside0 (Kd.V (Kd.int .i64) 3 (w25.setCell ⟨go8, (a1 : Int).toNat * 3, none⟩ (.int .i64 (rd ((rd_T49 t480 a1).f1) 0))) w.heap.size (fun k_ => (w.heap.size ≤ k_) ∧ some k_ ≠ (.slice Ao17 t477.length co17 : Value).ownBlock ∧ some k_ ≠ (.slice (some ⟨go8, 0, none⟩) t480.length co21 : Value).ownBlock ∧ some k_ ≠ (.slice Ao22 t483.length co22 : Value).ownBlock ∧ k_ ≠ gb475 ∧ k_ ≠ gb476 ∧ k_ ≠ gb486) (.slice (some ad489) ((rd_T49 t480 a1).f1).length c488_1) ((rd_T49 t480 a1).f1)) := ⟨by exact Kd.V_mono (Kd.V_far (p := ⟨go8, (a1 : Int).toNat * 3, none⟩) (Kd.V_mono HL488_1.out (fun k_ hk => (⟨hk, fun e_ => hk.2 (by rw [e_]; rfl)⟩ : _ ∧ k_ ≠ go8))) (fun _ hk => hk.2) (.int .i64 (rd ((rd_T49 t480 a1).f1) 0))) (fun _ hk => ⟨hk.1.1.1, ⟨hk.1.1.2.1, ⟨hk.1.2, ⟨hk.1.1.2.2.1, ⟨hk.1.1.2.2.2.1, ⟨hk.1.1.2.2.2.2.1, hk.1.1.2.2.2.2.2⟩⟩⟩⟩⟩⟩)⟩
      have n5_ : Aside0 ((w25.setCell ⟨go8, (a1 : Int).toNat * 3, none⟩ (.int .i64 (rd ((rd_T49 t480 a1).f1) 0))).heap[gb475]? = some (.cells #[.slice A0_0 l0_0.length c0_0, .slice A0_1 l0_1.length c0_1, .slice A0_2 l0_2.length c0_2] 31 (0, 0))) := ⟨by refine blk_far ?_ (by have h_ := Kd.N_away HO482.out (fun _ hk => hk.2.2.2.1); intro e_; exact h_ (by rw [e_]; rfl)) _; exact BK475.out⟩
      have n6_ : Aside0 ((w25.setCell ⟨go8, (a1 : Int).toNat * 3, none⟩ (.int .i64 (rd ((rd_T49 t480 a1).f1) 0))).heap[gb476]? = some (.cells #[.slice none 0 0, .slice none 0 0, .slice none 0 0] 31 (0, 0))) := ⟨by refine blk_far ?_ (by have h_ := Kd.N_away HO482.out (fun _ hk => hk.2.2.2.2.1); intro e_; exact h_ (by rw [e_]; rfl)) _; exact BK476.out⟩
      have n7_ : Aside0 ((w25.setCell ⟨go8, (a1 : Int).toNat * 3, none⟩ (.int .i64 (rd ((rd_T49 t480 a1).f1) 0))).heap[gb486]? = some (.cells #[.slice Ao17 t477.length co17, .slice (some ⟨go8, 0, none⟩) t480.length co21, .slice Ao22 t483.length co22] 31 (0, 0))) := ⟨by refine blk_far ?_ (by have h_ := Kd.N_away HO482.out (fun _ hk => hk.2.2.2.2.2); intro e_; exact h_ (by rw [e_]; rfl)) _; exact BK486.out⟩
      have n8_ : Aside0 (Below w.heap.size w (w25.setCell ⟨go8, (a1 : Int).toNat * 3, none⟩ (.int .i64 (rd ((rd_T49 t480 a1).f1) 0)))) := ⟨by repeat (first | (with_reducible first | exact HB.out | apply below_alloc | apply pw_below_drewN | apply below_drew1 | refine below_set ?_ GB8.out | refine below_set ?_ GE475.out | refine below_set ?_ GE476.out | refine below_set ?_ GE486.out) | exact HB.out)⟩
      (try clear HO479)
      (try clear HO482)
      (try clear HO485)
      (try clear HL487_1)
      (try clear HL488_1)
      (try clear BK475)
      (try clear BK476)
      (try clear BK486)
      (try clear HB)
      generalize (w25.setCell ⟨go8, (a1 : Int).toNat * 3, none⟩ (.int .i64 (rd ((rd_T49 t480 a1).f1) 0))) = w27 at n0_ n1_ n2_ n3_ n4_ n5_ n6_ n7_ n8_ ⊢
      have HO479 := n0_
      have HO482 := n1_
      have HO485 := n2_
      have HL487_1 := n3_
      have HL488_1 := n4_
      have BK475 := n5_
      have BK476 := n6_
      have BK486 := n7_
      have HB := n8_
      clear n0_ n1_ n2_ n3_ n4_ n5_ n6_ n7_ n8_
      try go_wp2
      have n0_ := Aside0.mk (Kd.R_drew HO479.out)
      have n1_ := Aside0.mk (Kd.N_drew HO482.out)
      have n2_ := Aside0.mk (Kd.R_drew HO485.out)
      have n3_ := Aside0.mk (Kd.V_drew HL487_1.out)
      have n4_ := Aside0.mk (Kd.V_drew HL488_1.out)
      have n5_ := Aside0.mk (blk_drew BK475.out)
      have n6_ := Aside0.mk (blk_drew BK476.out)
      have n7_ := Aside0.mk (blk_drew BK486.out)
      have n8_ := Aside0.mk (below_drew1 HB.out)
      clear HO479
      clear HO482
      clear HO485
      clear HL487_1
      clear HL488_1
      clear BK475
      clear BK476
      clear BK486
      clear HB
      have HO479 := n0_
      have HO482 := n1_
      have HO485 := n2_
      have HL487_1 := n3_
      have HL488_1 := n4_
      have BK475 := n5_
      have BK476 := n6_
      have BK486 := n7_
      have HB := n8_
      clear n0_ n1_ n2_ n3_ n4_ n5_ n6_ n7_ n8_
      have p491 : 0 ≤ (a1 : Int) := of_decide_eq_true (by assumption)
      have q491 : a1 < (y490.length : Int) := (by have h_ : (a1 : Int) < ((t480.length : Int) : Int) := of_decide_eq_true (by assumption); first | (have e_ := (Kd.N_reads' HO482.out).1; omega) | simpa only [Ny490.out, List.length_set] using h_)
      have ql491 : ((a1 : Int) < ((t480.length : Int) : Int)) = True := eq_true (of_decide_eq_true (by assumption))
      obtain ⟨ad491, A491_1, c491_1, e491, hx491_0, hx491_1, hx491_2, hl491_1, hi491_1⟩ := at_T49 (Kd.N_reads' HO482.out).2.2 a1 p491 q491
      obtain rfl : (⟨go8, 0, none⟩ : Addr) = ad491 := (by injection e491)
      obtain ⟨ce491, hce491, hMe491, hcc491⟩ := Kd.N_get HO482.out z49 a1 p491 (by first | exact q491 | exact of_decide_eq_true (by assumption) | (have e_ := (Kd.N_reads' HO482.out).1; omega))
      obtain ⟨ua491_1, uc491_1, rfl, ul491_1, ge491_1⟩ := k49_openF hMe491
      have hv491_1 := hcc491 1 _ rfl
      rw [add_field _ _ 1 (by omega)] at hv491_1
      replace hv491_1 := Option.some.inj (hv491_1.symm.trans hx491_1)
      injection hv491_1 with hva_ hvn_ hvc_
      rw [hva_] at ge491_1
      rw [hvc_] at ul491_1
      have HL491_1 := Aside0.mk (show Kd.V (Kd.int .i64) 3 _ w.heap.size _ _ ((rd_T49 y490 a1).f1) from Kd.V_mk ul491_1 ge491_1)
      clear hva_ hvn_ hvc_ ge491_1 ul491_1
      clear hcc491 hce491
      (first | simp only [add_plain] at hx491_0 | simp only [add_at] at hx491_0 | simp only [Addr.add, Nat.zero_add] at hx491_0 | skip)
      (first | simp only [add_plain] at hx491_1 | simp only [add_at] at hx491_1 | simp only [Addr.add, Nat.zero_add] at hx491_1 | skip)
      (first | simp only [add_plain] at hx491_2 | simp only [add_at] at hx491_2 | simp only [Addr.add, Nat.zero_add] at hx491_2 | skip)
      have HR491_1 := Aside0.mk hi491_1
      have HC491_1 := Aside0.mk hl491_1
      clear hi491_1 hl491_1
      replace p491 := eq_true p491
      replace q491 := eq_true q491
      have q29 : (1 : Int) ≤ ((((rd_T49 y490 a1).f1).length : Int) : Int) := of_decide_eq_true (by assumption)
      obtain ⟨i029, hi029, _, hsz29, _⟩ := info_parts info3
      have hroom29 : ((rd_T49 y490 a1).f1).length ≤ c491_1 := HC491_1.out
      have hC29 : Kd.F (Kd.int .i64) _ _ A491_1 ((rd_T49 y490 a1).f1).length ((rd_T49 y490 a1).f1) := (Kd.V_at (base := w.heap.size) HL491_1.out).2.2
      have hcut29 := cut_from (P := Try.prog) 23 3 .i64 Try.underlying23 hi029 1 hsz29 A491_1 ((rd_T49 y490 a1).f1).length c491_1 1 (by omega) q29
      have hr29 := Kd.F_cut (m := (1 : Int).toNat) (c := c491_1) hC29 (by omega) hroom29
      obtain ⟨A29, hA29⟩ : ∃ A1, A1 = (if c491_1 = (1 : Int).toNat then A491_1 else (A491_1 : Option Addr).map (·.add ((1 : Int).toNat * 1))) := ⟨_, rfl⟩
      obtain ⟨c29, hc29⟩ : ∃ c1, c1 = c491_1 - (1 : Int).toNat := ⟨_, rfl⟩
      have hy29 : y492.length = ((rd_T49 y490 a1).f1).length - (1 : Int).toNat := (by rw [Ny492.out, List.length_drop] <;> omega)
      rw [show ((rd_T49 y490 a1).f1).drop (1 : Int).toNat = y492 from Ny492.out.symm] at hr29
      replace hr29 : Kd.F (Kd.int .i64) _ _ A29 y492.length y492 := (by rw [hA29]; exact hr29)
      rw [← hy29, ← hA29, ← hc29] at hcut29
      have HO496 := Aside0.mk (show Kd.V (Kd.int .i64) 3 _ w.heap.size _ (.slice A29 y492.length c29) y492 from Kd.V_mk (by rw [hy29, hc29]; exact Nat.sub_le_sub_right hroom29 _) hr29)
      have HC496 := Aside0.mk (show y492.length ≤ c29 from by rw [hy29, hc29]; exact Nat.sub_le_sub_right hroom29 _)
      clear hr29 hC29 hroom29 hi029 hsz29 hc29
      have KY29 := Aside0.mk hy29
      have KA29 := Aside0.mk hA29
      clear hy29 hA29
      replace q29 := eq_true q29
      have p10 : 0 ≤ (a1 : Int) := of_decide_eq_true (by assumption)
      have q10 : (a1 : Int) < ((t480.length : Int) : Int) := of_decide_eq_true (by assumption)
      obtain ⟨ce10, hcl10, hM10, hcc10, hfr10⟩ := Kd.N_elem HO482.out z49 (a1 : Int) p10 q10
      obtain ⟨ua10_1, uc10_1, rfl, ul10_1, ge10_1⟩ := k49_openF hM10
      have hx10_0 : World.cell? _ ⟨go8, (a1 : Int).toNat * 3, none⟩ = some (.int .i64 ((rd_T49 y490 a1).f0)) := hcc10 0 _ rfl
      have hx10_1 : World.cell? _ ⟨go8, (a1 : Int).toNat * 3 + 1, none⟩ = some (.slice ua10_1 ((rd_T49 y490 a1).f1).length uc10_1) := hcc10 1 _ rfl
      have hx10_2 : World.cell? _ ⟨go8, (a1 : Int).toNat * 3 + 2, none⟩ = some (.int .i64 ((rd_T49 y490 a1).f2)) := hcc10 2 _ rfl
      have hf10_0 : World.frozen? _ ⟨go8, (a1 : Int).toNat * 3, none⟩ = false := hfr10 0
      have hf10_1 : World.frozen? _ ⟨go8, (a1 : Int).toNat * 3 + 1, none⟩ = false := hfr10 1
      have hf10_2 : World.frozen? _ ⟨go8, (a1 : Int).toNat * 3 + 2, none⟩ = false := hfr10 2
      clear hcl10 hcc10 hfr10 hM10
      replace p10 := eq_true p10
      replace q10 := eq_true q10
      have HX30 := Aside0.mk (show Kd.N k49 49 _ w.heap.size (fun k_ => (w.heap.size ≤ k_) ∧ some k_ ≠ (.slice Ao17 t477.length co17 : Value).ownBlock ∧ some k_ ≠ (.slice Ao22 t483.length co22 : Value).ownBlock ∧ k_ ≠ gb475 ∧ k_ ≠ gb476 ∧ k_ ≠ gb486) (.slice (some ⟨go8, 0, none⟩) t480.length co21) y490 from (Kd.N_mono (HO482.out) (fun k_ hk => ⟨hk.1, ⟨hk.2.1, ⟨hk.2.2.1, ⟨hk.2.2.2.1, ⟨hk.2.2.2.2.1, hk.2.2.2.2.2⟩⟩⟩⟩⟩)))
      obtain ⟨ce30, hcl30, hM30, hcc30, hfr30⟩ := Kd.N_elem HX30.out z49 (a1 : Int) (of_decide_eq_true (by assumption)) (by have h_ : (a1 : Int) < ((t480.length : Int) : Int) := of_decide_eq_true (by assumption); first | exact h_ | (have e_ := (Kd.N_reads' HO482.out).1; omega) | simpa using h_)
      obtain ⟨ua30_1, uc30_1, rfl, ul30_1, ge30_1⟩ := k49_openF hM30
      have HP30 := (Kd.N_seg HX30.out (a1 : Int) (of_decide_eq_true (by assumption)) (by have h_ : (a1 : Int) < ((t480.length : Int) : Int) := of_decide_eq_true (by assumption); first | exact h_ | (have e_ := (Kd.N_reads' HO482.out).1; omega) | simpa using h_) (seg := [.slice A29 y492.length c29]) (j := 1) hcl30 hcc30 (show 2 ≤ 3 from by decide) (x' := (⟨(rd_T49 y490 a1).f0, y492, (rd_T49 y490 a1).f2⟩ : S49)) (k49_mkF _ _ (⟨(rd_T49 y490 a1).f0, y492, (rd_T49 y490 a1).f2⟩ : S49) (Kd.V_reads' (Kd.V_mono (ok' := (fun k_ => ((fun k_ => (w.heap.size ≤ k_) ∧ some k_ ≠ (.slice Ao17 t477.length co17 : Value).ownBlock ∧ some k_ ≠ (.slice Ao22 t483.length co22 : Value).ownBlock ∧ k_ ≠ gb475 ∧ k_ ≠ gb476 ∧ k_ ≠ gb486)) k_ ∧ k_ ≠ go8)) (HO496.out) (fun k_ hk => ⟨⟨hk.1.1, ⟨hk.1.2.1, ⟨hk.1.2.2.1, ⟨hk.1.2.2.2.1, ⟨hk.1.2.2.2.2.1, hk.1.2.2.2.2.2⟩⟩⟩⟩⟩, fun e_ => (hk.2) (by rw [e_]; rfl)⟩))).2.1 (Kd.V_F (Kd.V_mono (ok' := (fun k_ => ((fun k_ => (w.heap.size ≤ k_) ∧ some k_ ≠ (.slice Ao17 t477.length co17 : Value).ownBlock ∧ some k_ ≠ (.slice Ao22 t483.length co22 : Value).ownBlock ∧ k_ ≠ gb475 ∧ k_ ≠ gb476 ∧ k_ ≠ gb486)) k_ ∧ k_ ≠ go8)) (HO496.out) (fun k_ hk => ⟨⟨hk.1.1, ⟨hk.1.2.1, ⟨hk.1.2.2.1, ⟨hk.1.2.2.2.1, ⟨hk.1.2.2.2.2.1, hk.1.2.2.2.2.2⟩⟩⟩⟩⟩, fun e_ => (hk.2) (by rw [e_]; rfl)⟩)))) (fun _ hk => hk)).1
      rw [← Ny497.out] at HP30
      have HQ30 := Aside0.mk HP30
      clear hcl30 hcc30 hfr30 hM30 HP30
      refine start_ (n := 13) (S := fun w' => w'.cell? ⟨gb486, 0, none⟩ = some (.slice Ao17 t477.length co17) ∧ w'.cell? ⟨gb486, 1, none⟩ = some (.slice (some ⟨go8, 0, none⟩) t480.length co21) ∧ w'.cell? ⟨gb486, 2, none⟩ = some (.slice Ao22 t483.length co22) ∧ w'.cell? ⟨go8, (a1).toNat * 3, none⟩ = some (.int .i64 ((rd_T49 y490 a1).f0)) ∧ w'.cell? ⟨go8, (a1).toNat * 3 + 1, none⟩ = some (.slice A491_1 ((rd_T49 y490 a1).f1).length c491_1) ∧ w'.cell? ⟨go8, (a1).toNat * 3 + 2, none⟩ = some (.int .i64 ((rd_T49 y490 a1).f2))) (ds := [12]) #[false, false, false, false, false, false, false, false, false, false, false, false, false] (by kernel_rfl) rfl rfl ⟨(blk_cell BK486.out 0).trans rfl, (blk_cell BK486.out 1).trans rfl, (blk_cell BK486.out 2).trans rfl, hx491_0, hx491_1, hx491_2⟩ (fun hHeld => ?_); refine with_tabW spec_l1step.tab4 spec_l1step.bits4 (fun HT_ HW_ => ?_)
      generalize w27.drew = w28 at HO479 HO482 HO485 HL487_1 HL488_1 BK475 BK476 BK486 HB HL491_1 HO496 HQ30 HR491_1 hf10_0 hf10_1 hf10_2 hx10_0 hx10_1 hx10_2 hx491_0 hx491_1 hx491_2 hHeld ⊢
      refine pure_ (i := 0) (N := some 29) (v := ?_) (a' := ?_) #[true, false, false, false, false, false, false, false, false, false, false, false, false] rfl rfl (any_of HT_.out (by kernel_rfl)) (fun _ _ _ h => h) (Or.inl ⟨by rfl, ?_⟩) ?_ ?_
      rotate_left
      ·intro w'
       go_simp
       with_reducible rfl
      rotate_left
      ·simp only [Act.put, List.setIfInBounds_toArray, List.set_cons_zero, List.set_cons_succ, i64_w, i32_w]
       rfl
      refine pure_ (i := 2) (N := some 31) (v := ?_) (a' := ?_) #[true, false, true, false, false, false, false, false, false, false, false, false, false] rfl rfl (any_of HT_.out (by kernel_rfl)) (fun _ _ _ h => h) (Or.inl ⟨by rfl, ?_⟩) ?_ ?_
      rotate_left
      ·intro w'
       go_simp
       with_reducible rfl
      rotate_left
      ·simp only [Act.put, List.setIfInBounds_toArray, List.set_cons_zero, List.set_cons_succ, i64_w, i32_w]
       rfl
      refine pure_ (i := 3) (N := some 32) (v := ?_) (a' := ?_) #[true, false, true, true, false, false, false, false, false, false, false, false, false] rfl rfl (any_of HT_.out (by kernel_rfl)) (fun _ _ _ h => h) (Or.inl ⟨by rfl, ?_⟩) ?_ ?_
      rotate_left
      ·intro w'
       go_simp
       with_reducible rfl
      rotate_left
      ·simp only [Act.put, List.setIfInBounds_toArray, List.set_cons_zero, List.set_cons_succ, i64_w, i32_w]
       rfl
      refine pure_ (i := 5) (N := some 34) (v := ?_) (a' := ?_) #[true, false, true, true, false, true, false, false, false, false, false, false, false] rfl rfl (any_of HT_.out (by kernel_rfl)) (fun _ _ _ h => h) (Or.inl ⟨by rfl, ?_⟩) ?_ ?_
      rotate_left
      ·intro w'
       go_simp
       with_reducible rfl
      rotate_left
      ·simp only [Act.put, List.setIfInBounds_toArray, List.set_cons_zero, List.set_cons_succ, i64_w, i32_w]
       rfl
      refine take_ (i := 1) (N := some 30) (v := ?_) (a' := ?_) #[true, true, true, true, false, true, false, false, false, false, false, false, false] rfl rfl (take_ofW HT_.out HW_.out (by kernel_rfl)) (fun _ _ _ h => h) (Or.inl ⟨by rfl, ?_⟩) hHeld ?_ ?_
      rotate_left
      ·rintro w' ⟨s0, s1, s2, s3, s4, s5⟩
       go_simp
       with_reducible rfl
      rotate_left
      ·simp only [Act.put, List.setIfInBounds_toArray, List.set_cons_zero, List.set_cons_succ, i64_w, i32_w]
       rfl
      refine take_ (i := 4) (N := some 33) (v := ?_) (a' := ?_) #[true, true, true, true, true, true, false, false, false, false, false, false, false] rfl rfl (take_ofW HT_.out HW_.out (by kernel_rfl)) (fun _ _ _ h => h) (Or.inl ⟨by rfl, ?_⟩) hHeld ?_ ?_
      rotate_left
      ·rintro w' ⟨s0, s1, s2, s3, s4, s5⟩
       go_simp
       with_reducible rfl
      rotate_left
      ·simp only [Act.put, List.setIfInBounds_toArray, List.set_cons_zero, List.set_cons_succ, i64_w, i32_w]
       rfl
      refine pure_ (i := 6) (N := some 35) (v := ?_) (a' := ?_) #[true, true, true, true, true, true, true, false, false, false, false, false, false] rfl rfl (any_of HT_.out (by kernel_rfl)) (fun _ _ _ h => h) (Or.inl ⟨by rfl, ?_⟩) ?_ ?_
      rotate_left
      ·intro w'
       go_simp
       with_reducible rfl
      rotate_left
      ·simp only [Act.put, List.setIfInBounds_toArray, List.set_cons_zero, List.set_cons_succ, i64_w, i32_w]
       rfl
      refine pure_ (i := 7) (N := some 36) (v := ?_) (a' := ?_) #[true, true, true, true, true, true, true, true, false, false, false, false, false] rfl rfl (any_of HT_.out (by kernel_rfl)) (fun _ _ _ h => h) (Or.inl ⟨by rfl, ?_⟩) ?_ ?_
      rotate_left
      ·intro w'
       go_simp
       with_reducible rfl
      rotate_left
      ·simp only [Act.put, List.setIfInBounds_toArray, List.set_cons_zero, List.set_cons_succ, i64_w, i32_w]
       rfl
      refine take_ (i := 8) (N := some 37) (v := ?_) (a' := ?_) #[true, true, true, true, true, true, true, true, true, false, false, false, false] rfl rfl (take_ofW HT_.out HW_.out (by kernel_rfl)) (fun _ _ _ h => h) (Or.inl ⟨by rfl, ?_⟩) hHeld ?_ ?_
      rotate_left
      ·rintro w' ⟨s0, s1, s2, s3, s4, s5⟩
       go_simp
       with_reducible rfl
      rotate_left
      ·simp only [Act.put, List.setIfInBounds_toArray, List.set_cons_zero, List.set_cons_succ, i64_w, i32_w]
       rfl
      refine pure_ (i := 9) (N := some 38) (v := ?_) (a' := ?_) #[true, true, true, true, true, true, true, true, true, true, false, false, false] rfl rfl (any_of HT_.out (by kernel_rfl)) (fun _ _ _ h => h) (Or.inl ⟨by rfl, ?_⟩) ?_ ?_
      rotate_left
      ·intro w'
       go_simp
       with_reducible rfl
      rotate_left
      ·simp only [Act.put, List.setIfInBounds_toArray, List.set_cons_zero, List.set_cons_succ, i64_w, i32_w]
       rfl
      refine pure_ (i := 10) (N := some 39) (v := ?_) (a' := ?_) #[true, true, true, true, true, true, true, true, true, true, true, false, false] rfl rfl (any_of HT_.out (by kernel_rfl)) (fun _ _ _ h => h) (Or.inl ⟨by rfl, ?_⟩) ?_ ?_
      rotate_left
      ·intro w'
       go_simp
       with_reducible rfl
      rotate_left
      ·simp only [Act.put, List.setIfInBounds_toArray, List.set_cons_zero, List.set_cons_succ, i64_w, i32_w]
       rfl
      refine pure_ (i := 11) (N := some 40) (v := ?_) (a' := ?_) #[true, true, true, true, true, true, true, true, true, true, true, true, false] rfl rfl (any_of HT_.out (by kernel_rfl)) (fun _ _ _ h => h) (Or.inl ⟨by rfl, ?_⟩) ?_ ?_
      rotate_left
      ·intro w'
       go_simp
       with_reducible rfl
      rotate_left
      ·simp only [Act.put, List.setIfInBounds_toArray, List.set_cons_zero, List.set_cons_succ, i64_w, i32_w]
       rfl
      refine last_ (i := 12) (N := none) #[true, true, true, true, true, true, true, true, true, true, true, true, true] rfl rfl (one_of HT_.out (by kernel_rfl)) (by decide) (fun K hK => ?_)
      refine skip_ (w1 := ?_) (by rfl) rfl ?_ ?_
      rotate_left
      ·go_simp
       rfl
      refine hK.out _ _ ?_
      clear hK K
      refine done_ (done_of HT_.out (by kernel_rfl)) ?_
      have n0_ : Aside0 (Kd.R (Kd.int .i64) 3 (w28.setCell ⟨go8, (a1 : Int).toNat * 3 + 1, none⟩ (.slice A29 y492.length c29)) w.heap.size (fun k_ => (w.heap.size ≤ k_) ∧ some k_ ≠ (.slice Ao22 t483.length co22 : Value).ownBlock) (.slice Ao17 t477.length co17) t477) := ⟨by first | exact Kd.R_mono (Kd.R_far (p := ⟨go8, (a1 : Int).toNat * 3 + 1, none⟩) (Kd.R_types HO479.out GG8.out (by decide)) (fun _ hk => hk.2) (.slice A29 y492.length c29)) (fun _ hk => ⟨hk.1.1, hk.1.2⟩) | exact Kd.R_mono (Kd.R_far (p := ⟨go8, (a1 : Int).toNat * 3 + 1, none⟩) (Kd.R_mono (Kd.R_apart' HO479.out (Kd.N_typed HO482.out) (by decide)) (fun k_ hk => (⟨hk.1, fun e_ => hk.2 (by rw [e_]; rfl)⟩ : _ ∧ k_ ≠ go8))) (fun _ hk => hk.2) (.slice A29 y492.length c29)) (fun _ hk => ⟨hk.1.1, hk.1.2⟩)⟩
      have n1_ : Aside0 (Kd.N k49 49 (w28.setCell ⟨go8, (a1 : Int).toNat * 3 + 1, none⟩ (.slice A29 y492.length c29)) w.heap.size (fun k_ => (w.heap.size ≤ k_) ∧ some k_ ≠ (.slice Ao17 t477.length co17 : Value).ownBlock ∧ some k_ ≠ (.slice Ao22 t483.length co22 : Value).ownBlock ∧ k_ ≠ gb475 ∧ k_ ≠ gb476 ∧ k_ ≠ gb486) (.slice (some ⟨go8, 0, none⟩) t480.length co21) y497) := ⟨by exact HQ30.out⟩
      have n2_ : Aside0 (Kd.R (Kd.int .i64) 3 (w28.setCell ⟨go8, (a1 : Int).toNat * 3 + 1, none⟩ (.slice A29 y492.length c29)) w.heap.size (fun k_ => (w.heap.size ≤ k_) ∧ some k_ ≠ (.slice Ao17 t477.length co17 : Value).ownBlock) (.slice Ao22 t483.length co22) t483) := ⟨by first | exact Kd.R_mono (Kd.R_far (p := ⟨go8, (a1 : Int).toNat * 3 + 1, none⟩) (Kd.R_types HO485.out GG8.out (by decide)) (fun _ hk => hk.2) (.slice A29 y492.length c29)) (fun _ hk => ⟨hk.1.1, hk.1.2⟩) | exact Kd.R_mono (Kd.R_far (p := ⟨go8, (a1 : Int).toNat * 3 + 1, none⟩) (Kd.R_mono (Kd.R_apart' HO485.out (Kd.N_typed HO482.out) (by decide)) (fun k_ hk => (⟨hk.1, fun e_ => hk.2 (by rw [e_]; rfl)⟩ : _ ∧ k_ ≠ go8))) (fun _ hk => hk.2) (.slice A29 y492.length c29)) (fun _ hk => ⟨hk.1.1, hk.1.2⟩)⟩
      have n3_ : Aside0 (Kd.V (Kd.int .i64) 3 (w28.setCell ⟨go8, (a1 : Int).toNat * 3 + 1, none⟩ (.slice A29 y492.length c29)) w.heap.size (fun k_ => (w.heap.size ≤ k_) ∧ some k_ ≠ (.slice Ao17 t477.length co17 : Value).ownBlock ∧ some k_ ≠ (.slice (some ⟨go8, 0, none⟩) t480.length co21 : Value).ownBlock ∧ some k_ ≠ (.slice Ao22 t483.length co22 : Value).ownBlock ∧ k_ ≠ gb475 ∧ k_ ≠ gb476 ∧ k_ ≠ gb486) (.slice A487_1 ((rd_T49 t480 a1).f1).length c487_1) ((rd_T49 t480 a1).f1)) := ⟨by exact Kd.V_mono (Kd.V_far (p := ⟨go8, (a1 : Int).toNat * 3 + 1, none⟩) (Kd.V_mono HL487_1.out (fun k_ hk => (⟨hk, fun e_ => hk.2.2.1 (by rw [e_]; rfl)⟩ : _ ∧ k_ ≠ go8))) (fun _ hk => hk.2) (.slice A29 y492.length c29)) (fun _ hk => ⟨hk.1.1, ⟨hk.1.2.1, ⟨hk.1.2.2.1, ⟨hk.1.2.2.2.1, ⟨hk.1.2.2.2.2.1, ⟨hk.1.2.2.2.2.2.1, hk.1.2.2.2.2.2.2⟩⟩⟩⟩⟩⟩)⟩
      have n4_ : Aside0 (Kd.V (Kd.int .i64) 3 (w28.setCell ⟨go8, (a1 : Int).toNat * 3 + 1, none⟩ (.slice A29 y492.length c29)) w.heap.size (fun k_ => (w.heap.size ≤ k_) ∧ some k_ ≠ (.slice Ao17 t477.length co17 : Value).ownBlock ∧ some k_ ≠ (.slice (some ⟨go8, 0, none⟩) t480.length co21 : Value).ownBlock ∧ some k_ ≠ (.slice Ao22 t483.length co22 : Value).ownBlock ∧ k_ ≠ gb475 ∧ k_ ≠ gb476 ∧ k_ ≠ gb486) (.slice (some ad489) ((rd_T49 t480 a1).f1).length c488_1) ((rd_T49 t480 a1).f1)) := ⟨by exact Kd.V_mono (Kd.V_far (p := ⟨go8, (a1 : Int).toNat * 3 + 1, none⟩) (Kd.V_mono HL488_1.out (fun k_ hk => (⟨hk, fun e_ => hk.2.2.1 (by rw [e_]; rfl)⟩ : _ ∧ k_ ≠ go8))) (fun _ hk => hk.2) (.slice A29 y492.length c29)) (fun _ hk => ⟨hk.1.1, ⟨hk.1.2.1, ⟨hk.1.2.2.1, ⟨hk.1.2.2.2.1, ⟨hk.1.2.2.2.2.1, ⟨hk.1.2.2.2.2.2.1, hk.1.2.2.2.2.2.2⟩⟩⟩⟩⟩⟩)⟩
      have n5_ : Aside0 (Kd.V (Kd.int .i64) 3 (w28.setCell ⟨go8, (a1 : Int).toNat * 3 + 1, none⟩ (.slice A29 y492.length c29)) w.heap.size (fun k_ => (w.heap.size ≤ k_) ∧ some k_ ≠ (.slice Ao17 t477.length co17 : Value).ownBlock ∧ some k_ ≠ (.slice (some ⟨go8, 0, none⟩) t480.length co21 : Value).ownBlock ∧ some k_ ≠ (.slice Ao22 t483.length co22 : Value).ownBlock ∧ k_ ≠ gb475 ∧ k_ ≠ gb476 ∧ k_ ≠ gb486) (.slice A491_1 ((rd_T49 y490 a1).f1).length c491_1) ((rd_T49 y490 a1).f1)) := ⟨by exact Kd.V_mono (Kd.V_far (p := ⟨go8, (a1 : Int).toNat * 3 + 1, none⟩) (Kd.V_mono HL491_1.out (fun k_ hk => (⟨hk, fun e_ => hk.2 (by rw [e_]; rfl)⟩ : _ ∧ k_ ≠ go8))) (fun _ hk => hk.2) (.slice A29 y492.length c29)) (fun _ hk => ⟨hk.1.1.1, ⟨hk.1.1.2.1, ⟨hk.1.2, ⟨hk.1.1.2.2.1, ⟨hk.1.1.2.2.2.1, ⟨hk.1.1.2.2.2.2.1, hk.1.1.2.2.2.2.2⟩⟩⟩⟩⟩⟩)⟩
      have n6_ : Aside0 (Kd.V (Kd.int .i64) 3 (w28.setCell ⟨go8, (a1 : Int).toNat * 3 + 1, none⟩ (.slice A29 y492.length c29)) w.heap.size (fun k_ => (w.heap.size ≤ k_) ∧ some k_ ≠ (.slice Ao17 t477.length co17 : Value).ownBlock ∧ some k_ ≠ (.slice (some ⟨go8, 0, none⟩) t480.length co21 : Value).ownBlock ∧ some k_ ≠ (.slice Ao22 t483.length co22 : Value).ownBlock ∧ k_ ≠ gb475 ∧ k_ ≠ gb476 ∧ k_ ≠ gb486) (.slice A29 y492.length c29) y492) := ⟨by exact Kd.V_mono (Kd.V_far (p := ⟨go8, (a1 : Int).toNat * 3 + 1, none⟩) (Kd.V_mono HO496.out (fun k_ hk => (⟨hk, fun e_ => hk.2 (by rw [e_]; rfl)⟩ : _ ∧ k_ ≠ go8))) (fun _ hk => hk.2) (.slice A29 y492.length c29)) (fun _ hk => ⟨hk.1.1.1, ⟨hk.1.1.2.1, ⟨hk.1.2, ⟨hk.1.1.2.2.1, ⟨hk.1.1.2.2.2.1, ⟨hk.1.1.2.2.2.2.1, hk.1.1.2.2.2.2.2⟩⟩⟩⟩⟩⟩)⟩
      have n7_ : Aside0 ((w28.setCell ⟨go8, (a1 : Int).toNat * 3 + 1, none⟩ (.slice A29 y492.length c29)).heap[gb475]? = some (.cells #[.slice A0_0 l0_0.length c0_0, .slice A0_1 l0_1.length c0_1, .slice A0_2 l0_2.length c0_2] 31 (0, 0))) := ⟨by refine blk_far ?_ (by have h_ := Kd.N_away HO482.out (fun _ hk => hk.2.2.2.1); intro e_; exact h_ (by rw [e_]; rfl)) _; exact BK475.out⟩
      have n8_ : Aside0 ((w28.setCell ⟨go8, (a1 : Int).toNat * 3 + 1, none⟩ (.slice A29 y492.length c29)).heap[gb476]? = some (.cells #[.slice none 0 0, .slice none 0 0, .slice none 0 0] 31 (0, 0))) := ⟨by refine blk_far ?_ (by have h_ := Kd.N_away HO482.out (fun _ hk => hk.2.2.2.2.1); intro e_; exact h_ (by rw [e_]; rfl)) _; exact BK476.out⟩
      have n9_ : Aside0 ((w28.setCell ⟨go8, (a1 : Int).toNat * 3 + 1, none⟩ (.slice A29 y492.length c29)).heap[gb486]? = some (.cells #[.slice Ao17 t477.length co17, .slice (some ⟨go8, 0, none⟩) t480.length co21, .slice Ao22 t483.length co22] 31 (0, 0))) := ⟨by refine blk_far ?_ (by have h_ := Kd.N_away HO482.out (fun _ hk => hk.2.2.2.2.2); intro e_; exact h_ (by rw [e_]; rfl)) _; exact BK486.out⟩
      have n10_ : Aside0 (Below w.heap.size w (w28.setCell ⟨go8, (a1 : Int).toNat * 3 + 1, none⟩ (.slice A29 y492.length c29))) := ⟨by repeat (first | (with_reducible first | exact HB.out | apply below_alloc | apply pw_below_drewN | apply below_drew1 | refine below_set ?_ GB8.out | refine below_set ?_ GE475.out | refine below_set ?_ GE476.out | refine below_set ?_ GE486.out) | exact HB.out)⟩
      (try clear HO479)
      (try clear HO482)
      (try clear HO485)
      (try clear HL487_1)
      (try clear HL488_1)
      (try clear HL491_1)
      (try clear HO496)
      (try clear BK475)
      (try clear BK476)
      (try clear BK486)
      (try clear HB)
      generalize (w28.setCell ⟨go8, (a1 : Int).toNat * 3 + 1, none⟩ (.slice A29 y492.length c29)) = w31 at n0_ n1_ n2_ n3_ n4_ n5_ n6_ n7_ n8_ n9_ n10_ ⊢
      have HO479 := n0_
      have HO482 := n1_
      have HO485 := n2_
      have HL487_1 := n3_
      have HL488_1 := n4_
      have HL491_1 := n5_
      have HO496 := n6_
      have BK475 := n7_
      have BK476 := n8_
      have BK486 := n9_
      have HB := n10_
      clear n0_ n1_ n2_ n3_ n4_ n5_ n6_ n7_ n8_ n9_ n10_
      have hcz32_0 : w31.cell? ⟨gb486, 0, none⟩ = some (.slice Ao17 t477.length co17) := (blk_cell BK486.out 0).trans rfl
      have hcz32_1 : w31.cell? ⟨gb486, 1, none⟩ = some (.slice (some ⟨go8, 0, none⟩) t480.length co21) := (blk_cell BK486.out 1).trans rfl
      have hcz32_2 : w31.cell? ⟨gb486, 2, none⟩ = some (.slice Ao22 t483.length co22) := (blk_cell BK486.out 2).trans rfl
      have hfz32_0 := blk_frozen BK486.out 0
      have hfz32_1 := blk_frozen BK486.out 1
      have hfz32_2 := blk_frozen BK486.out 2
      have hcz33_0 : w31.cell? ⟨gb476, 0, none⟩ = some (.slice none 0 0) := (blk_cell BK476.out 0).trans rfl
      have hcz33_1 : w31.cell? ⟨gb476, 1, none⟩ = some (.slice none 0 0) := (blk_cell BK476.out 1).trans rfl
      have hcz33_2 : w31.cell? ⟨gb476, 2, none⟩ = some (.slice none 0 0) := (blk_cell BK476.out 2).trans rfl
      have hfz33_0 := blk_frozen BK476.out 0
      have hfz33_1 := blk_frozen BK476.out 1
      have hfz33_2 := blk_frozen BK476.out 2
      try go_wp2
      refine bodyPost_ret (results_cell_row rfl _ _ gb476 31 #[.slice Ao17 t477.length co17, .slice (some ⟨go8, 0, none⟩) t480.length co21, .slice Ao22 t483.length co22] (0, 0) _ rfl (by refine blk_put (cs := #[.slice Ao17 t477.length co17, .slice (some ⟨go8, 0, none⟩) t480.length co21, .slice none 0 0]) ?_ 2 _ rfl; refine blk_put (cs := #[.slice Ao17 t477.length co17, .slice none 0 0, .slice none 0 0]) ?_ 1 _ rfl; refine blk_put (cs := #[.slice none 0 0, .slice none 0 0, .slice none 0 0]) ?_ 0 _ rfl; exact BK476.out) Try.underlying31 rfl (by kernel_rfl)) rfl ?_
      exact ⟨_, _, _, by first | rfl | (simp [errW_none, errW_some] <;> rfl) | (simp [*, errW_none, errW_some] <;> rfl), by exact Kd.R_mono (Kd.R_far (p := ⟨gb476, 2, none⟩) (Kd.R_far (p := ⟨gb476, 1, none⟩) (Kd.R_far (p := ⟨gb476, 0, none⟩) (Kd.R_types HO479.out BK476.out (by decide)) (fun _ hk => hk.2) (.slice Ao17 t477.length co17)) (fun _ hk => hk.2) (.slice (some ⟨go8, 0, none⟩) t480.length co21)) (fun _ hk => hk.2) (.slice Ao22 t483.length co22)) (fun _ hk => ⟨hk.1.1, hk.1.2⟩), by exact Kd.N_mono (Kd.N_far (p := ⟨gb476, 2, none⟩) (Kd.N_far (p := ⟨gb476, 1, none⟩) (Kd.N_far (p := ⟨gb476, 0, none⟩) (Kd.N_mono HO482.out (fun k_ hk => (⟨hk, hk.2.2.2.2.1⟩ : _ ∧ k_ ≠ gb476))) (fun _ hk => hk.2) (.slice Ao17 t477.length co17)) (fun _ hk => hk.2) (.slice (some ⟨go8, 0, none⟩) t480.length co21)) (fun _ hk => hk.2) (.slice Ao22 t483.length co22)) (fun _ hk => ⟨hk.1.1, ⟨hk.1.2.1, hk.1.2.2.1⟩⟩), by exact Kd.R_mono (Kd.R_far (p := ⟨gb476, 2, none⟩) (Kd.R_far (p := ⟨gb476, 1, none⟩) (Kd.R_far (p := ⟨gb476, 0, none⟩) (Kd.R_types HO485.out BK476.out (by decide)) (fun _ hk => hk.2) (.slice Ao17 t477.length co17)) (fun _ hk => hk.2) (.slice (some ⟨go8, 0, none⟩) t480.length co21)) (fun _ hk => hk.2) (.slice Ao22 t483.length co22)) (fun _ hk => ⟨hk.1.1, hk.1.2⟩), by repeat (first | (with_reducible first | exact HB.out | apply below_alloc | apply pw_below_drewN | apply below_drew1 | refine below_set ?_ GE475.out | refine below_set ?_ GE476.out | refine below_set ?_ GE486.out) | exact HB.out)⟩
     ·rw [if_neg c9] at H
      exact absurd H (by simp)
    ·rw [if_neg c7] at H
     exact absurd H (by simp)
   ·rw [if_neg c6] at H
    have c6b0 : decide (0 < (((rd_T49 t480 a1).f1).length : Int)) = false := decide_eq_false c6
    have c6b1 : decide (0 < ((rd_T49 t480 a1).f1).length) = false := decide_eq_false (by omega)
    clear c6
    have c34b0 := eq_true (of_decide_eq_true (by assumption) : 0 ≤ a1)
    by_cases c35 : a1 ≤ (t480.length : Int)
    ·rw [if_pos c35] at H
     have c35b0 := eq_true c35
     have c35b1 : decide (a1 ≤ (t480.length : Int)) = true := decide_eq_true c35
     clear c35
     obtain ⟨y498, hy498⟩ : ∃ y_ : List (S49), y_ = (t480.take (a1 : Int).toNat) := ⟨_, rfl⟩
     replace H : (if 0 ≤ (wrap64 (a1 + 1)) then (if (wrap64 (a1 + 1)) ≤ (t480.length : Int) then (if a1 ≤ (t483.length : Int) then (if (wrap64 (a1 + 1)) ≤ (t483.length : Int) then (some (t477, (t480.eraseIdx (a1 : Int).toNat), (t483.eraseIdx (a1 : Int).toNat))) else (none)) else (none)) else (none)) else (none)) = some (r1, r2, r3) := by first | (rw [hy498]; with_reducible exact H) | (have H2_ := (Option.bind_some _ _).symm.trans H; rw [hy498]; with_reducible exact H2_) | (have H2_ := (Option.bind_some _ _).symm.trans H; with_reducible exact H2_) | with_reducible exact H | (rw [hy498]; exact H) | exact H
     have Ny498 := Aside0.mk hy498
     clear hy498
     obtain ⟨ji36, hji36⟩ : ∃ j_ : Int, (wrap64 (a1 + 1)) = j_ := ⟨_, rfl⟩
     replace H : (if 0 ≤ (ji36) then (if (ji36) ≤ (t480.length : Int) then (if a1 ≤ (t483.length : Int) then (if (ji36) ≤ (t483.length : Int) then (some (t477, (t480.eraseIdx (a1 : Int).toNat), (t483.eraseIdx (a1 : Int).toNat))) else (none)) else (none)) else (none)) else (none)) = some (r1, r2, r3) := by first | (rw [hji36] at H; exact H) | (simp only [hji36] at H ⊢; exact H)
     (try rw [hji36] at A3)
     have hji36w : (IntKind.i64.wrap (a1 + 1)) = ji36 := (i64_w _).trans hji36
     by_cases c37 : 0 ≤ (ji36)
     ·rw [if_pos c37] at H
      have c37b0 := eq_true c37
      have c37b1 : decide (0 ≤ (ji36)) = true := decide_eq_true c37
      clear c37
      by_cases c38 : (ji36) ≤ (t480.length : Int)
      ·rw [if_pos c38] at H
       have c38b0 := eq_true c38
       have c38b1 : decide ((ji36) ≤ (t480.length : Int)) = true := decide_eq_true c38
       clear c38
       obtain ⟨y503, hy503⟩ : ∃ y_ : List (S49), y_ = (t480.drop ((ji36) : Int).toNat) := ⟨_, rfl⟩
       replace H : (if a1 ≤ (t483.length : Int) then (if (ji36) ≤ (t483.length : Int) then (some (t477, (t480.eraseIdx (a1 : Int).toNat), (t483.eraseIdx (a1 : Int).toNat))) else (none)) else (none)) = some (r1, r2, r3) := by first | (rw [hy503]; with_reducible exact H) | (have H2_ := (Option.bind_some _ _).symm.trans H; rw [hy503]; with_reducible exact H2_) | (have H2_ := (Option.bind_some _ _).symm.trans H; with_reducible exact H2_) | with_reducible exact H | (rw [hy503]; exact H) | exact H
       have Ny503 := Aside0.mk hy503
       clear hy503
       obtain ⟨y508, hy508⟩ : ∃ y_ : List (S49), y_ = (t480.eraseIdx (a1 : Int).toNat) := ⟨_, rfl⟩
       replace H : (if a1 ≤ (t483.length : Int) then (if (ji36) ≤ (t483.length : Int) then (some (t477, y508, (t483.eraseIdx (a1 : Int).toNat))) else (none)) else (none)) = some (r1, r2, r3) := by first | (rw [hy508]; with_reducible exact H) | (have H2_ := (Option.bind_some _ _).symm.trans H; rw [hy508]; with_reducible exact H2_) | (have H2_ := (Option.bind_some _ _).symm.trans H; with_reducible exact H2_) | with_reducible exact H | (rw [hy508]; exact H) | exact H
       have Ny508 := Aside0.mk hy508
       clear hy508
       have c39b0 := eq_true (of_decide_eq_true (by assumption) : 0 ≤ a1)
       by_cases c40 : a1 ≤ (t483.length : Int)
       ·rw [if_pos c40] at H
        have c40b0 := eq_true c40
        have c40b1 : decide (a1 ≤ (t483.length : Int)) = true := decide_eq_true c40
        clear c40
        obtain ⟨y511, hy511⟩ : ∃ y_ : List Int, y_ = (t483.take (a1 : Int).toNat) := ⟨_, rfl⟩
        replace H : (if (ji36) ≤ (t483.length : Int) then (some (t477, y508, (t483.eraseIdx (a1 : Int).toNat))) else (none)) = some (r1, r2, r3) := by first | (rw [hy511]; with_reducible exact H) | (have H2_ := (Option.bind_some _ _).symm.trans H; rw [hy511]; with_reducible exact H2_) | (have H2_ := (Option.bind_some _ _).symm.trans H; with_reducible exact H2_) | with_reducible exact H | (rw [hy511]; exact H) | exact H
        have Ny511 := Aside0.mk hy511
        clear hy511
        have c41b0 := eq_true (of_decide_eq_true (by assumption) : 0 ≤ (ji36))
        by_cases c42 : (ji36) ≤ (t483.length : Int)
        ·rw [if_pos c42] at H
         have c42b0 := eq_true c42
         have c42b1 : decide ((ji36) ≤ (t483.length : Int)) = true := decide_eq_true c42
         clear c42
         obtain ⟨y516, hy516⟩ : ∃ y_ : List Int, y_ = (t483.drop ((ji36) : Int).toNat) := ⟨_, rfl⟩
         replace H : (some (t477, y508, (t483.eraseIdx (a1 : Int).toNat))) = some (r1, r2, r3) := by first | (rw [hy516]; with_reducible exact H) | (have H2_ := (Option.bind_some _ _).symm.trans H; rw [hy516]; with_reducible exact H2_) | (have H2_ := (Option.bind_some _ _).symm.trans H; with_reducible exact H2_) | with_reducible exact H | (rw [hy516]; exact H) | exact H
         have Ny516 := Aside0.mk hy516
         clear hy516
         obtain ⟨y521, hy521⟩ : ∃ y_ : List Int, y_ = (t483.eraseIdx (a1 : Int).toNat) := ⟨_, rfl⟩
         replace H : (some (t477, y508, y521)) = some (r1, r2, r3) := by first | (rw [hy521]; with_reducible exact H) | (have H2_ := (Option.bind_some _ _).symm.trans H; rw [hy521]; with_reducible exact H2_) | (have H2_ := (Option.bind_some _ _).symm.trans H; with_reducible exact H2_) | with_reducible exact H | (rw [hy521]; exact H) | exact H
         have Ny521 := Aside0.mk hy521
         clear hy521
         simp only [Option.some.injEq, Prod.mk.injEq] at H
         obtain ⟨rfl, rfl, rfl⟩ := H
         go_enter Try.func51, Try.ntmps51
         try go_wp2_with (first | ((with_reducible refine gate_dst (N := 2) rfl ?_); refine box_event ?hg (N := 2) ?hd (cs := #[.slice A0_0 l0_0.length c0_0, .slice A0_1 l0_1.length c0_1, .slice A0_2 l0_2.length c0_2]) (t := 31) ?hr ?_; (case hd => rfl); (case hg => rfl); (case hr => first | (go_simp; done) | (go_simp; rfl)); intro gb475 hg w43 hbox hb; have n0_ := Aside0.mk (below_step (by exact HB.out) hb); have n1_ := Aside0.mk (hbox); have n2_ := Aside0.mk ((by rw [hg]; exact (below_size (by exact HB.out)) : w.heap.size ≤ gb475)); have n3_ := Aside0.mk ((by rw [hg]; exact (below_size (by exact HB.out)) : w.heap.size ≤ gb475)); clear HB; have HB := n0_; have BK475 := n1_; have GW475 := n2_; have GE475 := n3_; clear n0_ n1_ n2_ n3_; clear hb hbox hg) | ((with_reducible refine gate_dst (N := 4) rfl ?_); refine box_event ?hg (N := 4) ?hd (cs := #[.slice none 0 0, .slice none 0 0, .slice none 0 0]) (t := 31) ?hr ?_; (case hd => rfl); (case hg => rfl); (case hr => first | (go_simp; done) | (go_simp; rfl)); intro gb476 hg w44 hbox hb; have n0_ := Aside0.mk (blk_below (g := gb475) (o := .cells #[.slice A0_0 l0_0.length c0_0, .slice A0_1 l0_1.length c0_1, .slice A0_2 l0_2.length c0_2] 31 (0, 0)) (by exact BK475.out) hb); have n1_ := Aside0.mk (below_step (by exact HB.out) hb); have n2_ := Aside0.mk (hbox); have n3_ := Aside0.mk ((by rw [hg]; exact (below_size (by exact HB.out)) : w.heap.size ≤ gb476)); have n4_ := Aside0.mk ((by rw [hg]; exact (below_size (by exact HB.out)) : w.heap.size ≤ gb476)); have n5_ := Aside0.mk ((by rw [hg]; exact Nat.ne_of_lt (blk_lt (g := gb475) (o := .cells #[.slice A0_0 l0_0.length c0_0, .slice A0_1 l0_1.length c0_1, .slice A0_2 l0_2.length c0_2] 31 (0, 0)) (by exact BK475.out)) : gb475 ≠ gb476)); have n6_ := Aside0.mk ((by rw [hg]; exact Nat.ne_of_gt (blk_lt (g := gb475) (o := .cells #[.slice A0_0 l0_0.length c0_0, .slice A0_1 l0_1.length c0_1, .slice A0_2 l0_2.length c0_2] 31 (0, 0)) (by exact BK475.out)) : gb476 ≠ gb475)); clear BK475; clear HB; have BK475 := n0_; have HB := n1_; have BK476 := n2_; have GW476 := n3_; have GE476 := n4_; have NB475_476 := n5_; have NB476_475 := n6_; clear n0_ n1_ n2_ n3_ n4_ n5_ n6_; clear hb hbox hg; have hnb45 := NB475_476.out; have hnc45 := NB476_475.out; have hcz46_0 : w44.cell? ⟨gb475, 0, none⟩ = some (.slice A0_0 l0_0.length c0_0) := (blk_cell BK475.out 0).trans rfl; have hcz46_1 : w44.cell? ⟨gb475, 1, none⟩ = some (.slice A0_1 l0_1.length c0_1) := (blk_cell BK475.out 1).trans rfl; have hcz46_2 : w44.cell? ⟨gb475, 2, none⟩ = some (.slice A0_2 l0_2.length c0_2) := (blk_cell BK475.out 2).trans rfl; have hfz46_0 := blk_frozen BK475.out 0; have hfz46_1 := blk_frozen BK475.out 1; have hfz46_2 := blk_frozen BK475.out 2) | ((with_reducible refine gate_callee (f := 59) rfl ?_); refine goesL_ (some 7) rfl rfl Try.func59 (by kernel_rfl) rfl #[.agg #[.slice A0_0 l0_0.length c0_0, .slice A0_1 l0_1.length c0_1, .slice A0_2 l0_2.length c0_2]] rfl (by (try simp only [List.map_toArray, List.map_cons, List.map_nil]); first | done | rfl | (simp only [List.length_drop, List.length_take]; rfl)) ?_; (with_reducible refine (spec_l1copy.calls k _ _ l0_0 _ _ l0_1 _ _ l0_2 t477 t480 t483 _ ?side1 ?side2 ?side3 ?side4 ?side5 ?side6 A3.out).mono ?_); (case side1 => repeat (first | exact (Kd.C_below HR0_0.out HB.out) | (with_reducible refine Kd.C_alloc ?_ _) | (with_reducible refine Kd.C_drewN ?_ _) | (with_reducible refine Kd.C_drew ?_))); (case side2 => exact HC0_0.out); (case side3 => repeat (first | exact (Kd.C_below HR0_1.out HB.out) | (with_reducible refine Kd.C_alloc ?_ _) | (with_reducible refine Kd.C_drewN ?_ _) | (with_reducible refine Kd.C_drew ?_))); (case side4 => exact HC0_1.out); (case side5 => repeat (first | exact (Kd.C_below HR0_2.out HB.out) | (with_reducible refine Kd.C_alloc ?_ _) | (with_reducible refine Kd.C_drewN ?_ _) | (with_reducible refine Kd.C_drew ?_))); (case side6 => exact HC0_2.out); rintro e w47 ⟨v478, v481, v484, rfl, ho0, ho1, ho2, hb⟩; refine ⟨_, rfl, ?_⟩; have n0_ := Aside0.mk (Kd.R_lower (Kd.R_newM (M := fun k_ => (w.heap.size ≤ k_)) ho0 (below_size (by exact HB.out)) (fun k_ h_ => h_)) (below_size (by exact HB.out))); have n1_ := Aside0.mk (Kd.N_lower (Kd.N_mono (ok' := fun k_ => (w.heap.size ≤ k_) ∧ some k_ ≠ (v478 : Value).ownBlock ∧ some k_ ≠ (v484 : Value).ownBlock ∧ k_ ≠ gb475 ∧ k_ ≠ gb476) (Kd.S_N (Kd.S_bound ho1)) (fun k_ hk_ => ⟨(Nat.le_trans (below_size (by exact HB.out)) hk_.2.1), hk_.1.1, hk_.1.2, (Kd.freshB (g := gb475) (o := .cells #[.slice A0_0 l0_0.length c0_0, .slice A0_1 l0_1.length c0_1, .slice A0_2 l0_2.length c0_2] 31 (0, 0)) (by exact BK475.out) k_ hk_.2.1), (Kd.freshB (g := gb476) (o := .cells #[.slice none 0 0, .slice none 0 0, .slice none 0 0] 31 (0, 0)) (by exact BK476.out) k_ hk_.2.1)⟩)) (below_size (by exact HB.out))); have n2_ := Aside0.mk (Kd.R_lower (Kd.R_newM (M := fun k_ => (w.heap.size ≤ k_)) ho2 (below_size (by exact HB.out)) (fun k_ h_ => h_)) (below_size (by exact HB.out))); have n3_ := Aside0.mk (blk_below (g := gb475) (o := .cells #[.slice A0_0 l0_0.length c0_0, .slice A0_1 l0_1.length c0_1, .slice A0_2 l0_2.length c0_2] 31 (0, 0)) (by exact BK475.out) hb); have n4_ := Aside0.mk (blk_below (g := gb476) (o := .cells #[.slice none 0 0, .slice none 0 0, .slice none 0 0] 31 (0, 0)) (by exact BK476.out) hb); have n5_ := Aside0.mk (below_step (by exact HB.out) hb); clear BK475; clear BK476; clear HB; have HO479 := n0_; have HO482 := n1_; have HO485 := n2_; have BK475 := n3_; have BK476 := n4_; have HB := n5_; clear n0_ n1_ n2_ n3_ n4_ n5_; (try clear hb); (try clear hb2); (try clear hk); (try clear hi); (try clear ho0); (try clear ho1); (try clear ho2)) | ((with_reducible refine gate_dst (N := 5) rfl ?_); refine box_event ?hg (N := 5) ?hd (cs := #[.slice none 0 0, .slice none 0 0, .slice none 0 0]) (t := 31) ?hr ?_; (case hd => rfl); (case hg => rfl); (case hr => first | (go_simp; done) | (go_simp; rfl)); intro gb486 hg w48 hbox hb; have n0_ := Aside0.mk (Kd.R_below (by exact HO479.out) hb); have n1_ := Aside0.mk (Kd.N_below (Kd.N_elderB (by exact HO482.out) gb486 (Nat.le_of_eq hg.symm)) hb); have n2_ := Aside0.mk (Kd.R_below (by exact HO485.out) hb); have n3_ := Aside0.mk (blk_below (g := gb475) (o := .cells #[.slice A0_0 l0_0.length c0_0, .slice A0_1 l0_1.length c0_1, .slice A0_2 l0_2.length c0_2] 31 (0, 0)) (by exact BK475.out) hb); have n4_ := Aside0.mk (blk_below (g := gb476) (o := .cells #[.slice none 0 0, .slice none 0 0, .slice none 0 0] 31 (0, 0)) (by exact BK476.out) hb); have n5_ := Aside0.mk (below_step (by exact HB.out) hb); have n6_ := Aside0.mk (hbox); have n7_ := Aside0.mk ((by rw [hg]; exact (below_size (by exact HB.out)) : w.heap.size ≤ gb486)); have n8_ := Aside0.mk ((by rw [hg]; exact (below_size (by exact HB.out)) : w.heap.size ≤ gb486)); have n9_ := Aside0.mk ((by rw [hg]; exact Nat.ne_of_lt (blk_lt (g := gb475) (o := .cells #[.slice A0_0 l0_0.length c0_0, .slice A0_1 l0_1.length c0_1, .slice A0_2 l0_2.length c0_2] 31 (0, 0)) (by exact BK475.out)) : gb475 ≠ gb486)); have n10_ := Aside0.mk ((by rw [hg]; exact Nat.ne_of_gt (blk_lt (g := gb475) (o := .cells #[.slice A0_0 l0_0.length c0_0, .slice A0_1 l0_1.length c0_1, .slice A0_2 l0_2.length c0_2] 31 (0, 0)) (by exact BK475.out)) : gb486 ≠ gb475)); have n11_ := Aside0.mk ((by rw [hg]; exact Nat.ne_of_lt (blk_lt (g := gb476) (o := .cells #[.slice none 0 0, .slice none 0 0, .slice none 0 0] 31 (0, 0)) (by exact BK476.out)) : gb476 ≠ gb486)); have n12_ := Aside0.mk ((by rw [hg]; exact Nat.ne_of_gt (blk_lt (g := gb476) (o := .cells #[.slice none 0 0, .slice none 0 0, .slice none 0 0] 31 (0, 0)) (by exact BK476.out)) : gb486 ≠ gb476)); clear HO479; clear HO482; clear HO485; clear BK475; clear BK476; clear HB; have HO479 := n0_; have HO482 := n1_; have HO485 := n2_; have BK475 := n3_; have BK476 := n4_; have HB := n5_; have BK486 := n6_; have GW486 := n7_; have GE486 := n8_; have NB475_486 := n9_; have NB486_475 := n10_; have NB476_486 := n11_; have NB486_476 := n12_; clear n0_ n1_ n2_ n3_ n4_ n5_ n6_ n7_ n8_ n9_ n10_ n11_ n12_; clear hb hbox hg; obtain ⟨Ao49, co49, eo49⟩ := Kd.R_slice HO479.out; subst eo49; have hnb50 := NB486_475.out; have hnc50 := NB475_486.out; have hnb51 := NB486_476.out; have hnc51 := NB476_486.out; have hcz52_0 : w48.cell? ⟨gb486, 0, none⟩ = some (.slice none 0 0) := (blk_cell BK486.out 0).trans rfl; have hcz52_1 : w48.cell? ⟨gb486, 1, none⟩ = some (.slice none 0 0) := (blk_cell BK486.out 1).trans rfl; have hcz52_2 : w48.cell? ⟨gb486, 2, none⟩ = some (.slice none 0 0) := (blk_cell BK486.out 2).trans rfl; have hfz52_0 := blk_frozen BK486.out 0; have hfz52_1 := blk_frozen BK486.out 1; have hfz52_2 := blk_frozen BK486.out 2; obtain ⟨Ao53, co53, eo53⟩ := Kd.N_slice HO482.out; subst eo53; obtain ⟨Ao54, co54, eo54⟩ := Kd.R_slice HO485.out; subst eo54) | ((with_reducible refine gate_store (t := 31) (p := 5) rfl ?_); refine store_event (t := 31) (p := 5) (v := ?vo_w55) (w1 := (((w48.setCell ⟨gb486, 0, none⟩ (.slice Ao49 t477.length co49)).setCell ⟨gb486, 1, none⟩ (.slice Ao53 t480.length co53)).setCell ⟨gb486, 2, none⟩ (.slice Ao54 t483.length co54))) ?hg ?ho ?hn ?hr ?_; (case ho => rfl); (case hg => rfl); (case hn => rfl); (case hr => first | (go_simp; done) | (go_simp; rfl)); intro w55 hw; have n0_ : Aside0 (Kd.R (Kd.int .i64) 3 w55 w.heap.size (fun k_ => (w.heap.size ≤ k_) ∧ some k_ ≠ (.slice Ao54 t483.length co54 : Value).ownBlock) (.slice Ao49 t477.length co49) t477) := ⟨(by rw [hw]; exact (by exact Kd.R_mono (Kd.R_far (p := ⟨gb486, 2, none⟩) (Kd.R_far (p := ⟨gb486, 1, none⟩) (Kd.R_far (p := ⟨gb486, 0, none⟩) (Kd.R_types HO479.out BK486.out (by decide)) (fun _ hk => hk.2) (.slice Ao49 t477.length co49)) (fun _ hk => hk.2) (.slice Ao53 t480.length co53)) (fun _ hk => hk.2) (.slice Ao54 t483.length co54)) (fun _ hk => ⟨hk.1.1, hk.1.2⟩)))⟩; have n1_ : Aside0 (Kd.N k49 49 w55 w.heap.size (fun k_ => (w.heap.size ≤ k_) ∧ some k_ ≠ (.slice Ao49 t477.length co49 : Value).ownBlock ∧ some k_ ≠ (.slice Ao54 t483.length co54 : Value).ownBlock ∧ k_ ≠ gb475 ∧ k_ ≠ gb476 ∧ k_ ≠ gb486) (.slice Ao53 t480.length co53) t480) := ⟨(by rw [hw]; exact (by exact Kd.N_mono (Kd.N_far (p := ⟨gb486, 2, none⟩) (Kd.N_far (p := ⟨gb486, 1, none⟩) (Kd.N_far (p := ⟨gb486, 0, none⟩) (Kd.N_mono HO482.out (fun k_ hk => (⟨hk, hk.2⟩ : _ ∧ k_ ≠ gb486))) (fun _ hk => hk.2) (.slice Ao49 t477.length co49)) (fun _ hk => hk.2) (.slice Ao53 t480.length co53)) (fun _ hk => hk.2) (.slice Ao54 t483.length co54)) (fun _ hk => ⟨hk.1.1.1, ⟨hk.1.1.2.1, ⟨hk.1.1.2.2.1, ⟨hk.1.1.2.2.2.1, ⟨hk.1.1.2.2.2.2, hk.1.2⟩⟩⟩⟩⟩)))⟩; have n2_ : Aside0 (Kd.R (Kd.int .i64) 3 w55 w.heap.size (fun k_ => (w.heap.size ≤ k_) ∧ some k_ ≠ (.slice Ao49 t477.length co49 : Value).ownBlock) (.slice Ao54 t483.length co54) t483) := ⟨(by rw [hw]; exact (by exact Kd.R_mono (Kd.R_far (p := ⟨gb486, 2, none⟩) (Kd.R_far (p := ⟨gb486, 1, none⟩) (Kd.R_far (p := ⟨gb486, 0, none⟩) (Kd.R_types HO485.out BK486.out (by decide)) (fun _ hk => hk.2) (.slice Ao49 t477.length co49)) (fun _ hk => hk.2) (.slice Ao53 t480.length co53)) (fun _ hk => hk.2) (.slice Ao54 t483.length co54)) (fun _ hk => ⟨hk.1.1, hk.1.2⟩)))⟩; have n3_ : Aside0 (w55.heap[gb475]? = some (.cells #[.slice A0_0 l0_0.length c0_0, .slice A0_1 l0_1.length c0_1, .slice A0_2 l0_2.length c0_2] 31 (0, 0))) := ⟨(by rw [hw]; exact (by refine blk_far ?_ NB475_486.out _; refine blk_far ?_ NB475_486.out _; refine blk_far ?_ NB475_486.out _; exact BK475.out))⟩; have n4_ : Aside0 (w55.heap[gb476]? = some (.cells #[.slice none 0 0, .slice none 0 0, .slice none 0 0] 31 (0, 0))) := ⟨(by rw [hw]; exact (by refine blk_far ?_ NB476_486.out _; refine blk_far ?_ NB476_486.out _; refine blk_far ?_ NB476_486.out _; exact BK476.out))⟩; have n5_ : Aside0 (w55.heap[gb486]? = some (.cells #[.slice Ao49 t477.length co49, .slice Ao53 t480.length co53, .slice Ao54 t483.length co54] 31 (0, 0))) := ⟨(by rw [hw]; exact (by refine blk_put (cs := #[.slice Ao49 t477.length co49, .slice Ao53 t480.length co53, .slice none 0 0]) ?_ 2 _ rfl; refine blk_put (cs := #[.slice Ao49 t477.length co49, .slice none 0 0, .slice none 0 0]) ?_ 1 _ rfl; refine blk_put (cs := #[.slice none 0 0, .slice none 0 0, .slice none 0 0]) ?_ 0 _ rfl; exact BK486.out))⟩; have n6_ : Aside0 (Below w.heap.size w w55) := ⟨(by rw [hw]; exact (by repeat (first | (with_reducible first | exact HB.out | apply below_alloc | apply pw_below_drewN | apply below_drew1 | refine below_set ?_ GE475.out | refine below_set ?_ GE476.out | refine below_set ?_ GE486.out) | exact HB.out)))⟩; clear hw; clear HO479; clear HO482; clear HO485; clear BK475; clear BK476; clear BK486; clear HB; have HO479 := n0_; have HO482 := n1_; have HO485 := n2_; have BK475 := n3_; have BK476 := n4_; have BK486 := n5_; have HB := n6_; clear n0_ n1_ n2_ n3_ n4_ n5_ n6_; have hcz56_0 : w55.cell? ⟨gb486, 0, none⟩ = some (.slice Ao49 t477.length co49) := (blk_cell BK486.out 0).trans rfl; have hcz56_1 : w55.cell? ⟨gb486, 1, none⟩ = some (.slice Ao53 t480.length co53) := (blk_cell BK486.out 1).trans rfl; have hcz56_2 : w55.cell? ⟨gb486, 2, none⟩ = some (.slice Ao54 t483.length co54) := (blk_cell BK486.out 2).trans rfl; have hfz56_0 := blk_frozen BK486.out 0; have hfz56_1 := blk_frozen BK486.out 1; have hfz56_2 := blk_frozen BK486.out 2; have p487 : 0 ≤ (a1 : Int) := of_decide_eq_true (by assumption); have q487 : a1 < (t480.length : Int) := of_decide_eq_true (by assumption); obtain ⟨ad487, A487_1, c487_1, e487, hx487_0, hx487_1, hx487_2, hl487_1, hi487_1⟩ := at_T49 (Kd.N_reads' HO482.out).2.2 a1 p487 q487; cases e487; obtain ⟨ce487, hce487, hMe487, hcc487⟩ := Kd.N_get HO482.out z49 a1 p487 (by first | exact q487 | exact of_decide_eq_true (by assumption) | (have e_ := (Kd.N_reads' HO482.out).1; omega)); obtain ⟨ua487_1, uc487_1, rfl, ul487_1, ge487_1⟩ := k49_openF hMe487; have hv487_1 := hcc487 1 _ rfl; rw [add_field _ _ 1 (by omega)] at hv487_1; replace hv487_1 := Option.some.inj (hv487_1.symm.trans hx487_1); injection hv487_1 with hva_ hvn_ hvc_; rw [hva_] at ge487_1; rw [hvc_] at ul487_1; have HL487_1 := Aside0.mk (show Kd.V (Kd.int .i64) 3 _ w.heap.size _ _ ((rd_T49 t480 a1).f1) from Kd.V_mk ul487_1 ge487_1); clear hva_ hvn_ hvc_ ge487_1 ul487_1; clear hcc487 hce487; have HR487_1 := Aside0.mk hi487_1; have HC487_1 := Aside0.mk hl487_1; clear hi487_1 hl487_1; replace p487 := eq_true p487; replace q487 := eq_true q487))
         have n0_ := Aside0.mk (Kd.R_drew HO479.out)
         have n1_ := Aside0.mk (Kd.N_drew HO482.out)
         have n2_ := Aside0.mk (Kd.R_drew HO485.out)
         have n3_ := Aside0.mk (Kd.V_drew HL487_1.out)
         have n4_ := Aside0.mk (blk_drew BK475.out)
         have n5_ := Aside0.mk (blk_drew BK476.out)
         have n6_ := Aside0.mk (blk_drew BK486.out)
         have n7_ := Aside0.mk (Kd.C_drew HR487_1.out)
         have n8_ := Aside0.mk (below_drew1 HB.out)
         clear HO479
         clear HO482
         clear HO485
         clear HL487_1
         clear BK475
         clear BK476
         clear BK486
         clear HR487_1
         clear HB
         have HO479 := n0_
         have HO482 := n1_
         have HO485 := n2_
         have HL487_1 := n3_
         have BK475 := n4_
         have BK476 := n5_
         have BK486 := n6_
         have HR487_1 := n7_
         have HB := n8_
         clear n0_ n1_ n2_ n3_ n4_ n5_ n6_ n7_ n8_
         have q58 : (a1 : Int) ≤ ((t480.length : Int) : Int) := of_decide_eq_true (by assumption)
         obtain ⟨i058, hi058, _, hsz58, _⟩ := info_parts info49
         have hroom58 : t480.length ≤ co53 := (Kd.N_reads' HO482.out).2.1
         have hC58 : Kd.F k49 _ _ (some ad487) t480.length t480 := (Kd.V_at (base := w.heap.size) (Kd.N_V HO482.out)).2.2
         have hcut58 := cut_to (P := Try.prog) 29 49 .i64 Try.underlying29 hi058 (some ad487) t480.length co53 a1 (of_decide_eq_true (by assumption)) q58 hroom58
         have hr58 := Kd.F_take (m := (a1 : Int).toNat) hC58 (by omega)
         have hy58 : y498.length = (a1 : Int).toNat := (by rw [Ny498.out, List.length_take]; omega)
         rw [← Ny498.out] at hr58
         rw [← hy58] at hcut58
         have HO502 := Aside0.mk (show Kd.V k49 49 _ w.heap.size _ (.slice (some ad487) y498.length co53) y498 from Kd.V_mk (by omega) hr58)
         have HC502 := Aside0.mk (show y498.length ≤ co53 from by omega)
         clear hr58 hC58 hroom58 hi058 hsz58
         have KY58 := Aside0.mk hy58
         clear hy58
         replace q58 := eq_true q58
         have q59 : ((ji36) : Int) ≤ ((t480.length : Int) : Int) := of_decide_eq_true (by assumption)
         obtain ⟨i059, hi059, _, hsz59, _⟩ := info_parts info49
         have hroom59 : t480.length ≤ co53 := (Kd.N_reads' HO482.out).2.1
         have hC59 : Kd.F k49 _ _ (some ad487) t480.length t480 := (Kd.V_at (base := w.heap.size) (Kd.N_V HO482.out)).2.2
         have q059 : (0 : Int) ≤ ((ji36) : Int) := of_decide_eq_true (by assumption)
         have hcut59 := cut_from (P := Try.prog) 29 49 .i64 Try.underlying29 hi059 3 hsz59 (some ad487) t480.length co53 (ji36) q059 q59
         have hr59 := Kd.F_cut (m := ((ji36) : Int).toNat) (c := co53) hC59 (by omega) hroom59
         obtain ⟨A59, hA59⟩ : ∃ A1, A1 = (if co53 = ((ji36) : Int).toNat then (some ad487) else ((some ad487) : Option Addr).map (·.add (((ji36) : Int).toNat * 3))) := ⟨_, rfl⟩
         obtain ⟨c59, hc59⟩ : ∃ c1, c1 = co53 - ((ji36) : Int).toNat := ⟨_, rfl⟩
         have hy59 : y503.length = t480.length - ((ji36) : Int).toNat := (by rw [Ny503.out, List.length_drop] <;> omega)
         rw [show (t480).drop ((ji36) : Int).toNat = y503 from Ny503.out.symm] at hr59
         replace hr59 : Kd.F k49 _ _ A59 y503.length y503 := (by rw [hA59]; exact hr59)
         rw [← hy59, ← hA59, ← hc59] at hcut59
         have HO507 := Aside0.mk (show Kd.V k49 49 _ w.heap.size _ (.slice A59 y503.length c59) y503 from Kd.V_mk (by rw [hy59, hc59]; exact Nat.sub_le_sub_right hroom59 _) hr59)
         have HC507 := Aside0.mk (show y503.length ≤ c59 from by rw [hy59, hc59]; exact Nat.sub_le_sub_right hroom59 _)
         clear hr59 hC59 hroom59 hi059 hsz59 hc59
         have KY59 := Aside0.mk hy59
         have KA59 := Aside0.mk hA59
         clear hy59 hA59
         replace q59 := eq_true q59
         obtain ⟨go61, co61, eo61, gb61, gl61, cl61, HG61⟩ := Kd.N_form HO482.out (by have hj_ : 0 ≤ (a1 : Int) := of_decide_eq_true (by assumption); have hl_ : (ji36 : Int) ≤ (t480.length : Int) := of_decide_eq_true (by assumption); have hh_ : (a1 : Int) ≤ (t480.length : Int) := of_decide_eq_true (by assumption); rw [← hji36] at hl_; unfold wrap64 at hl_; omega)
         (first | cases eo61 | (injection eo61 with ea_ en_ ec_; (first | subst ea_ | (injection ea_ with ea_; subst ea_)); subst ec_; clear en_))
         have GB61 := Aside0.mk gb61
         have GG61 := Aside0.mk HG61
         clear gb61 gl61 HG61
         (first | simp only [add_plain] at hx487_0 | skip)
         (first | simp only [add_plain] at hx487_1 | skip)
         (first | simp only [add_plain] at hx487_2 | skip)
         refine start_ (n := 12) (S := fun w' => w'.cell? ⟨gb486, 0, none⟩ = some (.slice Ao49 t477.length co49) ∧ w'.cell? ⟨gb486, 1, none⟩ = some (.slice (some ⟨go61, 0, none⟩) t480.length co53) ∧ w'.cell? ⟨gb486, 2, none⟩ = some (.slice Ao54 t483.length co54)) (ds := [11]) #[false, false, false, false, false, false, false, false, false, false, false, false] (by kernel_rfl) rfl rfl ⟨(blk_cell BK486.out 0).trans rfl, (blk_cell BK486.out 1).trans rfl, (blk_cell BK486.out 2).trans rfl⟩ (fun hHeld => ?_); refine with_tabW spec_l1step.tab6 spec_l1step.bits6 (fun HT_ HW_ => ?_)
         generalize w55.drew = w57 at HO479 HO482 HO485 HL487_1 BK475 BK476 BK486 HR487_1 HB GG61 HO502 HO507 hx487_0 hx487_1 hx487_2 hHeld ⊢
         refine pure_ (i := 0) (N := some 42) (v := ?_) (a' := ?_) #[true, false, false, false, false, false, false, false, false, false, false, false] rfl rfl (any_of HT_.out (by kernel_rfl)) (fun _ _ _ h => h) (Or.inl ⟨by rfl, ?_⟩) ?_ ?_
         rotate_left
         ·intro w'
          go_simp
          with_reducible rfl
         rotate_left
         ·simp only [Act.put, List.setIfInBounds_toArray, List.set_cons_zero, List.set_cons_succ, i64_w, i32_w]
          rfl
         refine pure_ (i := 2) (N := some 44) (v := ?_) (a' := ?_) #[true, false, true, false, false, false, false, false, false, false, false, false] rfl rfl (any_of HT_.out (by kernel_rfl)) (fun _ _ _ h => h) (Or.inl ⟨by rfl, ?_⟩) ?_ ?_
         rotate_left
         ·intro w'
          go_simp
          with_reducible rfl
         rotate_left
         ·simp only [Act.put, List.setIfInBounds_toArray, List.set_cons_zero, List.set_cons_succ, i64_w, i32_w]
          rfl
         refine pure_ (i := 4) (N := some 46) (v := ?_) (a' := ?_) #[true, false, true, false, true, false, false, false, false, false, false, false] rfl rfl (any_of HT_.out (by kernel_rfl)) (fun _ _ _ h => h) (Or.inl ⟨by rfl, ?_⟩) ?_ ?_
         rotate_left
         ·intro w'
          go_simp
          with_reducible rfl
         rotate_left
         ·simp only [Act.put, List.setIfInBounds_toArray, List.set_cons_zero, List.set_cons_succ, i64_w, i32_w]
          rfl
         refine pure_ (i := 6) (N := some 48) (v := ?_) (a' := ?_) #[true, false, true, false, true, false, true, false, false, false, false, false] rfl rfl (any_of HT_.out (by kernel_rfl)) (fun _ _ _ h => h) (Or.inl ⟨by rfl, ?_⟩) ?_ ?_
         rotate_left
         ·intro w'
          go_simp
          with_reducible rfl
         rotate_left
         ·simp only [Act.put, List.setIfInBounds_toArray, List.set_cons_zero, List.set_cons_succ, i64_w, i32_w]
          rfl
         refine pure_ (i := 7) (N := some 49) (v := ?_) (a' := ?_) #[true, false, true, false, true, false, true, true, false, false, false, false] rfl rfl (any_of HT_.out (by kernel_rfl)) (fun _ _ _ h => h) (Or.inl ⟨by rfl, ?_⟩) ?_ ?_
         rotate_left
         ·intro w'
          go_simp
          with_reducible rfl
         rotate_left
         ·simp only [Act.put, List.setIfInBounds_toArray, List.set_cons_zero, List.set_cons_succ, i64_w, i32_w]
          rfl
         refine take_ (i := 1) (N := some 43) (v := ?_) (a' := ?_) #[true, true, true, false, true, false, true, true, false, false, false, false] rfl rfl (take_ofW HT_.out HW_.out (by kernel_rfl)) (fun _ _ _ h => h) (Or.inl ⟨by rfl, ?_⟩) hHeld ?_ ?_
         rotate_left
         ·rintro w' ⟨s0, s1, s2⟩
          go_simp
          with_reducible rfl
         rotate_left
         ·simp only [Act.put, List.setIfInBounds_toArray, List.set_cons_zero, List.set_cons_succ, i64_w, i32_w]
          rfl
         refine pure_ (i := 3) (N := some 45) (v := ?_) (a' := ?_) #[true, true, true, true, true, false, true, true, false, false, false, false] rfl rfl (any_of HT_.out (by kernel_rfl)) (fun _ _ _ h => h) (Or.inl ⟨by rfl, ?_⟩) ?_ ?_
         rotate_left
         ·intro w'
          go_simp
          with_reducible rfl
         rotate_left
         ·simp only [Act.put, List.setIfInBounds_toArray, List.set_cons_zero, List.set_cons_succ, i64_w, i32_w]
          rfl
         refine take_ (i := 5) (N := some 47) (v := ?_) (a' := ?_) #[true, true, true, true, true, true, true, true, false, false, false, false] rfl rfl (take_ofW HT_.out HW_.out (by kernel_rfl)) (fun _ _ _ h => h) (Or.inl ⟨by rfl, ?_⟩) hHeld ?_ ?_
         rotate_left
         ·rintro w' ⟨s0, s1, s2⟩
          go_simp
          with_reducible rfl
         rotate_left
         ·simp only [Act.put, List.setIfInBounds_toArray, List.set_cons_zero, List.set_cons_succ, i64_w, i32_w]
          rfl
         refine pure_ (i := 8) (N := some 50) (v := ?_) (a' := ?_) #[true, true, true, true, true, true, true, true, true, false, false, false] rfl rfl (any_of HT_.out (by kernel_rfl)) (fun _ _ _ h => h) (Or.inl ⟨by rfl, ?_⟩) ?_ ?_
         rotate_left
         ·intro w'
          go_simp
          with_reducible rfl
         rotate_left
         ·simp only [Act.put, List.setIfInBounds_toArray, List.set_cons_zero, List.set_cons_succ, i64_w, i32_w]
          rfl
         refine one_ (i := 9) (N := some 51) #[true, true, true, true, true, true, true, true, true, true, false, false] rfl rfl (one_of HT_.out (by kernel_rfl)) (by decide) (fun K hK => ?_)
         have hj_ : 0 ≤ (a1 : Int) := of_decide_eq_true (by assumption)
         have hl_ : (ji36 : Int) ≤ (t480.length : Int) := of_decide_eq_true (by assumption)
         have hh_ : (a1 : Int) ≤ (t480.length : Int) := of_decide_eq_true (by assumption)
         have hb_ := (Kd.N_reads' HO482.out).2.2.2.1
         have h0_ : (0 : Int) ≤ (ji36 : Int) := of_decide_eq_true (by assumption)
         have hy1_ := KY58.out
         have hk_ : (ji36 : Int).toNat = y498.length + 1 := (by have hw_ : (ji36 : Int) = a1 + 1 := (by have h00_ := h0_; rw [← hji36] at h00_ ⊢; unfold wrap64 at h00_ ⊢; omega); rw [hw_]; omega)
         refine Kd.N_delete_step k49 (w0 := w) w.heap.size (by rfl) (.tmp 45) (.tmp 50) 29 49 rfl Try.underlying29 (by kernel_rfl) (g := go61) (n := t480.length) (c := co53) (k := y498.length) rfl rfl ?hA ?hm (by exact HO482.out) ?hk (by exact HB.out) (below_size (by exact HB.out)) ?_
         (case hA => have ha_ := KA59.out; rw [hk_] at ha_; exact ha_)
         (case hm => have ha_ := KY59.out; omega)
         (case hk => omega)
         intro w60 ho hb hg
         clear hj_ hl_ hh_ hb_ hk_ h0_
         rw [hy1_, ← Ny508.out] at ho
         clear hy1_
         have hn_ : t480.length - 1 = y508.length := (by have := (Kd.N_reads' ho).1; omega)
         rw [hn_] at ho ⊢
         clear hn_
         have n0_ := Aside0.mk (blk_grown (g := gb475) (o := .cells #[.slice A0_0 l0_0.length c0_0, .slice A0_1 l0_1.length c0_1, .slice A0_2 l0_2.length c0_2] 31 (0, 0)) (by exact BK475.out) hg (Kd.N_ne HO482.out BK475.out (by decide)))
         have n1_ := Aside0.mk (blk_grown (g := gb476) (o := .cells #[.slice none 0 0, .slice none 0 0, .slice none 0 0] 31 (0, 0)) (by exact BK476.out) hg (Kd.N_ne HO482.out BK476.out (by decide)))
         have n2_ := Aside0.mk (Kd.R_over' (v := (.slice (some ⟨go61, 0, none⟩) t480.length co53)) (by exact HO479.out) (Kd.N_typed HO482.out) (by decide) hg)
         have n3_ := Aside0.mk (ho)
         have n4_ := Aside0.mk (Kd.R_over' (v := (.slice (some ⟨go61, 0, none⟩) t480.length co53)) (by exact HO485.out) (Kd.N_typed HO482.out) (by decide) hg)
         have n5_ := Aside0.mk (blk_grown (g := gb486) (o := .cells #[.slice Ao49 t477.length co49, .slice (some ⟨go61, 0, none⟩) t480.length co53, .slice Ao54 t483.length co54] 31 (0, 0)) (by exact BK486.out) hg (Kd.N_ne HO482.out BK486.out (by decide)))
         have n6_ := Aside0.mk (Kd.V_afterv (v := (.slice (some ⟨go61, 0, none⟩) t480.length co53)) (v1 := .slice (some ⟨go61, 0, none⟩) y508.length co53) (ok := (fun k_ => (w.heap.size ≤ k_) ∧ some k_ ≠ (.slice Ao49 t477.length co49 : Value).ownBlock ∧ some k_ ≠ (.slice Ao54 t483.length co54 : Value).ownBlock ∧ k_ ≠ gb475 ∧ k_ ≠ gb476 ∧ k_ ≠ gb486)) (by exact HL487_1.out) hg (.inl rfl))
         have n7_ := Aside0.mk (hb)
         clear BK475
         clear BK476
         clear HO479
         clear HO482
         clear HO485
         clear BK486
         clear HL487_1
         clear HB
         have BK475 := n0_
         have BK476 := n1_
         have HO479 := n2_
         have HO482 := n3_
         have HO485 := n4_
         have BK486 := n5_
         have HL487_1 := n6_
         have HB := n7_
         clear n0_ n1_ n2_ n3_ n4_ n5_ n6_ n7_
         clear ho hb hg
         refine hK.out _ _ ⟨(blk_cell BK486.out 0).trans rfl, (blk_cell BK486.out 1).trans rfl, (blk_cell BK486.out 2).trans rfl⟩ (fun hHeld => ?_)
         clear hK K
         refine norm_ (a' := ?_) ?_ ?_
         rotate_left
         ·show Act.put _ (some 51) _ = _
          simp only [Act.put, List.setIfInBounds_toArray, List.set_cons_zero, List.set_cons_succ, i64_w, i32_w]
          rfl
         refine pure_ (i := 10) (N := some 52) (v := ?_) (a' := ?_) #[true, true, true, true, true, true, true, true, true, true, true, false] rfl rfl (any_of HT_.out (by kernel_rfl)) (fun _ _ _ h => h) (Or.inl ⟨by rfl, ?_⟩) ?_ ?_
         rotate_left
         ·intro w'
          go_simp
          with_reducible rfl
         rotate_left
         ·simp only [Act.put, List.setIfInBounds_toArray, List.set_cons_zero, List.set_cons_succ, i64_w, i32_w]
          rfl
         refine last_ (i := 11) (N := none) #[true, true, true, true, true, true, true, true, true, true, true, true] rfl rfl (one_of HT_.out (by kernel_rfl)) (by decide) (fun K hK => ?_)
         have hs62 : w60.cell? ⟨gb486, 1, none⟩ = some (.slice (some ⟨go61, 0, none⟩) t480.length co53) := (blk_cell BK486.out 1).trans rfl
         have hfs62 := blk_frozen BK486.out 1
         have hns62_0 := NB475_486.out
         have hns62_1 := NB476_486.out
         have hms62_0 := NB486_475.out
         have hms62_1 := NB486_476.out
         refine skip_ (w1 := ?_) (by rfl) rfl ?_ ?_
         rotate_left
         ·go_simp
          rfl
         refine hK.out _ _ ?_
         clear hK K
         refine done_ (done_of HT_.out (by kernel_rfl)) ?_
         try go_wp2
         have n0_ : Aside0 (Kd.R (Kd.int .i64) 3 (w60.setCell ⟨gb486, 1, none⟩ (.slice (some ⟨go61, 0, none⟩) y508.length co53)) w.heap.size (fun k_ => (w.heap.size ≤ k_) ∧ some k_ ≠ (.slice Ao54 t483.length co54 : Value).ownBlock) (.slice Ao49 t477.length co49) t477) := ⟨by exact Kd.R_mono (Kd.R_far (p := ⟨gb486, 1, none⟩) (Kd.R_types HO479.out BK486.out (by decide)) (fun _ hk => hk.2) (.slice (some ⟨go61, 0, none⟩) y508.length co53)) (fun _ hk => ⟨hk.1.1, hk.1.2⟩)⟩
         have n1_ : Aside0 (Kd.N k49 49 (w60.setCell ⟨gb486, 1, none⟩ (.slice (some ⟨go61, 0, none⟩) y508.length co53)) w.heap.size (fun k_ => (w.heap.size ≤ k_) ∧ some k_ ≠ (.slice Ao49 t477.length co49 : Value).ownBlock ∧ some k_ ≠ (.slice Ao54 t483.length co54 : Value).ownBlock ∧ k_ ≠ gb475 ∧ k_ ≠ gb476 ∧ k_ ≠ gb486) (.slice (some ⟨go61, 0, none⟩) y508.length co53) y508) := ⟨by exact Kd.N_mono (Kd.N_far (p := ⟨gb486, 1, none⟩) (Kd.N_mono HO482.out (fun k_ hk => (⟨hk, hk.2.2.2.2.2⟩ : _ ∧ k_ ≠ gb486))) (fun _ hk => hk.2) (.slice (some ⟨go61, 0, none⟩) y508.length co53)) (fun _ hk => ⟨hk.1.1, ⟨hk.1.2.1, ⟨hk.1.2.2.1, ⟨hk.1.2.2.2.1, ⟨hk.1.2.2.2.2.1, hk.1.2.2.2.2.2⟩⟩⟩⟩⟩)⟩
         have n2_ : Aside0 (Kd.R (Kd.int .i64) 3 (w60.setCell ⟨gb486, 1, none⟩ (.slice (some ⟨go61, 0, none⟩) y508.length co53)) w.heap.size (fun k_ => (w.heap.size ≤ k_) ∧ some k_ ≠ (.slice Ao49 t477.length co49 : Value).ownBlock) (.slice Ao54 t483.length co54) t483) := ⟨by exact Kd.R_mono (Kd.R_far (p := ⟨gb486, 1, none⟩) (Kd.R_types HO485.out BK486.out (by decide)) (fun _ hk => hk.2) (.slice (some ⟨go61, 0, none⟩) y508.length co53)) (fun _ hk => ⟨hk.1.1, hk.1.2⟩)⟩
         have n3_ : Aside0 (Kd.V (Kd.int .i64) 3 (w60.setCell ⟨gb486, 1, none⟩ (.slice (some ⟨go61, 0, none⟩) y508.length co53)) w.heap.size (fun k_ => (w.heap.size ≤ k_) ∧ some k_ ≠ (.slice Ao49 t477.length co49 : Value).ownBlock ∧ some k_ ≠ (.slice (some ⟨go61, 0, none⟩) y508.length co53 : Value).ownBlock ∧ some k_ ≠ (.slice Ao54 t483.length co54 : Value).ownBlock ∧ k_ ≠ gb475 ∧ k_ ≠ gb476 ∧ k_ ≠ gb486) (.slice A487_1 ((rd_T49 t480 a1).f1).length c487_1) ((rd_T49 t480 a1).f1)) := ⟨by exact Kd.V_mono (Kd.V_far (p := ⟨gb486, 1, none⟩) (Kd.V_mono HL487_1.out (fun k_ hk => (⟨hk, hk.1.2.2.2.2.2⟩ : _ ∧ k_ ≠ gb486))) (fun _ hk => hk.2) (.slice (some ⟨go61, 0, none⟩) y508.length co53)) (fun _ hk => ⟨hk.1.1.1, ⟨hk.1.1.2.1, ⟨hk.1.2, ⟨hk.1.1.2.2.1, ⟨hk.1.1.2.2.2.1, ⟨hk.1.1.2.2.2.2.1, hk.1.1.2.2.2.2.2⟩⟩⟩⟩⟩⟩)⟩
         have n4_ : Aside0 ((w60.setCell ⟨gb486, 1, none⟩ (.slice (some ⟨go61, 0, none⟩) y508.length co53)).heap[gb475]? = some (.cells #[.slice A0_0 l0_0.length c0_0, .slice A0_1 l0_1.length c0_1, .slice A0_2 l0_2.length c0_2] 31 (0, 0))) := ⟨by refine blk_far ?_ NB475_486.out _; exact BK475.out⟩
         have n5_ : Aside0 ((w60.setCell ⟨gb486, 1, none⟩ (.slice (some ⟨go61, 0, none⟩) y508.length co53)).heap[gb476]? = some (.cells #[.slice none 0 0, .slice none 0 0, .slice none 0 0] 31 (0, 0))) := ⟨by refine blk_far ?_ NB476_486.out _; exact BK476.out⟩
         have n6_ : Aside0 ((w60.setCell ⟨gb486, 1, none⟩ (.slice (some ⟨go61, 0, none⟩) y508.length co53)).heap[gb486]? = some (.cells #[.slice Ao49 t477.length co49, .slice (some ⟨go61, 0, none⟩) y508.length co53, .slice Ao54 t483.length co54] 31 (0, 0))) := ⟨by refine blk_put (cs := #[.slice Ao49 t477.length co49, .slice (some ⟨go61, 0, none⟩) t480.length co53, .slice Ao54 t483.length co54]) ?_ 1 _ rfl; exact BK486.out⟩
         have n7_ : Aside0 (Below w.heap.size w (w60.setCell ⟨gb486, 1, none⟩ (.slice (some ⟨go61, 0, none⟩) y508.length co53))) := ⟨by repeat (first | (with_reducible first | exact HB.out | apply below_alloc | apply pw_below_drewN | apply below_drew1 | refine below_set ?_ GE475.out | refine below_set ?_ GE476.out | refine below_set ?_ GE486.out) | exact HB.out)⟩
         (try clear HO479)
         (try clear HO482)
         (try clear HO485)
         (try clear HL487_1)
         (try clear BK475)
         (try clear BK476)
         (try clear BK486)
         (try clear HB)
         generalize (w60.setCell ⟨gb486, 1, none⟩ (.slice (some ⟨go61, 0, none⟩) y508.length co53)) = w63 at n0_ n1_ n2_ n3_ n4_ n5_ n6_ n7_ ⊢
         have HO479 := n0_
         have HO482 := n1_
         have HO485 := n2_
         have HL487_1 := n3_
         have BK475 := n4_
         have BK476 := n5_
         have BK486 := n6_
         have HB := n7_
         clear n0_ n1_ n2_ n3_ n4_ n5_ n6_ n7_
         have n0_ := Aside0.mk (Kd.R_drew HO479.out)
         have n1_ := Aside0.mk (Kd.N_drew HO482.out)
         have n2_ := Aside0.mk (Kd.R_drew HO485.out)
         have n3_ := Aside0.mk (Kd.V_drew HL487_1.out)
         have n4_ := Aside0.mk (blk_drew BK475.out)
         have n5_ := Aside0.mk (blk_drew BK476.out)
         have n6_ := Aside0.mk (blk_drew BK486.out)
         have n7_ := Aside0.mk (below_drew1 HB.out)
         clear HO479
         clear HO482
         clear HO485
         clear HL487_1
         clear BK475
         clear BK476
         clear BK486
         clear HB
         have HO479 := n0_
         have HO482 := n1_
         have HO485 := n2_
         have HL487_1 := n3_
         have BK475 := n4_
         have BK476 := n5_
         have BK486 := n6_
         have HB := n7_
         clear n0_ n1_ n2_ n3_ n4_ n5_ n6_ n7_
         have q65 : (a1 : Int) ≤ ((t483.length : Int) : Int) := of_decide_eq_true (by assumption)
         obtain ⟨i065, hi065, _, hsz65, _⟩ := info_parts info3
         have hroom65 : t483.length ≤ co54 := (Kd.R_reads' HO485.out).2.1
         have hC65 : Kd.F (Kd.int .i64) _ _ Ao54 t483.length t483 := (Kd.V_at (base := w.heap.size) (Kd.R_V (Kd.R_types (Kd.R_types (Kd.R_types (Kd.R_apart' (HO485.out) (Kd.N_typed HO482.out) (by decide)) BK475.out (by decide)) BK476.out (by decide)) BK486.out (by decide)))).2.2
         have hcut65 := cut_to (P := Try.prog) 23 3 .i64 Try.underlying23 hi065 Ao54 t483.length co54 a1 (of_decide_eq_true (by assumption)) q65 hroom65
         have hr65 := Kd.F_take (m := (a1 : Int).toNat) hC65 (by omega)
         have hy65 : y511.length = (a1 : Int).toNat := (by rw [Ny511.out, List.length_take]; omega)
         rw [← Ny511.out] at hr65
         rw [← hy65] at hcut65
         have HO515 := Aside0.mk (show Kd.V (Kd.int .i64) 3 _ w.heap.size _ (.slice Ao54 y511.length co54) y511 from Kd.V_mk (by omega) hr65)
         have HC515 := Aside0.mk (show y511.length ≤ co54 from by omega)
         clear hr65 hC65 hroom65 hi065 hsz65
         have KY65 := Aside0.mk hy65
         clear hy65
         replace q65 := eq_true q65
         have q66 : ((ji36) : Int) ≤ ((t483.length : Int) : Int) := of_decide_eq_true (by assumption)
         obtain ⟨i066, hi066, _, hsz66, _⟩ := info_parts info3
         have hroom66 : t483.length ≤ co54 := (Kd.R_reads' HO485.out).2.1
         have hC66 : Kd.F (Kd.int .i64) _ _ Ao54 t483.length t483 := (Kd.V_at (base := w.heap.size) (Kd.R_V (Kd.R_types (Kd.R_types (Kd.R_types (Kd.R_apart' (HO485.out) (Kd.N_typed HO482.out) (by decide)) BK475.out (by decide)) BK476.out (by decide)) BK486.out (by decide)))).2.2
         have q066 : (0 : Int) ≤ ((ji36) : Int) := of_decide_eq_true (by assumption)
         have hcut66 := cut_from (P := Try.prog) 23 3 .i64 Try.underlying23 hi066 1 hsz66 Ao54 t483.length co54 (ji36) q066 q66
         have hr66 := Kd.F_cut (m := ((ji36) : Int).toNat) (c := co54) hC66 (by omega) hroom66
         obtain ⟨A66, hA66⟩ : ∃ A1, A1 = (if co54 = ((ji36) : Int).toNat then Ao54 else (Ao54 : Option Addr).map (·.add (((ji36) : Int).toNat * 1))) := ⟨_, rfl⟩
         obtain ⟨c66, hc66⟩ : ∃ c1, c1 = co54 - ((ji36) : Int).toNat := ⟨_, rfl⟩
         have hy66 : y516.length = t483.length - ((ji36) : Int).toNat := (by rw [Ny516.out, List.length_drop] <;> omega)
         rw [show (t483).drop ((ji36) : Int).toNat = y516 from Ny516.out.symm] at hr66
         replace hr66 : Kd.F (Kd.int .i64) _ _ A66 y516.length y516 := (by rw [hA66]; exact hr66)
         rw [← hy66, ← hA66, ← hc66] at hcut66
         have HO520 := Aside0.mk (show Kd.V (Kd.int .i64) 3 _ w.heap.size _ (.slice A66 y516.length c66) y516 from Kd.V_mk (by rw [hy66, hc66]; exact Nat.sub_le_sub_right hroom66 _) hr66)
         have HC520 := Aside0.mk (show y516.length ≤ c66 from by rw [hy66, hc66]; exact Nat.sub_le_sub_right hroom66 _)
         clear hr66 hC66 hroom66 hi066 hsz66 hc66
         have KY66 := Aside0.mk hy66
         have KA66 := Aside0.mk hA66
         clear hy66 hA66
         replace q66 := eq_true q66
         obtain ⟨go68, co68, eo68, gb68, gl68, cl68, HG68⟩ := Kd.R_form HO485.out (by have hj_ : 0 ≤ (a1 : Int) := of_decide_eq_true (by assumption); have hl_ : (ji36 : Int) ≤ (t483.length : Int) := of_decide_eq_true (by assumption); have hh_ : (a1 : Int) ≤ (t483.length : Int) := of_decide_eq_true (by assumption); rw [← hji36] at hl_; unfold wrap64 at hl_; omega)
         (first | cases eo68 | (injection eo68 with ea_ en_ ec_; (first | subst ea_ | (injection ea_ with ea_; subst ea_)); subst ec_; clear en_))
         have GB68 := Aside0.mk gb68
         have GG68 := Aside0.mk HG68
         clear gb68 gl68 HG68
         refine start_ (n := 12) (S := fun w' => w'.cell? ⟨gb486, 0, none⟩ = some (.slice Ao49 t477.length co49) ∧ w'.cell? ⟨gb486, 1, none⟩ = some (.slice (some ⟨go61, 0, none⟩) y508.length co53) ∧ w'.cell? ⟨gb486, 2, none⟩ = some (.slice (some ⟨go68, 0, none⟩) t483.length co54)) (ds := [11]) #[false, false, false, false, false, false, false, false, false, false, false, false] (by kernel_rfl) rfl rfl ⟨(blk_cell BK486.out 0).trans rfl, (blk_cell BK486.out 1).trans rfl, (blk_cell BK486.out 2).trans rfl⟩ (fun hHeld => ?_); refine with_tabW spec_l1step.tab7 spec_l1step.bits7 (fun HT_ HW_ => ?_)
         generalize w63.drew = w64 at HO479 HO482 HO485 HL487_1 BK475 BK476 BK486 HB GG68 HO515 HO520 hHeld ⊢
         refine pure_ (i := 0) (N := some 53) (v := ?_) (a' := ?_) #[true, false, false, false, false, false, false, false, false, false, false, false] rfl rfl (any_of HT_.out (by kernel_rfl)) (fun _ _ _ h => h) (Or.inl ⟨by rfl, ?_⟩) ?_ ?_
         rotate_left
         ·intro w'
          go_simp
          with_reducible rfl
         rotate_left
         ·simp only [Act.put, List.setIfInBounds_toArray, List.set_cons_zero, List.set_cons_succ, i64_w, i32_w]
          rfl
         refine pure_ (i := 2) (N := some 55) (v := ?_) (a' := ?_) #[true, false, true, false, false, false, false, false, false, false, false, false] rfl rfl (any_of HT_.out (by kernel_rfl)) (fun _ _ _ h => h) (Or.inl ⟨by rfl, ?_⟩) ?_ ?_
         rotate_left
         ·intro w'
          go_simp
          with_reducible rfl
         rotate_left
         ·simp only [Act.put, List.setIfInBounds_toArray, List.set_cons_zero, List.set_cons_succ, i64_w, i32_w]
          rfl
         refine pure_ (i := 4) (N := some 57) (v := ?_) (a' := ?_) #[true, false, true, false, true, false, false, false, false, false, false, false] rfl rfl (any_of HT_.out (by kernel_rfl)) (fun _ _ _ h => h) (Or.inl ⟨by rfl, ?_⟩) ?_ ?_
         rotate_left
         ·intro w'
          go_simp
          with_reducible rfl
         rotate_left
         ·simp only [Act.put, List.setIfInBounds_toArray, List.set_cons_zero, List.set_cons_succ, i64_w, i32_w]
          rfl
         refine pure_ (i := 6) (N := some 59) (v := ?_) (a' := ?_) #[true, false, true, false, true, false, true, false, false, false, false, false] rfl rfl (any_of HT_.out (by kernel_rfl)) (fun _ _ _ h => h) (Or.inl ⟨by rfl, ?_⟩) ?_ ?_
         rotate_left
         ·intro w'
          go_simp
          with_reducible rfl
         rotate_left
         ·simp only [Act.put, List.setIfInBounds_toArray, List.set_cons_zero, List.set_cons_succ, i64_w, i32_w]
          rfl
         refine pure_ (i := 7) (N := some 60) (v := ?_) (a' := ?_) #[true, false, true, false, true, false, true, true, false, false, false, false] rfl rfl (any_of HT_.out (by kernel_rfl)) (fun _ _ _ h => h) (Or.inl ⟨by rfl, ?_⟩) ?_ ?_
         rotate_left
         ·intro w'
          go_simp
          with_reducible rfl
         rotate_left
         ·simp only [Act.put, List.setIfInBounds_toArray, List.set_cons_zero, List.set_cons_succ, i64_w, i32_w]
          rfl
         refine take_ (i := 1) (N := some 54) (v := ?_) (a' := ?_) #[true, true, true, false, true, false, true, true, false, false, false, false] rfl rfl (take_ofW HT_.out HW_.out (by kernel_rfl)) (fun _ _ _ h => h) (Or.inl ⟨by rfl, ?_⟩) hHeld ?_ ?_
         rotate_left
         ·rintro w' ⟨s0, s1, s2⟩
          go_simp
          with_reducible rfl
         rotate_left
         ·simp only [Act.put, List.setIfInBounds_toArray, List.set_cons_zero, List.set_cons_succ, i64_w, i32_w]
          rfl
         refine pure_ (i := 3) (N := some 56) (v := ?_) (a' := ?_) #[true, true, true, true, true, false, true, true, false, false, false, false] rfl rfl (any_of HT_.out (by kernel_rfl)) (fun _ _ _ h => h) (Or.inl ⟨by rfl, ?_⟩) ?_ ?_
         rotate_left
         ·intro w'
          go_simp
          with_reducible rfl
         rotate_left
         ·simp only [Act.put, List.setIfInBounds_toArray, List.set_cons_zero, List.set_cons_succ, i64_w, i32_w]
          rfl
         refine take_ (i := 5) (N := some 58) (v := ?_) (a' := ?_) #[true, true, true, true, true, true, true, true, false, false, false, false] rfl rfl (take_ofW HT_.out HW_.out (by kernel_rfl)) (fun _ _ _ h => h) (Or.inl ⟨by rfl, ?_⟩) hHeld ?_ ?_
         rotate_left
         ·rintro w' ⟨s0, s1, s2⟩
          go_simp
          with_reducible rfl
         rotate_left
         ·simp only [Act.put, List.setIfInBounds_toArray, List.set_cons_zero, List.set_cons_succ, i64_w, i32_w]
          rfl
         refine pure_ (i := 8) (N := some 61) (v := ?_) (a' := ?_) #[true, true, true, true, true, true, true, true, true, false, false, false] rfl rfl (any_of HT_.out (by kernel_rfl)) (fun _ _ _ h => h) (Or.inl ⟨by rfl, ?_⟩) ?_ ?_
         rotate_left
         ·intro w'
          go_simp
          with_reducible rfl
         rotate_left
         ·simp only [Act.put, List.setIfInBounds_toArray, List.set_cons_zero, List.set_cons_succ, i64_w, i32_w]
          rfl
         refine one_ (i := 9) (N := some 62) #[true, true, true, true, true, true, true, true, true, true, false, false] rfl rfl (one_of HT_.out (by kernel_rfl)) (by decide) (fun K hK => ?_)
         have hj_ : 0 ≤ (a1 : Int) := of_decide_eq_true (by assumption)
         have hl_ : (ji36 : Int) ≤ (t483.length : Int) := of_decide_eq_true (by assumption)
         have hh_ : (a1 : Int) ≤ (t483.length : Int) := of_decide_eq_true (by assumption)
         have hb_ := (Kd.R_reads' HO485.out).2.2.2.1
         have h0_ : (0 : Int) ≤ (ji36 : Int) := of_decide_eq_true (by assumption)
         have hy1_ := KY65.out
         have hk_ : (ji36 : Int).toNat = y511.length + 1 := (by have hw_ : (ji36 : Int) = a1 + 1 := (by have h00_ := h0_; rw [← hji36] at h00_ ⊢; unfold wrap64 at h00_ ⊢; omega); rw [hw_]; omega)
         refine Kd.R_delete_step (Kd.int .i64) (w0 := w) w.heap.size (by rfl) (.tmp 56) (.tmp 61) 23 3 rfl Try.underlying23 (by kernel_rfl) (g := go68) (n := t483.length) (c := co54) (k := y511.length) rfl rfl ?hA ?hm (by exact HO485.out) ?hk (by exact HB.out) (below_size (by exact HB.out)) ?_
         (case hA => have ha_ := KA66.out; rw [hk_] at ha_; exact ha_)
         (case hm => have ha_ := KY66.out; omega)
         (case hk => omega)
         intro w67 ho hb hg
         clear hj_ hl_ hh_ hb_ hk_ h0_
         rw [hy1_, ← Ny521.out] at ho
         clear hy1_
         have hn_ : t483.length - 1 = y521.length := (by have := (Kd.R_reads' ho).1; omega)
         rw [hn_] at ho ⊢
         clear hn_
         have n0_ := Aside0.mk (blk_grown (g := gb475) (o := .cells #[.slice A0_0 l0_0.length c0_0, .slice A0_1 l0_1.length c0_1, .slice A0_2 l0_2.length c0_2] 31 (0, 0)) (by exact BK475.out) hg (Kd.R_ne HO485.out BK475.out (by decide)))
         have n1_ := Aside0.mk (blk_grown (g := gb476) (o := .cells #[.slice none 0 0, .slice none 0 0, .slice none 0 0] 31 (0, 0)) (by exact BK476.out) hg (Kd.R_ne HO485.out BK476.out (by decide)))
         have n2_ := Aside0.mk (Kd.R_after (v := (.slice (some ⟨go68, 0, none⟩) t483.length co54)) (v1 := .slice (some ⟨go68, 0, none⟩) y521.length co54) (ok := (fun k_ => (w.heap.size ≤ k_))) (by exact HO479.out) hg (.inl rfl))
         have n3_ := Aside0.mk (Kd.N_afterv (v := (.slice (some ⟨go68, 0, none⟩) t483.length co54)) (v1 := .slice (some ⟨go68, 0, none⟩) y521.length co54) (ok := (fun k_ => (w.heap.size ≤ k_) ∧ some k_ ≠ (.slice Ao49 t477.length co49 : Value).ownBlock ∧ k_ ≠ gb475 ∧ k_ ≠ gb476 ∧ k_ ≠ gb486)) (by exact Kd.N_mono HO482.out (fun _ hk => ⟨⟨hk.1, ⟨hk.2.1, ⟨hk.2.2.2.1, ⟨hk.2.2.2.2.1, hk.2.2.2.2.2⟩⟩⟩⟩, hk.2.2.1⟩)) hg (.inl rfl))
         have n4_ := Aside0.mk (ho)
         have n5_ := Aside0.mk (blk_grown (g := gb486) (o := .cells #[.slice Ao49 t477.length co49, .slice (some ⟨go61, 0, none⟩) y508.length co53, .slice (some ⟨go68, 0, none⟩) t483.length co54] 31 (0, 0)) (by exact BK486.out) hg (Kd.R_ne HO485.out BK486.out (by decide)))
         have n6_ := Aside0.mk (Kd.V_afterv (v := (.slice (some ⟨go68, 0, none⟩) t483.length co54)) (v1 := .slice (some ⟨go68, 0, none⟩) y521.length co54) (ok := (fun k_ => (w.heap.size ≤ k_) ∧ some k_ ≠ (.slice Ao49 t477.length co49 : Value).ownBlock ∧ some k_ ≠ (.slice (some ⟨go61, 0, none⟩) y508.length co53 : Value).ownBlock ∧ k_ ≠ gb475 ∧ k_ ≠ gb476 ∧ k_ ≠ gb486)) (by exact Kd.V_mono HL487_1.out (fun _ hk => ⟨⟨hk.1, ⟨hk.2.1, ⟨hk.2.2.1, ⟨hk.2.2.2.2.1, ⟨hk.2.2.2.2.2.1, hk.2.2.2.2.2.2⟩⟩⟩⟩⟩, hk.2.2.2.1⟩)) hg (.inl rfl))
         have n7_ := Aside0.mk (hb)
         clear BK475
         clear BK476
         clear HO479
         clear HO482
         clear HO485
         clear BK486
         clear HL487_1
         clear HB
         have BK475 := n0_
         have BK476 := n1_
         have HO479 := n2_
         have HO482 := n3_
         have HO485 := n4_
         have BK486 := n5_
         have HL487_1 := n6_
         have HB := n7_
         clear n0_ n1_ n2_ n3_ n4_ n5_ n6_ n7_
         clear ho hb hg
         refine hK.out _ _ ⟨(blk_cell BK486.out 0).trans rfl, (blk_cell BK486.out 1).trans rfl, (blk_cell BK486.out 2).trans rfl⟩ (fun hHeld => ?_)
         clear hK K
         refine norm_ (a' := ?_) ?_ ?_
         rotate_left
         ·show Act.put _ (some 62) _ = _
          simp only [Act.put, List.setIfInBounds_toArray, List.set_cons_zero, List.set_cons_succ, i64_w, i32_w]
          rfl
         refine pure_ (i := 10) (N := some 63) (v := ?_) (a' := ?_) #[true, true, true, true, true, true, true, true, true, true, true, false] rfl rfl (any_of HT_.out (by kernel_rfl)) (fun _ _ _ h => h) (Or.inl ⟨by rfl, ?_⟩) ?_ ?_
         rotate_left
         ·intro w'
          go_simp
          with_reducible rfl
         rotate_left
         ·simp only [Act.put, List.setIfInBounds_toArray, List.set_cons_zero, List.set_cons_succ, i64_w, i32_w]
          rfl
         refine last_ (i := 11) (N := none) #[true, true, true, true, true, true, true, true, true, true, true, true] rfl rfl (one_of HT_.out (by kernel_rfl)) (by decide) (fun K hK => ?_)
         have hs69 : w67.cell? ⟨gb486, 2, none⟩ = some (.slice (some ⟨go68, 0, none⟩) t483.length co54) := (blk_cell BK486.out 2).trans rfl
         have hfs69 := blk_frozen BK486.out 2
         have hns69_0 := NB475_486.out
         have hns69_1 := NB476_486.out
         have hms69_0 := NB486_475.out
         have hms69_1 := NB486_476.out
         refine skip_ (w1 := ?_) (by rfl) rfl ?_ ?_
         rotate_left
         ·go_simp
          rfl
         refine hK.out _ _ ?_
         clear hK K
         refine done_ (done_of HT_.out (by kernel_rfl)) ?_
         have hcz70_0 : w67.cell? ⟨gb486, 0, none⟩ = some (.slice Ao49 t477.length co49) := (blk_cell BK486.out 0).trans rfl
         have hcz70_1 : w67.cell? ⟨gb486, 1, none⟩ = some (.slice (some ⟨go61, 0, none⟩) y508.length co53) := (blk_cell BK486.out 1).trans rfl
         have hcz70_2 : w67.cell? ⟨gb486, 2, none⟩ = some (.slice (some ⟨go68, 0, none⟩) t483.length co54) := (blk_cell BK486.out 2).trans rfl
         have hfz70_0 := blk_frozen BK486.out 0
         have hfz70_1 := blk_frozen BK486.out 1
         have hfz70_2 := blk_frozen BK486.out 2
         have hcz71_0 : w67.cell? ⟨gb476, 0, none⟩ = some (.slice none 0 0) := (blk_cell BK476.out 0).trans rfl
         have hcz71_1 : w67.cell? ⟨gb476, 1, none⟩ = some (.slice none 0 0) := (blk_cell BK476.out 1).trans rfl
         have hcz71_2 : w67.cell? ⟨gb476, 2, none⟩ = some (.slice none 0 0) := (blk_cell BK476.out 2).trans rfl
         have hfz71_0 := blk_frozen BK476.out 0
         have hfz71_1 := blk_frozen BK476.out 1
         have hfz71_2 := blk_frozen BK476.out 2
         try go_wp2
         refine bodyPost_ret (results_cell_row rfl _ _ gb476 31 #[.slice Ao49 t477.length co49, .slice (some ⟨go61, 0, none⟩) y508.length co53, .slice (some ⟨go68, 0, none⟩) y521.length co54] (0, 0) _ rfl (by refine blk_put (cs := #[.slice Ao49 t477.length co49, .slice (some ⟨go61, 0, none⟩) y508.length co53, .slice none 0 0]) ?_ 2 _ rfl; refine blk_put (cs := #[.slice Ao49 t477.length co49, .slice none 0 0, .slice none 0 0]) ?_ 1 _ rfl; refine blk_put (cs := #[.slice none 0 0, .slice none 0 0, .slice none 0 0]) ?_ 0 _ rfl; refine blk_far ?_ NB476_486.out _; exact BK476.out) Try.underlying31 rfl (by kernel_rfl)) rfl ?_
         exact ⟨_, _, _, by first | rfl | (simp [errW_none, errW_some] <;> rfl) | (simp only [← hji36]; first | rfl | (simp [errW_none, errW_some] <;> rfl)) | (simp [*, errW_none, errW_some] <;> rfl), by exact Kd.R_mono (Kd.R_far (p := ⟨gb476, 2, none⟩) (Kd.R_far (p := ⟨gb476, 1, none⟩) (Kd.R_far (p := ⟨gb476, 0, none⟩) (Kd.R_far (p := ⟨gb486, 2, none⟩) (Kd.R_types (Kd.R_types HO479.out BK486.out (by decide)) BK476.out (by decide)) (fun _ hk => hk.1.2) (.slice (some ⟨go68, 0, none⟩) y521.length co54)) (fun _ hk => hk.2) (.slice Ao49 t477.length co49)) (fun _ hk => hk.2) (.slice (some ⟨go61, 0, none⟩) y508.length co53)) (fun _ hk => hk.2) (.slice (some ⟨go68, 0, none⟩) y521.length co54)) (fun _ hk => ⟨hk.1.1.1, hk.1.1.2⟩), by exact Kd.N_mono (Kd.N_far (p := ⟨gb476, 2, none⟩) (Kd.N_far (p := ⟨gb476, 1, none⟩) (Kd.N_far (p := ⟨gb476, 0, none⟩) (Kd.N_far (p := ⟨gb486, 2, none⟩) (Kd.N_mono (Kd.N_mono HO482.out (fun k_ hk => (⟨hk, hk.1.2.2.2.2⟩ : _ ∧ k_ ≠ gb486))) (fun k_ hk => (⟨hk, hk.1.1.2.2.2.1⟩ : _ ∧ k_ ≠ gb476))) (fun _ hk => hk.1.2) (.slice (some ⟨go68, 0, none⟩) y521.length co54)) (fun _ hk => hk.2) (.slice Ao49 t477.length co49)) (fun _ hk => hk.2) (.slice (some ⟨go61, 0, none⟩) y508.length co53)) (fun _ hk => hk.2) (.slice (some ⟨go68, 0, none⟩) y521.length co54)) (fun _ hk => ⟨hk.1.1.1.1, ⟨hk.1.1.1.2.1, hk.1.1.2⟩⟩), by exact Kd.R_mono (Kd.R_far (p := ⟨gb476, 2, none⟩) (Kd.R_far (p := ⟨gb476, 1, none⟩) (Kd.R_far (p := ⟨gb476, 0, none⟩) (Kd.R_far (p := ⟨gb486, 2, none⟩) (Kd.R_types (Kd.R_types HO485.out BK486.out (by decide)) BK476.out (by decide)) (fun _ hk => hk.1.2) (.slice (some ⟨go68, 0, none⟩) y521.length co54)) (fun _ hk => hk.2) (.slice Ao49 t477.length co49)) (fun _ hk => hk.2) (.slice (some ⟨go61, 0, none⟩) y508.length co53)) (fun _ hk => hk.2) (.slice (some ⟨go68, 0, none⟩) y521.length co54)) (fun _ hk => ⟨hk.1.1.1, hk.1.1.2⟩), by repeat (first | (with_reducible first | exact HB.out | apply below_alloc | apply pw_below_drewN | apply below_drew1 | refine below_set ?_ GE475.out | refine below_set ?_ GE476.out | refine below_set ?_ GE486.out) | exact HB.out)⟩
        ·rw [if_neg c42] at H
         exact absurd H (by simp)
       ·rw [if_neg c40] at H
        exact absurd H (by simp)
      ·rw [if_neg c38] at H
       exact absurd H (by simp)
     ·rw [if_neg c37] at H
      exact absurd H (by simp)
    ·rw [if_neg c35] at H
     exact absurd H (by simp)
  ·rw [if_neg c5] at H
   exact absurd H (by simp)
 ·rw [if_neg c4] at H
  exact absurd H (by simp)


end Go.Proofs.Ytncckjibiffnaaa.Q
