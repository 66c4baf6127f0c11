/- The walk of impl.step, carrying that the paths lie apart. By wip/mks.py over the print. -/
import Derived.Test.YtncckjibiffnaaaFnExactStepKx
import Derived.Test.YtncckjibiffnaaaFnExactStepQ7
import Derived.Test.YtncckjibiffnaaaFnExactStepQ8
-- Written by a program of this session (wip/drv.py, over the kit's print); not trusted: Lean checks it.
import Derived.Test.YtncckjibiffnaaaFnExactStepQ0
namespace Go.Proofs.Ytncckjibiffnaaa.Q
open Go.RowKit Go.Proofs.YtncckjibiffnaaaW.PrintWords Go.Proofs.YtncckjibiffnaaaW.PrintLast Go.Proofs.YtncckjibiffnaaaW.PrintMore
attribute [local go_sem] max2_int min2_int max_two min_two max_three min_three max_four min_four   -- for this text's walks alone
set_option linter.unusedVariables false
set_option linter.unusedSimpArgs false

set_option maxHeartbeats 8000000 in
set_option maxRecDepth 100000 in
theorem impl_stepS.calls (k : Nat) (A0_0 : Option Addr) (c0_0 : Nat) (l0_0 : List Int) (A0_1 : Option Addr) (c0_1 : Nat) (l0_1 : List (S49)) (A0_2 : Option Addr) (c0_2 : Nat) (l0_2 : List Int) (a1 : Int) (r1 : List Int) (r2 : List (S49)) (r3 : List Int) (w : World) (hr0_0 : Kd.C (Kd.int .i64) w A0_0 l0_0.length l0_0) (hc0_0 : l0_0.length ≤ c0_0) (hr0_1 : Kd.C k49 w A0_1 l0_1.length l0_1) (hc0_1 : l0_1.length ≤ c0_1) (hr0_2 : Kd.C (Kd.int .i64) w A0_2 l0_2.length l0_2) (hc0_2 : l0_2.length ≤ c0_2) (h : impl_step.f k l0_0 l0_1 l0_2 a1 = some (r1, r2, r3)) :
  Calls Try.prog 52 #[.agg #[.slice A0_0 l0_0.length c0_0, .slice A0_1 l0_1.length c0_1, .slice A0_2 l0_2.length c0_2], .int .i64 a1] w fun e w' => ∃ v0_ v1_ v2_ : Value, e = .returned (.agg #[v0_, v1_, v2_]) ∧ Kd.R (Kd.int .i64) 3 w' w.heap.size (fun k_ => (w.heap.size ≤ k_) ∧ some k_ ≠ (v2_ : Value).ownBlock) v0_ r1 ∧ Kd.S k49 49 w' w.heap.size (fun k_ => (w.heap.size ≤ k_) ∧ some k_ ≠ (v0_ : Value).ownBlock ∧ some k_ ≠ (v2_ : Value).ownBlock) v1_ r2 ∧ Kd.R (Kd.int .i64) 3 w' w.heap.size (fun k_ => (w.heap.size ≤ k_) ∧ some k_ ≠ (v0_ : Value).ownBlock) v2_ r3 ∧ Below w.heap.size w w' := by
 have hu31 := Try.underlying31
 have HR0_0 := Aside0.mk hr0_0
 have HC0_0 := Aside0.mk hc0_0
 clear hr0_0 hc0_0
 have HR0_1 := Aside0.mk hr0_1
 have HC0_1 := Aside0.mk hc0_1
 clear hr0_1 hc0_1
 have HR0_2 := Aside0.mk hr0_2
 have HC0_2 := Aside0.mk hc0_2
 clear hr0_2 hc0_2
 have HB := Aside0.mk (Below.refl w.heap.size w)
 have H : ((impl_copyState.f k l0_0 l0_1 l0_2).bind fun bt558 => (if 0 ≤ a1 then (if a1 < (bt558.2.1.length : Int) then (if (((rd_T49 bt558.2.1 a1).f1).length : Int) = 0 then (if a1 ≤ (bt558.2.1.length : Int) then (if 0 ≤ (wrap64 (a1 + 1)) then (if (wrap64 (a1 + 1)) ≤ (bt558.2.1.length : Int) then (if a1 ≤ (bt558.2.2.length : Int) then (if (wrap64 (a1 + 1)) ≤ (bt558.2.2.length : Int) then (some (bt558.1, (bt558.2.1.eraseIdx (a1 : Int).toNat), (bt558.2.2.eraseIdx (a1 : Int).toNat))) else (none)) else (none)) else (none)) else (none)) else (none)) else (if 0 < (((rd_T49 bt558.2.1 a1).f1).length : Int) then ((some (bt558.2.1.set (a1 : Int).toNat (⟨rd ((rd_T49 bt558.2.1 a1).f1) 0, (rd_T49 bt558.2.1 a1).f1, (rd_T49 bt558.2.1 a1).f2⟩ : S49) : List (S49))).bind fun y597 => (if 1 ≤ (((rd_T49 y597 a1).f1).length : Int) then ((some (((rd_T49 y597 a1).f1).drop 1 : List Int)).bind fun y599 => (if ([] : List Int).length + y599.length < 17592186044416 then (some (bt558.1, (y597.set (a1 : Int).toNat (⟨(rd_T49 y597 a1).f0, (([] : List Int) ++ y599), (rd_T49 y597 a1).f2⟩ : S49)), bt558.2.2)) else (none))) else (none))) else (none))) else (none)) else (none))) = some (r1, r2, r3) := h
 clear h
 replace H := Option.bind_eq_some_iff.mp H
 obtain ⟨⟨t558, t561, t564⟩, A30, H⟩ := H
 replace H : (if 0 ≤ a1 then (if a1 < (t561.length : Int) then (if (((rd_T49 t561 a1).f1).length : Int) = 0 then (if a1 ≤ (t561.length : Int) then (if 0 ≤ (wrap64 (a1 + 1)) then (if (wrap64 (a1 + 1)) ≤ (t561.length : Int) then (if a1 ≤ (t564.length : Int) then (if (wrap64 (a1 + 1)) ≤ (t564.length : Int) then (some (t558, (t561.eraseIdx (a1 : Int).toNat), (t564.eraseIdx (a1 : Int).toNat))) else (none)) else (none)) else (none)) else (none)) else (none)) else (if 0 < (((rd_T49 t561 a1).f1).length : Int) then ((some (t561.set (a1 : Int).toNat (⟨rd ((rd_T49 t561 a1).f1) 0, (rd_T49 t561 a1).f1, (rd_T49 t561 a1).f2⟩ : S49) : List (S49))).bind fun y597 => (if 1 ≤ (((rd_T49 y597 a1).f1).length : Int) then ((some (((rd_T49 y597 a1).f1).drop 1 : List Int)).bind fun y599 => (if ([] : List Int).length + y599.length < 17592186044416 then (some (t558, (y597.set (a1 : Int).toNat (⟨(rd_T49 y597 a1).f0, (([] : List Int) ++ y599), (rd_T49 y597 a1).f2⟩ : S49)), t564)) else (none))) else (none))) else (none))) else (none)) else (none)) = some (r1, r2, r3) := H
 have A3 := Aside0.mk A30
 clear A30
 by_cases c4 : 0 ≤ a1
 ·rw [if_pos c4] at H
  have c4b0 : decide (0 ≤ a1) = true := decide_eq_true c4
  clear c4
  by_cases c5 : a1 < (t561.length : Int)
  ·rw [if_pos c5] at H
   have c5b0 : decide (a1 < (t561.length : Int)) = true := decide_eq_true c5
   clear c5
   by_cases c6 : (((rd_T49 t561 a1).f1).length : Int) = 0
   ·rw [if_pos c6] at H
    have c6b0 : ((((rd_T49 t561 a1).f1).length : Int) == 0) = true := beq_iff_eq.mpr c6
    have c6b1 : ((((rd_T49 t561 a1).f1).length : Int) != 0) = false := bne_eq_false_iff_eq.mpr c6
    clear c6
    have c7b0 := eq_true (of_decide_eq_true (by assumption) : 0 ≤ a1)
    by_cases c8 : a1 ≤ (t561.length : Int)
    ·rw [if_pos c8] at H
     have c8b0 := eq_true c8
     have c8b1 : decide (a1 ≤ (t561.length : Int)) = true := decide_eq_true c8
     clear c8
     obtain ⟨y569, hy569⟩ : ∃ y_ : List (S49), y_ = (t561.take (a1 : Int).toNat) := ⟨_, rfl⟩
     replace H : (if 0 ≤ (wrap64 (a1 + 1)) then (if (wrap64 (a1 + 1)) ≤ (t561.length : Int) then (if a1 ≤ (t564.length : Int) then (if (wrap64 (a1 + 1)) ≤ (t564.length : Int) then (some (t558, (t561.eraseIdx (a1 : Int).toNat), (t564.eraseIdx (a1 : Int).toNat))) else (none)) else (none)) else (none)) else (none)) = some (r1, r2, r3) := by first | (rw [hy569]; with_reducible exact H) | (have H2_ := (Option.bind_some _ _).symm.trans H; rw [hy569]; with_reducible exact H2_) | (have H2_ := (Option.bind_some _ _).symm.trans H; with_reducible exact H2_) | with_reducible exact H | (rw [hy569]; exact H) | exact H
     have Ny569 := Aside0.mk hy569
     clear hy569
     obtain ⟨ji9, hji9⟩ : ∃ j_ : Int, (wrap64 (a1 + 1)) = j_ := ⟨_, rfl⟩
     replace H : (if 0 ≤ (ji9) then (if (ji9) ≤ (t561.length : Int) then (if a1 ≤ (t564.length : Int) then (if (ji9) ≤ (t564.length : Int) then (some (t558, (t561.eraseIdx (a1 : Int).toNat), (t564.eraseIdx (a1 : Int).toNat))) else (none)) else (none)) else (none)) else (none)) = some (r1, r2, r3) := by first | (rw [hji9] at H; exact H) | (simp only [hji9] at H ⊢; exact H)
     (try rw [hji9] at A3)
     have hji9w : (IntKind.i64.wrap (a1 + 1)) = ji9 := (i64_w _).trans hji9
     by_cases c10 : 0 ≤ (ji9)
     ·rw [if_pos c10] at H
      have c10b0 := eq_true c10
      have c10b1 : decide (0 ≤ (ji9)) = true := decide_eq_true c10
      clear c10
      by_cases c11 : (ji9) ≤ (t561.length : Int)
      ·rw [if_pos c11] at H
       have c11b0 := eq_true c11
       have c11b1 : decide ((ji9) ≤ (t561.length : Int)) = true := decide_eq_true c11
       clear c11
       obtain ⟨y574, hy574⟩ : ∃ y_ : List (S49), y_ = (t561.drop ((ji9) : Int).toNat) := ⟨_, rfl⟩
       replace H : (if a1 ≤ (t564.length : Int) then (if (ji9) ≤ (t564.length : Int) then (some (t558, (t561.eraseIdx (a1 : Int).toNat), (t564.eraseIdx (a1 : Int).toNat))) else (none)) else (none)) = some (r1, r2, r3) := by first | (rw [hy574]; with_reducible exact H) | (have H2_ := (Option.bind_some _ _).symm.trans H; rw [hy574]; with_reducible exact H2_) | (have H2_ := (Option.bind_some _ _).symm.trans H; with_reducible exact H2_) | with_reducible exact H | (rw [hy574]; exact H) | exact H
       have Ny574 := Aside0.mk hy574
       clear hy574
       obtain ⟨y579, hy579⟩ : ∃ y_ : List (S49), y_ = (t561.eraseIdx (a1 : Int).toNat) := ⟨_, rfl⟩
       replace H : (if a1 ≤ (t564.length : Int) then (if (ji9) ≤ (t564.length : Int) then (some (t558, y579, (t564.eraseIdx (a1 : Int).toNat))) else (none)) else (none)) = some (r1, r2, r3) := by first | (rw [hy579]; with_reducible exact H) | (have H2_ := (Option.bind_some _ _).symm.trans H; rw [hy579]; with_reducible exact H2_) | (have H2_ := (Option.bind_some _ _).symm.trans H; with_reducible exact H2_) | with_reducible exact H | (rw [hy579]; exact H) | exact H
       have Ny579 := Aside0.mk hy579
       clear hy579
       have c12b0 := eq_true (of_decide_eq_true (by assumption) : 0 ≤ a1)
       by_cases c13 : a1 ≤ (t564.length : Int)
       ·rw [if_pos c13] at H
        have c13b0 := eq_true c13
        have c13b1 : decide (a1 ≤ (t564.length : Int)) = true := decide_eq_true c13
        clear c13
        obtain ⟨y582, hy582⟩ : ∃ y_ : List Int, y_ = (t564.take (a1 : Int).toNat) := ⟨_, rfl⟩
        replace H : (if (ji9) ≤ (t564.length : Int) then (some (t558, y579, (t564.eraseIdx (a1 : Int).toNat))) else (none)) = some (r1, r2, r3) := by first | (rw [hy582]; with_reducible exact H) | (have H2_ := (Option.bind_some _ _).symm.trans H; rw [hy582]; with_reducible exact H2_) | (have H2_ := (Option.bind_some _ _).symm.trans H; with_reducible exact H2_) | with_reducible exact H | (rw [hy582]; exact H) | exact H
        have Ny582 := Aside0.mk hy582
        clear hy582
        have c14b0 := eq_true (of_decide_eq_true (by assumption) : 0 ≤ (ji9))
        by_cases c15 : (ji9) ≤ (t564.length : Int)
        ·rw [if_pos c15] at H
         have c15b0 := eq_true c15
         have c15b1 : decide ((ji9) ≤ (t564.length : Int)) = true := decide_eq_true c15
         clear c15
         obtain ⟨y587, hy587⟩ : ∃ y_ : List Int, y_ = (t564.drop ((ji9) : Int).toNat) := ⟨_, rfl⟩
         replace H : (some (t558, y579, (t564.eraseIdx (a1 : Int).toNat))) = some (r1, r2, r3) := by first | (rw [hy587]; with_reducible exact H) | (have H2_ := (Option.bind_some _ _).symm.trans H; rw [hy587]; with_reducible exact H2_) | (have H2_ := (Option.bind_some _ _).symm.trans H; with_reducible exact H2_) | with_reducible exact H | (rw [hy587]; exact H) | exact H
         have Ny587 := Aside0.mk hy587
         clear hy587
         obtain ⟨y592, hy592⟩ : ∃ y_ : List Int, y_ = (t564.eraseIdx (a1 : Int).toNat) := ⟨_, rfl⟩
         replace H : (some (t558, y579, y592)) = some (r1, r2, r3) := by first | (rw [hy592]; with_reducible exact H) | (have H2_ := (Option.bind_some _ _).symm.trans H; rw [hy592]; with_reducible exact H2_) | (have H2_ := (Option.bind_some _ _).symm.trans H; with_reducible exact H2_) | with_reducible exact H | (rw [hy592]; exact H) | exact H
         have Ny592 := Aside0.mk hy592
         clear hy592
         simp only [Option.some.injEq, Prod.mk.injEq] at H
         obtain ⟨rfl, rfl, rfl⟩ := H
         go_enter Try.func52, Try.ntmps52
         try go_wp2_with (first | ((with_reducible refine gate_dst (N := 2) rfl ?_); refine box_event ?hg (N := 2) ?hd (cs := #[.slice A0_0 l0_0.length c0_0, .slice A0_1 l0_1.length c0_1, .slice A0_2 l0_2.length c0_2]) (t := 31) ?hr ?_; (case hd => rfl); (case hg => rfl); (case hr => first | (go_simp; done) | (go_simp; rfl)); intro gb556 hg w16 hbox hb; have n0_ := Aside0.mk (below_step (by exact HB.out) hb); have n1_ := Aside0.mk (hbox); have n2_ := Aside0.mk ((by rw [hg]; exact (below_size (by exact HB.out)) : w.heap.size ≤ gb556)); have n3_ := Aside0.mk ((by rw [hg]; exact (below_size (by exact HB.out)) : w.heap.size ≤ gb556)); clear HB; have HB := n0_; have BK556 := n1_; have GW556 := n2_; have GE556 := n3_; clear n0_ n1_ n2_ n3_; clear hb hbox hg) | ((with_reducible refine gate_dst (N := 4) rfl ?_); refine box_event ?hg (N := 4) ?hd (cs := #[.slice none 0 0, .slice none 0 0, .slice none 0 0]) (t := 31) ?hr ?_; (case hd => rfl); (case hg => rfl); (case hr => first | (go_simp; done) | (go_simp; rfl)); intro gb557 hg w17 hbox hb; have n0_ := Aside0.mk (blk_below (g := gb556) (o := .cells #[.slice A0_0 l0_0.length c0_0, .slice A0_1 l0_1.length c0_1, .slice A0_2 l0_2.length c0_2] 31 (0, 0)) (by exact BK556.out) hb); have n1_ := Aside0.mk (below_step (by exact HB.out) hb); have n2_ := Aside0.mk (hbox); have n3_ := Aside0.mk ((by rw [hg]; exact (below_size (by exact HB.out)) : w.heap.size ≤ gb557)); have n4_ := Aside0.mk ((by rw [hg]; exact (below_size (by exact HB.out)) : w.heap.size ≤ gb557)); have n5_ := Aside0.mk ((by rw [hg]; exact Nat.ne_of_lt (blk_lt (g := gb556) (o := .cells #[.slice A0_0 l0_0.length c0_0, .slice A0_1 l0_1.length c0_1, .slice A0_2 l0_2.length c0_2] 31 (0, 0)) (by exact BK556.out)) : gb556 ≠ gb557)); have n6_ := Aside0.mk ((by rw [hg]; exact Nat.ne_of_gt (blk_lt (g := gb556) (o := .cells #[.slice A0_0 l0_0.length c0_0, .slice A0_1 l0_1.length c0_1, .slice A0_2 l0_2.length c0_2] 31 (0, 0)) (by exact BK556.out)) : gb557 ≠ gb556)); clear BK556; clear HB; have BK556 := n0_; have HB := n1_; have BK557 := n2_; have GW557 := n3_; have GE557 := n4_; have NB556_557 := n5_; have NB557_556 := n6_; clear n0_ n1_ n2_ n3_ n4_ n5_ n6_; clear hb hbox hg; have hnb18 := NB556_557.out; have hnc18 := NB557_556.out; have hcz19_0 : w17.cell? ⟨gb556, 0, none⟩ = some (.slice A0_0 l0_0.length c0_0) := (blk_cell BK556.out 0).trans rfl; have hcz19_1 : w17.cell? ⟨gb556, 1, none⟩ = some (.slice A0_1 l0_1.length c0_1) := (blk_cell BK556.out 1).trans rfl; have hcz19_2 : w17.cell? ⟨gb556, 2, none⟩ = some (.slice A0_2 l0_2.length c0_2) := (blk_cell BK556.out 2).trans rfl; have hfz19_0 := blk_frozen BK556.out 0; have hfz19_1 := blk_frozen BK556.out 1; have hfz19_2 := blk_frozen BK556.out 2) | ((with_reducible refine gate_callee (f := 60) rfl ?_); refine goesL_ (some 7) rfl rfl Try.func60 (by kernel_rfl) rfl #[.agg #[.slice A0_0 l0_0.length c0_0, .slice A0_1 l0_1.length c0_1, .slice A0_2 l0_2.length c0_2]] rfl (by (try simp only [List.map_toArray, List.map_cons, List.map_nil]); first | done | rfl | (simp only [List.length_drop, List.length_take]; rfl)) ?_; (with_reducible refine (impl_copyState.calls k _ _ l0_0 _ _ l0_1 _ _ l0_2 t558 t561 t564 _ ?side1 ?side2 ?side3 ?side4 ?side5 ?side6 A3.out).mono ?_); (case side1 => repeat (first | exact (Kd.C_below HR0_0.out HB.out) | (with_reducible refine Kd.C_alloc ?_ _) | (with_reducible refine Kd.C_drewN ?_ _) | (with_reducible refine Kd.C_drew ?_))); (case side2 => exact HC0_0.out); (case side3 => repeat (first | exact (Kd.C_below HR0_1.out HB.out) | (with_reducible refine Kd.C_alloc ?_ _) | (with_reducible refine Kd.C_drewN ?_ _) | (with_reducible refine Kd.C_drew ?_))); (case side4 => exact HC0_1.out); (case side5 => repeat (first | exact (Kd.C_below HR0_2.out HB.out) | (with_reducible refine Kd.C_alloc ?_ _) | (with_reducible refine Kd.C_drewN ?_ _) | (with_reducible refine Kd.C_drew ?_))); (case side6 => exact HC0_2.out); rintro e w20 ⟨v559, v562, v565, rfl, ho0, ho1, ho2, hb⟩; refine ⟨_, rfl, ?_⟩; have n0_ := Aside0.mk (Kd.R_lower (Kd.R_newM (M := fun k_ => (w.heap.size ≤ k_)) ho0 (below_size (by exact HB.out)) (fun k_ h_ => h_)) (below_size (by exact HB.out))); have n1_ := Aside0.mk (Kx.N_lower (Kx.N_mono (ok' := fun k_ => (w.heap.size ≤ k_) ∧ some k_ ≠ (v559 : Value).ownBlock ∧ some k_ ≠ (v565 : Value).ownBlock ∧ k_ ≠ gb556 ∧ k_ ≠ gb557) (Kx.S_N (Kd.S_bound ho1)) (fun k_ hk_ => ⟨(Nat.le_trans (below_size (by exact HB.out)) hk_.2.1), hk_.1.1, hk_.1.2, (Kd.freshB (g := gb556) (o := .cells #[.slice A0_0 l0_0.length c0_0, .slice A0_1 l0_1.length c0_1, .slice A0_2 l0_2.length c0_2] 31 (0, 0)) (by exact BK556.out) k_ hk_.2.1), (Kd.freshB (g := gb557) (o := .cells #[.slice none 0 0, .slice none 0 0, .slice none 0 0] 31 (0, 0)) (by exact BK557.out) k_ hk_.2.1)⟩)) (below_size (by exact HB.out))); have n2_ := Aside0.mk (Kd.R_lower (Kd.R_newM (M := fun k_ => (w.heap.size ≤ k_)) ho2 (below_size (by exact HB.out)) (fun k_ h_ => h_)) (below_size (by exact HB.out))); have n3_ := Aside0.mk (blk_below (g := gb556) (o := .cells #[.slice A0_0 l0_0.length c0_0, .slice A0_1 l0_1.length c0_1, .slice A0_2 l0_2.length c0_2] 31 (0, 0)) (by exact BK556.out) hb); have n4_ := Aside0.mk (blk_below (g := gb557) (o := .cells #[.slice none 0 0, .slice none 0 0, .slice none 0 0] 31 (0, 0)) (by exact BK557.out) hb); have n5_ := Aside0.mk (below_step (by exact HB.out) hb); clear BK556; clear BK557; clear HB; have HO560 := n0_; have HO563 := n1_; have HO566 := n2_; have BK556 := n3_; have BK557 := n4_; have HB := n5_; clear n0_ n1_ n2_ n3_ n4_ n5_; (try clear hb); (try clear hb2); (try clear hk); (try clear hi); (try clear ho0); (try clear ho1); (try clear ho2)) | ((with_reducible refine gate_dst (N := 5) rfl ?_); refine box_event ?hg (N := 5) ?hd (cs := #[.slice none 0 0, .slice none 0 0, .slice none 0 0]) (t := 31) ?hr ?_; (case hd => rfl); (case hg => rfl); (case hr => first | (go_simp; done) | (go_simp; rfl)); intro gb567 hg w21 hbox hb; have n0_ := Aside0.mk (Kd.R_below (by exact HO560.out) hb); have n1_ := Aside0.mk (Kx.N_below (Kx.N_elderB (by exact HO563.out) gb567 (Nat.le_of_eq hg.symm)) hb); have n2_ := Aside0.mk (Kd.R_below (by exact HO566.out) hb); have n3_ := Aside0.mk (blk_below (g := gb556) (o := .cells #[.slice A0_0 l0_0.length c0_0, .slice A0_1 l0_1.length c0_1, .slice A0_2 l0_2.length c0_2] 31 (0, 0)) (by exact BK556.out) hb); have n4_ := Aside0.mk (blk_below (g := gb557) (o := .cells #[.slice none 0 0, .slice none 0 0, .slice none 0 0] 31 (0, 0)) (by exact BK557.out) hb); have n5_ := Aside0.mk (below_step (by exact HB.out) hb); have n6_ := Aside0.mk (hbox); have n7_ := Aside0.mk ((by rw [hg]; exact (below_size (by exact HB.out)) : w.heap.size ≤ gb567)); have n8_ := Aside0.mk ((by rw [hg]; exact (below_size (by exact HB.out)) : w.heap.size ≤ gb567)); have n9_ := Aside0.mk ((by rw [hg]; exact Nat.ne_of_lt (blk_lt (g := gb556) (o := .cells #[.slice A0_0 l0_0.length c0_0, .slice A0_1 l0_1.length c0_1, .slice A0_2 l0_2.length c0_2] 31 (0, 0)) (by exact BK556.out)) : gb556 ≠ gb567)); have n10_ := Aside0.mk ((by rw [hg]; exact Nat.ne_of_gt (blk_lt (g := gb556) (o := .cells #[.slice A0_0 l0_0.length c0_0, .slice A0_1 l0_1.length c0_1, .slice A0_2 l0_2.length c0_2] 31 (0, 0)) (by exact BK556.out)) : gb567 ≠ gb556)); have n11_ := Aside0.mk ((by rw [hg]; exact Nat.ne_of_lt (blk_lt (g := gb557) (o := .cells #[.slice none 0 0, .slice none 0 0, .slice none 0 0] 31 (0, 0)) (by exact BK557.out)) : gb557 ≠ gb567)); have n12_ := Aside0.mk ((by rw [hg]; exact Nat.ne_of_gt (blk_lt (g := gb557) (o := .cells #[.slice none 0 0, .slice none 0 0, .slice none 0 0] 31 (0, 0)) (by exact BK557.out)) : gb567 ≠ gb557)); clear HO560; clear HO563; clear HO566; clear BK556; clear BK557; clear HB; have HO560 := n0_; have HO563 := n1_; have HO566 := n2_; have BK556 := n3_; have BK557 := n4_; have HB := n5_; have BK567 := n6_; have GW567 := n7_; have GE567 := n8_; have NB556_567 := n9_; have NB567_556 := n10_; have NB557_567 := n11_; have NB567_557 := n12_; clear n0_ n1_ n2_ n3_ n4_ n5_ n6_ n7_ n8_ n9_ n10_ n11_ n12_; clear hb hbox hg; obtain ⟨Ao22, co22, eo22⟩ := Kd.R_slice HO560.out; subst eo22; have hnb23 := NB567_556.out; have hnc23 := NB556_567.out; have hnb24 := NB567_557.out; have hnc24 := NB557_567.out; have hcz25_0 : w21.cell? ⟨gb567, 0, none⟩ = some (.slice none 0 0) := (blk_cell BK567.out 0).trans rfl; have hcz25_1 : w21.cell? ⟨gb567, 1, none⟩ = some (.slice none 0 0) := (blk_cell BK567.out 1).trans rfl; have hcz25_2 : w21.cell? ⟨gb567, 2, none⟩ = some (.slice none 0 0) := (blk_cell BK567.out 2).trans rfl; have hfz25_0 := blk_frozen BK567.out 0; have hfz25_1 := blk_frozen BK567.out 1; have hfz25_2 := blk_frozen BK567.out 2; obtain ⟨Ao26, co26, eo26⟩ := Kx.N_slice HO563.out; subst eo26; obtain ⟨Ao27, co27, eo27⟩ := Kd.R_slice HO566.out; subst eo27) | ((with_reducible refine gate_store (t := 31) (p := 5) rfl ?_); refine store_event (t := 31) (p := 5) (v := ?vo_w28) (w1 := (((w21.setCell ⟨gb567, 0, none⟩ (.slice Ao22 t558.length co22)).setCell ⟨gb567, 1, none⟩ (.slice Ao26 t561.length co26)).setCell ⟨gb567, 2, none⟩ (.slice Ao27 t564.length co27))) ?hg ?ho ?hn ?hr ?_; (case ho => rfl); (case hg => rfl); (case hn => rfl); (case hr => first | (go_simp; done) | (go_simp; rfl)); intro w28 hw; have n0_ : Aside0 (Kd.R (Kd.int .i64) 3 w28 w.heap.size (fun k_ => (w.heap.size ≤ k_) ∧ some k_ ≠ (.slice Ao27 t564.length co27 : Value).ownBlock) (.slice Ao22 t558.length co22) t558) := ⟨(by rw [hw]; exact (by exact Kd.R_mono (Kd.R_far (p := ⟨gb567, 2, none⟩) (Kd.R_far (p := ⟨gb567, 1, none⟩) (Kd.R_far (p := ⟨gb567, 0, none⟩) (Kd.R_types HO560.out BK567.out (by decide)) (fun _ hk => hk.2) (.slice Ao22 t558.length co22)) (fun _ hk => hk.2) (.slice Ao26 t561.length co26)) (fun _ hk => hk.2) (.slice Ao27 t564.length co27)) (fun _ hk => ⟨hk.1.1, hk.1.2⟩)))⟩; have n1_ : Aside0 (Kd.S k49 49 w28 w.heap.size (fun k_ => (w.heap.size ≤ k_) ∧ some k_ ≠ (.slice Ao22 t558.length co22 : Value).ownBlock ∧ some k_ ≠ (.slice Ao27 t564.length co27 : Value).ownBlock ∧ k_ ≠ gb556 ∧ k_ ≠ gb557 ∧ k_ ≠ gb567) (.slice Ao26 t561.length co26) t561) := ⟨(by rw [hw]; exact (by exact Kx.N_mono (Kx.N_far (p := ⟨gb567, 2, none⟩) (Kx.N_far (p := ⟨gb567, 1, none⟩) (Kx.N_far (p := ⟨gb567, 0, none⟩) (Kx.N_mono HO563.out (fun k_ hk => (⟨hk, hk.2⟩ : _ ∧ k_ ≠ gb567))) (fun _ hk => hk.2) (.slice Ao22 t558.length co22)) (fun _ hk => hk.2) (.slice Ao26 t561.length co26)) (fun _ hk => hk.2) (.slice Ao27 t564.length co27)) (fun _ hk => ⟨hk.1.1.1, ⟨hk.1.1.2.1, ⟨hk.1.1.2.2.1, ⟨hk.1.1.2.2.2.1, ⟨hk.1.1.2.2.2.2, hk.1.2⟩⟩⟩⟩⟩)))⟩; have n2_ : Aside0 (Kd.R (Kd.int .i64) 3 w28 w.heap.size (fun k_ => (w.heap.size ≤ k_) ∧ some k_ ≠ (.slice Ao22 t558.length co22 : Value).ownBlock) (.slice Ao27 t564.length co27) t564) := ⟨(by rw [hw]; exact (by exact Kd.R_mono (Kd.R_far (p := ⟨gb567, 2, none⟩) (Kd.R_far (p := ⟨gb567, 1, none⟩) (Kd.R_far (p := ⟨gb567, 0, none⟩) (Kd.R_types HO566.out BK567.out (by decide)) (fun _ hk => hk.2) (.slice Ao22 t558.length co22)) (fun _ hk => hk.2) (.slice Ao26 t561.length co26)) (fun _ hk => hk.2) (.slice Ao27 t564.length co27)) (fun _ hk => ⟨hk.1.1, hk.1.2⟩)))⟩; have n3_ : Aside0 (w28.heap[gb556]? = some (.cells #[.slice A0_0 l0_0.length c0_0, .slice A0_1 l0_1.length c0_1, .slice A0_2 l0_2.length c0_2] 31 (0, 0))) := ⟨(by rw [hw]; exact (by refine blk_far ?_ NB556_567.out _; refine blk_far ?_ NB556_567.out _; refine blk_far ?_ NB556_567.out _; exact BK556.out))⟩; have n4_ : Aside0 (w28.heap[gb557]? = some (.cells #[.slice none 0 0, .slice none 0 0, .slice none 0 0] 31 (0, 0))) := ⟨(by rw [hw]; exact (by refine blk_far ?_ NB557_567.out _; refine blk_far ?_ NB557_567.out _; refine blk_far ?_ NB557_567.out _; exact BK557.out))⟩; have n5_ : Aside0 (w28.heap[gb567]? = some (.cells #[.slice Ao22 t558.length co22, .slice Ao26 t561.length co26, .slice Ao27 t564.length co27] 31 (0, 0))) := ⟨(by rw [hw]; exact (by refine blk_put (cs := #[.slice Ao22 t558.length co22, .slice Ao26 t561.length co26, .slice none 0 0]) ?_ 2 _ rfl; refine blk_put (cs := #[.slice Ao22 t558.length co22, .slice none 0 0, .slice none 0 0]) ?_ 1 _ rfl; refine blk_put (cs := #[.slice none 0 0, .slice none 0 0, .slice none 0 0]) ?_ 0 _ rfl; exact BK567.out))⟩; have n6_ : Aside0 (Below w.heap.size w w28) := ⟨(by rw [hw]; exact (by repeat (first | (with_reducible first | exact HB.out | apply below_alloc | apply pw_below_drewN | apply below_drew1 | refine below_set ?_ GE556.out | refine below_set ?_ GE557.out | refine below_set ?_ GE567.out) | exact HB.out)))⟩; clear hw; clear HO560; clear HO563; clear HO566; clear BK556; clear BK557; clear BK567; clear HB; have HO560 := n0_; have HO563 := n1_; have HO566 := n2_; have BK556 := n3_; have BK557 := n4_; have BK567 := n5_; have HB := n6_; clear n0_ n1_ n2_ n3_ n4_ n5_ n6_; have hcz29_0 : w28.cell? ⟨gb567, 0, none⟩ = some (.slice Ao22 t558.length co22) := (blk_cell BK567.out 0).trans rfl; have hcz29_1 : w28.cell? ⟨gb567, 1, none⟩ = some (.slice Ao26 t561.length co26) := (blk_cell BK567.out 1).trans rfl; have hcz29_2 : w28.cell? ⟨gb567, 2, none⟩ = some (.slice Ao27 t564.length co27) := (blk_cell BK567.out 2).trans rfl; have hfz29_0 := blk_frozen BK567.out 0; have hfz29_1 := blk_frozen BK567.out 1; have hfz29_2 := blk_frozen BK567.out 2; have p568 : 0 ≤ (a1 : Int) := of_decide_eq_true (by assumption); have q568 : a1 < (t561.length : Int) := of_decide_eq_true (by assumption); obtain ⟨ad568, A568_1, c568_1, e568, hx568_0, hx568_1, hx568_2, hl568_1, hi568_1⟩ := at_T49 (Kx.N_reads' HO563.out).2.2 a1 p568 q568; cases e568; obtain ⟨ce568, hce568, hMe568, hcc568⟩ := Kx.N_get HO563.out z49 a1 p568 (by first | exact q568 | exact of_decide_eq_true (by assumption) | (have e_ := (Kx.N_reads' HO563.out).1; omega)); obtain ⟨ua568_1, uc568_1, rfl, ul568_1, ge568_1⟩ := k49_openF hMe568; have hv568_1 := hcc568 1 _ rfl; rw [add_field _ _ 1 (by omega)] at hv568_1; replace hv568_1 := Option.some.inj (hv568_1.symm.trans hx568_1); injection hv568_1 with hva_ hvn_ hvc_; rw [hva_] at ge568_1; rw [hvc_] at ul568_1; have HL568_1 := Aside0.mk (show Kd.V (Kd.int .i64) 3 _ w.heap.size _ _ ((rd_T49 t561 a1).f1) from Kd.V_mk ul568_1 ge568_1); clear hva_ hvn_ hvc_ ge568_1 ul568_1; clear hcc568 hce568; have HR568_1 := Aside0.mk hi568_1; have HC568_1 := Aside0.mk hl568_1; clear hi568_1 hl568_1; replace p568 := eq_true p568; replace q568 := eq_true q568))
         have n0_ := Aside0.mk (Kd.R_drew HO560.out)
         have n1_ := Aside0.mk (Kx.N_drew HO563.out)
         have n2_ := Aside0.mk (Kd.R_drew HO566.out)
         have n3_ := Aside0.mk (Kd.V_drew HL568_1.out)
         have n4_ := Aside0.mk (blk_drew BK556.out)
         have n5_ := Aside0.mk (blk_drew BK557.out)
         have n6_ := Aside0.mk (blk_drew BK567.out)
         have n7_ := Aside0.mk (Kd.C_drew HR568_1.out)
         have n8_ := Aside0.mk (below_drew1 HB.out)
         clear HO560
         clear HO563
         clear HO566
         clear HL568_1
         clear BK556
         clear BK557
         clear BK567
         clear HR568_1
         clear HB
         have HO560 := n0_
         have HO563 := n1_
         have HO566 := n2_
         have HL568_1 := n3_
         have BK556 := n4_
         have BK557 := n5_
         have BK567 := n6_
         have HR568_1 := n7_
         have HB := n8_
         clear n0_ n1_ n2_ n3_ n4_ n5_ n6_ n7_ n8_
         have q31 : (a1 : Int) ≤ ((t561.length : Int) : Int) := of_decide_eq_true (by assumption)
         obtain ⟨i031, hi031, _, hsz31, _⟩ := info_parts info49
         have hroom31 : t561.length ≤ co26 := (Kx.N_reads' HO563.out).2.1
         have hC31 : Kd.F k49 _ _ (some ad568) t561.length t561 := (Kd.V_at (base := w.heap.size) (Kx.N_V HO563.out)).2.2
         have hcut31 := cut_to (P := Try.prog) 29 49 .i64 Try.underlying29 hi031 (some ad568) t561.length co26 a1 (of_decide_eq_true (by assumption)) q31 hroom31
         have hr31 := Kd.F_take (m := (a1 : Int).toNat) hC31 (by omega)
         have hy31 : y569.length = (a1 : Int).toNat := (by rw [Ny569.out, List.length_take]; omega)
         rw [← Ny569.out] at hr31
         rw [← hy31] at hcut31
         have HO573 := Aside0.mk (show Kd.V k49 49 _ w.heap.size _ (.slice (some ad568) y569.length co26) y569 from Kd.V_mk (by omega) hr31)
         have HC573 := Aside0.mk (show y569.length ≤ co26 from by omega)
         clear hr31 hC31 hroom31 hi031 hsz31
         have KY31 := Aside0.mk hy31
         clear hy31
         replace q31 := eq_true q31
         have q32 : ((ji9) : Int) ≤ ((t561.length : Int) : Int) := of_decide_eq_true (by assumption)
         obtain ⟨i032, hi032, _, hsz32, _⟩ := info_parts info49
         have hroom32 : t561.length ≤ co26 := (Kx.N_reads' HO563.out).2.1
         have hC32 : Kd.F k49 _ _ (some ad568) t561.length t561 := (Kd.V_at (base := w.heap.size) (Kx.N_V HO563.out)).2.2
         have q032 : (0 : Int) ≤ ((ji9) : Int) := of_decide_eq_true (by assumption)
         have hcut32 := cut_from (P := Try.prog) 29 49 .i64 Try.underlying29 hi032 3 hsz32 (some ad568) t561.length co26 (ji9) q032 q32
         have hr32 := Kd.F_cut (m := ((ji9) : Int).toNat) (c := co26) hC32 (by omega) hroom32
         obtain ⟨A32, hA32⟩ : ∃ A1, A1 = (if co26 = ((ji9) : Int).toNat then (some ad568) else ((some ad568) : Option Addr).map (·.add (((ji9) : Int).toNat * 3))) := ⟨_, rfl⟩
         obtain ⟨c32, hc32⟩ : ∃ c1, c1 = co26 - ((ji9) : Int).toNat := ⟨_, rfl⟩
         have hy32 : y574.length = t561.length - ((ji9) : Int).toNat := (by rw [Ny574.out, List.length_drop] <;> omega)
         rw [show (t561).drop ((ji9) : Int).toNat = y574 from Ny574.out.symm] at hr32
         replace hr32 : Kd.F k49 _ _ A32 y574.length y574 := (by rw [hA32]; exact hr32)
         rw [← hy32, ← hA32, ← hc32] at hcut32
         have HO578 := Aside0.mk (show Kd.V k49 49 _ w.heap.size _ (.slice A32 y574.length c32) y574 from Kd.V_mk (by rw [hy32, hc32]; exact Nat.sub_le_sub_right hroom32 _) hr32)
         have HC578 := Aside0.mk (show y574.length ≤ c32 from by rw [hy32, hc32]; exact Nat.sub_le_sub_right hroom32 _)
         clear hr32 hC32 hroom32 hi032 hsz32 hc32
         have KY32 := Aside0.mk hy32
         have KA32 := Aside0.mk hA32
         clear hy32 hA32
         replace q32 := eq_true q32
         obtain ⟨go34, co34, eo34, gb34, gl34, cl34, HG34⟩ := Kx.N_form HO563.out (by have hj_ : 0 ≤ (a1 : Int) := of_decide_eq_true (by assumption); have hl_ : (ji9 : Int) ≤ (t561.length : Int) := of_decide_eq_true (by assumption); have hh_ : (a1 : Int) ≤ (t561.length : Int) := of_decide_eq_true (by assumption); rw [← hji9] at hl_; unfold wrap64 at hl_; omega)
         (first | cases eo34 | (injection eo34 with ea_ en_ ec_; (first | subst ea_ | (injection ea_ with ea_; subst ea_)); subst ec_; clear en_))
         have GB34 := Aside0.mk gb34
         have GG34 := Aside0.mk HG34
         clear gb34 gl34 HG34
         (first | simp only [add_plain] at hx568_0 | skip)
         (first | simp only [add_plain] at hx568_1 | skip)
         (first | simp only [add_plain] at hx568_2 | skip)
         refine start_ (n := 12) (S := fun w' => w'.cell? ⟨gb567, 0, none⟩ = some (.slice Ao22 t558.length co22) ∧ w'.cell? ⟨gb567, 1, none⟩ = some (.slice (some ⟨go34, 0, none⟩) t561.length co26) ∧ w'.cell? ⟨gb567, 2, none⟩ = some (.slice Ao27 t564.length co27)) (ds := [11]) #[false, false, false, false, false, false, false, false, false, false, false, false] (by kernel_rfl) rfl rfl ⟨(blk_cell BK567.out 0).trans rfl, (blk_cell BK567.out 1).trans rfl, (blk_cell BK567.out 2).trans rfl⟩ (fun hHeld => ?_); refine with_tabW impl_step.tab3 impl_step.bits3 (fun HT_ HW_ => ?_)
         generalize w28.drew = w30 at HO560 HO563 HO566 HL568_1 BK556 BK557 BK567 HR568_1 HB GG34 HO573 HO578 hx568_0 hx568_1 hx568_2 hHeld ⊢
         refine pure_ (i := 0) (N := some 16) (v := ?_) (a' := ?_) #[true, false, false, false, false, false, false, false, false, false, false, false] rfl rfl (any_of HT_.out (by kernel_rfl)) (fun _ _ _ h => h) (Or.inl ⟨by rfl, ?_⟩) ?_ ?_
         rotate_left
         ·intro w'
          go_simp
          with_reducible rfl
         rotate_left
         ·simp only [Act.put, List.setIfInBounds_toArray, List.set_cons_zero, List.set_cons_succ, i64_w, i32_w]
          rfl
         refine pure_ (i := 2) (N := some 18) (v := ?_) (a' := ?_) #[true, false, true, false, false, false, false, false, false, false, false, false] rfl rfl (any_of HT_.out (by kernel_rfl)) (fun _ _ _ h => h) (Or.inl ⟨by rfl, ?_⟩) ?_ ?_
         rotate_left
         ·intro w'
          go_simp
          with_reducible rfl
         rotate_left
         ·simp only [Act.put, List.setIfInBounds_toArray, List.set_cons_zero, List.set_cons_succ, i64_w, i32_w]
          rfl
         refine pure_ (i := 4) (N := some 20) (v := ?_) (a' := ?_) #[true, false, true, false, true, false, false, false, false, false, false, false] rfl rfl (any_of HT_.out (by kernel_rfl)) (fun _ _ _ h => h) (Or.inl ⟨by rfl, ?_⟩) ?_ ?_
         rotate_left
         ·intro w'
          go_simp
          with_reducible rfl
         rotate_left
         ·simp only [Act.put, List.setIfInBounds_toArray, List.set_cons_zero, List.set_cons_succ, i64_w, i32_w]
          rfl
         refine pure_ (i := 6) (N := some 22) (v := ?_) (a' := ?_) #[true, false, true, false, true, false, true, false, false, false, false, false] rfl rfl (any_of HT_.out (by kernel_rfl)) (fun _ _ _ h => h) (Or.inl ⟨by rfl, ?_⟩) ?_ ?_
         rotate_left
         ·intro w'
          go_simp
          with_reducible rfl
         rotate_left
         ·simp only [Act.put, List.setIfInBounds_toArray, List.set_cons_zero, List.set_cons_succ, i64_w, i32_w]
          rfl
         refine pure_ (i := 7) (N := some 23) (v := ?_) (a' := ?_) #[true, false, true, false, true, false, true, true, false, false, false, false] rfl rfl (any_of HT_.out (by kernel_rfl)) (fun _ _ _ h => h) (Or.inl ⟨by rfl, ?_⟩) ?_ ?_
         rotate_left
         ·intro w'
          go_simp
          with_reducible rfl
         rotate_left
         ·simp only [Act.put, List.setIfInBounds_toArray, List.set_cons_zero, List.set_cons_succ, i64_w, i32_w]
          rfl
         refine take_ (i := 1) (N := some 17) (v := ?_) (a' := ?_) #[true, true, true, false, true, false, true, true, false, false, false, false] rfl rfl (take_ofW HT_.out HW_.out (by kernel_rfl)) (fun _ _ _ h => h) (Or.inl ⟨by rfl, ?_⟩) hHeld ?_ ?_
         rotate_left
         ·rintro w' ⟨s0, s1, s2⟩
          go_simp
          with_reducible rfl
         rotate_left
         ·simp only [Act.put, List.setIfInBounds_toArray, List.set_cons_zero, List.set_cons_succ, i64_w, i32_w]
          rfl
         refine pure_ (i := 3) (N := some 19) (v := ?_) (a' := ?_) #[true, true, true, true, true, false, true, true, false, false, false, false] rfl rfl (any_of HT_.out (by kernel_rfl)) (fun _ _ _ h => h) (Or.inl ⟨by rfl, ?_⟩) ?_ ?_
         rotate_left
         ·intro w'
          go_simp
          with_reducible rfl
         rotate_left
         ·simp only [Act.put, List.setIfInBounds_toArray, List.set_cons_zero, List.set_cons_succ, i64_w, i32_w]
          rfl
         refine take_ (i := 5) (N := some 21) (v := ?_) (a' := ?_) #[true, true, true, true, true, true, true, true, false, false, false, false] rfl rfl (take_ofW HT_.out HW_.out (by kernel_rfl)) (fun _ _ _ h => h) (Or.inl ⟨by rfl, ?_⟩) hHeld ?_ ?_
         rotate_left
         ·rintro w' ⟨s0, s1, s2⟩
          go_simp
          with_reducible rfl
         rotate_left
         ·simp only [Act.put, List.setIfInBounds_toArray, List.set_cons_zero, List.set_cons_succ, i64_w, i32_w]
          rfl
         refine pure_ (i := 8) (N := some 24) (v := ?_) (a' := ?_) #[true, true, true, true, true, true, true, true, true, false, false, false] rfl rfl (any_of HT_.out (by kernel_rfl)) (fun _ _ _ h => h) (Or.inl ⟨by rfl, ?_⟩) ?_ ?_
         rotate_left
         ·intro w'
          go_simp
          with_reducible rfl
         rotate_left
         ·simp only [Act.put, List.setIfInBounds_toArray, List.set_cons_zero, List.set_cons_succ, i64_w, i32_w]
          rfl
         refine one_ (i := 9) (N := some 25) #[true, true, true, true, true, true, true, true, true, true, false, false] rfl rfl (one_of HT_.out (by kernel_rfl)) (by decide) (fun K hK => ?_)
         have hj_ : 0 ≤ (a1 : Int) := of_decide_eq_true (by assumption)
         have hl_ : (ji9 : Int) ≤ (t561.length : Int) := of_decide_eq_true (by assumption)
         have hh_ : (a1 : Int) ≤ (t561.length : Int) := of_decide_eq_true (by assumption)
         have hb_ := (Kx.N_reads' HO563.out).2.2.2.1
         have h0_ : (0 : Int) ≤ (ji9 : Int) := of_decide_eq_true (by assumption)
         have hy1_ := KY31.out
         have hk_ : (ji9 : Int).toNat = y569.length + 1 := (by have hw_ : (ji9 : Int) = a1 + 1 := (by have h00_ := h0_; rw [← hji9] at h00_ ⊢; unfold wrap64 at h00_ ⊢; omega); rw [hw_]; omega)
         refine Kd.S_delete_step k49 (w0 := w) w.heap.size (by rfl) (.tmp 19) (.tmp 24) 29 49 rfl Try.underlying29 (by kernel_rfl) (g := go34) (n := t561.length) (c := co26) (k := y569.length) rfl rfl ?hA ?hm (by exact HO563.out) ?hk (by exact HB.out) (below_size (by exact HB.out)) ?_
         (case hA => have ha_ := KA32.out; rw [hk_] at ha_; exact ha_)
         (case hm => have ha_ := KY32.out; omega)
         (case hk => omega)
         intro w33 ho hb hg
         clear hj_ hl_ hh_ hb_ hk_ h0_
         rw [hy1_, ← Ny579.out] at ho
         clear hy1_
         have hn_ : t561.length - 1 = y579.length := (by have := (Kx.N_reads' ho).1; omega)
         rw [hn_] at ho ⊢
         clear hn_
         have n0_ := Aside0.mk (blk_grown (g := gb556) (o := .cells #[.slice A0_0 l0_0.length c0_0, .slice A0_1 l0_1.length c0_1, .slice A0_2 l0_2.length c0_2] 31 (0, 0)) (by exact BK556.out) hg (Kx.N_ne HO563.out BK556.out (by decide)))
         have n1_ := Aside0.mk (blk_grown (g := gb557) (o := .cells #[.slice none 0 0, .slice none 0 0, .slice none 0 0] 31 (0, 0)) (by exact BK557.out) hg (Kx.N_ne HO563.out BK557.out (by decide)))
         have n2_ := Aside0.mk (Kd.R_over' (v := (.slice (some ⟨go34, 0, none⟩) t561.length co26)) (by exact HO560.out) (Kx.N_typed HO563.out) (by decide) hg)
         have n3_ := Aside0.mk (ho)
         have n4_ := Aside0.mk (Kd.R_over' (v := (.slice (some ⟨go34, 0, none⟩) t561.length co26)) (by exact HO566.out) (Kx.N_typed HO563.out) (by decide) hg)
         have n5_ := Aside0.mk (blk_grown (g := gb567) (o := .cells #[.slice Ao22 t558.length co22, .slice (some ⟨go34, 0, none⟩) t561.length co26, .slice Ao27 t564.length co27] 31 (0, 0)) (by exact BK567.out) hg (Kx.N_ne HO563.out BK567.out (by decide)))
         have n6_ := Aside0.mk (Kd.V_afterv (v := (.slice (some ⟨go34, 0, none⟩) t561.length co26)) (v1 := .slice (some ⟨go34, 0, none⟩) y579.length co26) (ok := (fun k_ => (w.heap.size ≤ k_) ∧ some k_ ≠ (.slice Ao22 t558.length co22 : Value).ownBlock ∧ some k_ ≠ (.slice Ao27 t564.length co27 : Value).ownBlock ∧ k_ ≠ gb556 ∧ k_ ≠ gb557 ∧ k_ ≠ gb567)) (by exact HL568_1.out) hg (.inl rfl))
         have n7_ := Aside0.mk (hb)
         clear BK556
         clear BK557
         clear HO560
         clear HO563
         clear HO566
         clear BK567
         clear HL568_1
         clear HB
         have BK556 := n0_
         have BK557 := n1_
         have HO560 := n2_
         have HO563 := n3_
         have HO566 := n4_
         have BK567 := n5_
         have HL568_1 := n6_
         have HB := n7_
         clear n0_ n1_ n2_ n3_ n4_ n5_ n6_ n7_
         clear ho hb hg
         refine hK.out _ _ ⟨(blk_cell BK567.out 0).trans rfl, (blk_cell BK567.out 1).trans rfl, (blk_cell BK567.out 2).trans rfl⟩ (fun hHeld => ?_)
         clear hK K
         refine norm_ (a' := ?_) ?_ ?_
         rotate_left
         ·show Act.put _ (some 25) _ = _
          simp only [Act.put, List.setIfInBounds_toArray, List.set_cons_zero, List.set_cons_succ, i64_w, i32_w]
          rfl
         refine pure_ (i := 10) (N := some 26) (v := ?_) (a' := ?_) #[true, true, true, true, true, true, true, true, true, true, true, false] rfl rfl (any_of HT_.out (by kernel_rfl)) (fun _ _ _ h => h) (Or.inl ⟨by rfl, ?_⟩) ?_ ?_
         rotate_left
         ·intro w'
          go_simp
          with_reducible rfl
         rotate_left
         ·simp only [Act.put, List.setIfInBounds_toArray, List.set_cons_zero, List.set_cons_succ, i64_w, i32_w]
          rfl
         refine last_ (i := 11) (N := none) #[true, true, true, true, true, true, true, true, true, true, true, true] rfl rfl (one_of HT_.out (by kernel_rfl)) (by decide) (fun K hK => ?_)
         have hs35 : w33.cell? ⟨gb567, 1, none⟩ = some (.slice (some ⟨go34, 0, none⟩) t561.length co26) := (blk_cell BK567.out 1).trans rfl
         have hfs35 := blk_frozen BK567.out 1
         have hns35_0 := NB556_567.out
         have hns35_1 := NB557_567.out
         have hms35_0 := NB567_556.out
         have hms35_1 := NB567_557.out
         refine skip_ (w1 := ?_) (by rfl) rfl ?_ ?_
         rotate_left
         ·go_simp
          rfl
         refine hK.out _ _ ?_
         clear hK K
         refine done_ (done_of HT_.out (by kernel_rfl)) ?_
         try go_wp2
         have n0_ : Aside0 (Kd.R (Kd.int .i64) 3 (w33.setCell ⟨gb567, 1, none⟩ (.slice (some ⟨go34, 0, none⟩) y579.length co26)) w.heap.size (fun k_ => (w.heap.size ≤ k_) ∧ some k_ ≠ (.slice Ao27 t564.length co27 : Value).ownBlock) (.slice Ao22 t558.length co22) t558) := ⟨by exact Kd.R_mono (Kd.R_far (p := ⟨gb567, 1, none⟩) (Kd.R_types HO560.out BK567.out (by decide)) (fun _ hk => hk.2) (.slice (some ⟨go34, 0, none⟩) y579.length co26)) (fun _ hk => ⟨hk.1.1, hk.1.2⟩)⟩
         have n1_ : Aside0 (Kd.S k49 49 (w33.setCell ⟨gb567, 1, none⟩ (.slice (some ⟨go34, 0, none⟩) y579.length co26)) w.heap.size (fun k_ => (w.heap.size ≤ k_) ∧ some k_ ≠ (.slice Ao22 t558.length co22 : Value).ownBlock ∧ some k_ ≠ (.slice Ao27 t564.length co27 : Value).ownBlock ∧ k_ ≠ gb556 ∧ k_ ≠ gb557 ∧ k_ ≠ gb567) (.slice (some ⟨go34, 0, none⟩) y579.length co26) y579) := ⟨by exact Kx.N_mono (Kx.N_far (p := ⟨gb567, 1, none⟩) (Kx.N_mono HO563.out (fun k_ hk => (⟨hk, hk.2.2.2.2.2⟩ : _ ∧ k_ ≠ gb567))) (fun _ hk => hk.2) (.slice (some ⟨go34, 0, none⟩) y579.length co26)) (fun _ hk => ⟨hk.1.1, ⟨hk.1.2.1, ⟨hk.1.2.2.1, ⟨hk.1.2.2.2.1, ⟨hk.1.2.2.2.2.1, hk.1.2.2.2.2.2⟩⟩⟩⟩⟩)⟩
         have n2_ : Aside0 (Kd.R (Kd.int .i64) 3 (w33.setCell ⟨gb567, 1, none⟩ (.slice (some ⟨go34, 0, none⟩) y579.length co26)) w.heap.size (fun k_ => (w.heap.size ≤ k_) ∧ some k_ ≠ (.slice Ao22 t558.length co22 : Value).ownBlock) (.slice Ao27 t564.length co27) t564) := ⟨by exact Kd.R_mono (Kd.R_far (p := ⟨gb567, 1, none⟩) (Kd.R_types HO566.out BK567.out (by decide)) (fun _ hk => hk.2) (.slice (some ⟨go34, 0, none⟩) y579.length co26)) (fun _ hk => ⟨hk.1.1, hk.1.2⟩)⟩
         have n3_ : Aside0 (Kd.V (Kd.int .i64) 3 (w33.setCell ⟨gb567, 1, none⟩ (.slice (some ⟨go34, 0, none⟩) y579.length co26)) w.heap.size (fun k_ => (w.heap.size ≤ k_) ∧ some k_ ≠ (.slice Ao22 t558.length co22 : Value).ownBlock ∧ some k_ ≠ (.slice (some ⟨go34, 0, none⟩) y579.length co26 : Value).ownBlock ∧ some k_ ≠ (.slice Ao27 t564.length co27 : Value).ownBlock ∧ k_ ≠ gb556 ∧ k_ ≠ gb557 ∧ k_ ≠ gb567) (.slice A568_1 ((rd_T49 t561 a1).f1).length c568_1) ((rd_T49 t561 a1).f1)) := ⟨by exact Kd.V_mono (Kd.V_far (p := ⟨gb567, 1, none⟩) (Kd.V_mono HL568_1.out (fun k_ hk => (⟨hk, hk.1.2.2.2.2.2⟩ : _ ∧ k_ ≠ gb567))) (fun _ hk => hk.2) (.slice (some ⟨go34, 0, none⟩) y579.length co26)) (fun _ hk => ⟨hk.1.1.1, ⟨hk.1.1.2.1, ⟨hk.1.2, ⟨hk.1.1.2.2.1, ⟨hk.1.1.2.2.2.1, ⟨hk.1.1.2.2.2.2.1, hk.1.1.2.2.2.2.2⟩⟩⟩⟩⟩⟩)⟩
         have n4_ : Aside0 ((w33.setCell ⟨gb567, 1, none⟩ (.slice (some ⟨go34, 0, none⟩) y579.length co26)).heap[gb556]? = some (.cells #[.slice A0_0 l0_0.length c0_0, .slice A0_1 l0_1.length c0_1, .slice A0_2 l0_2.length c0_2] 31 (0, 0))) := ⟨by refine blk_far ?_ NB556_567.out _; exact BK556.out⟩
         have n5_ : Aside0 ((w33.setCell ⟨gb567, 1, none⟩ (.slice (some ⟨go34, 0, none⟩) y579.length co26)).heap[gb557]? = some (.cells #[.slice none 0 0, .slice none 0 0, .slice none 0 0] 31 (0, 0))) := ⟨by refine blk_far ?_ NB557_567.out _; exact BK557.out⟩
         have n6_ : Aside0 ((w33.setCell ⟨gb567, 1, none⟩ (.slice (some ⟨go34, 0, none⟩) y579.length co26)).heap[gb567]? = some (.cells #[.slice Ao22 t558.length co22, .slice (some ⟨go34, 0, none⟩) y579.length co26, .slice Ao27 t564.length co27] 31 (0, 0))) := ⟨by refine blk_put (cs := #[.slice Ao22 t558.length co22, .slice (some ⟨go34, 0, none⟩) t561.length co26, .slice Ao27 t564.length co27]) ?_ 1 _ rfl; exact BK567.out⟩
         have n7_ : Aside0 (Below w.heap.size w (w33.setCell ⟨gb567, 1, none⟩ (.slice (some ⟨go34, 0, none⟩) y579.length co26))) := ⟨by repeat (first | (with_reducible first | exact HB.out | apply below_alloc | apply pw_below_drewN | apply below_drew1 | refine below_set ?_ GE556.out | refine below_set ?_ GE557.out | refine below_set ?_ GE567.out) | exact HB.out)⟩
         (try clear HO560)
         (try clear HO563)
         (try clear HO566)
         (try clear HL568_1)
         (try clear BK556)
         (try clear BK557)
         (try clear BK567)
         (try clear HB)
         generalize (w33.setCell ⟨gb567, 1, none⟩ (.slice (some ⟨go34, 0, none⟩) y579.length co26)) = w36 at n0_ n1_ n2_ n3_ n4_ n5_ n6_ n7_ ⊢
         have HO560 := n0_
         have HO563 := n1_
         have HO566 := n2_
         have HL568_1 := n3_
         have BK556 := n4_
         have BK557 := n5_
         have BK567 := n6_
         have HB := n7_
         clear n0_ n1_ n2_ n3_ n4_ n5_ n6_ n7_
         have n0_ := Aside0.mk (Kd.R_drew HO560.out)
         have n1_ := Aside0.mk (Kx.N_drew HO563.out)
         have n2_ := Aside0.mk (Kd.R_drew HO566.out)
         have n3_ := Aside0.mk (Kd.V_drew HL568_1.out)
         have n4_ := Aside0.mk (blk_drew BK556.out)
         have n5_ := Aside0.mk (blk_drew BK557.out)
         have n6_ := Aside0.mk (blk_drew BK567.out)
         have n7_ := Aside0.mk (below_drew1 HB.out)
         clear HO560
         clear HO563
         clear HO566
         clear HL568_1
         clear BK556
         clear BK557
         clear BK567
         clear HB
         have HO560 := n0_
         have HO563 := n1_
         have HO566 := n2_
         have HL568_1 := n3_
         have BK556 := n4_
         have BK557 := n5_
         have BK567 := n6_
         have HB := n7_
         clear n0_ n1_ n2_ n3_ n4_ n5_ n6_ n7_
         have q38 : (a1 : Int) ≤ ((t564.length : Int) : Int) := of_decide_eq_true (by assumption)
         obtain ⟨i038, hi038, _, hsz38, _⟩ := info_parts info3
         have hroom38 : t564.length ≤ co27 := (Kd.R_reads' HO566.out).2.1
         have hC38 : Kd.F (Kd.int .i64) _ _ Ao27 t564.length t564 := (Kd.V_at (base := w.heap.size) (Kd.R_V (Kd.R_types (Kd.R_types (Kd.R_types (Kd.R_apart' (HO566.out) (Kx.N_typed HO563.out) (by decide)) BK556.out (by decide)) BK557.out (by decide)) BK567.out (by decide)))).2.2
         have hcut38 := cut_to (P := Try.prog) 23 3 .i64 Try.underlying23 hi038 Ao27 t564.length co27 a1 (of_decide_eq_true (by assumption)) q38 hroom38
         have hr38 := Kd.F_take (m := (a1 : Int).toNat) hC38 (by omega)
         have hy38 : y582.length = (a1 : Int).toNat := (by rw [Ny582.out, List.length_take]; omega)
         rw [← Ny582.out] at hr38
         rw [← hy38] at hcut38
         have HO586 := Aside0.mk (show Kd.V (Kd.int .i64) 3 _ w.heap.size _ (.slice Ao27 y582.length co27) y582 from Kd.V_mk (by omega) hr38)
         have HC586 := Aside0.mk (show y582.length ≤ co27 from by omega)
         clear hr38 hC38 hroom38 hi038 hsz38
         have KY38 := Aside0.mk hy38
         clear hy38
         replace q38 := eq_true q38
         have q39 : ((ji9) : Int) ≤ ((t564.length : Int) : Int) := of_decide_eq_true (by assumption)
         obtain ⟨i039, hi039, _, hsz39, _⟩ := info_parts info3
         have hroom39 : t564.length ≤ co27 := (Kd.R_reads' HO566.out).2.1
         have hC39 : Kd.F (Kd.int .i64) _ _ Ao27 t564.length t564 := (Kd.V_at (base := w.heap.size) (Kd.R_V (Kd.R_types (Kd.R_types (Kd.R_types (Kd.R_apart' (HO566.out) (Kx.N_typed HO563.out) (by decide)) BK556.out (by decide)) BK557.out (by decide)) BK567.out (by decide)))).2.2
         have q039 : (0 : Int) ≤ ((ji9) : Int) := of_decide_eq_true (by assumption)
         have hcut39 := cut_from (P := Try.prog) 23 3 .i64 Try.underlying23 hi039 1 hsz39 Ao27 t564.length co27 (ji9) q039 q39
         have hr39 := Kd.F_cut (m := ((ji9) : Int).toNat) (c := co27) hC39 (by omega) hroom39
         obtain ⟨A39, hA39⟩ : ∃ A1, A1 = (if co27 = ((ji9) : Int).toNat then Ao27 else (Ao27 : Option Addr).map (·.add (((ji9) : Int).toNat * 1))) := ⟨_, rfl⟩
         obtain ⟨c39, hc39⟩ : ∃ c1, c1 = co27 - ((ji9) : Int).toNat := ⟨_, rfl⟩
         have hy39 : y587.length = t564.length - ((ji9) : Int).toNat := (by rw [Ny587.out, List.length_drop] <;> omega)
         rw [show (t564).drop ((ji9) : Int).toNat = y587 from Ny587.out.symm] at hr39
         replace hr39 : Kd.F (Kd.int .i64) _ _ A39 y587.length y587 := (by rw [hA39]; exact hr39)
         rw [← hy39, ← hA39, ← hc39] at hcut39
         have HO591 := Aside0.mk (show Kd.V (Kd.int .i64) 3 _ w.heap.size _ (.slice A39 y587.length c39) y587 from Kd.V_mk (by rw [hy39, hc39]; exact Nat.sub_le_sub_right hroom39 _) hr39)
         have HC591 := Aside0.mk (show y587.length ≤ c39 from by rw [hy39, hc39]; exact Nat.sub_le_sub_right hroom39 _)
         clear hr39 hC39 hroom39 hi039 hsz39 hc39
         have KY39 := Aside0.mk hy39
         have KA39 := Aside0.mk hA39
         clear hy39 hA39
         replace q39 := eq_true q39
         obtain ⟨go41, co41, eo41, gb41, gl41, cl41, HG41⟩ := Kd.R_form HO566.out (by have hj_ : 0 ≤ (a1 : Int) := of_decide_eq_true (by assumption); have hl_ : (ji9 : Int) ≤ (t564.length : Int) := of_decide_eq_true (by assumption); have hh_ : (a1 : Int) ≤ (t564.length : Int) := of_decide_eq_true (by assumption); rw [← hji9] at hl_; unfold wrap64 at hl_; omega)
         (first | cases eo41 | (injection eo41 with ea_ en_ ec_; (first | subst ea_ | (injection ea_ with ea_; subst ea_)); subst ec_; clear en_))
         have GB41 := Aside0.mk gb41
         have GG41 := Aside0.mk HG41
         clear gb41 gl41 HG41
         refine start_ (n := 12) (S := fun w' => w'.cell? ⟨gb567, 0, none⟩ = some (.slice Ao22 t558.length co22) ∧ w'.cell? ⟨gb567, 1, none⟩ = some (.slice (some ⟨go34, 0, none⟩) y579.length co26) ∧ w'.cell? ⟨gb567, 2, none⟩ = some (.slice (some ⟨go41, 0, none⟩) t564.length co27)) (ds := [11]) #[false, false, false, false, false, false, false, false, false, false, false, false] (by kernel_rfl) rfl rfl ⟨(blk_cell BK567.out 0).trans rfl, (blk_cell BK567.out 1).trans rfl, (blk_cell BK567.out 2).trans rfl⟩ (fun hHeld => ?_); refine with_tabW impl_step.tab4 impl_step.bits4 (fun HT_ HW_ => ?_)
         generalize w36.drew = w37 at HO560 HO563 HO566 HL568_1 BK556 BK557 BK567 HB GG41 HO586 HO591 hHeld ⊢
         refine pure_ (i := 0) (N := some 27) (v := ?_) (a' := ?_) #[true, false, false, false, false, false, false, false, false, false, false, false] rfl rfl (any_of HT_.out (by kernel_rfl)) (fun _ _ _ h => h) (Or.inl ⟨by rfl, ?_⟩) ?_ ?_
         rotate_left
         ·intro w'
          go_simp
          with_reducible rfl
         rotate_left
         ·simp only [Act.put, List.setIfInBounds_toArray, List.set_cons_zero, List.set_cons_succ, i64_w, i32_w]
          rfl
         refine pure_ (i := 2) (N := some 29) (v := ?_) (a' := ?_) #[true, false, true, false, false, false, false, false, false, false, false, false] rfl rfl (any_of HT_.out (by kernel_rfl)) (fun _ _ _ h => h) (Or.inl ⟨by rfl, ?_⟩) ?_ ?_
         rotate_left
         ·intro w'
          go_simp
          with_reducible rfl
         rotate_left
         ·simp only [Act.put, List.setIfInBounds_toArray, List.set_cons_zero, List.set_cons_succ, i64_w, i32_w]
          rfl
         refine pure_ (i := 4) (N := some 31) (v := ?_) (a' := ?_) #[true, false, true, false, true, false, false, false, false, false, false, false] rfl rfl (any_of HT_.out (by kernel_rfl)) (fun _ _ _ h => h) (Or.inl ⟨by rfl, ?_⟩) ?_ ?_
         rotate_left
         ·intro w'
          go_simp
          with_reducible rfl
         rotate_left
         ·simp only [Act.put, List.setIfInBounds_toArray, List.set_cons_zero, List.set_cons_succ, i64_w, i32_w]
          rfl
         refine pure_ (i := 6) (N := some 33) (v := ?_) (a' := ?_) #[true, false, true, false, true, false, true, false, false, false, false, false] rfl rfl (any_of HT_.out (by kernel_rfl)) (fun _ _ _ h => h) (Or.inl ⟨by rfl, ?_⟩) ?_ ?_
         rotate_left
         ·intro w'
          go_simp
          with_reducible rfl
         rotate_left
         ·simp only [Act.put, List.setIfInBounds_toArray, List.set_cons_zero, List.set_cons_succ, i64_w, i32_w]
          rfl
         refine pure_ (i := 7) (N := some 34) (v := ?_) (a' := ?_) #[true, false, true, false, true, false, true, true, false, false, false, false] rfl rfl (any_of HT_.out (by kernel_rfl)) (fun _ _ _ h => h) (Or.inl ⟨by rfl, ?_⟩) ?_ ?_
         rotate_left
         ·intro w'
          go_simp
          with_reducible rfl
         rotate_left
         ·simp only [Act.put, List.setIfInBounds_toArray, List.set_cons_zero, List.set_cons_succ, i64_w, i32_w]
          rfl
         refine take_ (i := 1) (N := some 28) (v := ?_) (a' := ?_) #[true, true, true, false, true, false, true, true, false, false, false, false] rfl rfl (take_ofW HT_.out HW_.out (by kernel_rfl)) (fun _ _ _ h => h) (Or.inl ⟨by rfl, ?_⟩) hHeld ?_ ?_
         rotate_left
         ·rintro w' ⟨s0, s1, s2⟩
          go_simp
          with_reducible rfl
         rotate_left
         ·simp only [Act.put, List.setIfInBounds_toArray, List.set_cons_zero, List.set_cons_succ, i64_w, i32_w]
          rfl
         refine pure_ (i := 3) (N := some 30) (v := ?_) (a' := ?_) #[true, true, true, true, true, false, true, true, false, false, false, false] rfl rfl (any_of HT_.out (by kernel_rfl)) (fun _ _ _ h => h) (Or.inl ⟨by rfl, ?_⟩) ?_ ?_
         rotate_left
         ·intro w'
          go_simp
          with_reducible rfl
         rotate_left
         ·simp only [Act.put, List.setIfInBounds_toArray, List.set_cons_zero, List.set_cons_succ, i64_w, i32_w]
          rfl
         refine take_ (i := 5) (N := some 32) (v := ?_) (a' := ?_) #[true, true, true, true, true, true, true, true, false, false, false, false] rfl rfl (take_ofW HT_.out HW_.out (by kernel_rfl)) (fun _ _ _ h => h) (Or.inl ⟨by rfl, ?_⟩) hHeld ?_ ?_
         rotate_left
         ·rintro w' ⟨s0, s1, s2⟩
          go_simp
          with_reducible rfl
         rotate_left
         ·simp only [Act.put, List.setIfInBounds_toArray, List.set_cons_zero, List.set_cons_succ, i64_w, i32_w]
          rfl
         refine pure_ (i := 8) (N := some 35) (v := ?_) (a' := ?_) #[true, true, true, true, true, true, true, true, true, false, false, false] rfl rfl (any_of HT_.out (by kernel_rfl)) (fun _ _ _ h => h) (Or.inl ⟨by rfl, ?_⟩) ?_ ?_
         rotate_left
         ·intro w'
          go_simp
          with_reducible rfl
         rotate_left
         ·simp only [Act.put, List.setIfInBounds_toArray, List.set_cons_zero, List.set_cons_succ, i64_w, i32_w]
          rfl
         refine one_ (i := 9) (N := some 36) #[true, true, true, true, true, true, true, true, true, true, false, false] rfl rfl (one_of HT_.out (by kernel_rfl)) (by decide) (fun K hK => ?_)
         have hj_ : 0 ≤ (a1 : Int) := of_decide_eq_true (by assumption)
         have hl_ : (ji9 : Int) ≤ (t564.length : Int) := of_decide_eq_true (by assumption)
         have hh_ : (a1 : Int) ≤ (t564.length : Int) := of_decide_eq_true (by assumption)
         have hb_ := (Kd.R_reads' HO566.out).2.2.2.1
         have h0_ : (0 : Int) ≤ (ji9 : Int) := of_decide_eq_true (by assumption)
         have hy1_ := KY38.out
         have hk_ : (ji9 : Int).toNat = y582.length + 1 := (by have hw_ : (ji9 : Int) = a1 + 1 := (by have h00_ := h0_; rw [← hji9] at h00_ ⊢; unfold wrap64 at h00_ ⊢; omega); rw [hw_]; omega)
         refine Kd.R_delete_step (Kd.int .i64) (w0 := w) w.heap.size (by rfl) (.tmp 30) (.tmp 35) 23 3 rfl Try.underlying23 (by kernel_rfl) (g := go41) (n := t564.length) (c := co27) (k := y582.length) rfl rfl ?hA ?hm (by exact HO566.out) ?hk (by exact HB.out) (below_size (by exact HB.out)) ?_
         (case hA => have ha_ := KA39.out; rw [hk_] at ha_; exact ha_)
         (case hm => have ha_ := KY39.out; omega)
         (case hk => omega)
         intro w40 ho hb hg
         clear hj_ hl_ hh_ hb_ hk_ h0_
         rw [hy1_, ← Ny592.out] at ho
         clear hy1_
         have hn_ : t564.length - 1 = y592.length := (by have := (Kd.R_reads' ho).1; omega)
         rw [hn_] at ho ⊢
         clear hn_
         have n0_ := Aside0.mk (blk_grown (g := gb556) (o := .cells #[.slice A0_0 l0_0.length c0_0, .slice A0_1 l0_1.length c0_1, .slice A0_2 l0_2.length c0_2] 31 (0, 0)) (by exact BK556.out) hg (Kd.R_ne HO566.out BK556.out (by decide)))
         have n1_ := Aside0.mk (blk_grown (g := gb557) (o := .cells #[.slice none 0 0, .slice none 0 0, .slice none 0 0] 31 (0, 0)) (by exact BK557.out) hg (Kd.R_ne HO566.out BK557.out (by decide)))
         have n2_ := Aside0.mk (Kd.R_after (v := (.slice (some ⟨go41, 0, none⟩) t564.length co27)) (v1 := .slice (some ⟨go41, 0, none⟩) y592.length co27) (ok := (fun k_ => (w.heap.size ≤ k_))) (by exact HO560.out) hg (.inl rfl))
         have n3_ := Aside0.mk (Kx.N_afterv (v := (.slice (some ⟨go41, 0, none⟩) t564.length co27)) (v1 := .slice (some ⟨go41, 0, none⟩) y592.length co27) (ok := (fun k_ => (w.heap.size ≤ k_) ∧ some k_ ≠ (.slice Ao22 t558.length co22 : Value).ownBlock ∧ k_ ≠ gb556 ∧ k_ ≠ gb557 ∧ k_ ≠ gb567)) (by exact Kx.N_mono HO563.out (fun _ hk => ⟨⟨hk.1, ⟨hk.2.1, ⟨hk.2.2.2.1, ⟨hk.2.2.2.2.1, hk.2.2.2.2.2⟩⟩⟩⟩, hk.2.2.1⟩)) hg (.inl rfl))
         have n4_ := Aside0.mk (ho)
         have n5_ := Aside0.mk (blk_grown (g := gb567) (o := .cells #[.slice Ao22 t558.length co22, .slice (some ⟨go34, 0, none⟩) y579.length co26, .slice (some ⟨go41, 0, none⟩) t564.length co27] 31 (0, 0)) (by exact BK567.out) hg (Kd.R_ne HO566.out BK567.out (by decide)))
         have n6_ := Aside0.mk (Kd.V_afterv (v := (.slice (some ⟨go41, 0, none⟩) t564.length co27)) (v1 := .slice (some ⟨go41, 0, none⟩) y592.length co27) (ok := (fun k_ => (w.heap.size ≤ k_) ∧ some k_ ≠ (.slice Ao22 t558.length co22 : Value).ownBlock ∧ some k_ ≠ (.slice (some ⟨go34, 0, none⟩) y579.length co26 : Value).ownBlock ∧ k_ ≠ gb556 ∧ k_ ≠ gb557 ∧ k_ ≠ gb567)) (by exact Kd.V_mono HL568_1.out (fun _ hk => ⟨⟨hk.1, ⟨hk.2.1, ⟨hk.2.2.1, ⟨hk.2.2.2.2.1, ⟨hk.2.2.2.2.2.1, hk.2.2.2.2.2.2⟩⟩⟩⟩⟩, hk.2.2.2.1⟩)) hg (.inl rfl))
         have n7_ := Aside0.mk (hb)
         clear BK556
         clear BK557
         clear HO560
         clear HO563
         clear HO566
         clear BK567
         clear HL568_1
         clear HB
         have BK556 := n0_
         have BK557 := n1_
         have HO560 := n2_
         have HO563 := n3_
         have HO566 := n4_
         have BK567 := n5_
         have HL568_1 := n6_
         have HB := n7_
         clear n0_ n1_ n2_ n3_ n4_ n5_ n6_ n7_
         clear ho hb hg
         refine hK.out _ _ ⟨(blk_cell BK567.out 0).trans rfl, (blk_cell BK567.out 1).trans rfl, (blk_cell BK567.out 2).trans rfl⟩ (fun hHeld => ?_)
         clear hK K
         refine norm_ (a' := ?_) ?_ ?_
         rotate_left
         ·show Act.put _ (some 36) _ = _
          simp only [Act.put, List.setIfInBounds_toArray, List.set_cons_zero, List.set_cons_succ, i64_w, i32_w]
          rfl
         refine pure_ (i := 10) (N := some 37) (v := ?_) (a' := ?_) #[true, true, true, true, true, true, true, true, true, true, true, false] rfl rfl (any_of HT_.out (by kernel_rfl)) (fun _ _ _ h => h) (Or.inl ⟨by rfl, ?_⟩) ?_ ?_
         rotate_left
         ·intro w'
          go_simp
          with_reducible rfl
         rotate_left
         ·simp only [Act.put, List.setIfInBounds_toArray, List.set_cons_zero, List.set_cons_succ, i64_w, i32_w]
          rfl
         refine last_ (i := 11) (N := none) #[true, true, true, true, true, true, true, true, true, true, true, true] rfl rfl (one_of HT_.out (by kernel_rfl)) (by decide) (fun K hK => ?_)
         have hs42 : w40.cell? ⟨gb567, 2, none⟩ = some (.slice (some ⟨go41, 0, none⟩) t564.length co27) := (blk_cell BK567.out 2).trans rfl
         have hfs42 := blk_frozen BK567.out 2
         have hns42_0 := NB556_567.out
         have hns42_1 := NB557_567.out
         have hms42_0 := NB567_556.out
         have hms42_1 := NB567_557.out
         refine skip_ (w1 := ?_) (by rfl) rfl ?_ ?_
         rotate_left
         ·go_simp
          rfl
         refine hK.out _ _ ?_
         clear hK K
         refine done_ (done_of HT_.out (by kernel_rfl)) ?_
         have hcz43_0 : w40.cell? ⟨gb567, 0, none⟩ = some (.slice Ao22 t558.length co22) := (blk_cell BK567.out 0).trans rfl
         have hcz43_1 : w40.cell? ⟨gb567, 1, none⟩ = some (.slice (some ⟨go34, 0, none⟩) y579.length co26) := (blk_cell BK567.out 1).trans rfl
         have hcz43_2 : w40.cell? ⟨gb567, 2, none⟩ = some (.slice (some ⟨go41, 0, none⟩) t564.length co27) := (blk_cell BK567.out 2).trans rfl
         have hfz43_0 := blk_frozen BK567.out 0
         have hfz43_1 := blk_frozen BK567.out 1
         have hfz43_2 := blk_frozen BK567.out 2
         have hcz44_0 : w40.cell? ⟨gb557, 0, none⟩ = some (.slice none 0 0) := (blk_cell BK557.out 0).trans rfl
         have hcz44_1 : w40.cell? ⟨gb557, 1, none⟩ = some (.slice none 0 0) := (blk_cell BK557.out 1).trans rfl
         have hcz44_2 : w40.cell? ⟨gb557, 2, none⟩ = some (.slice none 0 0) := (blk_cell BK557.out 2).trans rfl
         have hfz44_0 := blk_frozen BK557.out 0
         have hfz44_1 := blk_frozen BK557.out 1
         have hfz44_2 := blk_frozen BK557.out 2
         try go_wp2
         refine bodyPost_ret (results_cell_row rfl _ _ gb557 31 #[.slice Ao22 t558.length co22, .slice (some ⟨go34, 0, none⟩) y579.length co26, .slice (some ⟨go41, 0, none⟩) y592.length co27] (0, 0) _ rfl (by refine blk_put (cs := #[.slice Ao22 t558.length co22, .slice (some ⟨go34, 0, none⟩) y579.length co26, .slice none 0 0]) ?_ 2 _ rfl; refine blk_put (cs := #[.slice Ao22 t558.length co22, .slice none 0 0, .slice none 0 0]) ?_ 1 _ rfl; refine blk_put (cs := #[.slice none 0 0, .slice none 0 0, .slice none 0 0]) ?_ 0 _ rfl; refine blk_far ?_ NB557_567.out _; exact BK557.out) Try.underlying31 rfl (by kernel_rfl)) rfl ?_
         exact ⟨_, _, _, by first | rfl | (simp [errW_none, errW_some] <;> rfl) | (simp only [← hji9]; first | rfl | (simp [errW_none, errW_some] <;> rfl)) | (simp [*, errW_none, errW_some] <;> rfl), by exact Kd.R_mono (Kd.R_far (p := ⟨gb557, 2, none⟩) (Kd.R_far (p := ⟨gb557, 1, none⟩) (Kd.R_far (p := ⟨gb557, 0, none⟩) (Kd.R_far (p := ⟨gb567, 2, none⟩) (Kd.R_types (Kd.R_types HO560.out BK567.out (by decide)) BK557.out (by decide)) (fun _ hk => hk.1.2) (.slice (some ⟨go41, 0, none⟩) y592.length co27)) (fun _ hk => hk.2) (.slice Ao22 t558.length co22)) (fun _ hk => hk.2) (.slice (some ⟨go34, 0, none⟩) y579.length co26)) (fun _ hk => hk.2) (.slice (some ⟨go41, 0, none⟩) y592.length co27)) (fun _ hk => ⟨hk.1.1.1, hk.1.1.2⟩), by exact Kx.N_mono (Kx.N_far (p := ⟨gb557, 2, none⟩) (Kx.N_far (p := ⟨gb557, 1, none⟩) (Kx.N_far (p := ⟨gb557, 0, none⟩) (Kx.N_far (p := ⟨gb567, 2, none⟩) (Kx.N_mono (Kx.N_mono HO563.out (fun k_ hk => (⟨hk, hk.1.2.2.2.2⟩ : _ ∧ k_ ≠ gb567))) (fun k_ hk => (⟨hk, hk.1.1.2.2.2.1⟩ : _ ∧ k_ ≠ gb557))) (fun _ hk => hk.1.2) (.slice (some ⟨go41, 0, none⟩) y592.length co27)) (fun _ hk => hk.2) (.slice Ao22 t558.length co22)) (fun _ hk => hk.2) (.slice (some ⟨go34, 0, none⟩) y579.length co26)) (fun _ hk => hk.2) (.slice (some ⟨go41, 0, none⟩) y592.length co27)) (fun _ hk => ⟨hk.1.1.1.1, ⟨hk.1.1.1.2.1, hk.1.1.2⟩⟩), by exact Kd.R_mono (Kd.R_far (p := ⟨gb557, 2, none⟩) (Kd.R_far (p := ⟨gb557, 1, none⟩) (Kd.R_far (p := ⟨gb557, 0, none⟩) (Kd.R_far (p := ⟨gb567, 2, none⟩) (Kd.R_types (Kd.R_types HO566.out BK567.out (by decide)) BK557.out (by decide)) (fun _ hk => hk.1.2) (.slice (some ⟨go41, 0, none⟩) y592.length co27)) (fun _ hk => hk.2) (.slice Ao22 t558.length co22)) (fun _ hk => hk.2) (.slice (some ⟨go34, 0, none⟩) y579.length co26)) (fun _ hk => hk.2) (.slice (some ⟨go41, 0, none⟩) y592.length co27)) (fun _ hk => ⟨hk.1.1.1, hk.1.1.2⟩), by repeat (first | (with_reducible first | exact HB.out | apply below_alloc | apply pw_below_drewN | apply below_drew1 | refine below_set ?_ GE556.out | refine below_set ?_ GE557.out | refine below_set ?_ GE567.out) | exact HB.out)⟩
        ·rw [if_neg c15] at H
         exact absurd H (by simp)
       ·rw [if_neg c13] at H
        exact absurd H (by simp)
      ·rw [if_neg c11] at H
       exact absurd H (by simp)
     ·rw [if_neg c10] at H
      exact absurd H (by simp)
    ·rw [if_neg c8] at H
     exact absurd H (by simp)
   ·rw [if_neg c6] at H
    have c6b0 : ((((rd_T49 t561 a1).f1).length : Int) == 0) = false := beq_eq_false_iff_ne.mpr c6
    have c6b1 : ((((rd_T49 t561 a1).f1).length : Int) != 0) = true := bne_iff_ne.mpr c6
    have c6b2 : ¬ (((rd_T49 t561 a1).f1) = []) := fun h_ => c6 (by rw [h_]; rfl)
    by_cases c45 : 0 < (((rd_T49 t561 a1).f1).length : Int)
    ·rw [if_pos c45] at H
     have c45b0 : decide (0 < (((rd_T49 t561 a1).f1).length : Int)) = true := decide_eq_true c45
     have c45b1 : decide (0 < ((rd_T49 t561 a1).f1).length) = true := decide_eq_true (by omega)
     clear c45
     obtain ⟨y597, hy597⟩ : ∃ y_ : List (S49), y_ = (t561.set (a1 : Int).toNat (⟨rd ((rd_T49 t561 a1).f1) 0, (rd_T49 t561 a1).f1, (rd_T49 t561 a1).f2⟩ : S49)) := ⟨_, rfl⟩
     replace H : (if 1 ≤ (((rd_T49 y597 a1).f1).length : Int) then ((some (((rd_T49 y597 a1).f1).drop 1 : List Int)).bind fun y599 => (if ([] : List Int).length + y599.length < 17592186044416 then (some (t558, (y597.set (a1 : Int).toNat (⟨(rd_T49 y597 a1).f0, (([] : List Int) ++ y599), (rd_T49 y597 a1).f2⟩ : S49)), t564)) else (none))) else (none)) = some (r1, r2, r3) := by first | (rw [hy597]; with_reducible exact H) | (have H2_ := (Option.bind_some _ _).symm.trans H; rw [hy597]; with_reducible exact H2_) | (have H2_ := (Option.bind_some _ _).symm.trans H; with_reducible exact H2_) | with_reducible exact H | (rw [hy597]; exact H) | exact H
     have Ny597 := Aside0.mk hy597
     clear hy597
     by_cases c47 : 1 ≤ (((rd_T49 y597 a1).f1).length : Int)
     ·rw [if_pos c47] at H
      have c47b0 := eq_true c47
      have c47b1 : decide (1 ≤ (((rd_T49 y597 a1).f1).length : Int)) = true := decide_eq_true c47
      clear c47
      obtain ⟨y599, hy599⟩ : ∃ y_ : List Int, y_ = (((rd_T49 y597 a1).f1).drop 1) := ⟨_, rfl⟩
      replace H : (if ([] : List Int).length + y599.length < 17592186044416 then (some (t558, (y597.set (a1 : Int).toNat (⟨(rd_T49 y597 a1).f0, (([] : List Int) ++ y599), (rd_T49 y597 a1).f2⟩ : S49)), t564)) else (none)) = some (r1, r2, r3) := by first | (rw [hy599]; with_reducible exact H) | (have H2_ := (Option.bind_some _ _).symm.trans H; rw [hy599]; with_reducible exact H2_) | (have H2_ := (Option.bind_some _ _).symm.trans H; with_reducible exact H2_) | with_reducible exact H | (rw [hy599]; exact H) | exact H
      have Ny599 := Aside0.mk hy599
      clear hy599
      by_cases c48 : ([] : List Int).length + y599.length < 17592186044416
      ·rw [if_pos c48] at H
       have LMc48 := Aside0.mk c48
       clear c48
       obtain ⟨y604, hy604⟩ : ∃ y_ : List Int, y_ = (([] : List Int) ++ y599) := ⟨_, rfl⟩
       replace H : (some (t558, (y597.set (a1 : Int).toNat (⟨(rd_T49 y597 a1).f0, y604, (rd_T49 y597 a1).f2⟩ : S49)), t564)) = some (r1, r2, r3) := by first | (rw [hy604]; with_reducible exact H) | (have H2_ := (Option.bind_some _ _).symm.trans H; rw [hy604]; with_reducible exact H2_) | (have H2_ := (Option.bind_some _ _).symm.trans H; with_reducible exact H2_) | with_reducible exact H | (rw [hy604]; exact H) | exact H
       have Ny604 := Aside0.mk hy604
       clear hy604
       obtain ⟨y607, hy607⟩ : ∃ y_ : List (S49), y_ = (y597.set (a1 : Int).toNat (⟨(rd_T49 y597 a1).f0, y604, (rd_T49 y597 a1).f2⟩ : S49)) := ⟨_, rfl⟩
       replace H : (some (t558, y607, t564)) = some (r1, r2, r3) := by first | (rw [hy607]; with_reducible exact H) | (have H2_ := (Option.bind_some _ _).symm.trans H; rw [hy607]; with_reducible exact H2_) | (have H2_ := (Option.bind_some _ _).symm.trans H; with_reducible exact H2_) | with_reducible exact H | (rw [hy607]; exact H) | exact H
       have Ny607 := Aside0.mk hy607
       clear hy607
       simp only [Option.some.injEq, Prod.mk.injEq] at H
       obtain ⟨rfl, rfl, rfl⟩ := H
       go_enter Try.func52, Try.ntmps52
       try go_wp2_with (first | ((with_reducible refine gate_dst (N := 2) rfl ?_); refine box_event ?hg (N := 2) ?hd (cs := #[.slice A0_0 l0_0.length c0_0, .slice A0_1 l0_1.length c0_1, .slice A0_2 l0_2.length c0_2]) (t := 31) ?hr ?_; (case hd => rfl); (case hg => rfl); (case hr => first | (go_simp; done) | (go_simp; rfl)); intro gb556 hg w50 hbox hb; have n0_ := Aside0.mk (below_step (by exact HB.out) hb); have n1_ := Aside0.mk (hbox); have n2_ := Aside0.mk ((by rw [hg]; exact (below_size (by exact HB.out)) : w.heap.size ≤ gb556)); have n3_ := Aside0.mk ((by rw [hg]; exact (below_size (by exact HB.out)) : w.heap.size ≤ gb556)); clear HB; have HB := n0_; have BK556 := n1_; have GW556 := n2_; have GE556 := n3_; clear n0_ n1_ n2_ n3_; clear hb hbox hg) | ((with_reducible refine gate_dst (N := 4) rfl ?_); refine box_event ?hg (N := 4) ?hd (cs := #[.slice none 0 0, .slice none 0 0, .slice none 0 0]) (t := 31) ?hr ?_; (case hd => rfl); (case hg => rfl); (case hr => first | (go_simp; done) | (go_simp; rfl)); intro gb557 hg w51 hbox hb; have n0_ := Aside0.mk (blk_below (g := gb556) (o := .cells #[.slice A0_0 l0_0.length c0_0, .slice A0_1 l0_1.length c0_1, .slice A0_2 l0_2.length c0_2] 31 (0, 0)) (by exact BK556.out) hb); have n1_ := Aside0.mk (below_step (by exact HB.out) hb); have n2_ := Aside0.mk (hbox); have n3_ := Aside0.mk ((by rw [hg]; exact (below_size (by exact HB.out)) : w.heap.size ≤ gb557)); have n4_ := Aside0.mk ((by rw [hg]; exact (below_size (by exact HB.out)) : w.heap.size ≤ gb557)); have n5_ := Aside0.mk ((by rw [hg]; exact Nat.ne_of_lt (blk_lt (g := gb556) (o := .cells #[.slice A0_0 l0_0.length c0_0, .slice A0_1 l0_1.length c0_1, .slice A0_2 l0_2.length c0_2] 31 (0, 0)) (by exact BK556.out)) : gb556 ≠ gb557)); have n6_ := Aside0.mk ((by rw [hg]; exact Nat.ne_of_gt (blk_lt (g := gb556) (o := .cells #[.slice A0_0 l0_0.length c0_0, .slice A0_1 l0_1.length c0_1, .slice A0_2 l0_2.length c0_2] 31 (0, 0)) (by exact BK556.out)) : gb557 ≠ gb556)); clear BK556; clear HB; have BK556 := n0_; have HB := n1_; have BK557 := n2_; have GW557 := n3_; have GE557 := n4_; have NB556_557 := n5_; have NB557_556 := n6_; clear n0_ n1_ n2_ n3_ n4_ n5_ n6_; clear hb hbox hg; have hnb52 := NB556_557.out; have hnc52 := NB557_556.out; have hcz53_0 : w51.cell? ⟨gb556, 0, none⟩ = some (.slice A0_0 l0_0.length c0_0) := (blk_cell BK556.out 0).trans rfl; have hcz53_1 : w51.cell? ⟨gb556, 1, none⟩ = some (.slice A0_1 l0_1.length c0_1) := (blk_cell BK556.out 1).trans rfl; have hcz53_2 : w51.cell? ⟨gb556, 2, none⟩ = some (.slice A0_2 l0_2.length c0_2) := (blk_cell BK556.out 2).trans rfl; have hfz53_0 := blk_frozen BK556.out 0; have hfz53_1 := blk_frozen BK556.out 1; have hfz53_2 := blk_frozen BK556.out 2) | ((with_reducible refine gate_callee (f := 60) rfl ?_); refine goesL_ (some 7) rfl rfl Try.func60 (by kernel_rfl) rfl #[.agg #[.slice A0_0 l0_0.length c0_0, .slice A0_1 l0_1.length c0_1, .slice A0_2 l0_2.length c0_2]] rfl (by (try simp only [List.map_toArray, List.map_cons, List.map_nil]); first | done | rfl | (simp only [List.length_drop, List.length_take]; rfl)) ?_; (with_reducible refine (impl_copyState.calls k _ _ l0_0 _ _ l0_1 _ _ l0_2 t558 t561 t564 _ ?side1 ?side2 ?side3 ?side4 ?side5 ?side6 A3.out).mono ?_); (case side1 => repeat (first | exact (Kd.C_below HR0_0.out HB.out) | (with_reducible refine Kd.C_alloc ?_ _) | (with_reducible refine Kd.C_drewN ?_ _) | (with_reducible refine Kd.C_drew ?_))); (case side2 => exact HC0_0.out); (case side3 => repeat (first | exact (Kd.C_below HR0_1.out HB.out) | (with_reducible refine Kd.C_alloc ?_ _) | (with_reducible refine Kd.C_drewN ?_ _) | (with_reducible refine Kd.C_drew ?_))); (case side4 => exact HC0_1.out); (case side5 => repeat (first | exact (Kd.C_below HR0_2.out HB.out) | (with_reducible refine Kd.C_alloc ?_ _) | (with_reducible refine Kd.C_drewN ?_ _) | (with_reducible refine Kd.C_drew ?_))); (case side6 => exact HC0_2.out); rintro e w54 ⟨v559, v562, v565, rfl, ho0, ho1, ho2, hb⟩; refine ⟨_, rfl, ?_⟩; have n0_ := Aside0.mk (Kd.R_lower (Kd.R_newM (M := fun k_ => (w.heap.size ≤ k_)) ho0 (below_size (by exact HB.out)) (fun k_ h_ => h_)) (below_size (by exact HB.out))); have n1_ := Aside0.mk (Kx.N_lower (Kx.N_mono (ok' := fun k_ => (w.heap.size ≤ k_) ∧ some k_ ≠ (v559 : Value).ownBlock ∧ some k_ ≠ (v565 : Value).ownBlock ∧ k_ ≠ gb556 ∧ k_ ≠ gb557) (Kx.S_N (Kd.S_bound ho1)) (fun k_ hk_ => ⟨(Nat.le_trans (below_size (by exact HB.out)) hk_.2.1), hk_.1.1, hk_.1.2, (Kd.freshB (g := gb556) (o := .cells #[.slice A0_0 l0_0.length c0_0, .slice A0_1 l0_1.length c0_1, .slice A0_2 l0_2.length c0_2] 31 (0, 0)) (by exact BK556.out) k_ hk_.2.1), (Kd.freshB (g := gb557) (o := .cells #[.slice none 0 0, .slice none 0 0, .slice none 0 0] 31 (0, 0)) (by exact BK557.out) k_ hk_.2.1)⟩)) (below_size (by exact HB.out))); have n2_ := Aside0.mk (Kd.R_lower (Kd.R_newM (M := fun k_ => (w.heap.size ≤ k_)) ho2 (below_size (by exact HB.out)) (fun k_ h_ => h_)) (below_size (by exact HB.out))); have n3_ := Aside0.mk (blk_below (g := gb556) (o := .cells #[.slice A0_0 l0_0.length c0_0, .slice A0_1 l0_1.length c0_1, .slice A0_2 l0_2.length c0_2] 31 (0, 0)) (by exact BK556.out) hb); have n4_ := Aside0.mk (blk_below (g := gb557) (o := .cells #[.slice none 0 0, .slice none 0 0, .slice none 0 0] 31 (0, 0)) (by exact BK557.out) hb); have n5_ := Aside0.mk (below_step (by exact HB.out) hb); clear BK556; clear BK557; clear HB; have HO560 := n0_; have HO563 := n1_; have HO566 := n2_; have BK556 := n3_; have BK557 := n4_; have HB := n5_; clear n0_ n1_ n2_ n3_ n4_ n5_; (try clear hb); (try clear hb2); (try clear hk); (try clear hi); (try clear ho0); (try clear ho1); (try clear ho2)) | ((with_reducible refine gate_dst (N := 5) rfl ?_); refine box_event ?hg (N := 5) ?hd (cs := #[.slice none 0 0, .slice none 0 0, .slice none 0 0]) (t := 31) ?hr ?_; (case hd => rfl); (case hg => rfl); (case hr => first | (go_simp; done) | (go_simp; rfl)); intro gb567 hg w55 hbox hb; have n0_ := Aside0.mk (Kd.R_below (by exact HO560.out) hb); have n1_ := Aside0.mk (Kx.N_below (Kx.N_elderB (by exact HO563.out) gb567 (Nat.le_of_eq hg.symm)) hb); have n2_ := Aside0.mk (Kd.R_below (by exact HO566.out) hb); have n3_ := Aside0.mk (blk_below (g := gb556) (o := .cells #[.slice A0_0 l0_0.length c0_0, .slice A0_1 l0_1.length c0_1, .slice A0_2 l0_2.length c0_2] 31 (0, 0)) (by exact BK556.out) hb); have n4_ := Aside0.mk (blk_below (g := gb557) (o := .cells #[.slice none 0 0, .slice none 0 0, .slice none 0 0] 31 (0, 0)) (by exact BK557.out) hb); have n5_ := Aside0.mk (below_step (by exact HB.out) hb); have n6_ := Aside0.mk (hbox); have n7_ := Aside0.mk ((by rw [hg]; exact (below_size (by exact HB.out)) : w.heap.size ≤ gb567)); have n8_ := Aside0.mk ((by rw [hg]; exact (below_size (by exact HB.out)) : w.heap.size ≤ gb567)); have n9_ := Aside0.mk ((by rw [hg]; exact Nat.ne_of_lt (blk_lt (g := gb556) (o := .cells #[.slice A0_0 l0_0.length c0_0, .slice A0_1 l0_1.length c0_1, .slice A0_2 l0_2.length c0_2] 31 (0, 0)) (by exact BK556.out)) : gb556 ≠ gb567)); have n10_ := Aside0.mk ((by rw [hg]; exact Nat.ne_of_gt (blk_lt (g := gb556) (o := .cells #[.slice A0_0 l0_0.length c0_0, .slice A0_1 l0_1.length c0_1, .slice A0_2 l0_2.length c0_2] 31 (0, 0)) (by exact BK556.out)) : gb567 ≠ gb556)); have n11_ := Aside0.mk ((by rw [hg]; exact Nat.ne_of_lt (blk_lt (g := gb557) (o := .cells #[.slice none 0 0, .slice none 0 0, .slice none 0 0] 31 (0, 0)) (by exact BK557.out)) : gb557 ≠ gb567)); have n12_ := Aside0.mk ((by rw [hg]; exact Nat.ne_of_gt (blk_lt (g := gb557) (o := .cells #[.slice none 0 0, .slice none 0 0, .slice none 0 0] 31 (0, 0)) (by exact BK557.out)) : gb567 ≠ gb557)); clear HO560; clear HO563; clear HO566; clear BK556; clear BK557; clear HB; have HO560 := n0_; have HO563 := n1_; have HO566 := n2_; have BK556 := n3_; have BK557 := n4_; have HB := n5_; have BK567 := n6_; have GW567 := n7_; have GE567 := n8_; have NB556_567 := n9_; have NB567_556 := n10_; have NB557_567 := n11_; have NB567_557 := n12_; clear n0_ n1_ n2_ n3_ n4_ n5_ n6_ n7_ n8_ n9_ n10_ n11_ n12_; clear hb hbox hg; obtain ⟨Ao56, co56, eo56⟩ := Kd.R_slice HO560.out; subst eo56; have hnb57 := NB567_556.out; have hnc57 := NB556_567.out; have hnb58 := NB567_557.out; have hnc58 := NB557_567.out; have hcz59_0 : w55.cell? ⟨gb567, 0, none⟩ = some (.slice none 0 0) := (blk_cell BK567.out 0).trans rfl; have hcz59_1 : w55.cell? ⟨gb567, 1, none⟩ = some (.slice none 0 0) := (blk_cell BK567.out 1).trans rfl; have hcz59_2 : w55.cell? ⟨gb567, 2, none⟩ = some (.slice none 0 0) := (blk_cell BK567.out 2).trans rfl; have hfz59_0 := blk_frozen BK567.out 0; have hfz59_1 := blk_frozen BK567.out 1; have hfz59_2 := blk_frozen BK567.out 2; obtain ⟨Ao60, co60, eo60⟩ := Kx.N_slice HO563.out; subst eo60; obtain ⟨Ao61, co61, eo61⟩ := Kd.R_slice HO566.out; subst eo61) | ((with_reducible refine gate_store (t := 31) (p := 5) rfl ?_); refine store_event (t := 31) (p := 5) (v := ?vo_w62) (w1 := (((w55.setCell ⟨gb567, 0, none⟩ (.slice Ao56 t558.length co56)).setCell ⟨gb567, 1, none⟩ (.slice Ao60 t561.length co60)).setCell ⟨gb567, 2, none⟩ (.slice Ao61 t564.length co61))) ?hg ?ho ?hn ?hr ?_; (case ho => rfl); (case hg => rfl); (case hn => rfl); (case hr => first | (go_simp; done) | (go_simp; rfl)); intro w62 hw; have n0_ : Aside0 (Kd.R (Kd.int .i64) 3 w62 w.heap.size (fun k_ => (w.heap.size ≤ k_) ∧ some k_ ≠ (.slice Ao61 t564.length co61 : Value).ownBlock) (.slice Ao56 t558.length co56) t558) := ⟨(by rw [hw]; exact (by exact Kd.R_mono (Kd.R_far (p := ⟨gb567, 2, none⟩) (Kd.R_far (p := ⟨gb567, 1, none⟩) (Kd.R_far (p := ⟨gb567, 0, none⟩) (Kd.R_types HO560.out BK567.out (by decide)) (fun _ hk => hk.2) (.slice Ao56 t558.length co56)) (fun _ hk => hk.2) (.slice Ao60 t561.length co60)) (fun _ hk => hk.2) (.slice Ao61 t564.length co61)) (fun _ hk => ⟨hk.1.1, hk.1.2⟩)))⟩; have n1_ : Aside0 (Kd.S k49 49 w62 w.heap.size (fun k_ => (w.heap.size ≤ k_) ∧ some k_ ≠ (.slice Ao56 t558.length co56 : Value).ownBlock ∧ some k_ ≠ (.slice Ao61 t564.length co61 : Value).ownBlock ∧ k_ ≠ gb556 ∧ k_ ≠ gb557 ∧ k_ ≠ gb567) (.slice Ao60 t561.length co60) t561) := ⟨(by rw [hw]; exact (by exact Kx.N_mono (Kx.N_far (p := ⟨gb567, 2, none⟩) (Kx.N_far (p := ⟨gb567, 1, none⟩) (Kx.N_far (p := ⟨gb567, 0, none⟩) (Kx.N_mono HO563.out (fun k_ hk => (⟨hk, hk.2⟩ : _ ∧ k_ ≠ gb567))) (fun _ hk => hk.2) (.slice Ao56 t558.length co56)) (fun _ hk => hk.2) (.slice Ao60 t561.length co60)) (fun _ hk => hk.2) (.slice Ao61 t564.length co61)) (fun _ hk => ⟨hk.1.1.1, ⟨hk.1.1.2.1, ⟨hk.1.1.2.2.1, ⟨hk.1.1.2.2.2.1, ⟨hk.1.1.2.2.2.2, hk.1.2⟩⟩⟩⟩⟩)))⟩; have n2_ : Aside0 (Kd.R (Kd.int .i64) 3 w62 w.heap.size (fun k_ => (w.heap.size ≤ k_) ∧ some k_ ≠ (.slice Ao56 t558.length co56 : Value).ownBlock) (.slice Ao61 t564.length co61) t564) := ⟨(by rw [hw]; exact (by exact Kd.R_mono (Kd.R_far (p := ⟨gb567, 2, none⟩) (Kd.R_far (p := ⟨gb567, 1, none⟩) (Kd.R_far (p := ⟨gb567, 0, none⟩) (Kd.R_types HO566.out BK567.out (by decide)) (fun _ hk => hk.2) (.slice Ao56 t558.length co56)) (fun _ hk => hk.2) (.slice Ao60 t561.length co60)) (fun _ hk => hk.2) (.slice Ao61 t564.length co61)) (fun _ hk => ⟨hk.1.1, hk.1.2⟩)))⟩; have n3_ : Aside0 (w62.heap[gb556]? = some (.cells #[.slice A0_0 l0_0.length c0_0, .slice A0_1 l0_1.length c0_1, .slice A0_2 l0_2.length c0_2] 31 (0, 0))) := ⟨(by rw [hw]; exact (by refine blk_far ?_ NB556_567.out _; refine blk_far ?_ NB556_567.out _; refine blk_far ?_ NB556_567.out _; exact BK556.out))⟩; have n4_ : Aside0 (w62.heap[gb557]? = some (.cells #[.slice none 0 0, .slice none 0 0, .slice none 0 0] 31 (0, 0))) := ⟨(by rw [hw]; exact (by refine blk_far ?_ NB557_567.out _; refine blk_far ?_ NB557_567.out _; refine blk_far ?_ NB557_567.out _; exact BK557.out))⟩; have n5_ : Aside0 (w62.heap[gb567]? = some (.cells #[.slice Ao56 t558.length co56, .slice Ao60 t561.length co60, .slice Ao61 t564.length co61] 31 (0, 0))) := ⟨(by rw [hw]; exact (by refine blk_put (cs := #[.slice Ao56 t558.length co56, .slice Ao60 t561.length co60, .slice none 0 0]) ?_ 2 _ rfl; refine blk_put (cs := #[.slice Ao56 t558.length co56, .slice none 0 0, .slice none 0 0]) ?_ 1 _ rfl; refine blk_put (cs := #[.slice none 0 0, .slice none 0 0, .slice none 0 0]) ?_ 0 _ rfl; exact BK567.out))⟩; have n6_ : Aside0 (Below w.heap.size w w62) := ⟨(by rw [hw]; exact (by repeat (first | (with_reducible first | exact HB.out | apply below_alloc | apply pw_below_drewN | apply below_drew1 | refine below_set ?_ GE556.out | refine below_set ?_ GE557.out | refine below_set ?_ GE567.out) | exact HB.out)))⟩; clear hw; clear HO560; clear HO563; clear HO566; clear BK556; clear BK557; clear BK567; clear HB; have HO560 := n0_; have HO563 := n1_; have HO566 := n2_; have BK556 := n3_; have BK557 := n4_; have BK567 := n5_; have HB := n6_; clear n0_ n1_ n2_ n3_ n4_ n5_ n6_; have hcz63_0 : w62.cell? ⟨gb567, 0, none⟩ = some (.slice Ao56 t558.length co56) := (blk_cell BK567.out 0).trans rfl; have hcz63_1 : w62.cell? ⟨gb567, 1, none⟩ = some (.slice Ao60 t561.length co60) := (blk_cell BK567.out 1).trans rfl; have hcz63_2 : w62.cell? ⟨gb567, 2, none⟩ = some (.slice Ao61 t564.length co61) := (blk_cell BK567.out 2).trans rfl; have hfz63_0 := blk_frozen BK567.out 0; have hfz63_1 := blk_frozen BK567.out 1; have hfz63_2 := blk_frozen BK567.out 2; have p568 : 0 ≤ (a1 : Int) := of_decide_eq_true (by assumption); have q568 : a1 < (t561.length : Int) := of_decide_eq_true (by assumption); obtain ⟨ad568, A568_1, c568_1, e568, hx568_0, hx568_1, hx568_2, hl568_1, hi568_1⟩ := at_T49 (Kx.N_reads' HO563.out).2.2 a1 p568 q568; cases e568; obtain ⟨ce568, hce568, hMe568, hcc568⟩ := Kx.N_get HO563.out z49 a1 p568 (by first | exact q568 | exact of_decide_eq_true (by assumption) | (have e_ := (Kx.N_reads' HO563.out).1; omega)); obtain ⟨ua568_1, uc568_1, rfl, ul568_1, ge568_1⟩ := k49_openF hMe568; have hv568_1 := hcc568 1 _ rfl; rw [add_field _ _ 1 (by omega)] at hv568_1; replace hv568_1 := Option.some.inj (hv568_1.symm.trans hx568_1); injection hv568_1 with hva_ hvn_ hvc_; rw [hva_] at ge568_1; rw [hvc_] at ul568_1; have HL568_1 := Aside0.mk (show Kd.V (Kd.int .i64) 3 _ w.heap.size _ _ ((rd_T49 t561 a1).f1) from Kd.V_mk ul568_1 ge568_1); clear hva_ hvn_ hvc_ ge568_1 ul568_1; clear hcc568 hce568; have HR568_1 := Aside0.mk hi568_1; have HC568_1 := Aside0.mk hl568_1; clear hi568_1 hl568_1; replace p568 := eq_true p568; replace q568 := eq_true q568))
       have n0_ := Aside0.mk (Kd.R_drew HO560.out)
       have n1_ := Aside0.mk (Kx.N_drew HO563.out)
       have n2_ := Aside0.mk (Kd.R_drew HO566.out)
       have n3_ := Aside0.mk (Kd.V_drew HL568_1.out)
       have n4_ := Aside0.mk (blk_drew BK556.out)
       have n5_ := Aside0.mk (blk_drew BK557.out)
       have n6_ := Aside0.mk (blk_drew BK567.out)
       have n7_ := Aside0.mk (Kd.C_drew HR568_1.out)
       have n8_ := Aside0.mk (below_drew1 HB.out)
       clear HO560
       clear HO563
       clear HO566
       clear HL568_1
       clear BK556
       clear BK557
       clear BK567
       clear HR568_1
       clear HB
       have HO560 := n0_
       have HO563 := n1_
       have HO566 := n2_
       have HL568_1 := n3_
       have BK556 := n4_
       have BK557 := n5_
       have BK567 := n6_
       have HR568_1 := n7_
       have HB := n8_
       clear n0_ n1_ n2_ n3_ n4_ n5_ n6_ n7_ n8_
       have p595 : 0 ≤ (a1 : Int) := of_decide_eq_true (by assumption)
       have q595 : a1 < (t561.length : Int) := of_decide_eq_true (by assumption)
       obtain ⟨ad595, A595_1, c595_1, e595, hx595_0, hx595_1, hx595_2, hl595_1, hi595_1⟩ := at_T49 (Kx.N_reads' HO563.out).2.2 a1 p595 q595
       obtain rfl : ad568 = ad595 := (by injection e595)
       obtain ⟨ce595, hce595, hMe595, hcc595⟩ := Kx.N_get HO563.out z49 a1 p595 (by first | exact q595 | exact of_decide_eq_true (by assumption) | (have e_ := (Kx.N_reads' HO563.out).1; omega))
       obtain ⟨ua595_1, uc595_1, rfl, ul595_1, ge595_1⟩ := k49_openF hMe595
       have hv595_1 := hcc595 1 _ rfl
       rw [add_field _ _ 1 (by omega)] at hv595_1
       replace hv595_1 := Option.some.inj (hv595_1.symm.trans hx595_1)
       injection hv595_1 with hva_ hvn_ hvc_
       rw [hva_] at ge595_1
       rw [hvc_] at ul595_1
       have HL595_1 := Aside0.mk (show Kd.V (Kd.int .i64) 3 _ w.heap.size _ _ ((rd_T49 t561 a1).f1) from Kd.V_mk ul595_1 ge595_1)
       clear hva_ hvn_ hvc_ ge595_1 ul595_1
       clear hcc595 hce595
       have HR595_1 := Aside0.mk hi595_1
       have HC595_1 := Aside0.mk hl595_1
       clear hi595_1 hl595_1
       replace p595 := eq_true p595
       replace q595 := eq_true q595
       have p596 : 0 ≤ (0 : Int) := (by omega)
       have q596 : 0 < (((rd_T49 t561 a1).f1).length : Int) := of_decide_eq_true (by assumption)
       obtain ⟨ad596, e596, hx596_0⟩ := Kd.at_int (by repeat (first | (with_reducible exact HR595_1.out) | (with_reducible refine Kd.C_alloc ?_ _) | (with_reducible refine Kd.C_drewN ?_ _) | (with_reducible refine Kd.C_drew ?_) | exact HR595_1.out)) 0 p596 q596
       cases e596
       have qi596 : (0 < ((rd_T49 t561 a1).f1).length) = True := eq_true (by omega)
       (try rw [show ((0 : Int)).toNat = 0 from rfl] at hx596_0)
       (try rw [Addr.add_zero'] at hx596_0)
       replace p596 := eq_true p596
       replace q596 := eq_true q596
       have p46 : 0 ≤ (a1 : Int) := of_decide_eq_true (by assumption)
       have q46 : (a1 : Int) < ((t561.length : Int) : Int) := of_decide_eq_true (by assumption)
       obtain ⟨go46, co46, eo46, gb46, gl46, cl46, HG46⟩ := Kx.N_form HO563.out (by omega)
       (first | cases eo46 | (injection eo46 with ea_ en_ ec_; (first | subst ea_ | (injection ea_ with ea_; subst ea_)); subst ec_; clear en_))
       have GB46 := Aside0.mk gb46
       have GG46 := Aside0.mk HG46
       clear gb46 gl46 HG46
       (first | simp only [add_plain] at hx568_0 | skip)
       (first | simp only [add_plain] at hx568_1 | skip)
       (first | simp only [add_plain] at hx568_2 | skip)
       (first | simp only [add_plain] at hx595_0 | skip)
       (first | simp only [add_plain] at hx595_1 | skip)
       (first | simp only [add_plain] at hx595_2 | skip)
       obtain ⟨ce46, hcl46, hM46, hcc46, hfr46⟩ := Kx.N_elem HO563.out z49 (a1 : Int) p46 q46
       obtain ⟨ua46_1, uc46_1, rfl, ul46_1, ge46_1⟩ := k49_openF hM46
       have hx46_0 : World.cell? _ ⟨go46, (a1 : Int).toNat * 3, none⟩ = some (.int .i64 ((rd_T49 t561 a1).f0)) := hcc46 0 _ rfl
       have hx46_1 : World.cell? _ ⟨go46, (a1 : Int).toNat * 3 + 1, none⟩ = some (.slice ua46_1 ((rd_T49 t561 a1).f1).length uc46_1) := hcc46 1 _ rfl
       have hx46_2 : World.cell? _ ⟨go46, (a1 : Int).toNat * 3 + 2, none⟩ = some (.int .i64 ((rd_T49 t561 a1).f2)) := hcc46 2 _ rfl
       have hf46_0 : World.frozen? _ ⟨go46, (a1 : Int).toNat * 3, none⟩ = false := hfr46 0
       have hf46_1 : World.frozen? _ ⟨go46, (a1 : Int).toNat * 3 + 1, none⟩ = false := hfr46 1
       have hf46_2 : World.frozen? _ ⟨go46, (a1 : Int).toNat * 3 + 2, none⟩ = false := hfr46 2
       clear hcl46 hcc46 hfr46 hM46
       replace p46 := eq_true p46
       replace q46 := eq_true q46
       have HX65 := Aside0.mk (show Kd.S k49 49 _ w.heap.size (fun k_ => (w.heap.size ≤ k_) ∧ some k_ ≠ (.slice Ao56 t558.length co56 : Value).ownBlock ∧ some k_ ≠ (.slice Ao61 t564.length co61 : Value).ownBlock ∧ k_ ≠ gb556 ∧ k_ ≠ gb557 ∧ k_ ≠ gb567) (.slice (some ⟨go46, 0, none⟩) t561.length co60) t561 from (Kx.N_mono (HO563.out) (fun k_ hk => ⟨hk.1, ⟨hk.2.1, ⟨hk.2.2.1, ⟨hk.2.2.2.1, ⟨hk.2.2.2.2.1, hk.2.2.2.2.2⟩⟩⟩⟩⟩)))
       obtain ⟨ce65, hcl65, hM65, hcc65, hfr65⟩ := Kx.N_elem HX65.out z49 (a1 : Int) (of_decide_eq_true (by assumption)) (by have h_ : (a1 : Int) < ((t561.length : Int) : Int) := of_decide_eq_true (by assumption); first | exact h_ | (have e_ := (Kx.N_reads' HO563.out).1; omega) | simpa using h_)
       obtain ⟨ua65_1, uc65_1, rfl, ul65_1, ge65_1⟩ := k49_openF hM65
       obtain ⟨okx65, cx65, hcx65, hMx65, hHx65⟩ := Kx.elem0 HX65.out z49 (a1 : Int) (of_decide_eq_true (by assumption)) (by have h_ : (a1 : Int) < ((t561.length : Int) : Int) := of_decide_eq_true (by assumption); first | exact h_ | (have e_ := (Kx.N_reads' HO563.out).1; omega) | simpa using h_)
       obtain ⟨vx65, rfl, gx65⟩ := k49_openM hMx65
       have HP65 := (Kd.S_seg hHx65 (of_decide_eq_true (by assumption)) (by have h_ : (a1 : Int) < ((t561.length : Int) : Int) := of_decide_eq_true (by assumption); first | exact h_ | (have e_ := (Kx.N_reads' HO563.out).1; omega) | simpa using h_) (seg := [.int .i64 (rd ((rd_T49 t561 a1).f1) 0)]) (j := 0) (show 0 + 1 ≤ 3 from by omega) (x' := (⟨rd ((rd_T49 t561 a1).f1) 0, (rd_T49 t561 a1).f1, (rd_T49 t561 a1).f2⟩ : S49)) (k49_mkM _ _ _ (⟨rd ((rd_T49 t561 a1).f1) 0, (rd_T49 t561 a1).f1, (rd_T49 t561 a1).f2⟩ : S49) gx65) (fun k hk => .inl hk) (fun k hk => hk.elim)).1
       rw [← Ny597.out] at HP65
       have HQ65 := Aside0.mk HP65
       clear hcl65 hcc65 hfr65 hM65 HP65
       refine start_ (n := 14) (S := fun w' => w'.cell? ⟨gb567, 0, none⟩ = some (.slice Ao56 t558.length co56) ∧ w'.cell? ⟨gb567, 1, none⟩ = some (.slice (some ⟨go46, 0, none⟩) t561.length co60) ∧ w'.cell? ⟨gb567, 2, none⟩ = some (.slice Ao61 t564.length co61) ∧ w'.cell? ⟨go46, ((a1).toNat * 3), none⟩ = some (.int .i64 ((rd_T49 t561 a1).f0)) ∧ w'.cell? ⟨go46, ((a1).toNat * 3) + 1, none⟩ = some (.slice (some ad596) ((rd_T49 t561 a1).f1).length c595_1) ∧ w'.cell? ⟨go46, ((a1).toNat * 3) + 2, none⟩ = some (.int .i64 ((rd_T49 t561 a1).f2)) ∧ w'.cell? ad596 = some (.int .i64 (rd ((rd_T49 t561 a1).f1) 0))) (ds := [13]) #[false, false, false, false, false, false, false, false, false, false, false, false, false, false] (by kernel_rfl) rfl rfl ⟨(blk_cell BK567.out 0).trans rfl, (blk_cell BK567.out 1).trans rfl, (blk_cell BK567.out 2).trans rfl, hx595_0, hx595_1, hx595_2, hx596_0⟩ (fun hHeld => ?_); refine with_tabW impl_step.tab6 impl_step.bits6 (fun HT_ HW_ => ?_)
       generalize w62.drew = w64 at HO560 HO563 HO566 HL568_1 BK556 BK557 BK567 HR568_1 HB GG46 HL595_1 HQ65 HR595_1 hf46_0 hf46_1 hf46_2 hx46_0 hx46_1 hx46_2 hx568_0 hx568_1 hx568_2 hx595_0 hx595_1 hx595_2 hx596_0 hHeld ⊢
       refine pure_ (i := 0) (N := some 39) (v := ?_) (a' := ?_) #[true, false, false, false, false, false, false, false, false, false, false, false, false, false] rfl rfl (any_of HT_.out (by kernel_rfl)) (fun _ _ _ h => h) (Or.inl ⟨by rfl, ?_⟩) ?_ ?_
       rotate_left
       ·intro w'
        go_simp
        with_reducible rfl
       rotate_left
       ·simp only [Act.put, List.setIfInBounds_toArray, List.set_cons_zero, List.set_cons_succ, i64_w, i32_w]
        rfl
       refine pure_ (i := 2) (N := some 41) (v := ?_) (a' := ?_) #[true, false, true, false, false, false, false, false, false, false, false, false, false, false] rfl rfl (any_of HT_.out (by kernel_rfl)) (fun _ _ _ h => h) (Or.inl ⟨by rfl, ?_⟩) ?_ ?_
       rotate_left
       ·intro w'
        go_simp
        with_reducible rfl
       rotate_left
       ·simp only [Act.put, List.setIfInBounds_toArray, List.set_cons_zero, List.set_cons_succ, i64_w, i32_w]
        rfl
       refine pure_ (i := 3) (N := some 42) (v := ?_) (a' := ?_) #[true, false, true, true, false, false, false, false, false, false, false, false, false, false] rfl rfl (any_of HT_.out (by kernel_rfl)) (fun _ _ _ h => h) (Or.inl ⟨by rfl, ?_⟩) ?_ ?_
       rotate_left
       ·intro w'
        go_simp
        with_reducible rfl
       rotate_left
       ·simp only [Act.put, List.setIfInBounds_toArray, List.set_cons_zero, List.set_cons_succ, i64_w, i32_w]
        rfl
       refine pure_ (i := 5) (N := some 44) (v := ?_) (a' := ?_) #[true, false, true, true, false, true, false, false, false, false, false, false, false, false] rfl rfl (any_of HT_.out (by kernel_rfl)) (fun _ _ _ h => h) (Or.inl ⟨by rfl, ?_⟩) ?_ ?_
       rotate_left
       ·intro w'
        go_simp
        with_reducible rfl
       rotate_left
       ·simp only [Act.put, List.setIfInBounds_toArray, List.set_cons_zero, List.set_cons_succ, i64_w, i32_w]
        rfl
       refine take_ (i := 1) (N := some 40) (v := ?_) (a' := ?_) #[true, true, true, true, false, true, false, false, false, false, false, false, false, false] rfl rfl (take_ofW HT_.out HW_.out (by kernel_rfl)) (fun _ _ _ h => h) (Or.inl ⟨by rfl, ?_⟩) hHeld ?_ ?_
       rotate_left
       ·rintro w' ⟨s0, s1, s2, s3, s4, s5, s6⟩
        go_simp
        with_reducible rfl
       rotate_left
       ·simp only [Act.put, List.setIfInBounds_toArray, List.set_cons_zero, List.set_cons_succ, i64_w, i32_w]
        rfl
       refine take_ (i := 4) (N := some 43) (v := ?_) (a' := ?_) #[true, true, true, true, true, true, false, false, false, false, false, false, false, false] rfl rfl (take_ofW HT_.out HW_.out (by kernel_rfl)) (fun _ _ _ h => h) (Or.inl ⟨by rfl, ?_⟩) hHeld ?_ ?_
       rotate_left
       ·rintro w' ⟨s0, s1, s2, s3, s4, s5, s6⟩
        go_simp
        with_reducible rfl
       rotate_left
       ·simp only [Act.put, List.setIfInBounds_toArray, List.set_cons_zero, List.set_cons_succ, i64_w, i32_w]
        rfl
       refine pure_ (i := 6) (N := some 45) (v := ?_) (a' := ?_) #[true, true, true, true, true, true, true, false, false, false, false, false, false, false] rfl rfl (any_of HT_.out (by kernel_rfl)) (fun _ _ _ h => h) (Or.inl ⟨by rfl, ?_⟩) ?_ ?_
       rotate_left
       ·intro w'
        go_simp
        with_reducible rfl
       rotate_left
       ·simp only [Act.put, List.setIfInBounds_toArray, List.set_cons_zero, List.set_cons_succ, i64_w, i32_w]
        rfl
       refine pure_ (i := 7) (N := some 46) (v := ?_) (a' := ?_) #[true, true, true, true, true, true, true, true, false, false, false, false, false, false] rfl rfl (any_of HT_.out (by kernel_rfl)) (fun _ _ _ h => h) (Or.inl ⟨by rfl, ?_⟩) ?_ ?_
       rotate_left
       ·intro w'
        go_simp
        with_reducible rfl
       rotate_left
       ·simp only [Act.put, List.setIfInBounds_toArray, List.set_cons_zero, List.set_cons_succ, i64_w, i32_w]
        rfl
       refine take_ (i := 8) (N := some 47) (v := ?_) (a' := ?_) #[true, true, true, true, true, true, true, true, true, false, false, false, false, false] rfl rfl (take_ofW HT_.out HW_.out (by kernel_rfl)) (fun _ _ _ h => h) (Or.inl ⟨by rfl, ?_⟩) hHeld ?_ ?_
       rotate_left
       ·rintro w' ⟨s0, s1, s2, s3, s4, s5, s6⟩
        go_simp
        with_reducible rfl
       rotate_left
       ·simp only [Act.put, List.setIfInBounds_toArray, List.set_cons_zero, List.set_cons_succ, i64_w, i32_w]
        rfl
       refine pure_ (i := 9) (N := some 48) (v := ?_) (a' := ?_) #[true, true, true, true, true, true, true, true, true, true, false, false, false, false] rfl rfl (any_of HT_.out (by kernel_rfl)) (fun _ _ _ h => h) (Or.inl ⟨by rfl, ?_⟩) ?_ ?_
       rotate_left
       ·intro w'
        go_simp
        with_reducible rfl
       rotate_left
       ·simp only [Act.put, List.setIfInBounds_toArray, List.set_cons_zero, List.set_cons_succ, i64_w, i32_w]
        rfl
       refine take_ (i := 10) (N := some 49) (v := ?_) (a' := ?_) #[true, true, true, true, true, true, true, true, true, true, true, false, false, false] rfl rfl (take_ofW HT_.out HW_.out (by kernel_rfl)) (fun _ _ _ h => h) (Or.inl ⟨by rfl, ?_⟩) hHeld ?_ ?_
       rotate_left
       ·rintro w' ⟨s0, s1, s2, s3, s4, s5, s6⟩
        go_simp
        with_reducible rfl
       rotate_left
       ·simp only [Act.put, List.setIfInBounds_toArray, List.set_cons_zero, List.set_cons_succ, i64_w, i32_w]
        rfl
       refine pure_ (i := 11) (N := some 50) (v := ?_) (a' := ?_) #[true, true, true, true, true, true, true, true, true, true, true, true, false, false] rfl rfl (any_of HT_.out (by kernel_rfl)) (fun _ _ _ h => h) (Or.inl ⟨by rfl, ?_⟩) ?_ ?_
       rotate_left
       ·intro w'
        go_simp
        with_reducible rfl
       rotate_left
       ·simp only [Act.put, List.setIfInBounds_toArray, List.set_cons_zero, List.set_cons_succ, i64_w, i32_w]
        rfl
       refine pure_ (i := 12) (N := some 51) (v := ?_) (a' := ?_) #[true, true, true, true, true, true, true, true, true, true, true, true, true, false] rfl rfl (any_of HT_.out (by kernel_rfl)) (fun _ _ _ h => h) (Or.inl ⟨by rfl, ?_⟩) ?_ ?_
       rotate_left
       ·intro w'
        go_simp
        with_reducible rfl
       rotate_left
       ·simp only [Act.put, List.setIfInBounds_toArray, List.set_cons_zero, List.set_cons_succ, i64_w, i32_w]
        rfl
       refine last_ (i := 13) (N := none) #[true, true, true, true, true, true, true, true, true, true, true, true, true, true] rfl rfl (one_of HT_.out (by kernel_rfl)) (by decide) (fun K hK => ?_)
       refine skip_ (w1 := ?_) (by rfl) rfl ?_ ?_
       rotate_left
       ·go_simp
        rfl
       refine hK.out _ _ ?_
       clear hK K
       refine done_ (done_of HT_.out (by kernel_rfl)) ?_
       have n0_ : Aside0 (Kd.R (Kd.int .i64) 3 (w64.setCell ⟨go46, (a1 : Int).toNat * 3, none⟩ (.int .i64 (rd ((rd_T49 t561 a1).f1) 0))) w.heap.size (fun k_ => (w.heap.size ≤ k_) ∧ some k_ ≠ (.slice Ao61 t564.length co61 : Value).ownBlock) (.slice Ao56 t558.length co56) t558) := ⟨by exact Kd.R_mono (Kd.R_far (p := ⟨go46, (a1 : Int).toNat * 3, none⟩) (Kd.R_types HO560.out GG46.out (by decide)) (fun _ hk => hk.2) (.int .i64 (rd ((rd_T49 t561 a1).f1) 0))) (fun _ hk => ⟨hk.1.1, hk.1.2⟩)⟩
       have n1_ : Aside0 (Kd.S k49 49 (w64.setCell ⟨go46, (a1 : Int).toNat * 3, none⟩ (.int .i64 (rd ((rd_T49 t561 a1).f1) 0))) w.heap.size (fun k_ => (w.heap.size ≤ k_) ∧ some k_ ≠ (.slice Ao56 t558.length co56 : Value).ownBlock ∧ some k_ ≠ (.slice Ao61 t564.length co61 : Value).ownBlock ∧ k_ ≠ gb556 ∧ k_ ≠ gb557 ∧ k_ ≠ gb567) (.slice (some ⟨go46, 0, none⟩) t561.length co60) y597) := ⟨by exact HQ65.out⟩
       have n2_ : Aside0 (Kd.R (Kd.int .i64) 3 (w64.setCell ⟨go46, (a1 : Int).toNat * 3, none⟩ (.int .i64 (rd ((rd_T49 t561 a1).f1) 0))) w.heap.size (fun k_ => (w.heap.size ≤ k_) ∧ some k_ ≠ (.slice Ao56 t558.length co56 : Value).ownBlock) (.slice Ao61 t564.length co61) t564) := ⟨by exact Kd.R_mono (Kd.R_far (p := ⟨go46, (a1 : Int).toNat * 3, none⟩) (Kd.R_types HO566.out GG46.out (by decide)) (fun _ hk => hk.2) (.int .i64 (rd ((rd_T49 t561 a1).f1) 0))) (fun _ hk => ⟨hk.1.1, hk.1.2⟩)⟩
       have n3_ : Aside0 (Kd.V (Kd.int .i64) 3 (w64.setCell ⟨go46, (a1 : Int).toNat * 3, none⟩ (.int .i64 (rd ((rd_T49 t561 a1).f1) 0))) w.heap.size (fun k_ => (w.heap.size ≤ k_) ∧ some k_ ≠ (.slice Ao56 t558.length co56 : Value).ownBlock ∧ some k_ ≠ (.slice (some ⟨go46, 0, none⟩) t561.length co60 : Value).ownBlock ∧ some k_ ≠ (.slice Ao61 t564.length co61 : Value).ownBlock ∧ k_ ≠ gb556 ∧ k_ ≠ gb557 ∧ k_ ≠ gb567) (.slice A568_1 ((rd_T49 t561 a1).f1).length c568_1) ((rd_T49 t561 a1).f1)) := ⟨by exact Kd.V_mono (Kd.V_far (p := ⟨go46, (a1 : Int).toNat * 3, none⟩) (Kd.V_mono HL568_1.out (fun k_ hk => (⟨hk, fun e_ => hk.2 (by rw [e_]; rfl)⟩ : _ ∧ k_ ≠ go46))) (fun _ hk => hk.2) (.int .i64 (rd ((rd_T49 t561 a1).f1) 0))) (fun _ hk => ⟨hk.1.1.1, ⟨hk.1.1.2.1, ⟨hk.1.2, ⟨hk.1.1.2.2.1, ⟨hk.1.1.2.2.2.1, ⟨hk.1.1.2.2.2.2.1, hk.1.1.2.2.2.2.2⟩⟩⟩⟩⟩⟩)⟩
       have n4_ : Aside0 (Kd.V (Kd.int .i64) 3 (w64.setCell ⟨go46, (a1 : Int).toNat * 3, none⟩ (.int .i64 (rd ((rd_T49 t561 a1).f1) 0))) w.heap.size (fun k_ => (w.heap.size ≤ k_) ∧ some k_ ≠ (.slice Ao56 t558.length co56 : Value).ownBlock ∧ some k_ ≠ (.slice (some ⟨go46, 0, none⟩) t561.length co60 : Value).ownBlock ∧ some k_ ≠ (.slice Ao61 t564.length co61 : Value).ownBlock ∧ k_ ≠ gb556 ∧ k_ ≠ gb557 ∧ k_ ≠ gb567) (.slice (some ad596) ((rd_T49 t561 a1).f1).length c595_1) ((rd_T49 t561 a1).f1)) := ⟨by exact Kd.V_mono (Kd.V_far (p := ⟨go46, (a1 : Int).toNat * 3, none⟩) (Kd.V_mono HL595_1.out (fun k_ hk => (⟨hk, fun e_ => hk.2 (by rw [e_]; rfl)⟩ : _ ∧ k_ ≠ go46))) (fun _ hk => hk.2) (.int .i64 (rd ((rd_T49 t561 a1).f1) 0))) (fun _ hk => ⟨hk.1.1.1, ⟨hk.1.1.2.1, ⟨hk.1.2, ⟨hk.1.1.2.2.1, ⟨hk.1.1.2.2.2.1, ⟨hk.1.1.2.2.2.2.1, hk.1.1.2.2.2.2.2⟩⟩⟩⟩⟩⟩)⟩
       have n5_ : Aside0 ((w64.setCell ⟨go46, (a1 : Int).toNat * 3, none⟩ (.int .i64 (rd ((rd_T49 t561 a1).f1) 0))).heap[gb556]? = some (.cells #[.slice A0_0 l0_0.length c0_0, .slice A0_1 l0_1.length c0_1, .slice A0_2 l0_2.length c0_2] 31 (0, 0))) := ⟨by refine blk_far ?_ (by have h_ := Kx.N_away HO563.out (fun _ hk => hk.2.2.2.1); intro e_; exact h_ (by rw [e_]; rfl)) _; exact BK556.out⟩
       have n6_ : Aside0 ((w64.setCell ⟨go46, (a1 : Int).toNat * 3, none⟩ (.int .i64 (rd ((rd_T49 t561 a1).f1) 0))).heap[gb557]? = some (.cells #[.slice none 0 0, .slice none 0 0, .slice none 0 0] 31 (0, 0))) := ⟨by refine blk_far ?_ (by have h_ := Kx.N_away HO563.out (fun _ hk => hk.2.2.2.2.1); intro e_; exact h_ (by rw [e_]; rfl)) _; exact BK557.out⟩
       have n7_ : Aside0 ((w64.setCell ⟨go46, (a1 : Int).toNat * 3, none⟩ (.int .i64 (rd ((rd_T49 t561 a1).f1) 0))).heap[gb567]? = some (.cells #[.slice Ao56 t558.length co56, .slice (some ⟨go46, 0, none⟩) t561.length co60, .slice Ao61 t564.length co61] 31 (0, 0))) := ⟨by refine blk_far ?_ (by have h_ := Kx.N_away HO563.out (fun _ hk => hk.2.2.2.2.2); intro e_; exact h_ (by rw [e_]; rfl)) _; exact BK567.out⟩
       have n8_ : Aside0 (Below w.heap.size w (w64.setCell ⟨go46, (a1 : Int).toNat * 3, none⟩ (.int .i64 (rd ((rd_T49 t561 a1).f1) 0)))) := ⟨by repeat (first | (with_reducible first | exact HB.out | apply below_alloc | apply pw_below_drewN | apply below_drew1 | refine below_set ?_ GB46.out | refine below_set ?_ GE556.out | refine below_set ?_ GE557.out | refine below_set ?_ GE567.out) | exact HB.out)⟩
       (try clear HO560)
       (try clear HO563)
       (try clear HO566)
       (try clear HL568_1)
       (try clear HL595_1)
       (try clear BK556)
       (try clear BK557)
       (try clear BK567)
       (try clear HB)
       generalize (w64.setCell ⟨go46, (a1 : Int).toNat * 3, none⟩ (.int .i64 (rd ((rd_T49 t561 a1).f1) 0))) = w66 at n0_ n1_ n2_ n3_ n4_ n5_ n6_ n7_ n8_ ⊢
       have HO560 := n0_
       have HO563 := n1_
       have HO566 := n2_
       have HL568_1 := n3_
       have HL595_1 := n4_
       have BK556 := n5_
       have BK557 := n6_
       have BK567 := n7_
       have HB := n8_
       clear n0_ n1_ n2_ n3_ n4_ n5_ n6_ n7_ n8_
       try go_wp2
       have n0_ := Aside0.mk (Kd.R_drew HO560.out)
       have n1_ := Aside0.mk (Kx.N_drew HO563.out)
       have n2_ := Aside0.mk (Kd.R_drew HO566.out)
       have n3_ := Aside0.mk (Kd.V_drew HL568_1.out)
       have n4_ := Aside0.mk (Kd.V_drew HL595_1.out)
       have n5_ := Aside0.mk (blk_drew BK556.out)
       have n6_ := Aside0.mk (blk_drew BK557.out)
       have n7_ := Aside0.mk (blk_drew BK567.out)
       have n8_ := Aside0.mk (below_drew1 HB.out)
       clear HO560
       clear HO563
       clear HO566
       clear HL568_1
       clear HL595_1
       clear BK556
       clear BK557
       clear BK567
       clear HB
       have HO560 := n0_
       have HO563 := n1_
       have HO566 := n2_
       have HL568_1 := n3_
       have HL595_1 := n4_
       have BK556 := n5_
       have BK557 := n6_
       have BK567 := n7_
       have HB := n8_
       clear n0_ n1_ n2_ n3_ n4_ n5_ n6_ n7_ n8_
       have p598 : 0 ≤ (a1 : Int) := of_decide_eq_true (by assumption)
       have q598 : a1 < (y597.length : Int) := (by have h_ : (a1 : Int) < ((t561.length : Int) : Int) := of_decide_eq_true (by assumption); first | (have e_ := (Kx.N_reads' HO563.out).1; omega) | simpa only [Ny597.out, List.length_set] using h_)
       have ql598 : ((a1 : Int) < ((t561.length : Int) : Int)) = True := eq_true (of_decide_eq_true (by assumption))
       obtain ⟨ad598, A598_1, c598_1, e598, hx598_0, hx598_1, hx598_2, hl598_1, hi598_1⟩ := at_T49 (Kx.N_reads' HO563.out).2.2 a1 p598 q598
       obtain rfl : (⟨go46, 0, none⟩ : Addr) = ad598 := (by injection e598)
       obtain ⟨ce598, hce598, hMe598, hcc598⟩ := Kx.N_get HO563.out z49 a1 p598 (by first | exact q598 | exact of_decide_eq_true (by assumption) | (have e_ := (Kx.N_reads' HO563.out).1; omega))
       obtain ⟨ua598_1, uc598_1, rfl, ul598_1, ge598_1⟩ := k49_openF hMe598
       have hv598_1 := hcc598 1 _ rfl
       rw [add_field _ _ 1 (by omega)] at hv598_1
       replace hv598_1 := Option.some.inj (hv598_1.symm.trans hx598_1)
       injection hv598_1 with hva_ hvn_ hvc_
       rw [hva_] at ge598_1
       rw [hvc_] at ul598_1
       have HL598_1 := Aside0.mk (show Kd.V (Kd.int .i64) 3 _ w.heap.size _ _ ((rd_T49 y597 a1).f1) from Kd.V_mk ul598_1 ge598_1)
       clear hva_ hvn_ hvc_ ge598_1 ul598_1
       clear hcc598 hce598
       (first | simp only [add_plain] at hx598_0 | simp only [add_at] at hx598_0 | simp only [Addr.add, Nat.zero_add] at hx598_0 | skip)
       (first | simp only [add_plain] at hx598_1 | simp only [add_at] at hx598_1 | simp only [Addr.add, Nat.zero_add] at hx598_1 | skip)
       (first | simp only [add_plain] at hx598_2 | simp only [add_at] at hx598_2 | simp only [Addr.add, Nat.zero_add] at hx598_2 | skip)
       have HR598_1 := Aside0.mk hi598_1
       have HC598_1 := Aside0.mk hl598_1
       clear hi598_1 hl598_1
       replace p598 := eq_true p598
       replace q598 := eq_true q598
       have q68 : (1 : Int) ≤ ((((rd_T49 y597 a1).f1).length : Int) : Int) := of_decide_eq_true (by assumption)
       obtain ⟨i068, hi068, _, hsz68, _⟩ := info_parts info3
       have hroom68 : ((rd_T49 y597 a1).f1).length ≤ c598_1 := HC598_1.out
       have hC68 : Kd.F (Kd.int .i64) _ _ A598_1 ((rd_T49 y597 a1).f1).length ((rd_T49 y597 a1).f1) := (Kd.V_at (base := w.heap.size) HL598_1.out).2.2
       have hcut68 := cut_from (P := Try.prog) 23 3 .i64 Try.underlying23 hi068 1 hsz68 A598_1 ((rd_T49 y597 a1).f1).length c598_1 1 (by omega) q68
       have hr68 := Kd.F_cut (m := (1 : Int).toNat) (c := c598_1) hC68 (by omega) hroom68
       obtain ⟨A68, hA68⟩ : ∃ A1, A1 = (if c598_1 = (1 : Int).toNat then A598_1 else (A598_1 : Option Addr).map (·.add ((1 : Int).toNat * 1))) := ⟨_, rfl⟩
       obtain ⟨c68, hc68⟩ : ∃ c1, c1 = c598_1 - (1 : Int).toNat := ⟨_, rfl⟩
       have hy68 : y599.length = ((rd_T49 y597 a1).f1).length - (1 : Int).toNat := (by rw [Ny599.out, List.length_drop] <;> omega)
       rw [show ((rd_T49 y597 a1).f1).drop (1 : Int).toNat = y599 from Ny599.out.symm] at hr68
       replace hr68 : Kd.F (Kd.int .i64) _ _ A68 y599.length y599 := (by rw [hA68]; exact hr68)
       rw [← hy68, ← hA68, ← hc68] at hcut68
       have HO603 := Aside0.mk (show Kd.V (Kd.int .i64) 3 _ w.heap.size _ (.slice A68 y599.length c68) y599 from Kd.V_mk (by rw [hy68, hc68]; exact Nat.sub_le_sub_right hroom68 _) hr68)
       have HC603 := Aside0.mk (show y599.length ≤ c68 from by rw [hy68, hc68]; exact Nat.sub_le_sub_right hroom68 _)
       clear hr68 hC68 hroom68 hi068 hsz68 hc68
       have KY68 := Aside0.mk hy68
       have KA68 := Aside0.mk hA68
       clear hy68 hA68
       replace q68 := eq_true q68
       refine start_ (n := 14) (S := fun w' => w'.cell? ⟨gb567, 0, none⟩ = some (.slice Ao56 t558.length co56) ∧ w'.cell? ⟨gb567, 1, none⟩ = some (.slice (some ⟨go46, 0, none⟩) t561.length co60) ∧ w'.cell? ⟨gb567, 2, none⟩ = some (.slice Ao61 t564.length co61) ∧ w'.cell? ⟨go46, (a1).toNat * 3, none⟩ = some (.int .i64 ((rd_T49 y597 a1).f0)) ∧ w'.cell? ⟨go46, (a1).toNat * 3 + 1, none⟩ = some (.slice A598_1 ((rd_T49 y597 a1).f1).length c598_1) ∧ w'.cell? ⟨go46, (a1).toNat * 3 + 2, none⟩ = some (.int .i64 ((rd_T49 y597 a1).f2))) (ds := [13]) #[false, false, false, false, false, false, false, false, false, false, false, false, false, false] (by kernel_rfl) rfl rfl ⟨(blk_cell BK567.out 0).trans rfl, (blk_cell BK567.out 1).trans rfl, (blk_cell BK567.out 2).trans rfl, hx598_0, hx598_1, hx598_2⟩ (fun hHeld => ?_); refine with_tabW impl_step.tab7 impl_step.bits7 (fun HT_ HW_ => ?_)
       generalize w66.drew = w67 at HO560 HO563 HO566 HL568_1 HL595_1 BK556 BK557 BK567 HB HL598_1 HO603 HR598_1 hx598_0 hx598_1 hx598_2 hHeld ⊢
       refine pure_ (i := 0) (N := some 52) (v := ?_) (a' := ?_) #[true, false, false, false, false, false, false, false, false, false, false, false, false, false] rfl rfl (any_of HT_.out (by kernel_rfl)) (fun _ _ _ h => h) (Or.inl ⟨by rfl, ?_⟩) ?_ ?_
       rotate_left
       ·intro w'
        go_simp
        with_reducible rfl
       rotate_left
       ·simp only [Act.put, List.setIfInBounds_toArray, List.set_cons_zero, List.set_cons_succ, i64_w, i32_w]
        rfl
       refine pure_ (i := 2) (N := some 54) (v := ?_) (a' := ?_) #[true, false, true, false, false, false, false, false, false, false, false, false, false, false] rfl rfl (any_of HT_.out (by kernel_rfl)) (fun _ _ _ h => h) (Or.inl ⟨by rfl, ?_⟩) ?_ ?_
       rotate_left
       ·intro w'
        go_simp
        with_reducible rfl
       rotate_left
       ·simp only [Act.put, List.setIfInBounds_toArray, List.set_cons_zero, List.set_cons_succ, i64_w, i32_w]
        rfl
       refine pure_ (i := 3) (N := some 55) (v := ?_) (a' := ?_) #[true, false, true, true, false, false, false, false, false, false, false, false, false, false] rfl rfl (any_of HT_.out (by kernel_rfl)) (fun _ _ _ h => h) (Or.inl ⟨by rfl, ?_⟩) ?_ ?_
       rotate_left
       ·intro w'
        go_simp
        with_reducible rfl
       rotate_left
       ·simp only [Act.put, List.setIfInBounds_toArray, List.set_cons_zero, List.set_cons_succ, i64_w, i32_w]
        rfl
       refine pure_ (i := 5) (N := some 57) (v := ?_) (a' := ?_) #[true, false, true, true, false, true, false, false, false, false, false, false, false, false] rfl rfl (any_of HT_.out (by kernel_rfl)) (fun _ _ _ h => h) (Or.inl ⟨by rfl, ?_⟩) ?_ ?_
       rotate_left
       ·intro w'
        go_simp
        with_reducible rfl
       rotate_left
       ·simp only [Act.put, List.setIfInBounds_toArray, List.set_cons_zero, List.set_cons_succ, i64_w, i32_w]
        rfl
       refine take_ (i := 1) (N := some 53) (v := ?_) (a' := ?_) #[true, true, true, true, false, true, false, false, false, false, false, false, false, false] rfl rfl (take_ofW HT_.out HW_.out (by kernel_rfl)) (fun _ _ _ h => h) (Or.inl ⟨by rfl, ?_⟩) hHeld ?_ ?_
       rotate_left
       ·rintro w' ⟨s0, s1, s2, s3, s4, s5⟩
        go_simp
        with_reducible rfl
       rotate_left
       ·simp only [Act.put, List.setIfInBounds_toArray, List.set_cons_zero, List.set_cons_succ, i64_w, i32_w]
        rfl
       refine take_ (i := 4) (N := some 56) (v := ?_) (a' := ?_) #[true, true, true, true, true, true, false, false, false, false, false, false, false, false] rfl rfl (take_ofW HT_.out HW_.out (by kernel_rfl)) (fun _ _ _ h => h) (Or.inl ⟨by rfl, ?_⟩) hHeld ?_ ?_
       rotate_left
       ·rintro w' ⟨s0, s1, s2, s3, s4, s5⟩
        go_simp
        with_reducible rfl
       rotate_left
       ·simp only [Act.put, List.setIfInBounds_toArray, List.set_cons_zero, List.set_cons_succ, i64_w, i32_w]
        rfl
       refine pure_ (i := 6) (N := some 58) (v := ?_) (a' := ?_) #[true, true, true, true, true, true, true, false, false, false, false, false, false, false] rfl rfl (any_of HT_.out (by kernel_rfl)) (fun _ _ _ h => h) (Or.inl ⟨by rfl, ?_⟩) ?_ ?_
       rotate_left
       ·intro w'
        go_simp
        with_reducible rfl
       rotate_left
       ·simp only [Act.put, List.setIfInBounds_toArray, List.set_cons_zero, List.set_cons_succ, i64_w, i32_w]
        rfl
       refine pure_ (i := 7) (N := some 59) (v := ?_) (a' := ?_) #[true, true, true, true, true, true, true, true, false, false, false, false, false, false] rfl rfl (any_of HT_.out (by kernel_rfl)) (fun _ _ _ h => h) (Or.inl ⟨by rfl, ?_⟩) ?_ ?_
       rotate_left
       ·intro w'
        go_simp
        with_reducible rfl
       rotate_left
       ·simp only [Act.put, List.setIfInBounds_toArray, List.set_cons_zero, List.set_cons_succ, i64_w, i32_w]
        rfl
       refine take_ (i := 8) (N := some 60) (v := ?_) (a' := ?_) #[true, true, true, true, true, true, true, true, true, false, false, false, false, false] rfl rfl (take_ofW HT_.out HW_.out (by kernel_rfl)) (fun _ _ _ h => h) (Or.inl ⟨by rfl, ?_⟩) hHeld ?_ ?_
       rotate_left
       ·rintro w' ⟨s0, s1, s2, s3, s4, s5⟩
        go_simp
        with_reducible rfl
       rotate_left
       ·simp only [Act.put, List.setIfInBounds_toArray, List.set_cons_zero, List.set_cons_succ, i64_w, i32_w]
        rfl
       refine pure_ (i := 9) (N := some 61) (v := ?_) (a' := ?_) #[true, true, true, true, true, true, true, true, true, true, false, false, false, false] rfl rfl (any_of HT_.out (by kernel_rfl)) (fun _ _ _ h => h) (Or.inl ⟨by rfl, ?_⟩) ?_ ?_
       rotate_left
       ·intro w'
        go_simp
        with_reducible rfl
       rotate_left
       ·simp only [Act.put, List.setIfInBounds_toArray, List.set_cons_zero, List.set_cons_succ, i64_w, i32_w]
        rfl
       refine one_ (i := 10) (N := some 62) #[true, true, true, true, true, true, true, true, true, true, true, false, false, false] rfl rfl (one_of HT_.out (by kernel_rfl)) (by decide) (fun K hK => ?_)
       refine Kd.R_append_rows_step (Kd.int .i64) (w0 := w) w.heap.size (by rfl) (.const (.slice none 0 0)) (.tmp 61) 23 3 (.int .i64 0) 8 rfl Try.underlying23 info3 rfl (by decide) (by omega) (.slice none 0 0) ([] : List Int) y599 _ _ _ (fun k_ => (w.heap.size ≤ k_) ∧ some k_ ≠ (.slice Ao56 t558.length co56 : Value).ownBlock ∧ some k_ ≠ (.slice Ao61 t564.length co61 : Value).ownBlock) (fun _ => False) rfl rfl ?aO ?aR (fun _ _ h => h) (fun _ h => h.elim) ?aF ?aB ?aS ?aL ?_
       (case aR => repeat (first | exact (Kd.V_reads' HO603.out).2.2 | (with_reducible refine Kd.C_alloc ?_ _) | (with_reducible refine Kd.C_drewN ?_ _) | (with_reducible refine Kd.C_drew ?_)))
       (case aB => exact (by exact HB.out))
       (case aF => exact (fun k_ hk => ⟨(Nat.le_trans (below_size (by exact HB.out)) hk), Kd.fresh' (Kd.R_lt (by exact HO560.out)) k_ hk, Kd.fresh' (Kd.R_lt (by exact HO566.out)) k_ hk⟩))
       (case aO => exact ((Kd.R_nil _ _ _ _ (fun k_ => (w.heap.size ≤ k_) ∧ some k_ ≠ (.slice Ao56 t558.length co56 : Value).ownBlock ∧ some k_ ≠ (.slice Ao61 t564.length co61 : Value).ownBlock))))
       (case aS => exact (below_size (by exact HB.out)))
       (case aL => have := LMc48.out; omega)
       intro v605 w69 ho hb hg hat
       rw [← Ny604.out] at ho
       obtain ⟨Az_v605, cz_v605, rfl⟩ := Kd.R_slice ho
       have hHN_ : w69.cell? ⟨gb567, 0, none⟩ = some (.slice Ao56 t558.length co56) ∧ w69.cell? ⟨gb567, 1, none⟩ = some (.slice (some ⟨go46, 0, none⟩) t561.length co60) ∧ w69.cell? ⟨gb567, 2, none⟩ = some (.slice Ao61 t564.length co61) ∧ w69.cell? ⟨go46, (a1).toNat * 3, none⟩ = some (.int .i64 ((rd_T49 y597 a1).f0)) ∧ w69.cell? ⟨go46, (a1).toNat * 3 + 1, none⟩ = some (.slice A598_1 ((rd_T49 y597 a1).f1).length c598_1) ∧ w69.cell? ⟨go46, (a1).toNat * 3 + 2, none⟩ = some (.int .i64 ((rd_T49 y597 a1).f2)) := ⟨(hg.cell_far (⟨gb567, 0, none⟩ : Addr) (blk_lt BK567.out) (by simp [Value.ownBlock])).trans hHeld.1, (hg.cell_far (⟨gb567, 1, none⟩ : Addr) (blk_lt BK567.out) (by simp [Value.ownBlock])).trans hHeld.2.1, (hg.cell_far (⟨gb567, 2, none⟩ : Addr) (blk_lt BK567.out) (by simp [Value.ownBlock])).trans hHeld.2.2.1, (hg.cell_far (⟨go46, (a1).toNat * 3, none⟩ : Addr) (Kx.N_lt HO563.out _ rfl) (by simp [Value.ownBlock])).trans hHeld.2.2.2.1, (hg.cell_far (⟨go46, (a1).toNat * 3 + 1, none⟩ : Addr) (Kx.N_lt HO563.out _ rfl) (by simp [Value.ownBlock])).trans hHeld.2.2.2.2.1, (hg.cell_far (⟨go46, (a1).toNat * 3 + 2, none⟩ : Addr) (Kx.N_lt HO563.out _ rfl) (by simp [Value.ownBlock])).trans hHeld.2.2.2.2.2⟩
       have n0_ := Aside0.mk (blk_grown (g := gb556) (o := .cells #[.slice A0_0 l0_0.length c0_0, .slice A0_1 l0_1.length c0_1, .slice A0_2 l0_2.length c0_2] 31 (0, 0)) (by exact BK556.out) hg (by simp [Value.ownBlock]))
       have n1_ := Aside0.mk (blk_grown (g := gb557) (o := .cells #[.slice none 0 0, .slice none 0 0, .slice none 0 0] 31 (0, 0)) (by exact BK557.out) hg (by simp [Value.ownBlock]))
       have n2_ := Aside0.mk (Kd.R_after (Kd.R_apart_nil (by exact HO560.out)) hg hat)
       have n3_ := Aside0.mk (Kx.N_afterv (Kx.N_apart_nil (by exact HO563.out)) hg hat)
       have n4_ := Aside0.mk (Kd.R_after (Kd.R_apart_nil (by exact HO566.out)) hg hat)
       have n5_ := Aside0.mk (blk_grown (g := gb567) (o := .cells #[.slice Ao56 t558.length co56, .slice (some ⟨go46, 0, none⟩) t561.length co60, .slice Ao61 t564.length co61] 31 (0, 0)) (by exact BK567.out) hg (by simp [Value.ownBlock]))
       have n6_ := Aside0.mk (Kd.V_afterv (Kd.V_apart_nil (by exact HL568_1.out)) hg hat)
       have n7_ := Aside0.mk (Kd.V_afterv (Kd.V_apart_nil (by exact HL595_1.out)) hg hat)
       have n8_ := Aside0.mk (Kd.V_afterv (Kd.V_apart_nil (by exact HL598_1.out)) hg hat)
       have n9_ := Aside0.mk (Kd.V_afterv (Kd.V_apart_nil (by exact HO603.out)) hg hat)
       have n10_ := Aside0.mk (hb)
       have n11_ := Aside0.mk (ho)
       clear BK556
       clear BK557
       clear HO560
       clear HO563
       clear HO566
       clear BK567
       clear HL568_1
       clear HL595_1
       clear HL598_1
       clear HO603
       clear HB
       have BK556 := n0_
       have BK557 := n1_
       have HO560 := n2_
       have HO563 := n3_
       have HO566 := n4_
       have BK567 := n5_
       have HL568_1 := n6_
       have HL595_1 := n7_
       have HL598_1 := n8_
       have HO603 := n9_
       have HB := n10_
       have HO606 := n11_
       clear n0_ n1_ n2_ n3_ n4_ n5_ n6_ n7_ n8_ n9_ n10_ n11_
       clear ho hb hg hat
       have p49 : 0 ≤ (a1 : Int) := of_decide_eq_true (by assumption)
       have q49 : (a1 : Int) < ((t561.length : Int) : Int) := of_decide_eq_true (by assumption)
       obtain ⟨ce49, hcl49, hM49, hcc49, hfr49⟩ := Kx.N_elem HO563.out z49 (a1 : Int) p49 q49
       obtain ⟨ua49_1, uc49_1, rfl, ul49_1, ge49_1⟩ := k49_openF hM49
       have hx49_0 : World.cell? _ ⟨go46, (a1 : Int).toNat * 3, none⟩ = some (.int .i64 ((rd_T49 y597 a1).f0)) := hcc49 0 _ rfl
       have hx49_1 : World.cell? _ ⟨go46, (a1 : Int).toNat * 3 + 1, none⟩ = some (.slice ua49_1 ((rd_T49 y597 a1).f1).length uc49_1) := hcc49 1 _ rfl
       have hx49_2 : World.cell? _ ⟨go46, (a1 : Int).toNat * 3 + 2, none⟩ = some (.int .i64 ((rd_T49 y597 a1).f2)) := hcc49 2 _ rfl
       have hf49_0 : World.frozen? _ ⟨go46, (a1 : Int).toNat * 3, none⟩ = false := hfr49 0
       have hf49_1 : World.frozen? _ ⟨go46, (a1 : Int).toNat * 3 + 1, none⟩ = false := hfr49 1
       have hf49_2 : World.frozen? _ ⟨go46, (a1 : Int).toNat * 3 + 2, none⟩ = false := hfr49 2
       clear hcl49 hcc49 hfr49 hM49
       replace p49 := eq_true p49
       replace q49 := eq_true q49
       have HX70 := Aside0.mk (show Kd.S k49 49 _ w.heap.size (fun k_ => (w.heap.size ≤ k_) ∧ some k_ ≠ (.slice Ao56 t558.length co56 : Value).ownBlock ∧ some k_ ≠ (.slice Ao61 t564.length co61 : Value).ownBlock ∧ some k_ ≠ ((.slice Az_v605 y604.length cz_v605 : Value) : Value).ownBlock ∧ k_ ≠ gb556 ∧ k_ ≠ gb557 ∧ k_ ≠ gb567) (.slice (some ⟨go46, 0, none⟩) t561.length co60) y597 from (Kx.N_mono (HO563.out) (fun k_ hk => ⟨hk.1.1, ⟨hk.1.2.1, ⟨hk.1.2.2.1, ⟨hk.2, ⟨hk.1.2.2.2.1, ⟨hk.1.2.2.2.2.1, hk.1.2.2.2.2.2⟩⟩⟩⟩⟩⟩)))
       replace HX70 := Aside0.mk (show Kd.S k49 49 _ w.heap.size (fun k_ => (w.heap.size ≤ k_) ∧ some k_ ≠ (.slice Ao56 t558.length co56 : Value).ownBlock ∧ some k_ ≠ (.slice Ao61 t564.length co61 : Value).ownBlock ∧ k_ ≠ gb556 ∧ k_ ≠ gb557 ∧ k_ ≠ gb567) (.slice (some ⟨go46, 0, none⟩) t561.length co60) y597 from Kx.N_mono HX70.out (fun k_ hk => ⟨hk.1, ⟨hk.2.1, ⟨hk.2.2.1, ⟨hk.2.2.2.2.1, ⟨hk.2.2.2.2.2.1, hk.2.2.2.2.2.2⟩⟩⟩⟩⟩))
       obtain ⟨ce70, hcl70, hM70, hcc70, hfr70⟩ := Kx.N_elem HX70.out z49 (a1 : Int) (of_decide_eq_true (by assumption)) (by have h_ : (a1 : Int) < ((t561.length : Int) : Int) := of_decide_eq_true (by assumption); first | exact h_ | (have e_ := (Kx.N_reads' HO563.out).1; omega) | simpa using h_)
       obtain ⟨ua70_1, uc70_1, rfl, ul70_1, ge70_1⟩ := k49_openF hM70
       have RM_ := (Kd.R_mono (ok' := (fun k_ => ((fun k_ => (w.heap.size ≤ k_) ∧ some k_ ≠ (.slice Ao56 t558.length co56 : Value).ownBlock ∧ some k_ ≠ (.slice Ao61 t564.length co61 : Value).ownBlock ∧ k_ ≠ gb556 ∧ k_ ≠ gb557 ∧ k_ ≠ gb567)) k_ ∧ k_ ≠ go46)) (Kd.R_types (Kd.R_types (Kd.R_types (Kd.R_apart' (HO606.out) (Kx.N_typed HO563.out) (by decide)) BK556.out (by decide)) BK557.out (by decide)) BK567.out (by decide)) (fun k_ hk => ⟨⟨hk.1.1.1.1.1, ⟨hk.1.1.1.1.2.1, ⟨hk.1.1.1.1.2.2, ⟨hk.1.1.2, ⟨hk.1.2, hk.2⟩⟩⟩⟩⟩, fun e_ => (hk.1.1.1.2) (by rw [e_]; rfl)⟩))
       obtain ⟨okx70, cx70, hcx70, hMx70, hHx70⟩ := Kx.elem1 (ok := (fun k_ => (w.heap.size ≤ k_) ∧ some k_ ≠ (.slice Ao56 t558.length co56 : Value).ownBlock ∧ some k_ ≠ (.slice Ao61 t564.length co61 : Value).ownBlock ∧ k_ ≠ gb556 ∧ k_ ≠ gb557 ∧ k_ ≠ gb567)) (okg := fun k => some k = ((.slice Az_v605 y604.length cz_v605 : Value) : Value).ownBlock) HO563.out z49 (a1 : Int) (of_decide_eq_true (by assumption)) (by have h_ : (a1 : Int) < ((t561.length : Int) : Int) := of_decide_eq_true (by assumption); first | exact h_ | (have e_ := (Kx.N_reads' HO563.out).1; omega) | simpa using h_)
       obtain ⟨vx70, rfl, gx70⟩ := k49_openM hMx70
       have HP70 := (Kd.S_seg (okp := fun k => some k = ((.slice Az_v605 y604.length cz_v605 : Value) : Value).ownBlock) hHx70 (of_decide_eq_true (by assumption)) (by have h_ : (a1 : Int) < ((t561.length : Int) : Int) := of_decide_eq_true (by assumption); first | exact h_ | (have e_ := (Kx.N_reads' HO563.out).1; omega) | simpa using h_) (seg := [(.slice Az_v605 y604.length cz_v605 : Value)]) (j := 1) (show 1 + 1 ≤ 3 from by omega) (x' := (⟨(rd_T49 y597 a1).f0, y604, (rd_T49 y597 a1).f2⟩ : S49)) (k49_mkM _ _ _ (⟨(rd_T49 y597 a1).f0, y604, (rd_T49 y597 a1).f2⟩ : S49) (Kd.R_tight rfl HO606.out)) (fun k hk => .inr hk) (fun k hk => RM_.1 k hk.symm)).1
       clear RM_
       rw [← Ny607.out] at HP70
       have HQ70 := Aside0.mk HP70
       clear hcl70 hcc70 hfr70 hM70 HP70
       refine hK.out _ _ hHN_ (fun hHeld => ?_)
       clear hK K
       refine norm_ (a' := ?_) ?_ ?_
       rotate_left
       ·show Act.put _ (some 62) _ = _
        simp only [Act.put, List.setIfInBounds_toArray, List.set_cons_zero, List.set_cons_succ, i64_w, i32_w]
        rfl
       refine pure_ (i := 11) (N := some 63) (v := ?_) (a' := ?_) #[true, true, true, true, true, true, true, true, true, true, true, true, false, false] rfl rfl (any_of HT_.out (by kernel_rfl)) (fun _ _ _ h => h) (Or.inl ⟨by rfl, ?_⟩) ?_ ?_
       rotate_left
       ·intro w'
        go_simp
        with_reducible rfl
       rotate_left
       ·simp only [Act.put, List.setIfInBounds_toArray, List.set_cons_zero, List.set_cons_succ, i64_w, i32_w]
        rfl
       refine pure_ (i := 12) (N := some 64) (v := ?_) (a' := ?_) #[true, true, true, true, true, true, true, true, true, true, true, true, true, false] rfl rfl (any_of HT_.out (by kernel_rfl)) (fun _ _ _ h => h) (Or.inl ⟨by rfl, ?_⟩) ?_ ?_
       rotate_left
       ·intro w'
        go_simp
        with_reducible rfl
       rotate_left
       ·simp only [Act.put, List.setIfInBounds_toArray, List.set_cons_zero, List.set_cons_succ, i64_w, i32_w]
        rfl
       refine last_ (i := 13) (N := none) #[true, true, true, true, true, true, true, true, true, true, true, true, true, true] rfl rfl (one_of HT_.out (by kernel_rfl)) (by decide) (fun K hK => ?_)
       refine skip_ (w1 := ?_) (by rfl) rfl ?_ ?_
       rotate_left
       ·go_simp
        rfl
       refine hK.out _ _ ?_
       clear hK K
       refine done_ (done_of HT_.out (by kernel_rfl)) ?_
       obtain ⟨clz_, GGz_⟩ := Kx.N_typed HO563.out go46 rfl
       have GG46 := Aside0.mk GGz_
       have n0_ : Aside0 (Kd.R (Kd.int .i64) 3 (w69.setCell ⟨go46, (a1 : Int).toNat * 3 + 1, none⟩ ((.slice Az_v605 y604.length cz_v605 : Value))) w.heap.size (fun k_ => (w.heap.size ≤ k_) ∧ some k_ ≠ (.slice Ao61 t564.length co61 : Value).ownBlock) (.slice Ao56 t558.length co56) t558) := ⟨by exact Kd.R_mono (Kd.R_far (p := ⟨go46, (a1 : Int).toNat * 3 + 1, none⟩) (Kd.R_types HO560.out GG46.out (by decide)) (fun _ hk => hk.2) ((.slice Az_v605 y604.length cz_v605 : Value))) (fun _ hk => ⟨hk.1.1.1, hk.1.1.2⟩)⟩
       have n1_ : Aside0 (Kd.S k49 49 (w69.setCell ⟨go46, (a1 : Int).toNat * 3 + 1, none⟩ ((.slice Az_v605 y604.length cz_v605 : Value))) w.heap.size (fun k_ => (w.heap.size ≤ k_) ∧ some k_ ≠ (.slice Ao56 t558.length co56 : Value).ownBlock ∧ some k_ ≠ (.slice Ao61 t564.length co61 : Value).ownBlock ∧ k_ ≠ gb556 ∧ k_ ≠ gb557 ∧ k_ ≠ gb567) (.slice (some ⟨go46, 0, none⟩) t561.length co60) y607) := ⟨by exact HQ70.out⟩
       have n2_ : Aside0 (Kd.R (Kd.int .i64) 3 (w69.setCell ⟨go46, (a1 : Int).toNat * 3 + 1, none⟩ ((.slice Az_v605 y604.length cz_v605 : Value))) w.heap.size (fun k_ => (w.heap.size ≤ k_) ∧ some k_ ≠ (.slice Ao56 t558.length co56 : Value).ownBlock) (.slice Ao61 t564.length co61) t564) := ⟨by exact Kd.R_mono (Kd.R_far (p := ⟨go46, (a1 : Int).toNat * 3 + 1, none⟩) (Kd.R_types HO566.out GG46.out (by decide)) (fun _ hk => hk.2) ((.slice Az_v605 y604.length cz_v605 : Value))) (fun _ hk => ⟨hk.1.1.1, hk.1.1.2⟩)⟩
       have n3_ : Aside0 (Kd.V (Kd.int .i64) 3 (w69.setCell ⟨go46, (a1 : Int).toNat * 3 + 1, none⟩ ((.slice Az_v605 y604.length cz_v605 : Value))) w.heap.size (fun k_ => (w.heap.size ≤ k_) ∧ some k_ ≠ (.slice Ao56 t558.length co56 : Value).ownBlock ∧ some k_ ≠ (.slice (some ⟨go46, 0, none⟩) t561.length co60 : Value).ownBlock ∧ some k_ ≠ (.slice Ao61 t564.length co61 : Value).ownBlock ∧ k_ ≠ gb556 ∧ k_ ≠ gb557 ∧ k_ ≠ gb567) (.slice A568_1 ((rd_T49 t561 a1).f1).length c568_1) ((rd_T49 t561 a1).f1)) := ⟨by exact Kd.V_mono (Kd.V_far (p := ⟨go46, (a1 : Int).toNat * 3 + 1, none⟩) (Kd.V_mono HL568_1.out (fun k_ hk => (⟨hk, fun e_ => hk.1.2.2.1 (by rw [e_]; rfl)⟩ : _ ∧ k_ ≠ go46))) (fun _ hk => hk.2) ((.slice Az_v605 y604.length cz_v605 : Value))) (fun _ hk => ⟨hk.1.1.1, ⟨hk.1.1.2.1, ⟨hk.1.1.2.2.1, ⟨hk.1.1.2.2.2.1, ⟨hk.1.1.2.2.2.2.1, ⟨hk.1.1.2.2.2.2.2.1, hk.1.1.2.2.2.2.2.2⟩⟩⟩⟩⟩⟩)⟩
       have n4_ : Aside0 (Kd.V (Kd.int .i64) 3 (w69.setCell ⟨go46, (a1 : Int).toNat * 3 + 1, none⟩ ((.slice Az_v605 y604.length cz_v605 : Value))) w.heap.size (fun k_ => (w.heap.size ≤ k_) ∧ some k_ ≠ (.slice Ao56 t558.length co56 : Value).ownBlock ∧ some k_ ≠ (.slice (some ⟨go46, 0, none⟩) t561.length co60 : Value).ownBlock ∧ some k_ ≠ (.slice Ao61 t564.length co61 : Value).ownBlock ∧ k_ ≠ gb556 ∧ k_ ≠ gb557 ∧ k_ ≠ gb567) (.slice (some ad596) ((rd_T49 t561 a1).f1).length c595_1) ((rd_T49 t561 a1).f1)) := ⟨by exact Kd.V_mono (Kd.V_far (p := ⟨go46, (a1 : Int).toNat * 3 + 1, none⟩) (Kd.V_mono HL595_1.out (fun k_ hk => (⟨hk, fun e_ => hk.1.2.2.1 (by rw [e_]; rfl)⟩ : _ ∧ k_ ≠ go46))) (fun _ hk => hk.2) ((.slice Az_v605 y604.length cz_v605 : Value))) (fun _ hk => ⟨hk.1.1.1, ⟨hk.1.1.2.1, ⟨hk.1.1.2.2.1, ⟨hk.1.1.2.2.2.1, ⟨hk.1.1.2.2.2.2.1, ⟨hk.1.1.2.2.2.2.2.1, hk.1.1.2.2.2.2.2.2⟩⟩⟩⟩⟩⟩)⟩
       have n5_ : Aside0 (Kd.V (Kd.int .i64) 3 (w69.setCell ⟨go46, (a1 : Int).toNat * 3 + 1, none⟩ ((.slice Az_v605 y604.length cz_v605 : Value))) w.heap.size (fun k_ => (w.heap.size ≤ k_) ∧ some k_ ≠ (.slice Ao56 t558.length co56 : Value).ownBlock ∧ some k_ ≠ (.slice (some ⟨go46, 0, none⟩) t561.length co60 : Value).ownBlock ∧ some k_ ≠ (.slice Ao61 t564.length co61 : Value).ownBlock ∧ k_ ≠ gb556 ∧ k_ ≠ gb557 ∧ k_ ≠ gb567) (.slice A598_1 ((rd_T49 y597 a1).f1).length c598_1) ((rd_T49 y597 a1).f1)) := ⟨by exact Kd.V_mono (Kd.V_far (p := ⟨go46, (a1 : Int).toNat * 3 + 1, none⟩) (Kd.V_mono HL598_1.out (fun k_ hk => (⟨hk, fun e_ => hk.1.2 (by rw [e_]; rfl)⟩ : _ ∧ k_ ≠ go46))) (fun _ hk => hk.2) ((.slice Az_v605 y604.length cz_v605 : Value))) (fun _ hk => ⟨hk.1.1.1.1, ⟨hk.1.1.1.2.1, ⟨hk.1.1.2, ⟨hk.1.1.1.2.2.1, ⟨hk.1.1.1.2.2.2.1, ⟨hk.1.1.1.2.2.2.2.1, hk.1.1.1.2.2.2.2.2⟩⟩⟩⟩⟩⟩)⟩
       have n6_ : Aside0 (Kd.V (Kd.int .i64) 3 (w69.setCell ⟨go46, (a1 : Int).toNat * 3 + 1, none⟩ ((.slice Az_v605 y604.length cz_v605 : Value))) w.heap.size (fun k_ => (w.heap.size ≤ k_) ∧ some k_ ≠ (.slice Ao56 t558.length co56 : Value).ownBlock ∧ some k_ ≠ (.slice (some ⟨go46, 0, none⟩) t561.length co60 : Value).ownBlock ∧ some k_ ≠ (.slice Ao61 t564.length co61 : Value).ownBlock ∧ k_ ≠ gb556 ∧ k_ ≠ gb557 ∧ k_ ≠ gb567) (.slice A68 y599.length c68) y599) := ⟨by exact Kd.V_mono (Kd.V_far (p := ⟨go46, (a1 : Int).toNat * 3 + 1, none⟩) (Kd.V_mono HO603.out (fun k_ hk => (⟨hk, fun e_ => hk.1.2 (by rw [e_]; rfl)⟩ : _ ∧ k_ ≠ go46))) (fun _ hk => hk.2) ((.slice Az_v605 y604.length cz_v605 : Value))) (fun _ hk => ⟨hk.1.1.1.1, ⟨hk.1.1.1.2.1, ⟨hk.1.1.2, ⟨hk.1.1.1.2.2.1, ⟨hk.1.1.1.2.2.2.1, ⟨hk.1.1.1.2.2.2.2.1, hk.1.1.1.2.2.2.2.2⟩⟩⟩⟩⟩⟩)⟩
       have n7_ : Aside0 ((w69.setCell ⟨go46, (a1 : Int).toNat * 3 + 1, none⟩ ((.slice Az_v605 y604.length cz_v605 : Value))).heap[gb556]? = some (.cells #[.slice A0_0 l0_0.length c0_0, .slice A0_1 l0_1.length c0_1, .slice A0_2 l0_2.length c0_2] 31 (0, 0))) := ⟨by refine blk_far ?_ (by have h_ := Kx.N_away HX70.out (fun _ hk => hk.2.2.2.1); intro e_; exact h_ (by rw [e_]; rfl)) _; exact BK556.out⟩
       have n8_ : Aside0 ((w69.setCell ⟨go46, (a1 : Int).toNat * 3 + 1, none⟩ ((.slice Az_v605 y604.length cz_v605 : Value))).heap[gb557]? = some (.cells #[.slice none 0 0, .slice none 0 0, .slice none 0 0] 31 (0, 0))) := ⟨by refine blk_far ?_ (by have h_ := Kx.N_away HX70.out (fun _ hk => hk.2.2.2.2.1); intro e_; exact h_ (by rw [e_]; rfl)) _; exact BK557.out⟩
       have n9_ : Aside0 ((w69.setCell ⟨go46, (a1 : Int).toNat * 3 + 1, none⟩ ((.slice Az_v605 y604.length cz_v605 : Value))).heap[gb567]? = some (.cells #[.slice Ao56 t558.length co56, .slice (some ⟨go46, 0, none⟩) t561.length co60, .slice Ao61 t564.length co61] 31 (0, 0))) := ⟨by refine blk_far ?_ (by have h_ := Kx.N_away HX70.out (fun _ hk => hk.2.2.2.2.2); intro e_; exact h_ (by rw [e_]; rfl)) _; exact BK567.out⟩
       have n10_ : Aside0 (Below w.heap.size w (w69.setCell ⟨go46, (a1 : Int).toNat * 3 + 1, none⟩ ((.slice Az_v605 y604.length cz_v605 : Value)))) := ⟨by repeat (first | (with_reducible first | exact HB.out | apply below_alloc | apply pw_below_drewN | apply below_drew1 | refine below_set ?_ GB46.out | refine below_set ?_ GE556.out | refine below_set ?_ GE557.out | refine below_set ?_ GE567.out) | exact HB.out)⟩
       (try clear HO560)
       (try clear HO563)
       (try clear HO566)
       (try clear HL568_1)
       (try clear HL595_1)
       (try clear HL598_1)
       (try clear HO603)
       (try clear BK556)
       (try clear BK557)
       (try clear BK567)
       (try clear HB)
       generalize (w69.setCell ⟨go46, (a1 : Int).toNat * 3 + 1, none⟩ ((.slice Az_v605 y604.length cz_v605 : Value))) = w71 at n0_ n1_ n2_ n3_ n4_ n5_ n6_ n7_ n8_ n9_ n10_ ⊢
       have HO560 := n0_
       have HO563 := n1_
       have HO566 := n2_
       have HL568_1 := n3_
       have HL595_1 := n4_
       have HL598_1 := n5_
       have HO603 := n6_
       have BK556 := n7_
       have BK557 := n8_
       have BK567 := n9_
       have HB := n10_
       clear n0_ n1_ n2_ n3_ n4_ n5_ n6_ n7_ n8_ n9_ n10_
       have hcz72_0 : w71.cell? ⟨gb567, 0, none⟩ = some (.slice Ao56 t558.length co56) := (blk_cell BK567.out 0).trans rfl
       have hcz72_1 : w71.cell? ⟨gb567, 1, none⟩ = some (.slice (some ⟨go46, 0, none⟩) t561.length co60) := (blk_cell BK567.out 1).trans rfl
       have hcz72_2 : w71.cell? ⟨gb567, 2, none⟩ = some (.slice Ao61 t564.length co61) := (blk_cell BK567.out 2).trans rfl
       have hfz72_0 := blk_frozen BK567.out 0
       have hfz72_1 := blk_frozen BK567.out 1
       have hfz72_2 := blk_frozen BK567.out 2
       have hcz73_0 : w71.cell? ⟨gb557, 0, none⟩ = some (.slice none 0 0) := (blk_cell BK557.out 0).trans rfl
       have hcz73_1 : w71.cell? ⟨gb557, 1, none⟩ = some (.slice none 0 0) := (blk_cell BK557.out 1).trans rfl
       have hcz73_2 : w71.cell? ⟨gb557, 2, none⟩ = some (.slice none 0 0) := (blk_cell BK557.out 2).trans rfl
       have hfz73_0 := blk_frozen BK557.out 0
       have hfz73_1 := blk_frozen BK557.out 1
       have hfz73_2 := blk_frozen BK557.out 2
       try go_wp2
       refine bodyPost_ret (results_cell_row rfl _ _ gb557 31 #[.slice Ao56 t558.length co56, .slice (some ⟨go46, 0, none⟩) t561.length co60, .slice Ao61 t564.length co61] (0, 0) _ rfl (by refine blk_put (cs := #[.slice Ao56 t558.length co56, .slice (some ⟨go46, 0, none⟩) t561.length co60, .slice none 0 0]) ?_ 2 _ rfl; refine blk_put (cs := #[.slice Ao56 t558.length co56, .slice none 0 0, .slice none 0 0]) ?_ 1 _ rfl; refine blk_put (cs := #[.slice none 0 0, .slice none 0 0, .slice none 0 0]) ?_ 0 _ rfl; exact BK557.out) Try.underlying31 rfl (by kernel_rfl)) rfl ?_
       exact ⟨_, _, _, by first | rfl | (simp [errW_none, errW_some] <;> rfl) | (simp [*, errW_none, errW_some] <;> rfl), by exact Kd.R_mono (Kd.R_far (p := ⟨gb557, 2, none⟩) (Kd.R_far (p := ⟨gb557, 1, none⟩) (Kd.R_far (p := ⟨gb557, 0, none⟩) (Kd.R_types HO560.out BK557.out (by decide)) (fun _ hk => hk.2) (.slice Ao56 t558.length co56)) (fun _ hk => hk.2) (.slice (some ⟨go46, 0, none⟩) t561.length co60)) (fun _ hk => hk.2) (.slice Ao61 t564.length co61)) (fun _ hk => ⟨hk.1.1, hk.1.2⟩), by exact Kx.N_mono (Kx.N_far (p := ⟨gb557, 2, none⟩) (Kx.N_far (p := ⟨gb557, 1, none⟩) (Kx.N_far (p := ⟨gb557, 0, none⟩) (Kx.N_mono HO563.out (fun k_ hk => (⟨hk, hk.2.2.2.2.1⟩ : _ ∧ k_ ≠ gb557))) (fun _ hk => hk.2) (.slice Ao56 t558.length co56)) (fun _ hk => hk.2) (.slice (some ⟨go46, 0, none⟩) t561.length co60)) (fun _ hk => hk.2) (.slice Ao61 t564.length co61)) (fun _ hk => ⟨hk.1.1, ⟨hk.1.2.1, hk.1.2.2.1⟩⟩), by exact Kd.R_mono (Kd.R_far (p := ⟨gb557, 2, none⟩) (Kd.R_far (p := ⟨gb557, 1, none⟩) (Kd.R_far (p := ⟨gb557, 0, none⟩) (Kd.R_types HO566.out BK557.out (by decide)) (fun _ hk => hk.2) (.slice Ao56 t558.length co56)) (fun _ hk => hk.2) (.slice (some ⟨go46, 0, none⟩) t561.length co60)) (fun _ hk => hk.2) (.slice Ao61 t564.length co61)) (fun _ hk => ⟨hk.1.1, hk.1.2⟩), by repeat (first | (with_reducible first | exact HB.out | apply below_alloc | apply pw_below_drewN | apply below_drew1 | refine below_set ?_ GE556.out | refine below_set ?_ GE557.out | refine below_set ?_ GE567.out) | exact HB.out)⟩
      ·rw [if_neg c48] at H
       exact absurd H (by simp)
     ·rw [if_neg c47] at H
      exact absurd H (by simp)
    ·rw [if_neg c45] at H
     exact absurd H (by simp)
  ·rw [if_neg c5] at H
   exact absurd H (by simp)
 ·rw [if_neg c4] at H
  exact absurd H (by simp)

end Go.Proofs.Ytncckjibiffnaaa.Q
