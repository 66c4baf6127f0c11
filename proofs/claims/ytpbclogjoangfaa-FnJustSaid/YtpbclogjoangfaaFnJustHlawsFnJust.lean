-- Written by programs of this session (wip/drv.py, wip/hx.py) over the kit's print; not trusted: Lean checks it.
import Derived.Test.YtpbclogjoangfaaFnJustQ0
import Derived.Test.YtpbclogjoangfaaFnJustQ1
import Derived.Test.YtpbclogjoangfaaFnJustQ5
import Derived.Test.YtpbclogjoangfaaFnJustAl2
import Derived.Test.YtpbclogjoangfaaFnJustHkd
import Derived.Test.YtpbclogjoangfaaFnJustSo2
import Derived.Test.YtpbclogjoangfaaFnJustHke
import Derived.Test.YtpbclogjoangfaaFnJustSt0
import Derived.Test.YtpbclogjoangfaaFnJustH0
namespace Go.Proofs.Ytpbclogjoangfaa.Q
open Go.RowKit Go.Proofs.YtpbclogjoangfaaW.PrintWords Go.Proofs.YtpbclogjoangfaaW.PrintLast Go.Proofs.YtpbclogjoangfaaW.PrintMore
attribute [local go_sem] max2_int min2_int max_two min_two max_three min_three max_four min_four   -- for this text's walks alone
set_option linter.unusedVariables false
set_option linter.unusedSimpArgs false

open Go.Proofs.Ytpbclogjoangfaa.Al Go.Proofs.Ytpbclogjoangfaa.So Go.Proofs.Ytpbclogjoangfaa.St
/-! ### laws_FnJust: function 4 -/
mutual
def laws_FnJust.j0 : Nat → List Int → List Int → Bool → Option (Bool)
 | 0, _, _, _ => none
 | k + 1, x0, x1, x23 => if x23 = true then (some true) else ((spec_States.f k x0).bind fun bt603 => ((impl_Moves.f k bt603.1 bt603.2.1 bt603.2.2).bind fun t613 => ((impl_Allowed.f k bt603.1 bt603.2.1 bt603.2.2).bind fun t616 => ((spec_Moves.f k bt603.1 bt603.2.1 bt603.2.2).bind fun t619 => ((laws_wInts.f k t613 t619).bind fun t622 => (if t622 = true then (laws_FnJust.l0 k x1 t616 t613 (t613.length : Int) 0 bt603.1 bt603.2.1 bt603.2.2) else (some false)))))))
def laws_FnJust.l0 : Nat → List Int → List Int → List Int → Int → Int → List Int → List (S35) → List Int → Option (Bool)
 | 0, _, _, _, _, _, _, _, _ => none
 | k + 1, x1, x7, x35, x36, x37, x613000, x613001, x613002 => if x37 < x36 then (if 0 ≤ x37 then (if x37 < (x35.length : Int) then (laws_FnJust.l1 k x1 x7 x37 (rd x35 x37) false x35 x36 x37 x7 (x7.length : Int) 0 x613000 x613001 x613002) else (none)) else (none)) else (some true)
def laws_FnJust.l1 : Nat → List Int → List Int → Int → Int → Bool → List Int → Int → Int → List Int → Int → Int → List Int → List (S35) → List Int → Option (Bool)
 | 0, _, _, _, _, _, _, _, _, _, _, _, _, _, _ => none
 | k + 1, x1, x7, x8, x9, x10, x35, x36, x37, x42, x43, x44, x613000, x613001, x613002 => if x44 < x43 then (if 0 ≤ x44 then (if x44 < (x42.length : Int) then (if x10 = true then (laws_FnJust.l1 k x1 x7 x8 x9 true x35 x36 x37 x42 x43 (wrap64 (x44 + 1)) x613000 x613001 x613002) else (laws_FnJust.l1 k x1 x7 x8 x9 ((rd x42 x44) == x9) x35 x36 x37 x42 x43 (wrap64 (x44 + 1)) x613000 x613001 x613002)) else (none)) else (none)) else ((spec_Step.f k x613000 x613001 x613002 x9).bind fun bt625 => (if (bt625.2.1.length : Int) = 0 then (laws_FnJust.j3 k x1 x7 x8 x10 x35 x36 x37 (x10 != true) x613000 x613001 x613002 bt625.1 bt625.2.1 bt625.2.2) else ((impl_Solve.f k bt625.1 bt625.2.1 bt625.2.2).bind fun bt635 => (laws_FnJust.j3 k x1 x7 x8 x10 x35 x36 x37 (x10 != bt635.1) x613000 x613001 x613002 bt625.1 bt625.2.1 bt625.2.2))))
def laws_FnJust.j3 : Nat → List Int → List Int → Int → Bool → List Int → Int → Int → Bool → List Int → List (S35) → List Int → List Int → List (S35) → List Int → Option (Bool)
 | 0, _, _, _, _, _, _, _, _, _, _, _, _, _, _ => none
 | k + 1, x1, x7, x8, x10, x35, x36, x37, x68, x613000, x613001, x613002, x635000, x635001, x635002 => if x68 = true then (some false) else (laws_FnJust.l2 k x1 x7 x8 x10 0 x35 x36 x37 x613000 x613001 x613002 x635000 x635001 x635002)
def laws_FnJust.l2 : Nat → List Int → List Int → Int → Bool → Int → List Int → Int → Int → List Int → List (S35) → List Int → List Int → List (S35) → List Int → Option (Bool)
 | 0, _, _, _, _, _, _, _, _, _, _, _, _, _, _ => none
 | k + 1, x1, x7, x8, x10, x14, x35, x36, x37, x613000, x613001, x613002, x635000, x635001, x635002 => if x14 < 50 then (laws_FnJust.j5 k x1 x7 x8 x10 x14 x35 x36 x37 (decide ((x635001.length : Int) > 0)) x613000 x613001 x613002 x635000 x635001 x635002) else (laws_FnJust.j5 k x1 x7 x8 x10 x14 x35 x36 x37 false x613000 x613001 x613002 x635000 x635001 x635002)
def laws_FnJust.j5 : Nat → List Int → List Int → Int → Bool → Int → List Int → Int → Int → Bool → List Int → List (S35) → List Int → List Int → List (S35) → List Int → Option (Bool)
 | 0, _, _, _, _, _, _, _, _, _, _, _, _, _, _, _ => none
 | k + 1, x1, x7, x8, x10, x14, x35, x36, x37, x76, x613000, x613001, x613002, x635000, x635001, x635002 => if x76 = true then ((spec_Moves.f k x635000 x635001 x635002).bind fun t640 => (if (t640.length : Int) = 0 then (if (x635001.length : Int) = 0 then (if x10 = true then (laws_FnJust.l0 k x1 x7 x35 x36 (wrap64 (x37 + 1)) x613000 x613001 x613002) else (some false)) else (laws_FnJust.l0 k x1 x7 x35 x36 (wrap64 (x37 + 1)) x613000 x613001 x613002)) else ((laws_wByte.f x1 (wrap64 (x8 + x14))).bind fun t643 => (if 0 ≤ (Int.tmod t643 (t640.length : Int)) then (if (Int.tmod t643 (t640.length : Int)) < (t640.length : Int) then ((spec_Step.f k x635000 x635001 x635002 (rd t640 (Int.tmod t643 (t640.length : Int)))).bind fun bt645 => (laws_FnJust.l2 k x1 x7 x8 x10 (wrap64 (x14 + 1)) x35 x36 x37 x613000 x613001 x613002 bt645.1 bt645.2.1 bt645.2.2)) else (none)) else (none))))) else (if (x635001.length : Int) = 0 then (if x10 = true then (laws_FnJust.l0 k x1 x7 x35 x36 (wrap64 (x37 + 1)) x613000 x613001 x613002) else (some false)) else (laws_FnJust.l0 k x1 x7 x35 x36 (wrap64 (x37 + 1)) x613000 x613001 x613002))
end
def laws_FnJust.f (k : Nat) (l0 : List Int) (l1 : List Int) : Option (Bool) := if (l0.length : Int) > 1048576 then (laws_FnJust.j0 k l0 l1 true) else (laws_FnJust.j0 k l0 l1 (decide ((l1.length : Int) > 1048576)))
def laws_FnJust.T25 : Bool × List (List Nat × List Nat) := (true, [([], []), ([], []), ([], []), ([], []), ([], []), ([3, 4], [3, 4]), ([2, 5], [2, 5]), ([], []), ([7], [7]), ([6, 8], [6, 8]), ([1, 9], [1, 9]), ([10], [10]), ([0, 11, 6], [0, 11]), ([12, 12, 0, 1, 2, 3, 4, 5, 6, 7, 8, 9, 10, 11, 12], [12])])
def laws_FnJust.B25 : List Nat := [0, 0, 0, 0, 0, 24, 60, 0, 128, 508, 1022, 2046, 4095, 8191]
theorem laws_FnJust.tab25 : rtab .any (opsOf Try.f4 25) = laws_FnJust.T25 := by kernel_rfl
theorem laws_FnJust.bits25 : waitsOk laws_FnJust.T25.2 laws_FnJust.B25 = true := by kernel_rfl
set_option maxHeartbeats 8000000 in
set_option maxRecDepth 100000 in
theorem laws_FnJust.calls (k : Nat) (A0 : Option Addr) (c0 : Nat) (l0 : List Int) (A1 : Option Addr) (c1 : Nat) (l1 : List Int) (r : Bool) (w : World) (hr0 : Kd.C (Kd.int .u8) w A0 l0.length l0) (hc0 : l0.length ≤ c0) (hr1 : Kd.C (Kd.int .u8) w A1 l1.length l1) (hc1 : l1.length ≤ c1) (hT_ : Aside0 (r = true)) (h : laws_FnJust.f k l0 l1 = some r) :
  Calls Try.prog 4 #[.slice A0 l0.length c0, .slice A1 l1.length c1] w fun e w' => e = .returned (.bool r) ∧ Below w.heap.size w w' := by
 have hu41_ := @So.field41
 have hu410_ := @So.field41_0
 have hu412_ := @So.field41_2
 have hu26 := Try.underlying26
 have HR0 := Aside0.mk hr0
 have HC0 := Aside0.mk hc0
 clear hr0 hc0
 have HR1 := Aside0.mk hr1
 have HC1 := Aside0.mk hc1
 clear hr1 hc1
 have HB := Aside0.mk (Below.refl w.heap.size w)
 have H : (if (l0.length : Int) > 1048576 then (laws_FnJust.j0 k l0 l1 true) else (laws_FnJust.j0 k l0 l1 (decide ((l1.length : Int) > 1048576)))) = some r := h
 clear h
 have HC3 := Aside0.mk H
 clear H
 go_enter Try.func4, Try.ntmps4
 go_upto_region 1 with (fail)
 go_cut [23] (fun v23 wc => ∃ (kq : Nat) (x23_2 : Bool), v23 = .bool x23_2 ∧ Aside0 (laws_FnJust.j0 kq l0 l1 x23_2 = some r) ∧ Aside0 (kq ≤ k) ∧ Aside0 (Below w.heap.size w wc))
 case first =>
  have H := HC3.out
  clear HC3
  by_cases c4 : (l0.length : Int) > 1048576
  ·rw [if_pos c4] at H
   have c4b0 : decide (1048576 < (l0.length : Int)) = true := decide_eq_true c4
   have c4b1 : decide (1048576 < l0.length) = true := decide_eq_true (by omega)
   clear c4
   (first | rw [c4b0] | (simp only [i64_w, i32_w]; rw [c4b0]) | skip)
   have H' := Aside0.mk H
   clear H
   go_wp2
   go_meet
   case rel => exact ⟨_, (true), (by first | rfl | (simp; done) | (simp [*]; done)), H', ⟨by first | omega | exact Nat.le_refl _⟩, ⟨by repeat (first | (with_reducible first | exact HB.out | apply below_alloc | apply pw_below_drewN | apply below_drew1) | exact HB.out)⟩⟩
  ·rw [if_neg c4] at H
   have c4b0 : decide (1048576 < (l0.length : Int)) = false := decide_eq_false c4
   have c4b1 : decide (1048576 < l0.length) = false := decide_eq_false (by omega)
   clear c4
   (first | rw [c4b0] | (simp only [i64_w, i32_w]; rw [c4b0]) | skip)
   have H' := Aside0.mk H
   clear H
   go_wp2
   go_meet
   case rel => exact ⟨_, (decide ((l1.length : Int) > 1048576)), (by first | rfl | (simp; done) | (simp [*]; done)), H', ⟨by first | omega | exact Nat.le_refl _⟩, ⟨by repeat (first | (with_reducible first | exact HB.out | apply below_alloc | apply pw_below_drewN | apply below_drew1) | exact HB.out)⟩⟩
 case rest =>
  clear HC3
  try clear c1
  try clear p2
  try clear c4
  try clear c4b0
  try clear c4b1
  obtain ⟨kq, x23_2, rfl, HA, HJ2, HB⟩ := hcut
  cases kq with
  | zero => exact absurd HA.out (by simp [laws_FnJust.j0])
  | succ kj2 =>
   have H := HA.out
   clear HA
   simp only [laws_FnJust.j0] at H
   by_cases c5 : x23_2 = true
   ·subst c5
    have H1 : (some true) = some r := by rw [if_pos rfl] at H; exact H
    clear H
    have H := H1
    clear H1
    obtain rfl := Option.some.inj H
    go_wp2
    go_ret
    exact ⟨by first | rfl | (simp [errW_none, errW_some] <;> rfl) | (simp [*, errW_none, errW_some] <;> rfl), by repeat (first | (with_reducible first | exact HB.out | apply below_alloc | apply pw_below_drewN | apply below_drew1) | exact HB.out)⟩
   ·replace c5 := Bool.eq_false_iff.mpr c5
    subst c5
    have H1 : ((spec_States.f kj2 l0).bind fun bt603 => ((impl_Moves.f kj2 bt603.1 bt603.2.1 bt603.2.2).bind fun t613 => ((impl_Allowed.f kj2 bt603.1 bt603.2.1 bt603.2.2).bind fun t616 => ((spec_Moves.f kj2 bt603.1 bt603.2.1 bt603.2.2).bind fun t619 => ((laws_wInts.f kj2 t613 t619).bind fun t622 => (if t622 = true then (laws_FnJust.l0 kj2 l1 t616 t613 (t613.length : Int) 0 bt603.1 bt603.2.1 bt603.2.2) else (some false))))))) = some r := by rw [if_neg (show ¬ (false = true) by decide)] at H; exact H
    clear H
    have H := H1
    clear H1
    replace H := Option.bind_eq_some_iff.mp H
    obtain ⟨⟨t603, t606, t609⟩, A60, H⟩ := H
    replace H : ((impl_Moves.f kj2 t603 t606 t609).bind fun t613 => ((impl_Allowed.f kj2 t603 t606 t609).bind fun t616 => ((spec_Moves.f kj2 t603 t606 t609).bind fun t619 => ((laws_wInts.f kj2 t613 t619).bind fun t622 => (if t622 = true then (laws_FnJust.l0 kj2 l1 t616 t613 (t613.length : Int) 0 t603 t606 t609) else (some false)))))) = some r := H
    have A6 := Aside0.mk A60
    clear A60
    replace H := Option.bind_eq_some_iff.mp H
    obtain ⟨t613, A70, H⟩ := H
    replace H : ((impl_Allowed.f kj2 t603 t606 t609).bind fun t616 => ((spec_Moves.f kj2 t603 t606 t609).bind fun t619 => ((laws_wInts.f kj2 t613 t619).bind fun t622 => (if t622 = true then (laws_FnJust.l0 kj2 l1 t616 t613 (t613.length : Int) 0 t603 t606 t609) else (some false))))) = some r := H
    have A7 := Aside0.mk A70
    clear A70
    replace H := Option.bind_eq_some_iff.mp H
    obtain ⟨t616, A80, H⟩ := H
    replace H : ((spec_Moves.f kj2 t603 t606 t609).bind fun t619 => ((laws_wInts.f kj2 t613 t619).bind fun t622 => (if t622 = true then (laws_FnJust.l0 kj2 l1 t616 t613 (t613.length : Int) 0 t603 t606 t609) else (some false)))) = some r := H
    have A8 := Aside0.mk A80
    clear A80
    replace H := Option.bind_eq_some_iff.mp H
    obtain ⟨t619, A90, H⟩ := H
    replace H : ((laws_wInts.f kj2 t613 t619).bind fun t622 => (if t622 = true then (laws_FnJust.l0 kj2 l1 t616 t613 (t613.length : Int) 0 t603 t606 t609) else (some false))) = some r := H
    have A9 := Aside0.mk A90
    clear A90
    replace H := Option.bind_eq_some_iff.mp H
    obtain ⟨t622, A100, H⟩ := H
    replace H : (if t622 = true then (laws_FnJust.l0 kj2 l1 t616 t613 (t613.length : Int) 0 t603 t606 t609) else (some false)) = some r := H
    have A10 := Aside0.mk A100
    clear A100
    by_cases c11 : t622 = true
    ·subst c11
     have H1 : (laws_FnJust.l0 kj2 l1 t616 t613 (t613.length : Int) 0 t603 t606 t609) = some r := by rw [if_pos rfl] at H; exact H
     clear H
     have H := H1
     clear H1
     have H' := Aside0.mk H
     clear H
     go_wp2_with (first | ((with_reducible refine gate_callee (f := 14) rfl ?_); refine goesL_ (some 25) rfl rfl Try.func14 (by kernel_rfl) rfl #[.slice A0 l0.length c0] rfl (by (try simp only [List.map_toArray, List.map_cons, List.map_nil]); first | done | rfl | (simp only [List.length_drop, List.length_take]; rfl)) ?_; (with_reducible refine (spec_States.calls kj2 _ _ l0 t603 t606 t609 _ ?side1 ?side2 A6.out).mono ?_); (case side1 => repeat (first | exact (Kd.C_below HR0.out HB.out) | (with_reducible refine Kd.C_alloc ?_ _) | (with_reducible refine Kd.C_drewN ?_ _) | (with_reducible refine Kd.C_drew ?_))); (case side2 => exact HC0.out); rintro e w12 ⟨v604, v607, v610, rfl, ho0, ho1, ho2, hb⟩; refine ⟨_, rfl, ?_⟩; have n0_ := Aside0.mk (Kd.R_lower ho0 (below_size (by repeat (first | (with_reducible first | exact HB.out | apply below_alloc | apply pw_below_drewN | apply below_drew1) | exact HB.out)))); have n1_ := Aside0.mk (Kd.N_lower (Kd.N_mono (ok' := fun k_ => some k_ ≠ (v604 : Value).ownBlock ∧ some k_ ≠ (v610 : Value).ownBlock) (Kd.S_N (Kd.S_bound ho1)) (fun k_ hk_ => ⟨hk_.1.1, hk_.1.2⟩)) (below_size (by repeat (first | (with_reducible first | exact HB.out | apply below_alloc | apply pw_below_drewN | apply below_drew1) | exact HB.out)))); have n2_ := Aside0.mk (Kd.R_lower ho2 (below_size (by repeat (first | (with_reducible first | exact HB.out | apply below_alloc | apply pw_below_drewN | apply below_drew1) | exact HB.out)))); have n3_ := Aside0.mk (below_step (by repeat (first | (with_reducible first | exact HB.out | apply below_alloc | apply pw_below_drewN | apply below_drew1) | exact HB.out)) hb); clear HB; have HO605 := n0_; have HO608 := n1_; have HO611 := n2_; have HB := n3_; clear n0_ n1_ n2_ n3_; (try clear hb); (try clear hb2); (try clear hk); (try clear hi); (try clear ho0); (try clear ho1); (try clear ho2)) | ((with_reducible refine gate_dst (N := 5) rfl ?_); (try (refine gate_guard (by rfl) ?_; dsimp only)); refine box_event ?hg (N := 5) ?hd (cs := #[.slice none 0 0, .slice none 0 0, .slice none 0 0]) (t := 26) ?hr ?_; (case hd => rfl); (case hg => rfl); (case hr => first | (go_simp; done) | (go_simp; rfl)); intro gb612 hg w13 hbox hb; have n0_ := Aside0.mk (Kd.R_below (by (with_reducible repeat (first | apply Kd.R_alloc | apply Kd.R_drewN | apply Kd.R_drew)); exact HO605.out) hb); have n1_ := Aside0.mk (Kd.N_below (Kd.N_elderB (by (with_reducible repeat (first | apply Kd.N_alloc | apply Kd.N_drewN | apply Kd.N_drew)); exact HO608.out) gb612 (Nat.le_of_eq hg.symm)) hb); have n2_ := Aside0.mk (Kd.R_below (by (with_reducible repeat (first | apply Kd.R_alloc | apply Kd.R_drewN | apply Kd.R_drew)); exact HO611.out) hb); have n3_ := Aside0.mk (below_step (by repeat (first | (with_reducible first | exact HB.out | apply below_alloc | apply pw_below_drewN | apply below_drew1) | exact HB.out)) hb); have n4_ := Aside0.mk (hbox); have n5_ := Aside0.mk ((by rw [hg]; exact (below_size (by repeat (first | (with_reducible first | exact HB.out | apply below_alloc | apply pw_below_drewN | apply below_drew1) | exact HB.out))) : w.heap.size ≤ gb612)); have n6_ := Aside0.mk ((by rw [hg]; exact (below_size (by repeat (first | (with_reducible first | exact HB.out | apply below_alloc | apply pw_below_drewN | apply below_drew1) | exact HB.out))) : w.heap.size ≤ gb612)); clear HO605; clear HO608; clear HO611; clear HB; have HO605 := n0_; have HO608 := n1_; have HO611 := n2_; have HB := n3_; have BK612 := n4_; have GW612 := n5_; have GE612 := n6_; clear n0_ n1_ n2_ n3_ n4_ n5_ n6_; clear hb hbox hg; obtain ⟨Ao14, co14, eo14⟩ := Kd.R_slice HO605.out; subst eo14; have hcz15_0 : w13.cell? ⟨gb612, 0, none⟩ = some (.slice none 0 0) := (blk_cell BK612.out 0).trans rfl; have hcz15_1 : w13.cell? ⟨gb612, 1, none⟩ = some (.slice none 0 0) := (blk_cell BK612.out 1).trans rfl; have hcz15_2 : w13.cell? ⟨gb612, 2, none⟩ = some (.slice none 0 0) := (blk_cell BK612.out 2).trans rfl; have hfz15_0 := blk_frozen BK612.out 0; have hfz15_1 := blk_frozen BK612.out 1; have hfz15_2 := blk_frozen BK612.out 2; obtain ⟨Ao16, co16, eo16⟩ := Kd.N_slice HO608.out; subst eo16; obtain ⟨Ao17, co17, eo17⟩ := Kd.R_slice HO611.out; subst eo17) | ((with_reducible refine gate_callee (f := 19) rfl ?_); refine goesL_ (some 27) rfl rfl Try.func19 (by kernel_rfl) rfl #[.agg #[.slice Ao14 t603.length co14, .slice Ao16 t606.length co16, .slice Ao17 t609.length co17]] rfl (by (try simp only [List.map_toArray, List.map_cons, List.map_nil]); first | done | rfl | (simp only [List.length_drop, List.length_take]; rfl)) ?_; (with_reducible refine (impl_Moves.calls kj2 _ _ t603 _ _ t606 _ _ t609 t613 _ ?side1 ?side2 ?side3 ?side4 ?side5 ?side6 A7.out).mono ?_); (case side1 => refine (Kd.R_reads' (e := 3) (base := w.heap.size) (ok := fun k_ => some k_ ≠ (.slice Ao17 t609.length co17 : Value).ownBlock) (n := t603.length) (c := co14) ?_).2.2; exact (by (with_reducible repeat (first | apply Kd.R_alloc | apply Kd.R_drewN | apply Kd.R_drew)); exact (Kd.R_mono (Kd.R_far (p := ⟨gb612, 2, none⟩) (Kd.R_far (p := ⟨gb612, 1, none⟩) (Kd.R_far (p := ⟨gb612, 0, none⟩) (Kd.R_types HO605.out BK612.out (by decide)) (fun _ hk => hk.2) (.slice Ao14 t603.length co14)) (fun _ hk => hk.2) (.slice Ao16 t606.length co16)) (fun _ hk => hk.2) (.slice Ao17 t609.length co17)) (fun _ h_ => h_.1)))); (case side2 => exact (Kd.R_reads' HO605.out).2.1); (case side3 => refine (Kd.N_reads' (e := 35) (base := w.heap.size) (ok := fun k_ => ((some k_ ≠ (.slice Ao14 t603.length co14 : Value).ownBlock ∧ some k_ ≠ (.slice Ao17 t609.length co17 : Value).ownBlock) ∧ k_ ≠ gb612)) (n := t606.length) (c := co16) ?_).2.2; exact (by (with_reducible repeat (first | apply Kd.N_alloc | apply Kd.N_drewN | apply Kd.N_drew)); exact (Kd.N_mono (Kd.N_far (p := ⟨gb612, 2, none⟩) (Kd.N_far (p := ⟨gb612, 1, none⟩) (Kd.N_far (p := ⟨gb612, 0, none⟩) (Kd.N_mono HO608.out (fun k_ hk => (⟨hk, hk.2⟩ : _ ∧ k_ ≠ gb612))) (fun _ hk => hk.2) (.slice Ao14 t603.length co14)) (fun _ hk => hk.2) (.slice Ao16 t606.length co16)) (fun _ hk => hk.2) (.slice Ao17 t609.length co17)) (fun _ h_ => h_.1)))); (case side4 => exact (Kd.N_reads' HO608.out).2.1); (case side5 => refine (Kd.R_reads' (e := 3) (base := w.heap.size) (ok := fun k_ => some k_ ≠ (.slice Ao14 t603.length co14 : Value).ownBlock) (n := t609.length) (c := co17) ?_).2.2; exact (by (with_reducible repeat (first | apply Kd.R_alloc | apply Kd.R_drewN | apply Kd.R_drew)); exact (Kd.R_mono (Kd.R_far (p := ⟨gb612, 2, none⟩) (Kd.R_far (p := ⟨gb612, 1, none⟩) (Kd.R_far (p := ⟨gb612, 0, none⟩) (Kd.R_types HO611.out BK612.out (by decide)) (fun _ hk => hk.2) (.slice Ao14 t603.length co14)) (fun _ hk => hk.2) (.slice Ao16 t606.length co16)) (fun _ hk => hk.2) (.slice Ao17 t609.length co17)) (fun _ h_ => h_.1)))); (case side6 => exact (Kd.R_reads' HO611.out).2.1); rintro e w18 ⟨v614, rfl, ho0, hb⟩; refine ⟨_, rfl, ?_⟩; have n0_ := Aside0.mk (Kd.R_elder' (by (with_reducible repeat (first | apply Kd.R_alloc | apply Kd.R_drewN | apply Kd.R_drew)); exact (Kd.R_mono (Kd.R_far (p := ⟨gb612, 2, none⟩) (Kd.R_far (p := ⟨gb612, 1, none⟩) (Kd.R_far (p := ⟨gb612, 0, none⟩) (Kd.R_types HO605.out BK612.out (by decide)) (fun _ hk => hk.2) (.slice Ao14 t603.length co14)) (fun _ hk => hk.2) (.slice Ao16 t606.length co16)) (fun _ hk => hk.2) (.slice Ao17 t609.length co17)) (fun _ h_ => h_.1))) (Kd.R_base ho0) hb); have n1_ := Aside0.mk (Kd.N_elder' (by (with_reducible repeat (first | apply Kd.N_alloc | apply Kd.N_drewN | apply Kd.N_drew)); exact (Kd.N_mono (Kd.N_far (p := ⟨gb612, 2, none⟩) (Kd.N_far (p := ⟨gb612, 1, none⟩) (Kd.N_far (p := ⟨gb612, 0, none⟩) (Kd.N_mono HO608.out (fun k_ hk => (⟨hk, hk.2⟩ : _ ∧ k_ ≠ gb612))) (fun _ hk => hk.2) (.slice Ao14 t603.length co14)) (fun _ hk => hk.2) (.slice Ao16 t606.length co16)) (fun _ hk => hk.2) (.slice Ao17 t609.length co17)) (fun _ h_ => h_.1))) (Kd.R_base ho0) hb); have n2_ := Aside0.mk (Kd.R_elder' (by (with_reducible repeat (first | apply Kd.R_alloc | apply Kd.R_drewN | apply Kd.R_drew)); exact (Kd.R_mono (Kd.R_far (p := ⟨gb612, 2, none⟩) (Kd.R_far (p := ⟨gb612, 1, none⟩) (Kd.R_far (p := ⟨gb612, 0, none⟩) (Kd.R_types HO611.out BK612.out (by decide)) (fun _ hk => hk.2) (.slice Ao14 t603.length co14)) (fun _ hk => hk.2) (.slice Ao16 t606.length co16)) (fun _ hk => hk.2) (.slice Ao17 t609.length co17)) (fun _ h_ => h_.1))) (Kd.R_base ho0) hb); have n3_ := Aside0.mk (Kd.R_lower (Kd.R_new' (Kd.R_new' ho0 (Kd.R_lt (by (with_reducible repeat (first | apply Kd.R_alloc | apply Kd.R_drewN | apply Kd.R_drew)); exact (Kd.R_mono (Kd.R_far (p := ⟨gb612, 2, none⟩) (Kd.R_far (p := ⟨gb612, 1, none⟩) (Kd.R_far (p := ⟨gb612, 0, none⟩) (Kd.R_types HO605.out BK612.out (by decide)) (fun _ hk => hk.2) (.slice Ao14 t603.length co14)) (fun _ hk => hk.2) (.slice Ao16 t606.length co16)) (fun _ hk => hk.2) (.slice Ao17 t609.length co17)) (fun _ h_ => h_.1))))) (Kd.R_lt (by (with_reducible repeat (first | apply Kd.R_alloc | apply Kd.R_drewN | apply Kd.R_drew)); exact (Kd.R_mono (Kd.R_far (p := ⟨gb612, 2, none⟩) (Kd.R_far (p := ⟨gb612, 1, none⟩) (Kd.R_far (p := ⟨gb612, 0, none⟩) (Kd.R_types HO611.out BK612.out (by decide)) (fun _ hk => hk.2) (.slice Ao14 t603.length co14)) (fun _ hk => hk.2) (.slice Ao16 t606.length co16)) (fun _ hk => hk.2) (.slice Ao17 t609.length co17)) (fun _ h_ => h_.1))))) (below_size (by repeat (first | (with_reducible first | exact HB.out | apply below_alloc | apply pw_below_drewN | apply below_drew1 | refine below_set ?_ GE612.out) | exact HB.out)))); have n4_ := Aside0.mk (blk_below (g := gb612) (o := .cells #[.slice Ao14 t603.length co14, .slice Ao16 t606.length co16, .slice Ao17 t609.length co17] 26 (0, 0)) (by (with_reducible repeat (first | refine blk_drewN ?_ _ | refine blk_drew ?_ | refine blk_alloc ?_ _)); refine blk_put (cs := #[.slice Ao14 t603.length co14, .slice Ao16 t606.length co16, .slice none 0 0]) ?_ 2 _ rfl; (with_reducible repeat (first | refine blk_drewN ?_ _ | refine blk_drew ?_ | refine blk_alloc ?_ _)); refine blk_put (cs := #[.slice Ao14 t603.length co14, .slice none 0 0, .slice none 0 0]) ?_ 1 _ rfl; (with_reducible repeat (first | refine blk_drewN ?_ _ | refine blk_drew ?_ | refine blk_alloc ?_ _)); refine blk_put (cs := #[.slice none 0 0, .slice none 0 0, .slice none 0 0]) ?_ 0 _ rfl; (with_reducible repeat (first | refine blk_drewN ?_ _ | refine blk_drew ?_ | refine blk_alloc ?_ _)); exact BK612.out) hb); have n5_ := Aside0.mk (below_step (by repeat (first | (with_reducible first | exact HB.out | apply below_alloc | apply pw_below_drewN | apply below_drew1 | refine below_set ?_ GE612.out) | exact HB.out)) hb); clear HO605; clear HO608; clear HO611; clear BK612; clear HB; have HO605 := n0_; have HO608 := n1_; have HO611 := n2_; have HO615 := n3_; have BK612 := n4_; have HB := n5_; clear n0_ n1_ n2_ n3_ n4_ n5_; (try clear hb); (try clear hb2); (try clear hk); (try clear hi); (try clear ho0); have hcz19_0 : w18.cell? ⟨gb612, 0, none⟩ = some (.slice Ao14 t603.length co14) := (blk_cell BK612.out 0).trans rfl; have hcz19_1 : w18.cell? ⟨gb612, 1, none⟩ = some (.slice Ao16 t606.length co16) := (blk_cell BK612.out 1).trans rfl; have hcz19_2 : w18.cell? ⟨gb612, 2, none⟩ = some (.slice Ao17 t609.length co17) := (blk_cell BK612.out 2).trans rfl; have hfz19_0 := blk_frozen BK612.out 0; have hfz19_1 := blk_frozen BK612.out 1; have hfz19_2 := blk_frozen BK612.out 2) | ((with_reducible refine gate_callee (f := 20) rfl ?_); refine goesL_ (some 29) rfl rfl Try.func20 (by kernel_rfl) rfl #[.agg #[.slice Ao14 t603.length co14, .slice Ao16 t606.length co16, .slice Ao17 t609.length co17]] rfl (by (try simp only [List.map_toArray, List.map_cons, List.map_nil]); first | done | rfl | (simp only [List.length_drop, List.length_take]; rfl)) ?_; (with_reducible refine (impl_Allowed.calls kj2 _ _ t603 _ _ t606 _ _ t609 t616 _ ?side1 ?side2 ?side3 ?side4 ?side5 ?side6 A8.out).mono ?_); (case side1 => repeat (first | exact (Kd.R_reads' HO605.out).2.2 | (with_reducible refine Kd.C_alloc ?_ _) | (with_reducible refine Kd.C_drewN ?_ _) | (with_reducible refine Kd.C_drew ?_))); (case side2 => exact (Kd.R_reads' HO605.out).2.1); (case side3 => repeat (first | exact (Kd.N_reads' HO608.out).2.2 | (with_reducible refine Kd.C_alloc ?_ _) | (with_reducible refine Kd.C_drewN ?_ _) | (with_reducible refine Kd.C_drew ?_))); (case side4 => exact (Kd.N_reads' HO608.out).2.1); (case side5 => repeat (first | exact (Kd.R_reads' HO611.out).2.2 | (with_reducible refine Kd.C_alloc ?_ _) | (with_reducible refine Kd.C_drewN ?_ _) | (with_reducible refine Kd.C_drew ?_))); (case side6 => exact (Kd.R_reads' HO611.out).2.1); rintro e w20 ⟨v617, rfl, ho0, hb⟩; refine ⟨_, rfl, ?_⟩; have n0_ := Aside0.mk (Kd.R_elder' (by (with_reducible repeat (first | apply Kd.R_alloc | apply Kd.R_drewN | apply Kd.R_drew)); exact HO605.out) (Kd.R_base ho0) hb); have n1_ := Aside0.mk (Kd.N_elder' (by (with_reducible repeat (first | apply Kd.N_alloc | apply Kd.N_drewN | apply Kd.N_drew)); exact HO608.out) (Kd.R_base ho0) hb); have n2_ := Aside0.mk (Kd.R_elder' (by (with_reducible repeat (first | apply Kd.R_alloc | apply Kd.R_drewN | apply Kd.R_drew)); exact HO611.out) (Kd.R_base ho0) hb); have n3_ := Aside0.mk (Kd.R_elder' (by (with_reducible repeat (first | apply Kd.R_alloc | apply Kd.R_drewN | apply Kd.R_drew)); exact HO615.out) (Kd.R_base ho0) hb); have n4_ := Aside0.mk (Kd.R_lower (Kd.R_new' (Kd.R_new' (Kd.R_new' ho0 (Kd.R_lt (by (with_reducible repeat (first | apply Kd.R_alloc | apply Kd.R_drewN | apply Kd.R_drew)); exact HO605.out))) (Kd.R_lt (by (with_reducible repeat (first | apply Kd.R_alloc | apply Kd.R_drewN | apply Kd.R_drew)); exact HO611.out))) (Kd.R_lt (by (with_reducible repeat (first | apply Kd.R_alloc | apply Kd.R_drewN | apply Kd.R_drew)); exact HO615.out))) (below_size (by repeat (first | (with_reducible first | exact HB.out | apply below_alloc | apply pw_below_drewN | apply below_drew1 | refine below_set ?_ GE612.out) | exact HB.out)))); have n5_ := Aside0.mk (blk_below (g := gb612) (o := .cells #[.slice Ao14 t603.length co14, .slice Ao16 t606.length co16, .slice Ao17 t609.length co17] 26 (0, 0)) (by (with_reducible repeat (first | refine blk_drewN ?_ _ | refine blk_drew ?_ | refine blk_alloc ?_ _)); exact BK612.out) hb); have n6_ := Aside0.mk (below_step (by repeat (first | (with_reducible first | exact HB.out | apply below_alloc | apply pw_below_drewN | apply below_drew1 | refine below_set ?_ GE612.out) | exact HB.out)) hb); clear HO605; clear HO608; clear HO611; clear HO615; clear BK612; clear HB; have HO605 := n0_; have HO608 := n1_; have HO611 := n2_; have HO615 := n3_; have HO618 := n4_; have BK612 := n5_; have HB := n6_; clear n0_ n1_ n2_ n3_ n4_ n5_ n6_; (try clear hb); (try clear hb2); (try clear hk); (try clear hi); (try clear ho0); have hcz21_0 : w20.cell? ⟨gb612, 0, none⟩ = some (.slice Ao14 t603.length co14) := (blk_cell BK612.out 0).trans rfl; have hcz21_1 : w20.cell? ⟨gb612, 1, none⟩ = some (.slice Ao16 t606.length co16) := (blk_cell BK612.out 1).trans rfl; have hcz21_2 : w20.cell? ⟨gb612, 2, none⟩ = some (.slice Ao17 t609.length co17) := (blk_cell BK612.out 2).trans rfl; have hfz21_0 := blk_frozen BK612.out 0; have hfz21_1 := blk_frozen BK612.out 1; have hfz21_2 := blk_frozen BK612.out 2) | ((with_reducible refine gate_callee (f := 22) rfl ?_); refine goesL_ (some 32) rfl rfl Try.func22 (by kernel_rfl) rfl #[.agg #[.slice Ao14 t603.length co14, .slice Ao16 t606.length co16, .slice Ao17 t609.length co17]] rfl (by (try simp only [List.map_toArray, List.map_cons, List.map_nil]); first | done | rfl | (simp only [List.length_drop, List.length_take]; rfl)) ?_; (with_reducible refine (spec_Moves.calls kj2 _ _ t603 _ _ t606 _ _ t609 t619 _ ?side1 ?side2 ?side3 ?side4 ?side5 ?side6 A9.out).mono ?_); (case side1 => repeat (first | exact (Kd.R_reads' HO605.out).2.2 | (with_reducible refine Kd.C_alloc ?_ _) | (with_reducible refine Kd.C_drewN ?_ _) | (with_reducible refine Kd.C_drew ?_))); (case side2 => exact (Kd.R_reads' HO605.out).2.1); (case side3 => repeat (first | exact (Kd.N_reads' HO608.out).2.2 | (with_reducible refine Kd.C_alloc ?_ _) | (with_reducible refine Kd.C_drewN ?_ _) | (with_reducible refine Kd.C_drew ?_))); (case side4 => exact (Kd.N_reads' HO608.out).2.1); (case side5 => repeat (first | exact (Kd.R_reads' HO611.out).2.2 | (with_reducible refine Kd.C_alloc ?_ _) | (with_reducible refine Kd.C_drewN ?_ _) | (with_reducible refine Kd.C_drew ?_))); (case side6 => exact (Kd.R_reads' HO611.out).2.1); rintro e w22 ⟨v620, rfl, ho0, hb⟩; refine ⟨_, rfl, ?_⟩; have n0_ := Aside0.mk (Kd.R_elder' (by (with_reducible repeat (first | apply Kd.R_alloc | apply Kd.R_drewN | apply Kd.R_drew)); exact HO605.out) (Kd.R_base ho0) hb); have n1_ := Aside0.mk (Kd.N_elder' (by (with_reducible repeat (first | apply Kd.N_alloc | apply Kd.N_drewN | apply Kd.N_drew)); exact HO608.out) (Kd.R_base ho0) hb); have n2_ := Aside0.mk (Kd.R_elder' (by (with_reducible repeat (first | apply Kd.R_alloc | apply Kd.R_drewN | apply Kd.R_drew)); exact HO611.out) (Kd.R_base ho0) hb); have n3_ := Aside0.mk (Kd.R_elder' (by (with_reducible repeat (first | apply Kd.R_alloc | apply Kd.R_drewN | apply Kd.R_drew)); exact HO615.out) (Kd.R_base ho0) hb); have n4_ := Aside0.mk (Kd.R_elder' (by (with_reducible repeat (first | apply Kd.R_alloc | apply Kd.R_drewN | apply Kd.R_drew)); exact HO618.out) (Kd.R_base ho0) hb); have n5_ := Aside0.mk (Kd.R_lower (Kd.R_new' (Kd.R_new' (Kd.R_new' (Kd.R_new' ho0 (Kd.R_lt (by (with_reducible repeat (first | apply Kd.R_alloc | apply Kd.R_drewN | apply Kd.R_drew)); exact HO605.out))) (Kd.R_lt (by (with_reducible repeat (first | apply Kd.R_alloc | apply Kd.R_drewN | apply Kd.R_drew)); exact HO611.out))) (Kd.R_lt (by (with_reducible repeat (first | apply Kd.R_alloc | apply Kd.R_drewN | apply Kd.R_drew)); exact HO615.out))) (Kd.R_lt (by (with_reducible repeat (first | apply Kd.R_alloc | apply Kd.R_drewN | apply Kd.R_drew)); exact HO618.out))) (below_size (by repeat (first | (with_reducible first | exact HB.out | apply below_alloc | apply pw_below_drewN | apply below_drew1 | refine below_set ?_ GE612.out) | exact HB.out)))); have n6_ := Aside0.mk (blk_below (g := gb612) (o := .cells #[.slice Ao14 t603.length co14, .slice Ao16 t606.length co16, .slice Ao17 t609.length co17] 26 (0, 0)) (by (with_reducible repeat (first | refine blk_drewN ?_ _ | refine blk_drew ?_ | refine blk_alloc ?_ _)); exact BK612.out) hb); have n7_ := Aside0.mk (below_step (by repeat (first | (with_reducible first | exact HB.out | apply below_alloc | apply pw_below_drewN | apply below_drew1 | refine below_set ?_ GE612.out) | exact HB.out)) hb); clear HO605; clear HO608; clear HO611; clear HO615; clear HO618; clear BK612; clear HB; have HO605 := n0_; have HO608 := n1_; have HO611 := n2_; have HO615 := n3_; have HO618 := n4_; have HO621 := n5_; have BK612 := n6_; have HB := n7_; clear n0_ n1_ n2_ n3_ n4_ n5_ n6_ n7_; (try clear hb); (try clear hb2); (try clear hk); (try clear hi); (try clear ho0); obtain ⟨Ao23, co23, eo23⟩ := Kd.R_slice HO615.out; subst eo23; obtain ⟨Ao24, co24, eo24⟩ := Kd.R_slice HO621.out; subst eo24) | ((with_reducible refine gate_callee (f := 21) rfl ?_); refine goesL_ (some 33) rfl rfl Try.func21 (by kernel_rfl) rfl #[.slice Ao23 t613.length co23, .slice Ao24 t619.length co24] rfl (by (try simp only [List.map_toArray, List.map_cons, List.map_nil]); first | done | rfl | (simp only [List.length_drop, List.length_take]; rfl)) ?_; (with_reducible refine (laws_wInts.calls kj2 _ _ t613 _ _ t619 true _ ?side1 ?side2 ?side3 ?side4 A10.out).mono ?_); (case side1 => repeat (first | exact (Kd.R_reads' HO615.out).2.2 | (with_reducible refine Kd.C_alloc ?_ _) | (with_reducible refine Kd.C_drewN ?_ _) | (with_reducible refine Kd.C_drew ?_))); (case side2 => exact (Kd.R_reads' HO615.out).2.1); (case side3 => repeat (first | exact (Kd.R_reads' HO621.out).2.2 | (with_reducible refine Kd.C_alloc ?_ _) | (with_reducible refine Kd.C_drewN ?_ _) | (with_reducible refine Kd.C_drew ?_))); (case side4 => exact (Kd.R_reads' HO621.out).2.1); rintro e w' ⟨rfl, ⟨nd, rfl⟩⟩; refine ⟨_, rfl, ?_⟩))
     go_loopg [37] kj2 (fun kq v37 w' => ∃ (x37_2 : Int), v37 = .int .i64 x37_2 ∧ Aside0 (laws_FnJust.l0 kq l1 t616 t613 (t613.length : Int) x37_2 t603 t606 t609 = some r) ∧ Aside0 (kq ≤ kj2) ∧ Aside0 (Kd.R (Kd.int .i64) 3 w' w.heap.size (fun k_ => some k_ ≠ ((.slice Ao23 t613.length co23) : Value).ownBlock ∧ some k_ ≠ ((.slice Ao14 t603.length co14) : Value).ownBlock ∧ some k_ ≠ ((.slice Ao17 t609.length co17) : Value).ownBlock) v617 t616) ∧ Aside0 (Kd.R (Kd.int .i64) 3 w' w.heap.size (fun k_ => some k_ ≠ (v617 : Value).ownBlock ∧ some k_ ≠ ((.slice Ao14 t603.length co14) : Value).ownBlock ∧ some k_ ≠ ((.slice Ao17 t609.length co17) : Value).ownBlock) (.slice Ao23 t613.length co23) t613) ∧ Aside0 (Kd.R (Kd.int .i64) 3 w' w.heap.size (fun k_ => some k_ ≠ (v617 : Value).ownBlock ∧ some k_ ≠ ((.slice Ao23 t613.length co23) : Value).ownBlock ∧ some k_ ≠ ((.slice Ao17 t609.length co17) : Value).ownBlock) (.slice Ao14 t603.length co14) t603) ∧ Aside0 (Kd.N k35 35 w' w.heap.size (fun k_ => some k_ ≠ (v617 : Value).ownBlock ∧ some k_ ≠ ((.slice Ao23 t613.length co23) : Value).ownBlock ∧ some k_ ≠ ((.slice Ao14 t603.length co14) : Value).ownBlock ∧ some k_ ≠ ((.slice Ao17 t609.length co17) : Value).ownBlock ∧ k_ ≠ gb612) (.slice Ao16 t606.length co16) t606) ∧ Aside0 (Kd.R (Kd.int .i64) 3 w' w.heap.size (fun k_ => some k_ ≠ (v617 : Value).ownBlock ∧ some k_ ≠ ((.slice Ao23 t613.length co23) : Value).ownBlock ∧ some k_ ≠ ((.slice Ao14 t603.length co14) : Value).ownBlock) (.slice Ao17 t609.length co17) t609) ∧ Aside0 (w'.heap[gb612]? = some (.cells #[(.slice Ao14 t603.length co14), (.slice Ao16 t606.length co16), (.slice Ao17 t609.length co17)] 26 (0, 0))) ∧ Aside0 (Below w.heap.size w w'))
     case atStart => exact ⟨(0), (by first | rfl | (simp; done) | (simp [*]; done)), H', ⟨Nat.le_refl _⟩, ⟨by (with_reducible repeat (first | apply Kd.R_alloc | apply Kd.R_drewN | apply Kd.R_drew)); exact Kd.R_mono HO618.out (fun _ hk => ⟨hk.1.2, ⟨hk.1.1.1.2, hk.1.1.2⟩⟩)⟩, ⟨by (with_reducible repeat (first | apply Kd.R_alloc | apply Kd.R_drewN | apply Kd.R_drew)); exact Kd.R_mono HO615.out (fun _ hk => ⟨hk.1.2, ⟨hk.1.1.1.2, hk.1.1.2⟩⟩)⟩, ⟨by (with_reducible repeat (first | apply Kd.R_alloc | apply Kd.R_drewN | apply Kd.R_drew)); exact Kd.R_mono HO605.out (fun _ hk => ⟨hk.1.2, ⟨hk.1.1.2, hk.1.1.1⟩⟩)⟩, ⟨by (with_reducible repeat (first | apply Kd.N_alloc | apply Kd.N_drewN | apply Kd.N_drew)); exact Kd.N_mono HO608.out (fun _ hk => ⟨hk.1.2, ⟨hk.1.1.2, ⟨hk.1.1.1.1.1, ⟨hk.1.1.1.1.2, hk.1.1.1.2⟩⟩⟩⟩)⟩, ⟨by (with_reducible repeat (first | apply Kd.R_alloc | apply Kd.R_drewN | apply Kd.R_drew)); exact Kd.R_mono HO611.out (fun _ hk => ⟨hk.1.2, ⟨hk.1.1.2, hk.1.1.1⟩⟩)⟩, ⟨by (with_reducible repeat (first | refine blk_drewN ?_ _ | refine blk_drew ?_ | refine blk_alloc ?_ _)); exact BK612.out⟩, ⟨by repeat (first | (with_reducible first | exact HB.out | apply below_alloc | apply pw_below_drewN | apply below_drew1 | refine below_set ?_ GE612.out) | exact HB.out)⟩⟩
     case round =>
      clear H'
      try clear c1
      try clear c2
      try clear p2
      try clear c4
      try clear c4b0
      try clear c4b1
      try clear c5
      try clear c11
      try clear c14
      try clear c19
      try clear c20
      try clear c21
      try clear c22
      try clear hcz15_0
      try clear hcz15_1
      try clear hcz15_2
      try clear hcz19_0
      try clear hcz19_1
      try clear hcz19_2
      try clear hcz21_0
      try clear hcz21_1
      try clear hcz21_2
      try clear hfz15_0
      try clear hfz15_1
      try clear hfz15_2
      try clear hfz19_0
      try clear hfz19_1
      try clear hfz19_2
      try clear hfz21_0
      try clear hfz21_1
      try clear hfz21_2
      try clear p2
      obtain ⟨x37_2, rfl, HA, HK2, HO_7, HO_35, HO_613000, HO_613001, HO_613002, BK612, HB⟩ := hrel
      cases gk with
      | zero => exact absurd HA.out (by simp [laws_FnJust.l0])
      | succ k2 =>
       have H := HA.out
       clear HA
       simp only [laws_FnJust.l0] at H
       by_cases c25 : x37_2 < (t613.length : Int)
       ·rw [if_pos c25] at H
        have c25b0 : decide (x37_2 < (t613.length : Int)) = true := decide_eq_true c25
        clear c25
        by_cases c26 : 0 ≤ x37_2
        ·rw [if_pos c26] at H
         have c26b0 : decide (0 ≤ x37_2) = true := decide_eq_true c26
         clear c26
         by_cases c27 : x37_2 < (t613.length : Int)
         ·rw [if_pos c27] at H
          have c27b0 : decide (x37_2 < (t613.length : Int)) = true := decide_eq_true c27
          clear c27
          have H' := Aside0.mk H
          clear H
          have p623 : 0 ≤ (x37_2 : Int) := of_decide_eq_true (by assumption)
          have q623 : x37_2 < (t613.length : Int) := of_decide_eq_true (by assumption)
          obtain ⟨ad623, e623, hx623_0⟩ := Kd.at_int (Kd.R_reads' HO_35.out).2.2 x37_2 p623 q623
          cases e623
          replace p623 := eq_true p623
          replace q623 := eq_true q623
          obtain ⟨Ao28, co28, eo28⟩ := Kd.R_slice HO_7.out
          subst eo28
          go_wp2
          go_loopg [10, 44] k2 (fun kq v10 v44 w' => ∃ (x10_3 : Bool) (x44_3 : Int), v10 = .bool x10_3 ∧ v44 = .int .i64 x44_3 ∧ Aside0 (laws_FnJust.l1 kq l1 t616 x37_2 (rd t613 x37_2) x10_3 t613 (t613.length : Int) x37_2 t616 (t616.length : Int) x44_3 t603 t606 t609 = some r) ∧ Aside0 (kq ≤ k2) ∧ Aside0 (Kd.R (Kd.int .i64) 3 w' w.heap.size (fun k_ => some k_ ≠ ((.slice (some ad623) t613.length co23) : Value).ownBlock ∧ some k_ ≠ ((.slice Ao14 t603.length co14) : Value).ownBlock ∧ some k_ ≠ ((.slice Ao17 t609.length co17) : Value).ownBlock) (.slice Ao28 t616.length co28) t616) ∧ Aside0 (Kd.R (Kd.int .i64) 3 w' w.heap.size (fun k_ => some k_ ≠ ((.slice Ao28 t616.length co28) : Value).ownBlock ∧ some k_ ≠ ((.slice Ao28 t616.length co28) : Value).ownBlock ∧ some k_ ≠ ((.slice Ao14 t603.length co14) : Value).ownBlock ∧ some k_ ≠ ((.slice Ao17 t609.length co17) : Value).ownBlock) (.slice (some ad623) t613.length co23) t613) ∧ Aside0 (Kd.R (Kd.int .i64) 3 w' w.heap.size (fun k_ => some k_ ≠ ((.slice (some ad623) t613.length co23) : Value).ownBlock ∧ some k_ ≠ ((.slice Ao14 t603.length co14) : Value).ownBlock ∧ some k_ ≠ ((.slice Ao17 t609.length co17) : Value).ownBlock) (.slice Ao28 t616.length co28) t616) ∧ Aside0 (Kd.R (Kd.int .i64) 3 w' w.heap.size (fun k_ => some k_ ≠ ((.slice Ao28 t616.length co28) : Value).ownBlock ∧ some k_ ≠ ((.slice (some ad623) t613.length co23) : Value).ownBlock ∧ some k_ ≠ ((.slice Ao28 t616.length co28) : Value).ownBlock ∧ some k_ ≠ ((.slice Ao17 t609.length co17) : Value).ownBlock) (.slice Ao14 t603.length co14) t603) ∧ Aside0 (Kd.N k35 35 w' w.heap.size (fun k_ => some k_ ≠ ((.slice Ao28 t616.length co28) : Value).ownBlock ∧ some k_ ≠ ((.slice (some ad623) t613.length co23) : Value).ownBlock ∧ some k_ ≠ ((.slice Ao28 t616.length co28) : Value).ownBlock ∧ some k_ ≠ ((.slice Ao14 t603.length co14) : Value).ownBlock ∧ some k_ ≠ ((.slice Ao17 t609.length co17) : Value).ownBlock ∧ k_ ≠ gb612) (.slice Ao16 t606.length co16) t606) ∧ Aside0 (Kd.R (Kd.int .i64) 3 w' w.heap.size (fun k_ => some k_ ≠ ((.slice Ao28 t616.length co28) : Value).ownBlock ∧ some k_ ≠ ((.slice (some ad623) t613.length co23) : Value).ownBlock ∧ some k_ ≠ ((.slice Ao28 t616.length co28) : Value).ownBlock ∧ some k_ ≠ ((.slice Ao14 t603.length co14) : Value).ownBlock) (.slice Ao17 t609.length co17) t609) ∧ Aside0 (w'.heap[gb612]? = some (.cells #[(.slice Ao14 t603.length co14), (.slice Ao16 t606.length co16), (.slice Ao17 t609.length co17)] 26 (0, 0))) ∧ Aside0 (Below w.heap.size w w'))
          case atStart => exact ⟨(false), (0), (by first | rfl | (simp; done) | (simp [*]; done)), (by first | rfl | (simp; done) | (simp [*]; done)), H', ⟨Nat.le_refl _⟩, ⟨by (with_reducible repeat (first | apply Kd.R_alloc | apply Kd.R_drewN | apply Kd.R_drew)); exact HO_7.out⟩, ⟨by (with_reducible repeat (first | apply Kd.R_alloc | apply Kd.R_drewN | apply Kd.R_drew)); exact Kd.R_mono HO_35.out (fun _ hk => ⟨hk.1, ⟨hk.1, ⟨hk.2.1, hk.2.2⟩⟩⟩)⟩, ⟨by (with_reducible repeat (first | apply Kd.R_alloc | apply Kd.R_drewN | apply Kd.R_drew)); exact HO_7.out⟩, ⟨by (with_reducible repeat (first | apply Kd.R_alloc | apply Kd.R_drewN | apply Kd.R_drew)); exact Kd.R_mono HO_613000.out (fun _ hk => ⟨hk.1, ⟨hk.2.1, ⟨hk.1, hk.2.2⟩⟩⟩)⟩, ⟨by (with_reducible repeat (first | apply Kd.N_alloc | apply Kd.N_drewN | apply Kd.N_drew)); exact Kd.N_mono HO_613001.out (fun _ hk => ⟨hk.1, ⟨hk.2.1, ⟨hk.1, ⟨hk.2.2.1, ⟨hk.2.2.2.1, hk.2.2.2.2⟩⟩⟩⟩⟩)⟩, ⟨by (with_reducible repeat (first | apply Kd.R_alloc | apply Kd.R_drewN | apply Kd.R_drew)); exact Kd.R_mono HO_613002.out (fun _ hk => ⟨hk.1, ⟨hk.2.1, ⟨hk.1, hk.2.2⟩⟩⟩)⟩, ⟨by (with_reducible repeat (first | refine blk_drewN ?_ _ | refine blk_drew ?_ | refine blk_alloc ?_ _)); exact BK612.out⟩, ⟨by repeat (first | (with_reducible first | exact HB.out | apply below_alloc | apply pw_below_drewN | apply below_drew1 | refine below_set ?_ GE612.out) | exact HB.out)⟩⟩
          case round =>
           clear H'
           try clear c1
           try clear c2
           try clear p2
           try clear c4
           try clear c4b0
           try clear c4b1
           try clear c5
           try clear p6
           try clear q6
           try clear hx6
           try clear c11
           try clear c14
           try clear c19
           try clear c20
           try clear c21
           try clear c22
           try clear c25
           try clear c25b0
           try clear c26
           try clear c26b0
           try clear c27
           try clear c27b0
           try clear hcz15_0
           try clear hcz15_1
           try clear hcz15_2
           try clear hcz19_0
           try clear hcz19_1
           try clear hcz19_2
           try clear hcz21_0
           try clear hcz21_1
           try clear hcz21_2
           try clear hfz15_0
           try clear hfz15_1
           try clear hfz15_2
           try clear hfz19_0
           try clear hfz19_1
           try clear hfz19_2
           try clear hfz21_0
           try clear hfz21_1
           try clear hfz21_2
           try clear hx623_0
           try clear p2
           try clear p623
           try clear q623
           obtain ⟨x10_3, x44_3, rfl, rfl, HA, HK3, HO_7, HO_35, HO_42, HO_613000, HO_613001, HO_613002, BK612, HB⟩ := hrel
           cases gk with
           | zero => exact absurd HA.out (by simp [laws_FnJust.l1])
           | succ k3 =>
            have H := HA.out
            clear HA
            simp only [laws_FnJust.l1] at H
            by_cases c29 : x44_3 < (t616.length : Int)
            ·rw [if_pos c29] at H
             have c29b0 : decide (x44_3 < (t616.length : Int)) = true := decide_eq_true c29
             clear c29
             by_cases c30 : 0 ≤ x44_3
             ·rw [if_pos c30] at H
              have c30b0 : decide (0 ≤ x44_3) = true := decide_eq_true c30
              clear c30
              by_cases c31 : x44_3 < (t616.length : Int)
              ·rw [if_pos c31] at H
               have c31b0 : decide (x44_3 < (t616.length : Int)) = true := decide_eq_true c31
               clear c31
               by_cases c32 : x10_3 = true
               ·subst c32
                have H1 : (laws_FnJust.l1 k3 l1 t616 x37_2 (rd t613 x37_2) true t613 (t613.length : Int) x37_2 t616 (t616.length : Int) (wrap64 (x44_3 + 1)) t603 t606 t609) = some r := by rw [if_pos rfl] at H; exact H
                clear H
                have H := H1
                clear H1
                have H' := Aside0.mk H
                clear H
                have p624 : 0 ≤ (x44_3 : Int) := of_decide_eq_true (by assumption)
                have q624 : x44_3 < (t616.length : Int) := of_decide_eq_true (by assumption)
                obtain ⟨ad624, e624, hx624_0⟩ := Kd.at_int (Kd.R_reads' HO_42.out).2.2 x44_3 p624 q624
                cases e624
                replace p624 := eq_true p624
                replace q624 := eq_true q624
                go_wp2
                go_roundg k3
                case measure => have := HJ2.out; have := HK2.out; have := HK3.out; omega
                case rel => exact ⟨(true), (wrap64 (x44_3 + 1)), (by first | rfl | (simp; done) | (simp [*]; done)), (by first | rfl | (simp; done) | (simp [*]; done)), H', ⟨by have := HJ2.out; have := HK2.out; have := HK3.out; omega⟩, ⟨by (with_reducible repeat (first | apply Kd.R_alloc | apply Kd.R_drewN | apply Kd.R_drew)); exact HO_7.out⟩, ⟨by (with_reducible repeat (first | apply Kd.R_alloc | apply Kd.R_drewN | apply Kd.R_drew)); exact HO_35.out⟩, ⟨by (with_reducible repeat (first | apply Kd.R_alloc | apply Kd.R_drewN | apply Kd.R_drew)); exact HO_42.out⟩, ⟨by (with_reducible repeat (first | apply Kd.R_alloc | apply Kd.R_drewN | apply Kd.R_drew)); exact HO_613000.out⟩, ⟨by (with_reducible repeat (first | apply Kd.N_alloc | apply Kd.N_drewN | apply Kd.N_drew)); exact HO_613001.out⟩, ⟨by (with_reducible repeat (first | apply Kd.R_alloc | apply Kd.R_drewN | apply Kd.R_drew)); exact HO_613002.out⟩, ⟨by (with_reducible repeat (first | refine blk_drewN ?_ _ | refine blk_drew ?_ | refine blk_alloc ?_ _)); exact BK612.out⟩, ⟨by repeat (first | (with_reducible first | exact HB.out | apply below_alloc | apply pw_below_drewN | apply below_drew1 | refine below_set ?_ GE612.out) | exact HB.out)⟩⟩
               ·replace c32 := Bool.eq_false_iff.mpr c32
                subst c32
                have H1 : (laws_FnJust.l1 k3 l1 t616 x37_2 (rd t613 x37_2) ((rd t616 x44_3) == (rd t613 x37_2)) t613 (t613.length : Int) x37_2 t616 (t616.length : Int) (wrap64 (x44_3 + 1)) t603 t606 t609) = some r := by rw [if_neg (show ¬ (false = true) by decide)] at H; exact H
                clear H
                have H := H1
                clear H1
                have H' := Aside0.mk H
                clear H
                have p624 : 0 ≤ (x44_3 : Int) := of_decide_eq_true (by assumption)
                have q624 : x44_3 < (t616.length : Int) := of_decide_eq_true (by assumption)
                obtain ⟨ad624, e624, hx624_0⟩ := Kd.at_int (Kd.R_reads' HO_42.out).2.2 x44_3 p624 q624
                cases e624
                replace p624 := eq_true p624
                replace q624 := eq_true q624
                go_wp2
                go_roundg k3
                case measure => have := HJ2.out; have := HK2.out; have := HK3.out; omega
                case rel => exact ⟨(((rd t616 x44_3) == (rd t613 x37_2))), (wrap64 (x44_3 + 1)), (by first | rfl | (simp; done) | (simp [*]; done)), (by first | rfl | (simp; done) | (simp [*]; done)), H', ⟨by have := HJ2.out; have := HK2.out; have := HK3.out; omega⟩, ⟨by (with_reducible repeat (first | apply Kd.R_alloc | apply Kd.R_drewN | apply Kd.R_drew)); exact HO_7.out⟩, ⟨by (with_reducible repeat (first | apply Kd.R_alloc | apply Kd.R_drewN | apply Kd.R_drew)); exact HO_35.out⟩, ⟨by (with_reducible repeat (first | apply Kd.R_alloc | apply Kd.R_drewN | apply Kd.R_drew)); exact HO_42.out⟩, ⟨by (with_reducible repeat (first | apply Kd.R_alloc | apply Kd.R_drewN | apply Kd.R_drew)); exact HO_613000.out⟩, ⟨by (with_reducible repeat (first | apply Kd.N_alloc | apply Kd.N_drewN | apply Kd.N_drew)); exact HO_613001.out⟩, ⟨by (with_reducible repeat (first | apply Kd.R_alloc | apply Kd.R_drewN | apply Kd.R_drew)); exact HO_613002.out⟩, ⟨by (with_reducible repeat (first | refine blk_drewN ?_ _ | refine blk_drew ?_ | refine blk_alloc ?_ _)); exact BK612.out⟩, ⟨by repeat (first | (with_reducible first | exact HB.out | apply below_alloc | apply pw_below_drewN | apply below_drew1 | refine below_set ?_ GE612.out) | exact HB.out)⟩⟩
              ·rw [if_neg c31] at H
               exact absurd H (by simp)
             ·rw [if_neg c30] at H
              exact absurd H (by simp)
            ·rw [if_neg c29] at H
             have c29b0 : decide (x44_3 < (t616.length : Int)) = false := decide_eq_false c29
             clear c29
             replace H := Option.bind_eq_some_iff.mp H
             obtain ⟨⟨t625, t628, t631⟩, A330, H⟩ := H
             replace H : (if (t628.length : Int) = 0 then (laws_FnJust.j3 k3 l1 t616 x37_2 x10_3 t613 (t613.length : Int) x37_2 (x10_3 != true) t603 t606 t609 t625 t628 t631) else ((impl_Solve.f k3 t625 t628 t631).bind fun bt635 => (laws_FnJust.j3 k3 l1 t616 x37_2 x10_3 t613 (t613.length : Int) x37_2 (x10_3 != bt635.1) t603 t606 t609 t625 t628 t631))) = some r := H
             have A33 := Aside0.mk A330
             clear A330
             have HC34 := Aside0.mk H
             clear H
             have hcz35_0 : wr.cell? ⟨gb612, 0, none⟩ = some (.slice Ao14 t603.length co14) := (blk_cell BK612.out 0).trans rfl
             have hcz35_1 : wr.cell? ⟨gb612, 1, none⟩ = some (.slice Ao16 t606.length co16) := (blk_cell BK612.out 1).trans rfl
             have hcz35_2 : wr.cell? ⟨gb612, 2, none⟩ = some (.slice Ao17 t609.length co17) := (blk_cell BK612.out 2).trans rfl
             have hfz35_0 := blk_frozen BK612.out 0
             have hfz35_1 := blk_frozen BK612.out 1
             have hfz35_2 := blk_frozen BK612.out 2
             go_upto_region 18 with (first | ((with_reducible refine gate_callee (f := 23) rfl ?_); refine goesL_ (some 57) rfl rfl Try.func23 (by kernel_rfl) rfl #[.agg #[.slice Ao14 t603.length co14, .slice Ao16 t606.length co16, .slice Ao17 t609.length co17], .int .i64 (rd t613 x37_2)] rfl (by (try simp only [List.map_toArray, List.map_cons, List.map_nil]); first | done | rfl | (simp only [List.length_drop, List.length_take]; rfl)) ?_; (with_reducible refine (spec_Step.calls k3 _ _ t603 _ _ t606 _ _ t609 (rd t613 x37_2) t625 t628 t631 _ ?side1 ?side2 ?side3 ?side4 ?side5 ?side6 A33.out).mono ?_); (case side1 => repeat (first | exact (Kd.R_reads' HO_613000.out).2.2 | (with_reducible refine Kd.C_alloc ?_ _) | (with_reducible refine Kd.C_drewN ?_ _) | (with_reducible refine Kd.C_drew ?_))); (case side2 => exact (Kd.R_reads' HO_613000.out).2.1); (case side3 => repeat (first | exact (Kd.N_reads' HO_613001.out).2.2 | (with_reducible refine Kd.C_alloc ?_ _) | (with_reducible refine Kd.C_drewN ?_ _) | (with_reducible refine Kd.C_drew ?_))); (case side4 => exact (Kd.N_reads' HO_613001.out).2.1); (case side5 => repeat (first | exact (Kd.R_reads' HO_613002.out).2.2 | (with_reducible refine Kd.C_alloc ?_ _) | (with_reducible refine Kd.C_drewN ?_ _) | (with_reducible refine Kd.C_drew ?_))); (case side6 => exact (Kd.R_reads' HO_613002.out).2.1); rintro e w36 ⟨v626, v629, v632, rfl, ho0, ho1, ho2, hb⟩; refine ⟨_, rfl, ?_⟩; have n0_ := Aside0.mk (Kd.R_mono (Kd.R_told (Kd.R_told (Kd.R_old (by (with_reducible repeat (first | apply Kd.R_alloc | apply Kd.R_drewN | apply Kd.R_drew)); exact HO_7.out) hb) (Kd.R_base ho0)) (Kd.R_base ho2)) (fun _ h_ => h_.1)); have n1_ := Aside0.mk (Kd.R_mono (Kd.R_told (Kd.R_told (Kd.R_old (by (with_reducible repeat (first | apply Kd.R_alloc | apply Kd.R_drewN | apply Kd.R_drew)); exact HO_35.out) hb) (Kd.R_base ho0)) (Kd.R_base ho2)) (fun _ h_ => h_.1)); have n2_ := Aside0.mk (Kd.R_mono (Kd.R_told (Kd.R_told (Kd.R_old (by (with_reducible repeat (first | apply Kd.R_alloc | apply Kd.R_drewN | apply Kd.R_drew)); exact HO_42.out) hb) (Kd.R_base ho0)) (Kd.R_base ho2)) (fun _ h_ => h_.1)); have n3_ := Aside0.mk (Kd.R_mono (Kd.R_told (Kd.R_told (Kd.R_old (by (with_reducible repeat (first | apply Kd.R_alloc | apply Kd.R_drewN | apply Kd.R_drew)); exact HO_613000.out) hb) (Kd.R_base ho0)) (Kd.R_base ho2)) (fun _ h_ => h_.1)); have n4_ := Aside0.mk (Kd.N_mono (Kd.N_told (Kd.N_told (Kd.N_told (Kd.N_old (by (with_reducible repeat (first | apply Kd.N_alloc | apply Kd.N_drewN | apply Kd.N_drew)); exact HO_613001.out) hb) (Kd.R_base ho0)) (Kd.N_base ho1)) (Kd.R_base ho2)) (fun _ h_ => h_.1)); have n5_ := Aside0.mk (Kd.R_mono (Kd.R_told (Kd.R_told (Kd.R_old (by (with_reducible repeat (first | apply Kd.R_alloc | apply Kd.R_drewN | apply Kd.R_drew)); exact HO_613002.out) hb) (Kd.R_base ho0)) (Kd.R_base ho2)) (fun _ h_ => h_.1)); have n6_ := Aside0.mk (Kd.R_lower (Kd.R_new' (Kd.R_new' (Kd.R_new' (Kd.R_new' (Kd.R_new' (Kd.R_mono (ok' := fun k_ => some k_ ≠ (v632 : Value).ownBlock) ho0 (fun _ hk_ => hk_.2)) (Kd.R_lt (by (with_reducible repeat (first | apply Kd.R_alloc | apply Kd.R_drewN | apply Kd.R_drew)); exact HO_7.out))) (Kd.R_lt (by (with_reducible repeat (first | apply Kd.R_alloc | apply Kd.R_drewN | apply Kd.R_drew)); exact HO_35.out))) (Kd.R_lt (by (with_reducible repeat (first | apply Kd.R_alloc | apply Kd.R_drewN | apply Kd.R_drew)); exact HO_42.out))) (Kd.R_lt (by (with_reducible repeat (first | apply Kd.R_alloc | apply Kd.R_drewN | apply Kd.R_drew)); exact HO_613000.out))) (Kd.R_lt (by (with_reducible repeat (first | apply Kd.R_alloc | apply Kd.R_drewN | apply Kd.R_drew)); exact HO_613002.out))) (below_size (by repeat (first | (with_reducible first | exact HB.out | apply below_alloc | apply pw_below_drewN | apply below_drew1 | refine below_set ?_ GE612.out) | exact HB.out)))); have n7_ := Aside0.mk (Kd.N_lower (Kd.N_mono (ok' := fun k_ => some k_ ≠ (v626 : Value).ownBlock ∧ some k_ ≠ (v632 : Value).ownBlock ∧ some k_ ≠ (.slice Ao28 t616.length co28 : Value).ownBlock ∧ some k_ ≠ (.slice (some ad623) t613.length co23 : Value).ownBlock ∧ some k_ ≠ (.slice Ao28 t616.length co28 : Value).ownBlock ∧ some k_ ≠ (.slice Ao14 t603.length co14 : Value).ownBlock ∧ some k_ ≠ (.slice Ao16 t606.length co16 : Value).ownBlock ∧ some k_ ≠ (.slice Ao17 t609.length co17 : Value).ownBlock ∧ k_ ≠ gb612) ho1 (fun k_ hk_ => ⟨hk_.2.1, hk_.2.2, (Kd.fresh' (Kd.R_lt (by (with_reducible repeat (first | apply Kd.R_alloc | apply Kd.R_drewN | apply Kd.R_drew)); exact HO_7.out)) k_ hk_.1), (Kd.fresh' (Kd.R_lt (by (with_reducible repeat (first | apply Kd.R_alloc | apply Kd.R_drewN | apply Kd.R_drew)); exact HO_35.out)) k_ hk_.1), (Kd.fresh' (Kd.R_lt (by (with_reducible repeat (first | apply Kd.R_alloc | apply Kd.R_drewN | apply Kd.R_drew)); exact HO_42.out)) k_ hk_.1), (Kd.fresh' (Kd.R_lt (by (with_reducible repeat (first | apply Kd.R_alloc | apply Kd.R_drewN | apply Kd.R_drew)); exact HO_613000.out)) k_ hk_.1), (Kd.fresh' (Kd.N_lt (by (with_reducible repeat (first | apply Kd.N_alloc | apply Kd.N_drewN | apply Kd.N_drew)); exact HO_613001.out)) k_ hk_.1), (Kd.fresh' (Kd.R_lt (by (with_reducible repeat (first | apply Kd.R_alloc | apply Kd.R_drewN | apply Kd.R_drew)); exact HO_613002.out)) k_ hk_.1), (Kd.freshB (g := gb612) (o := .cells #[.slice Ao14 t603.length co14, .slice Ao16 t606.length co16, .slice Ao17 t609.length co17] 26 (0, 0)) (by (with_reducible repeat (first | refine blk_drewN ?_ _ | refine blk_drew ?_ | refine blk_alloc ?_ _)); exact BK612.out) k_ hk_.1)⟩)) (below_size (by repeat (first | (with_reducible first | exact HB.out | apply below_alloc | apply pw_below_drewN | apply below_drew1 | refine below_set ?_ GE612.out) | exact HB.out)))); have n8_ := Aside0.mk (Kd.R_lower (Kd.R_new' (Kd.R_new' (Kd.R_new' (Kd.R_new' (Kd.R_new' (Kd.R_mono (ok' := fun k_ => some k_ ≠ (v626 : Value).ownBlock) ho2 (fun _ hk_ => hk_.2)) (Kd.R_lt (by (with_reducible repeat (first | apply Kd.R_alloc | apply Kd.R_drewN | apply Kd.R_drew)); exact HO_7.out))) (Kd.R_lt (by (with_reducible repeat (first | apply Kd.R_alloc | apply Kd.R_drewN | apply Kd.R_drew)); exact HO_35.out))) (Kd.R_lt (by (with_reducible repeat (first | apply Kd.R_alloc | apply Kd.R_drewN | apply Kd.R_drew)); exact HO_42.out))) (Kd.R_lt (by (with_reducible repeat (first | apply Kd.R_alloc | apply Kd.R_drewN | apply Kd.R_drew)); exact HO_613000.out))) (Kd.R_lt (by (with_reducible repeat (first | apply Kd.R_alloc | apply Kd.R_drewN | apply Kd.R_drew)); exact HO_613002.out))) (below_size (by repeat (first | (with_reducible first | exact HB.out | apply below_alloc | apply pw_below_drewN | apply below_drew1 | refine below_set ?_ GE612.out) | exact HB.out)))); have n9_ := Aside0.mk (blk_below (g := gb612) (o := .cells #[.slice Ao14 t603.length co14, .slice Ao16 t606.length co16, .slice Ao17 t609.length co17] 26 (0, 0)) (by (with_reducible repeat (first | refine blk_drewN ?_ _ | refine blk_drew ?_ | refine blk_alloc ?_ _)); exact BK612.out) hb); have n10_ := Aside0.mk (below_step (by repeat (first | (with_reducible first | exact HB.out | apply below_alloc | apply pw_below_drewN | apply below_drew1 | refine below_set ?_ GE612.out) | exact HB.out)) hb); clear HO_7; clear HO_35; clear HO_42; clear HO_613000; clear HO_613001; clear HO_613002; clear BK612; clear HB; have HO_7 := n0_; have HO_35 := n1_; have HO_42 := n2_; have HO_613000 := n3_; have HO_613001 := n4_; have HO_613002 := n5_; have HO627 := n6_; have HO630 := n7_; have HO633 := n8_; have BK612 := n9_; have HB := n10_; clear n0_ n1_ n2_ n3_ n4_ n5_ n6_ n7_ n8_ n9_ n10_; (try clear hb); (try clear hb2); (try clear hk); (try clear hi); (try clear ho0); (try clear ho1); (try clear ho2)) | ((with_reducible refine gate_dst (N := 13) rfl ?_); (try (refine gate_guard (by rfl) ?_; dsimp only)); refine box_event ?hg (N := 13) ?hd (cs := #[.slice none 0 0, .slice none 0 0, .slice none 0 0]) (t := 26) ?hr ?_; (case hd => rfl); (case hg => rfl); (case hr => first | (go_simp; done) | (go_simp; rfl)); intro gb634 hg w37 hbox hb; have n0_ := Aside0.mk (Kd.R_below (by (with_reducible repeat (first | apply Kd.R_alloc | apply Kd.R_drewN | apply Kd.R_drew)); exact HO_7.out) hb); have n1_ := Aside0.mk (Kd.R_below (by (with_reducible repeat (first | apply Kd.R_alloc | apply Kd.R_drewN | apply Kd.R_drew)); exact HO_35.out) hb); have n2_ := Aside0.mk (Kd.R_below (by (with_reducible repeat (first | apply Kd.R_alloc | apply Kd.R_drewN | apply Kd.R_drew)); exact HO_42.out) hb); have n3_ := Aside0.mk (Kd.R_below (by (with_reducible repeat (first | apply Kd.R_alloc | apply Kd.R_drewN | apply Kd.R_drew)); exact HO_613000.out) hb); have n4_ := Aside0.mk (Kd.N_below (Kd.N_elderB (by (with_reducible repeat (first | apply Kd.N_alloc | apply Kd.N_drewN | apply Kd.N_drew)); exact HO_613001.out) gb634 (Nat.le_of_eq hg.symm)) hb); have n5_ := Aside0.mk (Kd.R_below (by (with_reducible repeat (first | apply Kd.R_alloc | apply Kd.R_drewN | apply Kd.R_drew)); exact HO_613002.out) hb); have n6_ := Aside0.mk (Kd.R_below (by (with_reducible repeat (first | apply Kd.R_alloc | apply Kd.R_drewN | apply Kd.R_drew)); exact HO627.out) hb); have n7_ := Aside0.mk (Kd.N_below (Kd.N_elderB (by (with_reducible repeat (first | apply Kd.N_alloc | apply Kd.N_drewN | apply Kd.N_drew)); exact HO630.out) gb634 (Nat.le_of_eq hg.symm)) hb); have n8_ := Aside0.mk (Kd.R_below (by (with_reducible repeat (first | apply Kd.R_alloc | apply Kd.R_drewN | apply Kd.R_drew)); exact HO633.out) hb); have n9_ := Aside0.mk (blk_below (g := gb612) (o := .cells #[.slice Ao14 t603.length co14, .slice Ao16 t606.length co16, .slice Ao17 t609.length co17] 26 (0, 0)) (by (with_reducible repeat (first | refine blk_drewN ?_ _ | refine blk_drew ?_ | refine blk_alloc ?_ _)); exact BK612.out) hb); have n10_ := Aside0.mk (below_step (by repeat (first | (with_reducible first | exact HB.out | apply below_alloc | apply pw_below_drewN | apply below_drew1 | refine below_set ?_ GE612.out) | exact HB.out)) hb); have n11_ := Aside0.mk (hbox); have n12_ := Aside0.mk ((by rw [hg]; exact (below_size (by repeat (first | (with_reducible first | exact HB.out | apply below_alloc | apply pw_below_drewN | apply below_drew1 | refine below_set ?_ GE612.out) | exact HB.out))) : w.heap.size ≤ gb634)); have n13_ := Aside0.mk ((by rw [hg]; exact (below_size (by repeat (first | (with_reducible first | exact HB.out | apply below_alloc | apply pw_below_drewN | apply below_drew1 | refine below_set ?_ GE612.out) | exact HB.out))) : w.heap.size ≤ gb634)); have n14_ := Aside0.mk ((by rw [hg]; exact Nat.ne_of_lt (blk_lt (g := gb612) (o := .cells #[.slice Ao14 t603.length co14, .slice Ao16 t606.length co16, .slice Ao17 t609.length co17] 26 (0, 0)) (by (with_reducible repeat (first | refine blk_drewN ?_ _ | refine blk_drew ?_ | refine blk_alloc ?_ _)); exact BK612.out)) : gb612 ≠ gb634)); have n15_ := Aside0.mk ((by rw [hg]; exact Nat.ne_of_gt (blk_lt (g := gb612) (o := .cells #[.slice Ao14 t603.length co14, .slice Ao16 t606.length co16, .slice Ao17 t609.length co17] 26 (0, 0)) (by (with_reducible repeat (first | refine blk_drewN ?_ _ | refine blk_drew ?_ | refine blk_alloc ?_ _)); exact BK612.out)) : gb634 ≠ gb612)); clear HO_7; clear HO_35; clear HO_42; clear HO_613000; clear HO_613001; clear HO_613002; clear HO627; clear HO630; clear HO633; clear BK612; clear HB; have HO_7 := n0_; have HO_35 := n1_; have HO_42 := n2_; have HO_613000 := n3_; have HO_613001 := n4_; have HO_613002 := n5_; have HO627 := n6_; have HO630 := n7_; have HO633 := n8_; have BK612 := n9_; have HB := n10_; have BK634 := n11_; have GW634 := n12_; have GE634 := n13_; have NB612_634 := n14_; have NB634_612 := n15_; clear n0_ n1_ n2_ n3_ n4_ n5_ n6_ n7_ n8_ n9_ n10_ n11_ n12_ n13_ n14_ n15_; clear hb hbox hg; obtain ⟨Ao38, co38, eo38⟩ := Kd.R_slice HO627.out; subst eo38; have hnb39 := NB634_612.out; have hnc39 := NB612_634.out; have hcz40_0 : w37.cell? ⟨gb634, 0, none⟩ = some (.slice none 0 0) := (blk_cell BK634.out 0).trans rfl; have hcz40_1 : w37.cell? ⟨gb634, 1, none⟩ = some (.slice none 0 0) := (blk_cell BK634.out 1).trans rfl; have hcz40_2 : w37.cell? ⟨gb634, 2, none⟩ = some (.slice none 0 0) := (blk_cell BK634.out 2).trans rfl; have hfz40_0 := blk_frozen BK634.out 0; have hfz40_1 := blk_frozen BK634.out 1; have hfz40_2 := blk_frozen BK634.out 2; obtain ⟨Ao41, co41, eo41⟩ := Kd.N_slice HO630.out; subst eo41; obtain ⟨Ao42, co42, eo42⟩ := Kd.R_slice HO633.out; subst eo42))
             (try simp only [Act.put, List.setIfInBounds_toArray, List.set_cons_zero, List.set_cons_succ])
             go_cut [68] (fun v68 wc => ∃ (kq : Nat) (x68_33 : Bool), v68 = .bool x68_33 ∧ Aside0 (laws_FnJust.j3 kq l1 t616 x37_2 x10_3 t613 (t613.length : Int) x37_2 x68_33 t603 t606 t609 t625 t628 t631 = some r) ∧ Aside0 (kq ≤ k3) ∧ Aside0 (Kd.R (Kd.int .i64) 3 wc w.heap.size (fun k_ => some k_ ≠ ((.slice (some ad623) t613.length co23) : Value).ownBlock ∧ some k_ ≠ ((.slice Ao14 t603.length co14) : Value).ownBlock ∧ some k_ ≠ ((.slice Ao17 t609.length co17) : Value).ownBlock ∧ some k_ ≠ ((.slice Ao38 t625.length co38) : Value).ownBlock ∧ some k_ ≠ ((.slice Ao42 t631.length co42) : Value).ownBlock) (.slice Ao28 t616.length co28) t616) ∧ Aside0 (Kd.R (Kd.int .i64) 3 wc w.heap.size (fun k_ => some k_ ≠ ((.slice Ao28 t616.length co28) : Value).ownBlock ∧ some k_ ≠ ((.slice Ao14 t603.length co14) : Value).ownBlock ∧ some k_ ≠ ((.slice Ao17 t609.length co17) : Value).ownBlock ∧ some k_ ≠ ((.slice Ao38 t625.length co38) : Value).ownBlock ∧ some k_ ≠ ((.slice Ao42 t631.length co42) : Value).ownBlock) (.slice (some ad623) t613.length co23) t613) ∧ Aside0 (Kd.R (Kd.int .i64) 3 wc w.heap.size (fun k_ => some k_ ≠ ((.slice Ao28 t616.length co28) : Value).ownBlock ∧ some k_ ≠ ((.slice (some ad623) t613.length co23) : Value).ownBlock ∧ some k_ ≠ ((.slice Ao17 t609.length co17) : Value).ownBlock ∧ some k_ ≠ ((.slice Ao38 t625.length co38) : Value).ownBlock ∧ some k_ ≠ ((.slice Ao42 t631.length co42) : Value).ownBlock) (.slice Ao14 t603.length co14) t603) ∧ Aside0 (Kd.N k35 35 wc w.heap.size (fun k_ => some k_ ≠ ((.slice Ao28 t616.length co28) : Value).ownBlock ∧ some k_ ≠ ((.slice (some ad623) t613.length co23) : Value).ownBlock ∧ some k_ ≠ ((.slice Ao14 t603.length co14) : Value).ownBlock ∧ some k_ ≠ ((.slice Ao17 t609.length co17) : Value).ownBlock ∧ some k_ ≠ ((.slice Ao38 t625.length co38) : Value).ownBlock ∧ some k_ ≠ ((.slice Ao41 t628.length co41) : Value).ownBlock ∧ some k_ ≠ ((.slice Ao42 t631.length co42) : Value).ownBlock ∧ k_ ≠ gb612 ∧ k_ ≠ gb634) (.slice Ao16 t606.length co16) t606) ∧ Aside0 (Kd.R (Kd.int .i64) 3 wc w.heap.size (fun k_ => some k_ ≠ ((.slice Ao28 t616.length co28) : Value).ownBlock ∧ some k_ ≠ ((.slice (some ad623) t613.length co23) : Value).ownBlock ∧ some k_ ≠ ((.slice Ao14 t603.length co14) : Value).ownBlock ∧ some k_ ≠ ((.slice Ao38 t625.length co38) : Value).ownBlock ∧ some k_ ≠ ((.slice Ao42 t631.length co42) : Value).ownBlock) (.slice Ao17 t609.length co17) t609) ∧ Aside0 (Kd.R (Kd.int .i64) 3 wc w.heap.size (fun k_ => some k_ ≠ ((.slice Ao28 t616.length co28) : Value).ownBlock ∧ some k_ ≠ ((.slice (some ad623) t613.length co23) : Value).ownBlock ∧ some k_ ≠ ((.slice Ao14 t603.length co14) : Value).ownBlock ∧ some k_ ≠ ((.slice Ao17 t609.length co17) : Value).ownBlock ∧ some k_ ≠ ((.slice Ao42 t631.length co42) : Value).ownBlock) (.slice Ao38 t625.length co38) t625) ∧ Aside0 (Kd.N k35 35 wc w.heap.size (fun k_ => some k_ ≠ ((.slice Ao28 t616.length co28) : Value).ownBlock ∧ some k_ ≠ ((.slice (some ad623) t613.length co23) : Value).ownBlock ∧ some k_ ≠ ((.slice Ao14 t603.length co14) : Value).ownBlock ∧ some k_ ≠ ((.slice Ao16 t606.length co16) : Value).ownBlock ∧ some k_ ≠ ((.slice Ao17 t609.length co17) : Value).ownBlock ∧ some k_ ≠ ((.slice Ao38 t625.length co38) : Value).ownBlock ∧ some k_ ≠ ((.slice Ao42 t631.length co42) : Value).ownBlock ∧ k_ ≠ gb612 ∧ k_ ≠ gb634) (.slice Ao41 t628.length co41) t628) ∧ Aside0 (Kd.R (Kd.int .i64) 3 wc w.heap.size (fun k_ => some k_ ≠ ((.slice Ao28 t616.length co28) : Value).ownBlock ∧ some k_ ≠ ((.slice (some ad623) t613.length co23) : Value).ownBlock ∧ some k_ ≠ ((.slice Ao14 t603.length co14) : Value).ownBlock ∧ some k_ ≠ ((.slice Ao17 t609.length co17) : Value).ownBlock ∧ some k_ ≠ ((.slice Ao38 t625.length co38) : Value).ownBlock) (.slice Ao42 t631.length co42) t631) ∧ Aside0 (wc.heap[gb612]? = some (.cells #[(.slice Ao14 t603.length co14), (.slice Ao16 t606.length co16), (.slice Ao17 t609.length co17)] 26 (0, 0))) ∧ Aside0 (wc.heap[gb634]? = some (.cells #[(.slice Ao38 t625.length co38), (.slice Ao41 t628.length co41), (.slice Ao42 t631.length co42)] 26 (0, 0))) ∧ Aside0 (Below w.heap.size w wc))
             case first =>
              have H := HC34.out
              clear HC34
              by_cases c43 : (t628.length : Int) = 0
              ·rw [if_pos c43] at H
               have c43b0 : ((t628.length : Int) == 0) = true := beq_iff_eq.mpr c43
               have c43b1 : ((t628.length : Int) != 0) = false := bne_eq_false_iff_eq.mpr c43
               clear c43
               (first | rw [c43b0] | (simp only [i64_w, i32_w]; rw [c43b0]) | skip)
               have H' := Aside0.mk H
               clear H
               have hnb44 := NB634_612.out
               have hnc44 := NB612_634.out
               have hcz45_0 : w37.cell? ⟨gb634, 0, none⟩ = some (.slice none 0 0) := (blk_cell BK634.out 0).trans rfl
               have hcz45_1 : w37.cell? ⟨gb634, 1, none⟩ = some (.slice none 0 0) := (blk_cell BK634.out 1).trans rfl
               have hcz45_2 : w37.cell? ⟨gb634, 2, none⟩ = some (.slice none 0 0) := (blk_cell BK634.out 2).trans rfl
               have hfz45_0 := blk_frozen BK634.out 0
               have hfz45_1 := blk_frozen BK634.out 1
               have hfz45_2 := blk_frozen BK634.out 2
               go_wp2
               go_meet
               case rel => exact ⟨_, ((x10_3 != true)), (by first | rfl | (simp; done) | (simp [*]; done)), H', ⟨by have := HJ2.out; have := HK2.out; have := HK3.out; first | omega | exact Nat.le_refl _⟩, ⟨by (with_reducible repeat (first | apply Kd.R_alloc | apply Kd.R_drewN | apply Kd.R_drew)); exact Kd.R_mono (Kd.R_far (p := ⟨gb634, 2, none⟩) (Kd.R_far (p := ⟨gb634, 1, none⟩) (Kd.R_far (p := ⟨gb634, 0, none⟩) (Kd.R_types HO_7.out BK634.out (by decide)) (fun _ hk => hk.2) (.slice Ao38 t625.length co38)) (fun _ hk => hk.2) (.slice Ao41 t628.length co41)) (fun _ hk => hk.2) (.slice Ao42 t631.length co42)) (fun _ hk => ⟨hk.1.1.1.1, ⟨hk.1.1.1.2.1, ⟨hk.1.1.1.2.2, ⟨hk.1.1.2, hk.1.2⟩⟩⟩⟩)⟩, ⟨by (with_reducible repeat (first | apply Kd.R_alloc | apply Kd.R_drewN | apply Kd.R_drew)); exact Kd.R_mono (Kd.R_far (p := ⟨gb634, 2, none⟩) (Kd.R_far (p := ⟨gb634, 1, none⟩) (Kd.R_far (p := ⟨gb634, 0, none⟩) (Kd.R_types HO_35.out BK634.out (by decide)) (fun _ hk => hk.2) (.slice Ao38 t625.length co38)) (fun _ hk => hk.2) (.slice Ao41 t628.length co41)) (fun _ hk => hk.2) (.slice Ao42 t631.length co42)) (fun _ hk => ⟨hk.1.1.1.1, ⟨hk.1.1.1.2.2.1, ⟨hk.1.1.1.2.2.2, ⟨hk.1.1.2, hk.1.2⟩⟩⟩⟩)⟩, ⟨by (with_reducible repeat (first | apply Kd.R_alloc | apply Kd.R_drewN | apply Kd.R_drew)); exact Kd.R_mono (Kd.R_far (p := ⟨gb634, 2, none⟩) (Kd.R_far (p := ⟨gb634, 1, none⟩) (Kd.R_far (p := ⟨gb634, 0, none⟩) (Kd.R_types HO_613000.out BK634.out (by decide)) (fun _ hk => hk.2) (.slice Ao38 t625.length co38)) (fun _ hk => hk.2) (.slice Ao41 t628.length co41)) (fun _ hk => hk.2) (.slice Ao42 t631.length co42)) (fun _ hk => ⟨hk.1.1.1.1, ⟨hk.1.1.1.2.1, ⟨hk.1.1.1.2.2.2, ⟨hk.1.1.2, hk.1.2⟩⟩⟩⟩)⟩, ⟨by (with_reducible repeat (first | apply Kd.N_alloc | apply Kd.N_drewN | apply Kd.N_drew)); exact Kd.N_mono (Kd.N_far (p := ⟨gb634, 2, none⟩) (Kd.N_far (p := ⟨gb634, 1, none⟩) (Kd.N_far (p := ⟨gb634, 0, none⟩) (Kd.N_mono HO_613001.out (fun k_ hk => (⟨hk, hk.2⟩ : _ ∧ k_ ≠ gb634))) (fun _ hk => hk.2) (.slice Ao38 t625.length co38)) (fun _ hk => hk.2) (.slice Ao41 t628.length co41)) (fun _ hk => hk.2) (.slice Ao42 t631.length co42)) (fun _ hk => ⟨hk.1.1.1.1.1.1, ⟨hk.1.1.1.1.1.2.1, ⟨hk.1.1.1.1.1.2.2.2.1, ⟨hk.1.1.1.1.1.2.2.2.2.1, ⟨hk.1.1.1.1.2, ⟨hk.1.1.1.2, ⟨hk.1.1.2, ⟨hk.1.1.1.1.1.2.2.2.2.2, hk.1.2⟩⟩⟩⟩⟩⟩⟩⟩)⟩, ⟨by (with_reducible repeat (first | apply Kd.R_alloc | apply Kd.R_drewN | apply Kd.R_drew)); exact Kd.R_mono (Kd.R_far (p := ⟨gb634, 2, none⟩) (Kd.R_far (p := ⟨gb634, 1, none⟩) (Kd.R_far (p := ⟨gb634, 0, none⟩) (Kd.R_types HO_613002.out BK634.out (by decide)) (fun _ hk => hk.2) (.slice Ao38 t625.length co38)) (fun _ hk => hk.2) (.slice Ao41 t628.length co41)) (fun _ hk => hk.2) (.slice Ao42 t631.length co42)) (fun _ hk => ⟨hk.1.1.1.1, ⟨hk.1.1.1.2.1, ⟨hk.1.1.1.2.2.2, ⟨hk.1.1.2, hk.1.2⟩⟩⟩⟩)⟩, ⟨by (with_reducible repeat (first | apply Kd.R_alloc | apply Kd.R_drewN | apply Kd.R_drew)); exact Kd.R_mono (Kd.R_far (p := ⟨gb634, 2, none⟩) (Kd.R_far (p := ⟨gb634, 1, none⟩) (Kd.R_far (p := ⟨gb634, 0, none⟩) (Kd.R_types HO627.out BK634.out (by decide)) (fun _ hk => hk.2) (.slice Ao38 t625.length co38)) (fun _ hk => hk.2) (.slice Ao41 t628.length co41)) (fun _ hk => hk.2) (.slice Ao42 t631.length co42)) (fun _ hk => ⟨hk.1.1.1.1.1.2, ⟨hk.1.1.1.1.2, ⟨hk.1.1.2, ⟨hk.1.2, hk.1.1.1.1.1.1⟩⟩⟩⟩)⟩, ⟨by (with_reducible repeat (first | apply Kd.N_alloc | apply Kd.N_drewN | apply Kd.N_drew)); exact Kd.N_mono (Kd.N_far (p := ⟨gb634, 2, none⟩) (Kd.N_far (p := ⟨gb634, 1, none⟩) (Kd.N_far (p := ⟨gb634, 0, none⟩) (Kd.N_mono HO630.out (fun k_ hk => (⟨hk, hk.2⟩ : _ ∧ k_ ≠ gb634))) (fun _ hk => hk.2) (.slice Ao38 t625.length co38)) (fun _ hk => hk.2) (.slice Ao41 t628.length co41)) (fun _ hk => hk.2) (.slice Ao42 t631.length co42)) (fun _ hk => ⟨hk.1.1.2.2.1, ⟨hk.1.1.2.2.2.1, ⟨hk.1.1.2.2.2.2.2.1, ⟨hk.1.1.2.2.2.2.2.2.1, ⟨hk.1.1.2.2.2.2.2.2.2.1, ⟨hk.1.1.1, ⟨hk.1.1.2.1, ⟨hk.1.1.2.2.2.2.2.2.2.2, hk.1.2⟩⟩⟩⟩⟩⟩⟩⟩)⟩, ⟨by (with_reducible repeat (first | apply Kd.R_alloc | apply Kd.R_drewN | apply Kd.R_drew)); exact Kd.R_mono (Kd.R_far (p := ⟨gb634, 2, none⟩) (Kd.R_far (p := ⟨gb634, 1, none⟩) (Kd.R_far (p := ⟨gb634, 0, none⟩) (Kd.R_types HO633.out BK634.out (by decide)) (fun _ hk => hk.2) (.slice Ao38 t625.length co38)) (fun _ hk => hk.2) (.slice Ao41 t628.length co41)) (fun _ hk => hk.2) (.slice Ao42 t631.length co42)) (fun _ hk => ⟨hk.1.1.1.1.1.2, ⟨hk.1.1.1.1.2, ⟨hk.1.1.2, ⟨hk.1.2, hk.1.1.1.1.1.1⟩⟩⟩⟩)⟩, ⟨by (with_reducible repeat (first | refine blk_drewN ?_ _ | refine blk_drew ?_ | refine blk_alloc ?_ _)); refine blk_far ?_ NB612_634.out _; (with_reducible repeat (first | refine blk_drewN ?_ _ | refine blk_drew ?_ | refine blk_alloc ?_ _)); refine blk_far ?_ NB612_634.out _; (with_reducible repeat (first | refine blk_drewN ?_ _ | refine blk_drew ?_ | refine blk_alloc ?_ _)); refine blk_far ?_ NB612_634.out _; (with_reducible repeat (first | refine blk_drewN ?_ _ | refine blk_drew ?_ | refine blk_alloc ?_ _)); exact BK612.out⟩, ⟨by (with_reducible repeat (first | refine blk_drewN ?_ _ | refine blk_drew ?_ | refine blk_alloc ?_ _)); refine blk_put (cs := #[.slice Ao38 t625.length co38, .slice Ao41 t628.length co41, .slice none 0 0]) ?_ 2 _ rfl; (with_reducible repeat (first | refine blk_drewN ?_ _ | refine blk_drew ?_ | refine blk_alloc ?_ _)); refine blk_put (cs := #[.slice Ao38 t625.length co38, .slice none 0 0, .slice none 0 0]) ?_ 1 _ rfl; (with_reducible repeat (first | refine blk_drewN ?_ _ | refine blk_drew ?_ | refine blk_alloc ?_ _)); refine blk_put (cs := #[.slice none 0 0, .slice none 0 0, .slice none 0 0]) ?_ 0 _ rfl; (with_reducible repeat (first | refine blk_drewN ?_ _ | refine blk_drew ?_ | refine blk_alloc ?_ _)); exact BK634.out⟩, ⟨by repeat (first | (with_reducible first | exact HB.out | apply below_alloc | apply pw_below_drewN | apply below_drew1 | refine below_set ?_ GE612.out | refine below_set ?_ GE634.out) | exact HB.out)⟩⟩
              ·rw [if_neg c43] at H
               have c43b0 : ((t628.length : Int) == 0) = false := beq_eq_false_iff_ne.mpr c43
               have c43b1 : ((t628.length : Int) != 0) = true := bne_iff_ne.mpr c43
               have c43b2 : ¬ (t628 = []) := fun h_ => c43 (by rw [h_]; rfl)
               (first | rw [c43b0] | (simp only [i64_w, i32_w]; rw [c43b0]) | skip)
               replace H := Option.bind_eq_some_iff.mp H
               obtain ⟨⟨t635, t636, t637⟩, A460, H⟩ := H
               replace H : (laws_FnJust.j3 k3 l1 t616 x37_2 x10_3 t613 (t613.length : Int) x37_2 (x10_3 != t635) t603 t606 t609 t625 t628 t631) = some r := H
               have A46 := Aside0.mk A460
               clear A460
               have H' := Aside0.mk H
               clear H
               have hnb47 := NB634_612.out
               have hnc47 := NB612_634.out
               have hcz48_0 : w37.cell? ⟨gb634, 0, none⟩ = some (.slice none 0 0) := (blk_cell BK634.out 0).trans rfl
               have hcz48_1 : w37.cell? ⟨gb634, 1, none⟩ = some (.slice none 0 0) := (blk_cell BK634.out 1).trans rfl
               have hcz48_2 : w37.cell? ⟨gb634, 2, none⟩ = some (.slice none 0 0) := (blk_cell BK634.out 2).trans rfl
               have hfz48_0 := blk_frozen BK634.out 0
               have hfz48_1 := blk_frozen BK634.out 1
               have hfz48_2 := blk_frozen BK634.out 2
               go_wp2_with (first | (go_at_call 24; (with_reducible refine (impl_Solve.calls k3 _ _ t625 _ _ t628 _ _ t631 t635 t636 t637 _ ?side1 ?side2 ?side3 ?side4 ?side5 ?side6 A46.out).mono ?_); (case side1 => refine (Kd.R_reads' (e := 3) (base := w.heap.size) (ok := fun k_ => (((((some k_ ≠ (.slice Ao42 t631.length co42 : Value).ownBlock ∧ some k_ ≠ (.slice Ao28 t616.length co28 : Value).ownBlock) ∧ some k_ ≠ (.slice (some ad623) t613.length co23 : Value).ownBlock) ∧ some k_ ≠ (.slice Ao28 t616.length co28 : Value).ownBlock) ∧ some k_ ≠ (.slice Ao14 t603.length co14 : Value).ownBlock) ∧ some k_ ≠ (.slice Ao17 t609.length co17 : Value).ownBlock)) (n := t625.length) (c := co38) ?_).2.2; exact (by (with_reducible repeat (first | apply Kd.R_alloc | apply Kd.R_drewN | apply Kd.R_drew)); exact (Kd.R_mono (Kd.R_far (p := ⟨gb634, 2, none⟩) (Kd.R_far (p := ⟨gb634, 1, none⟩) (Kd.R_far (p := ⟨gb634, 0, none⟩) (Kd.R_types HO627.out BK634.out (by decide)) (fun _ hk => hk.2) (.slice Ao38 t625.length co38)) (fun _ hk => hk.2) (.slice Ao41 t628.length co41)) (fun _ hk => hk.2) (.slice Ao42 t631.length co42)) (fun _ h_ => h_.1)))); (case side2 => exact (Kd.R_reads' HO627.out).2.1); (case side3 => refine (Kd.N_reads' (e := 35) (base := w.heap.size) (ok := fun k_ => ((some k_ ≠ (.slice Ao38 t625.length co38 : Value).ownBlock ∧ (some k_ ≠ (.slice Ao42 t631.length co42 : Value).ownBlock ∧ (some k_ ≠ (.slice Ao28 t616.length co28 : Value).ownBlock ∧ (some k_ ≠ (.slice (some ad623) t613.length co23 : Value).ownBlock ∧ (some k_ ≠ (.slice Ao28 t616.length co28 : Value).ownBlock ∧ (some k_ ≠ (.slice Ao14 t603.length co14 : Value).ownBlock ∧ (some k_ ≠ (.slice Ao16 t606.length co16 : Value).ownBlock ∧ (some k_ ≠ (.slice Ao17 t609.length co17 : Value).ownBlock ∧ k_ ≠ gb612)))))))) ∧ k_ ≠ gb634)) (n := t628.length) (c := co41) ?_).2.2; exact (by (with_reducible repeat (first | apply Kd.N_alloc | apply Kd.N_drewN | apply Kd.N_drew)); exact (Kd.N_mono (Kd.N_far (p := ⟨gb634, 2, none⟩) (Kd.N_far (p := ⟨gb634, 1, none⟩) (Kd.N_far (p := ⟨gb634, 0, none⟩) (Kd.N_mono HO630.out (fun k_ hk => (⟨hk, hk.2⟩ : _ ∧ k_ ≠ gb634))) (fun _ hk => hk.2) (.slice Ao38 t625.length co38)) (fun _ hk => hk.2) (.slice Ao41 t628.length co41)) (fun _ hk => hk.2) (.slice Ao42 t631.length co42)) (fun _ h_ => h_.1)))); (case side4 => exact (Kd.N_reads' HO630.out).2.1); (case side5 => refine (Kd.R_reads' (e := 3) (base := w.heap.size) (ok := fun k_ => (((((some k_ ≠ (.slice Ao38 t625.length co38 : Value).ownBlock ∧ some k_ ≠ (.slice Ao28 t616.length co28 : Value).ownBlock) ∧ some k_ ≠ (.slice (some ad623) t613.length co23 : Value).ownBlock) ∧ some k_ ≠ (.slice Ao28 t616.length co28 : Value).ownBlock) ∧ some k_ ≠ (.slice Ao14 t603.length co14 : Value).ownBlock) ∧ some k_ ≠ (.slice Ao17 t609.length co17 : Value).ownBlock)) (n := t631.length) (c := co42) ?_).2.2; exact (by (with_reducible repeat (first | apply Kd.R_alloc | apply Kd.R_drewN | apply Kd.R_drew)); exact (Kd.R_mono (Kd.R_far (p := ⟨gb634, 2, none⟩) (Kd.R_far (p := ⟨gb634, 1, none⟩) (Kd.R_far (p := ⟨gb634, 0, none⟩) (Kd.R_types HO633.out BK634.out (by decide)) (fun _ hk => hk.2) (.slice Ao38 t625.length co38)) (fun _ hk => hk.2) (.slice Ao41 t628.length co41)) (fun _ hk => hk.2) (.slice Ao42 t631.length co42)) (fun _ h_ => h_.1)))); (case side6 => exact (Kd.R_reads' HO633.out).2.1); rintro e w49 ⟨v638, rfl, ho0, hb⟩; have n0_ := Aside0.mk (Kd.R_elder' (by (with_reducible repeat (first | apply Kd.R_alloc | apply Kd.R_drewN | apply Kd.R_drew)); exact (Kd.R_mono (Kd.R_far (p := ⟨gb634, 2, none⟩) (Kd.R_far (p := ⟨gb634, 1, none⟩) (Kd.R_far (p := ⟨gb634, 0, none⟩) (Kd.R_types HO_7.out BK634.out (by decide)) (fun _ hk => hk.2) (.slice Ao38 t625.length co38)) (fun _ hk => hk.2) (.slice Ao41 t628.length co41)) (fun _ hk => hk.2) (.slice Ao42 t631.length co42)) (fun _ h_ => h_.1))) (Kd.R_base ho0) hb); have n1_ := Aside0.mk (Kd.R_elder' (by (with_reducible repeat (first | apply Kd.R_alloc | apply Kd.R_drewN | apply Kd.R_drew)); exact (Kd.R_mono (Kd.R_far (p := ⟨gb634, 2, none⟩) (Kd.R_far (p := ⟨gb634, 1, none⟩) (Kd.R_far (p := ⟨gb634, 0, none⟩) (Kd.R_types HO_35.out BK634.out (by decide)) (fun _ hk => hk.2) (.slice Ao38 t625.length co38)) (fun _ hk => hk.2) (.slice Ao41 t628.length co41)) (fun _ hk => hk.2) (.slice Ao42 t631.length co42)) (fun _ h_ => h_.1))) (Kd.R_base ho0) hb); have n2_ := Aside0.mk (Kd.R_elder' (by (with_reducible repeat (first | apply Kd.R_alloc | apply Kd.R_drewN | apply Kd.R_drew)); exact (Kd.R_mono (Kd.R_far (p := ⟨gb634, 2, none⟩) (Kd.R_far (p := ⟨gb634, 1, none⟩) (Kd.R_far (p := ⟨gb634, 0, none⟩) (Kd.R_types HO_42.out BK634.out (by decide)) (fun _ hk => hk.2) (.slice Ao38 t625.length co38)) (fun _ hk => hk.2) (.slice Ao41 t628.length co41)) (fun _ hk => hk.2) (.slice Ao42 t631.length co42)) (fun _ h_ => h_.1))) (Kd.R_base ho0) hb); have n3_ := Aside0.mk (Kd.R_elder' (by (with_reducible repeat (first | apply Kd.R_alloc | apply Kd.R_drewN | apply Kd.R_drew)); exact (Kd.R_mono (Kd.R_far (p := ⟨gb634, 2, none⟩) (Kd.R_far (p := ⟨gb634, 1, none⟩) (Kd.R_far (p := ⟨gb634, 0, none⟩) (Kd.R_types HO_613000.out BK634.out (by decide)) (fun _ hk => hk.2) (.slice Ao38 t625.length co38)) (fun _ hk => hk.2) (.slice Ao41 t628.length co41)) (fun _ hk => hk.2) (.slice Ao42 t631.length co42)) (fun _ h_ => h_.1))) (Kd.R_base ho0) hb); have n4_ := Aside0.mk (Kd.N_elder' (by (with_reducible repeat (first | apply Kd.N_alloc | apply Kd.N_drewN | apply Kd.N_drew)); exact (Kd.N_mono (Kd.N_far (p := ⟨gb634, 2, none⟩) (Kd.N_far (p := ⟨gb634, 1, none⟩) (Kd.N_far (p := ⟨gb634, 0, none⟩) (Kd.N_mono HO_613001.out (fun k_ hk => (⟨hk, hk.2⟩ : _ ∧ k_ ≠ gb634))) (fun _ hk => hk.2) (.slice Ao38 t625.length co38)) (fun _ hk => hk.2) (.slice Ao41 t628.length co41)) (fun _ hk => hk.2) (.slice Ao42 t631.length co42)) (fun _ h_ => h_.1))) (Kd.R_base ho0) hb); have n5_ := Aside0.mk (Kd.R_elder' (by (with_reducible repeat (first | apply Kd.R_alloc | apply Kd.R_drewN | apply Kd.R_drew)); exact (Kd.R_mono (Kd.R_far (p := ⟨gb634, 2, none⟩) (Kd.R_far (p := ⟨gb634, 1, none⟩) (Kd.R_far (p := ⟨gb634, 0, none⟩) (Kd.R_types HO_613002.out BK634.out (by decide)) (fun _ hk => hk.2) (.slice Ao38 t625.length co38)) (fun _ hk => hk.2) (.slice Ao41 t628.length co41)) (fun _ hk => hk.2) (.slice Ao42 t631.length co42)) (fun _ h_ => h_.1))) (Kd.R_base ho0) hb); have n6_ := Aside0.mk (Kd.R_elder' (by (with_reducible repeat (first | apply Kd.R_alloc | apply Kd.R_drewN | apply Kd.R_drew)); exact (Kd.R_mono (Kd.R_far (p := ⟨gb634, 2, none⟩) (Kd.R_far (p := ⟨gb634, 1, none⟩) (Kd.R_far (p := ⟨gb634, 0, none⟩) (Kd.R_types HO627.out BK634.out (by decide)) (fun _ hk => hk.2) (.slice Ao38 t625.length co38)) (fun _ hk => hk.2) (.slice Ao41 t628.length co41)) (fun _ hk => hk.2) (.slice Ao42 t631.length co42)) (fun _ h_ => h_.1))) (Kd.R_base ho0) hb); have n7_ := Aside0.mk (Kd.N_elder' (by (with_reducible repeat (first | apply Kd.N_alloc | apply Kd.N_drewN | apply Kd.N_drew)); exact (Kd.N_mono (Kd.N_far (p := ⟨gb634, 2, none⟩) (Kd.N_far (p := ⟨gb634, 1, none⟩) (Kd.N_far (p := ⟨gb634, 0, none⟩) (Kd.N_mono HO630.out (fun k_ hk => (⟨hk, hk.2⟩ : _ ∧ k_ ≠ gb634))) (fun _ hk => hk.2) (.slice Ao38 t625.length co38)) (fun _ hk => hk.2) (.slice Ao41 t628.length co41)) (fun _ hk => hk.2) (.slice Ao42 t631.length co42)) (fun _ h_ => h_.1))) (Kd.R_base ho0) hb); have n8_ := Aside0.mk (Kd.R_elder' (by (with_reducible repeat (first | apply Kd.R_alloc | apply Kd.R_drewN | apply Kd.R_drew)); exact (Kd.R_mono (Kd.R_far (p := ⟨gb634, 2, none⟩) (Kd.R_far (p := ⟨gb634, 1, none⟩) (Kd.R_far (p := ⟨gb634, 0, none⟩) (Kd.R_types HO633.out BK634.out (by decide)) (fun _ hk => hk.2) (.slice Ao38 t625.length co38)) (fun _ hk => hk.2) (.slice Ao41 t628.length co41)) (fun _ hk => hk.2) (.slice Ao42 t631.length co42)) (fun _ h_ => h_.1))) (Kd.R_base ho0) hb); have n9_ := Aside0.mk (Kd.R_lower (Kd.R_new' (Kd.R_new' (Kd.R_new' (Kd.R_new' (Kd.R_new' (Kd.R_new' (Kd.R_new' ho0 (Kd.R_lt (by (with_reducible repeat (first | apply Kd.R_alloc | apply Kd.R_drewN | apply Kd.R_drew)); exact (Kd.R_mono (Kd.R_far (p := ⟨gb634, 2, none⟩) (Kd.R_far (p := ⟨gb634, 1, none⟩) (Kd.R_far (p := ⟨gb634, 0, none⟩) (Kd.R_types HO_7.out BK634.out (by decide)) (fun _ hk => hk.2) (.slice Ao38 t625.length co38)) (fun _ hk => hk.2) (.slice Ao41 t628.length co41)) (fun _ hk => hk.2) (.slice Ao42 t631.length co42)) (fun _ h_ => h_.1))))) (Kd.R_lt (by (with_reducible repeat (first | apply Kd.R_alloc | apply Kd.R_drewN | apply Kd.R_drew)); exact (Kd.R_mono (Kd.R_far (p := ⟨gb634, 2, none⟩) (Kd.R_far (p := ⟨gb634, 1, none⟩) (Kd.R_far (p := ⟨gb634, 0, none⟩) (Kd.R_types HO_35.out BK634.out (by decide)) (fun _ hk => hk.2) (.slice Ao38 t625.length co38)) (fun _ hk => hk.2) (.slice Ao41 t628.length co41)) (fun _ hk => hk.2) (.slice Ao42 t631.length co42)) (fun _ h_ => h_.1))))) (Kd.R_lt (by (with_reducible repeat (first | apply Kd.R_alloc | apply Kd.R_drewN | apply Kd.R_drew)); exact (Kd.R_mono (Kd.R_far (p := ⟨gb634, 2, none⟩) (Kd.R_far (p := ⟨gb634, 1, none⟩) (Kd.R_far (p := ⟨gb634, 0, none⟩) (Kd.R_types HO_42.out BK634.out (by decide)) (fun _ hk => hk.2) (.slice Ao38 t625.length co38)) (fun _ hk => hk.2) (.slice Ao41 t628.length co41)) (fun _ hk => hk.2) (.slice Ao42 t631.length co42)) (fun _ h_ => h_.1))))) (Kd.R_lt (by (with_reducible repeat (first | apply Kd.R_alloc | apply Kd.R_drewN | apply Kd.R_drew)); exact (Kd.R_mono (Kd.R_far (p := ⟨gb634, 2, none⟩) (Kd.R_far (p := ⟨gb634, 1, none⟩) (Kd.R_far (p := ⟨gb634, 0, none⟩) (Kd.R_types HO_613000.out BK634.out (by decide)) (fun _ hk => hk.2) (.slice Ao38 t625.length co38)) (fun _ hk => hk.2) (.slice Ao41 t628.length co41)) (fun _ hk => hk.2) (.slice Ao42 t631.length co42)) (fun _ h_ => h_.1))))) (Kd.R_lt (by (with_reducible repeat (first | apply Kd.R_alloc | apply Kd.R_drewN | apply Kd.R_drew)); exact (Kd.R_mono (Kd.R_far (p := ⟨gb634, 2, none⟩) (Kd.R_far (p := ⟨gb634, 1, none⟩) (Kd.R_far (p := ⟨gb634, 0, none⟩) (Kd.R_types HO_613002.out BK634.out (by decide)) (fun _ hk => hk.2) (.slice Ao38 t625.length co38)) (fun _ hk => hk.2) (.slice Ao41 t628.length co41)) (fun _ hk => hk.2) (.slice Ao42 t631.length co42)) (fun _ h_ => h_.1))))) (Kd.R_lt (by (with_reducible repeat (first | apply Kd.R_alloc | apply Kd.R_drewN | apply Kd.R_drew)); exact (Kd.R_mono (Kd.R_far (p := ⟨gb634, 2, none⟩) (Kd.R_far (p := ⟨gb634, 1, none⟩) (Kd.R_far (p := ⟨gb634, 0, none⟩) (Kd.R_types HO627.out BK634.out (by decide)) (fun _ hk => hk.2) (.slice Ao38 t625.length co38)) (fun _ hk => hk.2) (.slice Ao41 t628.length co41)) (fun _ hk => hk.2) (.slice Ao42 t631.length co42)) (fun _ h_ => h_.1))))) (Kd.R_lt (by (with_reducible repeat (first | apply Kd.R_alloc | apply Kd.R_drewN | apply Kd.R_drew)); exact (Kd.R_mono (Kd.R_far (p := ⟨gb634, 2, none⟩) (Kd.R_far (p := ⟨gb634, 1, none⟩) (Kd.R_far (p := ⟨gb634, 0, none⟩) (Kd.R_types HO633.out BK634.out (by decide)) (fun _ hk => hk.2) (.slice Ao38 t625.length co38)) (fun _ hk => hk.2) (.slice Ao41 t628.length co41)) (fun _ hk => hk.2) (.slice Ao42 t631.length co42)) (fun _ h_ => h_.1))))) (below_size (by repeat (first | (with_reducible first | exact HB.out | apply below_alloc | apply pw_below_drewN | apply below_drew1 | refine below_set ?_ GE612.out | refine below_set ?_ GE634.out) | exact HB.out)))); have n10_ := Aside0.mk (blk_below (g := gb612) (o := .cells #[.slice Ao14 t603.length co14, .slice Ao16 t606.length co16, .slice Ao17 t609.length co17] 26 (0, 0)) (by (with_reducible repeat (first | refine blk_drewN ?_ _ | refine blk_drew ?_ | refine blk_alloc ?_ _)); refine blk_far ?_ NB612_634.out _; (with_reducible repeat (first | refine blk_drewN ?_ _ | refine blk_drew ?_ | refine blk_alloc ?_ _)); refine blk_far ?_ NB612_634.out _; (with_reducible repeat (first | refine blk_drewN ?_ _ | refine blk_drew ?_ | refine blk_alloc ?_ _)); refine blk_far ?_ NB612_634.out _; (with_reducible repeat (first | refine blk_drewN ?_ _ | refine blk_drew ?_ | refine blk_alloc ?_ _)); exact BK612.out) hb); have n11_ := Aside0.mk (blk_below (g := gb634) (o := .cells #[.slice Ao38 t625.length co38, .slice Ao41 t628.length co41, .slice Ao42 t631.length co42] 26 (0, 0)) (by (with_reducible repeat (first | refine blk_drewN ?_ _ | refine blk_drew ?_ | refine blk_alloc ?_ _)); refine blk_put (cs := #[.slice Ao38 t625.length co38, .slice Ao41 t628.length co41, .slice none 0 0]) ?_ 2 _ rfl; (with_reducible repeat (first | refine blk_drewN ?_ _ | refine blk_drew ?_ | refine blk_alloc ?_ _)); refine blk_put (cs := #[.slice Ao38 t625.length co38, .slice none 0 0, .slice none 0 0]) ?_ 1 _ rfl; (with_reducible repeat (first | refine blk_drewN ?_ _ | refine blk_drew ?_ | refine blk_alloc ?_ _)); refine blk_put (cs := #[.slice none 0 0, .slice none 0 0, .slice none 0 0]) ?_ 0 _ rfl; (with_reducible repeat (first | refine blk_drewN ?_ _ | refine blk_drew ?_ | refine blk_alloc ?_ _)); exact BK634.out) hb); have n12_ := Aside0.mk (below_step (by repeat (first | (with_reducible first | exact HB.out | apply below_alloc | apply pw_below_drewN | apply below_drew1 | refine below_set ?_ GE612.out | refine below_set ?_ GE634.out) | exact HB.out)) hb); clear HO_7; clear HO_35; clear HO_42; clear HO_613000; clear HO_613001; clear HO_613002; clear HO627; clear HO630; clear HO633; clear BK612; clear BK634; clear HB; have HO_7 := n0_; have HO_35 := n1_; have HO_42 := n2_; have HO_613000 := n3_; have HO_613001 := n4_; have HO_613002 := n5_; have HO627 := n6_; have HO630 := n7_; have HO633 := n8_; have HO639 := n9_; have BK612 := n10_; have BK634 := n11_; have HB := n12_; clear n0_ n1_ n2_ n3_ n4_ n5_ n6_ n7_ n8_ n9_ n10_ n11_ n12_; (try clear hb); (try clear hb2); (try clear hk); (try clear hi); (try clear ho0)))
               go_meet
               case rel => exact ⟨_, ((x10_3 != t635)), (by first | rfl | (simp; done) | (simp [*]; done)), H', ⟨by have := HJ2.out; have := HK2.out; have := HK3.out; first | omega | exact Nat.le_refl _⟩, ⟨by (with_reducible repeat (first | apply Kd.R_alloc | apply Kd.R_drewN | apply Kd.R_drew)); exact Kd.R_mono HO_7.out (fun _ hk => ⟨hk.1.1.1.1, ⟨hk.1.1.1.2.1, ⟨hk.1.1.1.2.2, ⟨hk.1.1.2, hk.1.2⟩⟩⟩⟩)⟩, ⟨by (with_reducible repeat (first | apply Kd.R_alloc | apply Kd.R_drewN | apply Kd.R_drew)); exact Kd.R_mono HO_35.out (fun _ hk => ⟨hk.1.1.1.1, ⟨hk.1.1.1.2.2.1, ⟨hk.1.1.1.2.2.2, ⟨hk.1.1.2, hk.1.2⟩⟩⟩⟩)⟩, ⟨by (with_reducible repeat (first | apply Kd.R_alloc | apply Kd.R_drewN | apply Kd.R_drew)); exact Kd.R_mono HO_613000.out (fun _ hk => ⟨hk.1.1.1.1, ⟨hk.1.1.1.2.1, ⟨hk.1.1.1.2.2.2, ⟨hk.1.1.2, hk.1.2⟩⟩⟩⟩)⟩, ⟨by (with_reducible repeat (first | apply Kd.N_alloc | apply Kd.N_drewN | apply Kd.N_drew)); exact Kd.N_mono HO_613001.out (fun _ hk => ⟨hk.1.1.1.1.1.1, ⟨hk.1.1.1.1.1.2.1, ⟨hk.1.1.1.1.1.2.2.2.1, ⟨hk.1.1.1.1.1.2.2.2.2.1, ⟨hk.1.1.1.1.2, ⟨hk.1.1.1.2, ⟨hk.1.1.2, ⟨hk.1.1.1.1.1.2.2.2.2.2, hk.1.2⟩⟩⟩⟩⟩⟩⟩⟩)⟩, ⟨by (with_reducible repeat (first | apply Kd.R_alloc | apply Kd.R_drewN | apply Kd.R_drew)); exact Kd.R_mono HO_613002.out (fun _ hk => ⟨hk.1.1.1.1, ⟨hk.1.1.1.2.1, ⟨hk.1.1.1.2.2.2, ⟨hk.1.1.2, hk.1.2⟩⟩⟩⟩)⟩, ⟨by (with_reducible repeat (first | apply Kd.R_alloc | apply Kd.R_drewN | apply Kd.R_drew)); exact Kd.R_mono HO627.out (fun _ hk => ⟨hk.1.1.1.1.1.2, ⟨hk.1.1.1.1.2, ⟨hk.1.1.2, ⟨hk.1.2, hk.1.1.1.1.1.1⟩⟩⟩⟩)⟩, ⟨by (with_reducible repeat (first | apply Kd.N_alloc | apply Kd.N_drewN | apply Kd.N_drew)); exact Kd.N_mono HO630.out (fun _ hk => ⟨hk.1.1.2.2.1, ⟨hk.1.1.2.2.2.1, ⟨hk.1.1.2.2.2.2.2.1, ⟨hk.1.1.2.2.2.2.2.2.1, ⟨hk.1.1.2.2.2.2.2.2.2.1, ⟨hk.1.1.1, ⟨hk.1.1.2.1, ⟨hk.1.1.2.2.2.2.2.2.2.2, hk.1.2⟩⟩⟩⟩⟩⟩⟩⟩)⟩, ⟨by (with_reducible repeat (first | apply Kd.R_alloc | apply Kd.R_drewN | apply Kd.R_drew)); exact Kd.R_mono HO633.out (fun _ hk => ⟨hk.1.1.1.1.1.2, ⟨hk.1.1.1.1.2, ⟨hk.1.1.2, ⟨hk.1.2, hk.1.1.1.1.1.1⟩⟩⟩⟩)⟩, ⟨by (with_reducible repeat (first | refine blk_drewN ?_ _ | refine blk_drew ?_ | refine blk_alloc ?_ _)); exact BK612.out⟩, ⟨by (with_reducible repeat (first | refine blk_drewN ?_ _ | refine blk_drew ?_ | refine blk_alloc ?_ _)); exact BK634.out⟩, ⟨by repeat (first | (with_reducible first | exact HB.out | apply below_alloc | apply pw_below_drewN | apply below_drew1 | refine below_set ?_ GE612.out | refine below_set ?_ GE634.out) | exact HB.out)⟩⟩
             case rest =>
              clear HC34
              try clear c1
              try clear c2
              try clear p2
              try clear c3
              try clear c4
              try clear c4b0
              try clear c4b1
              try clear c5
              try clear p6
              try clear q6
              try clear hx6
              try clear c11
              try clear c14
              try clear c19
              try clear c20
              try clear c21
              try clear c22
              try clear c23
              try clear c25
              try clear c25b0
              try clear c26
              try clear c26b0
              try clear c27
              try clear c27b0
              try clear c29
              try clear c29b0
              try clear c30
              try clear c30b0
              try clear c31
              try clear c31b0
              try clear c32
              try clear c39
              try clear c43
              try clear c43b0
              try clear c43b1
              try clear c43b2
              try clear c44
              try clear c47
              try clear hcz15_0
              try clear hcz15_1
              try clear hcz15_2
              try clear hcz19_0
              try clear hcz19_1
              try clear hcz19_2
              try clear hcz21_0
              try clear hcz21_1
              try clear hcz21_2
              try clear hcz35_0
              try clear hcz35_1
              try clear hcz35_2
              try clear hcz40_0
              try clear hcz40_1
              try clear hcz40_2
              try clear hcz45_0
              try clear hcz45_1
              try clear hcz45_2
              try clear hcz48_0
              try clear hcz48_1
              try clear hcz48_2
              try clear hfz15_0
              try clear hfz15_1
              try clear hfz15_2
              try clear hfz19_0
              try clear hfz19_1
              try clear hfz19_2
              try clear hfz21_0
              try clear hfz21_1
              try clear hfz21_2
              try clear hfz35_0
              try clear hfz35_1
              try clear hfz35_2
              try clear hfz40_0
              try clear hfz40_1
              try clear hfz40_2
              try clear hfz45_0
              try clear hfz45_1
              try clear hfz45_2
              try clear hfz48_0
              try clear hfz48_1
              try clear hfz48_2
              try clear hx623_0
              try clear hx624_0
              try clear p2
              try clear p6
              try clear p623
              try clear p624
              try clear q6
              try clear q623
              try clear q624
              obtain ⟨kq, x68_33, rfl, HA, HJ33, HO_7, HO_35, HO_613000, HO_613001, HO_613002, HO_635000, HO_635001, HO_635002, BK612, BK634, HB⟩ := hcut
              cases kq with
              | zero => exact absurd HA.out (by simp [laws_FnJust.j3])
              | succ kj33 =>
               have H := HA.out
               clear HA
               simp only [laws_FnJust.j3] at H
               by_cases c50 : x68_33 = true
               ·subst c50
                have H1 : (some false) = some r := by rw [if_pos rfl] at H; exact H
                clear H
                have H := H1
                exact absurd (H.trans (congrArg some hT_.out)) (by simp)
               ·replace c50 := Bool.eq_false_iff.mpr c50
                subst c50
                have H1 : (laws_FnJust.l2 kj33 l1 t616 x37_2 x10_3 0 t613 (t613.length : Int) x37_2 t603 t606 t609 t625 t628 t631) = some r := by rw [if_neg (show ¬ (false = true) by decide)] at H; exact H
                clear H
                have H := H1
                clear H1
                have H' := Aside0.mk H
                clear H
                go_wp2
                go_loopg [14] kj33 (fun kq v14 w' => ∃ (x14_5 : Int) (x635000_5 : List Int) (x635001_5 : List (S35)) (x635002_5 : List Int) (u635000 : Value) (u635001 : Value) (u635002 : Value), v14 = .int .i64 x14_5 ∧ Aside0 (laws_FnJust.l2 kq l1 t616 x37_2 x10_3 x14_5 t613 (t613.length : Int) x37_2 t603 t606 t609 x635000_5 x635001_5 x635002_5 = some r) ∧ Aside0 (kq ≤ kj33) ∧ Aside0 (Kd.R (Kd.int .i64) 3 w' w.heap.size (fun k_ => some k_ ≠ ((.slice (some ad623) t613.length co23) : Value).ownBlock ∧ some k_ ≠ ((.slice Ao14 t603.length co14) : Value).ownBlock ∧ some k_ ≠ ((.slice Ao17 t609.length co17) : Value).ownBlock ∧ some k_ ≠ (u635000 : Value).ownBlock ∧ some k_ ≠ (u635002 : Value).ownBlock) (.slice Ao28 t616.length co28) t616) ∧ Aside0 (Kd.R (Kd.int .i64) 3 w' w.heap.size (fun k_ => some k_ ≠ ((.slice Ao28 t616.length co28) : Value).ownBlock ∧ some k_ ≠ ((.slice Ao14 t603.length co14) : Value).ownBlock ∧ some k_ ≠ ((.slice Ao17 t609.length co17) : Value).ownBlock ∧ some k_ ≠ (u635000 : Value).ownBlock ∧ some k_ ≠ (u635002 : Value).ownBlock) (.slice (some ad623) t613.length co23) t613) ∧ Aside0 (Kd.R (Kd.int .i64) 3 w' w.heap.size (fun k_ => some k_ ≠ ((.slice Ao28 t616.length co28) : Value).ownBlock ∧ some k_ ≠ ((.slice (some ad623) t613.length co23) : Value).ownBlock ∧ some k_ ≠ ((.slice Ao17 t609.length co17) : Value).ownBlock ∧ some k_ ≠ (u635000 : Value).ownBlock ∧ some k_ ≠ (u635002 : Value).ownBlock) (.slice Ao14 t603.length co14) t603) ∧ Aside0 (Kd.N k35 35 w' w.heap.size (fun k_ => some k_ ≠ ((.slice Ao28 t616.length co28) : Value).ownBlock ∧ some k_ ≠ ((.slice (some ad623) t613.length co23) : Value).ownBlock ∧ some k_ ≠ ((.slice Ao14 t603.length co14) : Value).ownBlock ∧ some k_ ≠ ((.slice Ao17 t609.length co17) : Value).ownBlock ∧ some k_ ≠ (u635000 : Value).ownBlock ∧ some k_ ≠ (u635001 : Value).ownBlock ∧ some k_ ≠ (u635002 : Value).ownBlock ∧ k_ ≠ gb612 ∧ k_ ≠ gb634) (.slice Ao16 t606.length co16) t606) ∧ Aside0 (Kd.R (Kd.int .i64) 3 w' w.heap.size (fun k_ => some k_ ≠ ((.slice Ao28 t616.length co28) : Value).ownBlock ∧ some k_ ≠ ((.slice (some ad623) t613.length co23) : Value).ownBlock ∧ some k_ ≠ ((.slice Ao14 t603.length co14) : Value).ownBlock ∧ some k_ ≠ (u635000 : Value).ownBlock ∧ some k_ ≠ (u635002 : Value).ownBlock) (.slice Ao17 t609.length co17) t609) ∧ Aside0 (Kd.R (Kd.int .i64) 3 w' w.heap.size (fun k_ => some k_ ≠ ((.slice Ao28 t616.length co28) : Value).ownBlock ∧ some k_ ≠ ((.slice (some ad623) t613.length co23) : Value).ownBlock ∧ some k_ ≠ ((.slice Ao14 t603.length co14) : Value).ownBlock ∧ some k_ ≠ ((.slice Ao17 t609.length co17) : Value).ownBlock ∧ some k_ ≠ (u635002 : Value).ownBlock) u635000 x635000_5) ∧ Aside0 (Kd.N k35 35 w' w.heap.size (fun k_ => some k_ ≠ ((.slice Ao28 t616.length co28) : Value).ownBlock ∧ some k_ ≠ ((.slice (some ad623) t613.length co23) : Value).ownBlock ∧ some k_ ≠ ((.slice Ao14 t603.length co14) : Value).ownBlock ∧ some k_ ≠ ((.slice Ao16 t606.length co16) : Value).ownBlock ∧ some k_ ≠ ((.slice Ao17 t609.length co17) : Value).ownBlock ∧ some k_ ≠ (u635000 : Value).ownBlock ∧ some k_ ≠ (u635002 : Value).ownBlock ∧ k_ ≠ gb612 ∧ k_ ≠ gb634) u635001 x635001_5) ∧ Aside0 (Kd.R (Kd.int .i64) 3 w' w.heap.size (fun k_ => some k_ ≠ ((.slice Ao28 t616.length co28) : Value).ownBlock ∧ some k_ ≠ ((.slice (some ad623) t613.length co23) : Value).ownBlock ∧ some k_ ≠ ((.slice Ao14 t603.length co14) : Value).ownBlock ∧ some k_ ≠ ((.slice Ao17 t609.length co17) : Value).ownBlock ∧ some k_ ≠ (u635000 : Value).ownBlock) u635002 x635002_5) ∧ Aside0 (w'.heap[gb612]? = some (.cells #[(.slice Ao14 t603.length co14), (.slice Ao16 t606.length co16), (.slice Ao17 t609.length co17)] 26 (0, 0))) ∧ Aside0 (w'.heap[gb634]? = some (.cells #[u635000, u635001, u635002] 26 (0, 0))) ∧ Aside0 (Below w.heap.size w w'))
                case atStart => exact ⟨(0), (t625), (t628), (t631), (.slice Ao38 t625.length co38), (.slice Ao41 t628.length co41), (.slice Ao42 t631.length co42), (by first | rfl | (simp; done) | (simp [*]; done)), H', ⟨Nat.le_refl _⟩, ⟨by (with_reducible repeat (first | apply Kd.R_alloc | apply Kd.R_drewN | apply Kd.R_drew)); exact HO_7.out⟩, ⟨by (with_reducible repeat (first | apply Kd.R_alloc | apply Kd.R_drewN | apply Kd.R_drew)); exact HO_35.out⟩, ⟨by (with_reducible repeat (first | apply Kd.R_alloc | apply Kd.R_drewN | apply Kd.R_drew)); exact HO_613000.out⟩, ⟨by (with_reducible repeat (first | apply Kd.N_alloc | apply Kd.N_drewN | apply Kd.N_drew)); exact HO_613001.out⟩, ⟨by (with_reducible repeat (first | apply Kd.R_alloc | apply Kd.R_drewN | apply Kd.R_drew)); exact HO_613002.out⟩, ⟨by (with_reducible repeat (first | apply Kd.R_alloc | apply Kd.R_drewN | apply Kd.R_drew)); exact HO_635000.out⟩, ⟨by (with_reducible repeat (first | apply Kd.N_alloc | apply Kd.N_drewN | apply Kd.N_drew)); exact HO_635001.out⟩, ⟨by (with_reducible repeat (first | apply Kd.R_alloc | apply Kd.R_drewN | apply Kd.R_drew)); exact HO_635002.out⟩, ⟨by (with_reducible repeat (first | refine blk_drewN ?_ _ | refine blk_drew ?_ | refine blk_alloc ?_ _)); exact BK612.out⟩, ⟨by (with_reducible repeat (first | refine blk_drewN ?_ _ | refine blk_drew ?_ | refine blk_alloc ?_ _)); exact BK634.out⟩, ⟨by repeat (first | (with_reducible first | exact HB.out | apply below_alloc | apply pw_below_drewN | apply below_drew1 | refine below_set ?_ GE612.out | refine below_set ?_ GE634.out) | exact HB.out)⟩⟩
                case round =>
                 clear H'
                 try clear c1
                 try clear c2
                 try clear p2
                 try clear c3
                 try clear c4
                 try clear c4b0
                 try clear c4b1
                 try clear c5
                 try clear p6
                 try clear q6
                 try clear hx6
                 try clear c11
                 try clear c14
                 try clear c19
                 try clear c20
                 try clear c21
                 try clear c22
                 try clear c23
                 try clear c25
                 try clear c25b0
                 try clear c26
                 try clear c26b0
                 try clear c27
                 try clear c27b0
                 try clear c29
                 try clear c29b0
                 try clear c30
                 try clear c30b0
                 try clear c31
                 try clear c31b0
                 try clear c32
                 try clear c39
                 try clear c43
                 try clear c43b0
                 try clear c43b1
                 try clear c43b2
                 try clear c44
                 try clear c47
                 try clear c50
                 try clear hcz15_0
                 try clear hcz15_1
                 try clear hcz15_2
                 try clear hcz19_0
                 try clear hcz19_1
                 try clear hcz19_2
                 try clear hcz21_0
                 try clear hcz21_1
                 try clear hcz21_2
                 try clear hcz35_0
                 try clear hcz35_1
                 try clear hcz35_2
                 try clear hcz40_0
                 try clear hcz40_1
                 try clear hcz40_2
                 try clear hcz45_0
                 try clear hcz45_1
                 try clear hcz45_2
                 try clear hcz48_0
                 try clear hcz48_1
                 try clear hcz48_2
                 try clear hfz15_0
                 try clear hfz15_1
                 try clear hfz15_2
                 try clear hfz19_0
                 try clear hfz19_1
                 try clear hfz19_2
                 try clear hfz21_0
                 try clear hfz21_1
                 try clear hfz21_2
                 try clear hfz35_0
                 try clear hfz35_1
                 try clear hfz35_2
                 try clear hfz40_0
                 try clear hfz40_1
                 try clear hfz40_2
                 try clear hfz45_0
                 try clear hfz45_1
                 try clear hfz45_2
                 try clear hfz48_0
                 try clear hfz48_1
                 try clear hfz48_2
                 try clear hx623_0
                 try clear hx624_0
                 try clear p2
                 try clear p6
                 try clear p623
                 try clear p624
                 try clear q6
                 try clear q623
                 try clear q624
                 obtain ⟨x14_5, x635000_5, x635001_5, x635002_5, u635000, u635001, u635002, rfl, HA, HK5, HO_7, HO_35, HO_613000, HO_613001, HO_613002, HO_635000, HO_635001, HO_635002, BK612, BK634, HB⟩ := hrel
                 cases gk with
                 | zero => exact absurd HA.out (by simp [laws_FnJust.l2])
                 | succ k5 =>
                  have H := HA.out
                  clear HA
                  simp only [laws_FnJust.l2] at H
                  have HC51 := Aside0.mk H
                  clear H
                  go_upto_region 21 with (fail)
                  go_cut [76] (fun v76 wc => ∃ (kq : Nat) (x76_50 : Bool), v76 = .bool x76_50 ∧ Aside0 (laws_FnJust.j5 kq l1 t616 x37_2 x10_3 x14_5 t613 (t613.length : Int) x37_2 x76_50 t603 t606 t609 x635000_5 x635001_5 x635002_5 = some r) ∧ Aside0 (kq ≤ k5) ∧ Aside0 (Kd.R (Kd.int .i64) 3 wc w.heap.size (fun k_ => some k_ ≠ ((.slice (some ad623) t613.length co23) : Value).ownBlock ∧ some k_ ≠ ((.slice Ao14 t603.length co14) : Value).ownBlock ∧ some k_ ≠ ((.slice Ao17 t609.length co17) : Value).ownBlock ∧ some k_ ≠ (u635000 : Value).ownBlock ∧ some k_ ≠ (u635002 : Value).ownBlock) (.slice Ao28 t616.length co28) t616) ∧ Aside0 (Kd.R (Kd.int .i64) 3 wc w.heap.size (fun k_ => some k_ ≠ ((.slice Ao28 t616.length co28) : Value).ownBlock ∧ some k_ ≠ ((.slice Ao14 t603.length co14) : Value).ownBlock ∧ some k_ ≠ ((.slice Ao17 t609.length co17) : Value).ownBlock ∧ some k_ ≠ (u635000 : Value).ownBlock ∧ some k_ ≠ (u635002 : Value).ownBlock) (.slice (some ad623) t613.length co23) t613) ∧ Aside0 (Kd.R (Kd.int .i64) 3 wc w.heap.size (fun k_ => some k_ ≠ ((.slice Ao28 t616.length co28) : Value).ownBlock ∧ some k_ ≠ ((.slice (some ad623) t613.length co23) : Value).ownBlock ∧ some k_ ≠ ((.slice Ao17 t609.length co17) : Value).ownBlock ∧ some k_ ≠ (u635000 : Value).ownBlock ∧ some k_ ≠ (u635002 : Value).ownBlock) (.slice Ao14 t603.length co14) t603) ∧ Aside0 (Kd.N k35 35 wc w.heap.size (fun k_ => some k_ ≠ ((.slice Ao28 t616.length co28) : Value).ownBlock ∧ some k_ ≠ ((.slice (some ad623) t613.length co23) : Value).ownBlock ∧ some k_ ≠ ((.slice Ao14 t603.length co14) : Value).ownBlock ∧ some k_ ≠ ((.slice Ao17 t609.length co17) : Value).ownBlock ∧ some k_ ≠ (u635000 : Value).ownBlock ∧ some k_ ≠ (u635001 : Value).ownBlock ∧ some k_ ≠ (u635002 : Value).ownBlock ∧ k_ ≠ gb612 ∧ k_ ≠ gb634) (.slice Ao16 t606.length co16) t606) ∧ Aside0 (Kd.R (Kd.int .i64) 3 wc w.heap.size (fun k_ => some k_ ≠ ((.slice Ao28 t616.length co28) : Value).ownBlock ∧ some k_ ≠ ((.slice (some ad623) t613.length co23) : Value).ownBlock ∧ some k_ ≠ ((.slice Ao14 t603.length co14) : Value).ownBlock ∧ some k_ ≠ (u635000 : Value).ownBlock ∧ some k_ ≠ (u635002 : Value).ownBlock) (.slice Ao17 t609.length co17) t609) ∧ Aside0 (Kd.R (Kd.int .i64) 3 wc w.heap.size (fun k_ => some k_ ≠ ((.slice Ao28 t616.length co28) : Value).ownBlock ∧ some k_ ≠ ((.slice (some ad623) t613.length co23) : Value).ownBlock ∧ some k_ ≠ ((.slice Ao14 t603.length co14) : Value).ownBlock ∧ some k_ ≠ ((.slice Ao17 t609.length co17) : Value).ownBlock ∧ some k_ ≠ (u635002 : Value).ownBlock) u635000 x635000_5) ∧ Aside0 (Kd.N k35 35 wc w.heap.size (fun k_ => some k_ ≠ ((.slice Ao28 t616.length co28) : Value).ownBlock ∧ some k_ ≠ ((.slice (some ad623) t613.length co23) : Value).ownBlock ∧ some k_ ≠ ((.slice Ao14 t603.length co14) : Value).ownBlock ∧ some k_ ≠ ((.slice Ao16 t606.length co16) : Value).ownBlock ∧ some k_ ≠ ((.slice Ao17 t609.length co17) : Value).ownBlock ∧ some k_ ≠ (u635000 : Value).ownBlock ∧ some k_ ≠ (u635002 : Value).ownBlock ∧ k_ ≠ gb612 ∧ k_ ≠ gb634) u635001 x635001_5) ∧ Aside0 (Kd.R (Kd.int .i64) 3 wc w.heap.size (fun k_ => some k_ ≠ ((.slice Ao28 t616.length co28) : Value).ownBlock ∧ some k_ ≠ ((.slice (some ad623) t613.length co23) : Value).ownBlock ∧ some k_ ≠ ((.slice Ao14 t603.length co14) : Value).ownBlock ∧ some k_ ≠ ((.slice Ao17 t609.length co17) : Value).ownBlock ∧ some k_ ≠ (u635000 : Value).ownBlock) u635002 x635002_5) ∧ Aside0 (wc.heap[gb612]? = some (.cells #[(.slice Ao14 t603.length co14), (.slice Ao16 t606.length co16), (.slice Ao17 t609.length co17)] 26 (0, 0))) ∧ Aside0 (wc.heap[gb634]? = some (.cells #[u635000, u635001, u635002] 26 (0, 0))) ∧ Aside0 (Below w.heap.size w wc))
                  case first =>
                   have H := HC51.out
                   clear HC51
                   by_cases c52 : x14_5 < 50
                   ·rw [if_pos c52] at H
                    have c52b0 : decide (x14_5 < 50) = true := decide_eq_true c52
                    clear c52
                    (first | rw [c52b0] | (simp only [i64_w, i32_w]; rw [c52b0]) | skip)
                    have H' := Aside0.mk H
                    clear H
                    have hnb53 := NB634_612.out
                    have hnc53 := NB612_634.out
                    have hcz54_0 : wr.cell? ⟨gb634, 0, none⟩ = some (u635000) := (blk_cell BK634.out 0).trans rfl
                    have hcz54_1 : wr.cell? ⟨gb634, 1, none⟩ = some (u635001) := (blk_cell BK634.out 1).trans rfl
                    have hcz54_2 : wr.cell? ⟨gb634, 2, none⟩ = some (u635002) := (blk_cell BK634.out 2).trans rfl
                    have hfz54_0 := blk_frozen BK634.out 0
                    have hfz54_1 := blk_frozen BK634.out 1
                    have hfz54_2 := blk_frozen BK634.out 2
                    obtain ⟨Ao55, co55, eo55⟩ := Kd.N_slice HO_635001.out
                    subst eo55
                    go_wp2
                    go_meet
                    case rel => exact ⟨_, (decide ((x635001_5.length : Int) > 0)), (by first | rfl | (simp; done) | (simp [*]; done)), H', ⟨by have := HJ2.out; have := HK2.out; have := HK3.out; have := HJ33.out; have := HK5.out; first | omega | exact Nat.le_refl _⟩, ⟨by (with_reducible repeat (first | apply Kd.R_alloc | apply Kd.R_drewN | apply Kd.R_drew)); exact HO_7.out⟩, ⟨by (with_reducible repeat (first | apply Kd.R_alloc | apply Kd.R_drewN | apply Kd.R_drew)); exact HO_35.out⟩, ⟨by (with_reducible repeat (first | apply Kd.R_alloc | apply Kd.R_drewN | apply Kd.R_drew)); exact HO_613000.out⟩, ⟨by (with_reducible repeat (first | apply Kd.N_alloc | apply Kd.N_drewN | apply Kd.N_drew)); exact HO_613001.out⟩, ⟨by (with_reducible repeat (first | apply Kd.R_alloc | apply Kd.R_drewN | apply Kd.R_drew)); exact HO_613002.out⟩, ⟨by (with_reducible repeat (first | apply Kd.R_alloc | apply Kd.R_drewN | apply Kd.R_drew)); exact HO_635000.out⟩, ⟨by (with_reducible repeat (first | apply Kd.N_alloc | apply Kd.N_drewN | apply Kd.N_drew)); exact HO_635001.out⟩, ⟨by (with_reducible repeat (first | apply Kd.R_alloc | apply Kd.R_drewN | apply Kd.R_drew)); exact HO_635002.out⟩, ⟨by (with_reducible repeat (first | refine blk_drewN ?_ _ | refine blk_drew ?_ | refine blk_alloc ?_ _)); exact BK612.out⟩, ⟨by (with_reducible repeat (first | refine blk_drewN ?_ _ | refine blk_drew ?_ | refine blk_alloc ?_ _)); exact BK634.out⟩, ⟨by repeat (first | (with_reducible first | exact HB.out | apply below_alloc | apply pw_below_drewN | apply below_drew1 | refine below_set ?_ GE612.out | refine below_set ?_ GE634.out) | exact HB.out)⟩⟩
                   ·rw [if_neg c52] at H
                    have c52b0 : decide (x14_5 < 50) = false := decide_eq_false c52
                    clear c52
                    (first | rw [c52b0] | (simp only [i64_w, i32_w]; rw [c52b0]) | skip)
                    have H' := Aside0.mk H
                    clear H
                    go_wp2
                    go_meet
                    case rel => exact ⟨_, (false), (by first | rfl | (simp; done) | (simp [*]; done)), H', ⟨by have := HJ2.out; have := HK2.out; have := HK3.out; have := HJ33.out; have := HK5.out; first | omega | exact Nat.le_refl _⟩, ⟨by (with_reducible repeat (first | apply Kd.R_alloc | apply Kd.R_drewN | apply Kd.R_drew)); exact HO_7.out⟩, ⟨by (with_reducible repeat (first | apply Kd.R_alloc | apply Kd.R_drewN | apply Kd.R_drew)); exact HO_35.out⟩, ⟨by (with_reducible repeat (first | apply Kd.R_alloc | apply Kd.R_drewN | apply Kd.R_drew)); exact HO_613000.out⟩, ⟨by (with_reducible repeat (first | apply Kd.N_alloc | apply Kd.N_drewN | apply Kd.N_drew)); exact HO_613001.out⟩, ⟨by (with_reducible repeat (first | apply Kd.R_alloc | apply Kd.R_drewN | apply Kd.R_drew)); exact HO_613002.out⟩, ⟨by (with_reducible repeat (first | apply Kd.R_alloc | apply Kd.R_drewN | apply Kd.R_drew)); exact HO_635000.out⟩, ⟨by (with_reducible repeat (first | apply Kd.N_alloc | apply Kd.N_drewN | apply Kd.N_drew)); exact HO_635001.out⟩, ⟨by (with_reducible repeat (first | apply Kd.R_alloc | apply Kd.R_drewN | apply Kd.R_drew)); exact HO_635002.out⟩, ⟨by (with_reducible repeat (first | refine blk_drewN ?_ _ | refine blk_drew ?_ | refine blk_alloc ?_ _)); exact BK612.out⟩, ⟨by (with_reducible repeat (first | refine blk_drewN ?_ _ | refine blk_drew ?_ | refine blk_alloc ?_ _)); exact BK634.out⟩, ⟨by repeat (first | (with_reducible first | exact HB.out | apply below_alloc | apply pw_below_drewN | apply below_drew1 | refine below_set ?_ GE612.out | refine below_set ?_ GE634.out) | exact HB.out)⟩⟩
                  case rest =>
                   clear HC51
                   try clear c1
                   try clear c2
                   try clear p2
                   try clear c3
                   try clear c4
                   try clear c4b0
                   try clear c4b1
                   try clear c5
                   try clear p6
                   try clear q6
                   try clear hx6
                   try clear c11
                   try clear c14
                   try clear c19
                   try clear c20
                   try clear c21
                   try clear c22
                   try clear c23
                   try clear c25
                   try clear c25b0
                   try clear c26
                   try clear c26b0
                   try clear c27
                   try clear c27b0
                   try clear c29
                   try clear c29b0
                   try clear c30
                   try clear c30b0
                   try clear c31
                   try clear c31b0
                   try clear c32
                   try clear c39
                   try clear c43
                   try clear c43b0
                   try clear c43b1
                   try clear c43b2
                   try clear c44
                   try clear c47
                   try clear c50
                   try clear c52
                   try clear c52b0
                   try clear c53
                   try clear hcz15_0
                   try clear hcz15_1
                   try clear hcz15_2
                   try clear hcz19_0
                   try clear hcz19_1
                   try clear hcz19_2
                   try clear hcz21_0
                   try clear hcz21_1
                   try clear hcz21_2
                   try clear hcz35_0
                   try clear hcz35_1
                   try clear hcz35_2
                   try clear hcz40_0
                   try clear hcz40_1
                   try clear hcz40_2
                   try clear hcz45_0
                   try clear hcz45_1
                   try clear hcz45_2
                   try clear hcz48_0
                   try clear hcz48_1
                   try clear hcz48_2
                   try clear hcz54_0
                   try clear hcz54_1
                   try clear hcz54_2
                   try clear hfz15_0
                   try clear hfz15_1
                   try clear hfz15_2
                   try clear hfz19_0
                   try clear hfz19_1
                   try clear hfz19_2
                   try clear hfz21_0
                   try clear hfz21_1
                   try clear hfz21_2
                   try clear hfz35_0
                   try clear hfz35_1
                   try clear hfz35_2
                   try clear hfz40_0
                   try clear hfz40_1
                   try clear hfz40_2
                   try clear hfz45_0
                   try clear hfz45_1
                   try clear hfz45_2
                   try clear hfz48_0
                   try clear hfz48_1
                   try clear hfz48_2
                   try clear hfz54_0
                   try clear hfz54_1
                   try clear hfz54_2
                   try clear hx623_0
                   try clear hx624_0
                   try clear p2
                   try clear p6
                   try clear p623
                   try clear p624
                   try clear q6
                   try clear q623
                   try clear q624
                   obtain ⟨kq, x76_50, rfl, HA, HJ50, HO_7, HO_35, HO_613000, HO_613001, HO_613002, HO_635000, HO_635001, HO_635002, BK612, BK634, HB⟩ := hcut
                   cases kq with
                   | zero => exact absurd HA.out (by simp [laws_FnJust.j5])
                   | succ kj50 =>
                    have H := HA.out
                    clear HA
                    simp only [laws_FnJust.j5] at H
                    by_cases c56 : x76_50 = true
                    ·subst c56
                     have H1 : ((spec_Moves.f kj50 x635000_5 x635001_5 x635002_5).bind fun t640 => (if (t640.length : Int) = 0 then (if (x635001_5.length : Int) = 0 then (if x10_3 = true then (laws_FnJust.l0 kj50 l1 t616 t613 (t613.length : Int) (wrap64 (x37_2 + 1)) t603 t606 t609) else (some false)) else (laws_FnJust.l0 kj50 l1 t616 t613 (t613.length : Int) (wrap64 (x37_2 + 1)) t603 t606 t609)) else ((laws_wByte.f l1 (wrap64 (x37_2 + x14_5))).bind fun t643 => (if 0 ≤ (Int.tmod t643 (t640.length : Int)) then (if (Int.tmod t643 (t640.length : Int)) < (t640.length : Int) then ((spec_Step.f kj50 x635000_5 x635001_5 x635002_5 (rd t640 (Int.tmod t643 (t640.length : Int)))).bind fun bt645 => (laws_FnJust.l2 kj50 l1 t616 x37_2 x10_3 (wrap64 (x14_5 + 1)) t613 (t613.length : Int) x37_2 t603 t606 t609 bt645.1 bt645.2.1 bt645.2.2)) else (none)) else (none))))) = some r := by rw [if_pos rfl] at H; exact H
                     clear H
                     have H := H1
                     clear H1
                     replace H := Option.bind_eq_some_iff.mp H
                     obtain ⟨t640, A570, H⟩ := H
                     replace H : (if (t640.length : Int) = 0 then (if (x635001_5.length : Int) = 0 then (if x10_3 = true then (laws_FnJust.l0 kj50 l1 t616 t613 (t613.length : Int) (wrap64 (x37_2 + 1)) t603 t606 t609) else (some false)) else (laws_FnJust.l0 kj50 l1 t616 t613 (t613.length : Int) (wrap64 (x37_2 + 1)) t603 t606 t609)) else ((laws_wByte.f l1 (wrap64 (x37_2 + x14_5))).bind fun t643 => (if 0 ≤ (Int.tmod t643 (t640.length : Int)) then (if (Int.tmod t643 (t640.length : Int)) < (t640.length : Int) then ((spec_Step.f kj50 x635000_5 x635001_5 x635002_5 (rd t640 (Int.tmod t643 (t640.length : Int)))).bind fun bt645 => (laws_FnJust.l2 kj50 l1 t616 x37_2 x10_3 (wrap64 (x14_5 + 1)) t613 (t613.length : Int) x37_2 t603 t606 t609 bt645.1 bt645.2.1 bt645.2.2)) else (none)) else (none)))) = some r := H
                     have A57 := Aside0.mk A570
                     clear A570
                     by_cases c58 : (t640.length : Int) = 0
                     ·rw [if_pos c58] at H
                      have c58b0 : ((t640.length : Int) == 0) = true := beq_iff_eq.mpr c58
                      have c58b1 : ((t640.length : Int) != 0) = false := bne_eq_false_iff_eq.mpr c58
                      clear c58
                      by_cases c59 : (x635001_5.length : Int) = 0
                      ·rw [if_pos c59] at H
                       have c59b0 : ((x635001_5.length : Int) == 0) = true := beq_iff_eq.mpr c59
                       have c59b1 : ((x635001_5.length : Int) != 0) = false := bne_eq_false_iff_eq.mpr c59
                       clear c59
                       by_cases c60 : x10_3 = true
                       ·subst c60
                        have H1 : (laws_FnJust.l0 kj50 l1 t616 t613 (t613.length : Int) (wrap64 (x37_2 + 1)) t603 t606 t609) = some r := by rw [if_pos rfl] at H; exact H
                        clear H
                        have H := H1
                        clear H1
                        have H' := Aside0.mk H
                        clear H
                        have hnb61 := NB634_612.out
                        have hnc61 := NB612_634.out
                        have hcz62_0 : wc.cell? ⟨gb634, 0, none⟩ = some (u635000) := (blk_cell BK634.out 0).trans rfl
                        have hcz62_1 : wc.cell? ⟨gb634, 1, none⟩ = some (u635001) := (blk_cell BK634.out 1).trans rfl
                        have hcz62_2 : wc.cell? ⟨gb634, 2, none⟩ = some (u635002) := (blk_cell BK634.out 2).trans rfl
                        have hfz62_0 := blk_frozen BK634.out 0
                        have hfz62_1 := blk_frozen BK634.out 1
                        have hfz62_2 := blk_frozen BK634.out 2
                        obtain ⟨Ao63, co63, eo63⟩ := Kd.R_slice HO_635000.out
                        subst eo63
                        obtain ⟨Ao64, co64, eo64⟩ := Kd.N_slice HO_635001.out
                        subst eo64
                        obtain ⟨Ao65, co65, eo65⟩ := Kd.R_slice HO_635002.out
                        subst eo65
                        go_wp2_with (first | ((with_reducible refine gate_callee (f := 22) rfl ?_); refine goesL_ (some 80) rfl rfl Try.func22 (by kernel_rfl) rfl #[.agg #[.slice Ao63 x635000_5.length co63, .slice Ao64 x635001_5.length co64, .slice Ao65 x635002_5.length co65]] rfl (by (try simp only [List.map_toArray, List.map_cons, List.map_nil]); first | done | rfl | (simp only [List.length_drop, List.length_take]; rfl)) ?_; (with_reducible refine (spec_Moves.calls kj50 _ _ x635000_5 _ _ x635001_5 _ _ x635002_5 t640 _ ?side1 ?side2 ?side3 ?side4 ?side5 ?side6 A57.out).mono ?_); (case side1 => repeat (first | exact (Kd.R_reads' HO_635000.out).2.2 | (with_reducible refine Kd.C_alloc ?_ _) | (with_reducible refine Kd.C_drewN ?_ _) | (with_reducible refine Kd.C_drew ?_))); (case side2 => exact (Kd.R_reads' HO_635000.out).2.1); (case side3 => repeat (first | exact (Kd.N_reads' HO_635001.out).2.2 | (with_reducible refine Kd.C_alloc ?_ _) | (with_reducible refine Kd.C_drewN ?_ _) | (with_reducible refine Kd.C_drew ?_))); (case side4 => exact (Kd.N_reads' HO_635001.out).2.1); (case side5 => repeat (first | exact (Kd.R_reads' HO_635002.out).2.2 | (with_reducible refine Kd.C_alloc ?_ _) | (with_reducible refine Kd.C_drewN ?_ _) | (with_reducible refine Kd.C_drew ?_))); (case side6 => exact (Kd.R_reads' HO_635002.out).2.1); rintro e w66 ⟨v641, rfl, ho0, hb⟩; refine ⟨_, rfl, ?_⟩; have n0_ := Aside0.mk (Kd.R_elder' (by (with_reducible repeat (first | apply Kd.R_alloc | apply Kd.R_drewN | apply Kd.R_drew)); exact HO_7.out) (Kd.R_base ho0) hb); have n1_ := Aside0.mk (Kd.R_elder' (by (with_reducible repeat (first | apply Kd.R_alloc | apply Kd.R_drewN | apply Kd.R_drew)); exact HO_35.out) (Kd.R_base ho0) hb); have n2_ := Aside0.mk (Kd.R_elder' (by (with_reducible repeat (first | apply Kd.R_alloc | apply Kd.R_drewN | apply Kd.R_drew)); exact HO_613000.out) (Kd.R_base ho0) hb); have n3_ := Aside0.mk (Kd.N_elder' (by (with_reducible repeat (first | apply Kd.N_alloc | apply Kd.N_drewN | apply Kd.N_drew)); exact HO_613001.out) (Kd.R_base ho0) hb); have n4_ := Aside0.mk (Kd.R_elder' (by (with_reducible repeat (first | apply Kd.R_alloc | apply Kd.R_drewN | apply Kd.R_drew)); exact HO_613002.out) (Kd.R_base ho0) hb); have n5_ := Aside0.mk (Kd.R_elder' (by (with_reducible repeat (first | apply Kd.R_alloc | apply Kd.R_drewN | apply Kd.R_drew)); exact HO_635000.out) (Kd.R_base ho0) hb); have n6_ := Aside0.mk (Kd.N_elder' (by (with_reducible repeat (first | apply Kd.N_alloc | apply Kd.N_drewN | apply Kd.N_drew)); exact HO_635001.out) (Kd.R_base ho0) hb); have n7_ := Aside0.mk (Kd.R_elder' (by (with_reducible repeat (first | apply Kd.R_alloc | apply Kd.R_drewN | apply Kd.R_drew)); exact HO_635002.out) (Kd.R_base ho0) hb); have n8_ := Aside0.mk (Kd.R_lower (Kd.R_new' (Kd.R_new' (Kd.R_new' (Kd.R_new' (Kd.R_new' (Kd.R_new' ho0 (Kd.R_lt (by (with_reducible repeat (first | apply Kd.R_alloc | apply Kd.R_drewN | apply Kd.R_drew)); exact HO_7.out))) (Kd.R_lt (by (with_reducible repeat (first | apply Kd.R_alloc | apply Kd.R_drewN | apply Kd.R_drew)); exact HO_35.out))) (Kd.R_lt (by (with_reducible repeat (first | apply Kd.R_alloc | apply Kd.R_drewN | apply Kd.R_drew)); exact HO_613000.out))) (Kd.R_lt (by (with_reducible repeat (first | apply Kd.R_alloc | apply Kd.R_drewN | apply Kd.R_drew)); exact HO_613002.out))) (Kd.R_lt (by (with_reducible repeat (first | apply Kd.R_alloc | apply Kd.R_drewN | apply Kd.R_drew)); exact HO_635000.out))) (Kd.R_lt (by (with_reducible repeat (first | apply Kd.R_alloc | apply Kd.R_drewN | apply Kd.R_drew)); exact HO_635002.out))) (below_size (by repeat (first | (with_reducible first | exact HB.out | apply below_alloc | apply pw_below_drewN | apply below_drew1 | refine below_set ?_ GE612.out | refine below_set ?_ GE634.out) | exact HB.out)))); have n9_ := Aside0.mk (blk_below (g := gb612) (o := .cells #[.slice Ao14 t603.length co14, .slice Ao16 t606.length co16, .slice Ao17 t609.length co17] 26 (0, 0)) (by (with_reducible repeat (first | refine blk_drewN ?_ _ | refine blk_drew ?_ | refine blk_alloc ?_ _)); exact BK612.out) hb); have n10_ := Aside0.mk (blk_below (g := gb634) (o := .cells #[.slice Ao63 x635000_5.length co63, .slice Ao64 x635001_5.length co64, .slice Ao65 x635002_5.length co65] 26 (0, 0)) (by (with_reducible repeat (first | refine blk_drewN ?_ _ | refine blk_drew ?_ | refine blk_alloc ?_ _)); exact BK634.out) hb); have n11_ := Aside0.mk (below_step (by repeat (first | (with_reducible first | exact HB.out | apply below_alloc | apply pw_below_drewN | apply below_drew1 | refine below_set ?_ GE612.out | refine below_set ?_ GE634.out) | exact HB.out)) hb); clear HO_7; clear HO_35; clear HO_613000; clear HO_613001; clear HO_613002; clear HO_635000; clear HO_635001; clear HO_635002; clear BK612; clear BK634; clear HB; have HO_7 := n0_; have HO_35 := n1_; have HO_613000 := n2_; have HO_613001 := n3_; have HO_613002 := n4_; have HO_635000 := n5_; have HO_635001 := n6_; have HO_635002 := n7_; have HO642 := n8_; have BK612 := n9_; have BK634 := n10_; have HB := n11_; clear n0_ n1_ n2_ n3_ n4_ n5_ n6_ n7_ n8_ n9_ n10_ n11_; (try clear hb); (try clear hb2); (try clear hk); (try clear hi); (try clear ho0); obtain ⟨Ao67, co67, eo67⟩ := Kd.R_slice HO642.out; subst eo67; have hcz68_0 : w66.cell? ⟨gb634, 0, none⟩ = some (.slice Ao63 x635000_5.length co63) := (blk_cell BK634.out 0).trans rfl; have hcz68_1 : w66.cell? ⟨gb634, 1, none⟩ = some (.slice Ao64 x635001_5.length co64) := (blk_cell BK634.out 1).trans rfl; have hcz68_2 : w66.cell? ⟨gb634, 2, none⟩ = some (.slice Ao65 x635002_5.length co65) := (blk_cell BK634.out 2).trans rfl; have hfz68_0 := blk_frozen BK634.out 0; have hfz68_1 := blk_frozen BK634.out 1; have hfz68_2 := blk_frozen BK634.out 2))
                        go_roundg kj50
                        case measure => have := HJ2.out; have := HK2.out; have := HK3.out; have := HJ33.out; have := HK5.out; have := HJ50.out; omega
                        case rel => exact ⟨(wrap64 (x37_2 + 1)), (by first | rfl | (simp; done) | (simp [*]; done)), H', ⟨by have := HJ2.out; have := HK2.out; have := HK3.out; have := HJ33.out; have := HK5.out; have := HJ50.out; omega⟩, ⟨by (with_reducible repeat (first | apply Kd.R_alloc | apply Kd.R_drewN | apply Kd.R_drew)); exact Kd.R_mono HO_7.out (fun _ hk => ⟨hk.1.1, ⟨hk.1.2.1, hk.1.2.2.1⟩⟩)⟩, ⟨by (with_reducible repeat (first | apply Kd.R_alloc | apply Kd.R_drewN | apply Kd.R_drew)); exact Kd.R_mono HO_35.out (fun _ hk => ⟨hk.1.1, ⟨hk.1.2.1, hk.1.2.2.1⟩⟩)⟩, ⟨by (with_reducible repeat (first | apply Kd.R_alloc | apply Kd.R_drewN | apply Kd.R_drew)); exact Kd.R_mono HO_613000.out (fun _ hk => ⟨hk.1.1, ⟨hk.1.2.1, hk.1.2.2.1⟩⟩)⟩, ⟨by (with_reducible repeat (first | apply Kd.N_alloc | apply Kd.N_drewN | apply Kd.N_drew)); exact Kd.N_mono HO_613001.out (fun _ hk => ⟨hk.1.1, ⟨hk.1.2.1, ⟨hk.1.2.2.1, ⟨hk.1.2.2.2.1, hk.1.2.2.2.2.2.2.2.1⟩⟩⟩⟩)⟩, ⟨by (with_reducible repeat (first | apply Kd.R_alloc | apply Kd.R_drewN | apply Kd.R_drew)); exact Kd.R_mono HO_613002.out (fun _ hk => ⟨hk.1.1, ⟨hk.1.2.1, hk.1.2.2.1⟩⟩)⟩, ⟨by (with_reducible repeat (first | refine blk_drewN ?_ _ | refine blk_drew ?_ | refine blk_alloc ?_ _)); exact BK612.out⟩, ⟨by repeat (first | (with_reducible first | exact HB.out | apply below_alloc | apply pw_below_drewN | apply below_drew1 | refine below_set ?_ GE612.out | refine below_set ?_ GE634.out) | exact HB.out)⟩⟩
                       ·replace c60 := Bool.eq_false_iff.mpr c60
                        subst c60
                        have H1 : (some false) = some r := by rw [if_neg (show ¬ (false = true) by decide)] at H; exact H
                        clear H
                        have H := H1
                        exact absurd (H.trans (congrArg some hT_.out)) (by simp)
                      ·rw [if_neg c59] at H
                       have c59b0 : ((x635001_5.length : Int) == 0) = false := beq_eq_false_iff_ne.mpr c59
                       have c59b1 : ((x635001_5.length : Int) != 0) = true := bne_iff_ne.mpr c59
                       have c59b2 : ¬ (x635001_5 = []) := fun h_ => c59 (by rw [h_]; rfl)
                       have H' := Aside0.mk H
                       clear H
                       have hnb77 := NB634_612.out
                       have hnc77 := NB612_634.out
                       have hcz78_0 : wc.cell? ⟨gb634, 0, none⟩ = some (u635000) := (blk_cell BK634.out 0).trans rfl
                       have hcz78_1 : wc.cell? ⟨gb634, 1, none⟩ = some (u635001) := (blk_cell BK634.out 1).trans rfl
                       have hcz78_2 : wc.cell? ⟨gb634, 2, none⟩ = some (u635002) := (blk_cell BK634.out 2).trans rfl
                       have hfz78_0 := blk_frozen BK634.out 0
                       have hfz78_1 := blk_frozen BK634.out 1
                       have hfz78_2 := blk_frozen BK634.out 2
                       obtain ⟨Ao79, co79, eo79⟩ := Kd.R_slice HO_635000.out
                       subst eo79
                       obtain ⟨Ao80, co80, eo80⟩ := Kd.N_slice HO_635001.out
                       subst eo80
                       obtain ⟨Ao81, co81, eo81⟩ := Kd.R_slice HO_635002.out
                       subst eo81
                       go_wp2_with (first | ((with_reducible refine gate_callee (f := 22) rfl ?_); refine goesL_ (some 80) rfl rfl Try.func22 (by kernel_rfl) rfl #[.agg #[.slice Ao79 x635000_5.length co79, .slice Ao80 x635001_5.length co80, .slice Ao81 x635002_5.length co81]] rfl (by (try simp only [List.map_toArray, List.map_cons, List.map_nil]); first | done | rfl | (simp only [List.length_drop, List.length_take]; rfl)) ?_; (with_reducible refine (spec_Moves.calls kj50 _ _ x635000_5 _ _ x635001_5 _ _ x635002_5 t640 _ ?side1 ?side2 ?side3 ?side4 ?side5 ?side6 A57.out).mono ?_); (case side1 => repeat (first | exact (Kd.R_reads' HO_635000.out).2.2 | (with_reducible refine Kd.C_alloc ?_ _) | (with_reducible refine Kd.C_drewN ?_ _) | (with_reducible refine Kd.C_drew ?_))); (case side2 => exact (Kd.R_reads' HO_635000.out).2.1); (case side3 => repeat (first | exact (Kd.N_reads' HO_635001.out).2.2 | (with_reducible refine Kd.C_alloc ?_ _) | (with_reducible refine Kd.C_drewN ?_ _) | (with_reducible refine Kd.C_drew ?_))); (case side4 => exact (Kd.N_reads' HO_635001.out).2.1); (case side5 => repeat (first | exact (Kd.R_reads' HO_635002.out).2.2 | (with_reducible refine Kd.C_alloc ?_ _) | (with_reducible refine Kd.C_drewN ?_ _) | (with_reducible refine Kd.C_drew ?_))); (case side6 => exact (Kd.R_reads' HO_635002.out).2.1); rintro e w82 ⟨v641, rfl, ho0, hb⟩; refine ⟨_, rfl, ?_⟩; have n0_ := Aside0.mk (Kd.R_elder' (by (with_reducible repeat (first | apply Kd.R_alloc | apply Kd.R_drewN | apply Kd.R_drew)); exact HO_7.out) (Kd.R_base ho0) hb); have n1_ := Aside0.mk (Kd.R_elder' (by (with_reducible repeat (first | apply Kd.R_alloc | apply Kd.R_drewN | apply Kd.R_drew)); exact HO_35.out) (Kd.R_base ho0) hb); have n2_ := Aside0.mk (Kd.R_elder' (by (with_reducible repeat (first | apply Kd.R_alloc | apply Kd.R_drewN | apply Kd.R_drew)); exact HO_613000.out) (Kd.R_base ho0) hb); have n3_ := Aside0.mk (Kd.N_elder' (by (with_reducible repeat (first | apply Kd.N_alloc | apply Kd.N_drewN | apply Kd.N_drew)); exact HO_613001.out) (Kd.R_base ho0) hb); have n4_ := Aside0.mk (Kd.R_elder' (by (with_reducible repeat (first | apply Kd.R_alloc | apply Kd.R_drewN | apply Kd.R_drew)); exact HO_613002.out) (Kd.R_base ho0) hb); have n5_ := Aside0.mk (Kd.R_elder' (by (with_reducible repeat (first | apply Kd.R_alloc | apply Kd.R_drewN | apply Kd.R_drew)); exact HO_635000.out) (Kd.R_base ho0) hb); have n6_ := Aside0.mk (Kd.N_elder' (by (with_reducible repeat (first | apply Kd.N_alloc | apply Kd.N_drewN | apply Kd.N_drew)); exact HO_635001.out) (Kd.R_base ho0) hb); have n7_ := Aside0.mk (Kd.R_elder' (by (with_reducible repeat (first | apply Kd.R_alloc | apply Kd.R_drewN | apply Kd.R_drew)); exact HO_635002.out) (Kd.R_base ho0) hb); have n8_ := Aside0.mk (Kd.R_lower (Kd.R_new' (Kd.R_new' (Kd.R_new' (Kd.R_new' (Kd.R_new' (Kd.R_new' ho0 (Kd.R_lt (by (with_reducible repeat (first | apply Kd.R_alloc | apply Kd.R_drewN | apply Kd.R_drew)); exact HO_7.out))) (Kd.R_lt (by (with_reducible repeat (first | apply Kd.R_alloc | apply Kd.R_drewN | apply Kd.R_drew)); exact HO_35.out))) (Kd.R_lt (by (with_reducible repeat (first | apply Kd.R_alloc | apply Kd.R_drewN | apply Kd.R_drew)); exact HO_613000.out))) (Kd.R_lt (by (with_reducible repeat (first | apply Kd.R_alloc | apply Kd.R_drewN | apply Kd.R_drew)); exact HO_613002.out))) (Kd.R_lt (by (with_reducible repeat (first | apply Kd.R_alloc | apply Kd.R_drewN | apply Kd.R_drew)); exact HO_635000.out))) (Kd.R_lt (by (with_reducible repeat (first | apply Kd.R_alloc | apply Kd.R_drewN | apply Kd.R_drew)); exact HO_635002.out))) (below_size (by repeat (first | (with_reducible first | exact HB.out | apply below_alloc | apply pw_below_drewN | apply below_drew1 | refine below_set ?_ GE612.out | refine below_set ?_ GE634.out) | exact HB.out)))); have n9_ := Aside0.mk (blk_below (g := gb612) (o := .cells #[.slice Ao14 t603.length co14, .slice Ao16 t606.length co16, .slice Ao17 t609.length co17] 26 (0, 0)) (by (with_reducible repeat (first | refine blk_drewN ?_ _ | refine blk_drew ?_ | refine blk_alloc ?_ _)); exact BK612.out) hb); have n10_ := Aside0.mk (blk_below (g := gb634) (o := .cells #[.slice Ao79 x635000_5.length co79, .slice Ao80 x635001_5.length co80, .slice Ao81 x635002_5.length co81] 26 (0, 0)) (by (with_reducible repeat (first | refine blk_drewN ?_ _ | refine blk_drew ?_ | refine blk_alloc ?_ _)); exact BK634.out) hb); have n11_ := Aside0.mk (below_step (by repeat (first | (with_reducible first | exact HB.out | apply below_alloc | apply pw_below_drewN | apply below_drew1 | refine below_set ?_ GE612.out | refine below_set ?_ GE634.out) | exact HB.out)) hb); clear HO_7; clear HO_35; clear HO_613000; clear HO_613001; clear HO_613002; clear HO_635000; clear HO_635001; clear HO_635002; clear BK612; clear BK634; clear HB; have HO_7 := n0_; have HO_35 := n1_; have HO_613000 := n2_; have HO_613001 := n3_; have HO_613002 := n4_; have HO_635000 := n5_; have HO_635001 := n6_; have HO_635002 := n7_; have HO642 := n8_; have BK612 := n9_; have BK634 := n10_; have HB := n11_; clear n0_ n1_ n2_ n3_ n4_ n5_ n6_ n7_ n8_ n9_ n10_ n11_; (try clear hb); (try clear hb2); (try clear hk); (try clear hi); (try clear ho0); obtain ⟨Ao83, co83, eo83⟩ := Kd.R_slice HO642.out; subst eo83; have hcz84_0 : w82.cell? ⟨gb634, 0, none⟩ = some (.slice Ao79 x635000_5.length co79) := (blk_cell BK634.out 0).trans rfl; have hcz84_1 : w82.cell? ⟨gb634, 1, none⟩ = some (.slice Ao80 x635001_5.length co80) := (blk_cell BK634.out 1).trans rfl; have hcz84_2 : w82.cell? ⟨gb634, 2, none⟩ = some (.slice Ao81 x635002_5.length co81) := (blk_cell BK634.out 2).trans rfl; have hfz84_0 := blk_frozen BK634.out 0; have hfz84_1 := blk_frozen BK634.out 1; have hfz84_2 := blk_frozen BK634.out 2))
                       go_roundg kj50
                       case measure => have := HJ2.out; have := HK2.out; have := HK3.out; have := HJ33.out; have := HK5.out; have := HJ50.out; omega
                       case rel => exact ⟨(wrap64 (x37_2 + 1)), (by first | rfl | (simp; done) | (simp [*]; done)), H', ⟨by have := HJ2.out; have := HK2.out; have := HK3.out; have := HJ33.out; have := HK5.out; have := HJ50.out; omega⟩, ⟨by (with_reducible repeat (first | apply Kd.R_alloc | apply Kd.R_drewN | apply Kd.R_drew)); exact Kd.R_mono HO_7.out (fun _ hk => ⟨hk.1.1, ⟨hk.1.2.1, hk.1.2.2.1⟩⟩)⟩, ⟨by (with_reducible repeat (first | apply Kd.R_alloc | apply Kd.R_drewN | apply Kd.R_drew)); exact Kd.R_mono HO_35.out (fun _ hk => ⟨hk.1.1, ⟨hk.1.2.1, hk.1.2.2.1⟩⟩)⟩, ⟨by (with_reducible repeat (first | apply Kd.R_alloc | apply Kd.R_drewN | apply Kd.R_drew)); exact Kd.R_mono HO_613000.out (fun _ hk => ⟨hk.1.1, ⟨hk.1.2.1, hk.1.2.2.1⟩⟩)⟩, ⟨by (with_reducible repeat (first | apply Kd.N_alloc | apply Kd.N_drewN | apply Kd.N_drew)); exact Kd.N_mono HO_613001.out (fun _ hk => ⟨hk.1.1, ⟨hk.1.2.1, ⟨hk.1.2.2.1, ⟨hk.1.2.2.2.1, hk.1.2.2.2.2.2.2.2.1⟩⟩⟩⟩)⟩, ⟨by (with_reducible repeat (first | apply Kd.R_alloc | apply Kd.R_drewN | apply Kd.R_drew)); exact Kd.R_mono HO_613002.out (fun _ hk => ⟨hk.1.1, ⟨hk.1.2.1, hk.1.2.2.1⟩⟩)⟩, ⟨by (with_reducible repeat (first | refine blk_drewN ?_ _ | refine blk_drew ?_ | refine blk_alloc ?_ _)); exact BK612.out⟩, ⟨by repeat (first | (with_reducible first | exact HB.out | apply below_alloc | apply pw_below_drewN | apply below_drew1 | refine below_set ?_ GE612.out | refine below_set ?_ GE634.out) | exact HB.out)⟩⟩
                     ·rw [if_neg c58] at H
                      have c58b0 : ((t640.length : Int) == 0) = false := beq_eq_false_iff_ne.mpr c58
                      have c58b1 : ((t640.length : Int) != 0) = true := bne_iff_ne.mpr c58
                      have c58b2 : ¬ (t640 = []) := fun h_ => c58 (by rw [h_]; rfl)
                      replace H := Option.bind_eq_some_iff.mp H
                      obtain ⟨t643, A850, H⟩ := H
                      replace H : (if 0 ≤ (Int.tmod t643 (t640.length : Int)) then (if (Int.tmod t643 (t640.length : Int)) < (t640.length : Int) then ((spec_Step.f kj50 x635000_5 x635001_5 x635002_5 (rd t640 (Int.tmod t643 (t640.length : Int)))).bind fun bt645 => (laws_FnJust.l2 kj50 l1 t616 x37_2 x10_3 (wrap64 (x14_5 + 1)) t613 (t613.length : Int) x37_2 t603 t606 t609 bt645.1 bt645.2.1 bt645.2.2)) else (none)) else (none)) = some r := H
                      have A85 := Aside0.mk A850
                      clear A850
                      obtain ⟨ji86, hji86⟩ : ∃ j_ : Int, (Int.tmod t643 (t640.length : Int)) = j_ := ⟨_, rfl⟩
                      replace H : (if 0 ≤ (ji86) then (if (ji86) < (t640.length : Int) then ((spec_Step.f kj50 x635000_5 x635001_5 x635002_5 (rd t640 (ji86))).bind fun bt645 => (laws_FnJust.l2 kj50 l1 t616 x37_2 x10_3 (wrap64 (x14_5 + 1)) t613 (t613.length : Int) x37_2 t603 t606 t609 bt645.1 bt645.2.1 bt645.2.2)) else (none)) else (none)) = some r := by first | (rw [hji86] at H; exact H) | (simp only [hji86] at H ⊢; exact H)
                      (try rw [hji86] at A57)
                      (try rw [hji86] at A85)
                      by_cases c87 : 0 ≤ (ji86)
                      ·rw [if_pos c87] at H
                       have c87b0 : decide (0 ≤ (ji86)) = true := decide_eq_true c87
                       clear c87
                       by_cases c88 : (ji86) < (t640.length : Int)
                       ·rw [if_pos c88] at H
                        have c88b0 : decide ((ji86) < (t640.length : Int)) = true := decide_eq_true c88
                        clear c88
                        replace H := Option.bind_eq_some_iff.mp H
                        obtain ⟨⟨t645, t648, t651⟩, A890, H⟩ := H
                        replace H : (laws_FnJust.l2 kj50 l1 t616 x37_2 x10_3 (wrap64 (x14_5 + 1)) t613 (t613.length : Int) x37_2 t603 t606 t609 t645 t648 t651) = some r := H
                        have A89 := Aside0.mk A890
                        clear A890
                        have H' := Aside0.mk H
                        clear H
                        have hnb90 := NB634_612.out
                        have hnc90 := NB612_634.out
                        have hcz91_0 : wc.cell? ⟨gb634, 0, none⟩ = some (u635000) := (blk_cell BK634.out 0).trans rfl
                        have hcz91_1 : wc.cell? ⟨gb634, 1, none⟩ = some (u635001) := (blk_cell BK634.out 1).trans rfl
                        have hcz91_2 : wc.cell? ⟨gb634, 2, none⟩ = some (u635002) := (blk_cell BK634.out 2).trans rfl
                        have hfz91_0 := blk_frozen BK634.out 0
                        have hfz91_1 := blk_frozen BK634.out 1
                        have hfz91_2 := blk_frozen BK634.out 2
                        obtain ⟨Ao92, co92, eo92⟩ := Kd.R_slice HO_635000.out
                        subst eo92
                        obtain ⟨Ao93, co93, eo93⟩ := Kd.N_slice HO_635001.out
                        subst eo93
                        obtain ⟨Ao94, co94, eo94⟩ := Kd.R_slice HO_635002.out
                        subst eo94
                        try go_wp2_with (first | ((with_reducible refine gate_callee (f := 22) rfl ?_); refine goesL_ (some 80) rfl rfl Try.func22 (by kernel_rfl) rfl #[.agg #[.slice Ao92 x635000_5.length co92, .slice Ao93 x635001_5.length co93, .slice Ao94 x635002_5.length co94]] rfl (by (try simp only [List.map_toArray, List.map_cons, List.map_nil]); first | done | rfl | (simp only [List.length_drop, List.length_take]; rfl)) ?_; (with_reducible refine (spec_Moves.calls kj50 _ _ x635000_5 _ _ x635001_5 _ _ x635002_5 t640 _ ?side1 ?side2 ?side3 ?side4 ?side5 ?side6 A57.out).mono ?_); (case side1 => repeat (first | exact (Kd.R_reads' HO_635000.out).2.2 | (with_reducible refine Kd.C_alloc ?_ _) | (with_reducible refine Kd.C_drewN ?_ _) | (with_reducible refine Kd.C_drew ?_))); (case side2 => exact (Kd.R_reads' HO_635000.out).2.1); (case side3 => repeat (first | exact (Kd.N_reads' HO_635001.out).2.2 | (with_reducible refine Kd.C_alloc ?_ _) | (with_reducible refine Kd.C_drewN ?_ _) | (with_reducible refine Kd.C_drew ?_))); (case side4 => exact (Kd.N_reads' HO_635001.out).2.1); (case side5 => repeat (first | exact (Kd.R_reads' HO_635002.out).2.2 | (with_reducible refine Kd.C_alloc ?_ _) | (with_reducible refine Kd.C_drewN ?_ _) | (with_reducible refine Kd.C_drew ?_))); (case side6 => exact (Kd.R_reads' HO_635002.out).2.1); rintro e w95 ⟨v641, rfl, ho0, hb⟩; refine ⟨_, rfl, ?_⟩; have n0_ := Aside0.mk (Kd.R_elder' (by (with_reducible repeat (first | apply Kd.R_alloc | apply Kd.R_drewN | apply Kd.R_drew)); exact HO_7.out) (Kd.R_base ho0) hb); have n1_ := Aside0.mk (Kd.R_elder' (by (with_reducible repeat (first | apply Kd.R_alloc | apply Kd.R_drewN | apply Kd.R_drew)); exact HO_35.out) (Kd.R_base ho0) hb); have n2_ := Aside0.mk (Kd.R_elder' (by (with_reducible repeat (first | apply Kd.R_alloc | apply Kd.R_drewN | apply Kd.R_drew)); exact HO_613000.out) (Kd.R_base ho0) hb); have n3_ := Aside0.mk (Kd.N_elder' (by (with_reducible repeat (first | apply Kd.N_alloc | apply Kd.N_drewN | apply Kd.N_drew)); exact HO_613001.out) (Kd.R_base ho0) hb); have n4_ := Aside0.mk (Kd.R_elder' (by (with_reducible repeat (first | apply Kd.R_alloc | apply Kd.R_drewN | apply Kd.R_drew)); exact HO_613002.out) (Kd.R_base ho0) hb); have n5_ := Aside0.mk (Kd.R_elder' (by (with_reducible repeat (first | apply Kd.R_alloc | apply Kd.R_drewN | apply Kd.R_drew)); exact HO_635000.out) (Kd.R_base ho0) hb); have n6_ := Aside0.mk (Kd.N_elder' (by (with_reducible repeat (first | apply Kd.N_alloc | apply Kd.N_drewN | apply Kd.N_drew)); exact HO_635001.out) (Kd.R_base ho0) hb); have n7_ := Aside0.mk (Kd.R_elder' (by (with_reducible repeat (first | apply Kd.R_alloc | apply Kd.R_drewN | apply Kd.R_drew)); exact HO_635002.out) (Kd.R_base ho0) hb); have n8_ := Aside0.mk (Kd.R_lower (Kd.R_new' (Kd.R_new' (Kd.R_new' (Kd.R_new' (Kd.R_new' (Kd.R_new' ho0 (Kd.R_lt (by (with_reducible repeat (first | apply Kd.R_alloc | apply Kd.R_drewN | apply Kd.R_drew)); exact HO_7.out))) (Kd.R_lt (by (with_reducible repeat (first | apply Kd.R_alloc | apply Kd.R_drewN | apply Kd.R_drew)); exact HO_35.out))) (Kd.R_lt (by (with_reducible repeat (first | apply Kd.R_alloc | apply Kd.R_drewN | apply Kd.R_drew)); exact HO_613000.out))) (Kd.R_lt (by (with_reducible repeat (first | apply Kd.R_alloc | apply Kd.R_drewN | apply Kd.R_drew)); exact HO_613002.out))) (Kd.R_lt (by (with_reducible repeat (first | apply Kd.R_alloc | apply Kd.R_drewN | apply Kd.R_drew)); exact HO_635000.out))) (Kd.R_lt (by (with_reducible repeat (first | apply Kd.R_alloc | apply Kd.R_drewN | apply Kd.R_drew)); exact HO_635002.out))) (below_size (by repeat (first | (with_reducible first | exact HB.out | apply below_alloc | apply pw_below_drewN | apply below_drew1 | refine below_set ?_ GE612.out | refine below_set ?_ GE634.out) | exact HB.out)))); have n9_ := Aside0.mk (blk_below (g := gb612) (o := .cells #[.slice Ao14 t603.length co14, .slice Ao16 t606.length co16, .slice Ao17 t609.length co17] 26 (0, 0)) (by (with_reducible repeat (first | refine blk_drewN ?_ _ | refine blk_drew ?_ | refine blk_alloc ?_ _)); exact BK612.out) hb); have n10_ := Aside0.mk (blk_below (g := gb634) (o := .cells #[.slice Ao92 x635000_5.length co92, .slice Ao93 x635001_5.length co93, .slice Ao94 x635002_5.length co94] 26 (0, 0)) (by (with_reducible repeat (first | refine blk_drewN ?_ _ | refine blk_drew ?_ | refine blk_alloc ?_ _)); exact BK634.out) hb); have n11_ := Aside0.mk (below_step (by repeat (first | (with_reducible first | exact HB.out | apply below_alloc | apply pw_below_drewN | apply below_drew1 | refine below_set ?_ GE612.out | refine below_set ?_ GE634.out) | exact HB.out)) hb); clear HO_7; clear HO_35; clear HO_613000; clear HO_613001; clear HO_613002; clear HO_635000; clear HO_635001; clear HO_635002; clear BK612; clear BK634; clear HB; have HO_7 := n0_; have HO_35 := n1_; have HO_613000 := n2_; have HO_613001 := n3_; have HO_613002 := n4_; have HO_635000 := n5_; have HO_635001 := n6_; have HO_635002 := n7_; have HO642 := n8_; have BK612 := n9_; have BK634 := n10_; have HB := n11_; clear n0_ n1_ n2_ n3_ n4_ n5_ n6_ n7_ n8_ n9_ n10_ n11_; (try clear hb); (try clear hb2); (try clear hk); (try clear hi); (try clear ho0); obtain ⟨Ao96, co96, eo96⟩ := Kd.R_slice HO642.out; subst eo96))
                        have n0_ := Aside0.mk (Kd.R_drew HO_7.out)
                        have n1_ := Aside0.mk (Kd.R_drew HO_35.out)
                        have n2_ := Aside0.mk (Kd.R_drew HO_613000.out)
                        have n3_ := Aside0.mk (Kd.N_drew HO_613001.out)
                        have n4_ := Aside0.mk (Kd.R_drew HO_613002.out)
                        have n5_ := Aside0.mk (Kd.R_drew HO_635000.out)
                        have n6_ := Aside0.mk (Kd.N_drew HO_635001.out)
                        have n7_ := Aside0.mk (Kd.R_drew HO_635002.out)
                        have n8_ := Aside0.mk (Kd.R_drew HO642.out)
                        have n9_ := Aside0.mk (blk_drew BK612.out)
                        have n10_ := Aside0.mk (blk_drew BK634.out)
                        have n11_ := Aside0.mk (below_drew1 HB.out)
                        clear HO_7
                        clear HO_35
                        clear HO_613000
                        clear HO_613001
                        clear HO_613002
                        clear HO_635000
                        clear HO_635001
                        clear HO_635002
                        clear HO642
                        clear BK612
                        clear BK634
                        clear HB
                        have HO_7 := n0_
                        have HO_35 := n1_
                        have HO_613000 := n2_
                        have HO_613001 := n3_
                        have HO_613002 := n4_
                        have HO_635000 := n5_
                        have HO_635001 := n6_
                        have HO_635002 := n7_
                        have HO642 := n8_
                        have BK612 := n9_
                        have BK634 := n10_
                        have HB := n11_
                        clear n0_ n1_ n2_ n3_ n4_ n5_ n6_ n7_ n8_ n9_ n10_ n11_
                        have p644 : 0 ≤ ((ji86) : Int) := of_decide_eq_true (by assumption)
                        have q644 : (ji86) < (t640.length : Int) := of_decide_eq_true (by assumption)
                        obtain ⟨ad644, e644, hx644_0⟩ := Kd.at_int (Kd.R_reads' HO642.out).2.2 (ji86) p644 q644
                        cases e644
                        replace p644 := eq_true p644
                        replace q644 := eq_true q644
                        refine start_ (n := 14) (S := fun w' => w'.cell? ⟨gb634, 0, none⟩ = some (.slice Ao92 x635000_5.length co92) ∧ w'.cell? ⟨gb634, 1, none⟩ = some (.slice Ao93 x635001_5.length co93) ∧ w'.cell? ⟨gb634, 2, none⟩ = some (.slice Ao94 x635002_5.length co94) ∧ w'.cell? (ad644.add ((ji86)).toNat) = some (.int .i64 (rd t640 (ji86)))) (ds := [13]) #[false, false, false, false, false, false, false, false, false, false, false, false, false, false] (by kernel_rfl) rfl rfl ⟨(blk_cell BK634.out 0).trans rfl, (blk_cell BK634.out 1).trans rfl, (blk_cell BK634.out 2).trans rfl, hx644_0⟩ (fun hHeld => ?_); refine with_tabW laws_FnJust.tab25 laws_FnJust.bits25 (fun HT_ HW_ => ?_)
                        generalize w95.drew = w97 at HO_7 HO_35 HO_613000 HO_613001 HO_613002 HO_635000 HO_635001 HO_635002 HO642 BK612 BK634 HB hx644_0 hHeld ⊢
                        refine pure_ (i := 1) (N := some 85) (v := ?_) (a' := ?_) #[false, true, false, false, false, false, false, false, false, false, false, false, false, false] rfl rfl (any_of HT_.out (by kernel_rfl)) (fun _ _ _ h => h) (Or.inl ⟨by rfl, ?_⟩) ?_ ?_
                        rotate_left
                        ·intro w'
                         go_simp
                         with_reducible rfl
                        rotate_left
                        ·simp only [Act.put, List.setIfInBounds_toArray, List.set_cons_zero, List.set_cons_succ, i64_w, i32_w]
                         rfl
                        refine pure_ (i := 2) (N := some 86) (v := ?_) (a' := ?_) #[false, true, true, false, false, false, false, false, false, false, false, false, false, false] rfl rfl (any_of HT_.out (by kernel_rfl)) (fun _ _ _ h => h) (Or.inl ⟨by rfl, ?_⟩) ?_ ?_
                        rotate_left
                        ·intro w'
                         go_simp
                         with_reducible rfl
                        rotate_left
                        ·simp only [Act.put, List.setIfInBounds_toArray, List.set_cons_zero, List.set_cons_succ, i64_w, i32_w]
                         rfl
                        refine pure_ (i := 3) (N := some 87) (v := ?_) (a' := ?_) #[false, true, true, true, false, false, false, false, false, false, false, false, false, false] rfl rfl (any_of HT_.out (by kernel_rfl)) (fun _ _ _ h => h) (Or.inl ⟨by rfl, ?_⟩) ?_ ?_
                        rotate_left
                        ·intro w'
                         go_simp
                         with_reducible rfl
                        rotate_left
                        ·simp only [Act.put, List.setIfInBounds_toArray, List.set_cons_zero, List.set_cons_succ, i64_w, i32_w]
                         rfl
                        refine pure_ (i := 4) (N := some 88) (v := ?_) (a' := ?_) #[false, true, true, true, true, false, false, false, false, false, false, false, false, false] rfl rfl (any_of HT_.out (by kernel_rfl)) (fun _ _ _ h => h) (Or.inl ⟨by rfl, ?_⟩) ?_ ?_
                        rotate_left
                        ·intro w'
                         go_simp
                         with_reducible rfl
                        rotate_left
                        ·simp only [Act.put, List.setIfInBounds_toArray, List.set_cons_zero, List.set_cons_succ, i64_w, i32_w]
                         rfl
                        refine pure_ (i := 5) (N := some 89) (v := ?_) (a' := ?_) #[false, true, true, true, true, true, false, false, false, false, false, false, false, false] rfl rfl (any_of HT_.out (by kernel_rfl)) (fun _ _ _ h => h) (Or.inl ⟨by rfl, ?_⟩) ?_ ?_
                        rotate_left
                        ·intro w'
                         go_simp
                         with_reducible rfl
                        rotate_left
                        ·simp only [Act.put, List.setIfInBounds_toArray, List.set_cons_zero, List.set_cons_succ, i64_w, i32_w]
                         rfl
                        refine pure_ (i := 7) (N := some 91) (v := ?_) (a' := ?_) #[false, true, true, true, true, true, false, true, false, false, false, false, false, false] rfl rfl (any_of HT_.out (by kernel_rfl)) (fun _ _ _ h => h) (Or.inl ⟨by rfl, ?_⟩) ?_ ?_
                        rotate_left
                        ·intro w'
                         go_simp
                         with_reducible rfl
                        rotate_left
                        ·simp only [Act.put, List.setIfInBounds_toArray, List.set_cons_zero, List.set_cons_succ, i64_w, i32_w]
                         rfl
                        refine pure_ (i := 8) (N := some 92) (v := ?_) (a' := ?_) #[false, true, true, true, true, true, false, true, true, false, false, false, false, false] rfl rfl (any_of HT_.out (by kernel_rfl)) (fun _ _ _ h => h) (Or.inl ⟨by rfl, ?_⟩) ?_ ?_
                        rotate_left
                        ·intro w'
                         go_simp
                         with_reducible rfl
                        rotate_left
                        ·simp only [Act.put, List.setIfInBounds_toArray, List.set_cons_zero, List.set_cons_succ, i64_w, i32_w]
                         rfl
                        refine take_ (i := 0) (N := some 84) (v := ?_) (a' := ?_) #[true, true, true, true, true, true, false, true, true, false, false, false, false, false] rfl rfl (take_ofW HT_.out HW_.out (by kernel_rfl)) (fun _ _ _ h => h) (Or.inl ⟨by rfl, ?_⟩) hHeld ?_ ?_
                        rotate_left
                        ·rintro w' ⟨s0, s1, s2, s3⟩
                         go_simp
                         with_reducible rfl
                        rotate_left
                        ·simp only [Act.put, List.setIfInBounds_toArray, List.set_cons_zero, List.set_cons_succ, i64_w, i32_w]
                         rfl
                        refine one_ (i := 6) (N := some 90) #[true, true, true, true, true, true, true, true, true, false, false, false, false, false] rfl rfl (one_of HT_.out (by kernel_rfl)) (by decide) (fun K hK => ?_)
                        refine goes_ Try.func25 (by kernel_rfl) rfl #[.slice A1 l1.length c1, .int .i64 (wrap64 (x37_2 + x14_5))] (by rfl) rfl rfl (by (try simp only [List.map_toArray, List.map_cons, List.map_nil]); first | done | rfl | (simp only [List.length_drop, List.length_take]; rfl)) ?_
                        with_reducible refine (laws_wByte.calls _ _ l1 (wrap64 (x37_2 + x14_5)) t643 _ ?side1 ?side2 A85.out).mono ?_
                        (case side1 => repeat (first | exact (Kd.C_below HR1.out HB.out) | (with_reducible refine Kd.C_alloc ?_ _) | (with_reducible refine Kd.C_drewN ?_ _) | (with_reducible refine Kd.C_drew ?_)))
                        (case side2 => exact HC1.out)
                        rintro e w' ⟨rfl, ⟨nd, rfl⟩⟩
                        refine ⟨_, rfl, ?_⟩
                        refine hK.out _ _ ⟨(blk_cell BK634.out 0).trans rfl, (blk_cell BK634.out 1).trans rfl, (blk_cell BK634.out 2).trans rfl, hHeld.2.2.2⟩ (fun hHeld => ?_)
                        clear hK K
                        refine norm_ (a' := ?_) ?_ ?_
                        rotate_left
                        ·show Act.put _ (some 90) _ = _
                         simp only [Act.put, List.setIfInBounds_toArray, List.set_cons_zero, List.set_cons_succ, i64_w, i32_w]
                         rfl
                        refine pure_ (i := 9) (N := some 93) (v := ?_) (a' := ?_) #[true, true, true, true, true, true, true, true, true, true, false, false, false, false] rfl rfl (any_of HT_.out (by kernel_rfl)) (fun _ _ _ h => h) (Or.inl ⟨by rfl, ?_⟩) ?_ ?_
                        rotate_left
                        ·intro w'
                         go_simp
                         with_reducible rfl
                        rotate_left
                        ·simp only [Act.put, List.setIfInBounds_toArray, List.set_cons_zero, List.set_cons_succ, i64_w, i32_w]
                         rfl
                        refine pure_ (i := 10) (N := some 94) (v := ?_) (a' := ?_) #[true, true, true, true, true, true, true, true, true, true, true, false, false, false] rfl rfl (any_of HT_.out (by kernel_rfl)) (fun _ _ _ h => h) (Or.inl ⟨by rfl, ?_⟩) ?_ ?_
                        rotate_left
                        ·intro w'
                         go_simp
                         with_reducible rfl
                        rotate_left
                        ·simp only [Act.put, List.setIfInBounds_toArray, List.set_cons_zero, List.set_cons_succ, i64_w, i32_w]
                         rfl
                        refine take_ (i := 11) (N := some 95) (v := ?_) (a' := ?_) #[true, true, true, true, true, true, true, true, true, true, true, true, false, false] rfl rfl (take_ofW HT_.out HW_.out (by kernel_rfl)) (fun _ _ _ h => h) (Or.inl ⟨by rfl, ?_⟩) hHeld ?_ ?_
                        rotate_left
                        ·rintro w' ⟨s0, s1, s2, s3⟩
                         go_simp
                         with_reducible rfl
                        rotate_left
                        ·simp only [Act.put, List.setIfInBounds_toArray, List.set_cons_zero, List.set_cons_succ, i64_w, i32_w]
                         rfl
                        refine one_ (i := 12) (N := some 96) #[true, true, true, true, true, true, true, true, true, true, true, true, true, false] rfl rfl (one_of HT_.out (by kernel_rfl)) (by decide) (fun K hK => ?_)
                        refine goes_ Try.func23 (by kernel_rfl) rfl #[.agg #[.slice Ao92 x635000_5.length co92, .slice Ao93 x635001_5.length co93, .slice Ao94 x635002_5.length co94], .int .i64 (rd t640 (ji86))] (by rfl) rfl rfl (by (try simp only [List.map_toArray, List.map_cons, List.map_nil]); first | done | (simp only [hji86]; rfl) | rfl | (simp only [List.length_drop, List.length_take]; rfl)) ?_
                        with_reducible refine (spec_Step.calls kj50 _ _ x635000_5 _ _ x635001_5 _ _ x635002_5 (rd t640 (ji86)) t645 t648 t651 _ ?side1 ?side2 ?side3 ?side4 ?side5 ?side6 A89.out).mono ?_
                        (case side1 => repeat (first | exact (Kd.R_reads' HO_635000.out).2.2 | (with_reducible refine Kd.C_alloc ?_ _) | (with_reducible refine Kd.C_drewN ?_ _) | (with_reducible refine Kd.C_drew ?_)))
                        (case side2 => exact (Kd.R_reads' HO_635000.out).2.1)
                        (case side3 => repeat (first | exact (Kd.N_reads' HO_635001.out).2.2 | (with_reducible refine Kd.C_alloc ?_ _) | (with_reducible refine Kd.C_drewN ?_ _) | (with_reducible refine Kd.C_drew ?_)))
                        (case side4 => exact (Kd.N_reads' HO_635001.out).2.1)
                        (case side5 => repeat (first | exact (Kd.R_reads' HO_635002.out).2.2 | (with_reducible refine Kd.C_alloc ?_ _) | (with_reducible refine Kd.C_drewN ?_ _) | (with_reducible refine Kd.C_drew ?_)))
                        (case side6 => exact (Kd.R_reads' HO_635002.out).2.1)
                        rintro e w98 ⟨v646, v649, v652, rfl, ho0, ho1, ho2, hb⟩
                        have HS3_ := (hb.cell (World.block_lt_of_cell? _ _ (hHeld.2.2.2))).trans (hHeld.2.2.2)
                        refine ⟨_, rfl, ?_⟩
                        have n0_ := Aside0.mk (Kd.R_mono (Kd.R_told (Kd.R_told (Kd.R_old (by (with_reducible repeat (first | apply Kd.R_alloc | apply Kd.R_drewN | apply Kd.R_drew)); exact HO_7.out) hb) (Kd.R_base ho0)) (Kd.R_base ho2)) (fun _ h_ => h_.1))
                        have n1_ := Aside0.mk (Kd.R_mono (Kd.R_told (Kd.R_told (Kd.R_old (by (with_reducible repeat (first | apply Kd.R_alloc | apply Kd.R_drewN | apply Kd.R_drew)); exact HO_35.out) hb) (Kd.R_base ho0)) (Kd.R_base ho2)) (fun _ h_ => h_.1))
                        have n2_ := Aside0.mk (Kd.R_mono (Kd.R_told (Kd.R_told (Kd.R_old (by (with_reducible repeat (first | apply Kd.R_alloc | apply Kd.R_drewN | apply Kd.R_drew)); exact HO_613000.out) hb) (Kd.R_base ho0)) (Kd.R_base ho2)) (fun _ h_ => h_.1))
                        have n3_ := Aside0.mk (Kd.N_mono (Kd.N_told (Kd.N_told (Kd.N_told (Kd.N_old (by (with_reducible repeat (first | apply Kd.N_alloc | apply Kd.N_drewN | apply Kd.N_drew)); exact HO_613001.out) hb) (Kd.R_base ho0)) (Kd.N_base ho1)) (Kd.R_base ho2)) (fun _ h_ => h_.1))
                        have n4_ := Aside0.mk (Kd.R_mono (Kd.R_told (Kd.R_told (Kd.R_old (by (with_reducible repeat (first | apply Kd.R_alloc | apply Kd.R_drewN | apply Kd.R_drew)); exact HO_613002.out) hb) (Kd.R_base ho0)) (Kd.R_base ho2)) (fun _ h_ => h_.1))
                        have n5_ := Aside0.mk (Kd.R_mono (Kd.R_told (Kd.R_told (Kd.R_old (by (with_reducible repeat (first | apply Kd.R_alloc | apply Kd.R_drewN | apply Kd.R_drew)); exact HO_635000.out) hb) (Kd.R_base ho0)) (Kd.R_base ho2)) (fun _ h_ => h_.1))
                        have n6_ := Aside0.mk (Kd.N_mono (Kd.N_told (Kd.N_told (Kd.N_told (Kd.N_old (by (with_reducible repeat (first | apply Kd.N_alloc | apply Kd.N_drewN | apply Kd.N_drew)); exact HO_635001.out) hb) (Kd.R_base ho0)) (Kd.N_base ho1)) (Kd.R_base ho2)) (fun _ h_ => h_.1))
                        have n7_ := Aside0.mk (Kd.R_mono (Kd.R_told (Kd.R_told (Kd.R_old (by (with_reducible repeat (first | apply Kd.R_alloc | apply Kd.R_drewN | apply Kd.R_drew)); exact HO_635002.out) hb) (Kd.R_base ho0)) (Kd.R_base ho2)) (fun _ h_ => h_.1))
                        have n8_ := Aside0.mk (Kd.R_mono (Kd.R_told (Kd.R_told (Kd.R_old (by (with_reducible repeat (first | apply Kd.R_alloc | apply Kd.R_drewN | apply Kd.R_drew)); exact HO642.out) hb) (Kd.R_base ho0)) (Kd.R_base ho2)) (fun _ h_ => h_.1))
                        have n9_ := Aside0.mk (Kd.R_lower (Kd.R_new' (Kd.R_new' (Kd.R_new' (Kd.R_new' (Kd.R_new' (Kd.R_new' (Kd.R_new' (Kd.R_mono (ok' := fun k_ => some k_ ≠ (v652 : Value).ownBlock) ho0 (fun _ hk_ => hk_.2)) (Kd.R_lt (by (with_reducible repeat (first | apply Kd.R_alloc | apply Kd.R_drewN | apply Kd.R_drew)); exact HO_7.out))) (Kd.R_lt (by (with_reducible repeat (first | apply Kd.R_alloc | apply Kd.R_drewN | apply Kd.R_drew)); exact HO_35.out))) (Kd.R_lt (by (with_reducible repeat (first | apply Kd.R_alloc | apply Kd.R_drewN | apply Kd.R_drew)); exact HO_613000.out))) (Kd.R_lt (by (with_reducible repeat (first | apply Kd.R_alloc | apply Kd.R_drewN | apply Kd.R_drew)); exact HO_613002.out))) (Kd.R_lt (by (with_reducible repeat (first | apply Kd.R_alloc | apply Kd.R_drewN | apply Kd.R_drew)); exact HO_635000.out))) (Kd.R_lt (by (with_reducible repeat (first | apply Kd.R_alloc | apply Kd.R_drewN | apply Kd.R_drew)); exact HO_635002.out))) (Kd.R_lt (by (with_reducible repeat (first | apply Kd.R_alloc | apply Kd.R_drewN | apply Kd.R_drew)); exact HO642.out))) (below_size (by repeat (first | (with_reducible first | exact HB.out | apply below_alloc | apply pw_below_drewN | apply below_drew1 | refine below_set ?_ GE612.out | refine below_set ?_ GE634.out) | exact HB.out))))
                        have n10_ := Aside0.mk (Kd.N_lower (Kd.N_mono (ok' := fun k_ => some k_ ≠ (v646 : Value).ownBlock ∧ some k_ ≠ (v652 : Value).ownBlock ∧ some k_ ≠ (.slice Ao28 t616.length co28 : Value).ownBlock ∧ some k_ ≠ (.slice (some ad623) t613.length co23 : Value).ownBlock ∧ some k_ ≠ (.slice Ao14 t603.length co14 : Value).ownBlock ∧ some k_ ≠ (.slice Ao16 t606.length co16 : Value).ownBlock ∧ some k_ ≠ (.slice Ao17 t609.length co17 : Value).ownBlock ∧ some k_ ≠ (.slice Ao92 x635000_5.length co92 : Value).ownBlock ∧ some k_ ≠ (.slice Ao93 x635001_5.length co93 : Value).ownBlock ∧ some k_ ≠ (.slice Ao94 x635002_5.length co94 : Value).ownBlock ∧ some k_ ≠ (.slice (some ad644) t640.length co96 : Value).ownBlock ∧ k_ ≠ gb612 ∧ k_ ≠ gb634) ho1 (fun k_ hk_ => ⟨hk_.2.1, hk_.2.2, (Kd.fresh' (Kd.R_lt (by (with_reducible repeat (first | apply Kd.R_alloc | apply Kd.R_drewN | apply Kd.R_drew)); exact HO_7.out)) k_ hk_.1), (Kd.fresh' (Kd.R_lt (by (with_reducible repeat (first | apply Kd.R_alloc | apply Kd.R_drewN | apply Kd.R_drew)); exact HO_35.out)) k_ hk_.1), (Kd.fresh' (Kd.R_lt (by (with_reducible repeat (first | apply Kd.R_alloc | apply Kd.R_drewN | apply Kd.R_drew)); exact HO_613000.out)) k_ hk_.1), (Kd.fresh' (Kd.N_lt (by (with_reducible repeat (first | apply Kd.N_alloc | apply Kd.N_drewN | apply Kd.N_drew)); exact HO_613001.out)) k_ hk_.1), (Kd.fresh' (Kd.R_lt (by (with_reducible repeat (first | apply Kd.R_alloc | apply Kd.R_drewN | apply Kd.R_drew)); exact HO_613002.out)) k_ hk_.1), (Kd.fresh' (Kd.R_lt (by (with_reducible repeat (first | apply Kd.R_alloc | apply Kd.R_drewN | apply Kd.R_drew)); exact HO_635000.out)) k_ hk_.1), (Kd.fresh' (Kd.N_lt (by (with_reducible repeat (first | apply Kd.N_alloc | apply Kd.N_drewN | apply Kd.N_drew)); exact HO_635001.out)) k_ hk_.1), (Kd.fresh' (Kd.R_lt (by (with_reducible repeat (first | apply Kd.R_alloc | apply Kd.R_drewN | apply Kd.R_drew)); exact HO_635002.out)) k_ hk_.1), (Kd.fresh' (Kd.R_lt (by (with_reducible repeat (first | apply Kd.R_alloc | apply Kd.R_drewN | apply Kd.R_drew)); exact HO642.out)) k_ hk_.1), (Kd.freshB (g := gb612) (o := .cells #[.slice Ao14 t603.length co14, .slice Ao16 t606.length co16, .slice Ao17 t609.length co17] 26 (0, 0)) (by (with_reducible repeat (first | refine blk_drewN ?_ _ | refine blk_drew ?_ | refine blk_alloc ?_ _)); exact BK612.out) k_ hk_.1), (Kd.freshB (g := gb634) (o := .cells #[.slice Ao92 x635000_5.length co92, .slice Ao93 x635001_5.length co93, .slice Ao94 x635002_5.length co94] 26 (0, 0)) (by (with_reducible repeat (first | refine blk_drewN ?_ _ | refine blk_drew ?_ | refine blk_alloc ?_ _)); exact BK634.out) k_ hk_.1)⟩)) (below_size (by repeat (first | (with_reducible first | exact HB.out | apply below_alloc | apply pw_below_drewN | apply below_drew1 | refine below_set ?_ GE612.out | refine below_set ?_ GE634.out) | exact HB.out))))
                        have n11_ := Aside0.mk (Kd.R_lower (Kd.R_new' (Kd.R_new' (Kd.R_new' (Kd.R_new' (Kd.R_new' (Kd.R_new' (Kd.R_new' (Kd.R_mono (ok' := fun k_ => some k_ ≠ (v646 : Value).ownBlock) ho2 (fun _ hk_ => hk_.2)) (Kd.R_lt (by (with_reducible repeat (first | apply Kd.R_alloc | apply Kd.R_drewN | apply Kd.R_drew)); exact HO_7.out))) (Kd.R_lt (by (with_reducible repeat (first | apply Kd.R_alloc | apply Kd.R_drewN | apply Kd.R_drew)); exact HO_35.out))) (Kd.R_lt (by (with_reducible repeat (first | apply Kd.R_alloc | apply Kd.R_drewN | apply Kd.R_drew)); exact HO_613000.out))) (Kd.R_lt (by (with_reducible repeat (first | apply Kd.R_alloc | apply Kd.R_drewN | apply Kd.R_drew)); exact HO_613002.out))) (Kd.R_lt (by (with_reducible repeat (first | apply Kd.R_alloc | apply Kd.R_drewN | apply Kd.R_drew)); exact HO_635000.out))) (Kd.R_lt (by (with_reducible repeat (first | apply Kd.R_alloc | apply Kd.R_drewN | apply Kd.R_drew)); exact HO_635002.out))) (Kd.R_lt (by (with_reducible repeat (first | apply Kd.R_alloc | apply Kd.R_drewN | apply Kd.R_drew)); exact HO642.out))) (below_size (by repeat (first | (with_reducible first | exact HB.out | apply below_alloc | apply pw_below_drewN | apply below_drew1 | refine below_set ?_ GE612.out | refine below_set ?_ GE634.out) | exact HB.out))))
                        have n12_ := Aside0.mk (blk_below (g := gb612) (o := .cells #[.slice Ao14 t603.length co14, .slice Ao16 t606.length co16, .slice Ao17 t609.length co17] 26 (0, 0)) (by (with_reducible repeat (first | refine blk_drewN ?_ _ | refine blk_drew ?_ | refine blk_alloc ?_ _)); exact BK612.out) hb)
                        have n13_ := Aside0.mk (blk_below (g := gb634) (o := .cells #[.slice Ao92 x635000_5.length co92, .slice Ao93 x635001_5.length co93, .slice Ao94 x635002_5.length co94] 26 (0, 0)) (by (with_reducible repeat (first | refine blk_drewN ?_ _ | refine blk_drew ?_ | refine blk_alloc ?_ _)); exact BK634.out) hb)
                        have n14_ := Aside0.mk (below_step (by repeat (first | (with_reducible first | exact HB.out | apply below_alloc | apply pw_below_drewN | apply below_drew1 | refine below_set ?_ GE612.out | refine below_set ?_ GE634.out) | exact HB.out)) hb)
                        clear HO_7
                        clear HO_35
                        clear HO_613000
                        clear HO_613001
                        clear HO_613002
                        clear HO_635000
                        clear HO_635001
                        clear HO_635002
                        clear HO642
                        clear BK612
                        clear BK634
                        clear HB
                        have HO_7 := n0_
                        have HO_35 := n1_
                        have HO_613000 := n2_
                        have HO_613001 := n3_
                        have HO_613002 := n4_
                        have HO_635000 := n5_
                        have HO_635001 := n6_
                        have HO_635002 := n7_
                        have HO642 := n8_
                        have HO647 := n9_
                        have HO650 := n10_
                        have HO653 := n11_
                        have BK612 := n12_
                        have BK634 := n13_
                        have HB := n14_
                        clear n0_ n1_ n2_ n3_ n4_ n5_ n6_ n7_ n8_ n9_ n10_ n11_ n12_ n13_ n14_
                        (try clear hb)
                        (try clear hb2)
                        (try clear hk)
                        (try clear hi)
                        (try clear ho0)
                        (try clear ho1)
                        (try clear ho2)
                        obtain ⟨Ao99, co99, eo99⟩ := Kd.R_slice HO647.out
                        (first | subst eo99 | (injection eo99 with f1_ f2_ f3_; have f4_ := f1_.symm; have f5_ := f3_.symm; clear f1_ f2_ f3_; subst f4_; subst f5_))
                        obtain ⟨Ao101, co101, eo101⟩ := Kd.N_slice HO650.out
                        (first | subst eo101 | (injection eo101 with f1_ f2_ f3_; have f4_ := f1_.symm; have f5_ := f3_.symm; clear f1_ f2_ f3_; subst f4_; subst f5_))
                        obtain ⟨Ao103, co103, eo103⟩ := Kd.R_slice HO653.out
                        (first | subst eo103 | (injection eo103 with f1_ f2_ f3_; have f4_ := f1_.symm; have f5_ := f3_.symm; clear f1_ f2_ f3_; subst f4_; subst f5_))
                        refine hK.out _ _ ⟨(blk_cell BK634.out 0).trans rfl, (blk_cell BK634.out 1).trans rfl, (blk_cell BK634.out 2).trans rfl, HS3_⟩ (fun hHeld => ?_)
                        clear hK K
                        refine norm_ (a' := ?_) ?_ ?_
                        rotate_left
                        ·show Act.put _ (some 96) _ = _
                         simp only [Act.put, List.setIfInBounds_toArray, List.set_cons_zero, List.set_cons_succ, i64_w, i32_w]
                         rfl
                        refine last_ (i := 13) (N := none) #[true, true, true, true, true, true, true, true, true, true, true, true, true, true] rfl rfl (one_of HT_.out (by kernel_rfl)) (by decide) (fun K hK => ?_)
                        have hs100 : w98.cell? ⟨gb634, 0, none⟩ = some (.slice Ao92 x635000_5.length co92) := (blk_cell BK634.out 0).trans rfl
                        have hfs100 := blk_frozen BK634.out 0
                        have hns100_0 := NB612_634.out
                        have hms100_0 := NB634_612.out
                        have hs102 : w98.cell? ⟨gb634, 1, none⟩ = some (.slice Ao93 x635001_5.length co93) := (blk_cell BK634.out 1).trans rfl
                        have hfs102 := blk_frozen BK634.out 1
                        have hns102_0 := NB612_634.out
                        have hms102_0 := NB634_612.out
                        have hs104 : w98.cell? ⟨gb634, 2, none⟩ = some (.slice Ao94 x635002_5.length co94) := (blk_cell BK634.out 2).trans rfl
                        have hfs104 := blk_frozen BK634.out 2
                        have hns104_0 := NB612_634.out
                        have hms104_0 := NB634_612.out
                        refine skip_ (w1 := ?_) (by rfl) rfl ?_ ?_
                        rotate_left
                        ·go_simp
                         rfl
                        refine hK.out _ _ ?_
                        clear hK K
                        refine done_ (done_of HT_.out (by kernel_rfl)) ?_
                        try go_wp2
                        go_roundg kj50
                        case measure => have := HJ2.out; have := HK2.out; have := HK3.out; have := HJ33.out; have := HK5.out; have := HJ50.out; omega
                        case rel => exact ⟨(wrap64 (x14_5 + 1)), (t645), (t648), (t651), (.slice Ao99 t645.length co99), (.slice Ao101 t648.length co101), (.slice Ao103 t651.length co103), (by first | rfl | (simp; done) | (simp [*]; done)), H', ⟨by have := HJ2.out; have := HK2.out; have := HK3.out; have := HJ33.out; have := HK5.out; have := HJ50.out; omega⟩, ⟨by (with_reducible repeat (first | apply Kd.R_alloc | apply Kd.R_drewN | apply Kd.R_drew)); exact Kd.R_mono (Kd.R_far (p := ⟨gb634, 2, none⟩) (Kd.R_far (p := ⟨gb634, 1, none⟩) (Kd.R_far (p := ⟨gb634, 0, none⟩) (Kd.R_types HO_7.out BK634.out (by decide)) (fun _ hk => hk.2) (.slice Ao99 t645.length co99)) (fun _ hk => hk.2) (.slice Ao101 t648.length co101)) (fun _ hk => hk.2) (.slice Ao103 t651.length co103)) (fun _ hk => ⟨hk.1.1.1.1.1, ⟨hk.1.1.1.1.2.1, ⟨hk.1.1.1.1.2.2.1, ⟨hk.1.1.2, hk.1.2⟩⟩⟩⟩)⟩, ⟨by (with_reducible repeat (first | apply Kd.R_alloc | apply Kd.R_drewN | apply Kd.R_drew)); exact Kd.R_mono (Kd.R_far (p := ⟨gb634, 2, none⟩) (Kd.R_far (p := ⟨gb634, 1, none⟩) (Kd.R_far (p := ⟨gb634, 0, none⟩) (Kd.R_types HO_35.out BK634.out (by decide)) (fun _ hk => hk.2) (.slice Ao99 t645.length co99)) (fun _ hk => hk.2) (.slice Ao101 t648.length co101)) (fun _ hk => hk.2) (.slice Ao103 t651.length co103)) (fun _ hk => ⟨hk.1.1.1.1.1, ⟨hk.1.1.1.1.2.1, ⟨hk.1.1.1.1.2.2.1, ⟨hk.1.1.2, hk.1.2⟩⟩⟩⟩)⟩, ⟨by (with_reducible repeat (first | apply Kd.R_alloc | apply Kd.R_drewN | apply Kd.R_drew)); exact Kd.R_mono (Kd.R_far (p := ⟨gb634, 2, none⟩) (Kd.R_far (p := ⟨gb634, 1, none⟩) (Kd.R_far (p := ⟨gb634, 0, none⟩) (Kd.R_types HO_613000.out BK634.out (by decide)) (fun _ hk => hk.2) (.slice Ao99 t645.length co99)) (fun _ hk => hk.2) (.slice Ao101 t648.length co101)) (fun _ hk => hk.2) (.slice Ao103 t651.length co103)) (fun _ hk => ⟨hk.1.1.1.1.1, ⟨hk.1.1.1.1.2.1, ⟨hk.1.1.1.1.2.2.1, ⟨hk.1.1.2, hk.1.2⟩⟩⟩⟩)⟩, ⟨by (with_reducible repeat (first | apply Kd.N_alloc | apply Kd.N_drewN | apply Kd.N_drew)); exact Kd.N_mono (Kd.N_far (p := ⟨gb634, 2, none⟩) (Kd.N_far (p := ⟨gb634, 1, none⟩) (Kd.N_far (p := ⟨gb634, 0, none⟩) (Kd.N_mono HO_613001.out (fun k_ hk => (⟨hk, hk.1.1.1.1.2.2.2.2.2.2.2.2⟩ : _ ∧ k_ ≠ gb634))) (fun _ hk => hk.2) (.slice Ao99 t645.length co99)) (fun _ hk => hk.2) (.slice Ao101 t648.length co101)) (fun _ hk => hk.2) (.slice Ao103 t651.length co103)) (fun _ hk => ⟨hk.1.1.1.1.1.1, ⟨hk.1.1.1.1.1.2.1, ⟨hk.1.1.1.1.1.2.2.1, ⟨hk.1.1.1.1.1.2.2.2.1, ⟨hk.1.1.1.2, ⟨hk.1.1.2, ⟨hk.1.2, ⟨hk.1.1.1.1.1.2.2.2.2.2.2.2.1, hk.1.1.1.1.1.2.2.2.2.2.2.2.2⟩⟩⟩⟩⟩⟩⟩⟩)⟩, ⟨by (with_reducible repeat (first | apply Kd.R_alloc | apply Kd.R_drewN | apply Kd.R_drew)); exact Kd.R_mono (Kd.R_far (p := ⟨gb634, 2, none⟩) (Kd.R_far (p := ⟨gb634, 1, none⟩) (Kd.R_far (p := ⟨gb634, 0, none⟩) (Kd.R_types HO_613002.out BK634.out (by decide)) (fun _ hk => hk.2) (.slice Ao99 t645.length co99)) (fun _ hk => hk.2) (.slice Ao101 t648.length co101)) (fun _ hk => hk.2) (.slice Ao103 t651.length co103)) (fun _ hk => ⟨hk.1.1.1.1.1, ⟨hk.1.1.1.1.2.1, ⟨hk.1.1.1.1.2.2.1, ⟨hk.1.1.2, hk.1.2⟩⟩⟩⟩)⟩, ⟨by (with_reducible repeat (first | apply Kd.R_alloc | apply Kd.R_drewN | apply Kd.R_drew)); exact Kd.R_mono (Kd.R_far (p := ⟨gb634, 2, none⟩) (Kd.R_far (p := ⟨gb634, 1, none⟩) (Kd.R_far (p := ⟨gb634, 0, none⟩) (Kd.R_types HO647.out BK634.out (by decide)) (fun _ hk => hk.2) (.slice Ao99 t645.length co99)) (fun _ hk => hk.2) (.slice Ao101 t648.length co101)) (fun _ hk => hk.2) (.slice Ao103 t651.length co103)) (fun _ hk => ⟨hk.1.1.1.1.1.1.1.2, ⟨hk.1.1.1.1.1.1.2, ⟨hk.1.1.1.1.1.2, ⟨hk.1.1.1.1.2, hk.1.1.1.1.1.1.1.1⟩⟩⟩⟩)⟩, ⟨by (with_reducible repeat (first | apply Kd.N_alloc | apply Kd.N_drewN | apply Kd.N_drew)); exact Kd.N_mono (Kd.N_far (p := ⟨gb634, 2, none⟩) (Kd.N_far (p := ⟨gb634, 1, none⟩) (Kd.N_far (p := ⟨gb634, 0, none⟩) (Kd.N_mono HO650.out (fun k_ hk => (⟨hk, hk.2.2.2.2.2.2.2.2.2.2.2.2⟩ : _ ∧ k_ ≠ gb634))) (fun _ hk => hk.2) (.slice Ao99 t645.length co99)) (fun _ hk => hk.2) (.slice Ao101 t648.length co101)) (fun _ hk => hk.2) (.slice Ao103 t651.length co103)) (fun _ hk => ⟨hk.1.2.2.1, ⟨hk.1.2.2.2.1, ⟨hk.1.2.2.2.2.1, ⟨hk.1.2.2.2.2.2.1, ⟨hk.1.2.2.2.2.2.2.1, ⟨hk.1.1, ⟨hk.1.2.1, ⟨hk.1.2.2.2.2.2.2.2.2.2.2.2.1, hk.1.2.2.2.2.2.2.2.2.2.2.2.2⟩⟩⟩⟩⟩⟩⟩⟩)⟩, ⟨by (with_reducible repeat (first | apply Kd.R_alloc | apply Kd.R_drewN | apply Kd.R_drew)); exact Kd.R_mono (Kd.R_far (p := ⟨gb634, 2, none⟩) (Kd.R_far (p := ⟨gb634, 1, none⟩) (Kd.R_far (p := ⟨gb634, 0, none⟩) (Kd.R_types HO653.out BK634.out (by decide)) (fun _ hk => hk.2) (.slice Ao99 t645.length co99)) (fun _ hk => hk.2) (.slice Ao101 t648.length co101)) (fun _ hk => hk.2) (.slice Ao103 t651.length co103)) (fun _ hk => ⟨hk.1.1.1.1.1.1.1.2, ⟨hk.1.1.1.1.1.1.2, ⟨hk.1.1.1.1.1.2, ⟨hk.1.1.1.1.2, hk.1.1.1.1.1.1.1.1⟩⟩⟩⟩)⟩, ⟨by (with_reducible repeat (first | refine blk_drewN ?_ _ | refine blk_drew ?_ | refine blk_alloc ?_ _)); refine blk_far ?_ NB612_634.out _; (with_reducible repeat (first | refine blk_drewN ?_ _ | refine blk_drew ?_ | refine blk_alloc ?_ _)); refine blk_far ?_ NB612_634.out _; (with_reducible repeat (first | refine blk_drewN ?_ _ | refine blk_drew ?_ | refine blk_alloc ?_ _)); refine blk_far ?_ NB612_634.out _; (with_reducible repeat (first | refine blk_drewN ?_ _ | refine blk_drew ?_ | refine blk_alloc ?_ _)); exact BK612.out⟩, ⟨by (with_reducible repeat (first | refine blk_drewN ?_ _ | refine blk_drew ?_ | refine blk_alloc ?_ _)); refine blk_put (cs := #[.slice Ao99 t645.length co99, .slice Ao101 t648.length co101, .slice Ao94 x635002_5.length co94]) ?_ 2 _ rfl; (with_reducible repeat (first | refine blk_drewN ?_ _ | refine blk_drew ?_ | refine blk_alloc ?_ _)); refine blk_put (cs := #[.slice Ao99 t645.length co99, .slice Ao93 x635001_5.length co93, .slice Ao94 x635002_5.length co94]) ?_ 1 _ rfl; (with_reducible repeat (first | refine blk_drewN ?_ _ | refine blk_drew ?_ | refine blk_alloc ?_ _)); refine blk_put (cs := #[.slice Ao92 x635000_5.length co92, .slice Ao93 x635001_5.length co93, .slice Ao94 x635002_5.length co94]) ?_ 0 _ rfl; (with_reducible repeat (first | refine blk_drewN ?_ _ | refine blk_drew ?_ | refine blk_alloc ?_ _)); exact BK634.out⟩, ⟨by repeat (first | (with_reducible first | exact HB.out | apply below_alloc | apply pw_below_drewN | apply below_drew1 | refine below_set ?_ GE612.out | refine below_set ?_ GE634.out) | exact HB.out)⟩⟩
                       ·rw [if_neg c88] at H
                        exact absurd H (by simp)
                      ·rw [if_neg c87] at H
                       exact absurd H (by simp)
                    ·replace c56 := Bool.eq_false_iff.mpr c56
                     subst c56
                     have H1 : (if (x635001_5.length : Int) = 0 then (if x10_3 = true then (laws_FnJust.l0 kj50 l1 t616 t613 (t613.length : Int) (wrap64 (x37_2 + 1)) t603 t606 t609) else (some false)) else (laws_FnJust.l0 kj50 l1 t616 t613 (t613.length : Int) (wrap64 (x37_2 + 1)) t603 t606 t609)) = some r := by rw [if_neg (show ¬ (false = true) by decide)] at H; exact H
                     clear H
                     have H := H1
                     clear H1
                     by_cases c105 : (x635001_5.length : Int) = 0
                     ·rw [if_pos c105] at H
                      have c105b0 : ((x635001_5.length : Int) == 0) = true := beq_iff_eq.mpr c105
                      have c105b1 : ((x635001_5.length : Int) != 0) = false := bne_eq_false_iff_eq.mpr c105
                      clear c105
                      by_cases c106 : x10_3 = true
                      ·subst c106
                       have H1 : (laws_FnJust.l0 kj50 l1 t616 t613 (t613.length : Int) (wrap64 (x37_2 + 1)) t603 t606 t609) = some r := by rw [if_pos rfl] at H; exact H
                       clear H
                       have H := H1
                       clear H1
                       have H' := Aside0.mk H
                       clear H
                       have hnb107 := NB634_612.out
                       have hnc107 := NB612_634.out
                       have hcz108_0 : wc.cell? ⟨gb634, 0, none⟩ = some (u635000) := (blk_cell BK634.out 0).trans rfl
                       have hcz108_1 : wc.cell? ⟨gb634, 1, none⟩ = some (u635001) := (blk_cell BK634.out 1).trans rfl
                       have hcz108_2 : wc.cell? ⟨gb634, 2, none⟩ = some (u635002) := (blk_cell BK634.out 2).trans rfl
                       have hfz108_0 := blk_frozen BK634.out 0
                       have hfz108_1 := blk_frozen BK634.out 1
                       have hfz108_2 := blk_frozen BK634.out 2
                       obtain ⟨Ao109, co109, eo109⟩ := Kd.N_slice HO_635001.out
                       subst eo109
                       go_wp2
                       go_roundg kj50
                       case measure => have := HJ2.out; have := HK2.out; have := HK3.out; have := HJ33.out; have := HK5.out; have := HJ50.out; omega
                       case rel => exact ⟨(wrap64 (x37_2 + 1)), (by first | rfl | (simp; done) | (simp [*]; done)), H', ⟨by have := HJ2.out; have := HK2.out; have := HK3.out; have := HJ33.out; have := HK5.out; have := HJ50.out; omega⟩, ⟨by (with_reducible repeat (first | apply Kd.R_alloc | apply Kd.R_drewN | apply Kd.R_drew)); exact Kd.R_mono HO_7.out (fun _ hk => ⟨hk.1, ⟨hk.2.1, hk.2.2.1⟩⟩)⟩, ⟨by (with_reducible repeat (first | apply Kd.R_alloc | apply Kd.R_drewN | apply Kd.R_drew)); exact Kd.R_mono HO_35.out (fun _ hk => ⟨hk.1, ⟨hk.2.1, hk.2.2.1⟩⟩)⟩, ⟨by (with_reducible repeat (first | apply Kd.R_alloc | apply Kd.R_drewN | apply Kd.R_drew)); exact Kd.R_mono HO_613000.out (fun _ hk => ⟨hk.1, ⟨hk.2.1, hk.2.2.1⟩⟩)⟩, ⟨by (with_reducible repeat (first | apply Kd.N_alloc | apply Kd.N_drewN | apply Kd.N_drew)); exact Kd.N_mono HO_613001.out (fun _ hk => ⟨hk.1, ⟨hk.2.1, ⟨hk.2.2.1, ⟨hk.2.2.2.1, hk.2.2.2.2.2.2.2.1⟩⟩⟩⟩)⟩, ⟨by (with_reducible repeat (first | apply Kd.R_alloc | apply Kd.R_drewN | apply Kd.R_drew)); exact Kd.R_mono HO_613002.out (fun _ hk => ⟨hk.1, ⟨hk.2.1, hk.2.2.1⟩⟩)⟩, ⟨by (with_reducible repeat (first | refine blk_drewN ?_ _ | refine blk_drew ?_ | refine blk_alloc ?_ _)); exact BK612.out⟩, ⟨by repeat (first | (with_reducible first | exact HB.out | apply below_alloc | apply pw_below_drewN | apply below_drew1 | refine below_set ?_ GE612.out | refine below_set ?_ GE634.out) | exact HB.out)⟩⟩
                      ·replace c106 := Bool.eq_false_iff.mpr c106
                       subst c106
                       have H1 : (some false) = some r := by rw [if_neg (show ¬ (false = true) by decide)] at H; exact H
                       clear H
                       have H := H1
                       exact absurd (H.trans (congrArg some hT_.out)) (by simp)
                     ·rw [if_neg c105] at H
                      have c105b0 : ((x635001_5.length : Int) == 0) = false := beq_eq_false_iff_ne.mpr c105
                      have c105b1 : ((x635001_5.length : Int) != 0) = true := bne_iff_ne.mpr c105
                      have c105b2 : ¬ (x635001_5 = []) := fun h_ => c105 (by rw [h_]; rfl)
                      have H' := Aside0.mk H
                      clear H
                      have hnb113 := NB634_612.out
                      have hnc113 := NB612_634.out
                      have hcz114_0 : wc.cell? ⟨gb634, 0, none⟩ = some (u635000) := (blk_cell BK634.out 0).trans rfl
                      have hcz114_1 : wc.cell? ⟨gb634, 1, none⟩ = some (u635001) := (blk_cell BK634.out 1).trans rfl
                      have hcz114_2 : wc.cell? ⟨gb634, 2, none⟩ = some (u635002) := (blk_cell BK634.out 2).trans rfl
                      have hfz114_0 := blk_frozen BK634.out 0
                      have hfz114_1 := blk_frozen BK634.out 1
                      have hfz114_2 := blk_frozen BK634.out 2
                      obtain ⟨Ao115, co115, eo115⟩ := Kd.N_slice HO_635001.out
                      subst eo115
                      go_wp2
                      go_roundg kj50
                      case measure => have := HJ2.out; have := HK2.out; have := HK3.out; have := HJ33.out; have := HK5.out; have := HJ50.out; omega
                      case rel => exact ⟨(wrap64 (x37_2 + 1)), (by first | rfl | (simp; done) | (simp [*]; done)), H', ⟨by have := HJ2.out; have := HK2.out; have := HK3.out; have := HJ33.out; have := HK5.out; have := HJ50.out; omega⟩, ⟨by (with_reducible repeat (first | apply Kd.R_alloc | apply Kd.R_drewN | apply Kd.R_drew)); exact Kd.R_mono HO_7.out (fun _ hk => ⟨hk.1, ⟨hk.2.1, hk.2.2.1⟩⟩)⟩, ⟨by (with_reducible repeat (first | apply Kd.R_alloc | apply Kd.R_drewN | apply Kd.R_drew)); exact Kd.R_mono HO_35.out (fun _ hk => ⟨hk.1, ⟨hk.2.1, hk.2.2.1⟩⟩)⟩, ⟨by (with_reducible repeat (first | apply Kd.R_alloc | apply Kd.R_drewN | apply Kd.R_drew)); exact Kd.R_mono HO_613000.out (fun _ hk => ⟨hk.1, ⟨hk.2.1, hk.2.2.1⟩⟩)⟩, ⟨by (with_reducible repeat (first | apply Kd.N_alloc | apply Kd.N_drewN | apply Kd.N_drew)); exact Kd.N_mono HO_613001.out (fun _ hk => ⟨hk.1, ⟨hk.2.1, ⟨hk.2.2.1, ⟨hk.2.2.2.1, hk.2.2.2.2.2.2.2.1⟩⟩⟩⟩)⟩, ⟨by (with_reducible repeat (first | apply Kd.R_alloc | apply Kd.R_drewN | apply Kd.R_drew)); exact Kd.R_mono HO_613002.out (fun _ hk => ⟨hk.1, ⟨hk.2.1, hk.2.2.1⟩⟩)⟩, ⟨by (with_reducible repeat (first | refine blk_drewN ?_ _ | refine blk_drew ?_ | refine blk_alloc ?_ _)); exact BK612.out⟩, ⟨by repeat (first | (with_reducible first | exact HB.out | apply below_alloc | apply pw_below_drewN | apply below_drew1 | refine below_set ?_ GE612.out | refine below_set ?_ GE634.out) | exact HB.out)⟩⟩
         ·rw [if_neg c27] at H
          exact absurd H (by simp)
        ·rw [if_neg c26] at H
         exact absurd H (by simp)
       ·rw [if_neg c25] at H
        have c25b0 : decide (x37_2 < (t613.length : Int)) = false := decide_eq_false c25
        clear c25
        obtain rfl := Option.some.inj H
        go_wp2
        go_ret
        exact ⟨by first | rfl | (simp [errW_none, errW_some] <;> rfl) | (simp [*, errW_none, errW_some] <;> rfl), by repeat (first | (with_reducible first | exact HB.out | apply below_alloc | apply pw_below_drewN | apply below_drew1 | refine below_set ?_ GE612.out) | exact HB.out)⟩
    ·replace c11 := Bool.eq_false_iff.mpr c11
     subst c11
     have H1 : (some false) = some r := by rw [if_neg (show ¬ (false = true) by decide)] at H; exact H
     clear H
     have H := H1
     exact absurd (H.trans (congrArg some hT_.out)) (by simp)
/-- THE ONE PURE STATEMENT of laws_FnJust: yours. -/
def laws_FnJust.Pure : Prop := ∀ (l0 : List Int) (l1 : List Int), l0.length ≤ maxLen → l0.length * 1 ≤ 140737488351232 → (∀ x ∈ l0, (Lit.int .u8 x).wf = true) → l1.length ≤ maxLen → l1.length * 1 ≤ 140737488351232 → (∀ x ∈ l1, (Lit.int .u8 x).wf = true) → ∃ k, laws_FnJust.f k l0 l1 = some true
theorem laws_FnJust.walk (P : laws_FnJust.Pure) (a0 : Option Addr) (len0 cap0 : Nat) (z0 : List Int) (a1 : Option Addr) (len1 cap1 : Nat) (z1 : List Int) (w : World) (w0 : (a0 = none ∧ len0 = 0 ∧ cap0 = 0 ∧ z0 = []) ∨ ∃ x, a0 = some x ∧ len0 ≤ cap0 ∧ cap0 ≤ maxLen ∧ z0.length = cap0 ∧ (∀ i, i < z0.length → w.cell? (x.add i) = some (.int .u8 (z0.getD i 0))) ∧ ∀ n ∈ z0, (Lit.int .u8 n).wf = true) (y0 : len0 * 1 ≤ 140737488351232) (w1 : (a1 = none ∧ len1 = 0 ∧ cap1 = 0 ∧ z1 = []) ∨ ∃ x, a1 = some x ∧ len1 ≤ cap1 ∧ cap1 ≤ maxLen ∧ z1.length = cap1 ∧ (∀ i, i < z1.length → w.cell? (x.add i) = some (.int .u8 (z1.getD i 0))) ∧ ∀ n ∈ z1, (Lit.int .u8 n).wf = true) (y1 : len1 * 1 ≤ 140737488351232) :
  Calls Try.prog 4 #[.slice a0 len0 cap0, .slice a1 len1 cap1] w fun e w' => e = .returned (.bool true) ∧ Below w.heap.size w w' := by
 have hu41_ := @So.field41
 have hu410_ := @So.field41_0
 have hu412_ := @So.field41_2
 obtain ⟨l0, rfl, hr0, hm0, hw0, hc0⟩ := ReadsInt.ofRowC w0
 obtain ⟨l1, rfl, hr1, hm1, hw1, hc1⟩ := ReadsInt.ofRowC w1
 obtain ⟨k, h⟩ := P l0 l1 hm0 y0 hw0 hm1 y1 hw1
 refine (laws_FnJust.calls k _ _ l0 _ _ l1 true w (Kd.C_of_reads (d := (0 : Int)) (h1 := fun _ => rfl) hr0) hc0 (Kd.C_of_reads (d := (0 : Int)) (h1 := fun _ => rfl) hr1) hc1 ⟨rfl⟩ h).mono ?_
 rintro e w' ⟨rfl, hd⟩
 exact ⟨rfl, hd⟩


end Go.Proofs.Ytpbclogjoangfaa.Q
