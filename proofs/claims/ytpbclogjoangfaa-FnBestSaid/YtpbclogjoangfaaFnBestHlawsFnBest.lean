-- Written by programs of this session (wip/drv.py, wip/hx.py) over the kit's print; not trusted: Lean checks it.
import Derived.Test.YtpbclogjoangfaaFnBestQ0
import Derived.Test.YtpbclogjoangfaaFnBestQ1
import Derived.Test.YtpbclogjoangfaaFnBestQ5
import Derived.Test.YtpbclogjoangfaaFnBestQ7
import Derived.Test.YtpbclogjoangfaaFnBestSr8
import Derived.Test.YtpbclogjoangfaaFnBestHka
import Derived.Test.YtpbclogjoangfaaFnBestSo2
import Derived.Test.YtpbclogjoangfaaFnBestHke
import Derived.Test.YtpbclogjoangfaaFnBestSo4
import Derived.Test.YtpbclogjoangfaaFnBestHkf
import Derived.Test.YtpbclogjoangfaaFnBestSt0
import Derived.Test.YtpbclogjoangfaaFnBestH0
namespace Go.Proofs.Ytpbclogjoangfaa.Q
open Go.RowKit Go.Proofs.YtpbclogjoangfaaW.PrintWords Go.Proofs.YtpbclogjoangfaaW.PrintLast Go.Proofs.YtpbclogjoangfaaW.PrintMore
attribute [local go_sem] max2_int min2_int max_two min_two max_three min_three max_four min_four   -- for this text's walks alone
set_option linter.unusedVariables false
set_option linter.unusedSimpArgs false

open Go.Proofs.Ytpbclogjoangfaa.Sr Go.Proofs.Ytpbclogjoangfaa.So Go.Proofs.Ytpbclogjoangfaa.St
/-! ### laws_FnBest: function 11 -/
mutual
def laws_FnBest.j0 : Nat → List Int → List Int → Bool → Option (Bool)
 | 0, _, _, _ => none
 | k + 1, x0, x1, x23 => if x23 = true then (some true) else ((spec_States.f k x0).bind fun bt436 => ((impl_Solve.f k bt436.1 bt436.2.1 bt436.2.2).bind fun bt446 => ((spec_Solve.f k bt436.1 bt436.2.1 bt436.2.2).bind fun bt452 => (if (bt446.1 != bt452.1) = true then (laws_FnBest.j1 k x1 true bt436.1 bt436.2.1 bt436.2.2 bt446.1 bt446.2.1 bt446.2.2) else (if bt446.2.1 = bt452.2.1 then ((laws_wInts.f k bt446.2.2 bt452.2.2).bind fun t458 => (if t458 = true then ((impl_Safe.f k bt436.1 bt436.2.1 bt436.2.2).bind fun t459 => (laws_FnBest.j1 k x1 (bt446.1 != t459) bt436.1 bt436.2.1 bt436.2.2 bt446.1 bt446.2.1 bt446.2.2)) else (laws_FnBest.j1 k x1 true bt436.1 bt436.2.1 bt436.2.2 bt446.1 bt446.2.1 bt446.2.2))) else (laws_FnBest.j1 k x1 true bt436.1 bt436.2.1 bt436.2.2 bt446.1 bt446.2.1 bt446.2.2))))))
def laws_FnBest.j1 : Nat → List Int → Bool → List Int → List (S35) → List Int → Bool → Int → List Int → Option (Bool)
 | 0, _, _, _, _, _, _, _, _ => none
 | k + 1, x1, x56, x00, x01, x02, x03, x04, x05 => if x56 = true then (some false) else (if x03 = true then ((impl_Cost.f k x00 x01 x02 x05).bind fun t460 => (if t460 = x04 then (laws_FnBest.l0 k x1 0 x00 x01 x02 x03 x04 x05) else (some false))) else (some true))
def laws_FnBest.l0 : Nat → List Int → Int → List Int → List (S35) → List Int → Bool → Int → List Int → Option (Bool)
 | 0, _, _, _, _, _, _, _, _ => none
 | k + 1, x1, x8, x00, x01, x02, x03, x04, x05 => if x8 < 3 then (laws_FnBest.l1 k x1 x8 ([] : List Int) 0 x00 x01 x02 x03 x04 x05 x00 x01 x02) else (some true)
def laws_FnBest.j5 : Nat → List Int → Int → List Int → List Int → List (S35) → List Int → Bool → Int → List Int → List Int → List (S35) → List Int → Option (Bool)
 | 0, _, _, _, _, _, _, _, _, _, _, _, _ => none
 | k + 1, x1, x8, x9, x00, x01, x02, x03, x04, x05, x07, x08, x09 => (impl_Cost.f k x00 x01 x02 x9).bind fun t479 => ((spec_Cost.f k x00 x01 x02 x9).bind fun t480 => (if t479 = t480 then (if ((decide (t479 ≥ 0)) != ((x08.length : Int) == 0)) = true then (laws_FnBest.j6 k x1 x8 x9 t479 true x00 x01 x02 x03 x04 x05) else (if t479 ≥ 0 then (laws_FnBest.j6 k x1 x8 x9 t479 (decide (t479 < x04)) x00 x01 x02 x03 x04 x05) else (laws_FnBest.j6 k x1 x8 x9 t479 false x00 x01 x02 x03 x04 x05))) else (laws_FnBest.j6 k x1 x8 x9 t479 true x00 x01 x02 x03 x04 x05)))
def laws_FnBest.j6 : Nat → List Int → Int → List Int → Int → Bool → List Int → List (S35) → List Int → Bool → Int → List Int → Option (Bool)
 | 0, _, _, _, _, _, _, _, _, _, _, _ => none
 | k + 1, x1, x8, x9, x14, x132, x00, x01, x02, x03, x04, x05 => if x132 = true then (some false) else (if x14 = x04 then (laws_FnBest.l2 k x1 x8 x9 (x9.length : Int) 0 x00 x01 x02 x03 x04 x05) else (laws_FnBest.l0 k x1 (wrap64 (x8 + 1)) x00 x01 x02 x03 x04 x05))
def laws_FnBest.l2 : Nat → List Int → Int → List Int → Int → Int → List Int → List (S35) → List Int → Bool → Int → List Int → Option (Bool)
 | 0, _, _, _, _, _, _, _, _, _, _, _ => none
 | k + 1, x1, x8, x9, x138, x139, x00, x01, x02, x03, x04, x05 => if x139 < x138 then (if 0 ≤ x139 then (if x139 < (x9.length : Int) then (if x139 < (x05.length : Int) then (if (rd x9 x139) = (rd x05 x139) then (laws_FnBest.l2 k x1 x8 x9 x138 (wrap64 (x139 + 1)) x00 x01 x02 x03 x04 x05) else (if (rd x9 x139) < (rd x05 x139) then (some false) else (laws_FnBest.l0 k x1 (wrap64 (x8 + 1)) x00 x01 x02 x03 x04 x05))) else (none)) else (none)) else (none)) else (laws_FnBest.l0 k x1 (wrap64 (x8 + 1)) x00 x01 x02 x03 x04 x05)
def laws_FnBest.l1 : Nat → List Int → Int → List Int → Int → List Int → List (S35) → List Int → Bool → Int → List Int → List Int → List (S35) → List Int → Option (Bool)
 | 0, _, _, _, _, _, _, _, _, _, _, _, _, _ => none
 | k + 1, x1, x8, x9, x11, x00, x01, x02, x03, x04, x05, x07, x08, x09 => if x11 < 60 then (laws_FnBest.j4 k x1 x8 x9 x11 (decide ((x08.length : Int) > 0)) x00 x01 x02 x03 x04 x05 x07 x08 x09) else (laws_FnBest.j4 k x1 x8 x9 x11 false x00 x01 x02 x03 x04 x05 x07 x08 x09)
def laws_FnBest.j4 : Nat → List Int → Int → List Int → Int → Bool → List Int → List (S35) → List Int → Bool → Int → List Int → List Int → List (S35) → List Int → Option (Bool)
 | 0, _, _, _, _, _, _, _, _, _, _, _, _, _, _ => none
 | k + 1, x1, x8, x9, x11, x79, x00, x01, x02, x03, x04, x05, x07, x08, x09 => if x79 = true then ((spec_Moves.f k x07 x08 x09).bind fun t462 => (if (t462.length : Int) = 0 then (laws_FnBest.j5 k x1 x8 x9 x00 x01 x02 x03 x04 x05 x07 x08 x09) else ((laws_wByte.f x1 (wrap64 (x11 + (wrap64 (11 * x8))))).bind fun t465 => (if 0 ≤ (Int.tmod t465 (t462.length : Int)) then (if (Int.tmod t465 (t462.length : Int)) < (t462.length : Int) then (if x9.length < 17592186044416 then ((spec_Step.f k x07 x08 x09 (rd t462 (Int.tmod t465 (t462.length : Int)))).bind fun bt470 => (laws_FnBest.l1 k x1 x8 (x9 ++ [rd t462 (Int.tmod t465 (t462.length : Int))]) (wrap64 (x11 + 1)) x00 x01 x02 x03 x04 x05 bt470.1 bt470.2.1 bt470.2.2)) else (none)) else (none)) else (none))))) else (laws_FnBest.j5 k x1 x8 x9 x00 x01 x02 x03 x04 x05 x07 x08 x09)
end
def laws_FnBest.f (k : Nat) (l0 : List Int) (l1 : List Int) : Option (Bool) := if (l0.length : Int) > 1048576 then (laws_FnBest.j0 k l0 l1 true) else (laws_FnBest.j0 k l0 l1 (decide ((l1.length : Int) > 1048576)))
def laws_FnBest.T6 : Bool × List (List Nat × List Nat) := (true, [([], []), ([0], [0]), ([], []), ([2], [2]), ([1, 3], [1, 3]), ([4], [4]), ([5], [5]), ([6, 5], [5, 6]), ([5], [5]), ([8, 5], [5, 8]), ([7, 9, 5], [5, 7, 9]), ([5, 10], [5, 10]), ([11, 5], [11]), ([12], [12]), ([13, 12], [12, 13]), ([12], [12]), ([15, 12], [12, 15]), ([14, 16, 12, 12], [12, 14, 16]), ([17, 12], [12, 17]), ([12, 18], [12, 18]), ([19, 17], [19]), ([20], [20]), ([21, 20], [20, 21]), ([20], [20]), ([23, 20, 20], [20, 23]), ([22, 24, 20], [20, 22, 24]), ([20, 25], [20, 25])])
def laws_FnBest.B6 : List Nat := [0, 1, 0, 4, 15, 31, 63, 127, 63, 319, 1023, 2047, 4095, 8191, 16383, 8191, 40959, 131071, 262143, 524287, 1048575, 2097151, 4194303, 2097151, 10485759, 33554431, 67108863]
theorem laws_FnBest.tab6 : rtab .any (opsOf Try.f11 6) = laws_FnBest.T6 := by kernel_rfl
theorem laws_FnBest.bits6 : waitsOk laws_FnBest.T6.2 laws_FnBest.B6 = true := by kernel_rfl
def laws_FnBest.T32 : Bool × List (List Nat × List Nat) := (true, [([], []), ([], []), ([0, 1], [0, 1]), ([2], [2]), ([], []), ([4], [4]), ([], []), ([5, 6], [5, 6]), ([7], [7]), ([3, 8], [3, 8])])
def laws_FnBest.B32 : List Nat := [0, 0, 3, 7, 0, 16, 0, 112, 240, 511]
theorem laws_FnBest.tab32 : rtab .any (opsOf Try.f11 32) = laws_FnBest.T32 := by kernel_rfl
theorem laws_FnBest.bits32 : waitsOk laws_FnBest.T32.2 laws_FnBest.B32 = true := by kernel_rfl
def laws_FnBest.T33 : Bool × List (List Nat × List Nat) := (true, [([], []), ([], []), ([0, 1], [0, 1]), ([2], [2]), ([], []), ([4], [4]), ([], []), ([5, 6], [5, 6]), ([7], [7]), ([3, 8], [3, 8])])
def laws_FnBest.B33 : List Nat := [0, 0, 3, 7, 0, 16, 0, 112, 240, 511]
theorem laws_FnBest.tab33 : rtab .any (opsOf Try.f11 33) = laws_FnBest.T33 := by kernel_rfl
theorem laws_FnBest.bits33 : waitsOk laws_FnBest.T33.2 laws_FnBest.B33 = true := by kernel_rfl
theorem laws_FnBest.j1_dead : ∀ k y0 y2 y3 y4 y5 y6 y7, laws_FnBest.j1 k y0 true y2 y3 y4 y5 y6 y7 ≠ some true := by intro k; cases k <;> intros <;> simp [laws_FnBest.j1]
theorem laws_FnBest.j6_dead : ∀ k y0 y1 y2 y3 y5 y6 y7 y8 y9 y10, laws_FnBest.j6 k y0 y1 y2 y3 true y5 y6 y7 y8 y9 y10 ≠ some true := by intro k; cases k <;> intros <;> simp [laws_FnBest.j6]
set_option maxHeartbeats 8000000 in
set_option maxRecDepth 100000 in
theorem laws_FnBest.calls (k : Nat) (A0 : Option Addr) (c0 : Nat) (l0 : List Int) (A1 : Option Addr) (c1 : Nat) (l1 : List Int) (r : Bool) (w : World) (hr0 : Kd.C (Kd.int .u8) w A0 l0.length l0) (hc0 : l0.length ≤ c0) (hr1 : Kd.C (Kd.int .u8) w A1 l1.length l1) (hc1 : l1.length ≤ c1) (hT_ : Aside0 (r = true)) (h : laws_FnBest.f k l0 l1 = some r) :
  Calls Try.prog 11 #[.slice A0 l0.length c0, .slice A1 l1.length c1] w fun e w' => e = .returned (.bool r) ∧ Below w.heap.size w w' := by
 have hu41_ := @So.field41
 have hu410_ := @So.field41_0
 have hu412_ := @So.field41_2
 have hu26 := Try.underlying26
 have hu41 := Try.underlying41
 have HR0 := K_ hr0
 have HC0 := K_ hc0
 clear hr0 hc0
 have HR1 := K_ hr1
 have HC1 := K_ hc1
 clear hr1 hc1
 have HB := K_ (Below.refl w.heap.size w)
 unfold laws_FnBest.f at h
 have H := h
 clear h
 have HC3 := K_ H
 clear H
 go_enter Try.func11, Try.ntmps11
 go_upto_region 1 with (fail)
 go_cut [23] (fun v23 wc => ∃ (kq : Nat) (x23_2 : Bool), v23 = .bool x23_2 ∧ Aside0 (laws_FnBest.j0 kq l0 l1 x23_2 = some r) ∧ Aside0 (kq ≤ k) ∧ Aside0 (Below w.heap.size w wc))
 case first =>
  have H := HC3.out
  clear HC3
  by_cases c4 : (l0.length : Int) > 1048576
  ·rw [if_pos c4] at H
   have c4b0 := decide_eq_true c4
   have c4b1 : decide (1048576 < l0.length) = true := decide_eq_true (by omega)
   clear c4
   (first | rw [c4b0] | (simp only [i64_w, i32_w]; rw [c4b0]) | skip)
   have H' := K_ H
   clear H
   go_wp2
   go_meet
   case rel => exact ⟨_, (true), rfl, H', ⟨by first | omega | exact Nat.le_refl _⟩, ⟨HB.out⟩⟩
  ·rw [if_neg c4] at H
   have c4b0 := decide_eq_false c4
   have c4b1 : decide (1048576 < l0.length) = false := decide_eq_false (by omega)
   clear c4
   (first | rw [c4b0] | (simp only [i64_w, i32_w]; rw [c4b0]) | skip)
   have H' := K_ H
   clear H
   go_wp2
   go_meet
   case rel => exact ⟨_, (decide ((l1.length : Int) > 1048576)), rfl, H', ⟨by first | omega | exact Nat.le_refl _⟩, ⟨HB.out⟩⟩
 case rest =>
  clear HC3
  skip
  obtain ⟨kq, x23_2, rfl, HA, HJ2, HB⟩ := hcut
  cases kq with
  | zero => exact absurd HA.out (by simp [laws_FnBest.j0])
  | succ kj2 =>
   have H := HA.out
   clear HA
   simp only [laws_FnBest.j0] at H
   by_cases c5 : x23_2 = true
   ·subst c5
    rw [if_pos rfl] at H
    obtain rfl := Option.some.inj H
    go_wp2
    go_ret
    exact ⟨rfl, HB.out⟩
   ·replace c5 := Bool.eq_false_iff.mpr c5
    subst c5
    rw [if_neg (show ¬ (false = true) by decide)] at H
    replace H := Option.bind_eq_some_iff.mp H
    obtain ⟨⟨t436, t439, t442⟩, A60, H⟩ := H
    replace H : ((impl_Solve.f kj2 t436 t439 t442).bind fun bt446 => ((spec_Solve.f kj2 t436 t439 t442).bind fun bt452 => (if (bt446.1 != bt452.1) = true then (laws_FnBest.j1 kj2 l1 true t436 t439 t442 bt446.1 bt446.2.1 bt446.2.2) else (if bt446.2.1 = bt452.2.1 then ((laws_wInts.f kj2 bt446.2.2 bt452.2.2).bind fun t458 => (if t458 = true then ((impl_Safe.f kj2 t436 t439 t442).bind fun t459 => (laws_FnBest.j1 kj2 l1 (bt446.1 != t459) t436 t439 t442 bt446.1 bt446.2.1 bt446.2.2)) else (laws_FnBest.j1 kj2 l1 true t436 t439 t442 bt446.1 bt446.2.1 bt446.2.2))) else (laws_FnBest.j1 kj2 l1 true t436 t439 t442 bt446.1 bt446.2.1 bt446.2.2))))) = some r := H
    have A6 := K_ A60
    clear A60
    replace H := Option.bind_eq_some_iff.mp H
    obtain ⟨⟨t446, t447, t448⟩, A70, H⟩ := H
    replace H : ((spec_Solve.f kj2 t436 t439 t442).bind fun bt452 => (if (t446 != bt452.1) = true then (laws_FnBest.j1 kj2 l1 true t436 t439 t442 t446 t447 t448) else (if t447 = bt452.2.1 then ((laws_wInts.f kj2 t448 bt452.2.2).bind fun t458 => (if t458 = true then ((impl_Safe.f kj2 t436 t439 t442).bind fun t459 => (laws_FnBest.j1 kj2 l1 (t446 != t459) t436 t439 t442 t446 t447 t448)) else (laws_FnBest.j1 kj2 l1 true t436 t439 t442 t446 t447 t448))) else (laws_FnBest.j1 kj2 l1 true t436 t439 t442 t446 t447 t448)))) = some r := H
    have A7 := K_ A70
    clear A70
    replace H := Option.bind_eq_some_iff.mp H
    obtain ⟨⟨t452, t453, t454⟩, A80, H⟩ := H
    replace H : (if (t446 != t452) = true then (laws_FnBest.j1 kj2 l1 true t436 t439 t442 t446 t447 t448) else (if t447 = t453 then ((laws_wInts.f kj2 t448 t454).bind fun t458 => (if t458 = true then ((impl_Safe.f kj2 t436 t439 t442).bind fun t459 => (laws_FnBest.j1 kj2 l1 (t446 != t459) t436 t439 t442 t446 t447 t448)) else (laws_FnBest.j1 kj2 l1 true t436 t439 t442 t446 t447 t448))) else (laws_FnBest.j1 kj2 l1 true t436 t439 t442 t446 t447 t448))) = some r := H
    have A8 := K_ A80
    clear A80
    have HC9 := K_ H
    clear H
    go_upto_region 6 with (first | ((with_reducible refine gate_callee (f := 14) rfl ?_); refine goesL_ (some 25) rfl rfl Try.func14 (by kernel_rfl) rfl #[.slice A0 l0.length c0] rfl (by (try simp only [List.map_toArray, List.map_cons, List.map_nil]); first | done | rfl | (simp only [List.length_drop, List.length_take]; rfl)) ?_; (with_reducible refine (spec_States.calls kj2 _ _ l0 t436 t439 t442 _ ?side1 ?side2 A6.out).mono ?_); (case side1 => repeat (first | exact (Kd.C_below HR0.out HB.out) | (with_reducible refine Kd.C_alloc ?_ _) | (with_reducible refine Kd.C_drewN ?_ _) | (with_reducible refine Kd.C_drew ?_))); (case side2 => exact HC0.out); rintro e w10 ⟨v437, v440, v443, rfl, ho0, ho1, ho2, hb⟩; refine ⟨_, rfl, ?_⟩; have n0_ := K_ (Kd.R_lower ho0 (below_size HB.out)); have n1_ := K_ (Kd.N_lower (Kd.N_mono (ok' := fun k_ => X_ k_ v437 ∧ X_ k_ v443) (Kd.S_N (Kd.S_bound ho1)) (fun k_ hk_ => ⟨hk_.1.1, hk_.1.2⟩)) (below_size HB.out)); have n2_ := K_ (Kd.R_lower ho2 (below_size HB.out)); have n3_ := K_ (below_step HB.out hb); clear HB; have HO438 := n0_; have HO441 := n1_; have HO444 := n2_; have HB := n3_; clear n0_ n1_ n2_ n3_; (try clear hb); (try clear hb2); (try clear hk); (try clear hi); (try clear ho0); (try clear ho1); (try clear ho2)) | ((with_reducible refine gate_dst (N := 5) rfl ?_); (try (refine gate_guard (by rfl) ?_; dsimp only)); refine box_event ?hg (N := 5) ?hd (cs := #[.slice none 0 0, .slice none 0 0, .slice none 0 0]) (t := 26) ?hr ?_; (case hd => rfl); (case hg => rfl); (case hr => go_simp; try rfl); intro gb445 hg w11 hbox hb; have n0_ := K_ (Kd.R_below HO438.out hb); have n1_ := K_ (Kd.N_below (Kd.N_elderB HO441.out gb445 (Nat.le_of_eq hg.symm)) hb); have n2_ := K_ (Kd.R_below HO444.out hb); have n3_ := K_ (below_step HB.out hb); have n4_ := K_ (hbox); have n5_ := ge_ hg HB.out; have n6_ := ge_ hg HB.out; clear HO438; clear HO441; clear HO444; clear HB; have HO438 := n0_; have HO441 := n1_; have HO444 := n2_; have HB := n3_; have BK445 := n4_; have GW445 := n5_; have GE445 := n6_; clear n0_ n1_ n2_ n3_ n4_ n5_ n6_; clear hb hbox hg; obtain ⟨Ao12, co12, eo12⟩ := Kd.R_slice HO438.out; subst eo12; obtain ⟨hcz13_0, hcz13_1, hcz13_2, hfz13_0, hfz13_1, hfz13_2⟩ := blkf3_ BK445.out; obtain ⟨Ao14, co14, eo14⟩ := Kd.N_slice HO441.out; subst eo14; obtain ⟨Ao15, co15, eo15⟩ := Kd.R_slice HO444.out; subst eo15) | ((with_reducible refine gate_callee (f := 24) rfl ?_); refine goesL_ (some 27) rfl rfl Try.func24 (by kernel_rfl) rfl #[.agg #[.slice Ao12 t436.length co12, .slice Ao14 t439.length co14, .slice Ao15 t442.length co15]] rfl (by (try simp only [List.map_toArray, List.map_cons, List.map_nil]); first | done | rfl | (simp only [List.length_drop, List.length_take]; rfl)) ?_; (with_reducible refine (impl_Solve.calls kj2 _ _ t436 _ _ t439 _ _ t442 t446 t447 t448 _ ?side1 ?side2 ?side3 ?side4 ?side5 ?side6 A7.out).mono ?_); (case side1 => refine (Kd.R_reads' (e := 3) (base := w.heap.size) (ok := fun k_ => X_ k_ (.slice Ao15 t442.length co15)) (n := t436.length) (c := co12) ?_).2.2; exact (by exact (Kd.R_mono (Kd.R_far (p := ⟨gb445, 2, none⟩) (Kd.R_far (p := ⟨gb445, 1, none⟩) (Kd.R_far (p := ⟨gb445, 0, none⟩) (Kd.R_types HO438.out BK445.out (by decide)) (fun _ hk => hk.2) (.slice Ao12 t436.length co12)) (fun _ hk => hk.2) (.slice Ao14 t439.length co14)) (fun _ hk => hk.2) (.slice Ao15 t442.length co15)) (fun _ h_ => h_.1)))); (case side2 => exact (Kd.R_reads' HO438.out).2.1); (case side3 => refine (Kd.N_reads' (e := 35) (base := w.heap.size) (ok := fun k_ => ((X_ k_ (.slice Ao12 t436.length co12) ∧ X_ k_ (.slice Ao15 t442.length co15)) ∧ k_ ≠ gb445)) (n := t439.length) (c := co14) ?_).2.2; exact (by exact (Kd.N_mono (Kd.N_far (p := ⟨gb445, 2, none⟩) (Kd.N_far (p := ⟨gb445, 1, none⟩) (Kd.N_far (p := ⟨gb445, 0, none⟩) (Kd.N_mono HO441.out (fun k_ hk => (⟨hk, hk.2⟩ : _ ∧ k_ ≠ gb445))) (fun _ hk => hk.2) (.slice Ao12 t436.length co12)) (fun _ hk => hk.2) (.slice Ao14 t439.length co14)) (fun _ hk => hk.2) (.slice Ao15 t442.length co15)) (fun _ h_ => h_.1)))); (case side4 => exact (Kd.N_reads' HO441.out).2.1); (case side5 => refine (Kd.R_reads' (e := 3) (base := w.heap.size) (ok := fun k_ => X_ k_ (.slice Ao12 t436.length co12)) (n := t442.length) (c := co15) ?_).2.2; exact (by exact (Kd.R_mono (Kd.R_far (p := ⟨gb445, 2, none⟩) (Kd.R_far (p := ⟨gb445, 1, none⟩) (Kd.R_far (p := ⟨gb445, 0, none⟩) (Kd.R_types HO444.out BK445.out (by decide)) (fun _ hk => hk.2) (.slice Ao12 t436.length co12)) (fun _ hk => hk.2) (.slice Ao14 t439.length co14)) (fun _ hk => hk.2) (.slice Ao15 t442.length co15)) (fun _ h_ => h_.1)))); (case side6 => exact (Kd.R_reads' HO444.out).2.1); rintro e w16 ⟨v449, rfl, ho0, hb⟩; refine ⟨_, rfl, ?_⟩; have n0_ := K_ (Kd.R_elder' (by exact (Kd.R_mono (Kd.R_far (p := ⟨gb445, 2, none⟩) (Kd.R_far (p := ⟨gb445, 1, none⟩) (Kd.R_far (p := ⟨gb445, 0, none⟩) (Kd.R_types HO438.out BK445.out (by decide)) (fun _ hk => hk.2) (.slice Ao12 t436.length co12)) (fun _ hk => hk.2) (.slice Ao14 t439.length co14)) (fun _ hk => hk.2) (.slice Ao15 t442.length co15)) (fun _ h_ => h_.1))) (Kd.R_base ho0) hb); have n1_ := K_ (Kd.N_elder' (by exact (Kd.N_mono (Kd.N_far (p := ⟨gb445, 2, none⟩) (Kd.N_far (p := ⟨gb445, 1, none⟩) (Kd.N_far (p := ⟨gb445, 0, none⟩) (Kd.N_mono HO441.out (fun k_ hk => (⟨hk, hk.2⟩ : _ ∧ k_ ≠ gb445))) (fun _ hk => hk.2) (.slice Ao12 t436.length co12)) (fun _ hk => hk.2) (.slice Ao14 t439.length co14)) (fun _ hk => hk.2) (.slice Ao15 t442.length co15)) (fun _ h_ => h_.1))) (Kd.R_base ho0) hb); have n2_ := K_ (Kd.R_elder' (by exact (Kd.R_mono (Kd.R_far (p := ⟨gb445, 2, none⟩) (Kd.R_far (p := ⟨gb445, 1, none⟩) (Kd.R_far (p := ⟨gb445, 0, none⟩) (Kd.R_types HO444.out BK445.out (by decide)) (fun _ hk => hk.2) (.slice Ao12 t436.length co12)) (fun _ hk => hk.2) (.slice Ao14 t439.length co14)) (fun _ hk => hk.2) (.slice Ao15 t442.length co15)) (fun _ h_ => h_.1))) (Kd.R_base ho0) hb); have n3_ := K_ (Kd.R_lower (Kd.R_new' (Kd.R_new' ho0 (Kd.R_lt (by exact (Kd.R_mono (Kd.R_far (p := ⟨gb445, 2, none⟩) (Kd.R_far (p := ⟨gb445, 1, none⟩) (Kd.R_far (p := ⟨gb445, 0, none⟩) (Kd.R_types HO438.out BK445.out (by decide)) (fun _ hk => hk.2) (.slice Ao12 t436.length co12)) (fun _ hk => hk.2) (.slice Ao14 t439.length co14)) (fun _ hk => hk.2) (.slice Ao15 t442.length co15)) (fun _ h_ => h_.1))))) (Kd.R_lt (by exact (Kd.R_mono (Kd.R_far (p := ⟨gb445, 2, none⟩) (Kd.R_far (p := ⟨gb445, 1, none⟩) (Kd.R_far (p := ⟨gb445, 0, none⟩) (Kd.R_types HO444.out BK445.out (by decide)) (fun _ hk => hk.2) (.slice Ao12 t436.length co12)) (fun _ hk => hk.2) (.slice Ao14 t439.length co14)) (fun _ hk => hk.2) (.slice Ao15 t442.length co15)) (fun _ h_ => h_.1))))) (below_size (by repeat (first | (with_reducible first | exact HB.out | apply below_alloc | apply pw_below_drewN | apply below_drew1 | refine below_set ?_ GE445.out) | exact HB.out)))); have n4_ := K_ (blk_below (g := gb445) (o := .cells #[.slice Ao12 t436.length co12, .slice Ao14 t439.length co14, .slice Ao15 t442.length co15] 26 (0, 0)) (by refine blk_put (cs := #[.slice Ao12 t436.length co12, .slice Ao14 t439.length co14, .slice none 0 0]) ?_ 2 _ rfl; refine blk_put (cs := #[.slice Ao12 t436.length co12, .slice none 0 0, .slice none 0 0]) ?_ 1 _ rfl; refine blk_put (cs := #[.slice none 0 0, .slice none 0 0, .slice none 0 0]) ?_ 0 _ rfl; exact BK445.out) hb); have n5_ := K_ (below_step (by repeat (first | (with_reducible first | exact HB.out | apply below_alloc | apply pw_below_drewN | apply below_drew1 | refine below_set ?_ GE445.out) | exact HB.out)) hb); clear HO438; clear HO441; clear HO444; clear BK445; clear HB; have HO438 := n0_; have HO441 := n1_; have HO444 := n2_; have HO450 := n3_; have BK445 := n4_; have HB := n5_; clear n0_ n1_ n2_ n3_ n4_ n5_; (try clear hb); (try clear hb2); (try clear hk); (try clear hi); (try clear ho0)) | ((with_reducible refine gate_dst (N := 6) rfl ?_); (try (refine gate_guard (by rfl) ?_; dsimp only)); refine box_event ?hg (N := 6) ?hd (cs := #[.bool false, .int .i64 0, .slice none 0 0]) (t := 41) ?hr ?_; (case hd => rfl); (case hg => rfl); (case hr => go_simp; try rfl); intro gb451 hg w17 hbox hb; have n0_ := K_ (Kd.R_below HO438.out hb); have n1_ := K_ (Kd.N_below (Kd.N_elderB HO441.out gb451 (Nat.le_of_eq hg.symm)) hb); have n2_ := K_ (Kd.R_below HO444.out hb); have n3_ := K_ (Kd.R_below HO450.out hb); have n4_ := K_ (blk_below BK445.out hb); have n5_ := K_ (below_step HB.out hb); have n6_ := K_ (hbox); have n7_ := ge_ hg HB.out; have n8_ := ge_ hg HB.out; have n9_ := nl_ hg BK445.out; have n10_ := ng_ hg BK445.out; clear HO438; clear HO441; clear HO444; clear HO450; clear BK445; clear HB; have HO438 := n0_; have HO441 := n1_; have HO444 := n2_; have HO450 := n3_; have BK445 := n4_; have HB := n5_; have BK451 := n6_; have GW451 := n7_; have GE451 := n8_; have NB445_451 := n9_; have NB451_445 := n10_; clear n0_ n1_ n2_ n3_ n4_ n5_ n6_ n7_ n8_ n9_ n10_; clear hb hbox hg; have hnb18 := NB451_445.out; have hnc18 := NB445_451.out; obtain ⟨hcz19_0, hcz19_1, hcz19_2, hfz19_0, hfz19_1, hfz19_2⟩ := blkf3_ BK451.out; obtain ⟨Ao20, co20, eo20⟩ := Kd.R_slice HO450.out; subst eo20; obtain ⟨hcz21_0, hcz21_1, hcz21_2, hfz21_0, hfz21_1, hfz21_2⟩ := blkf3_ BK445.out) | ((with_reducible refine gate_callee (f := 27) rfl ?_); refine goesL_ (some 29) rfl rfl Try.func27 (by kernel_rfl) rfl #[.agg #[.slice Ao12 t436.length co12, .slice Ao14 t439.length co14, .slice Ao15 t442.length co15]] rfl (by (try simp only [List.map_toArray, List.map_cons, List.map_nil]); first | done | rfl | (simp only [List.length_drop, List.length_take]; rfl)) ?_; (with_reducible refine (spec_Solve.calls kj2 _ _ t436 _ _ t439 _ _ t442 t452 t453 t454 _ ?side1 ?side2 ?side3 ?side4 ?side5 ?side6 A8.out).mono ?_); (case side1 => refine (Kd.R_reads' (e := 3) (base := w.heap.size) (ok := fun k_ => (X_ k_ (.slice Ao15 t442.length co15) ∧ X_ k_ (.slice Ao20 t448.length co20))) (n := t436.length) (c := co12) ?_).2.2; exact (by exact (Kd.R_mono (Kd.R_far (p := ⟨gb451, 2, none⟩) (Kd.R_far (p := ⟨gb451, 1, none⟩) (Kd.R_far (p := ⟨gb451, 0, none⟩) (Kd.R_types HO438.out BK451.out (by decide)) (fun _ hk => hk.2) (.bool t446)) (fun _ hk => hk.2) (.int .i64 t447)) (fun _ hk => hk.2) (.slice Ao20 t448.length co20)) (fun _ h_ => h_.1)))); (case side2 => exact (Kd.R_reads' HO438.out).2.1); (case side3 => refine (Kd.N_reads' (e := 35) (base := w.heap.size) (ok := fun k_ => ((((X_ k_ (.slice Ao12 t436.length co12) ∧ X_ k_ (.slice Ao15 t442.length co15)) ∧ k_ ≠ gb445) ∧ X_ k_ (.slice Ao20 t448.length co20)) ∧ k_ ≠ gb451)) (n := t439.length) (c := co14) ?_).2.2; exact (by exact (Kd.N_mono (Kd.N_far (p := ⟨gb451, 2, none⟩) (Kd.N_far (p := ⟨gb451, 1, none⟩) (Kd.N_far (p := ⟨gb451, 0, none⟩) (Kd.N_mono HO441.out (fun k_ hk => (⟨hk, hk.2⟩ : _ ∧ k_ ≠ gb451))) (fun _ hk => hk.2) (.bool t446)) (fun _ hk => hk.2) (.int .i64 t447)) (fun _ hk => hk.2) (.slice Ao20 t448.length co20)) (fun _ h_ => h_.1)))); (case side4 => exact (Kd.N_reads' HO441.out).2.1); (case side5 => refine (Kd.R_reads' (e := 3) (base := w.heap.size) (ok := fun k_ => (X_ k_ (.slice Ao12 t436.length co12) ∧ X_ k_ (.slice Ao20 t448.length co20))) (n := t442.length) (c := co15) ?_).2.2; exact (by exact (Kd.R_mono (Kd.R_far (p := ⟨gb451, 2, none⟩) (Kd.R_far (p := ⟨gb451, 1, none⟩) (Kd.R_far (p := ⟨gb451, 0, none⟩) (Kd.R_types HO444.out BK451.out (by decide)) (fun _ hk => hk.2) (.bool t446)) (fun _ hk => hk.2) (.int .i64 t447)) (fun _ hk => hk.2) (.slice Ao20 t448.length co20)) (fun _ h_ => h_.1)))); (case side6 => exact (Kd.R_reads' HO444.out).2.1); rintro e w22 ⟨v455, rfl, ho0, hb⟩; refine ⟨_, rfl, ?_⟩; have n0_ := K_ (Kd.R_elder' (by exact (Kd.R_mono (Kd.R_far (p := ⟨gb451, 2, none⟩) (Kd.R_far (p := ⟨gb451, 1, none⟩) (Kd.R_far (p := ⟨gb451, 0, none⟩) (Kd.R_types HO438.out BK451.out (by decide)) (fun _ hk => hk.2) (.bool t446)) (fun _ hk => hk.2) (.int .i64 t447)) (fun _ hk => hk.2) (.slice Ao20 t448.length co20)) (fun _ h_ => h_.1))) (Kd.R_base ho0) hb); have n1_ := K_ (Kd.N_elder' (by exact (Kd.N_mono (Kd.N_far (p := ⟨gb451, 2, none⟩) (Kd.N_far (p := ⟨gb451, 1, none⟩) (Kd.N_far (p := ⟨gb451, 0, none⟩) (Kd.N_mono HO441.out (fun k_ hk => (⟨hk, hk.2⟩ : _ ∧ k_ ≠ gb451))) (fun _ hk => hk.2) (.bool t446)) (fun _ hk => hk.2) (.int .i64 t447)) (fun _ hk => hk.2) (.slice Ao20 t448.length co20)) (fun _ h_ => h_.1))) (Kd.R_base ho0) hb); have n2_ := K_ (Kd.R_elder' (by exact (Kd.R_mono (Kd.R_far (p := ⟨gb451, 2, none⟩) (Kd.R_far (p := ⟨gb451, 1, none⟩) (Kd.R_far (p := ⟨gb451, 0, none⟩) (Kd.R_types HO444.out BK451.out (by decide)) (fun _ hk => hk.2) (.bool t446)) (fun _ hk => hk.2) (.int .i64 t447)) (fun _ hk => hk.2) (.slice Ao20 t448.length co20)) (fun _ h_ => h_.1))) (Kd.R_base ho0) hb); have n3_ := K_ (Kd.R_elder' (by exact (Kd.R_mono (Kd.R_far (p := ⟨gb451, 2, none⟩) (Kd.R_far (p := ⟨gb451, 1, none⟩) (Kd.R_far (p := ⟨gb451, 0, none⟩) (Kd.R_types HO450.out BK451.out (by decide)) (fun _ hk => hk.2) (.bool t446)) (fun _ hk => hk.2) (.int .i64 t447)) (fun _ hk => hk.2) (.slice Ao20 t448.length co20)) (fun _ h_ => h_.1))) (Kd.R_base ho0) hb); have n4_ := K_ (Kd.R_lower (Kd.R_new' (Kd.R_new' (Kd.R_new' ho0 (Kd.R_lt (by exact (Kd.R_mono (Kd.R_far (p := ⟨gb451, 2, none⟩) (Kd.R_far (p := ⟨gb451, 1, none⟩) (Kd.R_far (p := ⟨gb451, 0, none⟩) (Kd.R_types HO438.out BK451.out (by decide)) (fun _ hk => hk.2) (.bool t446)) (fun _ hk => hk.2) (.int .i64 t447)) (fun _ hk => hk.2) (.slice Ao20 t448.length co20)) (fun _ h_ => h_.1))))) (Kd.R_lt (by exact (Kd.R_mono (Kd.R_far (p := ⟨gb451, 2, none⟩) (Kd.R_far (p := ⟨gb451, 1, none⟩) (Kd.R_far (p := ⟨gb451, 0, none⟩) (Kd.R_types HO444.out BK451.out (by decide)) (fun _ hk => hk.2) (.bool t446)) (fun _ hk => hk.2) (.int .i64 t447)) (fun _ hk => hk.2) (.slice Ao20 t448.length co20)) (fun _ h_ => h_.1))))) (Kd.R_lt (by exact (Kd.R_mono (Kd.R_far (p := ⟨gb451, 2, none⟩) (Kd.R_far (p := ⟨gb451, 1, none⟩) (Kd.R_far (p := ⟨gb451, 0, none⟩) (Kd.R_types HO450.out BK451.out (by decide)) (fun _ hk => hk.2) (.bool t446)) (fun _ hk => hk.2) (.int .i64 t447)) (fun _ hk => hk.2) (.slice Ao20 t448.length co20)) (fun _ h_ => h_.1))))) (below_size (by repeat (first | (with_reducible first | exact HB.out | apply below_alloc | apply pw_below_drewN | apply below_drew1 | refine below_set ?_ GE445.out | refine below_set ?_ GE451.out) | exact HB.out)))); have n5_ := K_ (blk_below (g := gb445) (o := .cells #[.slice Ao12 t436.length co12, .slice Ao14 t439.length co14, .slice Ao15 t442.length co15] 26 (0, 0)) (by refine blk_far ?_ NB445_451.out _; refine blk_far ?_ NB445_451.out _; refine blk_far ?_ NB445_451.out _; exact BK445.out) hb); have n6_ := K_ (blk_below (g := gb451) (o := .cells #[.bool t446, .int .i64 t447, .slice Ao20 t448.length co20] 41 (0, 0)) (by refine blk_put (cs := #[.bool t446, .int .i64 t447, .slice none 0 0]) ?_ 2 _ rfl; refine blk_put (cs := #[.bool t446, .int .i64 0, .slice none 0 0]) ?_ 1 _ rfl; refine blk_put (cs := #[.bool false, .int .i64 0, .slice none 0 0]) ?_ 0 _ rfl; exact BK451.out) hb); have n7_ := K_ (below_step (by repeat (first | (with_reducible first | exact HB.out | apply below_alloc | apply pw_below_drewN | apply below_drew1 | refine below_set ?_ GE445.out | refine below_set ?_ GE451.out) | exact HB.out)) hb); clear HO438; clear HO441; clear HO444; clear HO450; clear BK445; clear BK451; clear HB; have HO438 := n0_; have HO441 := n1_; have HO444 := n2_; have HO450 := n3_; have HO456 := n4_; have BK445 := n5_; have BK451 := n6_; have HB := n7_; clear n0_ n1_ n2_ n3_ n4_ n5_ n6_ n7_; (try clear hb); (try clear hb2); (try clear hk); (try clear hi); (try clear ho0)) | ((with_reducible refine gate_dst (N := 7) rfl ?_); refine box_event (by rfl) (N := 7) (by rfl) (cs := #[.bool false, .int .i64 0, .slice none 0 0]) (t := 41) (by go_simp; try rfl) ?_; intro gb457 hg w23 hbox hb; have n0_ := K_ (Kd.R_below HO438.out hb); have n1_ := K_ (Kd.N_below (Kd.N_elderB HO441.out gb457 (Nat.le_of_eq hg.symm)) hb); have n2_ := K_ (Kd.R_below HO444.out hb); have n3_ := K_ (Kd.R_below HO450.out hb); have n4_ := K_ (Kd.R_below HO456.out hb); have n5_ := K_ (blk_below BK445.out hb); have n6_ := K_ (blk_below BK451.out hb); have n7_ := K_ (below_step HB.out hb); have n8_ := K_ (hbox); have n9_ := ge_ hg HB.out; have n10_ := ge_ hg HB.out; have n11_ := nl_ hg BK445.out; have n12_ := ng_ hg BK445.out; have n13_ := nl_ hg BK451.out; have n14_ := ng_ hg BK451.out; clear HO438; clear HO441; clear HO444; clear HO450; clear HO456; clear BK445; clear BK451; clear HB; have HO438 := n0_; have HO441 := n1_; have HO444 := n2_; have HO450 := n3_; have HO456 := n4_; have BK445 := n5_; have BK451 := n6_; have HB := n7_; have BK457 := n8_; have GW457 := n9_; have GE457 := n10_; have NB445_457 := n11_; have NB457_445 := n12_; have NB451_457 := n13_; have NB457_451 := n14_; clear n0_ n1_ n2_ n3_ n4_ n5_ n6_ n7_ n8_ n9_ n10_ n11_ n12_ n13_ n14_; clear hb hbox hg; have hnb24 := NB457_445.out; have hnc24 := NB445_457.out; have hnb25 := NB457_451.out; have hnc25 := NB451_457.out; obtain ⟨hcz26_0, hcz26_1, hcz26_2, hfz26_0, hfz26_1, hfz26_2⟩ := blkf3_ BK457.out; obtain ⟨Ao27, co27, eo27⟩ := Kd.R_slice HO456.out; subst eo27))
    (try simp only [Act.put, List.setIfInBounds_toArray, List.set_cons_zero, List.set_cons_succ])
    go_cut [56] (fun v56 wc => ∃ (kq : Nat) (x56_8 : Bool), v56 = .bool x56_8 ∧ Aside0 (laws_FnBest.j1 kq l1 x56_8 t436 t439 t442 t446 t447 t448 = some r) ∧ Aside0 (kq ≤ kj2) ∧ Aside0 (Kd.R (Kd.int .i64) 3 wc w.heap.size (fun k_ => some k_ ≠ ((.slice Ao15 t442.length co15) : Value).ownBlock ∧ some k_ ≠ ((.slice Ao20 t448.length co20) : Value).ownBlock ∧ some k_ ≠ ((.slice Ao27 t454.length co27) : Value).ownBlock) (.slice Ao12 t436.length co12) t436) ∧ Aside0 (Kd.N k35 35 wc w.heap.size (fun k_ => some k_ ≠ ((.slice Ao12 t436.length co12) : Value).ownBlock ∧ some k_ ≠ ((.slice Ao15 t442.length co15) : Value).ownBlock ∧ some k_ ≠ ((.slice Ao20 t448.length co20) : Value).ownBlock ∧ some k_ ≠ ((.slice Ao27 t454.length co27) : Value).ownBlock ∧ k_ ≠ gb445 ∧ k_ ≠ gb451 ∧ k_ ≠ gb457) (.slice Ao14 t439.length co14) t439) ∧ Aside0 (Kd.R (Kd.int .i64) 3 wc w.heap.size (fun k_ => some k_ ≠ ((.slice Ao12 t436.length co12) : Value).ownBlock ∧ some k_ ≠ ((.slice Ao20 t448.length co20) : Value).ownBlock ∧ some k_ ≠ ((.slice Ao27 t454.length co27) : Value).ownBlock) (.slice Ao15 t442.length co15) t442) ∧ Aside0 (Kd.R (Kd.int .i64) 3 wc w.heap.size (fun k_ => some k_ ≠ ((.slice Ao12 t436.length co12) : Value).ownBlock ∧ some k_ ≠ ((.slice Ao15 t442.length co15) : Value).ownBlock ∧ some k_ ≠ ((.slice Ao27 t454.length co27) : Value).ownBlock) (.slice Ao20 t448.length co20) t448) ∧ Aside0 (Kd.R (Kd.int .i64) 3 wc w.heap.size (fun k_ => some k_ ≠ ((.slice Ao12 t436.length co12) : Value).ownBlock ∧ some k_ ≠ ((.slice Ao15 t442.length co15) : Value).ownBlock ∧ some k_ ≠ ((.slice Ao20 t448.length co20) : Value).ownBlock) (.slice Ao27 t454.length co27) t454) ∧ Aside0 (wc.heap[gb445]? = some (.cells #[(.slice Ao12 t436.length co12), (.slice Ao14 t439.length co14), (.slice Ao15 t442.length co15)] 26 (0, 0))) ∧ Aside0 (wc.heap[gb451]? = some (.cells #[.bool t446, .int .i64 t447, (.slice Ao20 t448.length co20)] 41 (0, 0))) ∧ Aside0 (wc.heap[gb457]? = some (.cells #[.bool t452, .int .i64 t453, (.slice Ao27 t454.length co27)] 41 (0, 0))) ∧ Aside0 (Below w.heap.size w wc))
    case first =>
     have H := HC9.out
     clear HC9
     by_cases c28 : (t446 != t452) = true
     ·rw [if_pos c28] at H
      exact absurd (H.trans (congrArg some hT_.out)) (laws_FnBest.j1_dead _ _ _ _ _ _ _ _)
     ·rw [if_neg c28] at H
      have c28b0 : (t446 != t452) = false := by simpa using c28
      (try (have c28b1 : decide (t446 = t452) = true := by simpa using c28))
      (try (have c28b2 : (t446 == t452) = true := by simpa using c28))
      clear c28
      (first | rw [c28b0] | (simp only [i64_w, i32_w]; rw [c28b0]) | skip)
      by_cases c31 : t447 = t453
      ·rw [if_pos c31] at H
       have c31b0 := beq_iff_eq.mpr c31
       have c31b1 := bne_eq_false_iff_eq.mpr c31
       clear c31
       replace H := Option.bind_eq_some_iff.mp H
       obtain ⟨t458, A320, H⟩ := H
       replace H : (if t458 = true then ((impl_Safe.f kj2 t436 t439 t442).bind fun t459 => (laws_FnBest.j1 kj2 l1 (t446 != t459) t436 t439 t442 t446 t447 t448)) else (laws_FnBest.j1 kj2 l1 true t436 t439 t442 t446 t447 t448)) = some r := H
       have A32 := K_ A320
       clear A320
       by_cases c33 : t458 = true
       ·subst c33
        rw [if_pos rfl] at H
        replace H := Option.bind_eq_some_iff.mp H
        obtain ⟨t459, A340, H⟩ := H
        replace H : (laws_FnBest.j1 kj2 l1 (t446 != t459) t436 t439 t442 t446 t447 t448) = some r := H
        have A34 := K_ A340
        clear A340
        have H' := K_ H
        clear H
        try go_wp2
        have n0_ : Aside0 (Kd.R (Kd.int .i64) 3 (((w23.setCell ⟨gb457, 0, none⟩ (.bool t452)).setCell ⟨gb457, 1, none⟩ (.int .i64 t453)).setCell ⟨gb457, 2, none⟩ (.slice Ao27 t454.length co27)) w.heap.size (fun k_ => X_ k_ (.slice Ao15 t442.length co15) ∧ X_ k_ (.slice Ao20 t448.length co20) ∧ X_ k_ (.slice Ao27 t454.length co27)) (.slice Ao12 t436.length co12) t436) := ⟨by exact Kd.R_mono (Kd.R_far (p := ⟨gb457, 2, none⟩) (Kd.R_far (p := ⟨gb457, 1, none⟩) (Kd.R_far (p := ⟨gb457, 0, none⟩) (Kd.R_types HO438.out BK457.out (by decide)) (fun _ hk => hk.2) (.bool t452)) (fun _ hk => hk.2) (.int .i64 t453)) (fun _ hk => hk.2) (.slice Ao27 t454.length co27)) (fun _ hk => by first | exact ⟨hk.1.1.1, ⟨hk.1.1.2, hk.1.2⟩⟩ | simp only [hk, ne_eq, not_false_eq_true, and_self])⟩
        have n1_ : Aside0 (Kd.N k35 35 (((w23.setCell ⟨gb457, 0, none⟩ (.bool t452)).setCell ⟨gb457, 1, none⟩ (.int .i64 t453)).setCell ⟨gb457, 2, none⟩ (.slice Ao27 t454.length co27)) w.heap.size (fun k_ => X_ k_ (.slice Ao12 t436.length co12) ∧ X_ k_ (.slice Ao15 t442.length co15) ∧ X_ k_ (.slice Ao20 t448.length co20) ∧ X_ k_ (.slice Ao27 t454.length co27) ∧ k_ ≠ gb445 ∧ k_ ≠ gb451 ∧ k_ ≠ gb457) (.slice Ao14 t439.length co14) t439) := ⟨by exact Kd.N_mono (Kd.N_far (p := ⟨gb457, 2, none⟩) (Kd.N_far (p := ⟨gb457, 1, none⟩) (Kd.N_far (p := ⟨gb457, 0, none⟩) (Kd.N_mono HO441.out (fun k_ hk => (⟨hk, hk.2⟩ : _ ∧ k_ ≠ gb457))) (fun _ hk => hk.2) (.bool t452)) (fun _ hk => hk.2) (.int .i64 t453)) (fun _ hk => hk.2) (.slice Ao27 t454.length co27)) (fun _ hk => by first | exact ⟨hk.1.1.1.1.1.1.1, ⟨hk.1.1.1.1.1.1.2, ⟨hk.1.1.1.1.2, ⟨hk.1.1.2, ⟨hk.1.1.1.1.1.2, ⟨hk.1.1.1.2, hk.1.2⟩⟩⟩⟩⟩⟩ | simp only [hk, ne_eq, not_false_eq_true, and_self])⟩
        have n2_ : Aside0 (Kd.R (Kd.int .i64) 3 (((w23.setCell ⟨gb457, 0, none⟩ (.bool t452)).setCell ⟨gb457, 1, none⟩ (.int .i64 t453)).setCell ⟨gb457, 2, none⟩ (.slice Ao27 t454.length co27)) w.heap.size (fun k_ => X_ k_ (.slice Ao12 t436.length co12) ∧ X_ k_ (.slice Ao20 t448.length co20) ∧ X_ k_ (.slice Ao27 t454.length co27)) (.slice Ao15 t442.length co15) t442) := ⟨by exact Kd.R_mono (Kd.R_far (p := ⟨gb457, 2, none⟩) (Kd.R_far (p := ⟨gb457, 1, none⟩) (Kd.R_far (p := ⟨gb457, 0, none⟩) (Kd.R_types HO444.out BK457.out (by decide)) (fun _ hk => hk.2) (.bool t452)) (fun _ hk => hk.2) (.int .i64 t453)) (fun _ hk => hk.2) (.slice Ao27 t454.length co27)) (fun _ hk => by first | exact ⟨hk.1.1.1, ⟨hk.1.1.2, hk.1.2⟩⟩ | simp only [hk, ne_eq, not_false_eq_true, and_self])⟩
        have n3_ : Aside0 (Kd.R (Kd.int .i64) 3 (((w23.setCell ⟨gb457, 0, none⟩ (.bool t452)).setCell ⟨gb457, 1, none⟩ (.int .i64 t453)).setCell ⟨gb457, 2, none⟩ (.slice Ao27 t454.length co27)) w.heap.size (fun k_ => X_ k_ (.slice Ao12 t436.length co12) ∧ X_ k_ (.slice Ao15 t442.length co15) ∧ X_ k_ (.slice Ao27 t454.length co27)) (.slice Ao20 t448.length co20) t448) := ⟨by exact Kd.R_mono (Kd.R_far (p := ⟨gb457, 2, none⟩) (Kd.R_far (p := ⟨gb457, 1, none⟩) (Kd.R_far (p := ⟨gb457, 0, none⟩) (Kd.R_types HO450.out BK457.out (by decide)) (fun _ hk => hk.2) (.bool t452)) (fun _ hk => hk.2) (.int .i64 t453)) (fun _ hk => hk.2) (.slice Ao27 t454.length co27)) (fun _ hk => by first | exact ⟨hk.1.1.1.2, ⟨hk.1.1.2, hk.1.2⟩⟩ | simp only [hk, ne_eq, not_false_eq_true, and_self])⟩
        have n4_ : Aside0 (Kd.R (Kd.int .i64) 3 (((w23.setCell ⟨gb457, 0, none⟩ (.bool t452)).setCell ⟨gb457, 1, none⟩ (.int .i64 t453)).setCell ⟨gb457, 2, none⟩ (.slice Ao27 t454.length co27)) w.heap.size (fun k_ => X_ k_ (.slice Ao12 t436.length co12) ∧ X_ k_ (.slice Ao15 t442.length co15) ∧ X_ k_ (.slice Ao20 t448.length co20)) (.slice Ao27 t454.length co27) t454) := ⟨by exact Kd.R_mono (Kd.R_far (p := ⟨gb457, 2, none⟩) (Kd.R_far (p := ⟨gb457, 1, none⟩) (Kd.R_far (p := ⟨gb457, 0, none⟩) (Kd.R_types HO456.out BK457.out (by decide)) (fun _ hk => hk.2) (.bool t452)) (fun _ hk => hk.2) (.int .i64 t453)) (fun _ hk => hk.2) (.slice Ao27 t454.length co27)) (fun _ hk => by first | exact ⟨hk.1.1.1.2, ⟨hk.1.1.2, hk.1.2⟩⟩ | simp only [hk, ne_eq, not_false_eq_true, and_self])⟩
        have n5_ : Aside0 ((((w23.setCell ⟨gb457, 0, none⟩ (.bool t452)).setCell ⟨gb457, 1, none⟩ (.int .i64 t453)).setCell ⟨gb457, 2, none⟩ (.slice Ao27 t454.length co27)).heap[gb445]? = some (.cells #[.slice Ao12 t436.length co12, .slice Ao14 t439.length co14, .slice Ao15 t442.length co15] 26 (0, 0))) := ⟨by refine blk_far ?_ NB445_457.out _; refine blk_far ?_ NB445_457.out _; refine blk_far ?_ NB445_457.out _; exact BK445.out⟩
        have n6_ : Aside0 ((((w23.setCell ⟨gb457, 0, none⟩ (.bool t452)).setCell ⟨gb457, 1, none⟩ (.int .i64 t453)).setCell ⟨gb457, 2, none⟩ (.slice Ao27 t454.length co27)).heap[gb451]? = some (.cells #[.bool t446, .int .i64 t447, .slice Ao20 t448.length co20] 41 (0, 0))) := ⟨by refine blk_far ?_ NB451_457.out _; refine blk_far ?_ NB451_457.out _; refine blk_far ?_ NB451_457.out _; exact BK451.out⟩
        have n7_ : Aside0 ((((w23.setCell ⟨gb457, 0, none⟩ (.bool t452)).setCell ⟨gb457, 1, none⟩ (.int .i64 t453)).setCell ⟨gb457, 2, none⟩ (.slice Ao27 t454.length co27)).heap[gb457]? = some (.cells #[.bool t452, .int .i64 t453, .slice Ao27 t454.length co27] 41 (0, 0))) := ⟨by refine blk_put (cs := #[.bool t452, .int .i64 t453, .slice none 0 0]) ?_ 2 _ rfl; refine blk_put (cs := #[.bool t452, .int .i64 0, .slice none 0 0]) ?_ 1 _ rfl; refine blk_put (cs := #[.bool false, .int .i64 0, .slice none 0 0]) ?_ 0 _ rfl; exact BK457.out⟩
        have n8_ : Aside0 (Below w.heap.size w (((w23.setCell ⟨gb457, 0, none⟩ (.bool t452)).setCell ⟨gb457, 1, none⟩ (.int .i64 t453)).setCell ⟨gb457, 2, none⟩ (.slice Ao27 t454.length co27))) := ⟨by repeat (first | (with_reducible first | exact HB.out | refine below_set ?_ GE445.out | refine below_set ?_ GE451.out | refine below_set ?_ GE457.out) | exact HB.out)⟩
        clear HO438
        clear HO441
        clear HO444
        clear HO450
        clear HO456
        clear BK445
        clear BK451
        (try clear BK457)
        (try clear HB)
        generalize (((w23.setCell ⟨gb457, 0, none⟩ (.bool t452)).setCell ⟨gb457, 1, none⟩ (.int .i64 t453)).setCell ⟨gb457, 2, none⟩ (.slice Ao27 t454.length co27)) = w35 at n0_ n1_ n2_ n3_ n4_ n5_ n6_ n7_ n8_ ⊢
        have HO438 := n0_
        have HO441 := n1_
        have HO444 := n2_
        have HO450 := n3_
        have HO456 := n4_
        have BK445 := n5_
        have BK451 := n6_
        have BK457 := n7_
        have HB := n8_
        clear n0_ n1_ n2_ n3_ n4_ n5_ n6_ n7_ n8_
        replace HO438 := K_ (Kd.R_drew HO438.out)
        replace HO441 := K_ (Kd.N_drew HO441.out)
        replace HO444 := K_ (Kd.R_drew HO444.out)
        replace HO450 := K_ (Kd.R_drew HO450.out)
        replace HO456 := K_ (Kd.R_drew HO456.out)
        replace BK445 := K_ (blk_drew BK445.out)
        replace BK451 := K_ (blk_drew BK451.out)
        replace BK457 := K_ (blk_drew BK457.out)
        replace HB := K_ (below_drew1 HB.out)
        refine start_ (n := 27) (S := fun w' => w'.cell? ⟨gb451, 0, none⟩ = some (.bool t446) ∧ w'.cell? ⟨gb451, 1, none⟩ = some (.int .i64 t447) ∧ w'.cell? ⟨gb451, 2, none⟩ = some (.slice Ao20 t448.length co20) ∧ w'.cell? ⟨gb457, 0, none⟩ = some (.bool t452) ∧ w'.cell? ⟨gb457, 1, none⟩ = some (.int .i64 t453) ∧ w'.cell? ⟨gb457, 2, none⟩ = some (.slice Ao27 t454.length co27) ∧ w'.cell? ⟨gb445, 0, none⟩ = some (.slice Ao12 t436.length co12) ∧ w'.cell? ⟨gb445, 1, none⟩ = some (.slice Ao14 t439.length co14) ∧ w'.cell? ⟨gb445, 2, none⟩ = some (.slice Ao15 t442.length co15)) (ds := []) #[ff, ff, ff, ff, ff, ff, ff, ff, ff, ff, ff, ff, ff, ff, ff, ff, ff, ff, ff, ff, ff, ff, ff, ff, ff, ff, ff] (by kernel_rfl) rfl rfl ⟨(blk_cell BK451.out 0).trans rfl, (blk_cell BK451.out 1).trans rfl, (blk_cell BK451.out 2).trans rfl, (blk_cell BK457.out 0).trans rfl, (blk_cell BK457.out 1).trans rfl, (blk_cell BK457.out 2).trans rfl, (blk_cell BK445.out 0).trans rfl, (blk_cell BK445.out 1).trans rfl, (blk_cell BK445.out 2).trans rfl⟩ (fun hHeld => ?_); refine with_tabW laws_FnBest.tab6 laws_FnBest.bits6 (fun HT_ HW_ => ?_)
        generalize w35.drew = w36 at HO438 HO441 HO444 HO450 HO456 BK445 BK451 BK457 HB hHeld ⊢
        refine pure_ (i := 0) (N := some 30) (v := ?_) (a' := ?_) (M_ 27 1) rfl rfl (any_of HT_.out (by kernel_rfl)) (fun _ _ _ h => h) (Or.inl ⟨by rfl, ?_⟩) ?_ ?_
        rotate_left
        ·intro w'
         go_simp
         with_reducible rfl
        rotate_left
        ·simp only [P_, i64_w, i32_w]
         rfl
        refine pure_ (i := 2) (N := some 32) (v := ?_) (a' := ?_) (M_ 27 5) rfl rfl (any_of HT_.out (by kernel_rfl)) (fun _ _ _ h => h) (Or.inl ⟨by rfl, ?_⟩) ?_ ?_
        rotate_left
        ·intro w'
         go_simp
         with_reducible rfl
        rotate_left
        ·simp only [P_, i64_w, i32_w]
         rfl
        refine take_ (i := 1) (N := some 31) (v := ?_) (a' := ?_) (M_ 27 7) rfl rfl (take_ofW HT_.out HW_.out (by kernel_rfl)) (fun _ _ _ h => h) (Or.inl ⟨by rfl, ?_⟩) hHeld ?_ ?_
        rotate_left
        ·rintro w' ⟨s0, s1, s2, s3, s4, s5, s6, s7, s8⟩
         go_simp
         with_reducible rfl
        rotate_left
        ·simp only [P_, i64_w, i32_w]
         rfl
        refine take_ (i := 3) (N := some 33) (v := ?_) (a' := ?_) (M_ 27 15) rfl rfl (take_ofW HT_.out HW_.out (by kernel_rfl)) (fun _ _ _ h => h) (Or.inl ⟨by rfl, ?_⟩) hHeld ?_ ?_
        rotate_left
        ·rintro w' ⟨s0, s1, s2, s3, s4, s5, s6, s7, s8⟩
         go_simp
         with_reducible rfl
        rotate_left
        ·simp only [P_, i64_w, i32_w]
         rfl
        refine pure_ (i := 4) (N := some 34) (v := ?_) (a' := ?_) (M_ 27 31) rfl rfl (any_of HT_.out (by kernel_rfl)) (fun _ _ _ h => h) (Or.inl ⟨by rfl, ?_⟩) ?_ ?_
        rotate_left
        ·intro w'
         go_simp
         with_reducible rfl
        rotate_left
        ·simp only [P_, i64_w, i32_w]
         rfl
        refine pure_ (i := 5) (N := some 35) (v := ?_) (a' := ?_) (M_ 27 63) rfl rfl (any_of HT_.out (by kernel_rfl)) (fun _ _ _ h => h) (Or.inl ⟨by rfl, ?_⟩) ?_ ?_
        rotate_left
        ·intro w'
         go_simp
         with_reducible rfl
        rotate_left
        ·simp only [P_, i64_w, i32_w]
         rfl
        refine pure_ (i := 6) (N := some 36) (v := ?_) (a' := ?_) (M_ 27 127) rfl rfl (any_of HT_.out (by kernel_rfl)) (fun _ _ _ h => h) (Or.inl ⟨by rfl, ?_⟩) ?_ ?_
        rotate_left
        ·intro w'
         go_simp
         with_reducible rfl
        rotate_left
        ·simp only [P_, i64_w, i32_w]
         rfl
        refine pure_ (i := 8) (N := some 38) (v := ?_) (a' := ?_) (M_ 27 383) rfl rfl (any_of HT_.out (by kernel_rfl)) (fun _ _ _ h => h) (Or.inl ⟨by rfl, ?_⟩) ?_ ?_
        rotate_left
        ·intro w'
         go_simp
         with_reducible rfl
        rotate_left
        ·simp only [P_, i64_w, i32_w]
         rfl
        refine take_ (i := 7) (N := some 37) (v := ?_) (a' := ?_) (M_ 27 511) rfl rfl (take_ofW HT_.out HW_.out (by kernel_rfl)) (fun _ _ _ h => h) (Or.inl ⟨by rfl, ?_⟩) hHeld ?_ ?_
        rotate_left
        ·rintro w' ⟨s0, s1, s2, s3, s4, s5, s6, s7, s8⟩
         go_simp
         with_reducible rfl
        rotate_left
        ·simp only [P_, i64_w, i32_w]
         rfl
        refine take_ (i := 9) (N := some 39) (v := ?_) (a' := ?_) (M_ 27 1023) rfl rfl (take_ofW HT_.out HW_.out (by kernel_rfl)) (fun _ _ _ h => h) (Or.inl ⟨by rfl, ?_⟩) hHeld ?_ ?_
        rotate_left
        ·rintro w' ⟨s0, s1, s2, s3, s4, s5, s6, s7, s8⟩
         go_simp
         with_reducible rfl
        rotate_left
        ·simp only [P_, i64_w, i32_w]
         rfl
        refine pure_ (i := 10) (N := some 40) (v := ?_) (a' := ?_) (M_ 27 2047) rfl rfl (any_of HT_.out (by kernel_rfl)) (fun _ _ _ h => h) (Or.inl ⟨by rfl, ?_⟩) ?_ ?_
        rotate_left
        ·intro w'
         go_simp
         with_reducible rfl
        rotate_left
        ·simp only [P_, i64_w, i32_w]
         rfl
        refine pure_ (i := 11) (N := some 41) (v := ?_) (a' := ?_) (M_ 27 4095) rfl rfl (any_of HT_.out (by kernel_rfl)) (fun _ _ _ h => h) (Or.inl ⟨by rfl, ?_⟩) ?_ ?_
        rotate_left
        ·intro w'
         go_simp
         with_reducible rfl
        rotate_left
        ·simp only [P_, i64_w, i32_w]
         rfl
        refine pure_ (i := 12) (N := some 42) (v := ?_) (a' := ?_) (M_ 27 8191) rfl rfl (any_of HT_.out (by kernel_rfl)) (fun _ _ _ h => h) (Or.inl ⟨by rfl, ?_⟩) ?_ ?_
        rotate_left
        ·intro w'
         go_simp
         with_reducible rfl
        rotate_left
        ·simp only [P_, i64_w, i32_w]
         rfl
        refine pure_ (i := 13) (N := some 43) (v := ?_) (a' := ?_) (M_ 27 16383) rfl rfl (any_of HT_.out (by kernel_rfl)) (fun _ _ _ h => h) (Or.inl ⟨by rfl, ?_⟩) ?_ ?_
        rotate_left
        ·intro w'
         go_simp
         with_reducible rfl
        rotate_left
        ·simp only [P_, i64_w, i32_w]
         rfl
        refine pure_ (i := 15) (N := some 45) (v := ?_) (a' := ?_) (M_ 27 49151) rfl rfl (any_of HT_.out (by kernel_rfl)) (fun _ _ _ h => h) (Or.inl ⟨by rfl, ?_⟩) ?_ ?_
        rotate_left
        ·intro w'
         go_simp
         with_reducible rfl
        rotate_left
        ·simp only [P_, i64_w, i32_w]
         rfl
        refine take_ (i := 14) (N := some 44) (v := ?_) (a' := ?_) (M_ 27 65535) rfl rfl (take_ofW HT_.out HW_.out (by kernel_rfl)) (fun _ _ _ h => h) (Or.inl ⟨by rfl, ?_⟩) hHeld ?_ ?_
        rotate_left
        ·rintro w' ⟨s0, s1, s2, s3, s4, s5, s6, s7, s8⟩
         go_simp
         with_reducible rfl
        rotate_left
        ·simp only [P_, i64_w, i32_w]
         rfl
        refine take_ (i := 16) (N := some 46) (v := ?_) (a' := ?_) (M_ 27 131071) rfl rfl (take_ofW HT_.out HW_.out (by kernel_rfl)) (fun _ _ _ h => h) (Or.inl ⟨by rfl, ?_⟩) hHeld ?_ ?_
        rotate_left
        ·rintro w' ⟨s0, s1, s2, s3, s4, s5, s6, s7, s8⟩
         go_simp
         with_reducible rfl
        rotate_left
        ·simp only [P_, i64_w, i32_w]
         rfl
        refine one_ (i := 17) (N := some 47) (M_ 27 262143) rfl rfl (one_of HT_.out (by kernel_rfl)) (by decide) (fun K hK => ?_)
        refine goes_ Try.func21 (by kernel_rfl) rfl #[.slice Ao20 t448.length co20, .slice Ao27 t454.length co27] (by rfl) rfl rfl (by simp only [List.map_toArray, List.map_cons, List.map_nil]; try rfl) ?_
        with_reducible refine (laws_wInts.calls kj2 _ _ t448 _ _ t454 true _ ?side1 ?side2 ?side3 ?side4 A32.out).mono ?_
        (case side1 => exact (Kd.R_reads' HO450.out).2.2)
        (case side2 => exact (Kd.R_reads' HO450.out).2.1)
        (case side3 => exact (Kd.R_reads' HO456.out).2.2)
        (case side4 => exact (Kd.R_reads' HO456.out).2.1)
        rintro e w' ⟨rfl, ⟨nd, rfl⟩⟩
        refine ⟨_, rfl, ?_⟩
        refine hK.out _ _ ⟨(blk_cell BK451.out 0).trans rfl, (blk_cell BK451.out 1).trans rfl, (blk_cell BK451.out 2).trans rfl, (blk_cell BK457.out 0).trans rfl, (blk_cell BK457.out 1).trans rfl, (blk_cell BK457.out 2).trans rfl, (blk_cell BK445.out 0).trans rfl, (blk_cell BK445.out 1).trans rfl, (blk_cell BK445.out 2).trans rfl⟩ (fun hHeld => ?_)
        clear hK K
        refine norm_ (a' := ?_) ?_ ?_
        rotate_left
        ·show Act.put _ (some 47) _ = _
         simp only [P_, i64_w, i32_w]
         rfl
        refine pure_ (i := 18) (N := some 48) (v := ?_) (a' := ?_) (M_ 27 524287) rfl rfl (any_of HT_.out (by kernel_rfl)) (fun _ _ _ h => h) (Or.inl ⟨by rfl, ?_⟩) ?_ ?_
        rotate_left
        ·intro w'
         go_simp
         with_reducible rfl
        rotate_left
        ·simp only [P_, i64_w, i32_w]
         rfl
        refine pure_ (i := 19) (N := some 49) (v := ?_) (a' := ?_) (M_ 27 1048575) rfl rfl (any_of HT_.out (by kernel_rfl)) (fun _ _ _ h => h) (Or.inl ⟨by rfl, ?_⟩) ?_ ?_
        rotate_left
        ·intro w'
         go_simp
         with_reducible rfl
        rotate_left
        ·simp only [P_, i64_w, i32_w]
         rfl
        refine pure_ (i := 20) (N := some 50) (v := ?_) (a' := ?_) (M_ 27 2097151) rfl rfl (any_of HT_.out (by kernel_rfl)) (fun _ _ _ h => h) (Or.inl ⟨by rfl, ?_⟩) ?_ ?_
        rotate_left
        ·intro w'
         go_simp
         with_reducible rfl
        rotate_left
        ·simp only [P_, i64_w, i32_w]
         rfl
        refine pure_ (i := 21) (N := some 51) (v := ?_) (a' := ?_) (M_ 27 4194303) rfl rfl (any_of HT_.out (by kernel_rfl)) (fun _ _ _ h => h) (Or.inl ⟨by rfl, ?_⟩) ?_ ?_
        rotate_left
        ·intro w'
         go_simp
         with_reducible rfl
        rotate_left
        ·simp only [P_, i64_w, i32_w]
         rfl
        refine take_ (i := 22) (N := some 52) (v := ?_) (a' := ?_) (M_ 27 8388607) rfl rfl (take_ofW HT_.out HW_.out (by kernel_rfl)) (fun _ _ _ h => h) (Or.inl ⟨by rfl, ?_⟩) hHeld ?_ ?_
        rotate_left
        ·rintro w' ⟨s0, s1, s2, s3, s4, s5, s6, s7, s8⟩
         go_simp
         with_reducible rfl
        rotate_left
        ·simp only [P_, i64_w, i32_w]
         rfl
        refine take_ (i := 23) (N := some 53) (v := ?_) (a' := ?_) (M_ 27 16777215) rfl rfl (take_ofW HT_.out HW_.out (by kernel_rfl)) (fun _ _ _ h => h) (Or.inl ⟨by rfl, ?_⟩) hHeld ?_ ?_
        rotate_left
        ·rintro w' ⟨s0, s1, s2, s3, s4, s5, s6, s7, s8⟩
         go_simp
         with_reducible rfl
        rotate_left
        ·simp only [P_, i64_w, i32_w]
         rfl
        refine one_ (i := 24) (N := some 54) (M_ 27 33554431) rfl rfl (one_of HT_.out (by kernel_rfl)) (by decide) (fun K hK => ?_)
        refine goes_ Try.func30 (by kernel_rfl) rfl #[.agg #[.slice Ao12 t436.length co12, .slice Ao14 t439.length co14, .slice Ao15 t442.length co15]] (by rfl) rfl rfl (by simp only [List.map_toArray, List.map_cons, List.map_nil]; try rfl) ?_
        with_reducible refine (impl_Safe.calls kj2 _ _ t436 _ _ t439 _ _ t442 t459 _ ?side1 ?side2 ?side3 ?side4 ?side5 ?side6 A34.out).mono ?_
        (case side1 => exact (Kd.R_reads' HO438.out).2.2)
        (case side2 => exact (Kd.R_reads' HO438.out).2.1)
        (case side3 => exact (Kd.N_reads' HO441.out).2.2)
        (case side4 => exact (Kd.N_reads' HO441.out).2.1)
        (case side5 => exact (Kd.R_reads' HO444.out).2.2)
        (case side6 => exact (Kd.R_reads' HO444.out).2.1)
        rintro e w37 ⟨rfl, hb⟩
        refine ⟨_, rfl, ?_⟩
        replace HO438 := K_ (Kd.R_below (by exact HO438.out) hb)
        replace HO441 := K_ (Kd.N_below (by (with_reducible repeat (first | apply Kd.N_alloc | apply Kd.N_drewN | apply Kd.N_drew)); exact HO441.out) hb)
        replace HO444 := K_ (Kd.R_below (by (with_reducible repeat (first | apply Kd.R_alloc | apply Kd.R_drewN | apply Kd.R_drew)); exact HO444.out) hb)
        replace HO450 := K_ (Kd.R_below (by (with_reducible repeat (first | apply Kd.R_alloc | apply Kd.R_drewN | apply Kd.R_drew)); exact HO450.out) hb)
        replace HO456 := K_ (Kd.R_below (by (with_reducible repeat (first | apply Kd.R_alloc | apply Kd.R_drewN | apply Kd.R_drew)); exact HO456.out) hb)
        replace BK445 := K_ (blk_below (g := gb445) (o := .cells #[.slice Ao12 t436.length co12, .slice Ao14 t439.length co14, .slice Ao15 t442.length co15] 26 (0, 0)) (by (with_reducible repeat (first | refine blk_drewN ?_ _ | refine blk_drew ?_ | refine blk_alloc ?_ _)); exact BK445.out) hb)
        replace BK451 := K_ (blk_below (g := gb451) (o := .cells #[.bool t446, .int .i64 t447, .slice Ao20 t448.length co20] 41 (0, 0)) (by (with_reducible repeat (first | refine blk_drewN ?_ _ | refine blk_drew ?_ | refine blk_alloc ?_ _)); exact BK451.out) hb)
        replace BK457 := K_ (blk_below (g := gb457) (o := .cells #[.bool t452, .int .i64 t453, .slice Ao27 t454.length co27] 41 (0, 0)) (by (with_reducible repeat (first | refine blk_drewN ?_ _ | refine blk_drew ?_ | refine blk_alloc ?_ _)); exact BK457.out) hb)
        replace HB := K_ (below_step (by repeat (first | (with_reducible first | exact HB.out | apply below_alloc | apply pw_below_drewN | apply below_drew1 | refine below_set ?_ GE445.out | refine below_set ?_ GE451.out | refine below_set ?_ GE457.out) | exact HB.out)) hb)
        (try clear hb)
        (try clear hb2)
        (try clear hk)
        (try clear hi)
        refine hK.out _ _ ⟨(blk_cell BK451.out 0).trans rfl, (blk_cell BK451.out 1).trans rfl, (blk_cell BK451.out 2).trans rfl, (blk_cell BK457.out 0).trans rfl, (blk_cell BK457.out 1).trans rfl, (blk_cell BK457.out 2).trans rfl, (blk_cell BK445.out 0).trans rfl, (blk_cell BK445.out 1).trans rfl, (blk_cell BK445.out 2).trans rfl⟩ (fun hHeld => ?_)
        clear hK K
        refine norm_ (a' := ?_) ?_ ?_
        rotate_left
        ·show Act.put _ (some 54) _ = _
         simp only [P_, i64_w, i32_w]
         rfl
        refine pure_ (i := 25) (N := some 55) (v := ?_) (a' := ?_) (M_ 27 67108863) rfl rfl (any_of HT_.out (by kernel_rfl)) (fun _ _ _ h => h) (Or.inl ⟨by rfl, ?_⟩) ?_ ?_
        rotate_left
        ·intro w'
         go_simp
         with_reducible rfl
        rotate_left
        ·simp only [P_, i64_w, i32_w]
         rfl
        refine pure_ (i := 26) (N := some 56) (v := ?_) (a' := ?_) (M_ 27 134217727) rfl rfl (any_of HT_.out (by kernel_rfl)) (fun _ _ _ h => h) (Or.inl ⟨by rfl, ?_⟩) ?_ ?_
        rotate_left
        ·intro w'
         go_simp
         with_reducible rfl
        rotate_left
        ·simp only [P_, i64_w, i32_w]
         rfl
        refine done_ (done_of HT_.out (by kernel_rfl)) ?_
        try go_wp2
        go_meet
        case rel => exact ⟨_, ((t446 != t459)), rfl, H', ⟨by have := HJ2.out; first | omega | exact Nat.le_refl _⟩, ⟨HO438.out⟩, ⟨HO441.out⟩, ⟨HO444.out⟩, ⟨HO450.out⟩, ⟨HO456.out⟩, ⟨BK445.out⟩, ⟨BK451.out⟩, ⟨BK457.out⟩, ⟨HB.out⟩⟩
       ·replace c33 := Bool.eq_false_iff.mpr c33
        subst c33
        have H1 : (laws_FnBest.j1 kj2 l1 true t436 t439 t442 t446 t447 t448) = some r := by rw [if_neg (show ¬ (false = true) by decide)] at H; exact H
        clear H
        have H := H1
        exact absurd (H.trans (congrArg some hT_.out)) (laws_FnBest.j1_dead _ _ _ _ _ _ _ _)
      ·rw [if_neg c31] at H
       exact absurd (H.trans (congrArg some hT_.out)) (laws_FnBest.j1_dead _ _ _ _ _ _ _ _)
    case rest =>
     clear HC9
     skip
     obtain ⟨kq, x56_8, rfl, HA, HJ8, HO_00, HO_01, HO_02, HO_05, HO_06, BK445, BK451, BK457, HB⟩ := hcut
     cases kq with
     | zero => exact absurd HA.out (by simp [laws_FnBest.j1])
     | succ kj8 =>
      have H := HA.out
      clear HA
      simp only [laws_FnBest.j1] at H
      by_cases c42 : x56_8 = true
      ·subst c42
       have H1 : (some false) = some r := by rw [if_pos rfl] at H; exact H
       clear H
       have H := H1
       exact absurd (H.trans (congrArg some hT_.out)) (by simp)
      ·replace c42 := Bool.eq_false_iff.mpr c42
       subst c42
       rw [if_neg (show ¬ (false = true) by decide)] at H
       by_cases c43 : t446 = true
       ·subst c43
        rw [if_pos rfl] at H
        replace H := Option.bind_eq_some_iff.mp H
        obtain ⟨t460, A440, H⟩ := H
        replace H : (if t460 = t447 then (laws_FnBest.l0 kj8 l1 0 t436 t439 t442 true t447 t448) else (some false)) = some r := H
        have A44 := K_ A440
        clear A440
        by_cases c45 : t460 = t447
        ·rw [if_pos c45] at H
         have c45b0 := beq_iff_eq.mpr c45
         have c45b1 := bne_eq_false_iff_eq.mpr c45
         clear c45
         have H' := K_ H
         clear H
         have hnb46 := NB451_445.out
         have hnc46 := NB445_451.out
         have hnb47 := NB451_457.out
         have hnc47 := NB457_451.out
         obtain ⟨hcz48_0, hcz48_1, hcz48_2, hfz48_0, hfz48_1, hfz48_2⟩ := blkf3_ BK451.out
         try go_wp2
         replace HO_00 := K_ (Kd.R_drew HO_00.out)
         replace HO_01 := K_ (Kd.N_drew HO_01.out)
         replace HO_02 := K_ (Kd.R_drew HO_02.out)
         replace HO_05 := K_ (Kd.R_drew HO_05.out)
         replace HO_06 := K_ (Kd.R_drew HO_06.out)
         replace BK445 := K_ (blk_drew BK445.out)
         replace BK451 := K_ (blk_drew BK451.out)
         replace BK457 := K_ (blk_drew BK457.out)
         replace HB := K_ (below_drew1 HB.out)
         refine start_ (n := 7) (S := fun w' => w'.cell? ⟨gb445, 0, none⟩ = some (.slice Ao12 t436.length co12) ∧ w'.cell? ⟨gb445, 1, none⟩ = some (.slice Ao14 t439.length co14) ∧ w'.cell? ⟨gb445, 2, none⟩ = some (.slice Ao15 t442.length co15) ∧ w'.cell? ⟨gb451, 0, none⟩ = some (.bool true) ∧ w'.cell? ⟨gb451, 1, none⟩ = some (.int .i64 t447) ∧ w'.cell? ⟨gb451, 2, none⟩ = some (.slice Ao20 t448.length co20)) (ds := []) #[ff, ff, ff, ff, ff, ff, ff] (by kernel_rfl) rfl rfl ⟨(blk_cell BK445.out 0).trans rfl, (blk_cell BK445.out 1).trans rfl, (blk_cell BK445.out 2).trans rfl, (blk_cell BK451.out 0).trans rfl, (blk_cell BK451.out 1).trans rfl, (blk_cell BK451.out 2).trans rfl⟩ (fun hHeld => ?_)
         generalize wc.drew = w49 at HO_00 HO_01 HO_02 HO_05 HO_06 BK445 BK451 BK457 HB hHeld ⊢
         refine pure_ (i := 1) (N := some 61) (v := ?_) (a' := ?_) (M_ 7 2) rfl rfl (by kernel_rfl) (fun _ _ _ h => h) (Or.inl ⟨by rfl, ?_⟩) ?_ ?_
         rotate_left
         ·intro w'
          go_simp
          with_reducible rfl
         rotate_left
         ·simp only [P_, i64_w, i32_w]
          rfl
         refine pure_ (i := 4) (N := some 64) (v := ?_) (a' := ?_) (M_ 7 18) rfl rfl (by kernel_rfl) (fun _ _ _ h => h) (Or.inl ⟨by rfl, ?_⟩) ?_ ?_
         rotate_left
         ·intro w'
          go_simp
          with_reducible rfl
         rotate_left
         ·simp only [P_, i64_w, i32_w]
          rfl
         refine take_ (i := 0) (N := some 60) (v := ?_) (a' := ?_) (M_ 7 19) rfl rfl (by kernel_rfl) (fun _ _ _ h => h) (Or.inl ⟨by rfl, ?_⟩) hHeld ?_ ?_
         rotate_left
         ·rintro w' ⟨s0, s1, s2, s3, s4, s5⟩
          go_simp
          with_reducible rfl
         rotate_left
         ·simp only [P_, i64_w, i32_w]
          rfl
         refine take_ (i := 2) (N := some 62) (v := ?_) (a' := ?_) (M_ 7 23) rfl rfl (by kernel_rfl) (fun _ _ _ h => h) (Or.inl ⟨by rfl, ?_⟩) hHeld ?_ ?_
         rotate_left
         ·rintro w' ⟨s0, s1, s2, s3, s4, s5⟩
          go_simp
          with_reducible rfl
         rotate_left
         ·simp only [P_, i64_w, i32_w]
          rfl
         refine take_ (i := 5) (N := some 65) (v := ?_) (a' := ?_) (M_ 7 55) rfl rfl (by kernel_rfl) (fun _ _ _ h => h) (Or.inl ⟨by rfl, ?_⟩) hHeld ?_ ?_
         rotate_left
         ·rintro w' ⟨s0, s1, s2, s3, s4, s5⟩
          go_simp
          with_reducible rfl
         rotate_left
         ·simp only [P_, i64_w, i32_w]
          rfl
         refine one_ (i := 3) (N := some 63) (M_ 7 63) rfl rfl (by kernel_rfl) (by decide) (fun K hK => ?_)
         refine goes_ Try.func34 (by kernel_rfl) rfl #[.agg #[.slice Ao12 t436.length co12, .slice Ao14 t439.length co14, .slice Ao15 t442.length co15], .slice Ao20 t448.length co20] (by rfl) rfl rfl (by simp only [List.map_toArray, List.map_cons, List.map_nil]; try rfl) ?_
         with_reducible refine (impl_Cost.calls kj8 (fun k_ => some k_ = (.slice Ao12 t436.length co12 : Value).ownBlock) _ _ t436 (fun k_ => (X_ k_ (.slice Ao12 t436.length co12) ∧ (X_ k_ (.slice Ao15 t442.length co15) ∧ (X_ k_ (.slice Ao20 t448.length co20) ∧ (X_ k_ (.slice Ao27 t454.length co27) ∧ (k_ ≠ gb445 ∧ (k_ ≠ gb451 ∧ k_ ≠ gb457))))))) _ _ t439 (fun k_ => some k_ = (.slice Ao15 t442.length co15 : Value).ownBlock) _ _ t442 _ _ t448 t460 _ ?side1 ?side2 ?side3 ?side4 ?side5 A44.out).mono ?_
         (case side1 => exact Kd.R_V (Kd.R_tight rfl (Kd.R_types (Kd.R_types (Kd.R_types (Kd.R_apart' (HO_00.out) (Kd.N_typed HO_01.out) (by decide)) BK445.out (by decide)) BK451.out (by decide)) BK457.out (by decide))))
         (case side2 => exact Kd.N_V (HO_01.out))
         (case side3 => exact Kd.R_V (Kd.R_tight rfl (Kd.R_types (Kd.R_types (Kd.R_types (Kd.R_apart' (HO_02.out) (Kd.N_typed HO_01.out) (by decide)) BK445.out (by decide)) BK451.out (by decide)) BK457.out (by decide))))
         (case side4 => exact (Kd.R_reads' HO_05.out).2.2)
         (case side5 => exact (Kd.R_reads' HO_05.out).2.1)
         rintro e w50 ⟨rfl, hb⟩
         refine ⟨_, rfl, ?_⟩
         replace HO_00 := K_ (Kd.R_below HO_00.out hb)
         replace HO_01 := K_ (Kd.N_below HO_01.out hb)
         replace HO_02 := K_ (Kd.R_below HO_02.out hb)
         replace HO_05 := K_ (Kd.R_below HO_05.out hb)
         replace HO_06 := K_ (Kd.R_below HO_06.out hb)
         replace BK445 := K_ (blk_below BK445.out hb)
         replace BK451 := K_ (blk_below BK451.out hb)
         replace BK457 := K_ (blk_below BK457.out hb)
         replace HB := K_ (below_step HB.out hb)
         clear hb
         (try clear hb2)
         (try clear hk)
         (try clear hi)
         refine hK.out _ _ ⟨(blk_cell BK445.out 0).trans rfl, (blk_cell BK445.out 1).trans rfl, (blk_cell BK445.out 2).trans rfl, (blk_cell BK451.out 0).trans rfl, (blk_cell BK451.out 1).trans rfl, (blk_cell BK451.out 2).trans rfl⟩ (fun hHeld => ?_)
         clear hK K
         refine norm_ (a' := ?_) ?_ ?_
         rotate_left
         ·show Act.put _ (some 63) _ = _
          simp only [P_, i64_w, i32_w]
          rfl
         refine pure_ (i := 6) (N := some 66) (v := ?_) (a' := ?_) (M_ 7 127) rfl rfl (by kernel_rfl) (fun _ _ _ h => h) (Or.inl ⟨by rfl, ?_⟩) ?_ ?_
         rotate_left
         ·intro w'
          go_simp
          with_reducible rfl
         rotate_left
         ·simp only [P_, i64_w, i32_w]
          rfl
         refine done_ (by kernel_rfl) ?_
         try go_wp2
         go_loopg [8] kj8 (fun kq v8 w' => ∃ (x8_3 : Int), v8 = .int .i64 x8_3 ∧ Aside0 (laws_FnBest.l0 kq l1 x8_3 t436 t439 t442 true t447 t448 = some r) ∧ Aside0 (kq ≤ kj8) ∧ Aside0 (Kd.R (Kd.int .i64) 3 w' w.heap.size (fun k_ => some k_ ≠ ((.slice Ao15 t442.length co15) : Value).ownBlock ∧ some k_ ≠ ((.slice Ao20 t448.length co20) : Value).ownBlock ∧ some k_ ≠ ((.slice Ao27 t454.length co27) : Value).ownBlock) (.slice Ao12 t436.length co12) t436) ∧ Aside0 (Kd.N k35 35 w' w.heap.size (fun k_ => some k_ ≠ ((.slice Ao12 t436.length co12) : Value).ownBlock ∧ some k_ ≠ ((.slice Ao15 t442.length co15) : Value).ownBlock ∧ some k_ ≠ ((.slice Ao20 t448.length co20) : Value).ownBlock ∧ some k_ ≠ ((.slice Ao27 t454.length co27) : Value).ownBlock ∧ k_ ≠ gb445 ∧ k_ ≠ gb451 ∧ k_ ≠ gb457) (.slice Ao14 t439.length co14) t439) ∧ Aside0 (Kd.R (Kd.int .i64) 3 w' w.heap.size (fun k_ => some k_ ≠ ((.slice Ao12 t436.length co12) : Value).ownBlock ∧ some k_ ≠ ((.slice Ao20 t448.length co20) : Value).ownBlock ∧ some k_ ≠ ((.slice Ao27 t454.length co27) : Value).ownBlock) (.slice Ao15 t442.length co15) t442) ∧ Aside0 (Kd.R (Kd.int .i64) 3 w' w.heap.size (fun k_ => some k_ ≠ ((.slice Ao12 t436.length co12) : Value).ownBlock ∧ some k_ ≠ ((.slice Ao15 t442.length co15) : Value).ownBlock ∧ some k_ ≠ ((.slice Ao27 t454.length co27) : Value).ownBlock) (.slice Ao20 t448.length co20) t448) ∧ Aside0 (Kd.R (Kd.int .i64) 3 w' w.heap.size (fun k_ => some k_ ≠ ((.slice Ao12 t436.length co12) : Value).ownBlock ∧ some k_ ≠ ((.slice Ao15 t442.length co15) : Value).ownBlock ∧ some k_ ≠ ((.slice Ao20 t448.length co20) : Value).ownBlock) (.slice Ao27 t454.length co27) t454) ∧ Aside0 (w'.heap[gb445]? = some (.cells #[(.slice Ao12 t436.length co12), (.slice Ao14 t439.length co14), (.slice Ao15 t442.length co15)] 26 (0, 0))) ∧ Aside0 (w'.heap[gb451]? = some (.cells #[.bool true, .int .i64 t447, (.slice Ao20 t448.length co20)] 41 (0, 0))) ∧ Aside0 (w'.heap[gb457]? = some (.cells #[.bool t452, .int .i64 t453, (.slice Ao27 t454.length co27)] 41 (0, 0))) ∧ Aside0 (Below w.heap.size w w'))
         case atStart => exact ⟨(0), rfl, H', ⟨Nat.le_refl _⟩, ⟨HO_00.out⟩, ⟨HO_01.out⟩, ⟨HO_02.out⟩, ⟨HO_05.out⟩, ⟨HO_06.out⟩, ⟨BK445.out⟩, ⟨BK451.out⟩, ⟨BK457.out⟩, ⟨HB.out⟩⟩
         case round =>
          clear H'
          skip
          obtain ⟨x8_3, rfl, HA, HK3, HO_00, HO_01, HO_02, HO_05, HO_06, BK445, BK451, BK457, HB⟩ := hrel
          cases gk with
          | zero => exact absurd HA.out (by simp [laws_FnBest.l0])
          | succ k3 =>
           have H := HA.out
           clear HA
           simp only [laws_FnBest.l0] at H
           by_cases c51 : x8_3 < 3
           ·rw [if_pos c51] at H
            have c51b0 := decide_eq_true c51
            clear c51
            have HC52 := K_ H
            clear H
            have hnb53 := NB445_451.out
            have hnc53 := NB451_445.out
            have hnb54 := NB445_457.out
            have hnc54 := NB457_445.out
            obtain ⟨hcz55_0, hcz55_1, hcz55_2, hfz55_0, hfz55_1, hfz55_2⟩ := blkf3_ BK445.out
            go_upto_block 2 with (first | ((with_reducible refine gate_dst (N := 10) rfl ?_); (try (refine gate_guard (by rfl) ?_; dsimp only)); refine box_event ?hg (N := 10) ?hd (cs := #[.slice none 0 0, .slice none 0 0, .slice none 0 0]) (t := 26) ?hr ?_; (case hd => rfl); (case hg => rfl); (case hr => go_simp; try rfl); intro gb461 hg w56 hbox hb; have BK461 := K_ (hbox); have GW461 := ge_ hg HB.out; have GE461 := ge_ hg HB.out; have NB445_461 := nl_ hg BK445.out; have NB461_445 := ng_ hg BK445.out; have NB451_461 := nl_ hg BK451.out; have NB461_451 := ng_ hg BK451.out; have NB457_461 := nl_ hg BK457.out; have NB461_457 := ng_ hg BK457.out; replace HO_00 := K_ (Kd.R_below HO_00.out hb); replace HO_01 := K_ (Kd.N_below (Kd.N_elderB HO_01.out gb461 (Nat.le_of_eq hg.symm)) hb); replace HO_02 := K_ (Kd.R_below HO_02.out hb); replace HO_05 := K_ (Kd.R_below HO_05.out hb); replace HO_06 := K_ (Kd.R_below HO_06.out hb); replace BK445 := K_ (blk_below BK445.out hb); replace BK451 := K_ (blk_below BK451.out hb); replace BK457 := K_ (blk_below BK457.out hb); replace HB := K_ (below_step HB.out hb); clear hb hbox hg; have hnb57 := NB461_445.out; have hnc57 := NB445_461.out; have hnb58 := NB461_451.out; have hnc58 := NB451_461.out; have hnb59 := NB461_457.out; have hnc59 := NB457_461.out; obtain ⟨hcz60_0, hcz60_1, hcz60_2, hfz60_0, hfz60_1, hfz60_2⟩ := blkf3_ BK461.out))
            (try simp only [P_])
            go_cut [9] (fun v9 wc => ∃ (kq : Nat) (x9_51 : List Int) (x07_51 : List Int) (x08_51 : List (S35)) (x09_51 : List Int) (u07 : Value) (u08 : Value) (u09 : Value), Aside0 (laws_FnBest.j5 kq l1 x8_3 x9_51 t436 t439 t442 true t447 t448 x07_51 x08_51 x09_51 = some r) ∧ Aside0 (kq ≤ k3) ∧ Aside0 (Kd.R (Kd.int .i64) 3 wc w.heap.size (fun k_ => some k_ ≠ ((.slice Ao12 t436.length co12) : Value).ownBlock ∧ some k_ ≠ ((.slice Ao15 t442.length co15) : Value).ownBlock ∧ some k_ ≠ ((.slice Ao20 t448.length co20) : Value).ownBlock ∧ some k_ ≠ ((.slice Ao27 t454.length co27) : Value).ownBlock ∧ X_ k_ u07 ∧ X_ k_ u09) v9 x9_51) ∧ Aside0 (Kd.R (Kd.int .i64) 3 wc w.heap.size (fun k_ => X_ k_ v9 ∧ some k_ ≠ ((.slice Ao15 t442.length co15) : Value).ownBlock ∧ some k_ ≠ ((.slice Ao20 t448.length co20) : Value).ownBlock ∧ some k_ ≠ ((.slice Ao27 t454.length co27) : Value).ownBlock ∧ X_ k_ u09) (.slice Ao12 t436.length co12) t436) ∧ Aside0 (Kd.N k35 35 wc w.heap.size (fun k_ => X_ k_ v9 ∧ some k_ ≠ ((.slice Ao12 t436.length co12) : Value).ownBlock ∧ some k_ ≠ ((.slice Ao15 t442.length co15) : Value).ownBlock ∧ some k_ ≠ ((.slice Ao20 t448.length co20) : Value).ownBlock ∧ some k_ ≠ ((.slice Ao27 t454.length co27) : Value).ownBlock ∧ X_ k_ u07 ∧ X_ k_ u09 ∧ k_ ≠ gb445 ∧ k_ ≠ gb451 ∧ k_ ≠ gb457 ∧ k_ ≠ gb461) (.slice Ao14 t439.length co14) t439) ∧ Aside0 (Kd.R (Kd.int .i64) 3 wc w.heap.size (fun k_ => X_ k_ v9 ∧ some k_ ≠ ((.slice Ao12 t436.length co12) : Value).ownBlock ∧ some k_ ≠ ((.slice Ao20 t448.length co20) : Value).ownBlock ∧ some k_ ≠ ((.slice Ao27 t454.length co27) : Value).ownBlock ∧ X_ k_ u07) (.slice Ao15 t442.length co15) t442) ∧ Aside0 (Kd.R (Kd.int .i64) 3 wc w.heap.size (fun k_ => X_ k_ v9 ∧ some k_ ≠ ((.slice Ao12 t436.length co12) : Value).ownBlock ∧ some k_ ≠ ((.slice Ao15 t442.length co15) : Value).ownBlock ∧ some k_ ≠ ((.slice Ao27 t454.length co27) : Value).ownBlock ∧ X_ k_ u07 ∧ X_ k_ u09) (.slice Ao20 t448.length co20) t448) ∧ Aside0 (Kd.R (Kd.int .i64) 3 wc w.heap.size (fun k_ => X_ k_ v9 ∧ some k_ ≠ ((.slice Ao12 t436.length co12) : Value).ownBlock ∧ some k_ ≠ ((.slice Ao15 t442.length co15) : Value).ownBlock ∧ some k_ ≠ ((.slice Ao20 t448.length co20) : Value).ownBlock ∧ X_ k_ u07 ∧ X_ k_ u09) (.slice Ao27 t454.length co27) t454) ∧ Aside0 (Kd.R (Kd.int .i64) 3 wc w.heap.size (fun k_ => X_ k_ v9 ∧ some k_ ≠ ((.slice Ao15 t442.length co15) : Value).ownBlock ∧ some k_ ≠ ((.slice Ao20 t448.length co20) : Value).ownBlock ∧ some k_ ≠ ((.slice Ao27 t454.length co27) : Value).ownBlock ∧ X_ k_ u09) u07 x07_51) ∧ Aside0 (Kd.N k35 35 wc w.heap.size (fun k_ => X_ k_ v9 ∧ some k_ ≠ ((.slice Ao12 t436.length co12) : Value).ownBlock ∧ some k_ ≠ ((.slice Ao15 t442.length co15) : Value).ownBlock ∧ some k_ ≠ ((.slice Ao20 t448.length co20) : Value).ownBlock ∧ some k_ ≠ ((.slice Ao27 t454.length co27) : Value).ownBlock ∧ X_ k_ u07 ∧ X_ k_ u09 ∧ k_ ≠ gb445 ∧ k_ ≠ gb451 ∧ k_ ≠ gb457 ∧ k_ ≠ gb461) u08 x08_51) ∧ Aside0 (Kd.R (Kd.int .i64) 3 wc w.heap.size (fun k_ => X_ k_ v9 ∧ some k_ ≠ ((.slice Ao12 t436.length co12) : Value).ownBlock ∧ some k_ ≠ ((.slice Ao20 t448.length co20) : Value).ownBlock ∧ some k_ ≠ ((.slice Ao27 t454.length co27) : Value).ownBlock ∧ X_ k_ u07) u09 x09_51) ∧ Aside0 (wc.heap[gb445]? = some (.cells #[(.slice Ao12 t436.length co12), (.slice Ao14 t439.length co14), (.slice Ao15 t442.length co15)] 26 (0, 0))) ∧ Aside0 (wc.heap[gb451]? = some (.cells #[.bool true, .int .i64 t447, (.slice Ao20 t448.length co20)] 41 (0, 0))) ∧ Aside0 (wc.heap[gb457]? = some (.cells #[.bool t452, .int .i64 t453, (.slice Ao27 t454.length co27)] 41 (0, 0))) ∧ Aside0 (wc.heap[gb461]? = some (.cells #[u07, u08, u09] 26 (0, 0))) ∧ Aside0 (Below w.heap.size w wc))
            case first =>
             have H := HC52.out
             clear HC52
             have H' := K_ H
             clear H
             go_wp2
             go_loopg [9, 11] k3 (fun kq v9 v11 w' => ∃ (x9_4 : List Int) (x11_4 : Int) (x07_4 : List Int) (x08_4 : List (S35)) (x09_4 : List Int) (u07 : Value) (u08 : Value) (u09 : Value), v11 = .int .i64 x11_4 ∧ Aside0 (laws_FnBest.l1 kq l1 x8_3 x9_4 x11_4 t436 t439 t442 true t447 t448 x07_4 x08_4 x09_4 = some r) ∧ Aside0 (kq ≤ k3) ∧ Aside0 (Kd.R (Kd.int .i64) 3 w' w.heap.size (fun k_ => some k_ ≠ ((.slice Ao12 t436.length co12) : Value).ownBlock ∧ some k_ ≠ ((.slice Ao15 t442.length co15) : Value).ownBlock ∧ some k_ ≠ ((.slice Ao20 t448.length co20) : Value).ownBlock ∧ some k_ ≠ ((.slice Ao27 t454.length co27) : Value).ownBlock ∧ X_ k_ u07 ∧ X_ k_ u09) v9 x9_4) ∧ Aside0 (Kd.R (Kd.int .i64) 3 w' w.heap.size (fun k_ => X_ k_ v9 ∧ some k_ ≠ ((.slice Ao15 t442.length co15) : Value).ownBlock ∧ some k_ ≠ ((.slice Ao20 t448.length co20) : Value).ownBlock ∧ some k_ ≠ ((.slice Ao27 t454.length co27) : Value).ownBlock ∧ X_ k_ u09) (.slice Ao12 t436.length co12) t436) ∧ Aside0 (Kd.N k35 35 w' w.heap.size (fun k_ => X_ k_ v9 ∧ some k_ ≠ ((.slice Ao12 t436.length co12) : Value).ownBlock ∧ some k_ ≠ ((.slice Ao15 t442.length co15) : Value).ownBlock ∧ some k_ ≠ ((.slice Ao20 t448.length co20) : Value).ownBlock ∧ some k_ ≠ ((.slice Ao27 t454.length co27) : Value).ownBlock ∧ X_ k_ u07 ∧ X_ k_ u09 ∧ k_ ≠ gb445 ∧ k_ ≠ gb451 ∧ k_ ≠ gb457 ∧ k_ ≠ gb461) (.slice Ao14 t439.length co14) t439) ∧ Aside0 (Kd.R (Kd.int .i64) 3 w' w.heap.size (fun k_ => X_ k_ v9 ∧ some k_ ≠ ((.slice Ao12 t436.length co12) : Value).ownBlock ∧ some k_ ≠ ((.slice Ao20 t448.length co20) : Value).ownBlock ∧ some k_ ≠ ((.slice Ao27 t454.length co27) : Value).ownBlock ∧ X_ k_ u07) (.slice Ao15 t442.length co15) t442) ∧ Aside0 (Kd.R (Kd.int .i64) 3 w' w.heap.size (fun k_ => X_ k_ v9 ∧ some k_ ≠ ((.slice Ao12 t436.length co12) : Value).ownBlock ∧ some k_ ≠ ((.slice Ao15 t442.length co15) : Value).ownBlock ∧ some k_ ≠ ((.slice Ao27 t454.length co27) : Value).ownBlock ∧ X_ k_ u07 ∧ X_ k_ u09) (.slice Ao20 t448.length co20) t448) ∧ Aside0 (Kd.R (Kd.int .i64) 3 w' w.heap.size (fun k_ => X_ k_ v9 ∧ some k_ ≠ ((.slice Ao12 t436.length co12) : Value).ownBlock ∧ some k_ ≠ ((.slice Ao15 t442.length co15) : Value).ownBlock ∧ some k_ ≠ ((.slice Ao20 t448.length co20) : Value).ownBlock ∧ X_ k_ u07 ∧ X_ k_ u09) (.slice Ao27 t454.length co27) t454) ∧ Aside0 (Kd.R (Kd.int .i64) 3 w' w.heap.size (fun k_ => X_ k_ v9 ∧ some k_ ≠ ((.slice Ao15 t442.length co15) : Value).ownBlock ∧ some k_ ≠ ((.slice Ao20 t448.length co20) : Value).ownBlock ∧ some k_ ≠ ((.slice Ao27 t454.length co27) : Value).ownBlock ∧ X_ k_ u09) u07 x07_4) ∧ Aside0 (Kd.N k35 35 w' w.heap.size (fun k_ => X_ k_ v9 ∧ some k_ ≠ ((.slice Ao12 t436.length co12) : Value).ownBlock ∧ some k_ ≠ ((.slice Ao15 t442.length co15) : Value).ownBlock ∧ some k_ ≠ ((.slice Ao20 t448.length co20) : Value).ownBlock ∧ some k_ ≠ ((.slice Ao27 t454.length co27) : Value).ownBlock ∧ X_ k_ u07 ∧ X_ k_ u09 ∧ k_ ≠ gb445 ∧ k_ ≠ gb451 ∧ k_ ≠ gb457 ∧ k_ ≠ gb461) u08 x08_4) ∧ Aside0 (Kd.R (Kd.int .i64) 3 w' w.heap.size (fun k_ => X_ k_ v9 ∧ some k_ ≠ ((.slice Ao12 t436.length co12) : Value).ownBlock ∧ some k_ ≠ ((.slice Ao20 t448.length co20) : Value).ownBlock ∧ some k_ ≠ ((.slice Ao27 t454.length co27) : Value).ownBlock ∧ X_ k_ u07) u09 x09_4) ∧ Aside0 (w'.heap[gb445]? = some (.cells #[(.slice Ao12 t436.length co12), (.slice Ao14 t439.length co14), (.slice Ao15 t442.length co15)] 26 (0, 0))) ∧ Aside0 (w'.heap[gb451]? = some (.cells #[.bool true, .int .i64 t447, (.slice Ao20 t448.length co20)] 41 (0, 0))) ∧ Aside0 (w'.heap[gb457]? = some (.cells #[.bool t452, .int .i64 t453, (.slice Ao27 t454.length co27)] 41 (0, 0))) ∧ Aside0 (w'.heap[gb461]? = some (.cells #[u07, u08, u09] 26 (0, 0))) ∧ Aside0 (Below w.heap.size w w'))
             case atStart => exact ⟨(([] : List Int)), (0), (t436), (t439), (t442), (.slice Ao12 t436.length co12), (.slice Ao14 t439.length co14), (.slice Ao15 t442.length co15), (by first | rfl | (simp; done) | (simp [*]; done)), H', ⟨Nat.le_refl _⟩, ⟨by first | exact Kd.R_nil _ _ _ _ _ | exact Kd.N_nil _ _ _ _ _ | exact Kd.V_nil _ _ _ _ _ | exact Kd.Q_nil _ _ _ _ _ | exact Kd.S_nil _ _ _ _ _⟩, ⟨by exact Kd.R_mono (Kd.R_far (p := ⟨gb461, 2, none⟩) (Kd.R_far (p := ⟨gb461, 1, none⟩) (Kd.R_far (p := ⟨gb461, 0, none⟩) (Kd.R_types HO_00.out BK461.out (by decide)) (fun _ hk => hk.2) (.slice Ao12 t436.length co12)) (fun _ hk => hk.2) (.slice Ao14 t439.length co14)) (fun _ hk => hk.2) (.slice Ao15 t442.length co15)) (fun _ hk => by first | exact ⟨(by simp [Value.ownBlock]), ⟨hk.1.1, ⟨hk.1.2.1, ⟨hk.1.2.2, hk.1.1⟩⟩⟩⟩ | simp only [hk, ne_eq, not_false_eq_true, and_self])⟩, ⟨by exact Kd.N_mono (Kd.N_far (p := ⟨gb461, 2, none⟩) (Kd.N_far (p := ⟨gb461, 1, none⟩) (Kd.N_far (p := ⟨gb461, 0, none⟩) (Kd.N_mono HO_01.out (fun k_ hk => (⟨hk, hk.2⟩ : _ ∧ k_ ≠ gb461))) (fun _ hk => hk.2) (.slice Ao12 t436.length co12)) (fun _ hk => hk.2) (.slice Ao14 t439.length co14)) (fun _ hk => hk.2) (.slice Ao15 t442.length co15)) (fun _ hk => by first | exact ⟨(by simp [Value.ownBlock]), ⟨hk.1.1.1, ⟨hk.1.1.2.1, ⟨hk.1.1.2.2.1, ⟨hk.1.1.2.2.2.1, ⟨hk.1.1.1, ⟨hk.1.1.2.1, ⟨hk.1.1.2.2.2.2.1, ⟨hk.1.1.2.2.2.2.2.1, ⟨hk.1.1.2.2.2.2.2.2, hk.1.2⟩⟩⟩⟩⟩⟩⟩⟩⟩⟩ | simp only [hk, ne_eq, not_false_eq_true, and_self])⟩, ⟨by exact Kd.R_mono (Kd.R_far (p := ⟨gb461, 2, none⟩) (Kd.R_far (p := ⟨gb461, 1, none⟩) (Kd.R_far (p := ⟨gb461, 0, none⟩) (Kd.R_types HO_02.out BK461.out (by decide)) (fun _ hk => hk.2) (.slice Ao12 t436.length co12)) (fun _ hk => hk.2) (.slice Ao14 t439.length co14)) (fun _ hk => hk.2) (.slice Ao15 t442.length co15)) (fun _ hk => by first | exact ⟨(by simp [Value.ownBlock]), ⟨hk.1.1, ⟨hk.1.2.1, ⟨hk.1.2.2, hk.1.1⟩⟩⟩⟩ | simp only [hk, ne_eq, not_false_eq_true, and_self])⟩, ⟨by exact Kd.R_mono (Kd.R_far (p := ⟨gb461, 2, none⟩) (Kd.R_far (p := ⟨gb461, 1, none⟩) (Kd.R_far (p := ⟨gb461, 0, none⟩) (Kd.R_types HO_05.out BK461.out (by decide)) (fun _ hk => hk.2) (.slice Ao12 t436.length co12)) (fun _ hk => hk.2) (.slice Ao14 t439.length co14)) (fun _ hk => hk.2) (.slice Ao15 t442.length co15)) (fun _ hk => by first | exact ⟨(by simp [Value.ownBlock]), ⟨hk.1.1, ⟨hk.1.2.1, ⟨hk.1.2.2, ⟨hk.1.1, hk.1.2.1⟩⟩⟩⟩⟩ | simp only [hk, ne_eq, not_false_eq_true, and_self])⟩, ⟨by exact Kd.R_mono (Kd.R_far (p := ⟨gb461, 2, none⟩) (Kd.R_far (p := ⟨gb461, 1, none⟩) (Kd.R_far (p := ⟨gb461, 0, none⟩) (Kd.R_types HO_06.out BK461.out (by decide)) (fun _ hk => hk.2) (.slice Ao12 t436.length co12)) (fun _ hk => hk.2) (.slice Ao14 t439.length co14)) (fun _ hk => hk.2) (.slice Ao15 t442.length co15)) (fun _ hk => by first | exact ⟨(by simp [Value.ownBlock]), ⟨hk.1.1, ⟨hk.1.2.1, ⟨hk.1.2.2, ⟨hk.1.1, hk.1.2.1⟩⟩⟩⟩⟩ | simp only [hk, ne_eq, not_false_eq_true, and_self])⟩, ⟨by exact Kd.R_mono (Kd.R_far (p := ⟨gb461, 2, none⟩) (Kd.R_far (p := ⟨gb461, 1, none⟩) (Kd.R_far (p := ⟨gb461, 0, none⟩) (Kd.R_types HO_00.out BK461.out (by decide)) (fun _ hk => hk.2) (.slice Ao12 t436.length co12)) (fun _ hk => hk.2) (.slice Ao14 t439.length co14)) (fun _ hk => hk.2) (.slice Ao15 t442.length co15)) (fun _ hk => by first | exact ⟨(by simp [Value.ownBlock]), ⟨hk.1.1, ⟨hk.1.2.1, ⟨hk.1.2.2, hk.1.1⟩⟩⟩⟩ | simp only [hk, ne_eq, not_false_eq_true, and_self])⟩, ⟨by exact Kd.N_mono (Kd.N_far (p := ⟨gb461, 2, none⟩) (Kd.N_far (p := ⟨gb461, 1, none⟩) (Kd.N_far (p := ⟨gb461, 0, none⟩) (Kd.N_mono HO_01.out (fun k_ hk => (⟨hk, hk.2⟩ : _ ∧ k_ ≠ gb461))) (fun _ hk => hk.2) (.slice Ao12 t436.length co12)) (fun _ hk => hk.2) (.slice Ao14 t439.length co14)) (fun _ hk => hk.2) (.slice Ao15 t442.length co15)) (fun _ hk => by first | exact ⟨(by simp [Value.ownBlock]), ⟨hk.1.1.1, ⟨hk.1.1.2.1, ⟨hk.1.1.2.2.1, ⟨hk.1.1.2.2.2.1, ⟨hk.1.1.1, ⟨hk.1.1.2.1, ⟨hk.1.1.2.2.2.2.1, ⟨hk.1.1.2.2.2.2.2.1, ⟨hk.1.1.2.2.2.2.2.2, hk.1.2⟩⟩⟩⟩⟩⟩⟩⟩⟩⟩ | simp only [hk, ne_eq, not_false_eq_true, and_self])⟩, ⟨by exact Kd.R_mono (Kd.R_far (p := ⟨gb461, 2, none⟩) (Kd.R_far (p := ⟨gb461, 1, none⟩) (Kd.R_far (p := ⟨gb461, 0, none⟩) (Kd.R_types HO_02.out BK461.out (by decide)) (fun _ hk => hk.2) (.slice Ao12 t436.length co12)) (fun _ hk => hk.2) (.slice Ao14 t439.length co14)) (fun _ hk => hk.2) (.slice Ao15 t442.length co15)) (fun _ hk => by first | exact ⟨(by simp [Value.ownBlock]), ⟨hk.1.1, ⟨hk.1.2.1, ⟨hk.1.2.2, hk.1.1⟩⟩⟩⟩ | simp only [hk, ne_eq, not_false_eq_true, and_self])⟩, ⟨by refine blk_far ?_ NB445_461.out _; refine blk_far ?_ NB445_461.out _; refine blk_far ?_ NB445_461.out _; exact BK445.out⟩, ⟨by refine blk_far ?_ NB451_461.out _; refine blk_far ?_ NB451_461.out _; refine blk_far ?_ NB451_461.out _; exact BK451.out⟩, ⟨by refine blk_far ?_ NB457_461.out _; refine blk_far ?_ NB457_461.out _; refine blk_far ?_ NB457_461.out _; exact BK457.out⟩, ⟨by refine blk_put (cs := #[.slice Ao12 t436.length co12, .slice Ao14 t439.length co14, .slice none 0 0]) ?_ 2 _ rfl; refine blk_put (cs := #[.slice Ao12 t436.length co12, .slice none 0 0, .slice none 0 0]) ?_ 1 _ rfl; refine blk_put (cs := #[.slice none 0 0, .slice none 0 0, .slice none 0 0]) ?_ 0 _ rfl; exact BK461.out⟩, ⟨by repeat (first | (with_reducible first | exact HB.out | refine below_set ?_ GE445.out | refine below_set ?_ GE451.out | refine below_set ?_ GE457.out | refine below_set ?_ GE461.out) | exact HB.out)⟩⟩
             case round =>
              clear H'
              try clear c2
              try clear p2
              try clear c3
              try clear c4
              try clear c5
              try clear c21
              try clear c30
              try clear c31
              try clear c31b0
              try clear c31b1
              try clear c33
              try clear c34
              try clear c42
              try clear c43
              try clear c45
              try clear c45b0
              try clear c45b1
              try clear c46
              try clear c47
              try clear c51
              try clear c51b0
              try clear c53
              try clear c54
              try clear c57
              try clear c58
              try clear c59
              try clear hcz48_0
              try clear hcz48_1
              try clear hcz48_2
              try clear hcz55_0
              try clear hcz55_1
              try clear hcz55_2
              try clear hcz60_0
              try clear hcz60_1
              try clear hcz60_2
              try clear hfz48_0
              try clear hfz48_1
              try clear hfz48_2
              try clear hfz55_0
              try clear hfz55_1
              try clear hfz55_2
              try clear hfz60_0
              try clear hfz60_1
              try clear hfz60_2
              try clear p2
              obtain ⟨x9_4, x11_4, x07_4, x08_4, x09_4, u07, u08, u09, rfl, HA, HK4, HO_9, HO_00, HO_01, HO_02, HO_05, HO_06, HO_07, HO_08, HO_09, BK445, BK451, BK457, BK461, HB⟩ := hrel
              cases gk with
              | zero => exact absurd HA.out (by simp [laws_FnBest.l1])
              | succ k4 =>
               have H := HA.out
               clear HA
               simp only [laws_FnBest.l1] at H
               have HC61 := K_ H
               clear H
               go_upto_region 18 with (fail)
               go_cut [79] (fun v79 wc => ∃ (kq : Nat) (x79_60 : Bool), v79 = .bool x79_60 ∧ Aside0 (laws_FnBest.j4 kq l1 x8_3 x9_4 x11_4 x79_60 t436 t439 t442 true t447 t448 x07_4 x08_4 x09_4 = some r) ∧ Aside0 (kq ≤ k4) ∧ Aside0 (Kd.R (Kd.int .i64) 3 wc w.heap.size (fun k_ => some k_ ≠ ((.slice Ao12 t436.length co12) : Value).ownBlock ∧ some k_ ≠ ((.slice Ao15 t442.length co15) : Value).ownBlock ∧ some k_ ≠ ((.slice Ao20 t448.length co20) : Value).ownBlock ∧ some k_ ≠ ((.slice Ao27 t454.length co27) : Value).ownBlock ∧ X_ k_ u07 ∧ X_ k_ u09) u9 x9_4) ∧ Aside0 (Kd.R (Kd.int .i64) 3 wc w.heap.size (fun k_ => X_ k_ u9 ∧ some k_ ≠ ((.slice Ao15 t442.length co15) : Value).ownBlock ∧ some k_ ≠ ((.slice Ao20 t448.length co20) : Value).ownBlock ∧ some k_ ≠ ((.slice Ao27 t454.length co27) : Value).ownBlock ∧ X_ k_ u09) (.slice Ao12 t436.length co12) t436) ∧ Aside0 (Kd.N k35 35 wc w.heap.size (fun k_ => X_ k_ u9 ∧ some k_ ≠ ((.slice Ao12 t436.length co12) : Value).ownBlock ∧ some k_ ≠ ((.slice Ao15 t442.length co15) : Value).ownBlock ∧ some k_ ≠ ((.slice Ao20 t448.length co20) : Value).ownBlock ∧ some k_ ≠ ((.slice Ao27 t454.length co27) : Value).ownBlock ∧ X_ k_ u07 ∧ X_ k_ u09 ∧ k_ ≠ gb445 ∧ k_ ≠ gb451 ∧ k_ ≠ gb457 ∧ k_ ≠ gb461) (.slice Ao14 t439.length co14) t439) ∧ Aside0 (Kd.R (Kd.int .i64) 3 wc w.heap.size (fun k_ => X_ k_ u9 ∧ some k_ ≠ ((.slice Ao12 t436.length co12) : Value).ownBlock ∧ some k_ ≠ ((.slice Ao20 t448.length co20) : Value).ownBlock ∧ some k_ ≠ ((.slice Ao27 t454.length co27) : Value).ownBlock ∧ X_ k_ u07) (.slice Ao15 t442.length co15) t442) ∧ Aside0 (Kd.R (Kd.int .i64) 3 wc w.heap.size (fun k_ => X_ k_ u9 ∧ some k_ ≠ ((.slice Ao12 t436.length co12) : Value).ownBlock ∧ some k_ ≠ ((.slice Ao15 t442.length co15) : Value).ownBlock ∧ some k_ ≠ ((.slice Ao27 t454.length co27) : Value).ownBlock ∧ X_ k_ u07 ∧ X_ k_ u09) (.slice Ao20 t448.length co20) t448) ∧ Aside0 (Kd.R (Kd.int .i64) 3 wc w.heap.size (fun k_ => X_ k_ u9 ∧ some k_ ≠ ((.slice Ao12 t436.length co12) : Value).ownBlock ∧ some k_ ≠ ((.slice Ao15 t442.length co15) : Value).ownBlock ∧ some k_ ≠ ((.slice Ao20 t448.length co20) : Value).ownBlock ∧ X_ k_ u07 ∧ X_ k_ u09) (.slice Ao27 t454.length co27) t454) ∧ Aside0 (Kd.R (Kd.int .i64) 3 wc w.heap.size (fun k_ => X_ k_ u9 ∧ some k_ ≠ ((.slice Ao15 t442.length co15) : Value).ownBlock ∧ some k_ ≠ ((.slice Ao20 t448.length co20) : Value).ownBlock ∧ some k_ ≠ ((.slice Ao27 t454.length co27) : Value).ownBlock ∧ X_ k_ u09) u07 x07_4) ∧ Aside0 (Kd.N k35 35 wc w.heap.size (fun k_ => X_ k_ u9 ∧ some k_ ≠ ((.slice Ao12 t436.length co12) : Value).ownBlock ∧ some k_ ≠ ((.slice Ao15 t442.length co15) : Value).ownBlock ∧ some k_ ≠ ((.slice Ao20 t448.length co20) : Value).ownBlock ∧ some k_ ≠ ((.slice Ao27 t454.length co27) : Value).ownBlock ∧ X_ k_ u07 ∧ X_ k_ u09 ∧ k_ ≠ gb445 ∧ k_ ≠ gb451 ∧ k_ ≠ gb457 ∧ k_ ≠ gb461) u08 x08_4) ∧ Aside0 (Kd.R (Kd.int .i64) 3 wc w.heap.size (fun k_ => X_ k_ u9 ∧ some k_ ≠ ((.slice Ao12 t436.length co12) : Value).ownBlock ∧ some k_ ≠ ((.slice Ao20 t448.length co20) : Value).ownBlock ∧ some k_ ≠ ((.slice Ao27 t454.length co27) : Value).ownBlock ∧ X_ k_ u07) u09 x09_4) ∧ Aside0 (wc.heap[gb445]? = some (.cells #[(.slice Ao12 t436.length co12), (.slice Ao14 t439.length co14), (.slice Ao15 t442.length co15)] 26 (0, 0))) ∧ Aside0 (wc.heap[gb451]? = some (.cells #[.bool true, .int .i64 t447, (.slice Ao20 t448.length co20)] 41 (0, 0))) ∧ Aside0 (wc.heap[gb457]? = some (.cells #[.bool t452, .int .i64 t453, (.slice Ao27 t454.length co27)] 41 (0, 0))) ∧ Aside0 (wc.heap[gb461]? = some (.cells #[u07, u08, u09] 26 (0, 0))) ∧ Aside0 (Below w.heap.size w wc))
               case first =>
                have H := HC61.out
                clear HC61
                by_cases c62 : x11_4 < 60
                ·rw [if_pos c62] at H
                 have c62b0 := decide_eq_true c62
                 clear c62
                 (first | rw [c62b0] | (simp only [i64_w, i32_w]; rw [c62b0]) | skip)
                 have H' := K_ H
                 clear H
                 have hnb63 := NB461_445.out
                 have hnc63 := NB445_461.out
                 have hnb64 := NB461_451.out
                 have hnc64 := NB451_461.out
                 have hnb65 := NB461_457.out
                 have hnc65 := NB457_461.out
                 obtain ⟨hcz66_0, hcz66_1, hcz66_2, hfz66_0, hfz66_1, hfz66_2⟩ := blkf3_ BK461.out
                 obtain ⟨Ao67, co67, eo67⟩ := Kd.N_slice HO_08.out
                 subst eo67
                 go_wp2
                 go_meet
                 case rel => exact ⟨_, (decide ((x08_4.length : Int) > 0)), (by first | rfl | (simp; done) | (simp [*]; done)), H', ⟨by have := HJ2.out; have := HJ8.out; have := HK3.out; have := HK4.out; first | omega | exact Nat.le_refl _⟩, ⟨HO_9.out⟩, ⟨HO_00.out⟩, ⟨HO_01.out⟩, ⟨HO_02.out⟩, ⟨HO_05.out⟩, ⟨HO_06.out⟩, ⟨HO_07.out⟩, ⟨HO_08.out⟩, ⟨HO_09.out⟩, ⟨BK445.out⟩, ⟨BK451.out⟩, ⟨BK457.out⟩, ⟨BK461.out⟩, ⟨HB.out⟩⟩
                ·rw [if_neg c62] at H
                 have c62b0 := decide_eq_false c62
                 clear c62
                 (first | rw [c62b0] | (simp only [i64_w, i32_w]; rw [c62b0]) | skip)
                 have H' := K_ H
                 clear H
                 go_wp2
                 go_meet
                 case rel => exact ⟨_, (false), rfl, H', ⟨by have := HJ2.out; have := HJ8.out; have := HK3.out; have := HK4.out; first | omega | exact Nat.le_refl _⟩, ⟨HO_9.out⟩, ⟨HO_00.out⟩, ⟨HO_01.out⟩, ⟨HO_02.out⟩, ⟨HO_05.out⟩, ⟨HO_06.out⟩, ⟨HO_07.out⟩, ⟨HO_08.out⟩, ⟨HO_09.out⟩, ⟨BK445.out⟩, ⟨BK451.out⟩, ⟨BK457.out⟩, ⟨BK461.out⟩, ⟨HB.out⟩⟩
               case rest =>
                clear HC61
                try clear c2
                try clear p2
                try clear c3
                try clear c4
                try clear c5
                try clear c6
                try clear c21
                try clear c30
                try clear c31
                try clear c31b0
                try clear c31b1
                try clear c33
                try clear c34
                try clear c42
                try clear c43
                try clear c45
                try clear c45b0
                try clear c45b1
                try clear c46
                try clear c47
                try clear c51
                try clear c51b0
                try clear c53
                try clear c54
                try clear c57
                try clear c58
                try clear c59
                try clear c62
                try clear c62b0
                try clear c63
                try clear c64
                try clear c65
                try clear hcz48_0
                try clear hcz48_1
                try clear hcz48_2
                try clear hcz55_0
                try clear hcz55_1
                try clear hcz55_2
                try clear hcz60_0
                try clear hcz60_1
                try clear hcz60_2
                try clear hcz66_0
                try clear hcz66_1
                try clear hcz66_2
                try clear hfz48_0
                try clear hfz48_1
                try clear hfz48_2
                try clear hfz55_0
                try clear hfz55_1
                try clear hfz55_2
                try clear hfz60_0
                try clear hfz60_1
                try clear hfz60_2
                try clear hfz66_0
                try clear hfz66_1
                try clear hfz66_2
                try clear p2
                obtain ⟨kq, x79_60, rfl, HA, HJ60, HO_9, HO_00, HO_01, HO_02, HO_05, HO_06, HO_07, HO_08, HO_09, BK445, BK451, BK457, BK461, HB⟩ := hcut
                cases kq with
                | zero => exact absurd HA.out (by simp [laws_FnBest.j4])
                | succ kj60 =>
                 have H := HA.out
                 clear HA
                 simp only [laws_FnBest.j4] at H
                 by_cases c68 : x79_60 = true
                 ·subst c68
                  rw [if_pos rfl] at H
                  replace H := Option.bind_eq_some_iff.mp H
                  obtain ⟨t462, A690, H⟩ := H
                  replace H : (if (t462.length : Int) = 0 then (laws_FnBest.j5 kj60 l1 x8_3 x9_4 t436 t439 t442 true t447 t448 x07_4 x08_4 x09_4) else ((laws_wByte.f l1 (wrap64 (x11_4 + (wrap64 (11 * x8_3))))).bind fun t465 => (if 0 ≤ (Int.tmod t465 (t462.length : Int)) then (if (Int.tmod t465 (t462.length : Int)) < (t462.length : Int) then (if x9_4.length < 17592186044416 then ((spec_Step.f kj60 x07_4 x08_4 x09_4 (rd t462 (Int.tmod t465 (t462.length : Int)))).bind fun bt470 => (laws_FnBest.l1 kj60 l1 x8_3 (x9_4 ++ [rd t462 (Int.tmod t465 (t462.length : Int))]) (wrap64 (x11_4 + 1)) t436 t439 t442 true t447 t448 bt470.1 bt470.2.1 bt470.2.2)) else (none)) else (none)) else (none)))) = some r := H
                  have A69 := K_ A690
                  clear A690
                  by_cases c70 : (t462.length : Int) = 0
                  ·rw [if_pos c70] at H
                   have c70b0 := beq_iff_eq.mpr c70
                   have c70b1 := bne_eq_false_iff_eq.mpr c70
                   clear c70
                   have H' := K_ H
                   clear H
                   have hnb71 := NB461_445.out
                   have hnc71 := NB445_461.out
                   have hnb72 := NB461_451.out
                   have hnc72 := NB451_461.out
                   have hnb73 := NB461_457.out
                   have hnc73 := NB457_461.out
                   obtain ⟨hcz74_0, hcz74_1, hcz74_2, hfz74_0, hfz74_1, hfz74_2⟩ := blkf3_ BK461.out
                   obtain ⟨Ao75, co75, eo75⟩ := Kd.R_slice HO_07.out
                   subst eo75
                   obtain ⟨Ao76, co76, eo76⟩ := Kd.N_slice HO_08.out
                   subst eo76
                   obtain ⟨Ao77, co77, eo77⟩ := Kd.R_slice HO_09.out
                   subst eo77
                   go_wp2_with (first | ((with_reducible refine gate_callee (f := 22) rfl ?_); refine goesL_ (some 83) rfl rfl Try.func22 (by kernel_rfl) rfl #[.agg #[.slice Ao75 x07_4.length co75, .slice Ao76 x08_4.length co76, .slice Ao77 x09_4.length co77]] rfl (by simp only [List.map_toArray, List.map_cons, List.map_nil]; try rfl) ?_; (with_reducible refine (spec_Moves.calls kj60 _ _ x07_4 _ _ x08_4 _ _ x09_4 t462 _ ?side1 ?side2 ?side3 ?side4 ?side5 ?side6 A69.out).mono ?_); (case side1 => exact (Kd.R_reads' HO_07.out).2.2); (case side2 => exact (Kd.R_reads' HO_07.out).2.1); (case side3 => exact (Kd.N_reads' HO_08.out).2.2); (case side4 => exact (Kd.N_reads' HO_08.out).2.1); (case side5 => exact (Kd.R_reads' HO_09.out).2.2); (case side6 => exact (Kd.R_reads' HO_09.out).2.1); rintro e w78 ⟨v463, rfl, ho0, hb⟩; refine ⟨_, rfl, ?_⟩; have HO464 := K_ (Kd.R_lower (Kd.R_new' (Kd.R_new' (Kd.R_new' (Kd.R_new' (Kd.R_new' (Kd.R_new' (Kd.R_new' ho0 (Kd.R_lt HO_9.out)) (Kd.R_lt HO_00.out)) (Kd.R_lt HO_02.out)) (Kd.R_lt HO_05.out)) (Kd.R_lt HO_06.out)) (Kd.R_lt HO_07.out)) (Kd.R_lt HO_09.out)) (below_size HB.out)); replace HO_9 := K_ (Kd.R_elder' HO_9.out (Kd.R_base ho0) hb); replace HO_00 := K_ (Kd.R_elder' HO_00.out (Kd.R_base ho0) hb); replace HO_01 := K_ (Kd.N_elder' HO_01.out (Kd.R_base ho0) hb); replace HO_02 := K_ (Kd.R_elder' HO_02.out (Kd.R_base ho0) hb); replace HO_05 := K_ (Kd.R_elder' HO_05.out (Kd.R_base ho0) hb); replace HO_06 := K_ (Kd.R_elder' HO_06.out (Kd.R_base ho0) hb); replace HO_07 := K_ (Kd.R_elder' HO_07.out (Kd.R_base ho0) hb); replace HO_08 := K_ (Kd.N_elder' HO_08.out (Kd.R_base ho0) hb); replace HO_09 := K_ (Kd.R_elder' HO_09.out (Kd.R_base ho0) hb); replace BK445 := K_ (blk_below BK445.out hb); replace BK451 := K_ (blk_below BK451.out hb); replace BK457 := K_ (blk_below BK457.out hb); replace BK461 := K_ (blk_below BK461.out hb); replace HB := K_ (below_step HB.out hb); (try clear hb); (try clear hb2); (try clear hk); (try clear hi); (try clear ho0); obtain ⟨Ao79, co79, eo79⟩ := Kd.R_slice HO464.out; subst eo79))
                   go_meet
                   case rel => exact ⟨_, (x9_4), (x07_4), (x08_4), (x09_4), (.slice Ao75 x07_4.length co75), (.slice Ao76 x08_4.length co76), (.slice Ao77 x09_4.length co77), H', ⟨by have := HJ2.out; have := HJ8.out; have := HK3.out; have := HK4.out; have := HJ60.out; first | omega | exact Nat.le_refl _⟩, ⟨by exact Kd.R_mono HO_9.out (fun _ hk => by first | exact ⟨hk.1.1, ⟨hk.1.2.1, ⟨hk.1.2.2.1, ⟨hk.1.2.2.2.1, ⟨hk.1.2.2.2.2.1, hk.1.2.2.2.2.2⟩⟩⟩⟩⟩ | simp only [hk, ne_eq, not_false_eq_true, and_self])⟩, ⟨by exact Kd.R_mono HO_00.out (fun _ hk => by first | exact ⟨hk.1.1, ⟨hk.1.2.1, ⟨hk.1.2.2.1, ⟨hk.1.2.2.2.1, hk.1.2.2.2.2⟩⟩⟩⟩ | simp only [hk, ne_eq, not_false_eq_true, and_self])⟩, ⟨by exact Kd.N_mono HO_01.out (fun _ hk => by first | exact ⟨hk.1.1, ⟨hk.1.2.1, ⟨hk.1.2.2.1, ⟨hk.1.2.2.2.1, ⟨hk.1.2.2.2.2.1, ⟨hk.1.2.2.2.2.2.1, ⟨hk.1.2.2.2.2.2.2.1, ⟨hk.1.2.2.2.2.2.2.2.1, ⟨hk.1.2.2.2.2.2.2.2.2.1, ⟨hk.1.2.2.2.2.2.2.2.2.2.1, hk.1.2.2.2.2.2.2.2.2.2.2⟩⟩⟩⟩⟩⟩⟩⟩⟩⟩ | simp only [hk, ne_eq, not_false_eq_true, and_self])⟩, ⟨by exact Kd.R_mono HO_02.out (fun _ hk => by first | exact ⟨hk.1.1, ⟨hk.1.2.1, ⟨hk.1.2.2.1, ⟨hk.1.2.2.2.1, hk.1.2.2.2.2⟩⟩⟩⟩ | simp only [hk, ne_eq, not_false_eq_true, and_self])⟩, ⟨by exact Kd.R_mono HO_05.out (fun _ hk => by first | exact ⟨hk.1.1, ⟨hk.1.2.1, ⟨hk.1.2.2.1, ⟨hk.1.2.2.2.1, ⟨hk.1.2.2.2.2.1, hk.1.2.2.2.2.2⟩⟩⟩⟩⟩ | simp only [hk, ne_eq, not_false_eq_true, and_self])⟩, ⟨by exact Kd.R_mono HO_06.out (fun _ hk => by first | exact ⟨hk.1.1, ⟨hk.1.2.1, ⟨hk.1.2.2.1, ⟨hk.1.2.2.2.1, ⟨hk.1.2.2.2.2.1, hk.1.2.2.2.2.2⟩⟩⟩⟩⟩ | simp only [hk, ne_eq, not_false_eq_true, and_self])⟩, ⟨by exact Kd.R_mono HO_07.out (fun _ hk => by first | exact ⟨hk.1.1, ⟨hk.1.2.1, ⟨hk.1.2.2.1, ⟨hk.1.2.2.2.1, hk.1.2.2.2.2⟩⟩⟩⟩ | simp only [hk, ne_eq, not_false_eq_true, and_self])⟩, ⟨by exact Kd.N_mono HO_08.out (fun _ hk => by first | exact ⟨hk.1.1, ⟨hk.1.2.1, ⟨hk.1.2.2.1, ⟨hk.1.2.2.2.1, ⟨hk.1.2.2.2.2.1, ⟨hk.1.2.2.2.2.2.1, ⟨hk.1.2.2.2.2.2.2.1, ⟨hk.1.2.2.2.2.2.2.2.1, ⟨hk.1.2.2.2.2.2.2.2.2.1, ⟨hk.1.2.2.2.2.2.2.2.2.2.1, hk.1.2.2.2.2.2.2.2.2.2.2⟩⟩⟩⟩⟩⟩⟩⟩⟩⟩ | simp only [hk, ne_eq, not_false_eq_true, and_self])⟩, ⟨by exact Kd.R_mono HO_09.out (fun _ hk => by first | exact ⟨hk.1.1, ⟨hk.1.2.1, ⟨hk.1.2.2.1, ⟨hk.1.2.2.2.1, hk.1.2.2.2.2⟩⟩⟩⟩ | simp only [hk, ne_eq, not_false_eq_true, and_self])⟩, ⟨BK445.out⟩, ⟨BK451.out⟩, ⟨BK457.out⟩, ⟨BK461.out⟩, ⟨HB.out⟩⟩
                  ·rw [if_neg c70] at H
                   have c70b0 := beq_eq_false_iff_ne.mpr c70
                   have c70b1 := bne_iff_ne.mpr c70
                   have c70b2 : ¬ (t462 = []) := fun h_ => c70 (by rw [h_]; rfl)
                   replace H := Option.bind_eq_some_iff.mp H
                   obtain ⟨t465, A800, H⟩ := H
                   replace H : (if 0 ≤ (Int.tmod t465 (t462.length : Int)) then (if (Int.tmod t465 (t462.length : Int)) < (t462.length : Int) then (if x9_4.length < 17592186044416 then ((spec_Step.f kj60 x07_4 x08_4 x09_4 (rd t462 (Int.tmod t465 (t462.length : Int)))).bind fun bt470 => (laws_FnBest.l1 kj60 l1 x8_3 (x9_4 ++ [rd t462 (Int.tmod t465 (t462.length : Int))]) (wrap64 (x11_4 + 1)) t436 t439 t442 true t447 t448 bt470.1 bt470.2.1 bt470.2.2)) else (none)) else (none)) else (none)) = some r := H
                   have A80 := K_ A800
                   clear A800
                   obtain ⟨ji81, hji81⟩ : ∃ j_ : Int, (Int.tmod t465 (t462.length : Int)) = j_ := ⟨_, rfl⟩
                   replace H : (if 0 ≤ (ji81) then (if (ji81) < (t462.length : Int) then (if x9_4.length < 17592186044416 then ((spec_Step.f kj60 x07_4 x08_4 x09_4 (rd t462 (ji81))).bind fun bt470 => (laws_FnBest.l1 kj60 l1 x8_3 (x9_4 ++ [rd t462 (ji81)]) (wrap64 (x11_4 + 1)) t436 t439 t442 true t447 t448 bt470.1 bt470.2.1 bt470.2.2)) else (none)) else (none)) else (none)) = some r := by first | (rw [hji81] at H; exact H) | (simp only [hji81] at H ⊢; exact H)
                   (try rw [hji81] at A69)
                   (try rw [hji81] at A80)
                   by_cases c82 : 0 ≤ (ji81)
                   ·rw [if_pos c82] at H
                    have c82b0 := decide_eq_true c82
                    clear c82
                    by_cases c83 : (ji81) < (t462.length : Int)
                    ·rw [if_pos c83] at H
                     have c83b0 := decide_eq_true c83
                     clear c83
                     by_cases c84 : x9_4.length < 17592186044416
                     ·rw [if_pos c84] at H
                      have LMc84 := K_ c84
                      clear c84
                      obtain ⟨y467, hy467⟩ : ∃ y_ : List Int, y_ = (x9_4 ++ [rd t462 (ji81)]) := ⟨_, rfl⟩
                      rw [← hy467] at H
                      have Ny467 := K_ hy467
                      clear hy467
                      replace H := Option.bind_eq_some_iff.mp H
                      obtain ⟨⟨t470, t473, t476⟩, A850, H⟩ := H
                      replace H : (laws_FnBest.l1 kj60 l1 x8_3 y467 (wrap64 (x11_4 + 1)) t436 t439 t442 true t447 t448 t470 t473 t476) = some r := H
                      have A85 := K_ A850
                      clear A850
                      have H' := K_ H
                      clear H
                      have hnb86 := NB461_445.out
                      have hnc86 := NB445_461.out
                      have hnb87 := NB461_451.out
                      have hnc87 := NB451_461.out
                      have hnb88 := NB461_457.out
                      have hnc88 := NB457_461.out
                      obtain ⟨hcz89_0, hcz89_1, hcz89_2, hfz89_0, hfz89_1, hfz89_2⟩ := blkf3_ BK461.out
                      obtain ⟨Ao90, co90, eo90⟩ := Kd.R_slice HO_07.out
                      subst eo90
                      obtain ⟨Ao91, co91, eo91⟩ := Kd.N_slice HO_08.out
                      subst eo91
                      obtain ⟨Ao92, co92, eo92⟩ := Kd.R_slice HO_09.out
                      subst eo92
                      go_wp2_with (first | ((with_reducible refine gate_callee (f := 22) rfl ?_); refine goesL_ (some 83) rfl rfl Try.func22 (by kernel_rfl) rfl #[.agg #[.slice Ao90 x07_4.length co90, .slice Ao91 x08_4.length co91, .slice Ao92 x09_4.length co92]] rfl (by (try simp only [List.map_toArray, List.map_cons, List.map_nil]); first | done | rfl | (simp only [List.length_drop, List.length_take]; rfl)) ?_; (with_reducible refine (spec_Moves.calls kj60 _ _ x07_4 _ _ x08_4 _ _ x09_4 t462 _ ?side1 ?side2 ?side3 ?side4 ?side5 ?side6 A69.out).mono ?_); (case side1 => repeat (first | exact (Kd.R_reads' HO_07.out).2.2 | (with_reducible refine Kd.C_alloc ?_ _) | (with_reducible refine Kd.C_drewN ?_ _) | (with_reducible refine Kd.C_drew ?_))); (case side2 => exact (Kd.R_reads' HO_07.out).2.1); (case side3 => repeat (first | exact (Kd.N_reads' HO_08.out).2.2 | (with_reducible refine Kd.C_alloc ?_ _) | (with_reducible refine Kd.C_drewN ?_ _) | (with_reducible refine Kd.C_drew ?_))); (case side4 => exact (Kd.N_reads' HO_08.out).2.1); (case side5 => repeat (first | exact (Kd.R_reads' HO_09.out).2.2 | (with_reducible refine Kd.C_alloc ?_ _) | (with_reducible refine Kd.C_drewN ?_ _) | (with_reducible refine Kd.C_drew ?_))); (case side6 => exact (Kd.R_reads' HO_09.out).2.1); rintro e w93 ⟨v463, rfl, ho0, hb⟩; refine ⟨_, rfl, ?_⟩; have n0_ := K_ (Kd.R_elder' HO_9.out (Kd.R_base ho0) hb); have n1_ := K_ (Kd.R_elder' HO_00.out (Kd.R_base ho0) hb); have n2_ := K_ (Kd.N_elder' HO_01.out (Kd.R_base ho0) hb); have n3_ := K_ (Kd.R_elder' HO_02.out (Kd.R_base ho0) hb); have n4_ := K_ (Kd.R_elder' HO_05.out (Kd.R_base ho0) hb); have n5_ := K_ (Kd.R_elder' HO_06.out (Kd.R_base ho0) hb); have n6_ := K_ (Kd.R_elder' HO_07.out (Kd.R_base ho0) hb); have n7_ := K_ (Kd.N_elder' HO_08.out (Kd.R_base ho0) hb); have n8_ := K_ (Kd.R_elder' HO_09.out (Kd.R_base ho0) hb); have n9_ := K_ (Kd.R_lower (Kd.R_new' (Kd.R_new' (Kd.R_new' (Kd.R_new' (Kd.R_new' (Kd.R_new' (Kd.R_new' ho0 (Kd.R_lt HO_9.out)) (Kd.R_lt HO_00.out)) (Kd.R_lt HO_02.out)) (Kd.R_lt HO_05.out)) (Kd.R_lt HO_06.out)) (Kd.R_lt HO_07.out)) (Kd.R_lt HO_09.out)) (below_size HB.out)); have n10_ := K_ (blk_below BK445.out hb); have n11_ := K_ (blk_below BK451.out hb); have n12_ := K_ (blk_below BK457.out hb); have n13_ := K_ (blk_below BK461.out hb); have n14_ := K_ (below_step HB.out hb); clear HO_9; clear HO_00; clear HO_01; clear HO_02; clear HO_05; clear HO_06; clear HO_07; clear HO_08; clear HO_09; clear BK445; clear BK451; clear BK457; clear BK461; clear HB; have HO_9 := n0_; have HO_00 := n1_; have HO_01 := n2_; have HO_02 := n3_; have HO_05 := n4_; have HO_06 := n5_; have HO_07 := n6_; have HO_08 := n7_; have HO_09 := n8_; have HO464 := n9_; have BK445 := n10_; have BK451 := n11_; have BK457 := n12_; have BK461 := n13_; have HB := n14_; clear n0_ n1_ n2_ n3_ n4_ n5_ n6_ n7_ n8_ n9_ n10_ n11_ n12_ n13_ n14_; (try clear hb); (try clear hb2); (try clear hk); (try clear hi); (try clear ho0); obtain ⟨Ao94, co94, eo94⟩ := Kd.R_slice HO464.out; subst eo94) | ((with_reducible refine gate_callee (f := 25) rfl ?_); refine goesL_ (some 93) rfl rfl Try.func25 (by kernel_rfl) rfl #[.slice A1 l1.length c1, .int .i64 (wrap64 (x11_4 + (wrap64 (11 * x8_3))))] rfl (by (try simp only [List.map_toArray, List.map_cons, List.map_nil]); first | done | rfl | (simp only [List.length_drop, List.length_take]; rfl)) ?_; (with_reducible refine (laws_wByte.calls _ _ l1 (wrap64 (x11_4 + (wrap64 (11 * x8_3)))) t465 _ ?side1 ?side2 A80.out).mono ?_); (case side1 => repeat (first | exact (Kd.C_below HR1.out HB.out) | (with_reducible refine Kd.C_alloc ?_ _) | (with_reducible refine Kd.C_drewN ?_ _) | (with_reducible refine Kd.C_drew ?_))); (case side2 => exact HC1.out); rintro e w' ⟨rfl, ⟨nd, rfl⟩⟩; refine ⟨_, rfl, ?_⟩; (try (rw [drewN_self w93]; generalize hq_ : World.drewN w93 _ = w93; have n0_ : Aside0 (Kd.R (Kd.int .i64) 3 w93 w.heap.size (fun k_ => X_ k_ (.slice Ao12 t436.length co12) ∧ X_ k_ (.slice Ao15 t442.length co15) ∧ X_ k_ (.slice Ao20 t448.length co20) ∧ X_ k_ (.slice Ao27 t454.length co27) ∧ X_ k_ (.slice Ao90 x07_4.length co90) ∧ X_ k_ (.slice Ao92 x09_4.length co92) ∧ X_ k_ u9) (.slice Ao94 t462.length co94) t462) := ⟨by rw [← hq_]; exact (by (with_reducible repeat (first | apply Kd.R_alloc | apply Kd.R_drewN | apply Kd.R_drew)); exact Kd.R_mono HO464.out (fun _ hk => by first | exact ⟨hk.1.1.1.1.1.2, ⟨hk.1.1.1.1.2, ⟨hk.1.1.1.2, ⟨hk.1.1.2, ⟨hk.1.2, ⟨hk.2, hk.1.1.1.1.1.1.2⟩⟩⟩⟩⟩⟩ | simp only [hk, ne_eq, not_false_eq_true, and_self]))⟩; have n1_ : Aside0 (Kd.R (Kd.int .i64) 3 w93 w.heap.size (fun k_ => X_ k_ (.slice Ao94 t462.length co94) ∧ X_ k_ (.slice Ao15 t442.length co15) ∧ X_ k_ (.slice Ao20 t448.length co20) ∧ X_ k_ (.slice Ao27 t454.length co27) ∧ X_ k_ (.slice Ao92 x09_4.length co92) ∧ X_ k_ u9) (.slice Ao12 t436.length co12) t436) := ⟨by rw [← hq_]; exact (by (with_reducible repeat (first | apply Kd.R_alloc | apply Kd.R_drewN | apply Kd.R_drew)); exact Kd.R_mono HO_00.out (fun _ hk => by first | exact ⟨hk.2, ⟨hk.1.2.1, ⟨hk.1.2.2.1, ⟨hk.1.2.2.2.1, ⟨hk.1.2.2.2.2, hk.1.1⟩⟩⟩⟩⟩ | simp only [hk, ne_eq, not_false_eq_true, and_self]))⟩; have n2_ : Aside0 (Kd.N k35 35 w93 w.heap.size (fun k_ => X_ k_ (.slice Ao94 t462.length co94) ∧ X_ k_ (.slice Ao12 t436.length co12) ∧ X_ k_ (.slice Ao15 t442.length co15) ∧ X_ k_ (.slice Ao20 t448.length co20) ∧ X_ k_ (.slice Ao27 t454.length co27) ∧ X_ k_ (.slice Ao90 x07_4.length co90) ∧ X_ k_ (.slice Ao92 x09_4.length co92) ∧ X_ k_ u9 ∧ k_ ≠ gb445 ∧ k_ ≠ gb451 ∧ k_ ≠ gb457 ∧ k_ ≠ gb461) (.slice Ao14 t439.length co14) t439) := ⟨by rw [← hq_]; exact (by (with_reducible repeat (first | apply Kd.N_alloc | apply Kd.N_drewN | apply Kd.N_drew)); exact Kd.N_mono HO_01.out (fun _ hk => by first | exact ⟨hk.2, ⟨hk.1.2.1, ⟨hk.1.2.2.1, ⟨hk.1.2.2.2.1, ⟨hk.1.2.2.2.2.1, ⟨hk.1.2.2.2.2.2.1, ⟨hk.1.2.2.2.2.2.2.1, ⟨hk.1.1, ⟨hk.1.2.2.2.2.2.2.2.1, ⟨hk.1.2.2.2.2.2.2.2.2.1, ⟨hk.1.2.2.2.2.2.2.2.2.2.1, hk.1.2.2.2.2.2.2.2.2.2.2⟩⟩⟩⟩⟩⟩⟩⟩⟩⟩⟩ | simp only [hk, ne_eq, not_false_eq_true, and_self]))⟩; have n3_ : Aside0 (Kd.R (Kd.int .i64) 3 w93 w.heap.size (fun k_ => X_ k_ (.slice Ao94 t462.length co94) ∧ X_ k_ (.slice Ao12 t436.length co12) ∧ X_ k_ (.slice Ao20 t448.length co20) ∧ X_ k_ (.slice Ao27 t454.length co27) ∧ X_ k_ (.slice Ao90 x07_4.length co90) ∧ X_ k_ u9) (.slice Ao15 t442.length co15) t442) := ⟨by rw [← hq_]; exact (by (with_reducible repeat (first | apply Kd.R_alloc | apply Kd.R_drewN | apply Kd.R_drew)); exact Kd.R_mono HO_02.out (fun _ hk => by first | exact ⟨hk.2, ⟨hk.1.2.1, ⟨hk.1.2.2.1, ⟨hk.1.2.2.2.1, ⟨hk.1.2.2.2.2, hk.1.1⟩⟩⟩⟩⟩ | simp only [hk, ne_eq, not_false_eq_true, and_self]))⟩; have n4_ : Aside0 (Kd.R (Kd.int .i64) 3 w93 w.heap.size (fun k_ => X_ k_ (.slice Ao94 t462.length co94) ∧ X_ k_ (.slice Ao12 t436.length co12) ∧ X_ k_ (.slice Ao15 t442.length co15) ∧ X_ k_ (.slice Ao27 t454.length co27) ∧ X_ k_ (.slice Ao90 x07_4.length co90) ∧ X_ k_ (.slice Ao92 x09_4.length co92) ∧ X_ k_ u9) (.slice Ao20 t448.length co20) t448) := ⟨by rw [← hq_]; exact (by (with_reducible repeat (first | apply Kd.R_alloc | apply Kd.R_drewN | apply Kd.R_drew)); exact Kd.R_mono HO_05.out (fun _ hk => by first | exact ⟨hk.2, ⟨hk.1.2.1, ⟨hk.1.2.2.1, ⟨hk.1.2.2.2.1, ⟨hk.1.2.2.2.2.1, ⟨hk.1.2.2.2.2.2, hk.1.1⟩⟩⟩⟩⟩⟩ | simp only [hk, ne_eq, not_false_eq_true, and_self]))⟩; have n5_ : Aside0 (Kd.R (Kd.int .i64) 3 w93 w.heap.size (fun k_ => X_ k_ (.slice Ao94 t462.length co94) ∧ X_ k_ (.slice Ao12 t436.length co12) ∧ X_ k_ (.slice Ao15 t442.length co15) ∧ X_ k_ (.slice Ao20 t448.length co20) ∧ X_ k_ (.slice Ao90 x07_4.length co90) ∧ X_ k_ (.slice Ao92 x09_4.length co92) ∧ X_ k_ u9) (.slice Ao27 t454.length co27) t454) := ⟨by rw [← hq_]; exact (by (with_reducible repeat (first | apply Kd.R_alloc | apply Kd.R_drewN | apply Kd.R_drew)); exact Kd.R_mono HO_06.out (fun _ hk => by first | exact ⟨hk.2, ⟨hk.1.2.1, ⟨hk.1.2.2.1, ⟨hk.1.2.2.2.1, ⟨hk.1.2.2.2.2.1, ⟨hk.1.2.2.2.2.2, hk.1.1⟩⟩⟩⟩⟩⟩ | simp only [hk, ne_eq, not_false_eq_true, and_self]))⟩; have n6_ : Aside0 (Kd.R (Kd.int .i64) 3 w93 w.heap.size (fun k_ => X_ k_ (.slice Ao94 t462.length co94) ∧ X_ k_ (.slice Ao15 t442.length co15) ∧ X_ k_ (.slice Ao20 t448.length co20) ∧ X_ k_ (.slice Ao27 t454.length co27) ∧ X_ k_ (.slice Ao92 x09_4.length co92) ∧ X_ k_ u9) (.slice Ao90 x07_4.length co90) x07_4) := ⟨by rw [← hq_]; exact (by (with_reducible repeat (first | apply Kd.R_alloc | apply Kd.R_drewN | apply Kd.R_drew)); exact Kd.R_mono HO_07.out (fun _ hk => by first | exact ⟨hk.2, ⟨hk.1.2.1, ⟨hk.1.2.2.1, ⟨hk.1.2.2.2.1, ⟨hk.1.2.2.2.2, hk.1.1⟩⟩⟩⟩⟩ | simp only [hk, ne_eq, not_false_eq_true, and_self]))⟩; have n7_ : Aside0 (Kd.N k35 35 w93 w.heap.size (fun k_ => X_ k_ (.slice Ao94 t462.length co94) ∧ X_ k_ (.slice Ao12 t436.length co12) ∧ X_ k_ (.slice Ao15 t442.length co15) ∧ X_ k_ (.slice Ao20 t448.length co20) ∧ X_ k_ (.slice Ao27 t454.length co27) ∧ X_ k_ (.slice Ao90 x07_4.length co90) ∧ X_ k_ (.slice Ao92 x09_4.length co92) ∧ X_ k_ u9 ∧ k_ ≠ gb445 ∧ k_ ≠ gb451 ∧ k_ ≠ gb457 ∧ k_ ≠ gb461) (.slice Ao91 x08_4.length co91) x08_4) := ⟨by rw [← hq_]; exact (by (with_reducible repeat (first | apply Kd.N_alloc | apply Kd.N_drewN | apply Kd.N_drew)); exact Kd.N_mono HO_08.out (fun _ hk => by first | exact ⟨hk.2, ⟨hk.1.2.1, ⟨hk.1.2.2.1, ⟨hk.1.2.2.2.1, ⟨hk.1.2.2.2.2.1, ⟨hk.1.2.2.2.2.2.1, ⟨hk.1.2.2.2.2.2.2.1, ⟨hk.1.1, ⟨hk.1.2.2.2.2.2.2.2.1, ⟨hk.1.2.2.2.2.2.2.2.2.1, ⟨hk.1.2.2.2.2.2.2.2.2.2.1, hk.1.2.2.2.2.2.2.2.2.2.2⟩⟩⟩⟩⟩⟩⟩⟩⟩⟩⟩ | simp only [hk, ne_eq, not_false_eq_true, and_self]))⟩; have n8_ : Aside0 (Kd.R (Kd.int .i64) 3 w93 w.heap.size (fun k_ => X_ k_ (.slice Ao94 t462.length co94) ∧ X_ k_ (.slice Ao12 t436.length co12) ∧ X_ k_ (.slice Ao20 t448.length co20) ∧ X_ k_ (.slice Ao27 t454.length co27) ∧ X_ k_ (.slice Ao90 x07_4.length co90) ∧ X_ k_ u9) (.slice Ao92 x09_4.length co92) x09_4) := ⟨by rw [← hq_]; exact (by (with_reducible repeat (first | apply Kd.R_alloc | apply Kd.R_drewN | apply Kd.R_drew)); exact Kd.R_mono HO_09.out (fun _ hk => by first | exact ⟨hk.2, ⟨hk.1.2.1, ⟨hk.1.2.2.1, ⟨hk.1.2.2.2.1, ⟨hk.1.2.2.2.2, hk.1.1⟩⟩⟩⟩⟩ | simp only [hk, ne_eq, not_false_eq_true, and_self]))⟩; have n9_ : Aside0 (Kd.R (Kd.int .i64) 3 w93 w.heap.size (fun k_ => X_ k_ (.slice Ao94 t462.length co94) ∧ X_ k_ (.slice Ao12 t436.length co12) ∧ X_ k_ (.slice Ao15 t442.length co15) ∧ X_ k_ (.slice Ao20 t448.length co20) ∧ X_ k_ (.slice Ao27 t454.length co27) ∧ X_ k_ (.slice Ao90 x07_4.length co90) ∧ X_ k_ (.slice Ao92 x09_4.length co92)) u9 x9_4) := ⟨by rw [← hq_]; exact (by (with_reducible repeat (first | apply Kd.R_alloc | apply Kd.R_drewN | apply Kd.R_drew)); exact Kd.R_mono HO_9.out (fun _ hk => by first | exact ⟨hk.2, ⟨hk.1.1, ⟨hk.1.2.1, ⟨hk.1.2.2.1, ⟨hk.1.2.2.2.1, ⟨hk.1.2.2.2.2.1, hk.1.2.2.2.2.2⟩⟩⟩⟩⟩⟩ | simp only [hk, ne_eq, not_false_eq_true, and_self]))⟩; have n10_ : Aside0 (w93.heap[gb445]? = some (.cells #[.slice Ao12 t436.length co12, .slice Ao14 t439.length co14, .slice Ao15 t442.length co15] 26 (0, 0))) := ⟨by rw [← hq_]; exact (by (with_reducible repeat (first | refine blk_drewN ?_ _ | refine blk_drew ?_ | refine blk_alloc ?_ _)); exact BK445.out)⟩; have n11_ : Aside0 (w93.heap[gb451]? = some (.cells #[.bool true, .int .i64 t447, .slice Ao20 t448.length co20] 41 (0, 0))) := ⟨by rw [← hq_]; exact (by (with_reducible repeat (first | refine blk_drewN ?_ _ | refine blk_drew ?_ | refine blk_alloc ?_ _)); exact BK451.out)⟩; have n12_ : Aside0 (w93.heap[gb457]? = some (.cells #[.bool t452, .int .i64 t453, .slice Ao27 t454.length co27] 41 (0, 0))) := ⟨by rw [← hq_]; exact (by (with_reducible repeat (first | refine blk_drewN ?_ _ | refine blk_drew ?_ | refine blk_alloc ?_ _)); exact BK457.out)⟩; have n13_ : Aside0 (w93.heap[gb461]? = some (.cells #[.slice Ao90 x07_4.length co90, .slice Ao91 x08_4.length co91, .slice Ao92 x09_4.length co92] 26 (0, 0))) := ⟨by rw [← hq_]; exact (by (with_reducible repeat (first | refine blk_drewN ?_ _ | refine blk_drew ?_ | refine blk_alloc ?_ _)); exact BK461.out)⟩; have n14_ : Aside0 (Below w.heap.size w w93) := ⟨by rw [← hq_]; exact (by repeat (first | (with_reducible first | exact HB.out | apply below_alloc | apply pw_below_drewN | apply below_drew1 | refine below_set ?_ GE445.out | refine below_set ?_ GE451.out | refine below_set ?_ GE457.out | refine below_set ?_ GE461.out) | exact HB.out))⟩; clear HO464 HO_00 HO_01 HO_02 HO_05 HO_06 HO_07 HO_08 HO_09 HO_9 BK445 BK451 BK457 BK461 HB hq_; have HO464 := n0_; have HO_00 := n1_; have HO_01 := n2_; have HO_02 := n3_; have HO_05 := n4_; have HO_06 := n5_; have HO_07 := n6_; have HO_08 := n7_; have HO_09 := n8_; have HO_9 := n9_; have BK445 := n10_; have BK451 := n11_; have BK457 := n12_; have BK461 := n13_; have HB := n14_; clear n0_ n1_ n2_ n3_ n4_ n5_ n6_ n7_ n8_ n9_ n10_ n11_ n12_ n13_ n14_)); have p466 : 0 ≤ ((ji81) : Int) := of_decide_eq_true (by assumption); have q466 : (ji81) < (t462.length : Int) := of_decide_eq_true (by assumption); obtain ⟨ad466, e466, hx466_0⟩ := Kd.at_int (Kd.R_reads' HO464.out).2.2 (ji81) p466 q466; cases e466; replace p466 := eq_true p466; replace q466 := eq_true q466) | ((with_reducible refine gate_builtin (b := .append) (xs := #[.tmp 99, .tmp 101]) rfl ?_); at_builtin; refine Kd.R_append (Kd.int .i64) (w0 := w) w.heap.size rfl (.tmp 99) (.tmp 101) 23 3 (.int .i64 0) 8 rfl Try.underlying23 info3 rfl (by decide) (by omega) u9 x9_4 (rd t462 (ji81)) [.int .i64 (rd t462 (ji81))] (fun k_ => X_ k_ (.slice Ao12 t436.length co12) ∧ X_ k_ (.slice Ao15 t442.length co15) ∧ X_ k_ (.slice Ao20 t448.length co20) ∧ X_ k_ (.slice Ao27 t454.length co27) ∧ X_ k_ (.slice Ao90 x07_4.length co90) ∧ X_ k_ (.slice Ao92 x09_4.length co92) ∧ X_ k_ (.slice (some ad466) t462.length co94)) (fun _ => False) rfl rfl ?aP (fun _ hk => hk.elim) ?aF ?aO ?aB ?aS ?aL ?_; (case aP => exact rfl); (case aB => exact HB.out); (case aF => exact (fun k_ hk => ⟨Kd.fresh' (Kd.R_lt HO_00.out) k_ hk, Kd.fresh' (Kd.R_lt HO_02.out) k_ hk, Kd.fresh' (Kd.R_lt HO_05.out) k_ hk, Kd.fresh' (Kd.R_lt HO_06.out) k_ hk, Kd.fresh' (Kd.R_lt HO_07.out) k_ hk, Kd.fresh' (Kd.R_lt HO_09.out) k_ hk, Kd.fresh' (Kd.R_lt HO464.out) k_ hk⟩)); (case aO => exact (by exact Kd.R_mono HO_9.out (fun _ hk => by first | exact ⟨hk.1.1, ⟨hk.1.2.1, ⟨hk.1.2.2.1, ⟨hk.1.2.2.2.1, ⟨hk.1.2.2.2.2.1, ⟨hk.1.2.2.2.2.2, hk.2⟩⟩⟩⟩⟩⟩ | simp only [hk, ne_eq, not_false_eq_true, and_self]))); (case aS => exact (below_size HB.out)); (case aL => have := LMc84.out; omega); intro v468 w95 ho hb hg hat; rw [← Ny467.out] at ho; have n0_ := K_ (Kd.R_after (ok := (fun k_ => X_ k_ (.slice Ao15 t442.length co15) ∧ X_ k_ (.slice Ao20 t448.length co20) ∧ X_ k_ (.slice Ao27 t454.length co27) ∧ X_ k_ (.slice Ao92 x09_4.length co92) ∧ X_ k_ (.slice (some ad466) t462.length co94))) (by exact Kd.R_mono HO_00.out (fun _ hk => by first | exact ⟨⟨hk.1.2.1, ⟨hk.1.2.2.1, ⟨hk.1.2.2.2.1, ⟨hk.1.2.2.2.2, hk.2⟩⟩⟩⟩, hk.1.1⟩ | simp only [hk, ne_eq, not_false_eq_true, and_self])) hg hat); have n1_ := K_ (Kd.N_afterv (ok := (fun k_ => X_ k_ (.slice Ao12 t436.length co12) ∧ X_ k_ (.slice Ao15 t442.length co15) ∧ X_ k_ (.slice Ao20 t448.length co20) ∧ X_ k_ (.slice Ao27 t454.length co27) ∧ X_ k_ (.slice Ao90 x07_4.length co90) ∧ X_ k_ (.slice Ao92 x09_4.length co92) ∧ X_ k_ (.slice (some ad466) t462.length co94) ∧ k_ ≠ gb445 ∧ k_ ≠ gb451 ∧ k_ ≠ gb457 ∧ k_ ≠ gb461)) (by exact Kd.N_mono HO_01.out (fun _ hk => by first | exact ⟨⟨hk.1.2.1, ⟨hk.1.2.2.1, ⟨hk.1.2.2.2.1, ⟨hk.1.2.2.2.2.1, ⟨hk.1.2.2.2.2.2.1, ⟨hk.1.2.2.2.2.2.2.1, ⟨hk.2, ⟨hk.1.2.2.2.2.2.2.2.1, ⟨hk.1.2.2.2.2.2.2.2.2.1, ⟨hk.1.2.2.2.2.2.2.2.2.2.1, hk.1.2.2.2.2.2.2.2.2.2.2⟩⟩⟩⟩⟩⟩⟩⟩⟩⟩, hk.1.1⟩ | simp only [hk, ne_eq, not_false_eq_true, and_self])) hg hat); have n2_ := K_ (Kd.R_after (ok := (fun k_ => X_ k_ (.slice Ao12 t436.length co12) ∧ X_ k_ (.slice Ao20 t448.length co20) ∧ X_ k_ (.slice Ao27 t454.length co27) ∧ X_ k_ (.slice Ao90 x07_4.length co90) ∧ X_ k_ (.slice (some ad466) t462.length co94))) (by exact Kd.R_mono HO_02.out (fun _ hk => by first | exact ⟨⟨hk.1.2.1, ⟨hk.1.2.2.1, ⟨hk.1.2.2.2.1, ⟨hk.1.2.2.2.2, hk.2⟩⟩⟩⟩, hk.1.1⟩ | simp only [hk, ne_eq, not_false_eq_true, and_self])) hg hat); have n3_ := K_ (Kd.R_after (ok := (fun k_ => X_ k_ (.slice Ao12 t436.length co12) ∧ X_ k_ (.slice Ao15 t442.length co15) ∧ X_ k_ (.slice Ao27 t454.length co27) ∧ X_ k_ (.slice Ao90 x07_4.length co90) ∧ X_ k_ (.slice Ao92 x09_4.length co92) ∧ X_ k_ (.slice (some ad466) t462.length co94))) (by exact Kd.R_mono HO_05.out (fun _ hk => by first | exact ⟨⟨hk.1.2.1, ⟨hk.1.2.2.1, ⟨hk.1.2.2.2.1, ⟨hk.1.2.2.2.2.1, ⟨hk.1.2.2.2.2.2, hk.2⟩⟩⟩⟩⟩, hk.1.1⟩ | simp only [hk, ne_eq, not_false_eq_true, and_self])) hg hat); have n4_ := K_ (Kd.R_after (ok := (fun k_ => X_ k_ (.slice Ao12 t436.length co12) ∧ X_ k_ (.slice Ao15 t442.length co15) ∧ X_ k_ (.slice Ao20 t448.length co20) ∧ X_ k_ (.slice Ao90 x07_4.length co90) ∧ X_ k_ (.slice Ao92 x09_4.length co92) ∧ X_ k_ (.slice (some ad466) t462.length co94))) (by exact Kd.R_mono HO_06.out (fun _ hk => by first | exact ⟨⟨hk.1.2.1, ⟨hk.1.2.2.1, ⟨hk.1.2.2.2.1, ⟨hk.1.2.2.2.2.1, ⟨hk.1.2.2.2.2.2, hk.2⟩⟩⟩⟩⟩, hk.1.1⟩ | simp only [hk, ne_eq, not_false_eq_true, and_self])) hg hat); have n5_ := K_ (Kd.R_after (ok := (fun k_ => X_ k_ (.slice Ao15 t442.length co15) ∧ X_ k_ (.slice Ao20 t448.length co20) ∧ X_ k_ (.slice Ao27 t454.length co27) ∧ X_ k_ (.slice Ao92 x09_4.length co92) ∧ X_ k_ (.slice (some ad466) t462.length co94))) (by exact Kd.R_mono HO_07.out (fun _ hk => by first | exact ⟨⟨hk.1.2.1, ⟨hk.1.2.2.1, ⟨hk.1.2.2.2.1, ⟨hk.1.2.2.2.2, hk.2⟩⟩⟩⟩, hk.1.1⟩ | simp only [hk, ne_eq, not_false_eq_true, and_self])) hg hat); have n6_ := K_ (Kd.N_afterv (ok := (fun k_ => X_ k_ (.slice Ao12 t436.length co12) ∧ X_ k_ (.slice Ao15 t442.length co15) ∧ X_ k_ (.slice Ao20 t448.length co20) ∧ X_ k_ (.slice Ao27 t454.length co27) ∧ X_ k_ (.slice Ao90 x07_4.length co90) ∧ X_ k_ (.slice Ao92 x09_4.length co92) ∧ X_ k_ (.slice (some ad466) t462.length co94) ∧ k_ ≠ gb445 ∧ k_ ≠ gb451 ∧ k_ ≠ gb457 ∧ k_ ≠ gb461)) (by exact Kd.N_mono HO_08.out (fun _ hk => by first | exact ⟨⟨hk.1.2.1, ⟨hk.1.2.2.1, ⟨hk.1.2.2.2.1, ⟨hk.1.2.2.2.2.1, ⟨hk.1.2.2.2.2.2.1, ⟨hk.1.2.2.2.2.2.2.1, ⟨hk.2, ⟨hk.1.2.2.2.2.2.2.2.1, ⟨hk.1.2.2.2.2.2.2.2.2.1, ⟨hk.1.2.2.2.2.2.2.2.2.2.1, hk.1.2.2.2.2.2.2.2.2.2.2⟩⟩⟩⟩⟩⟩⟩⟩⟩⟩, hk.1.1⟩ | simp only [hk, ne_eq, not_false_eq_true, and_self])) hg hat); have n7_ := K_ (Kd.R_after (ok := (fun k_ => X_ k_ (.slice Ao12 t436.length co12) ∧ X_ k_ (.slice Ao20 t448.length co20) ∧ X_ k_ (.slice Ao27 t454.length co27) ∧ X_ k_ (.slice Ao90 x07_4.length co90) ∧ X_ k_ (.slice (some ad466) t462.length co94))) (by exact Kd.R_mono HO_09.out (fun _ hk => by first | exact ⟨⟨hk.1.2.1, ⟨hk.1.2.2.1, ⟨hk.1.2.2.2.1, ⟨hk.1.2.2.2.2, hk.2⟩⟩⟩⟩, hk.1.1⟩ | simp only [hk, ne_eq, not_false_eq_true, and_self])) hg hat); have n8_ := K_ (blk_grown BK445.out hg (Kd.R_ne HO_9.out BK445.out (by decide))); have n9_ := K_ (blk_grown BK451.out hg (Kd.R_ne HO_9.out BK451.out (by decide))); have n10_ := K_ (blk_grown BK457.out hg (Kd.R_ne HO_9.out BK457.out (by decide))); have n11_ := K_ (blk_grown BK461.out hg (Kd.R_ne HO_9.out BK461.out (by decide))); have n12_ := K_ (Kd.R_after (ok := (fun k_ => X_ k_ (.slice Ao12 t436.length co12) ∧ X_ k_ (.slice Ao15 t442.length co15) ∧ X_ k_ (.slice Ao20 t448.length co20) ∧ X_ k_ (.slice Ao27 t454.length co27) ∧ X_ k_ (.slice Ao90 x07_4.length co90) ∧ X_ k_ (.slice Ao92 x09_4.length co92))) (by exact Kd.R_mono HO464.out (fun _ hk => by first | exact ⟨⟨hk.1.1.1.1.1.2, ⟨hk.1.1.1.1.2, ⟨hk.1.1.1.2, ⟨hk.1.1.2, ⟨hk.1.2, hk.2⟩⟩⟩⟩⟩, hk.1.1.1.1.1.1.2⟩ | simp only [hk, ne_eq, not_false_eq_true, and_self])) hg hat); have n13_ := K_ (hb); have n14_ := K_ (ho); clear HO_00; clear HO_01; clear HO_02; clear HO_05; clear HO_06; clear HO_07; clear HO_08; clear HO_09; clear BK445; clear BK451; clear BK457; clear BK461; clear HO464; clear HB; clear HO_9; have HO_00 := n0_; have HO_01 := n1_; have HO_02 := n2_; have HO_05 := n3_; have HO_06 := n4_; have HO_07 := n5_; have HO_08 := n6_; have HO_09 := n7_; have BK445 := n8_; have BK451 := n9_; have BK457 := n10_; have BK461 := n11_; have HO464 := n12_; have HB := n13_; have HO469 := n14_; clear n0_ n1_ n2_ n3_ n4_ n5_ n6_ n7_ n8_ n9_ n10_ n11_ n12_ n13_ n14_; clear ho hb hg hat; obtain ⟨hcz96_0, hcz96_1, hcz96_2, hfz96_0, hfz96_1, hfz96_2⟩ := blkf3_ BK461.out) | ((with_reducible refine gate_callee (f := 23) rfl ?_); refine goesL_ (some 105) rfl rfl Try.func23 (by kernel_rfl) rfl #[.agg #[.slice Ao90 x07_4.length co90, .slice Ao91 x08_4.length co91, .slice Ao92 x09_4.length co92], .int .i64 (rd t462 (ji81))] rfl (by (try simp only [List.map_toArray, List.map_cons, List.map_nil]); first | done | (simp only [hji81]; rfl) | rfl | (simp only [List.length_drop, List.length_take]; rfl)) ?_; (with_reducible refine (spec_Step.calls kj60 _ _ x07_4 _ _ x08_4 _ _ x09_4 (rd t462 (ji81)) t470 t473 t476 _ ?side1 ?side2 ?side3 ?side4 ?side5 ?side6 A85.out).mono ?_); (case side1 => repeat (first | exact (Kd.R_reads' HO_07.out).2.2 | (with_reducible refine Kd.C_alloc ?_ _) | (with_reducible refine Kd.C_drewN ?_ _) | (with_reducible refine Kd.C_drew ?_))); (case side2 => exact (Kd.R_reads' HO_07.out).2.1); (case side3 => repeat (first | exact (Kd.N_reads' HO_08.out).2.2 | (with_reducible refine Kd.C_alloc ?_ _) | (with_reducible refine Kd.C_drewN ?_ _) | (with_reducible refine Kd.C_drew ?_))); (case side4 => exact (Kd.N_reads' HO_08.out).2.1); (case side5 => repeat (first | exact (Kd.R_reads' HO_09.out).2.2 | (with_reducible refine Kd.C_alloc ?_ _) | (with_reducible refine Kd.C_drewN ?_ _) | (with_reducible refine Kd.C_drew ?_))); (case side6 => exact (Kd.R_reads' HO_09.out).2.1); rintro e w97 ⟨v471, v474, v477, rfl, ho0, ho1, ho2, hb⟩; refine ⟨_, rfl, ?_⟩; have n0_ := K_ (Kd.R_mono (Kd.R_told (Kd.R_told (Kd.R_old HO_00.out hb) (Kd.R_base ho0)) (Kd.R_base ho2)) (fun _ h_ => h_.1)); have n1_ := K_ (Kd.N_mono (Kd.N_told (Kd.N_told (Kd.N_told (Kd.N_old HO_01.out hb) (Kd.R_base ho0)) (Kd.N_base ho1)) (Kd.R_base ho2)) (fun _ h_ => h_.1)); have n2_ := K_ (Kd.R_mono (Kd.R_told (Kd.R_told (Kd.R_old HO_02.out hb) (Kd.R_base ho0)) (Kd.R_base ho2)) (fun _ h_ => h_.1)); have n3_ := K_ (Kd.R_mono (Kd.R_told (Kd.R_told (Kd.R_old HO_05.out hb) (Kd.R_base ho0)) (Kd.R_base ho2)) (fun _ h_ => h_.1)); have n4_ := K_ (Kd.R_mono (Kd.R_told (Kd.R_told (Kd.R_old HO_06.out hb) (Kd.R_base ho0)) (Kd.R_base ho2)) (fun _ h_ => h_.1)); have n5_ := K_ (Kd.R_mono (Kd.R_told (Kd.R_told (Kd.R_old HO_07.out hb) (Kd.R_base ho0)) (Kd.R_base ho2)) (fun _ h_ => h_.1)); have n6_ := K_ (Kd.N_mono (Kd.N_told (Kd.N_told (Kd.N_told (Kd.N_old HO_08.out hb) (Kd.R_base ho0)) (Kd.N_base ho1)) (Kd.R_base ho2)) (fun _ h_ => h_.1)); have n7_ := K_ (Kd.R_mono (Kd.R_told (Kd.R_told (Kd.R_old HO_09.out hb) (Kd.R_base ho0)) (Kd.R_base ho2)) (fun _ h_ => h_.1)); have n8_ := K_ (Kd.R_mono (Kd.R_told (Kd.R_told (Kd.R_old HO464.out hb) (Kd.R_base ho0)) (Kd.R_base ho2)) (fun _ h_ => h_.1)); have n9_ := K_ (Kd.R_mono (Kd.R_told (Kd.R_told (Kd.R_old HO469.out hb) (Kd.R_base ho0)) (Kd.R_base ho2)) (fun _ h_ => h_.1)); have n10_ := K_ (Kd.R_lower (Kd.R_new' (Kd.R_new' (Kd.R_new' (Kd.R_new' (Kd.R_new' (Kd.R_new' (Kd.R_new' (Kd.R_new' (Kd.R_mono (ok' := fun k_ => X_ k_ v477) ho0 (fun _ hk_ => hk_.2)) (Kd.R_lt HO_00.out)) (Kd.R_lt HO_02.out)) (Kd.R_lt HO_05.out)) (Kd.R_lt HO_06.out)) (Kd.R_lt HO_07.out)) (Kd.R_lt HO_09.out)) (Kd.R_lt HO464.out)) (Kd.R_lt HO469.out)) (below_size HB.out)); have n11_ := K_ (Kd.N_lower (Kd.N_mono (ok' := fun k_ => X_ k_ v471 ∧ X_ k_ v477 ∧ X_ k_ (.slice Ao12 t436.length co12) ∧ X_ k_ (.slice Ao14 t439.length co14) ∧ X_ k_ (.slice Ao15 t442.length co15) ∧ X_ k_ (.slice Ao20 t448.length co20) ∧ X_ k_ (.slice Ao27 t454.length co27) ∧ X_ k_ (.slice Ao90 x07_4.length co90) ∧ X_ k_ (.slice Ao91 x08_4.length co91) ∧ X_ k_ (.slice Ao92 x09_4.length co92) ∧ X_ k_ (.slice (some ad466) t462.length co94) ∧ X_ k_ v468 ∧ k_ ≠ gb445 ∧ k_ ≠ gb451 ∧ k_ ≠ gb457 ∧ k_ ≠ gb461) ho1 (fun k_ hk_ => ⟨hk_.2.1, hk_.2.2, (Kd.fresh' (Kd.R_lt HO_00.out) k_ hk_.1), (Kd.fresh' (Kd.N_lt HO_01.out) k_ hk_.1), (Kd.fresh' (Kd.R_lt HO_02.out) k_ hk_.1), (Kd.fresh' (Kd.R_lt HO_05.out) k_ hk_.1), (Kd.fresh' (Kd.R_lt HO_06.out) k_ hk_.1), (Kd.fresh' (Kd.R_lt HO_07.out) k_ hk_.1), (Kd.fresh' (Kd.N_lt HO_08.out) k_ hk_.1), (Kd.fresh' (Kd.R_lt HO_09.out) k_ hk_.1), (Kd.fresh' (Kd.R_lt HO464.out) k_ hk_.1), (Kd.fresh' (Kd.R_lt HO469.out) k_ hk_.1), (Kd.freshB BK445.out k_ hk_.1), (Kd.freshB BK451.out k_ hk_.1), (Kd.freshB BK457.out k_ hk_.1), (Kd.freshB BK461.out k_ hk_.1)⟩)) (below_size HB.out)); have n12_ := K_ (Kd.R_lower (Kd.R_new' (Kd.R_new' (Kd.R_new' (Kd.R_new' (Kd.R_new' (Kd.R_new' (Kd.R_new' (Kd.R_new' (Kd.R_mono (ok' := fun k_ => X_ k_ v471) ho2 (fun _ hk_ => hk_.2)) (Kd.R_lt HO_00.out)) (Kd.R_lt HO_02.out)) (Kd.R_lt HO_05.out)) (Kd.R_lt HO_06.out)) (Kd.R_lt HO_07.out)) (Kd.R_lt HO_09.out)) (Kd.R_lt HO464.out)) (Kd.R_lt HO469.out)) (below_size HB.out)); have n13_ := K_ (blk_below BK445.out hb); have n14_ := K_ (blk_below BK451.out hb); have n15_ := K_ (blk_below BK457.out hb); have n16_ := K_ (blk_below BK461.out hb); have n17_ := K_ (below_step HB.out hb); clear HO_00; clear HO_01; clear HO_02; clear HO_05; clear HO_06; clear HO_07; clear HO_08; clear HO_09; clear HO464; clear HO469; clear BK445; clear BK451; clear BK457; clear BK461; clear HB; have HO_00 := n0_; have HO_01 := n1_; have HO_02 := n2_; have HO_05 := n3_; have HO_06 := n4_; have HO_07 := n5_; have HO_08 := n6_; have HO_09 := n7_; have HO464 := n8_; have HO469 := n9_; have HO472 := n10_; have HO475 := n11_; have HO478 := n12_; have BK445 := n13_; have BK451 := n14_; have BK457 := n15_; have BK461 := n16_; have HB := n17_; clear n0_ n1_ n2_ n3_ n4_ n5_ n6_ n7_ n8_ n9_ n10_ n11_ n12_ n13_ n14_ n15_ n16_ n17_; (try clear hb); (try clear hb2); (try clear hk); (try clear hi); (try clear ho0); (try clear ho1); (try clear ho2); obtain ⟨Ao98, co98, eo98⟩ := Kd.R_slice HO472.out; subst eo98; obtain ⟨hcz99_0, hcz99_1, hcz99_2, hfz99_0, hfz99_1, hfz99_2⟩ := blkf3_ BK461.out; obtain ⟨Ao100, co100, eo100⟩ := Kd.N_slice HO475.out; subst eo100; obtain ⟨Ao101, co101, eo101⟩ := Kd.R_slice HO478.out; subst eo101))
                      go_roundg kj60
                      case measure => have := HJ2.out; have := HJ8.out; have := HK3.out; have := HK4.out; have := HJ60.out; omega
                      case rel => exact ⟨(y467), (wrap64 (x11_4 + 1)), (t470), (t473), (t476), (.slice Ao98 t470.length co98), (.slice Ao100 t473.length co100), (.slice Ao101 t476.length co101), (by first | rfl | (simp; done) | (simp [*]; done)), H', ⟨by have := HJ2.out; have := HJ8.out; have := HK3.out; have := HK4.out; have := HJ60.out; omega⟩, ⟨by exact Kd.R_mono (Kd.R_far (p := ⟨gb461, 2, none⟩) (Kd.R_far (p := ⟨gb461, 1, none⟩) (Kd.R_far (p := ⟨gb461, 0, none⟩) (Kd.R_types HO469.out BK461.out (by decide)) (fun _ hk => hk.2) (.slice Ao98 t470.length co98)) (fun _ hk => hk.2) (.slice Ao100 t473.length co100)) (fun _ hk => hk.2) (.slice Ao101 t476.length co101)) (fun _ hk => by first | exact ⟨hk.1.1.1.1, ⟨hk.1.1.1.2.1, ⟨hk.1.1.1.2.2.1, ⟨hk.1.1.1.2.2.2.1, ⟨hk.1.1.2, hk.1.2⟩⟩⟩⟩⟩ | simp only [hk, ne_eq, not_false_eq_true, and_self])⟩, ⟨by exact Kd.R_mono (Kd.R_far (p := ⟨gb461, 2, none⟩) (Kd.R_far (p := ⟨gb461, 1, none⟩) (Kd.R_far (p := ⟨gb461, 0, none⟩) (Kd.R_types HO_00.out BK461.out (by decide)) (fun _ hk => hk.2) (.slice Ao98 t470.length co98)) (fun _ hk => hk.2) (.slice Ao100 t473.length co100)) (fun _ hk => hk.2) (.slice Ao101 t476.length co101)) (fun _ hk => by first | exact ⟨hk.1.1.1.2, ⟨hk.1.1.1.1.1, ⟨hk.1.1.1.1.2.1, ⟨hk.1.1.1.1.2.2.1, hk.1.2⟩⟩⟩⟩ | simp only [hk, ne_eq, not_false_eq_true, and_self])⟩, ⟨by exact Kd.N_mono (Kd.N_far (p := ⟨gb461, 2, none⟩) (Kd.N_far (p := ⟨gb461, 1, none⟩) (Kd.N_far (p := ⟨gb461, 0, none⟩) (Kd.N_mono HO_01.out (fun k_ hk => (⟨hk, hk.1.1.1.1.2.2.2.2.2.2.2.2.2.2⟩ : _ ∧ k_ ≠ gb461))) (fun _ hk => hk.2) (.slice Ao98 t470.length co98)) (fun _ hk => hk.2) (.slice Ao100 t473.length co100)) (fun _ hk => hk.2) (.slice Ao101 t476.length co101)) (fun _ hk => by first | exact ⟨hk.1.1.1.1.2, ⟨hk.1.1.1.1.1.1, ⟨hk.1.1.1.1.1.2.1, ⟨hk.1.1.1.1.1.2.2.1, ⟨hk.1.1.1.1.1.2.2.2.1, ⟨hk.1.1.1.2, ⟨hk.1.2, ⟨hk.1.1.1.1.1.2.2.2.2.2.2.2.1, ⟨hk.1.1.1.1.1.2.2.2.2.2.2.2.2.1, ⟨hk.1.1.1.1.1.2.2.2.2.2.2.2.2.2.1, hk.1.1.1.1.1.2.2.2.2.2.2.2.2.2.2⟩⟩⟩⟩⟩⟩⟩⟩⟩⟩ | simp only [hk, ne_eq, not_false_eq_true, and_self])⟩, ⟨by exact Kd.R_mono (Kd.R_far (p := ⟨gb461, 2, none⟩) (Kd.R_far (p := ⟨gb461, 1, none⟩) (Kd.R_far (p := ⟨gb461, 0, none⟩) (Kd.R_types HO_02.out BK461.out (by decide)) (fun _ hk => hk.2) (.slice Ao98 t470.length co98)) (fun _ hk => hk.2) (.slice Ao100 t473.length co100)) (fun _ hk => hk.2) (.slice Ao101 t476.length co101)) (fun _ hk => by first | exact ⟨hk.1.1.1.2, ⟨hk.1.1.1.1.1, ⟨hk.1.1.1.1.2.1, ⟨hk.1.1.1.1.2.2.1, hk.1.1.2⟩⟩⟩⟩ | simp only [hk, ne_eq, not_false_eq_true, and_self])⟩, ⟨by exact Kd.R_mono (Kd.R_far (p := ⟨gb461, 2, none⟩) (Kd.R_far (p := ⟨gb461, 1, none⟩) (Kd.R_far (p := ⟨gb461, 0, none⟩) (Kd.R_types HO_05.out BK461.out (by decide)) (fun _ hk => hk.2) (.slice Ao98 t470.length co98)) (fun _ hk => hk.2) (.slice Ao100 t473.length co100)) (fun _ hk => hk.2) (.slice Ao101 t476.length co101)) (fun _ hk => by first | exact ⟨hk.1.1.1.2, ⟨hk.1.1.1.1.1, ⟨hk.1.1.1.1.2.1, ⟨hk.1.1.1.1.2.2.1, ⟨hk.1.1.2, hk.1.2⟩⟩⟩⟩⟩ | simp only [hk, ne_eq, not_false_eq_true, and_self])⟩, ⟨by exact Kd.R_mono (Kd.R_far (p := ⟨gb461, 2, none⟩) (Kd.R_far (p := ⟨gb461, 1, none⟩) (Kd.R_far (p := ⟨gb461, 0, none⟩) (Kd.R_types HO_06.out BK461.out (by decide)) (fun _ hk => hk.2) (.slice Ao98 t470.length co98)) (fun _ hk => hk.2) (.slice Ao100 t473.length co100)) (fun _ hk => hk.2) (.slice Ao101 t476.length co101)) (fun _ hk => by first | exact ⟨hk.1.1.1.2, ⟨hk.1.1.1.1.1, ⟨hk.1.1.1.1.2.1, ⟨hk.1.1.1.1.2.2.1, ⟨hk.1.1.2, hk.1.2⟩⟩⟩⟩⟩ | simp only [hk, ne_eq, not_false_eq_true, and_self])⟩, ⟨by exact Kd.R_mono (Kd.R_far (p := ⟨gb461, 2, none⟩) (Kd.R_far (p := ⟨gb461, 1, none⟩) (Kd.R_far (p := ⟨gb461, 0, none⟩) (Kd.R_types HO472.out BK461.out (by decide)) (fun _ hk => hk.2) (.slice Ao98 t470.length co98)) (fun _ hk => hk.2) (.slice Ao100 t473.length co100)) (fun _ hk => hk.2) (.slice Ao101 t476.length co101)) (fun _ hk => by first | exact ⟨hk.1.2, ⟨hk.1.1.1.1.1.1.1.2, ⟨hk.1.1.1.1.1.1.2, ⟨hk.1.1.1.1.1.2, hk.1.1.1.1.1.1.1.1.1⟩⟩⟩⟩ | simp only [hk, ne_eq, not_false_eq_true, and_self])⟩, ⟨by exact Kd.N_mono (Kd.N_far (p := ⟨gb461, 2, none⟩) (Kd.N_far (p := ⟨gb461, 1, none⟩) (Kd.N_far (p := ⟨gb461, 0, none⟩) (Kd.N_mono HO475.out (fun k_ hk => (⟨hk, hk.2.2.2.2.2.2.2.2.2.2.2.2.2.2.2⟩ : _ ∧ k_ ≠ gb461))) (fun _ hk => hk.2) (.slice Ao98 t470.length co98)) (fun _ hk => hk.2) (.slice Ao100 t473.length co100)) (fun _ hk => hk.2) (.slice Ao101 t476.length co101)) (fun _ hk => by first | exact ⟨hk.1.2.2.2.2.2.2.2.2.2.2.2.1, ⟨hk.1.2.2.1, ⟨hk.1.2.2.2.2.1, ⟨hk.1.2.2.2.2.2.1, ⟨hk.1.2.2.2.2.2.2.1, ⟨hk.1.1, ⟨hk.1.2.1, ⟨hk.1.2.2.2.2.2.2.2.2.2.2.2.2.1, ⟨hk.1.2.2.2.2.2.2.2.2.2.2.2.2.2.1, ⟨hk.1.2.2.2.2.2.2.2.2.2.2.2.2.2.2.1, hk.1.2.2.2.2.2.2.2.2.2.2.2.2.2.2.2⟩⟩⟩⟩⟩⟩⟩⟩⟩⟩ | simp only [hk, ne_eq, not_false_eq_true, and_self])⟩, ⟨by exact Kd.R_mono (Kd.R_far (p := ⟨gb461, 2, none⟩) (Kd.R_far (p := ⟨gb461, 1, none⟩) (Kd.R_far (p := ⟨gb461, 0, none⟩) (Kd.R_types HO478.out BK461.out (by decide)) (fun _ hk => hk.2) (.slice Ao98 t470.length co98)) (fun _ hk => hk.2) (.slice Ao100 t473.length co100)) (fun _ hk => hk.2) (.slice Ao101 t476.length co101)) (fun _ hk => by first | exact ⟨hk.1.2, ⟨hk.1.1.1.1.1.1.1.1.2, ⟨hk.1.1.1.1.1.1.2, ⟨hk.1.1.1.1.1.2, hk.1.1.1.1.1.1.1.1.1⟩⟩⟩⟩ | simp only [hk, ne_eq, not_false_eq_true, and_self])⟩, ⟨by refine blk_far ?_ NB445_461.out _; refine blk_far ?_ NB445_461.out _; refine blk_far ?_ NB445_461.out _; exact BK445.out⟩, ⟨by refine blk_far ?_ NB451_461.out _; refine blk_far ?_ NB451_461.out _; refine blk_far ?_ NB451_461.out _; exact BK451.out⟩, ⟨by refine blk_far ?_ NB457_461.out _; refine blk_far ?_ NB457_461.out _; refine blk_far ?_ NB457_461.out _; exact BK457.out⟩, ⟨by refine blk_put (cs := #[.slice Ao98 t470.length co98, .slice Ao100 t473.length co100, .slice Ao92 x09_4.length co92]) ?_ 2 _ rfl; refine blk_put (cs := #[.slice Ao98 t470.length co98, .slice Ao91 x08_4.length co91, .slice Ao92 x09_4.length co92]) ?_ 1 _ rfl; refine blk_put (cs := #[.slice Ao90 x07_4.length co90, .slice Ao91 x08_4.length co91, .slice Ao92 x09_4.length co92]) ?_ 0 _ rfl; exact BK461.out⟩, ⟨by repeat (first | (with_reducible first | exact HB.out | refine below_set ?_ GE445.out | refine below_set ?_ GE451.out | refine below_set ?_ GE457.out | refine below_set ?_ GE461.out) | exact HB.out)⟩⟩
                     ·rw [if_neg c84] at H
                      exact absurd H (by simp)
                    ·rw [if_neg c83] at H
                     exact absurd H (by simp)
                   ·rw [if_neg c82] at H
                    exact absurd H (by simp)
                 ·replace c68 := Bool.eq_false_iff.mpr c68
                  subst c68
                  rw [if_neg (show ¬ (false = true) by decide)] at H
                  have H' := K_ H
                  clear H
                  go_wp2
                  go_meet
                  case rel => exact ⟨_, (x9_4), (x07_4), (x08_4), (x09_4), (u07), (u08), (u09), H', ⟨by have := HJ2.out; have := HJ8.out; have := HK3.out; have := HK4.out; have := HJ60.out; first | omega | exact Nat.le_refl _⟩, ⟨HO_9.out⟩, ⟨HO_00.out⟩, ⟨HO_01.out⟩, ⟨HO_02.out⟩, ⟨HO_05.out⟩, ⟨HO_06.out⟩, ⟨HO_07.out⟩, ⟨HO_08.out⟩, ⟨HO_09.out⟩, ⟨BK445.out⟩, ⟨BK451.out⟩, ⟨BK457.out⟩, ⟨BK461.out⟩, ⟨HB.out⟩⟩
            case rest =>
             clear HC52
             try clear c1
             try clear c2
             try clear p2
             try clear c3
             try clear c4
             try clear p4
             try clear q4
             try clear hx4
             try clear c5
             try clear c6
             try clear p6
             try clear c7
             try clear c8
             try clear c21
             try clear c22
             try clear c23
             try clear c25
             try clear c30
             try clear c31
             try clear c31b0
             try clear c31b1
             try clear c33
             try clear c34
             try clear c42
             try clear c43
             try clear c45
             try clear c45b0
             try clear c45b1
             try clear c46
             try clear p46
             try clear q46
             try clear hx46
             try clear c47
             try clear c51
             try clear c51b0
             try clear c53
             try clear c54
             try clear c57
             try clear c58
             try clear c59
             try clear c62
             try clear c62b0
             try clear c63
             try clear c64
             try clear p64
             try clear c65
             try clear c68
             try clear c70
             try clear c70b0
             try clear c70b1
             try clear c70b2
             try clear c71
             try clear c72
             try clear c73
             try clear c82
             try clear c82b0
             try clear c83
             try clear c83b0
             try clear c84
             try clear c86
             try clear c87
             try clear c88
             try clear hcz48_0
             try clear hcz48_1
             try clear hcz48_2
             try clear hcz55_0
             try clear hcz55_1
             try clear hcz55_2
             try clear hcz60_0
             try clear hcz60_1
             try clear hcz60_2
             try clear hcz66_0
             try clear hcz66_1
             try clear hcz66_2
             try clear hcz74_0
             try clear hcz74_1
             try clear hcz74_2
             try clear hcz89_0
             try clear hcz89_1
             try clear hcz89_2
             try clear hcz96_0
             try clear hcz96_1
             try clear hcz96_2
             try clear hcz99_0
             try clear hcz99_1
             try clear hcz99_2
             try clear hfz48_0
             try clear hfz48_1
             try clear hfz48_2
             try clear hfz55_0
             try clear hfz55_1
             try clear hfz55_2
             try clear hfz60_0
             try clear hfz60_1
             try clear hfz60_2
             try clear hfz66_0
             try clear hfz66_1
             try clear hfz66_2
             try clear hfz74_0
             try clear hfz74_1
             try clear hfz74_2
             try clear hfz89_0
             try clear hfz89_1
             try clear hfz89_2
             try clear hfz96_0
             try clear hfz96_1
             try clear hfz96_2
             try clear hfz99_0
             try clear hfz99_1
             try clear hfz99_2
             try clear hx466_0
             try clear p2
             try clear p466
             try clear q466
             obtain ⟨kq, x9_51, x07_51, x08_51, x09_51, u07, u08, u09, HA, HJ51, HO_9, HO_00, HO_01, HO_02, HO_05, HO_06, HO_07, HO_08, HO_09, BK445, BK451, BK457, BK461, HB⟩ := hcut
             cases kq with
             | zero => exact absurd HA.out (by simp [laws_FnBest.j5])
             | succ kj51 =>
              have H := HA.out
              clear HA
              simp only [laws_FnBest.j5] at H
              replace H := Option.bind_eq_some_iff.mp H
              obtain ⟨t479, A1020, H⟩ := H
              replace H : ((spec_Cost.f kj51 t436 t439 t442 x9_51).bind fun t480 => (if t479 = t480 then (if ((decide (t479 ≥ 0)) != ((x08_51.length : Int) == 0)) = true then (laws_FnBest.j6 kj51 l1 x8_3 x9_51 t479 true t436 t439 t442 true t447 t448) else (if t479 ≥ 0 then (laws_FnBest.j6 kj51 l1 x8_3 x9_51 t479 (decide (t479 < t447)) t436 t439 t442 true t447 t448) else (laws_FnBest.j6 kj51 l1 x8_3 x9_51 t479 false t436 t439 t442 true t447 t448))) else (laws_FnBest.j6 kj51 l1 x8_3 x9_51 t479 true t436 t439 t442 true t447 t448))) = some r := H
              have A102 := K_ A1020
              clear A1020
              have HC103 := K_ H
              clear H
              have hnb104 := NB445_451.out
              have hnc104 := NB451_445.out
              have hnb105 := NB445_457.out
              have hnc105 := NB457_445.out
              have hnb106 := NB445_461.out
              have hnc106 := NB461_445.out
              obtain ⟨hcz107_0, hcz107_1, hcz107_2, hfz107_0, hfz107_1, hfz107_2⟩ := blkf3_ BK445.out
              obtain ⟨Ao108, co108, eo108⟩ := Kd.R_slice HO_9.out
              subst eo108
              go_upto_region 26 with (first | ((with_reducible refine gate_callee (f := 34) rfl ?_); refine goesL_ (some 108) rfl rfl Try.func34 (by kernel_rfl) rfl #[.agg #[.slice Ao12 t436.length co12, .slice Ao14 t439.length co14, .slice Ao15 t442.length co15], .slice Ao108 x9_51.length co108] rfl (by simp only [List.map_toArray, List.map_cons, List.map_nil]; try rfl) ?_; (with_reducible refine (impl_Cost.calls kj51 (fun k_ => some k_ = (.slice Ao12 t436.length co12 : Value).ownBlock) _ _ t436 (fun k_ => (X_ k_ (.slice Ao108 x9_51.length co108) ∧ (X_ k_ (.slice Ao12 t436.length co12) ∧ (X_ k_ (.slice Ao15 t442.length co15) ∧ (X_ k_ (.slice Ao20 t448.length co20) ∧ (X_ k_ (.slice Ao27 t454.length co27) ∧ (X_ k_ u07 ∧ (X_ k_ u09 ∧ (k_ ≠ gb445 ∧ (k_ ≠ gb451 ∧ (k_ ≠ gb457 ∧ k_ ≠ gb461))))))))))) _ _ t439 (fun k_ => some k_ = (.slice Ao15 t442.length co15 : Value).ownBlock) _ _ t442 _ _ x9_51 t479 _ ?side1 ?side2 ?side3 ?side4 ?side5 A102.out).mono ?_); (case side1 => exact Kd.R_V (Kd.R_tight rfl (Kd.R_types (Kd.R_types (Kd.R_types (Kd.R_types (Kd.R_apart' (Kd.R_apart' (HO_00.out) (Kd.N_typed HO_01.out) (by decide)) (Kd.N_typed HO_08.out) (by decide)) BK445.out (by decide)) BK451.out (by decide)) BK457.out (by decide)) BK461.out (by decide)))); (case side2 => exact Kd.N_V (HO_01.out)); (case side3 => exact Kd.R_V (Kd.R_tight rfl (Kd.R_types (Kd.R_types (Kd.R_types (Kd.R_types (Kd.R_apart' (Kd.R_apart' (HO_02.out) (Kd.N_typed HO_01.out) (by decide)) (Kd.N_typed HO_08.out) (by decide)) BK445.out (by decide)) BK451.out (by decide)) BK457.out (by decide)) BK461.out (by decide)))); (case side4 => exact (Kd.R_reads' HO_9.out).2.2); (case side5 => exact (Kd.R_reads' HO_9.out).2.1); rintro e w109 ⟨rfl, hb⟩; refine ⟨_, rfl, ?_⟩; replace HO_9 := K_ (Kd.R_below HO_9.out hb); replace HO_00 := K_ (Kd.R_below HO_00.out hb); replace HO_01 := K_ (Kd.N_below HO_01.out hb); replace HO_02 := K_ (Kd.R_below HO_02.out hb); replace HO_05 := K_ (Kd.R_below HO_05.out hb); replace HO_06 := K_ (Kd.R_below HO_06.out hb); replace HO_07 := K_ (Kd.R_below HO_07.out hb); replace HO_08 := K_ (Kd.N_below HO_08.out hb); replace HO_09 := K_ (Kd.R_below HO_09.out hb); replace BK445 := K_ (blk_below BK445.out hb); replace BK451 := K_ (blk_below BK451.out hb); replace BK457 := K_ (blk_below BK457.out hb); replace BK461 := K_ (blk_below BK461.out hb); replace HB := K_ (below_step HB.out hb); clear hb))
              (try simp only [P_])
              go_cut [132] (fun v132 wc => ∃ (kq : Nat) (x132_102 : Bool), v132 = .bool x132_102 ∧ Aside0 (laws_FnBest.j6 kq l1 x8_3 x9_51 t479 x132_102 t436 t439 t442 true t447 t448 = some r) ∧ Aside0 (kq ≤ kj51) ∧ Aside0 (Kd.R (Kd.int .i64) 3 wc w.heap.size (fun k_ => some k_ ≠ ((.slice Ao12 t436.length co12) : Value).ownBlock ∧ some k_ ≠ ((.slice Ao15 t442.length co15) : Value).ownBlock ∧ some k_ ≠ ((.slice Ao20 t448.length co20) : Value).ownBlock ∧ some k_ ≠ ((.slice Ao27 t454.length co27) : Value).ownBlock ∧ X_ k_ u07 ∧ X_ k_ u09) (.slice Ao108 x9_51.length co108) x9_51) ∧ Aside0 (Kd.R (Kd.int .i64) 3 wc w.heap.size (fun k_ => some k_ ≠ ((.slice Ao108 x9_51.length co108) : Value).ownBlock ∧ some k_ ≠ ((.slice Ao15 t442.length co15) : Value).ownBlock ∧ some k_ ≠ ((.slice Ao20 t448.length co20) : Value).ownBlock ∧ some k_ ≠ ((.slice Ao27 t454.length co27) : Value).ownBlock ∧ X_ k_ u09) (.slice Ao12 t436.length co12) t436) ∧ Aside0 (Kd.N k35 35 wc w.heap.size (fun k_ => some k_ ≠ ((.slice Ao108 x9_51.length co108) : Value).ownBlock ∧ some k_ ≠ ((.slice Ao12 t436.length co12) : Value).ownBlock ∧ some k_ ≠ ((.slice Ao15 t442.length co15) : Value).ownBlock ∧ some k_ ≠ ((.slice Ao20 t448.length co20) : Value).ownBlock ∧ some k_ ≠ ((.slice Ao27 t454.length co27) : Value).ownBlock ∧ X_ k_ u07 ∧ X_ k_ u09 ∧ k_ ≠ gb445 ∧ k_ ≠ gb451 ∧ k_ ≠ gb457 ∧ k_ ≠ gb461) (.slice Ao14 t439.length co14) t439) ∧ Aside0 (Kd.R (Kd.int .i64) 3 wc w.heap.size (fun k_ => some k_ ≠ ((.slice Ao108 x9_51.length co108) : Value).ownBlock ∧ some k_ ≠ ((.slice Ao12 t436.length co12) : Value).ownBlock ∧ some k_ ≠ ((.slice Ao20 t448.length co20) : Value).ownBlock ∧ some k_ ≠ ((.slice Ao27 t454.length co27) : Value).ownBlock ∧ X_ k_ u07) (.slice Ao15 t442.length co15) t442) ∧ Aside0 (Kd.R (Kd.int .i64) 3 wc w.heap.size (fun k_ => some k_ ≠ ((.slice Ao108 x9_51.length co108) : Value).ownBlock ∧ some k_ ≠ ((.slice Ao12 t436.length co12) : Value).ownBlock ∧ some k_ ≠ ((.slice Ao15 t442.length co15) : Value).ownBlock ∧ some k_ ≠ ((.slice Ao27 t454.length co27) : Value).ownBlock ∧ X_ k_ u07 ∧ X_ k_ u09) (.slice Ao20 t448.length co20) t448) ∧ Aside0 (Kd.R (Kd.int .i64) 3 wc w.heap.size (fun k_ => some k_ ≠ ((.slice Ao108 x9_51.length co108) : Value).ownBlock ∧ some k_ ≠ ((.slice Ao12 t436.length co12) : Value).ownBlock ∧ some k_ ≠ ((.slice Ao15 t442.length co15) : Value).ownBlock ∧ some k_ ≠ ((.slice Ao20 t448.length co20) : Value).ownBlock ∧ X_ k_ u07 ∧ X_ k_ u09) (.slice Ao27 t454.length co27) t454) ∧ Aside0 (Kd.R (Kd.int .i64) 3 wc w.heap.size (fun k_ => some k_ ≠ ((.slice Ao108 x9_51.length co108) : Value).ownBlock ∧ some k_ ≠ ((.slice Ao15 t442.length co15) : Value).ownBlock ∧ some k_ ≠ ((.slice Ao20 t448.length co20) : Value).ownBlock ∧ some k_ ≠ ((.slice Ao27 t454.length co27) : Value).ownBlock ∧ X_ k_ u09) u07 x07_51) ∧ Aside0 (Kd.N k35 35 wc w.heap.size (fun k_ => some k_ ≠ ((.slice Ao108 x9_51.length co108) : Value).ownBlock ∧ some k_ ≠ ((.slice Ao12 t436.length co12) : Value).ownBlock ∧ some k_ ≠ ((.slice Ao15 t442.length co15) : Value).ownBlock ∧ some k_ ≠ ((.slice Ao20 t448.length co20) : Value).ownBlock ∧ some k_ ≠ ((.slice Ao27 t454.length co27) : Value).ownBlock ∧ X_ k_ u07 ∧ X_ k_ u09 ∧ k_ ≠ gb445 ∧ k_ ≠ gb451 ∧ k_ ≠ gb457 ∧ k_ ≠ gb461) u08 x08_51) ∧ Aside0 (Kd.R (Kd.int .i64) 3 wc w.heap.size (fun k_ => some k_ ≠ ((.slice Ao108 x9_51.length co108) : Value).ownBlock ∧ some k_ ≠ ((.slice Ao12 t436.length co12) : Value).ownBlock ∧ some k_ ≠ ((.slice Ao20 t448.length co20) : Value).ownBlock ∧ some k_ ≠ ((.slice Ao27 t454.length co27) : Value).ownBlock ∧ X_ k_ u07) u09 x09_51) ∧ Aside0 (wc.heap[gb445]? = some (.cells #[(.slice Ao12 t436.length co12), (.slice Ao14 t439.length co14), (.slice Ao15 t442.length co15)] 26 (0, 0))) ∧ Aside0 (wc.heap[gb451]? = some (.cells #[.bool true, .int .i64 t447, (.slice Ao20 t448.length co20)] 41 (0, 0))) ∧ Aside0 (wc.heap[gb457]? = some (.cells #[.bool t452, .int .i64 t453, (.slice Ao27 t454.length co27)] 41 (0, 0))) ∧ Aside0 (wc.heap[gb461]? = some (.cells #[u07, u08, u09] 26 (0, 0))) ∧ Aside0 (Below w.heap.size w wc))
              case first =>
               have H := HC103.out
               clear HC103
               replace H := Option.bind_eq_some_iff.mp H
               obtain ⟨t480, A1100, H⟩ := H
               replace H : (if t479 = t480 then (if ((decide (t479 ≥ 0)) != ((x08_51.length : Int) == 0)) = true then (laws_FnBest.j6 kj51 l1 x8_3 x9_51 t479 true t436 t439 t442 true t447 t448) else (if t479 ≥ 0 then (laws_FnBest.j6 kj51 l1 x8_3 x9_51 t479 (decide (t479 < t447)) t436 t439 t442 true t447 t448) else (laws_FnBest.j6 kj51 l1 x8_3 x9_51 t479 false t436 t439 t442 true t447 t448))) else (laws_FnBest.j6 kj51 l1 x8_3 x9_51 t479 true t436 t439 t442 true t447 t448)) = some r := H
               have A110 := K_ A1100
               clear A1100
               by_cases c111 : t479 = t480
               ·rw [if_pos c111] at H
                have c111b0 := beq_iff_eq.mpr c111
                have c111b1 := bne_eq_false_iff_eq.mpr c111
                clear c111
                (first | rw [c111b0] | (simp only [i64_w, i32_w]; rw [c111b0]) | skip)
                by_cases c112 : ((decide (t479 ≥ 0)) != ((x08_51.length : Int) == 0)) = true
                ·rw [if_pos c112] at H
                 exact absurd (H.trans (congrArg some hT_.out)) (laws_FnBest.j6_dead _ _ _ _ _ _ _ _ _ _ _)
                ·rw [if_neg c112] at H
                 have c112b0 : ((decide (t479 ≥ 0)) != ((x08_51.length : Int) == 0)) = false := by simpa using c112
                 (try (have c112b1 : decide ((decide (t479 ≥ 0)) = ((x08_51.length : Int) == 0)) = true := by simpa using c112))
                 (try (have c112b2 : ((decide (t479 ≥ 0)) == ((x08_51.length : Int) == 0)) = true := by simpa using c112))
                 clear c112
                 by_cases c122 : t479 ≥ 0
                 ·rw [if_pos c122] at H
                  have c122b0 := decide_eq_true c122
                  have c_e1 : ((x08_51.length : Int) == 0) = true := by have h_ := c112b0; rw [show decide (t479 ≥ 0) = true from c122b0] at h_; simpa using h_
                  have c_e2 : decide ((x08_51.length : Int) = 0) = true := by simpa using c_e1
                  try clear c112b1
                  try clear c112b2
                  clear c112b0
                  clear c122
                  have H' := K_ H
                  clear H
                  have hnb123 := NB445_451.out
                  have hnc123 := NB451_445.out
                  have hnb124 := NB445_457.out
                  have hnc124 := NB457_445.out
                  have hnb125 := NB445_461.out
                  have hnc125 := NB461_445.out
                  obtain ⟨hcz126_0, hcz126_1, hcz126_2, hfz126_0, hfz126_1, hfz126_2⟩ := blkf3_ BK445.out
                  go_wp2_with (first | ((with_reducible refine gate_callee (f := 45) rfl ?_); refine goesL_ (some 112) rfl rfl Try.func45 (by kernel_rfl) rfl #[.agg #[.slice Ao12 t436.length co12, .slice Ao14 t439.length co14, .slice Ao15 t442.length co15], .slice Ao108 x9_51.length co108] rfl (by simp only [List.map_toArray, List.map_cons, List.map_nil]; try rfl) ?_; (with_reducible refine (spec_Cost.calls kj51 (fun k_ => some k_ = (.slice Ao12 t436.length co12 : Value).ownBlock) _ _ t436 (fun k_ => (X_ k_ (.slice Ao108 x9_51.length co108) ∧ (X_ k_ (.slice Ao12 t436.length co12) ∧ (X_ k_ (.slice Ao15 t442.length co15) ∧ (X_ k_ (.slice Ao20 t448.length co20) ∧ (X_ k_ (.slice Ao27 t454.length co27) ∧ (X_ k_ u07 ∧ (X_ k_ u09 ∧ (k_ ≠ gb445 ∧ (k_ ≠ gb451 ∧ (k_ ≠ gb457 ∧ k_ ≠ gb461))))))))))) _ _ t439 (fun k_ => some k_ = (.slice Ao15 t442.length co15 : Value).ownBlock) _ _ t442 _ _ x9_51 t480 _ ?side1 ?side2 ?side3 ?side4 ?side5 A110.out).mono ?_); (case side1 => exact Kd.R_V (Kd.R_tight rfl (Kd.R_types (Kd.R_types (Kd.R_types (Kd.R_types (Kd.R_apart' (Kd.R_apart' (HO_00.out) (Kd.N_typed HO_01.out) (by decide)) (Kd.N_typed HO_08.out) (by decide)) BK445.out (by decide)) BK451.out (by decide)) BK457.out (by decide)) BK461.out (by decide)))); (case side2 => exact Kd.N_V (HO_01.out)); (case side3 => exact Kd.R_V (Kd.R_tight rfl (Kd.R_types (Kd.R_types (Kd.R_types (Kd.R_types (Kd.R_apart' (Kd.R_apart' (HO_02.out) (Kd.N_typed HO_01.out) (by decide)) (Kd.N_typed HO_08.out) (by decide)) BK445.out (by decide)) BK451.out (by decide)) BK457.out (by decide)) BK461.out (by decide)))); (case side4 => exact (Kd.R_reads' HO_9.out).2.2); (case side5 => exact (Kd.R_reads' HO_9.out).2.1); rintro e w127 ⟨rfl, hb⟩; refine ⟨_, rfl, ?_⟩; replace HO_9 := K_ (Kd.R_below HO_9.out hb); replace HO_00 := K_ (Kd.R_below HO_00.out hb); replace HO_01 := K_ (Kd.N_below HO_01.out hb); replace HO_02 := K_ (Kd.R_below HO_02.out hb); replace HO_05 := K_ (Kd.R_below HO_05.out hb); replace HO_06 := K_ (Kd.R_below HO_06.out hb); replace HO_07 := K_ (Kd.R_below HO_07.out hb); replace HO_08 := K_ (Kd.N_below HO_08.out hb); replace HO_09 := K_ (Kd.R_below HO_09.out hb); replace BK445 := K_ (blk_below BK445.out hb); replace BK451 := K_ (blk_below BK451.out hb); replace BK457 := K_ (blk_below BK457.out hb); replace BK461 := K_ (blk_below BK461.out hb); replace HB := K_ (below_step HB.out hb); clear hb; have hnb128 := NB461_451.out; have hnc128 := NB451_461.out; have hnb129 := NB461_457.out; have hnc129 := NB457_461.out; have hcz130_0 : w127.cell? ⟨gb461, 0, none⟩ = some (u07) := (blk_cell BK461.out 0).trans rfl; have hcz130_1 : w127.cell? ⟨gb461, 1, none⟩ = some (u08) := (blk_cell BK461.out 1).trans rfl; have hcz130_2 : w127.cell? ⟨gb461, 2, none⟩ = some (u09) := (blk_cell BK461.out 2).trans rfl; have hfz130_0 := blk_frozen BK461.out 0; have hfz130_1 := blk_frozen BK461.out 1; have hfz130_2 := blk_frozen BK461.out 2; obtain ⟨Ao131, co131, eo131⟩ := Kd.N_slice HO_08.out; subst eo131; have hnb132 := NB451_457.out; have hnc132 := NB457_451.out; have hcz133_0 : w127.cell? ⟨gb451, 0, none⟩ = some (.bool true) := (blk_cell BK451.out 0).trans rfl; have hcz133_1 : w127.cell? ⟨gb451, 1, none⟩ = some (.int .i64 t447) := (blk_cell BK451.out 1).trans rfl; have hcz133_2 : w127.cell? ⟨gb451, 2, none⟩ = some (.slice Ao20 t448.length co20) := (blk_cell BK451.out 2).trans rfl; have hfz133_0 := blk_frozen BK451.out 0; have hfz133_1 := blk_frozen BK451.out 1; have hfz133_2 := blk_frozen BK451.out 2))
                  go_meet
                  case rel => exact ⟨_, (decide (t479 < t447)), rfl, H', ⟨by have := HJ2.out; have := HJ8.out; have := HK3.out; have := HJ51.out; first | omega | exact Nat.le_refl _⟩, ⟨HO_9.out⟩, ⟨HO_00.out⟩, ⟨HO_01.out⟩, ⟨HO_02.out⟩, ⟨HO_05.out⟩, ⟨HO_06.out⟩, ⟨HO_07.out⟩, ⟨HO_08.out⟩, ⟨HO_09.out⟩, ⟨BK445.out⟩, ⟨BK451.out⟩, ⟨BK457.out⟩, ⟨BK461.out⟩, ⟨HB.out⟩⟩
                 ·rw [if_neg c122] at H
                  have c122b0 := decide_eq_false c122
                  have c_e1 : ((x08_51.length : Int) == 0) = false := by have h_ := c112b0; rw [show decide (t479 ≥ 0) = false from c122b0] at h_; simpa using h_
                  have c_e2 : decide ((x08_51.length : Int) = 0) = false := by simpa using c_e1
                  try clear c112b1
                  try clear c112b2
                  clear c112b0
                  clear c122
                  have H' := K_ H
                  clear H
                  have hnb134 := NB445_451.out
                  have hnc134 := NB451_445.out
                  have hnb135 := NB445_457.out
                  have hnc135 := NB457_445.out
                  have hnb136 := NB445_461.out
                  have hnc136 := NB461_445.out
                  have hcz137_0 : w109.cell? ⟨gb445, 0, none⟩ = some (.slice Ao12 t436.length co12) := (blk_cell BK445.out 0).trans rfl
                  have hcz137_1 : w109.cell? ⟨gb445, 1, none⟩ = some (.slice Ao14 t439.length co14) := (blk_cell BK445.out 1).trans rfl
                  have hcz137_2 : w109.cell? ⟨gb445, 2, none⟩ = some (.slice Ao15 t442.length co15) := (blk_cell BK445.out 2).trans rfl
                  have hfz137_0 := blk_frozen BK445.out 0
                  have hfz137_1 := blk_frozen BK445.out 1
                  have hfz137_2 := blk_frozen BK445.out 2
                  go_wp2_with (first | ((with_reducible refine gate_callee (f := 45) rfl ?_); refine goesL_ (some 112) rfl rfl Try.func45 (by kernel_rfl) rfl #[.agg #[.slice Ao12 t436.length co12, .slice Ao14 t439.length co14, .slice Ao15 t442.length co15], .slice Ao108 x9_51.length co108] rfl (by simp only [List.map_toArray, List.map_cons, List.map_nil]; try rfl) ?_; (with_reducible refine (spec_Cost.calls kj51 (fun k_ => some k_ = (.slice Ao12 t436.length co12 : Value).ownBlock) _ _ t436 (fun k_ => (X_ k_ (.slice Ao108 x9_51.length co108) ∧ (X_ k_ (.slice Ao12 t436.length co12) ∧ (X_ k_ (.slice Ao15 t442.length co15) ∧ (X_ k_ (.slice Ao20 t448.length co20) ∧ (X_ k_ (.slice Ao27 t454.length co27) ∧ (X_ k_ u07 ∧ (X_ k_ u09 ∧ (k_ ≠ gb445 ∧ (k_ ≠ gb451 ∧ (k_ ≠ gb457 ∧ k_ ≠ gb461))))))))))) _ _ t439 (fun k_ => some k_ = (.slice Ao15 t442.length co15 : Value).ownBlock) _ _ t442 _ _ x9_51 t480 _ ?side1 ?side2 ?side3 ?side4 ?side5 A110.out).mono ?_); (case side1 => exact Kd.R_V (Kd.R_tight rfl (Kd.R_types (Kd.R_types (Kd.R_types (Kd.R_types (Kd.R_apart' (Kd.R_apart' (HO_00.out) (Kd.N_typed HO_01.out) (by decide)) (Kd.N_typed HO_08.out) (by decide)) BK445.out (by decide)) BK451.out (by decide)) BK457.out (by decide)) BK461.out (by decide)))); (case side2 => exact Kd.N_V (HO_01.out)); (case side3 => exact Kd.R_V (Kd.R_tight rfl (Kd.R_types (Kd.R_types (Kd.R_types (Kd.R_types (Kd.R_apart' (Kd.R_apart' (HO_02.out) (Kd.N_typed HO_01.out) (by decide)) (Kd.N_typed HO_08.out) (by decide)) BK445.out (by decide)) BK451.out (by decide)) BK457.out (by decide)) BK461.out (by decide)))); (case side4 => exact (Kd.R_reads' HO_9.out).2.2); (case side5 => exact (Kd.R_reads' HO_9.out).2.1); rintro e w138 ⟨rfl, hb⟩; refine ⟨_, rfl, ?_⟩; replace HO_9 := K_ (Kd.R_below HO_9.out hb); replace HO_00 := K_ (Kd.R_below HO_00.out hb); replace HO_01 := K_ (Kd.N_below HO_01.out hb); replace HO_02 := K_ (Kd.R_below HO_02.out hb); replace HO_05 := K_ (Kd.R_below HO_05.out hb); replace HO_06 := K_ (Kd.R_below HO_06.out hb); replace HO_07 := K_ (Kd.R_below HO_07.out hb); replace HO_08 := K_ (Kd.N_below HO_08.out hb); replace HO_09 := K_ (Kd.R_below HO_09.out hb); replace BK445 := K_ (blk_below BK445.out hb); replace BK451 := K_ (blk_below BK451.out hb); replace BK457 := K_ (blk_below BK457.out hb); replace BK461 := K_ (blk_below BK461.out hb); replace HB := K_ (below_step HB.out hb); clear hb; have hnb139 := NB461_451.out; have hnc139 := NB451_461.out; have hnb140 := NB461_457.out; have hnc140 := NB457_461.out; have hcz141_0 : w138.cell? ⟨gb461, 0, none⟩ = some (u07) := (blk_cell BK461.out 0).trans rfl; have hcz141_1 : w138.cell? ⟨gb461, 1, none⟩ = some (u08) := (blk_cell BK461.out 1).trans rfl; have hcz141_2 : w138.cell? ⟨gb461, 2, none⟩ = some (u09) := (blk_cell BK461.out 2).trans rfl; have hfz141_0 := blk_frozen BK461.out 0; have hfz141_1 := blk_frozen BK461.out 1; have hfz141_2 := blk_frozen BK461.out 2; obtain ⟨Ao142, co142, eo142⟩ := Kd.N_slice HO_08.out; subst eo142))
                  go_meet
                  case rel => exact ⟨_, (false), rfl, H', ⟨by have := HJ2.out; have := HJ8.out; have := HK3.out; have := HJ51.out; first | omega | exact Nat.le_refl _⟩, ⟨HO_9.out⟩, ⟨HO_00.out⟩, ⟨HO_01.out⟩, ⟨HO_02.out⟩, ⟨HO_05.out⟩, ⟨HO_06.out⟩, ⟨HO_07.out⟩, ⟨HO_08.out⟩, ⟨HO_09.out⟩, ⟨BK445.out⟩, ⟨BK451.out⟩, ⟨BK457.out⟩, ⟨BK461.out⟩, ⟨HB.out⟩⟩
               ·rw [if_neg c111] at H
                exact absurd (H.trans (congrArg some hT_.out)) (laws_FnBest.j6_dead _ _ _ _ _ _ _ _ _ _ _)
              case rest =>
               clear HC103
               try clear c1
               try clear c2
               try clear p2
               try clear c3
               try clear c4
               try clear p4
               try clear q4
               try clear hx4
               try clear c5
               try clear c6
               try clear p6
               try clear c7
               try clear c8
               try clear c10
               try clear c11
               try clear c12
               try clear c13
               try clear c14
               try clear c21
               try clear c22
               try clear c23
               try clear c25
               try clear c30
               try clear c31
               try clear c31b0
               try clear c31b1
               try clear c33
               try clear c34
               try clear c42
               try clear c43
               try clear c45
               try clear c45b0
               try clear c45b1
               try clear c46
               try clear p46
               try clear q46
               try clear hx46
               try clear c47
               try clear c51
               try clear c51b0
               try clear c53
               try clear c54
               try clear c57
               try clear c58
               try clear c59
               try clear c62
               try clear c62b0
               try clear c63
               try clear c64
               try clear p64
               try clear c65
               try clear c68
               try clear c70
               try clear c70b0
               try clear c70b1
               try clear c70b2
               try clear c71
               try clear c72
               try clear c73
               try clear c82
               try clear c82b0
               try clear c83
               try clear c83b0
               try clear c84
               try clear c86
               try clear c87
               try clear c88
               try clear c104
               try clear c105
               try clear c106
               try clear c111
               try clear c111b0
               try clear c111b1
               try clear c112
               try clear c112b0
               try clear c112b1
               try clear c112b2
               try clear c113
               try clear c114
               try clear c115
               try clear c118
               try clear c119
               try clear c122
               try clear c122b0
               try clear c123
               try clear c124
               try clear c125
               try clear c128
               try clear c129
               try clear c132
               try clear c134
               try clear c135
               try clear c136
               try clear c139
               try clear c140
               try clear c143
               try clear c144
               try clear c145
               try clear hcz107_0
               try clear hcz107_1
               try clear hcz107_2
               try clear hcz116_0
               try clear hcz116_1
               try clear hcz116_2
               try clear hcz120_0
               try clear hcz120_1
               try clear hcz120_2
               try clear hcz126_0
               try clear hcz126_1
               try clear hcz126_2
               try clear hcz130_0
               try clear hcz130_1
               try clear hcz130_2
               try clear hcz133_0
               try clear hcz133_1
               try clear hcz133_2
               try clear hcz137_0
               try clear hcz137_1
               try clear hcz137_2
               try clear hcz141_0
               try clear hcz141_1
               try clear hcz141_2
               try clear hcz146_0
               try clear hcz146_1
               try clear hcz146_2
               try clear hcz48_0
               try clear hcz48_1
               try clear hcz48_2
               try clear hcz55_0
               try clear hcz55_1
               try clear hcz55_2
               try clear hcz60_0
               try clear hcz60_1
               try clear hcz60_2
               try clear hcz66_0
               try clear hcz66_1
               try clear hcz66_2
               try clear hcz74_0
               try clear hcz74_1
               try clear hcz74_2
               try clear hcz89_0
               try clear hcz89_1
               try clear hcz89_2
               try clear hcz96_0
               try clear hcz96_1
               try clear hcz96_2
               try clear hcz99_0
               try clear hcz99_1
               try clear hcz99_2
               try clear hfz107_0
               try clear hfz107_1
               try clear hfz107_2
               try clear hfz116_0
               try clear hfz116_1
               try clear hfz116_2
               try clear hfz120_0
               try clear hfz120_1
               try clear hfz120_2
               try clear hfz126_0
               try clear hfz126_1
               try clear hfz126_2
               try clear hfz130_0
               try clear hfz130_1
               try clear hfz130_2
               try clear hfz133_0
               try clear hfz133_1
               try clear hfz133_2
               try clear hfz137_0
               try clear hfz137_1
               try clear hfz137_2
               try clear hfz141_0
               try clear hfz141_1
               try clear hfz141_2
               try clear hfz146_0
               try clear hfz146_1
               try clear hfz146_2
               try clear hfz48_0
               try clear hfz48_1
               try clear hfz48_2
               try clear hfz55_0
               try clear hfz55_1
               try clear hfz55_2
               try clear hfz60_0
               try clear hfz60_1
               try clear hfz60_2
               try clear hfz66_0
               try clear hfz66_1
               try clear hfz66_2
               try clear hfz74_0
               try clear hfz74_1
               try clear hfz74_2
               try clear hfz89_0
               try clear hfz89_1
               try clear hfz89_2
               try clear hfz96_0
               try clear hfz96_1
               try clear hfz96_2
               try clear hfz99_0
               try clear hfz99_1
               try clear hfz99_2
               try clear hx466_0
               try clear p2
               try clear p4
               try clear p46
               try clear p466
               try clear p6
               try clear p64
               try clear q4
               try clear q46
               try clear q466
               obtain ⟨kq, x132_102, rfl, HA, HJ102, HO_9, HO_00, HO_01, HO_02, HO_05, HO_06, HO_07, HO_08, HO_09, BK445, BK451, BK457, BK461, HB⟩ := hcut
               cases kq with
               | zero => exact absurd HA.out (by simp [laws_FnBest.j6])
               | succ kj102 =>
                have H := HA.out
                clear HA
                simp only [laws_FnBest.j6] at H
                by_cases c148 : x132_102 = true
                ·subst c148
                 have H1 : (some false) = some r := by rw [if_pos rfl] at H; exact H
                 clear H
                 have H := H1
                 exact absurd (H.trans (congrArg some hT_.out)) (by simp)
                ·replace c148 := Bool.eq_false_iff.mpr c148
                 subst c148
                 rw [if_neg (show ¬ (false = true) by decide)] at H
                 by_cases c149 : t479 = t447
                 ·rw [if_pos c149] at H
                  have c149b0 := beq_iff_eq.mpr c149
                  have c149b1 := bne_eq_false_iff_eq.mpr c149
                  clear c149
                  have H' := K_ H
                  clear H
                  have hnb150 := NB451_445.out
                  have hnc150 := NB445_451.out
                  have hnb151 := NB451_457.out
                  have hnc151 := NB457_451.out
                  have hnb152 := NB451_461.out
                  have hnc152 := NB461_451.out
                  have hcz153_0 : wc.cell? ⟨gb451, 0, none⟩ = some (.bool true) := (blk_cell BK451.out 0).trans rfl
                  have hcz153_1 : wc.cell? ⟨gb451, 1, none⟩ = some (.int .i64 t447) := (blk_cell BK451.out 1).trans rfl
                  have hcz153_2 : wc.cell? ⟨gb451, 2, none⟩ = some (.slice Ao20 t448.length co20) := (blk_cell BK451.out 2).trans rfl
                  have hfz153_0 := blk_frozen BK451.out 0
                  have hfz153_1 := blk_frozen BK451.out 1
                  have hfz153_2 := blk_frozen BK451.out 2
                  go_wp2
                  go_loopg [139] kj102 (fun kq v139 w' => ∃ (x139_6 : Int), v139 = .int .i64 x139_6 ∧ Aside0 (laws_FnBest.l2 kq l1 x8_3 x9_51 (x9_51.length : Int) x139_6 t436 t439 t442 true t447 t448 = some r) ∧ Aside0 (kq ≤ kj102) ∧ Aside0 (Kd.R (Kd.int .i64) 3 w' w.heap.size (fun k_ => some k_ ≠ ((.slice Ao12 t436.length co12) : Value).ownBlock ∧ some k_ ≠ ((.slice Ao15 t442.length co15) : Value).ownBlock ∧ some k_ ≠ ((.slice Ao20 t448.length co20) : Value).ownBlock ∧ some k_ ≠ ((.slice Ao27 t454.length co27) : Value).ownBlock ∧ X_ k_ u07 ∧ X_ k_ u09) (.slice Ao108 x9_51.length co108) x9_51) ∧ Aside0 (Kd.R (Kd.int .i64) 3 w' w.heap.size (fun k_ => some k_ ≠ ((.slice Ao108 x9_51.length co108) : Value).ownBlock ∧ some k_ ≠ ((.slice Ao15 t442.length co15) : Value).ownBlock ∧ some k_ ≠ ((.slice Ao20 t448.length co20) : Value).ownBlock ∧ some k_ ≠ ((.slice Ao27 t454.length co27) : Value).ownBlock ∧ X_ k_ u09) (.slice Ao12 t436.length co12) t436) ∧ Aside0 (Kd.N k35 35 w' w.heap.size (fun k_ => some k_ ≠ ((.slice Ao108 x9_51.length co108) : Value).ownBlock ∧ some k_ ≠ ((.slice Ao12 t436.length co12) : Value).ownBlock ∧ some k_ ≠ ((.slice Ao15 t442.length co15) : Value).ownBlock ∧ some k_ ≠ ((.slice Ao20 t448.length co20) : Value).ownBlock ∧ some k_ ≠ ((.slice Ao27 t454.length co27) : Value).ownBlock ∧ X_ k_ u07 ∧ X_ k_ u09 ∧ k_ ≠ gb445 ∧ k_ ≠ gb451 ∧ k_ ≠ gb457 ∧ k_ ≠ gb461) (.slice Ao14 t439.length co14) t439) ∧ Aside0 (Kd.R (Kd.int .i64) 3 w' w.heap.size (fun k_ => some k_ ≠ ((.slice Ao108 x9_51.length co108) : Value).ownBlock ∧ some k_ ≠ ((.slice Ao12 t436.length co12) : Value).ownBlock ∧ some k_ ≠ ((.slice Ao20 t448.length co20) : Value).ownBlock ∧ some k_ ≠ ((.slice Ao27 t454.length co27) : Value).ownBlock ∧ X_ k_ u07) (.slice Ao15 t442.length co15) t442) ∧ Aside0 (Kd.R (Kd.int .i64) 3 w' w.heap.size (fun k_ => some k_ ≠ ((.slice Ao108 x9_51.length co108) : Value).ownBlock ∧ some k_ ≠ ((.slice Ao12 t436.length co12) : Value).ownBlock ∧ some k_ ≠ ((.slice Ao15 t442.length co15) : Value).ownBlock ∧ some k_ ≠ ((.slice Ao27 t454.length co27) : Value).ownBlock ∧ X_ k_ u07 ∧ X_ k_ u09) (.slice Ao20 t448.length co20) t448) ∧ Aside0 (Kd.R (Kd.int .i64) 3 w' w.heap.size (fun k_ => some k_ ≠ ((.slice Ao108 x9_51.length co108) : Value).ownBlock ∧ some k_ ≠ ((.slice Ao12 t436.length co12) : Value).ownBlock ∧ some k_ ≠ ((.slice Ao15 t442.length co15) : Value).ownBlock ∧ some k_ ≠ ((.slice Ao20 t448.length co20) : Value).ownBlock ∧ X_ k_ u07 ∧ X_ k_ u09) (.slice Ao27 t454.length co27) t454) ∧ Aside0 (Kd.R (Kd.int .i64) 3 w' w.heap.size (fun k_ => some k_ ≠ ((.slice Ao108 x9_51.length co108) : Value).ownBlock ∧ some k_ ≠ ((.slice Ao15 t442.length co15) : Value).ownBlock ∧ some k_ ≠ ((.slice Ao20 t448.length co20) : Value).ownBlock ∧ some k_ ≠ ((.slice Ao27 t454.length co27) : Value).ownBlock ∧ X_ k_ u09) u07 x07_51) ∧ Aside0 (Kd.N k35 35 w' w.heap.size (fun k_ => some k_ ≠ ((.slice Ao108 x9_51.length co108) : Value).ownBlock ∧ some k_ ≠ ((.slice Ao12 t436.length co12) : Value).ownBlock ∧ some k_ ≠ ((.slice Ao15 t442.length co15) : Value).ownBlock ∧ some k_ ≠ ((.slice Ao20 t448.length co20) : Value).ownBlock ∧ some k_ ≠ ((.slice Ao27 t454.length co27) : Value).ownBlock ∧ X_ k_ u07 ∧ X_ k_ u09 ∧ k_ ≠ gb445 ∧ k_ ≠ gb451 ∧ k_ ≠ gb457 ∧ k_ ≠ gb461) u08 x08_51) ∧ Aside0 (Kd.R (Kd.int .i64) 3 w' w.heap.size (fun k_ => some k_ ≠ ((.slice Ao108 x9_51.length co108) : Value).ownBlock ∧ some k_ ≠ ((.slice Ao12 t436.length co12) : Value).ownBlock ∧ some k_ ≠ ((.slice Ao20 t448.length co20) : Value).ownBlock ∧ some k_ ≠ ((.slice Ao27 t454.length co27) : Value).ownBlock ∧ X_ k_ u07) u09 x09_51) ∧ Aside0 (w'.heap[gb445]? = some (.cells #[(.slice Ao12 t436.length co12), (.slice Ao14 t439.length co14), (.slice Ao15 t442.length co15)] 26 (0, 0))) ∧ Aside0 (w'.heap[gb451]? = some (.cells #[.bool true, .int .i64 t447, (.slice Ao20 t448.length co20)] 41 (0, 0))) ∧ Aside0 (w'.heap[gb457]? = some (.cells #[.bool t452, .int .i64 t453, (.slice Ao27 t454.length co27)] 41 (0, 0))) ∧ Aside0 (w'.heap[gb461]? = some (.cells #[u07, u08, u09] 26 (0, 0))) ∧ Aside0 (Below w.heap.size w w'))
                  case atStart => exact ⟨(0), rfl, H', ⟨Nat.le_refl _⟩, ⟨HO_9.out⟩, ⟨HO_00.out⟩, ⟨HO_01.out⟩, ⟨HO_02.out⟩, ⟨HO_05.out⟩, ⟨HO_06.out⟩, ⟨HO_07.out⟩, ⟨HO_08.out⟩, ⟨HO_09.out⟩, ⟨BK445.out⟩, ⟨BK451.out⟩, ⟨BK457.out⟩, ⟨BK461.out⟩, ⟨HB.out⟩⟩
                  case round =>
                   clear H'
                   clear c149b0 c149b1 hcz153_0 hcz153_1 hcz153_2 hfz153_0 hfz153_1 hfz153_2
                   obtain ⟨x139_6, rfl, HA, HK6, HO_9, HO_00, HO_01, HO_02, HO_05, HO_06, HO_07, HO_08, HO_09, BK445, BK451, BK457, BK461, HB⟩ := hrel
                   cases gk with
                   | zero => exact absurd HA.out (by simp [laws_FnBest.l2])
                   | succ k6 =>
                    have H := HA.out
                    clear HA
                    simp only [laws_FnBest.l2] at H
                    by_cases c154 : x139_6 < (x9_51.length : Int)
                    ·rw [if_pos c154] at H
                     have c154b0 := decide_eq_true c154
                     clear c154
                     by_cases c155 : 0 ≤ x139_6
                     ·rw [if_pos c155] at H
                      have c155b0 := decide_eq_true c155
                      clear c155
                      by_cases c156 : x139_6 < (x9_51.length : Int)
                      ·rw [if_pos c156] at H
                       have c156b0 := decide_eq_true c156
                       clear c156
                       by_cases c157 : x139_6 < (t448.length : Int)
                       ·rw [if_pos c157] at H
                        have c157b0 := decide_eq_true c157
                        clear c157
                        by_cases c158 : (rd x9_51 x139_6) = (rd t448 x139_6)
                        ·rw [if_pos c158] at H
                         have c158b0 := beq_iff_eq.mpr c158
                         have c158b1 := bne_eq_false_iff_eq.mpr c158
                         clear c158
                         have H' := K_ H
                         clear H
                         try go_wp2
                         replace HO_9 := K_ (Kd.R_drew HO_9.out)
                         replace HO_00 := K_ (Kd.R_drew HO_00.out)
                         replace HO_01 := K_ (Kd.N_drew HO_01.out)
                         replace HO_02 := K_ (Kd.R_drew HO_02.out)
                         replace HO_05 := K_ (Kd.R_drew HO_05.out)
                         replace HO_06 := K_ (Kd.R_drew HO_06.out)
                         replace HO_07 := K_ (Kd.R_drew HO_07.out)
                         replace HO_08 := K_ (Kd.N_drew HO_08.out)
                         replace HO_09 := K_ (Kd.R_drew HO_09.out)
                         replace BK445 := K_ (blk_drew BK445.out)
                         replace BK451 := K_ (blk_drew BK451.out)
                         replace BK457 := K_ (blk_drew BK457.out)
                         replace BK461 := K_ (blk_drew BK461.out)
                         replace HB := K_ (below_drew1 HB.out)
                         have p481 : 0 ≤ (x139_6 : Int) := of_decide_eq_true (by assumption)
                         have q481 : x139_6 < (x9_51.length : Int) := of_decide_eq_true (by assumption)
                         obtain ⟨ad481, e481, hx481_0⟩ := Kd.at_int (Kd.R_reads' HO_9.out).2.2 x139_6 p481 q481
                         cases e481
                         replace p481 := eq_true p481
                         replace q481 := eq_true q481
                         have p482 : 0 ≤ (x139_6 : Int) := of_decide_eq_true (by assumption)
                         have q482 : x139_6 < (t448.length : Int) := of_decide_eq_true (by assumption)
                         obtain ⟨ad482, e482, hx482_0⟩ := Kd.at_int (Kd.R_reads' HO_05.out).2.2 x139_6 p482 q482
                         cases e482
                         replace p482 := eq_true p482
                         replace q482 := eq_true q482
                         refine start_ (n := 10) (S := fun w' => w'.cell? ⟨gb451, 0, none⟩ = some (.bool true) ∧ w'.cell? ⟨gb451, 1, none⟩ = some (.int .i64 t447) ∧ w'.cell? ⟨gb451, 2, none⟩ = some (.slice (some ad482) t448.length co20) ∧ w'.cell? (ad481.add (x139_6).toNat) = some (.int .i64 (rd x9_51 x139_6)) ∧ w'.cell? (ad482.add (x139_6).toNat) = some (.int .i64 (rd t448 x139_6))) (ds := []) #[ff, ff, ff, ff, ff, ff, ff, ff, ff, ff] (by kernel_rfl) rfl rfl ⟨(blk_cell BK451.out 0).trans rfl, (blk_cell BK451.out 1).trans rfl, (blk_cell BK451.out 2).trans rfl, hx481_0, hx482_0⟩ (fun hHeld => ?_); refine with_tabW laws_FnBest.tab32 laws_FnBest.bits32 (fun HT_ HW_ => ?_)
                         generalize wr.drew = w159 at HO_9 HO_00 HO_01 HO_02 HO_05 HO_06 HO_07 HO_08 HO_09 BK445 BK451 BK457 BK461 HB hx481_0 hx482_0 hHeld ⊢
                         refine pure_ (i := 0) (N := some 142) (v := ?_) (a' := ?_) (M_ 10 1) rfl rfl (any_of HT_.out (by kernel_rfl)) (fun _ _ _ h => h) (Or.inl ⟨by rfl, ?_⟩) ?_ ?_
                         rotate_left
                         ·intro w'
                          go_simp
                          with_reducible rfl
                         rotate_left
                         ·simp only [P_, i64_w, i32_w]
                          rfl
                         refine pure_ (i := 1) (N := some 143) (v := ?_) (a' := ?_) (M_ 10 3) rfl rfl (any_of HT_.out (by kernel_rfl)) (fun _ _ _ h => h) (Or.inl ⟨by rfl, ?_⟩) ?_ ?_
                         rotate_left
                         ·intro w'
                          go_simp
                          with_reducible rfl
                         rotate_left
                         ·simp only [P_, i64_w, i32_w]
                          rfl
                         refine pure_ (i := 2) (N := some 144) (v := ?_) (a' := ?_) (M_ 10 7) rfl rfl (any_of HT_.out (by kernel_rfl)) (fun _ _ _ h => h) (Or.inl ⟨by rfl, ?_⟩) ?_ ?_
                         rotate_left
                         ·intro w'
                          go_simp
                          with_reducible rfl
                         rotate_left
                         ·simp only [P_, i64_w, i32_w]
                          rfl
                         refine pure_ (i := 4) (N := some 146) (v := ?_) (a' := ?_) (M_ 10 23) rfl rfl (any_of HT_.out (by kernel_rfl)) (fun _ _ _ h => h) (Or.inl ⟨by rfl, ?_⟩) ?_ ?_
                         rotate_left
                         ·intro w'
                          go_simp
                          with_reducible rfl
                         rotate_left
                         ·simp only [P_, i64_w, i32_w]
                          rfl
                         refine pure_ (i := 6) (N := some 148) (v := ?_) (a' := ?_) (M_ 10 87) rfl rfl (any_of HT_.out (by kernel_rfl)) (fun _ _ _ h => h) (Or.inl ⟨by rfl, ?_⟩) ?_ ?_
                         rotate_left
                         ·intro w'
                          go_simp
                          with_reducible rfl
                         rotate_left
                         ·simp only [P_, i64_w, i32_w]
                          rfl
                         refine take_ (i := 3) (N := some 145) (v := ?_) (a' := ?_) (M_ 10 95) rfl rfl (take_ofW HT_.out HW_.out (by kernel_rfl)) (fun _ _ _ h => h) (Or.inl ⟨by rfl, ?_⟩) hHeld ?_ ?_
                         rotate_left
                         ·rintro w' ⟨s0, s1, s2, s3, s4⟩
                          go_simp
                          with_reducible rfl
                         rotate_left
                         ·simp only [P_, i64_w, i32_w]
                          rfl
                         refine take_ (i := 5) (N := some 147) (v := ?_) (a' := ?_) (M_ 10 127) rfl rfl (take_ofW HT_.out HW_.out (by kernel_rfl)) (fun _ _ _ h => h) (Or.inl ⟨by rfl, ?_⟩) hHeld ?_ ?_
                         rotate_left
                         ·rintro w' ⟨s0, s1, s2, s3, s4⟩
                          go_simp
                          with_reducible rfl
                         rotate_left
                         ·simp only [P_, i64_w, i32_w]
                          rfl
                         refine pure_ (i := 7) (N := some 149) (v := ?_) (a' := ?_) (M_ 10 255) rfl rfl (any_of HT_.out (by kernel_rfl)) (fun _ _ _ h => h) (Or.inl ⟨by rfl, ?_⟩) ?_ ?_
                         rotate_left
                         ·intro w'
                          go_simp
                          with_reducible rfl
                         rotate_left
                         ·simp only [P_, i64_w, i32_w]
                          rfl
                         refine take_ (i := 8) (N := some 150) (v := ?_) (a' := ?_) (M_ 10 511) rfl rfl (take_ofW HT_.out HW_.out (by kernel_rfl)) (fun _ _ _ h => h) (Or.inl ⟨by rfl, ?_⟩) hHeld ?_ ?_
                         rotate_left
                         ·rintro w' ⟨s0, s1, s2, s3, s4⟩
                          go_simp
                          with_reducible rfl
                         rotate_left
                         ·simp only [P_, i64_w, i32_w]
                          rfl
                         refine pure_ (i := 9) (N := some 151) (v := ?_) (a' := ?_) (M_ 10 1023) rfl rfl (any_of HT_.out (by kernel_rfl)) (fun _ _ _ h => h) (Or.inl ⟨by rfl, ?_⟩) ?_ ?_
                         rotate_left
                         ·intro w'
                          go_simp
                          with_reducible rfl
                         rotate_left
                         ·simp only [P_, i64_w, i32_w]
                          rfl
                         refine done_ (done_of HT_.out (by kernel_rfl)) ?_
                         try go_wp2
                         go_roundg k6
                         case measure => have := HJ2.out; have := HJ8.out; have := HK3.out; have := HJ51.out; have := HJ102.out; have := HK6.out; omega
                         case rel => exact ⟨(wrap64 (x139_6 + 1)), rfl, H', ⟨by have := HJ2.out; have := HJ8.out; have := HK3.out; have := HJ51.out; have := HJ102.out; have := HK6.out; omega⟩, ⟨HO_9.out⟩, ⟨HO_00.out⟩, ⟨HO_01.out⟩, ⟨HO_02.out⟩, ⟨HO_05.out⟩, ⟨HO_06.out⟩, ⟨HO_07.out⟩, ⟨HO_08.out⟩, ⟨HO_09.out⟩, ⟨BK445.out⟩, ⟨BK451.out⟩, ⟨BK457.out⟩, ⟨BK461.out⟩, ⟨HB.out⟩⟩
                        ·rw [if_neg c158] at H
                         have c158b0 := beq_eq_false_iff_ne.mpr c158
                         have c158b1 := bne_iff_ne.mpr c158
                         by_cases c160 : (rd x9_51 x139_6) < (rd t448 x139_6)
                         ·rw [if_pos c160] at H
                          exact absurd (H.trans (congrArg some hT_.out)) (by simp)
                         ·rw [if_neg c160] at H
                          have c160b0 : decide ((rd x9_51 x139_6) < (rd t448 x139_6)) = false := decide_eq_false c160
                          clear c160
                          have H' := K_ H
                          clear H
                          try go_wp2
                          replace HO_9 := K_ (Kd.R_drew HO_9.out)
                          replace HO_00 := K_ (Kd.R_drew HO_00.out)
                          replace HO_01 := K_ (Kd.N_drew HO_01.out)
                          replace HO_02 := K_ (Kd.R_drew HO_02.out)
                          replace HO_05 := K_ (Kd.R_drew HO_05.out)
                          replace HO_06 := K_ (Kd.R_drew HO_06.out)
                          replace HO_07 := K_ (Kd.R_drew HO_07.out)
                          replace HO_08 := K_ (Kd.N_drew HO_08.out)
                          replace HO_09 := K_ (Kd.R_drew HO_09.out)
                          replace BK445 := K_ (blk_drew BK445.out)
                          replace BK451 := K_ (blk_drew BK451.out)
                          replace BK457 := K_ (blk_drew BK457.out)
                          replace BK461 := K_ (blk_drew BK461.out)
                          replace HB := K_ (below_drew1 HB.out)
                          have p481 : 0 ≤ (x139_6 : Int) := of_decide_eq_true (by assumption)
                          have q481 : x139_6 < (x9_51.length : Int) := of_decide_eq_true (by assumption)
                          obtain ⟨ad481, e481, hx481_0⟩ := Kd.at_int (Kd.R_reads' HO_9.out).2.2 x139_6 p481 q481
                          cases e481
                          replace p481 := eq_true p481
                          replace q481 := eq_true q481
                          have p482 : 0 ≤ (x139_6 : Int) := of_decide_eq_true (by assumption)
                          have q482 : x139_6 < (t448.length : Int) := of_decide_eq_true (by assumption)
                          obtain ⟨ad482, e482, hx482_0⟩ := Kd.at_int (Kd.R_reads' HO_05.out).2.2 x139_6 p482 q482
                          cases e482
                          replace p482 := eq_true p482
                          replace q482 := eq_true q482
                          refine start_ (n := 10) (S := fun w' => w'.cell? ⟨gb451, 0, none⟩ = some (.bool true) ∧ w'.cell? ⟨gb451, 1, none⟩ = some (.int .i64 t447) ∧ w'.cell? ⟨gb451, 2, none⟩ = some (.slice (some ad482) t448.length co20) ∧ w'.cell? (ad481.add (x139_6).toNat) = some (.int .i64 (rd x9_51 x139_6)) ∧ w'.cell? (ad482.add (x139_6).toNat) = some (.int .i64 (rd t448 x139_6))) (ds := []) #[ff, ff, ff, ff, ff, ff, ff, ff, ff, ff] (by kernel_rfl) rfl rfl ⟨(blk_cell BK451.out 0).trans rfl, (blk_cell BK451.out 1).trans rfl, (blk_cell BK451.out 2).trans rfl, hx481_0, hx482_0⟩ (fun hHeld => ?_); refine with_tabW laws_FnBest.tab32 laws_FnBest.bits32 (fun HT_ HW_ => ?_)
                          generalize wr.drew = w163 at HO_9 HO_00 HO_01 HO_02 HO_05 HO_06 HO_07 HO_08 HO_09 BK445 BK451 BK457 BK461 HB hx481_0 hx482_0 hHeld ⊢
                          refine pure_ (i := 0) (N := some 142) (v := ?_) (a' := ?_) (M_ 10 1) rfl rfl (any_of HT_.out (by kernel_rfl)) (fun _ _ _ h => h) (Or.inl ⟨by rfl, ?_⟩) ?_ ?_
                          rotate_left
                          ·intro w'
                           go_simp
                           with_reducible rfl
                          rotate_left
                          ·simp only [P_, i64_w, i32_w]
                           rfl
                          refine pure_ (i := 1) (N := some 143) (v := ?_) (a' := ?_) (M_ 10 3) rfl rfl (any_of HT_.out (by kernel_rfl)) (fun _ _ _ h => h) (Or.inl ⟨by rfl, ?_⟩) ?_ ?_
                          rotate_left
                          ·intro w'
                           go_simp
                           with_reducible rfl
                          rotate_left
                          ·simp only [P_, i64_w, i32_w]
                           rfl
                          refine pure_ (i := 2) (N := some 144) (v := ?_) (a' := ?_) (M_ 10 7) rfl rfl (any_of HT_.out (by kernel_rfl)) (fun _ _ _ h => h) (Or.inl ⟨by rfl, ?_⟩) ?_ ?_
                          rotate_left
                          ·intro w'
                           go_simp
                           with_reducible rfl
                          rotate_left
                          ·simp only [P_, i64_w, i32_w]
                           rfl
                          refine pure_ (i := 4) (N := some 146) (v := ?_) (a' := ?_) (M_ 10 23) rfl rfl (any_of HT_.out (by kernel_rfl)) (fun _ _ _ h => h) (Or.inl ⟨by rfl, ?_⟩) ?_ ?_
                          rotate_left
                          ·intro w'
                           go_simp
                           with_reducible rfl
                          rotate_left
                          ·simp only [P_, i64_w, i32_w]
                           rfl
                          refine pure_ (i := 6) (N := some 148) (v := ?_) (a' := ?_) (M_ 10 87) rfl rfl (any_of HT_.out (by kernel_rfl)) (fun _ _ _ h => h) (Or.inl ⟨by rfl, ?_⟩) ?_ ?_
                          rotate_left
                          ·intro w'
                           go_simp
                           with_reducible rfl
                          rotate_left
                          ·simp only [P_, i64_w, i32_w]
                           rfl
                          refine take_ (i := 3) (N := some 145) (v := ?_) (a' := ?_) (M_ 10 95) rfl rfl (take_ofW HT_.out HW_.out (by kernel_rfl)) (fun _ _ _ h => h) (Or.inl ⟨by rfl, ?_⟩) hHeld ?_ ?_
                          rotate_left
                          ·rintro w' ⟨s0, s1, s2, s3, s4⟩
                           go_simp
                           with_reducible rfl
                          rotate_left
                          ·simp only [P_, i64_w, i32_w]
                           rfl
                          refine take_ (i := 5) (N := some 147) (v := ?_) (a' := ?_) (M_ 10 127) rfl rfl (take_ofW HT_.out HW_.out (by kernel_rfl)) (fun _ _ _ h => h) (Or.inl ⟨by rfl, ?_⟩) hHeld ?_ ?_
                          rotate_left
                          ·rintro w' ⟨s0, s1, s2, s3, s4⟩
                           go_simp
                           with_reducible rfl
                          rotate_left
                          ·simp only [P_, i64_w, i32_w]
                           rfl
                          refine pure_ (i := 7) (N := some 149) (v := ?_) (a' := ?_) (M_ 10 255) rfl rfl (any_of HT_.out (by kernel_rfl)) (fun _ _ _ h => h) (Or.inl ⟨by rfl, ?_⟩) ?_ ?_
                          rotate_left
                          ·intro w'
                           go_simp
                           with_reducible rfl
                          rotate_left
                          ·simp only [P_, i64_w, i32_w]
                           rfl
                          refine take_ (i := 8) (N := some 150) (v := ?_) (a' := ?_) (M_ 10 511) rfl rfl (take_ofW HT_.out HW_.out (by kernel_rfl)) (fun _ _ _ h => h) (Or.inl ⟨by rfl, ?_⟩) hHeld ?_ ?_
                          rotate_left
                          ·rintro w' ⟨s0, s1, s2, s3, s4⟩
                           go_simp
                           with_reducible rfl
                          rotate_left
                          ·simp only [P_, i64_w, i32_w]
                           rfl
                          refine pure_ (i := 9) (N := some 151) (v := ?_) (a' := ?_) (M_ 10 1023) rfl rfl (any_of HT_.out (by kernel_rfl)) (fun _ _ _ h => h) (Or.inl ⟨by rfl, ?_⟩) ?_ ?_
                          rotate_left
                          ·intro w'
                           go_simp
                           with_reducible rfl
                          rotate_left
                          ·simp only [P_, i64_w, i32_w]
                           rfl
                          refine done_ (done_of HT_.out (by kernel_rfl)) ?_
                          try go_wp2
                          replace HO_9 := K_ (Kd.R_drew HO_9.out)
                          replace HO_00 := K_ (Kd.R_drew HO_00.out)
                          replace HO_01 := K_ (Kd.N_drew HO_01.out)
                          replace HO_02 := K_ (Kd.R_drew HO_02.out)
                          replace HO_05 := K_ (Kd.R_drew HO_05.out)
                          replace HO_06 := K_ (Kd.R_drew HO_06.out)
                          replace HO_07 := K_ (Kd.R_drew HO_07.out)
                          replace HO_08 := K_ (Kd.N_drew HO_08.out)
                          replace HO_09 := K_ (Kd.R_drew HO_09.out)
                          replace BK445 := K_ (blk_drew BK445.out)
                          replace BK451 := K_ (blk_drew BK451.out)
                          replace BK457 := K_ (blk_drew BK457.out)
                          replace BK461 := K_ (blk_drew BK461.out)
                          replace HB := K_ (below_drew1 HB.out)
                          have p483 : 0 ≤ (x139_6 : Int) := of_decide_eq_true (by assumption)
                          have q483 : x139_6 < (x9_51.length : Int) := of_decide_eq_true (by assumption)
                          obtain ⟨ad483, e483, hx483_0⟩ := Kd.at_int (Kd.R_reads' HO_9.out).2.2 x139_6 p483 q483
                          obtain rfl : ad481 = ad483 := (by injection e483)
                          replace p483 := eq_true p483
                          replace q483 := eq_true q483
                          have p484 : 0 ≤ (x139_6 : Int) := of_decide_eq_true (by assumption)
                          have q484 : x139_6 < (t448.length : Int) := of_decide_eq_true (by assumption)
                          obtain ⟨ad484, e484, hx484_0⟩ := Kd.at_int (Kd.R_reads' HO_05.out).2.2 x139_6 p484 q484
                          obtain rfl : ad482 = ad484 := (by injection e484)
                          replace p484 := eq_true p484
                          replace q484 := eq_true q484
                          refine start_ (n := 10) (S := fun w' => w'.cell? ⟨gb451, 0, none⟩ = some (.bool true) ∧ w'.cell? ⟨gb451, 1, none⟩ = some (.int .i64 t447) ∧ w'.cell? ⟨gb451, 2, none⟩ = some (.slice (some ad482) t448.length co20) ∧ w'.cell? (ad481.add (x139_6).toNat) = some (.int .i64 (rd x9_51 x139_6)) ∧ w'.cell? (ad482.add (x139_6).toNat) = some (.int .i64 (rd t448 x139_6))) (ds := []) #[ff, ff, ff, ff, ff, ff, ff, ff, ff, ff] (by kernel_rfl) rfl rfl ⟨(blk_cell BK451.out 0).trans rfl, (blk_cell BK451.out 1).trans rfl, (blk_cell BK451.out 2).trans rfl, hx483_0, hx484_0⟩ (fun hHeld => ?_); refine with_tabW laws_FnBest.tab33 laws_FnBest.bits33 (fun HT_ HW_ => ?_)
                          generalize w163.drew = w164 at HO_9 HO_00 HO_01 HO_02 HO_05 HO_06 HO_07 HO_08 HO_09 BK445 BK451 BK457 BK461 HB hx483_0 hx484_0 hHeld ⊢
                          refine pure_ (i := 0) (N := some 152) (v := ?_) (a' := ?_) (M_ 10 1) rfl rfl (any_of HT_.out (by kernel_rfl)) (fun _ _ _ h => h) (Or.inl ⟨by rfl, ?_⟩) ?_ ?_
                          rotate_left
                          ·intro w'
                           go_simp
                           with_reducible rfl
                          rotate_left
                          ·simp only [P_, i64_w, i32_w]
                           rfl
                          refine pure_ (i := 1) (N := some 153) (v := ?_) (a' := ?_) (M_ 10 3) rfl rfl (any_of HT_.out (by kernel_rfl)) (fun _ _ _ h => h) (Or.inl ⟨by rfl, ?_⟩) ?_ ?_
                          rotate_left
                          ·intro w'
                           go_simp
                           with_reducible rfl
                          rotate_left
                          ·simp only [P_, i64_w, i32_w]
                           rfl
                          refine pure_ (i := 2) (N := some 154) (v := ?_) (a' := ?_) (M_ 10 7) rfl rfl (any_of HT_.out (by kernel_rfl)) (fun _ _ _ h => h) (Or.inl ⟨by rfl, ?_⟩) ?_ ?_
                          rotate_left
                          ·intro w'
                           go_simp
                           with_reducible rfl
                          rotate_left
                          ·simp only [P_, i64_w, i32_w]
                           rfl
                          refine pure_ (i := 4) (N := some 156) (v := ?_) (a' := ?_) (M_ 10 23) rfl rfl (any_of HT_.out (by kernel_rfl)) (fun _ _ _ h => h) (Or.inl ⟨by rfl, ?_⟩) ?_ ?_
                          rotate_left
                          ·intro w'
                           go_simp
                           with_reducible rfl
                          rotate_left
                          ·simp only [P_, i64_w, i32_w]
                           rfl
                          refine pure_ (i := 6) (N := some 158) (v := ?_) (a' := ?_) (M_ 10 87) rfl rfl (any_of HT_.out (by kernel_rfl)) (fun _ _ _ h => h) (Or.inl ⟨by rfl, ?_⟩) ?_ ?_
                          rotate_left
                          ·intro w'
                           go_simp
                           with_reducible rfl
                          rotate_left
                          ·simp only [P_, i64_w, i32_w]
                           rfl
                          refine take_ (i := 3) (N := some 155) (v := ?_) (a' := ?_) (M_ 10 95) rfl rfl (take_ofW HT_.out HW_.out (by kernel_rfl)) (fun _ _ _ h => h) (Or.inl ⟨by rfl, ?_⟩) hHeld ?_ ?_
                          rotate_left
                          ·rintro w' ⟨s0, s1, s2, s3, s4⟩
                           go_simp
                           with_reducible rfl
                          rotate_left
                          ·simp only [P_, i64_w, i32_w]
                           rfl
                          refine take_ (i := 5) (N := some 157) (v := ?_) (a' := ?_) (M_ 10 127) rfl rfl (take_ofW HT_.out HW_.out (by kernel_rfl)) (fun _ _ _ h => h) (Or.inl ⟨by rfl, ?_⟩) hHeld ?_ ?_
                          rotate_left
                          ·rintro w' ⟨s0, s1, s2, s3, s4⟩
                           go_simp
                           with_reducible rfl
                          rotate_left
                          ·simp only [P_, i64_w, i32_w]
                           rfl
                          refine pure_ (i := 7) (N := some 159) (v := ?_) (a' := ?_) (M_ 10 255) rfl rfl (any_of HT_.out (by kernel_rfl)) (fun _ _ _ h => h) (Or.inl ⟨by rfl, ?_⟩) ?_ ?_
                          rotate_left
                          ·intro w'
                           go_simp
                           with_reducible rfl
                          rotate_left
                          ·simp only [P_, i64_w, i32_w]
                           rfl
                          refine take_ (i := 8) (N := some 160) (v := ?_) (a' := ?_) (M_ 10 511) rfl rfl (take_ofW HT_.out HW_.out (by kernel_rfl)) (fun _ _ _ h => h) (Or.inl ⟨by rfl, ?_⟩) hHeld ?_ ?_
                          rotate_left
                          ·rintro w' ⟨s0, s1, s2, s3, s4⟩
                           go_simp
                           with_reducible rfl
                          rotate_left
                          ·simp only [P_, i64_w, i32_w]
                           rfl
                          refine pure_ (i := 9) (N := some 161) (v := ?_) (a' := ?_) (M_ 10 1023) rfl rfl (any_of HT_.out (by kernel_rfl)) (fun _ _ _ h => h) (Or.inl ⟨by rfl, ?_⟩) ?_ ?_
                          rotate_left
                          ·intro w'
                           go_simp
                           with_reducible rfl
                          rotate_left
                          ·simp only [P_, i64_w, i32_w]
                           rfl
                          refine done_ (done_of HT_.out (by kernel_rfl)) ?_
                          try go_wp2
                          go_roundg k6
                          case measure => have := HJ2.out; have := HJ8.out; have := HK3.out; have := HJ51.out; have := HJ102.out; have := HK6.out; omega
                          case rel => exact ⟨(wrap64 (x8_3 + 1)), rfl, H', ⟨by have := HJ2.out; have := HJ8.out; have := HK3.out; have := HJ51.out; have := HJ102.out; have := HK6.out; omega⟩, ⟨by exact Kd.R_mono HO_00.out (fun _ hk => by first | exact ⟨hk.2.1, ⟨hk.2.2.1, hk.2.2.2.1⟩⟩ | simp only [hk, ne_eq, not_false_eq_true, and_self])⟩, ⟨by exact Kd.N_mono HO_01.out (fun _ hk => by first | exact ⟨hk.2.1, ⟨hk.2.2.1, ⟨hk.2.2.2.1, ⟨hk.2.2.2.2.1, ⟨hk.2.2.2.2.2.2.2.1, ⟨hk.2.2.2.2.2.2.2.2.1, hk.2.2.2.2.2.2.2.2.2.1⟩⟩⟩⟩⟩⟩ | simp only [hk, ne_eq, not_false_eq_true, and_self])⟩, ⟨by exact Kd.R_mono HO_02.out (fun _ hk => by first | exact ⟨hk.2.1, ⟨hk.2.2.1, hk.2.2.2.1⟩⟩ | simp only [hk, ne_eq, not_false_eq_true, and_self])⟩, ⟨by exact Kd.R_mono HO_05.out (fun _ hk => by first | exact ⟨hk.2.1, ⟨hk.2.2.1, hk.2.2.2.1⟩⟩ | simp only [hk, ne_eq, not_false_eq_true, and_self])⟩, ⟨by exact Kd.R_mono HO_06.out (fun _ hk => by first | exact ⟨hk.2.1, ⟨hk.2.2.1, hk.2.2.2.1⟩⟩ | simp only [hk, ne_eq, not_false_eq_true, and_self])⟩, ⟨BK445.out⟩, ⟨BK451.out⟩, ⟨BK457.out⟩, ⟨HB.out⟩⟩
                       ·rw [if_neg c157] at H
                        exact absurd H (by simp)
                      ·rw [if_neg c156] at H
                       exact absurd H (by simp)
                     ·rw [if_neg c155] at H
                      exact absurd H (by simp)
                    ·rw [if_neg c154] at H
                     have c154b0 : decide (x139_6 < (x9_51.length : Int)) = false := decide_eq_false c154
                     clear c154
                     have H' := K_ H
                     clear H
                     go_wp2
                     go_roundg k6
                     case measure => have := HJ2.out; have := HJ8.out; have := HK3.out; have := HJ51.out; have := HJ102.out; have := HK6.out; omega
                     case rel => exact ⟨(wrap64 (x8_3 + 1)), rfl, H', ⟨by have := HJ2.out; have := HJ8.out; have := HK3.out; have := HJ51.out; have := HJ102.out; have := HK6.out; omega⟩, ⟨by exact Kd.R_mono HO_00.out (fun _ hk => by first | exact ⟨hk.2.1, ⟨hk.2.2.1, hk.2.2.2.1⟩⟩ | simp only [hk, ne_eq, not_false_eq_true, and_self])⟩, ⟨by exact Kd.N_mono HO_01.out (fun _ hk => by first | exact ⟨hk.2.1, ⟨hk.2.2.1, ⟨hk.2.2.2.1, ⟨hk.2.2.2.2.1, ⟨hk.2.2.2.2.2.2.2.1, ⟨hk.2.2.2.2.2.2.2.2.1, hk.2.2.2.2.2.2.2.2.2.1⟩⟩⟩⟩⟩⟩ | simp only [hk, ne_eq, not_false_eq_true, and_self])⟩, ⟨by exact Kd.R_mono HO_02.out (fun _ hk => by first | exact ⟨hk.2.1, ⟨hk.2.2.1, hk.2.2.2.1⟩⟩ | simp only [hk, ne_eq, not_false_eq_true, and_self])⟩, ⟨by exact Kd.R_mono HO_05.out (fun _ hk => by first | exact ⟨hk.2.1, ⟨hk.2.2.1, hk.2.2.2.1⟩⟩ | simp only [hk, ne_eq, not_false_eq_true, and_self])⟩, ⟨by exact Kd.R_mono HO_06.out (fun _ hk => by first | exact ⟨hk.2.1, ⟨hk.2.2.1, hk.2.2.2.1⟩⟩ | simp only [hk, ne_eq, not_false_eq_true, and_self])⟩, ⟨BK445.out⟩, ⟨BK451.out⟩, ⟨BK457.out⟩, ⟨HB.out⟩⟩
                 ·rw [if_neg c149] at H
                  have c149b0 : (t479 == t447) = false := beq_eq_false_iff_ne.mpr c149
                  have c149b1 := bne_iff_ne.mpr c149
                  have H' := K_ H
                  clear H
                  have hnb165 := NB451_445.out
                  have hnc165 := NB445_451.out
                  have hnb166 := NB451_457.out
                  have hnc166 := NB457_451.out
                  have hnb167 := NB451_461.out
                  have hnc167 := NB461_451.out
                  have hcz168_0 : wc.cell? ⟨gb451, 0, none⟩ = some (.bool true) := (blk_cell BK451.out 0).trans rfl
                  have hcz168_1 : wc.cell? ⟨gb451, 1, none⟩ = some (.int .i64 t447) := (blk_cell BK451.out 1).trans rfl
                  have hcz168_2 : wc.cell? ⟨gb451, 2, none⟩ = some (.slice Ao20 t448.length co20) := (blk_cell BK451.out 2).trans rfl
                  have hfz168_0 := blk_frozen BK451.out 0
                  have hfz168_1 := blk_frozen BK451.out 1
                  have hfz168_2 := blk_frozen BK451.out 2
                  go_wp2
                  go_roundg kj102
                  case measure => have := HJ2.out; have := HJ8.out; have := HK3.out; have := HJ51.out; have := HJ102.out; omega
                  case rel => exact ⟨(wrap64 (x8_3 + 1)), rfl, H', ⟨by have := HJ2.out; have := HJ8.out; have := HK3.out; have := HJ51.out; have := HJ102.out; omega⟩, ⟨by exact Kd.R_mono HO_00.out (fun _ hk => by first | exact ⟨hk.2.1, ⟨hk.2.2.1, hk.2.2.2.1⟩⟩ | simp only [hk, ne_eq, not_false_eq_true, and_self])⟩, ⟨by exact Kd.N_mono HO_01.out (fun _ hk => by first | exact ⟨hk.2.1, ⟨hk.2.2.1, ⟨hk.2.2.2.1, ⟨hk.2.2.2.2.1, ⟨hk.2.2.2.2.2.2.2.1, ⟨hk.2.2.2.2.2.2.2.2.1, hk.2.2.2.2.2.2.2.2.2.1⟩⟩⟩⟩⟩⟩ | simp only [hk, ne_eq, not_false_eq_true, and_self])⟩, ⟨by exact Kd.R_mono HO_02.out (fun _ hk => by first | exact ⟨hk.2.1, ⟨hk.2.2.1, hk.2.2.2.1⟩⟩ | simp only [hk, ne_eq, not_false_eq_true, and_self])⟩, ⟨by exact Kd.R_mono HO_05.out (fun _ hk => by first | exact ⟨hk.2.1, ⟨hk.2.2.1, hk.2.2.2.1⟩⟩ | simp only [hk, ne_eq, not_false_eq_true, and_self])⟩, ⟨by exact Kd.R_mono HO_06.out (fun _ hk => by first | exact ⟨hk.2.1, ⟨hk.2.2.1, hk.2.2.2.1⟩⟩ | simp only [hk, ne_eq, not_false_eq_true, and_self])⟩, ⟨BK445.out⟩, ⟨BK451.out⟩, ⟨BK457.out⟩, ⟨HB.out⟩⟩
           ·rw [if_neg c51] at H
            have c51b0 : decide (x8_3 < 3) = false := decide_eq_false c51
            clear c51
            obtain rfl := Option.some.inj H
            go_wp2
            go_ret
            exact ⟨rfl, HB.out⟩
        ·rw [if_neg c45] at H
         exact absurd (H.trans (congrArg some hT_.out)) (by simp)
       ·replace c43 := Bool.eq_false_iff.mpr c43
        subst c43
        rw [if_neg (show ¬ (false = true) by decide)] at H
        obtain rfl := Option.some.inj H
        have hnb174 := NB451_445.out
        have hnc174 := NB445_451.out
        have hnb175 := NB451_457.out
        have hnc175 := NB457_451.out
        have hcz176_0 : wc.cell? ⟨gb451, 0, none⟩ = some (.bool false) := (blk_cell BK451.out 0).trans rfl
        have hcz176_1 : wc.cell? ⟨gb451, 1, none⟩ = some (.int .i64 t447) := (blk_cell BK451.out 1).trans rfl
        have hcz176_2 : wc.cell? ⟨gb451, 2, none⟩ = some (.slice Ao20 t448.length co20) := (blk_cell BK451.out 2).trans rfl
        have hfz176_0 := blk_frozen BK451.out 0
        have hfz176_1 := blk_frozen BK451.out 1
        have hfz176_2 := blk_frozen BK451.out 2
        go_wp2
        go_ret
        exact ⟨rfl, HB.out⟩

/-- THE ONE PURE STATEMENT of laws_FnBest: yours. -/
def laws_FnBest.Pure : Prop := ∀ (l0 : List Int) (l1 : List Int), l0.length ≤ maxLen → l0.length * 1 ≤ 140737488351232 → (∀ x ∈ l0, (Lit.int .u8 x).wf = true) → l1.length ≤ maxLen → l1.length * 1 ≤ 140737488351232 → (∀ x ∈ l1, (Lit.int .u8 x).wf = true) → ∃ k, laws_FnBest.f k l0 l1 = some true
theorem laws_FnBest.walk (P : laws_FnBest.Pure) (a0 : Option Addr) (len0 cap0 : Nat) (z0 : List Int) (a1 : Option Addr) (len1 cap1 : Nat) (z1 : List Int) (w : World) (w0 : (a0 = none ∧ len0 = 0 ∧ cap0 = 0 ∧ z0 = []) ∨ ∃ x, a0 = some x ∧ len0 ≤ cap0 ∧ cap0 ≤ maxLen ∧ z0.length = cap0 ∧ (∀ i, i < z0.length → w.cell? (x.add i) = some (.int .u8 (z0.getD i 0))) ∧ ∀ n ∈ z0, (Lit.int .u8 n).wf = true) (y0 : len0 * 1 ≤ 140737488351232) (w1 : (a1 = none ∧ len1 = 0 ∧ cap1 = 0 ∧ z1 = []) ∨ ∃ x, a1 = some x ∧ len1 ≤ cap1 ∧ cap1 ≤ maxLen ∧ z1.length = cap1 ∧ (∀ i, i < z1.length → w.cell? (x.add i) = some (.int .u8 (z1.getD i 0))) ∧ ∀ n ∈ z1, (Lit.int .u8 n).wf = true) (y1 : len1 * 1 ≤ 140737488351232) :
  Calls Try.prog 11 #[.slice a0 len0 cap0, .slice a1 len1 cap1] w fun e w' => e = .returned (.bool true) ∧ Below w.heap.size w w' := by
 have hu41_ := @So.field41
 have hu410_ := @So.field41_0
 have hu412_ := @So.field41_2
 obtain ⟨l0, rfl, hr0, hm0, hw0, hc0⟩ := ReadsInt.ofRowC w0
 obtain ⟨l1, rfl, hr1, hm1, hw1, hc1⟩ := ReadsInt.ofRowC w1
 obtain ⟨k, h⟩ := P l0 l1 hm0 y0 hw0 hm1 y1 hw1
 refine (laws_FnBest.calls k _ _ l0 _ _ l1 true w (Kd.C_of_reads (d := (0 : Int)) (h1 := fun _ => rfl) hr0) hc0 (Kd.C_of_reads (d := (0 : Int)) (h1 := fun _ => rfl) hr1) hc1 ⟨rfl⟩ h).mono ?_
 rintro e w' ⟨rfl, hd⟩
 exact ⟨rfl, hd⟩


end Go.Proofs.Ytpbclogjoangfaa.Q
