-- Written by programs of this session (wip/drv.py, wip/hx.py) over the kit's print; not trusted: Lean checks it.
import Derived.Test.YtpbclogjoangfaaFnMeetQ0
import Derived.Test.YtpbclogjoangfaaFnMeetQ5
import Derived.Test.YtpbclogjoangfaaFnMeetQ6
import Derived.Test.YtpbclogjoangfaaFnMeetQ7
import Derived.Test.YtpbclogjoangfaaFnMeetQ8
import Derived.Test.YtpbclogjoangfaaFnMeetSr8
import Derived.Test.YtpbclogjoangfaaFnMeetHka
import Derived.Test.YtpbclogjoangfaaFnMeetSo2
import Derived.Test.YtpbclogjoangfaaFnMeetHke
import Derived.Test.YtpbclogjoangfaaFnMeetSo4
import Derived.Test.YtpbclogjoangfaaFnMeetHkf
import Derived.Test.YtpbclogjoangfaaFnMeetH0
namespace Go.Proofs.Ytpbclogjoangfaa.Q
open Go.RowKit Go.Proofs.YtpbclogjoangfaaW.PrintWords Go.Proofs.YtpbclogjoangfaaW.PrintLast Go.Proofs.YtpbclogjoangfaaW.PrintMore
attribute [local go_sem] max2_int min2_int max_two min_two max_three min_three max_four min_four   -- for this text's walks alone
set_option linter.unusedVariables false
set_option linter.unusedSimpArgs false

open Go.Proofs.Ytpbclogjoangfaa.Sr Go.Proofs.Ytpbclogjoangfaa.So
/-! ### laws_FnMeet: function 7 -/
mutual
def laws_FnMeet.j1 : Nat → List Int → List (S35) → List Int → Option (Bool)
 | 0, _, _, _ => none
 | k + 1, x883000, x883001, x883002 => (impl_Safe.f k x883000 x883001 x883002).bind fun t893 => (if t893 = true then ((impl_Solve.f k x883000 x883001 x883002).bind fun bt894 => (if bt894.1 = true then ((impl_Cost.f k x883000 x883001 x883002 bt894.2.2).bind fun t900 => (if t900 = bt894.2.1 then ((spec_Solve.f k x883000 x883001 x883002).bind fun bt901 => (some (bt894.2.1 == bt901.2.1))) else (some false))) else (some false))) else (some false))
def laws_FnMeet.l0 : Nat → Int → Int → Int → List Int → List (S35) → List Int → Option (Bool)
 | 0, _, _, _, _, _, _ => none
 | k + 1, x3, x4, x6, x883000, x883001, x883002 => if x6 < (wrap64 ((wrap64 (x3 - 1)) - x4)) then (if x6 = (wrap64 ((wrap64 (x3 - 2)) - x4)) then (laws_FnMeet.j1 k x883000 x883001 x883002) else ((impl_Step.f k x883000 x883001 x883002 2).bind fun bt884 => (laws_FnMeet.l0 k x3 x4 (wrap64 (x6 + 1)) bt884.1 bt884.2.1 bt884.2.2))) else (laws_FnMeet.j1 k x883000 x883001 x883002)
end
def laws_FnMeet.f (k : Nat) (l0 : List Int) : Option (Bool) := if (l0.length : Int) > 1048576 then (some true) else ((laws_wByte.f l0 0).bind fun t861 => ((spec_MadeMeet.f k (wrap64 (2 + (Int.tmod t861 7))) 0 false).bind fun bt862 => ((impl_Safe.f k bt862.1 bt862.2.1 bt862.2.2).bind fun t871 => (if t871 = true then (some false) else (if (wrap64 (2 + (Int.tmod t861 7))) < 3 then (some true) else ((laws_wByte.f l0 1).bind fun t872 => (if (wrap64 ((wrap64 (2 + (Int.tmod t861 7))) - 2)) = 0 then (none) else ((spec_MadeMeet.f k (wrap64 (2 + (Int.tmod t861 7))) (wrap64 (1 + (Int.tmod t872 (wrap64 ((wrap64 (2 + (Int.tmod t861 7))) - 2))))) true).bind fun bt873 => ((impl_Safe.f k bt873.1 bt873.2.1 bt873.2.2).bind fun t883 => (if t883 = true then (laws_FnMeet.l0 k (wrap64 (2 + (Int.tmod t861 7))) (wrap64 (1 + (Int.tmod t872 (wrap64 ((wrap64 (2 + (Int.tmod t861 7))) - 2))))) 0 bt873.1 bt873.2.1 bt873.2.2) else (some false)))))))))))
def laws_FnMeet.T20 : Bool × List (List Nat × List Nat) := (true, [([], []), ([0], [0]), ([1], [1]), ([2], [2]), ([2], [2]), ([4, 2], [2, 4]), ([3, 5, 2, 2], [2, 3, 5]), ([2], [2]), ([7, 2], [2, 7]), ([6, 8, 2], [2, 6, 8]), ([2, 9], [2, 9]), ([10, 6], [10]), ([11], [11]), ([12, 11], [11, 12]), ([11], [11]), ([14, 11, 11], [11, 14]), ([15, 11], [11, 15]), ([13, 16, 11], [11, 13, 16]), ([11, 17], [11, 17]), ([18, 15, 0, 1, 2, 3, 4, 5, 6, 7, 8, 9, 10, 11, 12, 13, 14, 15, 16, 17, 18], [18])])
def laws_FnMeet.B20 : List Nat := [0, 1, 3, 7, 7, 23, 63, 7, 135, 511, 1023, 2047, 4095, 8191, 4095, 20479, 53247, 131071, 262143, 524287]
theorem laws_FnMeet.tab20 : rtab .any (opsOf Try.f7 20) = laws_FnMeet.T20 := by kernel_rfl
theorem laws_FnMeet.bits20 : waitsOk laws_FnMeet.T20.2 laws_FnMeet.B20 = true := by kernel_rfl
set_option maxHeartbeats 8000000 in
set_option maxRecDepth 100000 in
theorem laws_FnMeet.calls (k : Nat) (A0 : Option Addr) (c0 : Nat) (l0 : List Int) (r : Bool) (w : World) (hr0 : Kd.C (Kd.int .u8) w A0 l0.length l0) (hc0 : l0.length ≤ c0) (h : laws_FnMeet.f k l0 = some r) :
  Calls Try.prog 7 #[.slice A0 l0.length c0] w fun e w' => e = .returned (.bool r) ∧ Below w.heap.size w w' := by
 have hu41_ := @So.field41
 have hu410_ := @So.field41_0
 have hu412_ := @So.field41_2
 have hu26 := Try.underlying26
 have hu41 := Try.underlying41
 have HR0 := K_ hr0
 have HC0 := K_ hc0
 clear hr0 hc0
 have HB := K_ (Below.refl w.heap.size w)
 have H : (if (l0.length : Int) > 1048576 then (some true) else ((laws_wByte.f l0 0).bind fun t861 => ((spec_MadeMeet.f k (wrap64 (2 + (Int.tmod t861 7))) 0 false).bind fun bt862 => ((impl_Safe.f k bt862.1 bt862.2.1 bt862.2.2).bind fun t871 => (if t871 = true then (some false) else (if (wrap64 (2 + (Int.tmod t861 7))) < 3 then (some true) else ((laws_wByte.f l0 1).bind fun t872 => (if (wrap64 ((wrap64 (2 + (Int.tmod t861 7))) - 2)) = 0 then (none) else ((spec_MadeMeet.f k (wrap64 (2 + (Int.tmod t861 7))) (wrap64 (1 + (Int.tmod t872 (wrap64 ((wrap64 (2 + (Int.tmod t861 7))) - 2))))) true).bind fun bt873 => ((impl_Safe.f k bt873.1 bt873.2.1 bt873.2.2).bind fun t883 => (if t883 = true then (laws_FnMeet.l0 k (wrap64 (2 + (Int.tmod t861 7))) (wrap64 (1 + (Int.tmod t872 (wrap64 ((wrap64 (2 + (Int.tmod t861 7))) - 2))))) 0 bt873.1 bt873.2.1 bt873.2.2) else (some false)))))))))))) = some r := h
 clear h
 by_cases c2 : (l0.length : Int) > 1048576
 case pos =>
  rw [if_pos c2] at H
  have c2b0 := decide_eq_true c2
  have c2b1 : decide (1048576 < l0.length) = true := decide_eq_true (by omega)
  clear c2
  obtain rfl := Option.some.inj H
  go_enter Try.func7, Try.ntmps7
  go_wp2
  go_ret
  exact ⟨rfl, HB.out⟩
 rw [if_neg c2] at H
 have c2b0 := decide_eq_false c2
 have c2b1 : decide (1048576 < l0.length) = false := decide_eq_false (by omega)
 clear c2
 replace H := Option.bind_eq_some_iff.mp H
 obtain ⟨t861, A30, H⟩ := H
 try dsimp only at H
 have A3 := K_ A30
 clear A30
 replace H := Option.bind_eq_some_iff.mp H
 obtain ⟨⟨t862, t865, t868⟩, A40, H⟩ := H
 try dsimp only at H
 have A4 := K_ A40
 clear A40
 replace H := Option.bind_eq_some_iff.mp H
 obtain ⟨t871, A50, H⟩ := H
 try dsimp only at H
 have A5 := K_ A50
 clear A50
 by_cases c6 : t871 = true
 case pos =>
  subst c6
  have H1 : (some false) = some r := by rw [if_pos rfl] at H; exact H
  clear H
  have H := H1
  clear H1
  obtain rfl := Option.some.inj H
  go_enter Try.func7, Try.ntmps7
  go_wp2_with (first | ((with_reducible refine gate_callee (f := 25) rfl ?_); refine goesL_ (some 12) rfl rfl Try.func25 (by kernel_rfl) rfl #[.slice A0 l0.length c0, .int .i64 0] rfl (by (try simp only [List.map_toArray, List.map_cons, List.map_nil]); first | done | rfl | (simp only [List.length_drop, List.length_take]; rfl)) ?_; (with_reducible refine (laws_wByte.calls _ _ l0 0 t861 _ ?side1 ?side2 A3.out).mono ?_); (case side1 => repeat (first | exact HR0.out | (with_reducible refine Kd.C_alloc ?_ _) | (with_reducible refine Kd.C_drewN ?_ _) | (with_reducible refine Kd.C_drew ?_))); (case side2 => exact HC0.out); rintro e w' ⟨rfl, ⟨nd, rfl⟩⟩; refine ⟨_, rfl, ?_⟩) | ((with_reducible refine gate_callee (f := 32) rfl ?_); refine goesL_ (some 16) rfl rfl Try.func32 (by kernel_rfl) rfl #[.int .i64 (wrap64 (2 + (Int.tmod t861 7))), .int .i64 0, .bool false] rfl (by (try simp only [List.map_toArray, List.map_cons, List.map_nil]); first | done | rfl | (simp only [List.length_drop, List.length_take]; rfl)) ?_; (with_reducible refine (spec_MadeMeet.calls k (wrap64 (2 + (Int.tmod t861 7))) 0 false t862 t865 t868 _ A4.out).mono ?_); rintro e w7 ⟨v863, v866, v869, rfl, ho0, ho1, ho2, hb⟩; refine ⟨_, rfl, ?_⟩; have HO864 := K_ (Kd.R_lower (Kd.R_mono (ok' := fun k_ => some k_ ≠ (v869 : Value).ownBlock) ho0 (fun _ hk_ => hk_.2)) (below_size (by repeat (first | (with_reducible first | exact HB.out | apply below_alloc | apply pw_below_drewN | apply below_drew1) | exact HB.out)))); have HO867 := K_ (Kd.N_lower (Kd.N_mono (ok' := fun k_ => some k_ ≠ (v863 : Value).ownBlock ∧ some k_ ≠ (v869 : Value).ownBlock) ho1 (fun k_ hk_ => ⟨hk_.2.1, hk_.2.2⟩)) (below_size (by repeat (first | (with_reducible first | exact HB.out | apply below_alloc | apply pw_below_drewN | apply below_drew1) | exact HB.out)))); have HO870 := K_ (Kd.R_lower (Kd.R_mono (ok' := fun k_ => some k_ ≠ (v863 : Value).ownBlock) ho2 (fun _ hk_ => hk_.2)) (below_size (by repeat (first | (with_reducible first | exact HB.out | apply below_alloc | apply pw_below_drewN | apply below_drew1) | exact HB.out)))); replace HB := K_ (below_step (by repeat (first | (with_reducible first | exact HB.out | apply below_alloc | apply pw_below_drewN | apply below_drew1) | exact HB.out)) hb); (try clear hb); (try clear hb2); (try clear hk); (try clear hi); (try clear ho0); (try clear ho1); (try clear ho2); obtain ⟨Ao8, co8, eo8⟩ := Kd.R_slice HO864.out; subst eo8; obtain ⟨Ao9, co9, eo9⟩ := Kd.N_slice HO867.out; subst eo9; obtain ⟨Ao10, co10, eo10⟩ := Kd.R_slice HO870.out; subst eo10) | ((with_reducible refine gate_callee (f := 30) rfl ?_); refine goesL_ (some 17) rfl rfl Try.func30 (by kernel_rfl) rfl #[.agg #[.slice Ao8 t862.length co8, .slice Ao9 t865.length co9, .slice Ao10 t868.length co10]] rfl (by (try simp only [List.map_toArray, List.map_cons, List.map_nil]); first | done | rfl | (simp only [List.length_drop, List.length_take]; rfl)) ?_; (with_reducible refine (impl_Safe.calls k _ _ t862 _ _ t865 _ _ t868 true _ ?side1 ?side2 ?side3 ?side4 ?side5 ?side6 A5.out).mono ?_); (case side1 => repeat (first | exact (Kd.R_reads' HO864.out).2.2 | (with_reducible refine Kd.C_alloc ?_ _) | (with_reducible refine Kd.C_drewN ?_ _) | (with_reducible refine Kd.C_drew ?_))); (case side2 => exact (Kd.R_reads' HO864.out).2.1); (case side3 => repeat (first | exact (Kd.N_reads' HO867.out).2.2 | (with_reducible refine Kd.C_alloc ?_ _) | (with_reducible refine Kd.C_drewN ?_ _) | (with_reducible refine Kd.C_drew ?_))); (case side4 => exact (Kd.N_reads' HO867.out).2.1); (case side5 => repeat (first | exact (Kd.R_reads' HO870.out).2.2 | (with_reducible refine Kd.C_alloc ?_ _) | (with_reducible refine Kd.C_drewN ?_ _) | (with_reducible refine Kd.C_drew ?_))); (case side6 => exact (Kd.R_reads' HO870.out).2.1); rintro e w11 ⟨rfl, hb⟩; refine ⟨_, rfl, ?_⟩; replace HO864 := K_ (Kd.R_below (by (with_reducible repeat (first | apply Kd.R_alloc | apply Kd.R_drewN | apply Kd.R_drew)); exact HO864.out) hb); replace HO867 := K_ (Kd.N_below (by (with_reducible repeat (first | apply Kd.N_alloc | apply Kd.N_drewN | apply Kd.N_drew)); exact HO867.out) hb); replace HO870 := K_ (Kd.R_below (by (with_reducible repeat (first | apply Kd.R_alloc | apply Kd.R_drewN | apply Kd.R_drew)); exact HO870.out) hb); replace HB := K_ (below_step (by repeat (first | (with_reducible first | exact HB.out | apply below_alloc | apply pw_below_drewN | apply below_drew1) | exact HB.out)) hb); (try clear hb); (try clear hb2); (try clear hk); (try clear hi)))
  go_ret
  exact ⟨rfl, HB.out⟩
 replace c6 := Bool.eq_false_iff.mpr c6
 subst c6
 have H1 : (if (wrap64 (2 + (Int.tmod t861 7))) < 3 then (some true) else ((laws_wByte.f l0 1).bind fun t872 => (if (wrap64 ((wrap64 (2 + (Int.tmod t861 7))) - 2)) = 0 then (none) else ((spec_MadeMeet.f k (wrap64 (2 + (Int.tmod t861 7))) (wrap64 (1 + (Int.tmod t872 (wrap64 ((wrap64 (2 + (Int.tmod t861 7))) - 2))))) true).bind fun bt873 => ((impl_Safe.f k bt873.1 bt873.2.1 bt873.2.2).bind fun t883 => (if t883 = true then (laws_FnMeet.l0 k (wrap64 (2 + (Int.tmod t861 7))) (wrap64 (1 + (Int.tmod t872 (wrap64 ((wrap64 (2 + (Int.tmod t861 7))) - 2))))) 0 bt873.1 bt873.2.1 bt873.2.2) else (some false))))))) = some r := by rw [if_neg (show ¬ (false = true) by decide)] at H; exact H
 clear H
 have H := H1
 clear H1
 by_cases c12 : (wrap64 (2 + (Int.tmod t861 7))) < 3
 case pos =>
  rw [if_pos c12] at H
  have c12b0 := decide_eq_true c12
  clear c12
  obtain rfl := Option.some.inj H
  go_enter Try.func7, Try.ntmps7
  go_wp2_with (first | ((with_reducible refine gate_callee (f := 25) rfl ?_); refine goesL_ (some 12) rfl rfl Try.func25 (by kernel_rfl) rfl #[.slice A0 l0.length c0, .int .i64 0] rfl (by (try simp only [List.map_toArray, List.map_cons, List.map_nil]); first | done | rfl | (simp only [List.length_drop, List.length_take]; rfl)) ?_; (with_reducible refine (laws_wByte.calls _ _ l0 0 t861 _ ?side1 ?side2 A3.out).mono ?_); (case side1 => repeat (first | exact HR0.out | (with_reducible refine Kd.C_alloc ?_ _) | (with_reducible refine Kd.C_drewN ?_ _) | (with_reducible refine Kd.C_drew ?_))); (case side2 => exact HC0.out); rintro e w' ⟨rfl, ⟨nd, rfl⟩⟩; refine ⟨_, rfl, ?_⟩) | ((with_reducible refine gate_callee (f := 32) rfl ?_); refine goesL_ (some 16) rfl rfl Try.func32 (by kernel_rfl) rfl #[.int .i64 (wrap64 (2 + (Int.tmod t861 7))), .int .i64 0, .bool false] rfl (by (try simp only [List.map_toArray, List.map_cons, List.map_nil]); first | done | rfl | (simp only [List.length_drop, List.length_take]; rfl)) ?_; (with_reducible refine (spec_MadeMeet.calls k (wrap64 (2 + (Int.tmod t861 7))) 0 false t862 t865 t868 _ A4.out).mono ?_); rintro e w13 ⟨v863, v866, v869, rfl, ho0, ho1, ho2, hb⟩; refine ⟨_, rfl, ?_⟩; have HO864 := K_ (Kd.R_lower (Kd.R_mono (ok' := fun k_ => some k_ ≠ (v869 : Value).ownBlock) ho0 (fun _ hk_ => hk_.2)) (below_size (by repeat (first | (with_reducible first | exact HB.out | apply below_alloc | apply pw_below_drewN | apply below_drew1) | exact HB.out)))); have HO867 := K_ (Kd.N_lower (Kd.N_mono (ok' := fun k_ => some k_ ≠ (v863 : Value).ownBlock ∧ some k_ ≠ (v869 : Value).ownBlock) ho1 (fun k_ hk_ => ⟨hk_.2.1, hk_.2.2⟩)) (below_size (by repeat (first | (with_reducible first | exact HB.out | apply below_alloc | apply pw_below_drewN | apply below_drew1) | exact HB.out)))); have HO870 := K_ (Kd.R_lower (Kd.R_mono (ok' := fun k_ => some k_ ≠ (v863 : Value).ownBlock) ho2 (fun _ hk_ => hk_.2)) (below_size (by repeat (first | (with_reducible first | exact HB.out | apply below_alloc | apply pw_below_drewN | apply below_drew1) | exact HB.out)))); replace HB := K_ (below_step (by repeat (first | (with_reducible first | exact HB.out | apply below_alloc | apply pw_below_drewN | apply below_drew1) | exact HB.out)) hb); (try clear hb); (try clear hb2); (try clear hk); (try clear hi); (try clear ho0); (try clear ho1); (try clear ho2); obtain ⟨Ao14, co14, eo14⟩ := Kd.R_slice HO864.out; subst eo14; obtain ⟨Ao15, co15, eo15⟩ := Kd.N_slice HO867.out; subst eo15; obtain ⟨Ao16, co16, eo16⟩ := Kd.R_slice HO870.out; subst eo16) | ((with_reducible refine gate_callee (f := 30) rfl ?_); refine goesL_ (some 17) rfl rfl Try.func30 (by kernel_rfl) rfl #[.agg #[.slice Ao14 t862.length co14, .slice Ao15 t865.length co15, .slice Ao16 t868.length co16]] rfl (by (try simp only [List.map_toArray, List.map_cons, List.map_nil]); first | done | rfl | (simp only [List.length_drop, List.length_take]; rfl)) ?_; (with_reducible refine (impl_Safe.calls k _ _ t862 _ _ t865 _ _ t868 false _ ?side1 ?side2 ?side3 ?side4 ?side5 ?side6 A5.out).mono ?_); (case side1 => repeat (first | exact (Kd.R_reads' HO864.out).2.2 | (with_reducible refine Kd.C_alloc ?_ _) | (with_reducible refine Kd.C_drewN ?_ _) | (with_reducible refine Kd.C_drew ?_))); (case side2 => exact (Kd.R_reads' HO864.out).2.1); (case side3 => repeat (first | exact (Kd.N_reads' HO867.out).2.2 | (with_reducible refine Kd.C_alloc ?_ _) | (with_reducible refine Kd.C_drewN ?_ _) | (with_reducible refine Kd.C_drew ?_))); (case side4 => exact (Kd.N_reads' HO867.out).2.1); (case side5 => repeat (first | exact (Kd.R_reads' HO870.out).2.2 | (with_reducible refine Kd.C_alloc ?_ _) | (with_reducible refine Kd.C_drewN ?_ _) | (with_reducible refine Kd.C_drew ?_))); (case side6 => exact (Kd.R_reads' HO870.out).2.1); rintro e w17 ⟨rfl, hb⟩; refine ⟨_, rfl, ?_⟩; replace HO864 := K_ (Kd.R_below (by (with_reducible repeat (first | apply Kd.R_alloc | apply Kd.R_drewN | apply Kd.R_drew)); exact HO864.out) hb); replace HO867 := K_ (Kd.N_below (by (with_reducible repeat (first | apply Kd.N_alloc | apply Kd.N_drewN | apply Kd.N_drew)); exact HO867.out) hb); replace HO870 := K_ (Kd.R_below (by (with_reducible repeat (first | apply Kd.R_alloc | apply Kd.R_drewN | apply Kd.R_drew)); exact HO870.out) hb); replace HB := K_ (below_step (by repeat (first | (with_reducible first | exact HB.out | apply below_alloc | apply pw_below_drewN | apply below_drew1) | exact HB.out)) hb); (try clear hb); (try clear hb2); (try clear hk); (try clear hi)))
  go_ret
  exact ⟨rfl, HB.out⟩
 rw [if_neg c12] at H
 have c12b0 := decide_eq_false c12
 clear c12
 replace H := Option.bind_eq_some_iff.mp H
 obtain ⟨t872, A180, H⟩ := H
 try dsimp only at H
 have A18 := K_ A180
 clear A180
 by_cases c19 : (wrap64 ((wrap64 (2 + (Int.tmod t861 7))) - 2)) = 0
 case pos =>
  rw [if_pos c19] at H
  exact absurd H (by simp)
 rw [if_neg c19] at H
 have c19b0 := beq_eq_false_iff_ne.mpr c19
 have c19b1 := bne_iff_ne.mpr c19
 replace H := Option.bind_eq_some_iff.mp H
 obtain ⟨⟨t873, t876, t879⟩, A200, H⟩ := H
 try dsimp only at H
 have A20 := K_ A200
 clear A200
 replace H := Option.bind_eq_some_iff.mp H
 obtain ⟨t883, A210, H⟩ := H
 try dsimp only at H
 have A21 := K_ A210
 clear A210
 by_cases c22 : t883 = true
 case neg =>
  replace c22 := Bool.eq_false_iff.mpr c22
  subst c22
  have H1 : (some false) = some r := by rw [if_neg (show ¬ (false = true) by decide)] at H; exact H
  clear H
  have H := H1
  clear H1
  obtain rfl := Option.some.inj H
  go_enter Try.func7, Try.ntmps7
  go_wp2_with (first | ((with_reducible refine gate_callee (f := 25) rfl ?_); refine goesL_ (some 12) rfl rfl Try.func25 (by kernel_rfl) rfl #[.slice A0 l0.length c0, .int .i64 0] rfl (by (try simp only [List.map_toArray, List.map_cons, List.map_nil]); first | done | rfl | (simp only [List.length_drop, List.length_take]; rfl)) ?_; (with_reducible refine (laws_wByte.calls _ _ l0 0 t861 _ ?side1 ?side2 A3.out).mono ?_); (case side1 => repeat (first | exact HR0.out | (with_reducible refine Kd.C_alloc ?_ _) | (with_reducible refine Kd.C_drewN ?_ _) | (with_reducible refine Kd.C_drew ?_))); (case side2 => exact HC0.out); rintro e w' ⟨rfl, ⟨nd, rfl⟩⟩; refine ⟨_, rfl, ?_⟩) | ((with_reducible refine gate_callee (f := 32) rfl ?_); refine goesL_ (some 16) rfl rfl Try.func32 (by kernel_rfl) rfl #[.int .i64 (wrap64 (2 + (Int.tmod t861 7))), .int .i64 0, .bool false] rfl (by (try simp only [List.map_toArray, List.map_cons, List.map_nil]); first | done | rfl | (simp only [List.length_drop, List.length_take]; rfl)) ?_; (with_reducible refine (spec_MadeMeet.calls k (wrap64 (2 + (Int.tmod t861 7))) 0 false t862 t865 t868 _ A4.out).mono ?_); rintro e w102 ⟨v863, v866, v869, rfl, ho0, ho1, ho2, hb⟩; refine ⟨_, rfl, ?_⟩; have HO864 := K_ (Kd.R_lower (Kd.R_mono (ok' := fun k_ => some k_ ≠ (v869 : Value).ownBlock) ho0 (fun _ hk_ => hk_.2)) (below_size (by repeat (first | (with_reducible first | exact HB.out | apply below_alloc | apply pw_below_drewN | apply below_drew1) | exact HB.out)))); have HO867 := K_ (Kd.N_lower (Kd.N_mono (ok' := fun k_ => some k_ ≠ (v863 : Value).ownBlock ∧ some k_ ≠ (v869 : Value).ownBlock) ho1 (fun k_ hk_ => ⟨hk_.2.1, hk_.2.2⟩)) (below_size (by repeat (first | (with_reducible first | exact HB.out | apply below_alloc | apply pw_below_drewN | apply below_drew1) | exact HB.out)))); have HO870 := K_ (Kd.R_lower (Kd.R_mono (ok' := fun k_ => some k_ ≠ (v863 : Value).ownBlock) ho2 (fun _ hk_ => hk_.2)) (below_size (by repeat (first | (with_reducible first | exact HB.out | apply below_alloc | apply pw_below_drewN | apply below_drew1) | exact HB.out)))); replace HB := K_ (below_step (by repeat (first | (with_reducible first | exact HB.out | apply below_alloc | apply pw_below_drewN | apply below_drew1) | exact HB.out)) hb); (try clear hb); (try clear hb2); (try clear hk); (try clear hi); (try clear ho0); (try clear ho1); (try clear ho2); obtain ⟨Ao103, co103, eo103⟩ := Kd.R_slice HO864.out; subst eo103; obtain ⟨Ao104, co104, eo104⟩ := Kd.N_slice HO867.out; subst eo104; obtain ⟨Ao105, co105, eo105⟩ := Kd.R_slice HO870.out; subst eo105) | ((with_reducible refine gate_callee (f := 30) rfl ?_); refine goesL_ (some 17) rfl rfl Try.func30 (by kernel_rfl) rfl #[.agg #[.slice Ao103 t862.length co103, .slice Ao104 t865.length co104, .slice Ao105 t868.length co105]] rfl (by (try simp only [List.map_toArray, List.map_cons, List.map_nil]); first | done | rfl | (simp only [List.length_drop, List.length_take]; rfl)) ?_; (with_reducible refine (impl_Safe.calls k _ _ t862 _ _ t865 _ _ t868 false _ ?side1 ?side2 ?side3 ?side4 ?side5 ?side6 A5.out).mono ?_); (case side1 => repeat (first | exact (Kd.R_reads' HO864.out).2.2 | (with_reducible refine Kd.C_alloc ?_ _) | (with_reducible refine Kd.C_drewN ?_ _) | (with_reducible refine Kd.C_drew ?_))); (case side2 => exact (Kd.R_reads' HO864.out).2.1); (case side3 => repeat (first | exact (Kd.N_reads' HO867.out).2.2 | (with_reducible refine Kd.C_alloc ?_ _) | (with_reducible refine Kd.C_drewN ?_ _) | (with_reducible refine Kd.C_drew ?_))); (case side4 => exact (Kd.N_reads' HO867.out).2.1); (case side5 => repeat (first | exact (Kd.R_reads' HO870.out).2.2 | (with_reducible refine Kd.C_alloc ?_ _) | (with_reducible refine Kd.C_drewN ?_ _) | (with_reducible refine Kd.C_drew ?_))); (case side6 => exact (Kd.R_reads' HO870.out).2.1); rintro e w106 ⟨rfl, hb⟩; refine ⟨_, rfl, ?_⟩; replace HO864 := K_ (Kd.R_below (by (with_reducible repeat (first | apply Kd.R_alloc | apply Kd.R_drewN | apply Kd.R_drew)); exact HO864.out) hb); replace HO867 := K_ (Kd.N_below (by (with_reducible repeat (first | apply Kd.N_alloc | apply Kd.N_drewN | apply Kd.N_drew)); exact HO867.out) hb); replace HO870 := K_ (Kd.R_below (by (with_reducible repeat (first | apply Kd.R_alloc | apply Kd.R_drewN | apply Kd.R_drew)); exact HO870.out) hb); replace HB := K_ (below_step (by repeat (first | (with_reducible first | exact HB.out | apply below_alloc | apply pw_below_drewN | apply below_drew1) | exact HB.out)) hb); (try clear hb); (try clear hb2); (try clear hk); (try clear hi)) | ((with_reducible refine gate_callee (f := 25) rfl ?_); refine goesL_ (some 21) rfl rfl Try.func25 (by kernel_rfl) rfl #[.slice A0 l0.length c0, .int .i64 1] rfl (by (try simp only [List.map_toArray, List.map_cons, List.map_nil]); first | done | rfl | (simp only [List.length_drop, List.length_take]; rfl)) ?_; (with_reducible refine (laws_wByte.calls _ _ l0 1 t872 _ ?side1 ?side2 A18.out).mono ?_); (case side1 => repeat (first | exact (Kd.C_below HR0.out HB.out) | (with_reducible refine Kd.C_alloc ?_ _) | (with_reducible refine Kd.C_drewN ?_ _) | (with_reducible refine Kd.C_drew ?_))); (case side2 => exact HC0.out); rintro e w' ⟨rfl, ⟨nd, rfl⟩⟩; refine ⟨_, rfl, ?_⟩; (try (rw [drewN_self w106]; generalize hq_ : World.drewN w106 _ = w106; have n0_ : Aside0 (Kd.R (Kd.int .i64) 3 w106 w.heap.size (fun k_ => some k_ ≠ (.slice Ao105 t868.length co105 : Value).ownBlock) (.slice Ao103 t862.length co103) t862) := ⟨by rw [← hq_]; exact (by (with_reducible repeat (first | apply Kd.R_alloc | apply Kd.R_drewN | apply Kd.R_drew)); exact HO864.out)⟩; have n1_ : Aside0 (Kd.N k35 35 w106 w.heap.size (fun k_ => some k_ ≠ (.slice Ao103 t862.length co103 : Value).ownBlock ∧ some k_ ≠ (.slice Ao105 t868.length co105 : Value).ownBlock) (.slice Ao104 t865.length co104) t865) := ⟨by rw [← hq_]; exact (by (with_reducible repeat (first | apply Kd.N_alloc | apply Kd.N_drewN | apply Kd.N_drew)); exact HO867.out)⟩; have n2_ : Aside0 (Kd.R (Kd.int .i64) 3 w106 w.heap.size (fun k_ => some k_ ≠ (.slice Ao103 t862.length co103 : Value).ownBlock) (.slice Ao105 t868.length co105) t868) := ⟨by rw [← hq_]; exact (by (with_reducible repeat (first | apply Kd.R_alloc | apply Kd.R_drewN | apply Kd.R_drew)); exact HO870.out)⟩; have n3_ : Aside0 (Below w.heap.size w w106) := ⟨by rw [← hq_]; exact (by repeat (first | (with_reducible first | exact HB.out | apply below_alloc | apply pw_below_drewN | apply below_drew1) | exact HB.out))⟩; clear HO864 HO867 HO870 HB hq_; have HO864 := n0_; have HO867 := n1_; have HO870 := n2_; have HB := n3_; clear n0_ n1_ n2_ n3_))) | ((with_reducible refine gate_callee (f := 32) rfl ?_); refine goesL_ (some 28) rfl rfl Try.func32 (by kernel_rfl) rfl #[.int .i64 (wrap64 (2 + (Int.tmod t861 7))), .int .i64 (wrap64 (1 + (Int.tmod t872 (wrap64 ((wrap64 (2 + (Int.tmod t861 7))) - 2))))), .bool true] rfl (by (try simp only [List.map_toArray, List.map_cons, List.map_nil]); first | done | rfl | (simp only [List.length_drop, List.length_take]; rfl)) ?_; (with_reducible refine (spec_MadeMeet.calls k (wrap64 (2 + (Int.tmod t861 7))) (wrap64 (1 + (Int.tmod t872 (wrap64 ((wrap64 (2 + (Int.tmod t861 7))) - 2))))) true t873 t876 t879 _ A20.out).mono ?_); rintro e w107 ⟨v874, v877, v880, rfl, ho0, ho1, ho2, hb⟩; refine ⟨_, rfl, ?_⟩; have HO875 := K_ (Kd.R_lower (Kd.R_new' (Kd.R_new' (Kd.R_mono (ok' := fun k_ => some k_ ≠ (v880 : Value).ownBlock) ho0 (fun _ hk_ => hk_.2)) (Kd.R_lt (by (with_reducible repeat (first | apply Kd.R_alloc | apply Kd.R_drewN | apply Kd.R_drew)); exact HO864.out))) (Kd.R_lt (by (with_reducible repeat (first | apply Kd.R_alloc | apply Kd.R_drewN | apply Kd.R_drew)); exact HO870.out))) (below_size (by repeat (first | (with_reducible first | exact HB.out | apply below_alloc | apply pw_below_drewN | apply below_drew1) | exact HB.out)))); have HO878 := K_ (Kd.N_lower (Kd.N_mono (ok' := fun k_ => some k_ ≠ (v874 : Value).ownBlock ∧ some k_ ≠ (v880 : Value).ownBlock ∧ some k_ ≠ (.slice Ao103 t862.length co103 : Value).ownBlock ∧ some k_ ≠ (.slice Ao104 t865.length co104 : Value).ownBlock ∧ some k_ ≠ (.slice Ao105 t868.length co105 : Value).ownBlock) ho1 (fun k_ hk_ => ⟨hk_.2.1, hk_.2.2, (Kd.fresh' (Kd.R_lt (by (with_reducible repeat (first | apply Kd.R_alloc | apply Kd.R_drewN | apply Kd.R_drew)); exact HO864.out)) k_ hk_.1), (Kd.fresh' (Kd.N_lt (by (with_reducible repeat (first | apply Kd.N_alloc | apply Kd.N_drewN | apply Kd.N_drew)); exact HO867.out)) k_ hk_.1), (Kd.fresh' (Kd.R_lt (by (with_reducible repeat (first | apply Kd.R_alloc | apply Kd.R_drewN | apply Kd.R_drew)); exact HO870.out)) k_ hk_.1)⟩)) (below_size (by repeat (first | (with_reducible first | exact HB.out | apply below_alloc | apply pw_below_drewN | apply below_drew1) | exact HB.out)))); have HO881 := K_ (Kd.R_lower (Kd.R_new' (Kd.R_new' (Kd.R_mono (ok' := fun k_ => some k_ ≠ (v874 : Value).ownBlock) ho2 (fun _ hk_ => hk_.2)) (Kd.R_lt (by (with_reducible repeat (first | apply Kd.R_alloc | apply Kd.R_drewN | apply Kd.R_drew)); exact HO864.out))) (Kd.R_lt (by (with_reducible repeat (first | apply Kd.R_alloc | apply Kd.R_drewN | apply Kd.R_drew)); exact HO870.out))) (below_size (by repeat (first | (with_reducible first | exact HB.out | apply below_alloc | apply pw_below_drewN | apply below_drew1) | exact HB.out)))); replace HO864 := K_ (Kd.R_mono (Kd.R_told (Kd.R_told (Kd.R_old (by (with_reducible repeat (first | apply Kd.R_alloc | apply Kd.R_drewN | apply Kd.R_drew)); exact HO864.out) hb) (Kd.R_base ho0)) (Kd.R_base ho2)) (fun _ h_ => h_.1)); replace HO867 := K_ (Kd.N_mono (Kd.N_told (Kd.N_told (Kd.N_told (Kd.N_old (by (with_reducible repeat (first | apply Kd.N_alloc | apply Kd.N_drewN | apply Kd.N_drew)); exact HO867.out) hb) (Kd.R_base ho0)) (Kd.N_base ho1)) (Kd.R_base ho2)) (fun _ h_ => h_.1)); replace HO870 := K_ (Kd.R_mono (Kd.R_told (Kd.R_told (Kd.R_old (by (with_reducible repeat (first | apply Kd.R_alloc | apply Kd.R_drewN | apply Kd.R_drew)); exact HO870.out) hb) (Kd.R_base ho0)) (Kd.R_base ho2)) (fun _ h_ => h_.1)); replace HB := K_ (below_step (by repeat (first | (with_reducible first | exact HB.out | apply below_alloc | apply pw_below_drewN | apply below_drew1) | exact HB.out)) hb); (try clear hb); (try clear hb2); (try clear hk); (try clear hi); (try clear ho0); (try clear ho1); (try clear ho2)) | ((with_reducible refine gate_dst (N := 5) rfl ?_); refine box_event ?hg (N := 5) ?hd (cs := #[.slice none 0 0, .slice none 0 0, .slice none 0 0]) (t := 26) ?hr ?_; (case hd => rfl); (case hg => rfl); (case hr => first | (go_simp; done) | (go_simp; rfl)); intro gb882 hg w108 hbox hb; have BK882 := K_ (hbox); have GW882 := K_ ((by rw [hg]; exact (below_size (by repeat (first | (with_reducible first | exact HB.out | apply below_alloc | apply pw_below_drewN | apply below_drew1) | exact HB.out))) : w.heap.size ≤ gb882)); have GE882 := K_ ((by rw [hg]; exact (below_size (by repeat (first | (with_reducible first | exact HB.out | apply below_alloc | apply pw_below_drewN | apply below_drew1) | exact HB.out))) : w.heap.size ≤ gb882)); replace HO864 := K_ (Kd.R_below (by (with_reducible repeat (first | apply Kd.R_alloc | apply Kd.R_drewN | apply Kd.R_drew)); exact HO864.out) hb); replace HO867 := K_ (Kd.N_below (Kd.N_elderB (by (with_reducible repeat (first | apply Kd.N_alloc | apply Kd.N_drewN | apply Kd.N_drew)); exact HO867.out) gb882 (Nat.le_of_eq hg.symm)) hb); replace HO870 := K_ (Kd.R_below (by (with_reducible repeat (first | apply Kd.R_alloc | apply Kd.R_drewN | apply Kd.R_drew)); exact HO870.out) hb); replace HO875 := K_ (Kd.R_below (by (with_reducible repeat (first | apply Kd.R_alloc | apply Kd.R_drewN | apply Kd.R_drew)); exact HO875.out) hb); replace HO878 := K_ (Kd.N_below (Kd.N_elderB (by (with_reducible repeat (first | apply Kd.N_alloc | apply Kd.N_drewN | apply Kd.N_drew)); exact HO878.out) gb882 (Nat.le_of_eq hg.symm)) hb); replace HO881 := K_ (Kd.R_below (by (with_reducible repeat (first | apply Kd.R_alloc | apply Kd.R_drewN | apply Kd.R_drew)); exact HO881.out) hb); replace HB := K_ (below_step (by repeat (first | (with_reducible first | exact HB.out | apply below_alloc | apply pw_below_drewN | apply below_drew1) | exact HB.out)) hb); clear hb hbox hg; obtain ⟨Ao109, co109, eo109⟩ := Kd.R_slice HO875.out; subst eo109; obtain ⟨hcz110_0, hcz110_1, hcz110_2, hfz110_0, hfz110_1, hfz110_2⟩ := blkf3_ BK882.out; obtain ⟨Ao111, co111, eo111⟩ := Kd.N_slice HO878.out; subst eo111; obtain ⟨Ao112, co112, eo112⟩ := Kd.R_slice HO881.out; subst eo112) | ((with_reducible refine gate_callee (f := 30) rfl ?_); refine goesL_ (some 30) rfl rfl Try.func30 (by kernel_rfl) rfl #[.agg #[.slice Ao109 t873.length co109, .slice Ao111 t876.length co111, .slice Ao112 t879.length co112]] rfl (by (try simp only [List.map_toArray, List.map_cons, List.map_nil]); first | done | rfl | (simp only [List.length_drop, List.length_take]; rfl)) ?_; (with_reducible refine (impl_Safe.calls k _ _ t873 _ _ t876 _ _ t879 false _ ?side1 ?side2 ?side3 ?side4 ?side5 ?side6 A21.out).mono ?_); (case side1 => refine (Kd.R_reads' (e := 3) (base := w.heap.size) (ok := fun k_ => ((some k_ ≠ (.slice Ao112 t879.length co112 : Value).ownBlock ∧ some k_ ≠ (.slice Ao103 t862.length co103 : Value).ownBlock) ∧ some k_ ≠ (.slice Ao105 t868.length co105 : Value).ownBlock)) (n := t873.length) (c := co109) ?_).2.2; exact (by (with_reducible repeat (first | apply Kd.R_alloc | apply Kd.R_drewN | apply Kd.R_drew)); exact (Kd.R_mono (Kd.R_far (p := ⟨gb882, 2, none⟩) (Kd.R_far (p := ⟨gb882, 1, none⟩) (Kd.R_far (p := ⟨gb882, 0, none⟩) (Kd.R_types HO875.out BK882.out (by decide)) (fun _ hk => hk.2) (.slice Ao109 t873.length co109)) (fun _ hk => hk.2) (.slice Ao111 t876.length co111)) (fun _ hk => hk.2) (.slice Ao112 t879.length co112)) (fun _ h_ => h_.1)))); (case side2 => exact (Kd.R_reads' HO875.out).2.1); (case side3 => refine (Kd.N_reads' (e := 35) (base := w.heap.size) (ok := fun k_ => ((some k_ ≠ (.slice Ao109 t873.length co109 : Value).ownBlock ∧ (some k_ ≠ (.slice Ao112 t879.length co112 : Value).ownBlock ∧ (some k_ ≠ (.slice Ao103 t862.length co103 : Value).ownBlock ∧ (some k_ ≠ (.slice Ao104 t865.length co104 : Value).ownBlock ∧ some k_ ≠ (.slice Ao105 t868.length co105 : Value).ownBlock)))) ∧ k_ ≠ gb882)) (n := t876.length) (c := co111) ?_).2.2; exact (by (with_reducible repeat (first | apply Kd.N_alloc | apply Kd.N_drewN | apply Kd.N_drew)); exact (Kd.N_mono (Kd.N_far (p := ⟨gb882, 2, none⟩) (Kd.N_far (p := ⟨gb882, 1, none⟩) (Kd.N_far (p := ⟨gb882, 0, none⟩) (Kd.N_mono HO878.out (fun k_ hk => (⟨hk, hk.2⟩ : _ ∧ k_ ≠ gb882))) (fun _ hk => hk.2) (.slice Ao109 t873.length co109)) (fun _ hk => hk.2) (.slice Ao111 t876.length co111)) (fun _ hk => hk.2) (.slice Ao112 t879.length co112)) (fun _ h_ => h_.1)))); (case side4 => exact (Kd.N_reads' HO878.out).2.1); (case side5 => refine (Kd.R_reads' (e := 3) (base := w.heap.size) (ok := fun k_ => ((some k_ ≠ (.slice Ao109 t873.length co109 : Value).ownBlock ∧ some k_ ≠ (.slice Ao103 t862.length co103 : Value).ownBlock) ∧ some k_ ≠ (.slice Ao105 t868.length co105 : Value).ownBlock)) (n := t879.length) (c := co112) ?_).2.2; exact (by (with_reducible repeat (first | apply Kd.R_alloc | apply Kd.R_drewN | apply Kd.R_drew)); exact (Kd.R_mono (Kd.R_far (p := ⟨gb882, 2, none⟩) (Kd.R_far (p := ⟨gb882, 1, none⟩) (Kd.R_far (p := ⟨gb882, 0, none⟩) (Kd.R_types HO881.out BK882.out (by decide)) (fun _ hk => hk.2) (.slice Ao109 t873.length co109)) (fun _ hk => hk.2) (.slice Ao111 t876.length co111)) (fun _ hk => hk.2) (.slice Ao112 t879.length co112)) (fun _ h_ => h_.1)))); (case side6 => exact (Kd.R_reads' HO881.out).2.1); rintro e w113 ⟨rfl, hb⟩; refine ⟨_, rfl, ?_⟩; replace HO864 := K_ (Kd.R_below (by (with_reducible repeat (first | apply Kd.R_alloc | apply Kd.R_drewN | apply Kd.R_drew)); exact (Kd.R_mono (Kd.R_far (p := ⟨gb882, 2, none⟩) (Kd.R_far (p := ⟨gb882, 1, none⟩) (Kd.R_far (p := ⟨gb882, 0, none⟩) (Kd.R_types HO864.out BK882.out (by decide)) (fun _ hk => hk.2) (.slice Ao109 t873.length co109)) (fun _ hk => hk.2) (.slice Ao111 t876.length co111)) (fun _ hk => hk.2) (.slice Ao112 t879.length co112)) (fun _ h_ => h_.1))) hb); replace HO867 := K_ (Kd.N_below (by (with_reducible repeat (first | apply Kd.N_alloc | apply Kd.N_drewN | apply Kd.N_drew)); exact (Kd.N_mono (Kd.N_far (p := ⟨gb882, 2, none⟩) (Kd.N_far (p := ⟨gb882, 1, none⟩) (Kd.N_far (p := ⟨gb882, 0, none⟩) (Kd.N_mono HO867.out (fun k_ hk => (⟨hk, hk.2⟩ : _ ∧ k_ ≠ gb882))) (fun _ hk => hk.2) (.slice Ao109 t873.length co109)) (fun _ hk => hk.2) (.slice Ao111 t876.length co111)) (fun _ hk => hk.2) (.slice Ao112 t879.length co112)) (fun _ h_ => h_.1))) hb); replace HO870 := K_ (Kd.R_below (by (with_reducible repeat (first | apply Kd.R_alloc | apply Kd.R_drewN | apply Kd.R_drew)); exact (Kd.R_mono (Kd.R_far (p := ⟨gb882, 2, none⟩) (Kd.R_far (p := ⟨gb882, 1, none⟩) (Kd.R_far (p := ⟨gb882, 0, none⟩) (Kd.R_types HO870.out BK882.out (by decide)) (fun _ hk => hk.2) (.slice Ao109 t873.length co109)) (fun _ hk => hk.2) (.slice Ao111 t876.length co111)) (fun _ hk => hk.2) (.slice Ao112 t879.length co112)) (fun _ h_ => h_.1))) hb); replace HO875 := K_ (Kd.R_below (by (with_reducible repeat (first | apply Kd.R_alloc | apply Kd.R_drewN | apply Kd.R_drew)); exact (Kd.R_mono (Kd.R_far (p := ⟨gb882, 2, none⟩) (Kd.R_far (p := ⟨gb882, 1, none⟩) (Kd.R_far (p := ⟨gb882, 0, none⟩) (Kd.R_types HO875.out BK882.out (by decide)) (fun _ hk => hk.2) (.slice Ao109 t873.length co109)) (fun _ hk => hk.2) (.slice Ao111 t876.length co111)) (fun _ hk => hk.2) (.slice Ao112 t879.length co112)) (fun _ h_ => h_.1))) hb); replace HO878 := K_ (Kd.N_below (by (with_reducible repeat (first | apply Kd.N_alloc | apply Kd.N_drewN | apply Kd.N_drew)); exact (Kd.N_mono (Kd.N_far (p := ⟨gb882, 2, none⟩) (Kd.N_far (p := ⟨gb882, 1, none⟩) (Kd.N_far (p := ⟨gb882, 0, none⟩) (Kd.N_mono HO878.out (fun k_ hk => (⟨hk, hk.2⟩ : _ ∧ k_ ≠ gb882))) (fun _ hk => hk.2) (.slice Ao109 t873.length co109)) (fun _ hk => hk.2) (.slice Ao111 t876.length co111)) (fun _ hk => hk.2) (.slice Ao112 t879.length co112)) (fun _ h_ => h_.1))) hb); replace HO881 := K_ (Kd.R_below (by (with_reducible repeat (first | apply Kd.R_alloc | apply Kd.R_drewN | apply Kd.R_drew)); exact (Kd.R_mono (Kd.R_far (p := ⟨gb882, 2, none⟩) (Kd.R_far (p := ⟨gb882, 1, none⟩) (Kd.R_far (p := ⟨gb882, 0, none⟩) (Kd.R_types HO881.out BK882.out (by decide)) (fun _ hk => hk.2) (.slice Ao109 t873.length co109)) (fun _ hk => hk.2) (.slice Ao111 t876.length co111)) (fun _ hk => hk.2) (.slice Ao112 t879.length co112)) (fun _ h_ => h_.1))) hb); replace BK882 := K_ (blk_below (g := gb882) (o := .cells #[.slice Ao109 t873.length co109, .slice Ao111 t876.length co111, .slice Ao112 t879.length co112] 26 (0, 0)) (by (with_reducible repeat (first | refine blk_drewN ?_ _ | refine blk_drew ?_ | refine blk_alloc ?_ _)); refine blk_put (cs := #[.slice Ao109 t873.length co109, .slice Ao111 t876.length co111, .slice none 0 0]) ?_ 2 _ rfl; (with_reducible repeat (first | refine blk_drewN ?_ _ | refine blk_drew ?_ | refine blk_alloc ?_ _)); refine blk_put (cs := #[.slice Ao109 t873.length co109, .slice none 0 0, .slice none 0 0]) ?_ 1 _ rfl; (with_reducible repeat (first | refine blk_drewN ?_ _ | refine blk_drew ?_ | refine blk_alloc ?_ _)); refine blk_put (cs := #[.slice none 0 0, .slice none 0 0, .slice none 0 0]) ?_ 0 _ rfl; (with_reducible repeat (first | refine blk_drewN ?_ _ | refine blk_drew ?_ | refine blk_alloc ?_ _)); exact BK882.out) hb); replace HB := K_ (below_step (by repeat (first | (with_reducible first | exact HB.out | refine below_set ?_ GE882.out) | exact HB.out)) hb); (try clear hb); (try clear hb2); (try clear hk); (try clear hi)))
  go_ret
  exact ⟨rfl, HB.out⟩
 subst c22
 have H1 : (laws_FnMeet.l0 k (wrap64 (2 + (Int.tmod t861 7))) (wrap64 (1 + (Int.tmod t872 (wrap64 ((wrap64 (2 + (Int.tmod t861 7))) - 2))))) 0 t873 t876 t879) = some r := by rw [if_pos rfl] at H; exact H
 clear H
 have H := H1
 clear H1
 have HC23 := K_ H
 clear H
 go_enter Try.func7, Try.ntmps7
 go_upto_block 0 with (first | ((with_reducible refine gate_callee (f := 25) rfl ?_); refine goesL_ (some 12) rfl rfl Try.func25 (by kernel_rfl) rfl #[.slice A0 l0.length c0, .int .i64 0] rfl (by (try simp only [List.map_toArray, List.map_cons, List.map_nil]); first | done | rfl | (simp only [List.length_drop, List.length_take]; rfl)) ?_; (with_reducible refine (laws_wByte.calls _ _ l0 0 t861 _ ?side1 ?side2 A3.out).mono ?_); (case side1 => repeat (first | exact HR0.out | (with_reducible refine Kd.C_alloc ?_ _) | (with_reducible refine Kd.C_drewN ?_ _) | (with_reducible refine Kd.C_drew ?_))); (case side2 => exact HC0.out); rintro e w' ⟨rfl, ⟨nd, rfl⟩⟩; refine ⟨_, rfl, ?_⟩) | ((with_reducible refine gate_callee (f := 32) rfl ?_); refine goesL_ (some 16) rfl rfl Try.func32 (by kernel_rfl) rfl #[.int .i64 (wrap64 (2 + (Int.tmod t861 7))), .int .i64 0, .bool false] rfl (by (try simp only [List.map_toArray, List.map_cons, List.map_nil]); first | done | rfl | (simp only [List.length_drop, List.length_take]; rfl)) ?_; (with_reducible refine (spec_MadeMeet.calls k (wrap64 (2 + (Int.tmod t861 7))) 0 false t862 t865 t868 _ A4.out).mono ?_); rintro e w24 ⟨v863, v866, v869, rfl, ho0, ho1, ho2, hb⟩; refine ⟨_, rfl, ?_⟩; have HO864 := K_ (Kd.R_lower (Kd.R_mono (ok' := fun k_ => some k_ ≠ (v869 : Value).ownBlock) ho0 (fun _ hk_ => hk_.2)) (below_size (by repeat (first | (with_reducible first | exact HB.out | apply below_alloc | apply pw_below_drewN | apply below_drew1) | exact HB.out)))); have HO867 := K_ (Kd.N_lower (Kd.N_mono (ok' := fun k_ => some k_ ≠ (v863 : Value).ownBlock ∧ some k_ ≠ (v869 : Value).ownBlock) ho1 (fun k_ hk_ => ⟨hk_.2.1, hk_.2.2⟩)) (below_size (by repeat (first | (with_reducible first | exact HB.out | apply below_alloc | apply pw_below_drewN | apply below_drew1) | exact HB.out)))); have HO870 := K_ (Kd.R_lower (Kd.R_mono (ok' := fun k_ => some k_ ≠ (v863 : Value).ownBlock) ho2 (fun _ hk_ => hk_.2)) (below_size (by repeat (first | (with_reducible first | exact HB.out | apply below_alloc | apply pw_below_drewN | apply below_drew1) | exact HB.out)))); replace HB := K_ (below_step (by repeat (first | (with_reducible first | exact HB.out | apply below_alloc | apply pw_below_drewN | apply below_drew1) | exact HB.out)) hb); (try clear hb); (try clear hb2); (try clear hk); (try clear hi); (try clear ho0); (try clear ho1); (try clear ho2); obtain ⟨Ao25, co25, eo25⟩ := Kd.R_slice HO864.out; subst eo25; obtain ⟨Ao26, co26, eo26⟩ := Kd.N_slice HO867.out; subst eo26; obtain ⟨Ao27, co27, eo27⟩ := Kd.R_slice HO870.out; subst eo27) | ((with_reducible refine gate_callee (f := 30) rfl ?_); refine goesL_ (some 17) rfl rfl Try.func30 (by kernel_rfl) rfl #[.agg #[.slice Ao25 t862.length co25, .slice Ao26 t865.length co26, .slice Ao27 t868.length co27]] rfl (by (try simp only [List.map_toArray, List.map_cons, List.map_nil]); first | done | rfl | (simp only [List.length_drop, List.length_take]; rfl)) ?_; (with_reducible refine (impl_Safe.calls k _ _ t862 _ _ t865 _ _ t868 false _ ?side1 ?side2 ?side3 ?side4 ?side5 ?side6 A5.out).mono ?_); (case side1 => repeat (first | exact (Kd.R_reads' HO864.out).2.2 | (with_reducible refine Kd.C_alloc ?_ _) | (with_reducible refine Kd.C_drewN ?_ _) | (with_reducible refine Kd.C_drew ?_))); (case side2 => exact (Kd.R_reads' HO864.out).2.1); (case side3 => repeat (first | exact (Kd.N_reads' HO867.out).2.2 | (with_reducible refine Kd.C_alloc ?_ _) | (with_reducible refine Kd.C_drewN ?_ _) | (with_reducible refine Kd.C_drew ?_))); (case side4 => exact (Kd.N_reads' HO867.out).2.1); (case side5 => repeat (first | exact (Kd.R_reads' HO870.out).2.2 | (with_reducible refine Kd.C_alloc ?_ _) | (with_reducible refine Kd.C_drewN ?_ _) | (with_reducible refine Kd.C_drew ?_))); (case side6 => exact (Kd.R_reads' HO870.out).2.1); rintro e w28 ⟨rfl, hb⟩; refine ⟨_, rfl, ?_⟩; replace HO864 := K_ (Kd.R_below (by (with_reducible repeat (first | apply Kd.R_alloc | apply Kd.R_drewN | apply Kd.R_drew)); exact HO864.out) hb); replace HO867 := K_ (Kd.N_below (by (with_reducible repeat (first | apply Kd.N_alloc | apply Kd.N_drewN | apply Kd.N_drew)); exact HO867.out) hb); replace HO870 := K_ (Kd.R_below (by (with_reducible repeat (first | apply Kd.R_alloc | apply Kd.R_drewN | apply Kd.R_drew)); exact HO870.out) hb); replace HB := K_ (below_step (by repeat (first | (with_reducible first | exact HB.out | apply below_alloc | apply pw_below_drewN | apply below_drew1) | exact HB.out)) hb); (try clear hb); (try clear hb2); (try clear hk); (try clear hi)) | ((with_reducible refine gate_callee (f := 25) rfl ?_); refine goesL_ (some 21) rfl rfl Try.func25 (by kernel_rfl) rfl #[.slice A0 l0.length c0, .int .i64 1] rfl (by (try simp only [List.map_toArray, List.map_cons, List.map_nil]); first | done | rfl | (simp only [List.length_drop, List.length_take]; rfl)) ?_; (with_reducible refine (laws_wByte.calls _ _ l0 1 t872 _ ?side1 ?side2 A18.out).mono ?_); (case side1 => repeat (first | exact (Kd.C_below HR0.out HB.out) | (with_reducible refine Kd.C_alloc ?_ _) | (with_reducible refine Kd.C_drewN ?_ _) | (with_reducible refine Kd.C_drew ?_))); (case side2 => exact HC0.out); rintro e w' ⟨rfl, ⟨nd, rfl⟩⟩; refine ⟨_, rfl, ?_⟩; (try (rw [drewN_self w28]; generalize hq_ : World.drewN w28 _ = w28; have n0_ : Aside0 (Kd.R (Kd.int .i64) 3 w28 w.heap.size (fun k_ => some k_ ≠ (.slice Ao27 t868.length co27 : Value).ownBlock) (.slice Ao25 t862.length co25) t862) := ⟨by rw [← hq_]; exact (by (with_reducible repeat (first | apply Kd.R_alloc | apply Kd.R_drewN | apply Kd.R_drew)); exact HO864.out)⟩; have n1_ : Aside0 (Kd.N k35 35 w28 w.heap.size (fun k_ => some k_ ≠ (.slice Ao25 t862.length co25 : Value).ownBlock ∧ some k_ ≠ (.slice Ao27 t868.length co27 : Value).ownBlock) (.slice Ao26 t865.length co26) t865) := ⟨by rw [← hq_]; exact (by (with_reducible repeat (first | apply Kd.N_alloc | apply Kd.N_drewN | apply Kd.N_drew)); exact HO867.out)⟩; have n2_ : Aside0 (Kd.R (Kd.int .i64) 3 w28 w.heap.size (fun k_ => some k_ ≠ (.slice Ao25 t862.length co25 : Value).ownBlock) (.slice Ao27 t868.length co27) t868) := ⟨by rw [← hq_]; exact (by (with_reducible repeat (first | apply Kd.R_alloc | apply Kd.R_drewN | apply Kd.R_drew)); exact HO870.out)⟩; have n3_ : Aside0 (Below w.heap.size w w28) := ⟨by rw [← hq_]; exact (by repeat (first | (with_reducible first | exact HB.out | apply below_alloc | apply pw_below_drewN | apply below_drew1) | exact HB.out))⟩; clear HO864 HO867 HO870 HB hq_; have HO864 := n0_; have HO867 := n1_; have HO870 := n2_; have HB := n3_; clear n0_ n1_ n2_ n3_))) | ((with_reducible refine gate_callee (f := 32) rfl ?_); refine goesL_ (some 28) rfl rfl Try.func32 (by kernel_rfl) rfl #[.int .i64 (wrap64 (2 + (Int.tmod t861 7))), .int .i64 (wrap64 (1 + (Int.tmod t872 (wrap64 ((wrap64 (2 + (Int.tmod t861 7))) - 2))))), .bool true] rfl (by (try simp only [List.map_toArray, List.map_cons, List.map_nil]); first | done | rfl | (simp only [List.length_drop, List.length_take]; rfl)) ?_; (with_reducible refine (spec_MadeMeet.calls k (wrap64 (2 + (Int.tmod t861 7))) (wrap64 (1 + (Int.tmod t872 (wrap64 ((wrap64 (2 + (Int.tmod t861 7))) - 2))))) true t873 t876 t879 _ A20.out).mono ?_); rintro e w29 ⟨v874, v877, v880, rfl, ho0, ho1, ho2, hb⟩; refine ⟨_, rfl, ?_⟩; have HO875 := K_ (Kd.R_lower (Kd.R_new' (Kd.R_new' (Kd.R_mono (ok' := fun k_ => some k_ ≠ (v880 : Value).ownBlock) ho0 (fun _ hk_ => hk_.2)) (Kd.R_lt (by (with_reducible repeat (first | apply Kd.R_alloc | apply Kd.R_drewN | apply Kd.R_drew)); exact HO864.out))) (Kd.R_lt (by (with_reducible repeat (first | apply Kd.R_alloc | apply Kd.R_drewN | apply Kd.R_drew)); exact HO870.out))) (below_size (by repeat (first | (with_reducible first | exact HB.out | apply below_alloc | apply pw_below_drewN | apply below_drew1) | exact HB.out)))); have HO878 := K_ (Kd.N_lower (Kd.N_mono (ok' := fun k_ => some k_ ≠ (v874 : Value).ownBlock ∧ some k_ ≠ (v880 : Value).ownBlock ∧ some k_ ≠ (.slice Ao25 t862.length co25 : Value).ownBlock ∧ some k_ ≠ (.slice Ao26 t865.length co26 : Value).ownBlock ∧ some k_ ≠ (.slice Ao27 t868.length co27 : Value).ownBlock) ho1 (fun k_ hk_ => ⟨hk_.2.1, hk_.2.2, (Kd.fresh' (Kd.R_lt (by (with_reducible repeat (first | apply Kd.R_alloc | apply Kd.R_drewN | apply Kd.R_drew)); exact HO864.out)) k_ hk_.1), (Kd.fresh' (Kd.N_lt (by (with_reducible repeat (first | apply Kd.N_alloc | apply Kd.N_drewN | apply Kd.N_drew)); exact HO867.out)) k_ hk_.1), (Kd.fresh' (Kd.R_lt (by (with_reducible repeat (first | apply Kd.R_alloc | apply Kd.R_drewN | apply Kd.R_drew)); exact HO870.out)) k_ hk_.1)⟩)) (below_size (by repeat (first | (with_reducible first | exact HB.out | apply below_alloc | apply pw_below_drewN | apply below_drew1) | exact HB.out)))); have HO881 := K_ (Kd.R_lower (Kd.R_new' (Kd.R_new' (Kd.R_mono (ok' := fun k_ => some k_ ≠ (v874 : Value).ownBlock) ho2 (fun _ hk_ => hk_.2)) (Kd.R_lt (by (with_reducible repeat (first | apply Kd.R_alloc | apply Kd.R_drewN | apply Kd.R_drew)); exact HO864.out))) (Kd.R_lt (by (with_reducible repeat (first | apply Kd.R_alloc | apply Kd.R_drewN | apply Kd.R_drew)); exact HO870.out))) (below_size (by repeat (first | (with_reducible first | exact HB.out | apply below_alloc | apply pw_below_drewN | apply below_drew1) | exact HB.out)))); replace HO864 := K_ (Kd.R_mono (Kd.R_told (Kd.R_told (Kd.R_old (by (with_reducible repeat (first | apply Kd.R_alloc | apply Kd.R_drewN | apply Kd.R_drew)); exact HO864.out) hb) (Kd.R_base ho0)) (Kd.R_base ho2)) (fun _ h_ => h_.1)); replace HO867 := K_ (Kd.N_mono (Kd.N_told (Kd.N_told (Kd.N_told (Kd.N_old (by (with_reducible repeat (first | apply Kd.N_alloc | apply Kd.N_drewN | apply Kd.N_drew)); exact HO867.out) hb) (Kd.R_base ho0)) (Kd.N_base ho1)) (Kd.R_base ho2)) (fun _ h_ => h_.1)); replace HO870 := K_ (Kd.R_mono (Kd.R_told (Kd.R_told (Kd.R_old (by (with_reducible repeat (first | apply Kd.R_alloc | apply Kd.R_drewN | apply Kd.R_drew)); exact HO870.out) hb) (Kd.R_base ho0)) (Kd.R_base ho2)) (fun _ h_ => h_.1)); replace HB := K_ (below_step (by repeat (first | (with_reducible first | exact HB.out | apply below_alloc | apply pw_below_drewN | apply below_drew1) | exact HB.out)) hb); (try clear hb); (try clear hb2); (try clear hk); (try clear hi); (try clear ho0); (try clear ho1); (try clear ho2)) | ((with_reducible refine gate_dst (N := 5) rfl ?_); refine box_event ?hg (N := 5) ?hd (cs := #[.slice none 0 0, .slice none 0 0, .slice none 0 0]) (t := 26) ?hr ?_; (case hd => rfl); (case hg => rfl); (case hr => first | (go_simp; done) | (go_simp; rfl)); intro gb882 hg w30 hbox hb; have BK882 := K_ (hbox); have GW882 := K_ ((by rw [hg]; exact (below_size (by repeat (first | (with_reducible first | exact HB.out | apply below_alloc | apply pw_below_drewN | apply below_drew1) | exact HB.out))) : w.heap.size ≤ gb882)); have GE882 := K_ ((by rw [hg]; exact (below_size (by repeat (first | (with_reducible first | exact HB.out | apply below_alloc | apply pw_below_drewN | apply below_drew1) | exact HB.out))) : w.heap.size ≤ gb882)); replace HO864 := K_ (Kd.R_below (by (with_reducible repeat (first | apply Kd.R_alloc | apply Kd.R_drewN | apply Kd.R_drew)); exact HO864.out) hb); replace HO867 := K_ (Kd.N_below (Kd.N_elderB (by (with_reducible repeat (first | apply Kd.N_alloc | apply Kd.N_drewN | apply Kd.N_drew)); exact HO867.out) gb882 (Nat.le_of_eq hg.symm)) hb); replace HO870 := K_ (Kd.R_below (by (with_reducible repeat (first | apply Kd.R_alloc | apply Kd.R_drewN | apply Kd.R_drew)); exact HO870.out) hb); replace HO875 := K_ (Kd.R_below (by (with_reducible repeat (first | apply Kd.R_alloc | apply Kd.R_drewN | apply Kd.R_drew)); exact HO875.out) hb); replace HO878 := K_ (Kd.N_below (Kd.N_elderB (by (with_reducible repeat (first | apply Kd.N_alloc | apply Kd.N_drewN | apply Kd.N_drew)); exact HO878.out) gb882 (Nat.le_of_eq hg.symm)) hb); replace HO881 := K_ (Kd.R_below (by (with_reducible repeat (first | apply Kd.R_alloc | apply Kd.R_drewN | apply Kd.R_drew)); exact HO881.out) hb); replace HB := K_ (below_step (by repeat (first | (with_reducible first | exact HB.out | apply below_alloc | apply pw_below_drewN | apply below_drew1) | exact HB.out)) hb); clear hb hbox hg; obtain ⟨Ao31, co31, eo31⟩ := Kd.R_slice HO875.out; subst eo31; obtain ⟨hcz32_0, hcz32_1, hcz32_2, hfz32_0, hfz32_1, hfz32_2⟩ := blkf3_ BK882.out; obtain ⟨Ao33, co33, eo33⟩ := Kd.N_slice HO878.out; subst eo33; obtain ⟨Ao34, co34, eo34⟩ := Kd.R_slice HO881.out; subst eo34) | ((with_reducible refine gate_callee (f := 30) rfl ?_); refine goesL_ (some 30) rfl rfl Try.func30 (by kernel_rfl) rfl #[.agg #[.slice Ao31 t873.length co31, .slice Ao33 t876.length co33, .slice Ao34 t879.length co34]] rfl (by (try simp only [List.map_toArray, List.map_cons, List.map_nil]); first | done | rfl | (simp only [List.length_drop, List.length_take]; rfl)) ?_; (with_reducible refine (impl_Safe.calls k _ _ t873 _ _ t876 _ _ t879 true _ ?side1 ?side2 ?side3 ?side4 ?side5 ?side6 A21.out).mono ?_); (case side1 => refine (Kd.R_reads' (e := 3) (base := w.heap.size) (ok := fun k_ => ((some k_ ≠ (.slice Ao34 t879.length co34 : Value).ownBlock ∧ some k_ ≠ (.slice Ao25 t862.length co25 : Value).ownBlock) ∧ some k_ ≠ (.slice Ao27 t868.length co27 : Value).ownBlock)) (n := t873.length) (c := co31) ?_).2.2; exact (by (with_reducible repeat (first | apply Kd.R_alloc | apply Kd.R_drewN | apply Kd.R_drew)); exact (Kd.R_mono (Kd.R_far (p := ⟨gb882, 2, none⟩) (Kd.R_far (p := ⟨gb882, 1, none⟩) (Kd.R_far (p := ⟨gb882, 0, none⟩) (Kd.R_types HO875.out BK882.out (by decide)) (fun _ hk => hk.2) (.slice Ao31 t873.length co31)) (fun _ hk => hk.2) (.slice Ao33 t876.length co33)) (fun _ hk => hk.2) (.slice Ao34 t879.length co34)) (fun _ h_ => h_.1)))); (case side2 => exact (Kd.R_reads' HO875.out).2.1); (case side3 => refine (Kd.N_reads' (e := 35) (base := w.heap.size) (ok := fun k_ => ((some k_ ≠ (.slice Ao31 t873.length co31 : Value).ownBlock ∧ (some k_ ≠ (.slice Ao34 t879.length co34 : Value).ownBlock ∧ (some k_ ≠ (.slice Ao25 t862.length co25 : Value).ownBlock ∧ (some k_ ≠ (.slice Ao26 t865.length co26 : Value).ownBlock ∧ some k_ ≠ (.slice Ao27 t868.length co27 : Value).ownBlock)))) ∧ k_ ≠ gb882)) (n := t876.length) (c := co33) ?_).2.2; exact (by (with_reducible repeat (first | apply Kd.N_alloc | apply Kd.N_drewN | apply Kd.N_drew)); exact (Kd.N_mono (Kd.N_far (p := ⟨gb882, 2, none⟩) (Kd.N_far (p := ⟨gb882, 1, none⟩) (Kd.N_far (p := ⟨gb882, 0, none⟩) (Kd.N_mono HO878.out (fun k_ hk => (⟨hk, hk.2⟩ : _ ∧ k_ ≠ gb882))) (fun _ hk => hk.2) (.slice Ao31 t873.length co31)) (fun _ hk => hk.2) (.slice Ao33 t876.length co33)) (fun _ hk => hk.2) (.slice Ao34 t879.length co34)) (fun _ h_ => h_.1)))); (case side4 => exact (Kd.N_reads' HO878.out).2.1); (case side5 => refine (Kd.R_reads' (e := 3) (base := w.heap.size) (ok := fun k_ => ((some k_ ≠ (.slice Ao31 t873.length co31 : Value).ownBlock ∧ some k_ ≠ (.slice Ao25 t862.length co25 : Value).ownBlock) ∧ some k_ ≠ (.slice Ao27 t868.length co27 : Value).ownBlock)) (n := t879.length) (c := co34) ?_).2.2; exact (by (with_reducible repeat (first | apply Kd.R_alloc | apply Kd.R_drewN | apply Kd.R_drew)); exact (Kd.R_mono (Kd.R_far (p := ⟨gb882, 2, none⟩) (Kd.R_far (p := ⟨gb882, 1, none⟩) (Kd.R_far (p := ⟨gb882, 0, none⟩) (Kd.R_types HO881.out BK882.out (by decide)) (fun _ hk => hk.2) (.slice Ao31 t873.length co31)) (fun _ hk => hk.2) (.slice Ao33 t876.length co33)) (fun _ hk => hk.2) (.slice Ao34 t879.length co34)) (fun _ h_ => h_.1)))); (case side6 => exact (Kd.R_reads' HO881.out).2.1); rintro e w35 ⟨rfl, hb⟩; refine ⟨_, rfl, ?_⟩; replace HO864 := K_ (Kd.R_below (by (with_reducible repeat (first | apply Kd.R_alloc | apply Kd.R_drewN | apply Kd.R_drew)); exact (Kd.R_mono (Kd.R_far (p := ⟨gb882, 2, none⟩) (Kd.R_far (p := ⟨gb882, 1, none⟩) (Kd.R_far (p := ⟨gb882, 0, none⟩) (Kd.R_types HO864.out BK882.out (by decide)) (fun _ hk => hk.2) (.slice Ao31 t873.length co31)) (fun _ hk => hk.2) (.slice Ao33 t876.length co33)) (fun _ hk => hk.2) (.slice Ao34 t879.length co34)) (fun _ h_ => h_.1))) hb); replace HO867 := K_ (Kd.N_below (by (with_reducible repeat (first | apply Kd.N_alloc | apply Kd.N_drewN | apply Kd.N_drew)); exact (Kd.N_mono (Kd.N_far (p := ⟨gb882, 2, none⟩) (Kd.N_far (p := ⟨gb882, 1, none⟩) (Kd.N_far (p := ⟨gb882, 0, none⟩) (Kd.N_mono HO867.out (fun k_ hk => (⟨hk, hk.2⟩ : _ ∧ k_ ≠ gb882))) (fun _ hk => hk.2) (.slice Ao31 t873.length co31)) (fun _ hk => hk.2) (.slice Ao33 t876.length co33)) (fun _ hk => hk.2) (.slice Ao34 t879.length co34)) (fun _ h_ => h_.1))) hb); replace HO870 := K_ (Kd.R_below (by (with_reducible repeat (first | apply Kd.R_alloc | apply Kd.R_drewN | apply Kd.R_drew)); exact (Kd.R_mono (Kd.R_far (p := ⟨gb882, 2, none⟩) (Kd.R_far (p := ⟨gb882, 1, none⟩) (Kd.R_far (p := ⟨gb882, 0, none⟩) (Kd.R_types HO870.out BK882.out (by decide)) (fun _ hk => hk.2) (.slice Ao31 t873.length co31)) (fun _ hk => hk.2) (.slice Ao33 t876.length co33)) (fun _ hk => hk.2) (.slice Ao34 t879.length co34)) (fun _ h_ => h_.1))) hb); replace HO875 := K_ (Kd.R_below (by (with_reducible repeat (first | apply Kd.R_alloc | apply Kd.R_drewN | apply Kd.R_drew)); exact (Kd.R_mono (Kd.R_far (p := ⟨gb882, 2, none⟩) (Kd.R_far (p := ⟨gb882, 1, none⟩) (Kd.R_far (p := ⟨gb882, 0, none⟩) (Kd.R_types HO875.out BK882.out (by decide)) (fun _ hk => hk.2) (.slice Ao31 t873.length co31)) (fun _ hk => hk.2) (.slice Ao33 t876.length co33)) (fun _ hk => hk.2) (.slice Ao34 t879.length co34)) (fun _ h_ => h_.1))) hb); replace HO878 := K_ (Kd.N_below (by (with_reducible repeat (first | apply Kd.N_alloc | apply Kd.N_drewN | apply Kd.N_drew)); exact (Kd.N_mono (Kd.N_far (p := ⟨gb882, 2, none⟩) (Kd.N_far (p := ⟨gb882, 1, none⟩) (Kd.N_far (p := ⟨gb882, 0, none⟩) (Kd.N_mono HO878.out (fun k_ hk => (⟨hk, hk.2⟩ : _ ∧ k_ ≠ gb882))) (fun _ hk => hk.2) (.slice Ao31 t873.length co31)) (fun _ hk => hk.2) (.slice Ao33 t876.length co33)) (fun _ hk => hk.2) (.slice Ao34 t879.length co34)) (fun _ h_ => h_.1))) hb); replace HO881 := K_ (Kd.R_below (by (with_reducible repeat (first | apply Kd.R_alloc | apply Kd.R_drewN | apply Kd.R_drew)); exact (Kd.R_mono (Kd.R_far (p := ⟨gb882, 2, none⟩) (Kd.R_far (p := ⟨gb882, 1, none⟩) (Kd.R_far (p := ⟨gb882, 0, none⟩) (Kd.R_types HO881.out BK882.out (by decide)) (fun _ hk => hk.2) (.slice Ao31 t873.length co31)) (fun _ hk => hk.2) (.slice Ao33 t876.length co33)) (fun _ hk => hk.2) (.slice Ao34 t879.length co34)) (fun _ h_ => h_.1))) hb); replace BK882 := K_ (blk_below (g := gb882) (o := .cells #[.slice Ao31 t873.length co31, .slice Ao33 t876.length co33, .slice Ao34 t879.length co34] 26 (0, 0)) (by (with_reducible repeat (first | refine blk_drewN ?_ _ | refine blk_drew ?_ | refine blk_alloc ?_ _)); refine blk_put (cs := #[.slice Ao31 t873.length co31, .slice Ao33 t876.length co33, .slice none 0 0]) ?_ 2 _ rfl; (with_reducible repeat (first | refine blk_drewN ?_ _ | refine blk_drew ?_ | refine blk_alloc ?_ _)); refine blk_put (cs := #[.slice Ao31 t873.length co31, .slice none 0 0, .slice none 0 0]) ?_ 1 _ rfl; (with_reducible repeat (first | refine blk_drewN ?_ _ | refine blk_drew ?_ | refine blk_alloc ?_ _)); refine blk_put (cs := #[.slice none 0 0, .slice none 0 0, .slice none 0 0]) ?_ 0 _ rfl; (with_reducible repeat (first | refine blk_drewN ?_ _ | refine blk_drew ?_ | refine blk_alloc ?_ _)); exact BK882.out) hb); replace HB := K_ (below_step (by repeat (first | (with_reducible first | exact HB.out | refine below_set ?_ GE882.out) | exact HB.out)) hb); (try clear hb); (try clear hb2); (try clear hk); (try clear hi)))
 (try simp only [Act.put, List.setIfInBounds_toArray, List.set_cons_zero, List.set_cons_succ])
 go_cut [] (fun wc => ∃ (kq : Nat) (x883000_22 : List Int) (x883001_22 : List (S35)) (x883002_22 : List Int) (u883000 : Value) (u883001 : Value) (u883002 : Value), Aside0 (laws_FnMeet.j1 kq x883000_22 x883001_22 x883002_22 = some r) ∧ Aside0 (kq ≤ k) ∧ Aside0 (Kd.R (Kd.int .i64) 3 wc w.heap.size (fun k_ => some k_ ≠ (u883002 : Value).ownBlock) u883000 x883000_22) ∧ Aside0 (Kd.N k35 35 wc w.heap.size (fun k_ => some k_ ≠ (u883000 : Value).ownBlock ∧ some k_ ≠ (u883002 : Value).ownBlock ∧ k_ ≠ gb882) u883001 x883001_22) ∧ Aside0 (Kd.R (Kd.int .i64) 3 wc w.heap.size (fun k_ => some k_ ≠ (u883000 : Value).ownBlock) u883002 x883002_22) ∧ Aside0 (wc.heap[gb882]? = some (.cells #[u883000, u883001, u883002] 26 (0, 0))) ∧ Aside0 (Below w.heap.size w wc))
 case first =>
  have H := HC23.out
  clear HC23
  have H' := K_ H
  clear H
  go_wp2
  go_loopg [6] k (fun kq v6 w' => ∃ (x6_1 : Int) (x883000_1 : List Int) (x883001_1 : List (S35)) (x883002_1 : List Int) (u883000 : Value) (u883001 : Value) (u883002 : Value), v6 = .int .i64 x6_1 ∧ Aside0 (laws_FnMeet.l0 kq (wrap64 (2 + (Int.tmod t861 7))) (wrap64 (1 + (Int.tmod t872 (wrap64 ((wrap64 (2 + (Int.tmod t861 7))) - 2))))) x6_1 x883000_1 x883001_1 x883002_1 = some r) ∧ Aside0 (kq ≤ k) ∧ Aside0 (Kd.R (Kd.int .i64) 3 w' w.heap.size (fun k_ => some k_ ≠ (u883002 : Value).ownBlock) u883000 x883000_1) ∧ Aside0 (Kd.N k35 35 w' w.heap.size (fun k_ => some k_ ≠ (u883000 : Value).ownBlock ∧ some k_ ≠ (u883002 : Value).ownBlock ∧ k_ ≠ gb882) u883001 x883001_1) ∧ Aside0 (Kd.R (Kd.int .i64) 3 w' w.heap.size (fun k_ => some k_ ≠ (u883000 : Value).ownBlock) u883002 x883002_1) ∧ Aside0 (w'.heap[gb882]? = some (.cells #[u883000, u883001, u883002] 26 (0, 0))) ∧ Aside0 (Below w.heap.size w w'))
  case atStart => exact ⟨(0), (t873), (t876), (t879), (.slice Ao31 t873.length co31), (.slice Ao33 t876.length co33), (.slice Ao34 t879.length co34), rfl, H', ⟨Nat.le_refl _⟩, ⟨by exact Kd.R_mono HO875.out (fun _ hk => hk.1.1)⟩, ⟨by exact Kd.N_mono HO878.out (fun _ hk => ⟨hk.1.1, ⟨hk.1.2.1, hk.2⟩⟩)⟩, ⟨by exact Kd.R_mono HO881.out (fun _ hk => hk.1.1)⟩, ⟨BK882.out⟩, ⟨HB.out⟩⟩
  case round =>
   clear H'
   clear c2b0 c2b1 c12b0 c19 c19b0 c19b1 hcz32_0 hcz32_1 hcz32_2 hfz32_0 hfz32_1 hfz32_2
   obtain ⟨x6_1, x883000_1, x883001_1, x883002_1, u883000, u883001, u883002, rfl, HA, HK1, HO_883000, HO_883001, HO_883002, BK882, HB⟩ := hrel
   cases gk with
   | zero => exact absurd HA.out (by simp [laws_FnMeet.l0])
   | succ k1 =>
    have H := HA.out
    clear HA
    simp only [laws_FnMeet.l0] at H
    by_cases c36 : x6_1 < (wrap64 ((wrap64 ((wrap64 (2 + (Int.tmod t861 7))) - 1)) - (wrap64 (1 + (Int.tmod t872 (wrap64 ((wrap64 (2 + (Int.tmod t861 7))) - 2)))))))
    case neg =>
     rw [if_neg c36] at H
     have c36b0 := decide_eq_false c36
     clear c36
     (first | rw [c36b0] | (simp only [i64_w, i32_w]; rw [c36b0]) | skip)
     have H' := K_ H
     clear H
     go_wp2
     go_meet
     case rel => exact ⟨_, (x883000_1), (x883001_1), (x883002_1), (u883000), (u883001), (u883002), H', ⟨by have := HK1.out; first | omega | exact Nat.le_refl _⟩, ⟨by exact HO_883000.out⟩, ⟨by exact HO_883001.out⟩, ⟨by exact HO_883002.out⟩, ⟨BK882.out⟩, ⟨HB.out⟩⟩
    rw [if_pos c36] at H
    have c36b0 := decide_eq_true c36
    clear c36
    (first | rw [c36b0] | (simp only [i64_w, i32_w]; rw [c36b0]) | skip)
    by_cases c37 : x6_1 = (wrap64 ((wrap64 ((wrap64 (2 + (Int.tmod t861 7))) - 2)) - (wrap64 (1 + (Int.tmod t872 (wrap64 ((wrap64 (2 + (Int.tmod t861 7))) - 2)))))))
    case pos =>
     rw [if_pos c37] at H
     have c37b0 := beq_iff_eq.mpr c37
     have c37b1 := bne_eq_false_iff_eq.mpr c37
     clear c37
     have H' := K_ H
     clear H
     go_wp2
     go_meet
     case rel => exact ⟨_, (x883000_1), (x883001_1), (x883002_1), (u883000), (u883001), (u883002), H', ⟨by have := HK1.out; first | omega | exact Nat.le_refl _⟩, ⟨by exact HO_883000.out⟩, ⟨by exact HO_883001.out⟩, ⟨by exact HO_883002.out⟩, ⟨BK882.out⟩, ⟨HB.out⟩⟩
    rw [if_neg c37] at H
    have c37b0 := beq_eq_false_iff_ne.mpr c37
    have c37b1 := bne_iff_ne.mpr c37
    replace H := Option.bind_eq_some_iff.mp H
    obtain ⟨⟨t884, t887, t890⟩, A380, H⟩ := H
    try dsimp only at H
    have A38 := K_ A380
    clear A380
    have H' := K_ H
    clear H
    obtain ⟨hcz39_0, hcz39_1, hcz39_2, hfz39_0, hfz39_1, hfz39_2⟩ := blkf3_ BK882.out
    obtain ⟨Ao40, co40, eo40⟩ := Kd.R_slice HO_883000.out
    subst eo40
    obtain ⟨Ao41, co41, eo41⟩ := Kd.N_slice HO_883001.out
    subst eo41
    obtain ⟨Ao42, co42, eo42⟩ := Kd.R_slice HO_883002.out
    subst eo42
    go_wp2_with (first | ((with_reducible refine gate_callee (f := 33) rfl ?_); refine goesL_ (some 47) rfl rfl Try.func33 (by kernel_rfl) rfl #[.agg #[.slice Ao40 x883000_1.length co40, .slice Ao41 x883001_1.length co41, .slice Ao42 x883002_1.length co42], .int .i64 2] rfl (by simp only [List.map_toArray, List.map_cons, List.map_nil]; try rfl) ?_; (with_reducible refine (impl_Step.calls k1 _ _ x883000_1 _ _ x883001_1 _ _ x883002_1 2 t884 t887 t890 _ ?side1 ?side2 ?side3 ?side4 ?side5 ?side6 A38.out).mono ?_); (case side1 => exact (Kd.R_reads' HO_883000.out).2.2); (case side2 => exact (Kd.R_reads' HO_883000.out).2.1); (case side3 => exact (Kd.N_reads' HO_883001.out).2.2); (case side4 => exact (Kd.N_reads' HO_883001.out).2.1); (case side5 => exact (Kd.R_reads' HO_883002.out).2.2); (case side6 => exact (Kd.R_reads' HO_883002.out).2.1); rintro e w43 ⟨v885, v888, v891, rfl, ho0, ho1, ho2, hb⟩; refine ⟨_, rfl, ?_⟩; have HO886 := K_ (Kd.R_lower (Kd.R_new' (Kd.R_new' (Kd.R_mono (ok' := fun k_ => some k_ ≠ (v891 : Value).ownBlock) ho0 (fun _ hk_ => hk_.2)) (Kd.R_lt (by exact HO_883000.out))) (Kd.R_lt (by exact HO_883002.out))) (below_size (HB.out))); have HO889 := K_ (Kd.N_lower (Kd.N_mono (ok' := fun k_ => some k_ ≠ (v885 : Value).ownBlock ∧ some k_ ≠ (v891 : Value).ownBlock ∧ some k_ ≠ (.slice Ao40 x883000_1.length co40 : Value).ownBlock ∧ some k_ ≠ (.slice Ao41 x883001_1.length co41 : Value).ownBlock ∧ some k_ ≠ (.slice Ao42 x883002_1.length co42 : Value).ownBlock ∧ k_ ≠ gb882) ho1 (fun k_ hk_ => ⟨hk_.2.1, hk_.2.2, (Kd.fresh' (Kd.R_lt (by exact HO_883000.out)) k_ hk_.1), (Kd.fresh' (Kd.N_lt (by exact HO_883001.out)) k_ hk_.1), (Kd.fresh' (Kd.R_lt (by exact HO_883002.out)) k_ hk_.1), (Kd.freshB (g := gb882) (o := .cells #[.slice Ao40 x883000_1.length co40, .slice Ao41 x883001_1.length co41, .slice Ao42 x883002_1.length co42] 26 (0, 0)) BK882.out k_ hk_.1)⟩)) (below_size (HB.out))); have HO892 := K_ (Kd.R_lower (Kd.R_new' (Kd.R_new' (Kd.R_mono (ok' := fun k_ => some k_ ≠ (v885 : Value).ownBlock) ho2 (fun _ hk_ => hk_.2)) (Kd.R_lt (by exact HO_883000.out))) (Kd.R_lt (by exact HO_883002.out))) (below_size (HB.out))); replace HO_883000 := K_ (Kd.R_mono (Kd.R_told (Kd.R_told (Kd.R_old (by exact HO_883000.out) hb) (Kd.R_base ho0)) (Kd.R_base ho2)) (fun _ h_ => h_.1)); replace HO_883001 := K_ (Kd.N_mono (Kd.N_told (Kd.N_told (Kd.N_told (Kd.N_old (by exact HO_883001.out) hb) (Kd.R_base ho0)) (Kd.N_base ho1)) (Kd.R_base ho2)) (fun _ h_ => h_.1)); replace HO_883002 := K_ (Kd.R_mono (Kd.R_told (Kd.R_told (Kd.R_old (by exact HO_883002.out) hb) (Kd.R_base ho0)) (Kd.R_base ho2)) (fun _ h_ => h_.1)); replace BK882 := K_ (blk_below (g := gb882) (o := .cells #[.slice Ao40 x883000_1.length co40, .slice Ao41 x883001_1.length co41, .slice Ao42 x883002_1.length co42] 26 (0, 0)) BK882.out hb); replace HB := K_ (below_step (HB.out) hb); clear hb ho0 ho1 ho2; obtain ⟨Ao44, co44, eo44⟩ := Kd.R_slice HO886.out; subst eo44; obtain ⟨hcz45_0, hcz45_1, hcz45_2, hfz45_0, hfz45_1, hfz45_2⟩ := blkf3_ BK882.out; obtain ⟨Ao46, co46, eo46⟩ := Kd.N_slice HO889.out; subst eo46; obtain ⟨Ao47, co47, eo47⟩ := Kd.R_slice HO892.out; subst eo47))
    go_roundg k1
    case measure => have := HK1.out; omega
    case rel => exact ⟨(wrap64 (x6_1 + 1)), (t884), (t887), (t890), (.slice Ao44 t884.length co44), (.slice Ao46 t887.length co46), (.slice Ao47 t890.length co47), (by first | rfl | (simp; done) | (simp [*]; done)), H', ⟨by have := HK1.out; omega⟩, ⟨by (with_reducible repeat (first | apply Kd.R_alloc | apply Kd.R_drewN | apply Kd.R_drew)); exact Kd.R_mono (Kd.R_far (p := ⟨gb882, 2, none⟩) (Kd.R_far (p := ⟨gb882, 1, none⟩) (Kd.R_far (p := ⟨gb882, 0, none⟩) (Kd.R_types HO886.out BK882.out (by decide)) (fun _ hk => hk.2) (.slice Ao44 t884.length co44)) (fun _ hk => hk.2) (.slice Ao46 t887.length co46)) (fun _ hk => hk.2) (.slice Ao47 t890.length co47)) (fun _ hk => hk.1.1.1)⟩, ⟨by (with_reducible repeat (first | apply Kd.N_alloc | apply Kd.N_drewN | apply Kd.N_drew)); exact Kd.N_mono (Kd.N_far (p := ⟨gb882, 2, none⟩) (Kd.N_far (p := ⟨gb882, 1, none⟩) (Kd.N_far (p := ⟨gb882, 0, none⟩) (Kd.N_mono HO889.out (fun k_ hk => (⟨hk, hk.2.2.2.2.2⟩ : _ ∧ k_ ≠ gb882))) (fun _ hk => hk.2) (.slice Ao44 t884.length co44)) (fun _ hk => hk.2) (.slice Ao46 t887.length co46)) (fun _ hk => hk.2) (.slice Ao47 t890.length co47)) (fun _ hk => ⟨hk.1.1, ⟨hk.1.2.1, hk.1.2.2.2.2.2⟩⟩)⟩, ⟨by (with_reducible repeat (first | apply Kd.R_alloc | apply Kd.R_drewN | apply Kd.R_drew)); exact Kd.R_mono (Kd.R_far (p := ⟨gb882, 2, none⟩) (Kd.R_far (p := ⟨gb882, 1, none⟩) (Kd.R_far (p := ⟨gb882, 0, none⟩) (Kd.R_types HO892.out BK882.out (by decide)) (fun _ hk => hk.2) (.slice Ao44 t884.length co44)) (fun _ hk => hk.2) (.slice Ao46 t887.length co46)) (fun _ hk => hk.2) (.slice Ao47 t890.length co47)) (fun _ hk => hk.1.1.1)⟩, ⟨by (with_reducible repeat (first | refine blk_drewN ?_ _ | refine blk_drew ?_ | refine blk_alloc ?_ _)); refine blk_put (cs := #[.slice Ao44 t884.length co44, .slice Ao46 t887.length co46, .slice Ao42 x883002_1.length co42]) ?_ 2 _ rfl; (with_reducible repeat (first | refine blk_drewN ?_ _ | refine blk_drew ?_ | refine blk_alloc ?_ _)); refine blk_put (cs := #[.slice Ao44 t884.length co44, .slice Ao41 x883001_1.length co41, .slice Ao42 x883002_1.length co42]) ?_ 1 _ rfl; (with_reducible repeat (first | refine blk_drewN ?_ _ | refine blk_drew ?_ | refine blk_alloc ?_ _)); refine blk_put (cs := #[.slice Ao40 x883000_1.length co40, .slice Ao41 x883001_1.length co41, .slice Ao42 x883002_1.length co42]) ?_ 0 _ rfl; (with_reducible repeat (first | refine blk_drewN ?_ _ | refine blk_drew ?_ | refine blk_alloc ?_ _)); exact BK882.out⟩, ⟨by repeat (first | (with_reducible first | exact HB.out | refine below_set ?_ GE882.out) | exact HB.out)⟩⟩
 case rest =>
  clear HC23
  clear c2b0 c2b1 c12b0 c19 c19b0 c19b1 hcz32_0 hcz32_1 hcz32_2 hfz32_0 hfz32_1 hfz32_2
  obtain ⟨kq, x883000_22, x883001_22, x883002_22, u883000, u883001, u883002, HA, HJ22, HO_883000, HO_883001, HO_883002, BK882, HB⟩ := hcut
  cases kq with
  | zero => exact absurd HA.out (by simp [laws_FnMeet.j1])
  | succ kj22 =>
   have H := HA.out
   clear HA
   simp only [laws_FnMeet.j1] at H
   replace H := Option.bind_eq_some_iff.mp H
   obtain ⟨t893, A480, H⟩ := H
   try dsimp only at H
   have A48 := K_ A480
   clear A480
   by_cases c49 : t893 = true
   case neg =>
    replace c49 := Bool.eq_false_iff.mpr c49
    subst c49
    have H1 : (some false) = some r := by rw [if_neg (show ¬ (false = true) by decide)] at H; exact H
    clear H
    have H := H1
    clear H1
    obtain rfl := Option.some.inj H
    obtain ⟨hcz97_0, hcz97_1, hcz97_2, hfz97_0, hfz97_1, hfz97_2⟩ := blkf3_ BK882.out
    obtain ⟨Ao98, co98, eo98⟩ := Kd.R_slice HO_883000.out
    subst eo98
    obtain ⟨Ao99, co99, eo99⟩ := Kd.N_slice HO_883001.out
    subst eo99
    obtain ⟨Ao100, co100, eo100⟩ := Kd.R_slice HO_883002.out
    subst eo100
    go_wp2_with (first | ((with_reducible refine gate_callee (f := 30) rfl ?_); refine goesL_ (some 49) rfl rfl Try.func30 (by kernel_rfl) rfl #[.agg #[.slice Ao98 x883000_22.length co98, .slice Ao99 x883001_22.length co99, .slice Ao100 x883002_22.length co100]] rfl (by simp only [List.map_toArray, List.map_cons, List.map_nil]; try rfl) ?_; (with_reducible refine (impl_Safe.calls kj22 _ _ x883000_22 _ _ x883001_22 _ _ x883002_22 false _ ?side1 ?side2 ?side3 ?side4 ?side5 ?side6 A48.out).mono ?_); (case side1 => exact (Kd.R_reads' HO_883000.out).2.2); (case side2 => exact (Kd.R_reads' HO_883000.out).2.1); (case side3 => exact (Kd.N_reads' HO_883001.out).2.2); (case side4 => exact (Kd.N_reads' HO_883001.out).2.1); (case side5 => exact (Kd.R_reads' HO_883002.out).2.2); (case side6 => exact (Kd.R_reads' HO_883002.out).2.1); rintro e w101 ⟨rfl, hb⟩; refine ⟨_, rfl, ?_⟩; replace HO_883000 := K_ (Kd.R_below (by exact HO_883000.out) hb); replace HO_883001 := K_ (Kd.N_below (by exact HO_883001.out) hb); replace HO_883002 := K_ (Kd.R_below (by exact HO_883002.out) hb); replace BK882 := K_ (blk_below (g := gb882) (o := .cells #[.slice Ao98 x883000_22.length co98, .slice Ao99 x883001_22.length co99, .slice Ao100 x883002_22.length co100] 26 (0, 0)) BK882.out hb); replace HB := K_ (below_step (HB.out) hb); clear hb))
    go_ret
    exact ⟨rfl, HB.out⟩
   subst c49
   have H1 : ((impl_Solve.f kj22 x883000_22 x883001_22 x883002_22).bind fun bt894 => (if bt894.1 = true then ((impl_Cost.f kj22 x883000_22 x883001_22 x883002_22 bt894.2.2).bind fun t900 => (if t900 = bt894.2.1 then ((spec_Solve.f kj22 x883000_22 x883001_22 x883002_22).bind fun bt901 => (some (bt894.2.1 == bt901.2.1))) else (some false))) else (some false))) = some r := by rw [if_pos rfl] at H; exact H
   clear H
   have H := H1
   clear H1
   replace H := Option.bind_eq_some_iff.mp H
   obtain ⟨⟨t894, t895, t896⟩, A500, H⟩ := H
   try dsimp only at H
   have A50 := K_ A500
   clear A500
   by_cases c51 : t894 = true
   case neg =>
    replace c51 := Bool.eq_false_iff.mpr c51
    subst c51
    have H1 : (some false) = some r := by rw [if_neg (show ¬ (false = true) by decide)] at H; exact H
    clear H
    have H := H1
    clear H1
    obtain rfl := Option.some.inj H
    obtain ⟨hcz84_0, hcz84_1, hcz84_2, hfz84_0, hfz84_1, hfz84_2⟩ := blkf3_ BK882.out
    obtain ⟨Ao85, co85, eo85⟩ := Kd.R_slice HO_883000.out
    subst eo85
    obtain ⟨Ao86, co86, eo86⟩ := Kd.N_slice HO_883001.out
    subst eo86
    obtain ⟨Ao87, co87, eo87⟩ := Kd.R_slice HO_883002.out
    subst eo87
    try go_wp2_with (first | ((with_reducible refine gate_callee (f := 30) rfl ?_); refine goesL_ (some 49) rfl rfl Try.func30 (by kernel_rfl) rfl #[.agg #[.slice Ao85 x883000_22.length co85, .slice Ao86 x883001_22.length co86, .slice Ao87 x883002_22.length co87]] rfl (by simp only [List.map_toArray, List.map_cons, List.map_nil]; try rfl) ?_; (with_reducible refine (impl_Safe.calls kj22 _ _ x883000_22 _ _ x883001_22 _ _ x883002_22 true _ ?side1 ?side2 ?side3 ?side4 ?side5 ?side6 A48.out).mono ?_); (case side1 => exact (Kd.R_reads' HO_883000.out).2.2); (case side2 => exact (Kd.R_reads' HO_883000.out).2.1); (case side3 => exact (Kd.N_reads' HO_883001.out).2.2); (case side4 => exact (Kd.N_reads' HO_883001.out).2.1); (case side5 => exact (Kd.R_reads' HO_883002.out).2.2); (case side6 => exact (Kd.R_reads' HO_883002.out).2.1); rintro e w88 ⟨rfl, hb⟩; refine ⟨_, rfl, ?_⟩; replace HO_883000 := K_ (Kd.R_below (by exact HO_883000.out) hb); replace HO_883001 := K_ (Kd.N_below (by exact HO_883001.out) hb); replace HO_883002 := K_ (Kd.R_below (by exact HO_883002.out) hb); replace BK882 := K_ (blk_below (g := gb882) (o := .cells #[.slice Ao85 x883000_22.length co85, .slice Ao86 x883001_22.length co86, .slice Ao87 x883002_22.length co87] 26 (0, 0)) BK882.out hb); replace HB := K_ (below_step (HB.out) hb); clear hb; obtain ⟨hcz89_0, hcz89_1, hcz89_2, hfz89_0, hfz89_1, hfz89_2⟩ := blkf3_ BK882.out) | ((with_reducible refine gate_callee (f := 24) rfl ?_); refine goesL_ (some 52) rfl rfl Try.func24 (by kernel_rfl) rfl #[.agg #[.slice Ao85 x883000_22.length co85, .slice Ao86 x883001_22.length co86, .slice Ao87 x883002_22.length co87]] rfl (by simp only [List.map_toArray, List.map_cons, List.map_nil]; try rfl) ?_; (with_reducible refine (impl_Solve.calls kj22 _ _ x883000_22 _ _ x883001_22 _ _ x883002_22 false t895 t896 _ ?side1 ?side2 ?side3 ?side4 ?side5 ?side6 A50.out).mono ?_); (case side1 => exact (Kd.R_reads' HO_883000.out).2.2); (case side2 => exact (Kd.R_reads' HO_883000.out).2.1); (case side3 => exact (Kd.N_reads' HO_883001.out).2.2); (case side4 => exact (Kd.N_reads' HO_883001.out).2.1); (case side5 => exact (Kd.R_reads' HO_883002.out).2.2); (case side6 => exact (Kd.R_reads' HO_883002.out).2.1); rintro e w90 ⟨v897, rfl, ho0, hb⟩; refine ⟨_, rfl, ?_⟩; have HO898 := K_ (Kd.R_lower (Kd.R_new' (Kd.R_new' ho0 (Kd.R_lt (by exact HO_883000.out))) (Kd.R_lt (by exact HO_883002.out))) (below_size (HB.out))); replace HO_883000 := K_ (Kd.R_elder' (by exact HO_883000.out) (Kd.R_base ho0) hb); replace HO_883001 := K_ (Kd.N_elder' (by exact HO_883001.out) (Kd.R_base ho0) hb); replace HO_883002 := K_ (Kd.R_elder' (by exact HO_883002.out) (Kd.R_base ho0) hb); replace BK882 := K_ (blk_below (g := gb882) (o := .cells #[.slice Ao85 x883000_22.length co85, .slice Ao86 x883001_22.length co86, .slice Ao87 x883002_22.length co87] 26 (0, 0)) BK882.out hb); replace HB := K_ (below_step (HB.out) hb); clear hb ho0) | ((with_reducible refine gate_dst (N := 7) rfl ?_); refine box_event ?hg (N := 7) ?hd (cs := #[.bool false, .int .i64 0, .slice none 0 0]) (t := 41) ?hr ?_; (case hd => rfl); (case hg => rfl); (case hr => go_simp; try rfl); intro gb899 hg w91 hbox hb; have BK899 := K_ (hbox); have GW899 := K_ ((by rw [hg]; exact (below_size (HB.out)) : w.heap.size ≤ gb899)); have GE899 := K_ ((by rw [hg]; exact (below_size (HB.out)) : w.heap.size ≤ gb899)); have NB882_899 := K_ ((by rw [hg]; exact Nat.ne_of_lt (blk_lt (g := gb882) (o := .cells #[.slice Ao85 x883000_22.length co85, .slice Ao86 x883001_22.length co86, .slice Ao87 x883002_22.length co87] 26 (0, 0)) BK882.out) : gb882 ≠ gb899)); have NB899_882 := K_ ((by rw [hg]; exact Nat.ne_of_gt (blk_lt (g := gb882) (o := .cells #[.slice Ao85 x883000_22.length co85, .slice Ao86 x883001_22.length co86, .slice Ao87 x883002_22.length co87] 26 (0, 0)) BK882.out) : gb899 ≠ gb882)); replace HO_883000 := K_ (Kd.R_below (by exact HO_883000.out) hb); replace HO_883001 := K_ (Kd.N_below (Kd.N_elderB (by exact HO_883001.out) gb899 (Nat.le_of_eq hg.symm)) hb); replace HO_883002 := K_ (Kd.R_below (by exact HO_883002.out) hb); replace HO898 := K_ (Kd.R_below (by exact HO898.out) hb); replace BK882 := K_ (blk_below (g := gb882) (o := .cells #[.slice Ao85 x883000_22.length co85, .slice Ao86 x883001_22.length co86, .slice Ao87 x883002_22.length co87] 26 (0, 0)) BK882.out hb); replace HB := K_ (below_step (HB.out) hb); clear hb hbox hg; have hnb92 := NB899_882.out; have hnc92 := NB882_899.out; obtain ⟨hcz93_0, hcz93_1, hcz93_2, hfz93_0, hfz93_1, hfz93_2⟩ := blkf3_ BK899.out; obtain ⟨Ao94, co94, eo94⟩ := Kd.R_slice HO898.out; subst eo94))
    have n0_ : Aside0 (Kd.R (Kd.int .i64) 3 (((w91.setCell ⟨gb899, 0, none⟩ (.bool false)).setCell ⟨gb899, 1, none⟩ (.int .i64 t895)).setCell ⟨gb899, 2, none⟩ (.slice Ao94 t896.length co94)) w.heap.size (fun k_ => some k_ ≠ (.slice Ao87 x883002_22.length co87 : Value).ownBlock ∧ some k_ ≠ (.slice Ao94 t896.length co94 : Value).ownBlock) (.slice Ao85 x883000_22.length co85) x883000_22) := ⟨by exact Kd.R_mono (Kd.R_far (p := ⟨gb899, 2, none⟩) (Kd.R_far (p := ⟨gb899, 1, none⟩) (Kd.R_far (p := ⟨gb899, 0, none⟩) (Kd.R_types HO_883000.out BK899.out (by decide)) (fun _ hk => hk.2) (.bool false)) (fun _ hk => hk.2) (.int .i64 t895)) (fun _ hk => hk.2) (.slice Ao94 t896.length co94)) (fun _ hk => ⟨hk.1.1, hk.1.2⟩)⟩
    have n1_ : Aside0 (Kd.N k35 35 (((w91.setCell ⟨gb899, 0, none⟩ (.bool false)).setCell ⟨gb899, 1, none⟩ (.int .i64 t895)).setCell ⟨gb899, 2, none⟩ (.slice Ao94 t896.length co94)) w.heap.size (fun k_ => some k_ ≠ (.slice Ao85 x883000_22.length co85 : Value).ownBlock ∧ some k_ ≠ (.slice Ao87 x883002_22.length co87 : Value).ownBlock ∧ some k_ ≠ (.slice Ao94 t896.length co94 : Value).ownBlock ∧ k_ ≠ gb882 ∧ k_ ≠ gb899) (.slice Ao86 x883001_22.length co86) x883001_22) := ⟨by exact Kd.N_mono (Kd.N_far (p := ⟨gb899, 2, none⟩) (Kd.N_far (p := ⟨gb899, 1, none⟩) (Kd.N_far (p := ⟨gb899, 0, none⟩) (Kd.N_mono HO_883001.out (fun k_ hk => (⟨hk, hk.2⟩ : _ ∧ k_ ≠ gb899))) (fun _ hk => hk.2) (.bool false)) (fun _ hk => hk.2) (.int .i64 t895)) (fun _ hk => hk.2) (.slice Ao94 t896.length co94)) (fun _ hk => ⟨hk.1.1.1.1, ⟨hk.1.1.1.2.1, ⟨hk.1.1.2, ⟨hk.1.1.1.2.2, hk.1.2⟩⟩⟩⟩)⟩
    have n2_ : Aside0 (Kd.R (Kd.int .i64) 3 (((w91.setCell ⟨gb899, 0, none⟩ (.bool false)).setCell ⟨gb899, 1, none⟩ (.int .i64 t895)).setCell ⟨gb899, 2, none⟩ (.slice Ao94 t896.length co94)) w.heap.size (fun k_ => some k_ ≠ (.slice Ao85 x883000_22.length co85 : Value).ownBlock ∧ some k_ ≠ (.slice Ao94 t896.length co94 : Value).ownBlock) (.slice Ao87 x883002_22.length co87) x883002_22) := ⟨by exact Kd.R_mono (Kd.R_far (p := ⟨gb899, 2, none⟩) (Kd.R_far (p := ⟨gb899, 1, none⟩) (Kd.R_far (p := ⟨gb899, 0, none⟩) (Kd.R_types HO_883002.out BK899.out (by decide)) (fun _ hk => hk.2) (.bool false)) (fun _ hk => hk.2) (.int .i64 t895)) (fun _ hk => hk.2) (.slice Ao94 t896.length co94)) (fun _ hk => ⟨hk.1.1, hk.1.2⟩)⟩
    have n3_ : Aside0 (Kd.R (Kd.int .i64) 3 (((w91.setCell ⟨gb899, 0, none⟩ (.bool false)).setCell ⟨gb899, 1, none⟩ (.int .i64 t895)).setCell ⟨gb899, 2, none⟩ (.slice Ao94 t896.length co94)) w.heap.size (fun k_ => some k_ ≠ (.slice Ao85 x883000_22.length co85 : Value).ownBlock ∧ some k_ ≠ (.slice Ao87 x883002_22.length co87 : Value).ownBlock) (.slice Ao94 t896.length co94) t896) := ⟨by exact Kd.R_mono (Kd.R_far (p := ⟨gb899, 2, none⟩) (Kd.R_far (p := ⟨gb899, 1, none⟩) (Kd.R_far (p := ⟨gb899, 0, none⟩) (Kd.R_types HO898.out BK899.out (by decide)) (fun _ hk => hk.2) (.bool false)) (fun _ hk => hk.2) (.int .i64 t895)) (fun _ hk => hk.2) (.slice Ao94 t896.length co94)) (fun _ hk => ⟨hk.1.1.2, hk.1.2⟩)⟩
    have n4_ : Aside0 ((((w91.setCell ⟨gb899, 0, none⟩ (.bool false)).setCell ⟨gb899, 1, none⟩ (.int .i64 t895)).setCell ⟨gb899, 2, none⟩ (.slice Ao94 t896.length co94)).heap[gb882]? = some (.cells #[.slice Ao85 x883000_22.length co85, .slice Ao86 x883001_22.length co86, .slice Ao87 x883002_22.length co87] 26 (0, 0))) := ⟨by (with_reducible repeat (first | refine blk_drewN ?_ _ | refine blk_drew ?_ | refine blk_alloc ?_ _)); refine blk_far ?_ NB882_899.out _; (with_reducible repeat (first | refine blk_drewN ?_ _ | refine blk_drew ?_ | refine blk_alloc ?_ _)); refine blk_far ?_ NB882_899.out _; (with_reducible repeat (first | refine blk_drewN ?_ _ | refine blk_drew ?_ | refine blk_alloc ?_ _)); refine blk_far ?_ NB882_899.out _; (with_reducible repeat (first | refine blk_drewN ?_ _ | refine blk_drew ?_ | refine blk_alloc ?_ _)); exact BK882.out⟩
    have n5_ : Aside0 ((((w91.setCell ⟨gb899, 0, none⟩ (.bool false)).setCell ⟨gb899, 1, none⟩ (.int .i64 t895)).setCell ⟨gb899, 2, none⟩ (.slice Ao94 t896.length co94)).heap[gb899]? = some (.cells #[.bool false, .int .i64 t895, .slice Ao94 t896.length co94] 41 (0, 0))) := ⟨by (with_reducible repeat (first | refine blk_drewN ?_ _ | refine blk_drew ?_ | refine blk_alloc ?_ _)); refine blk_put (cs := #[.bool false, .int .i64 t895, .slice none 0 0]) ?_ 2 _ rfl; (with_reducible repeat (first | refine blk_drewN ?_ _ | refine blk_drew ?_ | refine blk_alloc ?_ _)); refine blk_put (cs := #[.bool false, .int .i64 0, .slice none 0 0]) ?_ 1 _ rfl; (with_reducible repeat (first | refine blk_drewN ?_ _ | refine blk_drew ?_ | refine blk_alloc ?_ _)); refine blk_put (cs := #[.bool false, .int .i64 0, .slice none 0 0]) ?_ 0 _ rfl; (with_reducible repeat (first | refine blk_drewN ?_ _ | refine blk_drew ?_ | refine blk_alloc ?_ _)); exact BK899.out⟩
    have n6_ : Aside0 (Below w.heap.size w (((w91.setCell ⟨gb899, 0, none⟩ (.bool false)).setCell ⟨gb899, 1, none⟩ (.int .i64 t895)).setCell ⟨gb899, 2, none⟩ (.slice Ao94 t896.length co94))) := ⟨by repeat (first | (with_reducible first | exact HB.out | refine below_set ?_ GE882.out | refine below_set ?_ GE899.out) | exact HB.out)⟩
    clear HO_883000
    clear HO_883001
    clear HO_883002
    clear HO898
    clear BK882
    clear BK899
    clear HB
    generalize (((w91.setCell ⟨gb899, 0, none⟩ (.bool false)).setCell ⟨gb899, 1, none⟩ (.int .i64 t895)).setCell ⟨gb899, 2, none⟩ (.slice Ao94 t896.length co94)) = w95 at n0_ n1_ n2_ n3_ n4_ n5_ n6_ ⊢
    have HO_883000 := n0_
    have HO_883001 := n1_
    have HO_883002 := n2_
    have HO898 := n3_
    have BK882 := n4_
    have BK899 := n5_
    have HB := n6_
    clear n0_ n1_ n2_ n3_ n4_ n5_ n6_
    have n0_ := K_ (Kd.R_drew HO_883000.out)
    have n1_ := K_ (Kd.N_drew HO_883001.out)
    have n2_ := K_ (Kd.R_drew HO_883002.out)
    have n3_ := K_ (Kd.R_drew HO898.out)
    have n4_ := K_ (blk_drew BK882.out)
    have n5_ := K_ (blk_drew BK899.out)
    have n6_ := K_ (below_drew1 HB.out)
    clear HO_883000
    clear HO_883001
    clear HO_883002
    clear HO898
    clear BK882
    clear BK899
    clear HB
    have HO_883000 := n0_
    have HO_883001 := n1_
    have HO_883002 := n2_
    have HO898 := n3_
    have BK882 := n4_
    have BK899 := n5_
    have HB := n6_
    clear n0_ n1_ n2_ n3_ n4_ n5_ n6_
    refine start_ (n := 20) (S := fun w' => w'.cell? ⟨gb899, 0, none⟩ = some (.bool false) ∧ w'.cell? ⟨gb899, 1, none⟩ = some (.int .i64 t895) ∧ w'.cell? ⟨gb899, 2, none⟩ = some (.slice Ao94 t896.length co94)) (ds := []) #[ff, ff, ff, ff, ff, ff, ff, ff, ff, ff, ff, ff, ff, ff, ff, ff, ff, ff, ff, ff] (by kernel_rfl) rfl rfl ⟨(blk_cell BK899.out 0).trans rfl, (blk_cell BK899.out 1).trans rfl, (blk_cell BK899.out 2).trans rfl⟩ (fun hHeld => ?_); refine with_tabW laws_FnMeet.tab20 laws_FnMeet.bits20 (fun HT_ HW_ => ?_)
    generalize w95.drew = w96 at HO_883000 HO_883001 HO_883002 HO898 BK882 BK899 HB hHeld ⊢
    refine pure_ (i := 0) (N := some 53) (v := ?_) (a' := ?_) (M_ 20 1) rfl rfl (any_of HT_.out (by kernel_rfl)) (fun _ _ _ h => h) (Or.inl ⟨by rfl, ?_⟩) ?_ ?_
    rotate_left
    ·intro w'
     go_simp
     with_reducible rfl
    rotate_left
    ·simp only [P_, i64_w, i32_w]
     rfl
    refine take_ (i := 1) (N := some 54) (v := ?_) (a' := ?_) (M_ 20 3) rfl rfl (take_ofW HT_.out HW_.out (by kernel_rfl)) (fun _ _ _ h => h) (Or.inl ⟨by rfl, ?_⟩) hHeld ?_ ?_
    rotate_left
    ·rintro w' ⟨s0, s1, s2⟩
     go_simp
     with_reducible rfl
    rotate_left
    ·simp only [P_, i64_w, i32_w]
     rfl
    refine pure_ (i := 2) (N := some 55) (v := ?_) (a' := ?_) (M_ 20 7) rfl rfl (any_of HT_.out (by kernel_rfl)) (fun _ _ _ h => h) (Or.inl ⟨by rfl, ?_⟩) ?_ ?_
    rotate_left
    ·intro w'
     go_simp
     with_reducible rfl
    rotate_left
    ·simp only [P_, i64_w, i32_w]
     rfl
    refine pure_ (i := 3) (N := some 56) (v := undef) (a' := ?_) (M_ 20 15) rfl rfl (any_of HT_.out (by kernel_rfl)) (fun _ _ _ h => h) (Or.inr ⟨by rfl, rfl⟩) ?_ ?_
    rotate_left
    ·simp only [P_, i64_w, i32_w]
     rfl
    refine pure_ (i := 4) (N := some 57) (v := undef) (a' := ?_) (M_ 20 31) rfl rfl (any_of HT_.out (by kernel_rfl)) (fun _ _ _ h => h) (Or.inr ⟨by rfl, rfl⟩) ?_ ?_
    rotate_left
    ·simp only [P_, i64_w, i32_w]
     rfl
    refine pure_ (i := 5) (N := some 58) (v := undef) (a' := ?_) (M_ 20 63) rfl rfl (any_of HT_.out (by kernel_rfl)) (fun _ _ _ h => h) (Or.inr ⟨by rfl, rfl⟩) ?_ ?_
    rotate_left
    ·simp only [P_, i64_w, i32_w]
     rfl
    refine pure_ (i := 6) (N := some 59) (v := undef) (a' := ?_) (M_ 20 127) rfl rfl (any_of HT_.out (by kernel_rfl)) (fun _ _ _ h => h) (Or.inr ⟨by rfl, rfl⟩) ?_ ?_
    rotate_left
    ·simp only [P_, i64_w, i32_w]
     rfl
    refine pure_ (i := 7) (N := some 60) (v := undef) (a' := ?_) (M_ 20 255) rfl rfl (any_of HT_.out (by kernel_rfl)) (fun _ _ _ h => h) (Or.inr ⟨by rfl, rfl⟩) ?_ ?_
    rotate_left
    ·simp only [P_, i64_w, i32_w]
     rfl
    refine pure_ (i := 8) (N := some 61) (v := undef) (a' := ?_) (M_ 20 511) rfl rfl (any_of HT_.out (by kernel_rfl)) (fun _ _ _ h => h) (Or.inr ⟨by rfl, rfl⟩) ?_ ?_
    rotate_left
    ·simp only [P_, i64_w, i32_w]
     rfl
    refine pure_ (i := 9) (N := some 62) (v := undef) (a' := ?_) (M_ 20 1023) rfl rfl (any_of HT_.out (by kernel_rfl)) (fun _ _ _ h => h) (Or.inr ⟨by rfl, rfl⟩) ?_ ?_
    rotate_left
    ·simp only [P_, i64_w, i32_w]
     rfl
    refine pure_ (i := 10) (N := some 63) (v := ?_) (a' := ?_) (M_ 20 2047) rfl rfl (any_of HT_.out (by kernel_rfl)) (fun _ _ _ h => h) (Or.inl ⟨by rfl, ?_⟩) ?_ ?_
    rotate_left
    ·intro w'
     go_simp
     with_reducible rfl
    rotate_left
    ·simp only [P_, i64_w, i32_w]
     rfl
    refine pure_ (i := 11) (N := some 64) (v := ?_) (a' := ?_) (M_ 20 4095) rfl rfl (any_of HT_.out (by kernel_rfl)) (fun _ _ _ h => h) (Or.inl ⟨by rfl, ?_⟩) ?_ ?_
    rotate_left
    ·intro w'
     go_simp
     with_reducible rfl
    rotate_left
    ·simp only [P_, i64_w, i32_w]
     rfl
    refine pure_ (i := 12) (N := some 65) (v := undef) (a' := ?_) (M_ 20 8191) rfl rfl (any_of HT_.out (by kernel_rfl)) (fun _ _ _ h => h) (Or.inr ⟨by rfl, rfl⟩) ?_ ?_
    rotate_left
    ·simp only [P_, i64_w, i32_w]
     rfl
    refine pure_ (i := 13) (N := some 66) (v := undef) (a' := ?_) (M_ 20 16383) rfl rfl (any_of HT_.out (by kernel_rfl)) (fun _ _ _ h => h) (Or.inr ⟨by rfl, rfl⟩) ?_ ?_
    rotate_left
    ·simp only [P_, i64_w, i32_w]
     rfl
    refine pure_ (i := 14) (N := some 67) (v := undef) (a' := ?_) (M_ 20 32767) rfl rfl (any_of HT_.out (by kernel_rfl)) (fun _ _ _ h => h) (Or.inr ⟨by rfl, rfl⟩) ?_ ?_
    rotate_left
    ·simp only [P_, i64_w, i32_w]
     rfl
    refine pure_ (i := 15) (N := some 68) (v := undef) (a' := ?_) (M_ 20 65535) rfl rfl (any_of HT_.out (by kernel_rfl)) (fun _ _ _ h => h) (Or.inr ⟨by rfl, rfl⟩) ?_ ?_
    rotate_left
    ·simp only [P_, i64_w, i32_w]
     rfl
    refine pure_ (i := 16) (N := some 69) (v := undef) (a' := ?_) (M_ 20 131071) rfl rfl (any_of HT_.out (by kernel_rfl)) (fun _ _ _ h => h) (Or.inr ⟨by rfl, rfl⟩) ?_ ?_
    rotate_left
    ·simp only [P_, i64_w, i32_w]
     rfl
    refine pure_ (i := 17) (N := some 70) (v := undef) (a' := ?_) (M_ 20 262143) rfl rfl (any_of HT_.out (by kernel_rfl)) (fun _ _ _ h => h) (Or.inr ⟨by rfl, rfl⟩) ?_ ?_
    rotate_left
    ·simp only [P_, i64_w, i32_w]
     rfl
    refine pure_ (i := 18) (N := some 71) (v := ?_) (a' := ?_) (M_ 20 524287) rfl rfl (any_of HT_.out (by kernel_rfl)) (fun _ _ _ h => h) (Or.inl ⟨by rfl, ?_⟩) ?_ ?_
    rotate_left
    ·intro w'
     go_simp
     with_reducible rfl
    rotate_left
    ·simp only [P_, i64_w, i32_w]
     rfl
    refine pure_ (i := 19) (N := some 2) (v := ?_) (a' := ?_) (M_ 20 1048575) rfl rfl (any_of HT_.out (by kernel_rfl)) (fun _ _ _ h => h) (Or.inl ⟨by rfl, ?_⟩) ?_ ?_
    rotate_left
    ·intro w'
     go_simp
     with_reducible rfl
    rotate_left
    ·simp only [P_, i64_w, i32_w]
     rfl
    refine done_ (done_of HT_.out (by kernel_rfl)) ?_
    try go_wp2
    go_ret
    exact ⟨rfl, HB.out⟩
   subst c51
   have H1 : ((impl_Cost.f kj22 x883000_22 x883001_22 x883002_22 t896).bind fun t900 => (if t900 = t895 then ((spec_Solve.f kj22 x883000_22 x883001_22 x883002_22).bind fun bt901 => (some (t895 == bt901.2.1))) else (some false))) = some r := by rw [if_pos rfl] at H; exact H
   clear H
   have H := H1
   clear H1
   replace H := Option.bind_eq_some_iff.mp H
   obtain ⟨t900, A520, H⟩ := H
   try dsimp only at H
   have A52 := K_ A520
   clear A520
   by_cases c53 : t900 = t895
   case neg =>
    rw [if_neg c53] at H
    have c53b0 := beq_eq_false_iff_ne.mpr c53
    have c53b1 := bne_iff_ne.mpr c53
    obtain rfl := Option.some.inj H
    obtain ⟨hcz70_0, hcz70_1, hcz70_2, hfz70_0, hfz70_1, hfz70_2⟩ := blkf3_ BK882.out
    obtain ⟨Ao71, co71, eo71⟩ := Kd.R_slice HO_883000.out
    subst eo71
    obtain ⟨Ao72, co72, eo72⟩ := Kd.N_slice HO_883001.out
    subst eo72
    obtain ⟨Ao73, co73, eo73⟩ := Kd.R_slice HO_883002.out
    subst eo73
    try go_wp2_with (first | ((with_reducible refine gate_callee (f := 30) rfl ?_); refine goesL_ (some 49) rfl rfl Try.func30 (by kernel_rfl) rfl #[.agg #[.slice Ao71 x883000_22.length co71, .slice Ao72 x883001_22.length co72, .slice Ao73 x883002_22.length co73]] rfl (by simp only [List.map_toArray, List.map_cons, List.map_nil]; try rfl) ?_; (with_reducible refine (impl_Safe.calls kj22 _ _ x883000_22 _ _ x883001_22 _ _ x883002_22 true _ ?side1 ?side2 ?side3 ?side4 ?side5 ?side6 A48.out).mono ?_); (case side1 => exact (Kd.R_reads' HO_883000.out).2.2); (case side2 => exact (Kd.R_reads' HO_883000.out).2.1); (case side3 => exact (Kd.N_reads' HO_883001.out).2.2); (case side4 => exact (Kd.N_reads' HO_883001.out).2.1); (case side5 => exact (Kd.R_reads' HO_883002.out).2.2); (case side6 => exact (Kd.R_reads' HO_883002.out).2.1); rintro e w74 ⟨rfl, hb⟩; refine ⟨_, rfl, ?_⟩; replace HO_883000 := K_ (Kd.R_below (by exact HO_883000.out) hb); replace HO_883001 := K_ (Kd.N_below (by exact HO_883001.out) hb); replace HO_883002 := K_ (Kd.R_below (by exact HO_883002.out) hb); replace BK882 := K_ (blk_below (g := gb882) (o := .cells #[.slice Ao71 x883000_22.length co71, .slice Ao72 x883001_22.length co72, .slice Ao73 x883002_22.length co73] 26 (0, 0)) BK882.out hb); replace HB := K_ (below_step (HB.out) hb); clear hb; obtain ⟨hcz75_0, hcz75_1, hcz75_2, hfz75_0, hfz75_1, hfz75_2⟩ := blkf3_ BK882.out) | ((with_reducible refine gate_callee (f := 24) rfl ?_); refine goesL_ (some 52) rfl rfl Try.func24 (by kernel_rfl) rfl #[.agg #[.slice Ao71 x883000_22.length co71, .slice Ao72 x883001_22.length co72, .slice Ao73 x883002_22.length co73]] rfl (by simp only [List.map_toArray, List.map_cons, List.map_nil]; try rfl) ?_; (with_reducible refine (impl_Solve.calls kj22 _ _ x883000_22 _ _ x883001_22 _ _ x883002_22 true t895 t896 _ ?side1 ?side2 ?side3 ?side4 ?side5 ?side6 A50.out).mono ?_); (case side1 => exact (Kd.R_reads' HO_883000.out).2.2); (case side2 => exact (Kd.R_reads' HO_883000.out).2.1); (case side3 => exact (Kd.N_reads' HO_883001.out).2.2); (case side4 => exact (Kd.N_reads' HO_883001.out).2.1); (case side5 => exact (Kd.R_reads' HO_883002.out).2.2); (case side6 => exact (Kd.R_reads' HO_883002.out).2.1); rintro e w76 ⟨v897, rfl, ho0, hb⟩; refine ⟨_, rfl, ?_⟩; have HO898 := K_ (Kd.R_lower (Kd.R_new' (Kd.R_new' ho0 (Kd.R_lt (by exact HO_883000.out))) (Kd.R_lt (by exact HO_883002.out))) (below_size (HB.out))); replace HO_883000 := K_ (Kd.R_elder' (by exact HO_883000.out) (Kd.R_base ho0) hb); replace HO_883001 := K_ (Kd.N_elder' (by exact HO_883001.out) (Kd.R_base ho0) hb); replace HO_883002 := K_ (Kd.R_elder' (by exact HO_883002.out) (Kd.R_base ho0) hb); replace BK882 := K_ (blk_below (g := gb882) (o := .cells #[.slice Ao71 x883000_22.length co71, .slice Ao72 x883001_22.length co72, .slice Ao73 x883002_22.length co73] 26 (0, 0)) BK882.out hb); replace HB := K_ (below_step (HB.out) hb); clear hb ho0) | ((with_reducible refine gate_dst (N := 7) rfl ?_); refine box_event ?hg (N := 7) ?hd (cs := #[.bool false, .int .i64 0, .slice none 0 0]) (t := 41) ?hr ?_; (case hd => rfl); (case hg => rfl); (case hr => go_simp; try rfl); intro gb899 hg w77 hbox hb; have BK899 := K_ (hbox); have GW899 := K_ ((by rw [hg]; exact (below_size (HB.out)) : w.heap.size ≤ gb899)); have GE899 := K_ ((by rw [hg]; exact (below_size (HB.out)) : w.heap.size ≤ gb899)); have NB882_899 := K_ ((by rw [hg]; exact Nat.ne_of_lt (blk_lt (g := gb882) (o := .cells #[.slice Ao71 x883000_22.length co71, .slice Ao72 x883001_22.length co72, .slice Ao73 x883002_22.length co73] 26 (0, 0)) BK882.out) : gb882 ≠ gb899)); have NB899_882 := K_ ((by rw [hg]; exact Nat.ne_of_gt (blk_lt (g := gb882) (o := .cells #[.slice Ao71 x883000_22.length co71, .slice Ao72 x883001_22.length co72, .slice Ao73 x883002_22.length co73] 26 (0, 0)) BK882.out) : gb899 ≠ gb882)); replace HO_883000 := K_ (Kd.R_below (by exact HO_883000.out) hb); replace HO_883001 := K_ (Kd.N_below (Kd.N_elderB (by exact HO_883001.out) gb899 (Nat.le_of_eq hg.symm)) hb); replace HO_883002 := K_ (Kd.R_below (by exact HO_883002.out) hb); replace HO898 := K_ (Kd.R_below (by exact HO898.out) hb); replace BK882 := K_ (blk_below (g := gb882) (o := .cells #[.slice Ao71 x883000_22.length co71, .slice Ao72 x883001_22.length co72, .slice Ao73 x883002_22.length co73] 26 (0, 0)) BK882.out hb); replace HB := K_ (below_step (HB.out) hb); clear hb hbox hg; have hnb78 := NB899_882.out; have hnc78 := NB882_899.out; obtain ⟨hcz79_0, hcz79_1, hcz79_2, hfz79_0, hfz79_1, hfz79_2⟩ := blkf3_ BK899.out; obtain ⟨Ao80, co80, eo80⟩ := Kd.R_slice HO898.out; subst eo80))
    have n0_ : Aside0 (Kd.R (Kd.int .i64) 3 (((w77.setCell ⟨gb899, 0, none⟩ (.bool true)).setCell ⟨gb899, 1, none⟩ (.int .i64 t895)).setCell ⟨gb899, 2, none⟩ (.slice Ao80 t896.length co80)) w.heap.size (fun k_ => some k_ ≠ (.slice Ao73 x883002_22.length co73 : Value).ownBlock ∧ some k_ ≠ (.slice Ao80 t896.length co80 : Value).ownBlock) (.slice Ao71 x883000_22.length co71) x883000_22) := ⟨by exact Kd.R_mono (Kd.R_far (p := ⟨gb899, 2, none⟩) (Kd.R_far (p := ⟨gb899, 1, none⟩) (Kd.R_far (p := ⟨gb899, 0, none⟩) (Kd.R_types HO_883000.out BK899.out (by decide)) (fun _ hk => hk.2) (.bool true)) (fun _ hk => hk.2) (.int .i64 t895)) (fun _ hk => hk.2) (.slice Ao80 t896.length co80)) (fun _ hk => ⟨hk.1.1, hk.1.2⟩)⟩
    have n1_ : Aside0 (Kd.N k35 35 (((w77.setCell ⟨gb899, 0, none⟩ (.bool true)).setCell ⟨gb899, 1, none⟩ (.int .i64 t895)).setCell ⟨gb899, 2, none⟩ (.slice Ao80 t896.length co80)) w.heap.size (fun k_ => some k_ ≠ (.slice Ao71 x883000_22.length co71 : Value).ownBlock ∧ some k_ ≠ (.slice Ao73 x883002_22.length co73 : Value).ownBlock ∧ some k_ ≠ (.slice Ao80 t896.length co80 : Value).ownBlock ∧ k_ ≠ gb882 ∧ k_ ≠ gb899) (.slice Ao72 x883001_22.length co72) x883001_22) := ⟨by exact Kd.N_mono (Kd.N_far (p := ⟨gb899, 2, none⟩) (Kd.N_far (p := ⟨gb899, 1, none⟩) (Kd.N_far (p := ⟨gb899, 0, none⟩) (Kd.N_mono HO_883001.out (fun k_ hk => (⟨hk, hk.2⟩ : _ ∧ k_ ≠ gb899))) (fun _ hk => hk.2) (.bool true)) (fun _ hk => hk.2) (.int .i64 t895)) (fun _ hk => hk.2) (.slice Ao80 t896.length co80)) (fun _ hk => ⟨hk.1.1.1.1, ⟨hk.1.1.1.2.1, ⟨hk.1.1.2, ⟨hk.1.1.1.2.2, hk.1.2⟩⟩⟩⟩)⟩
    have n2_ : Aside0 (Kd.R (Kd.int .i64) 3 (((w77.setCell ⟨gb899, 0, none⟩ (.bool true)).setCell ⟨gb899, 1, none⟩ (.int .i64 t895)).setCell ⟨gb899, 2, none⟩ (.slice Ao80 t896.length co80)) w.heap.size (fun k_ => some k_ ≠ (.slice Ao71 x883000_22.length co71 : Value).ownBlock ∧ some k_ ≠ (.slice Ao80 t896.length co80 : Value).ownBlock) (.slice Ao73 x883002_22.length co73) x883002_22) := ⟨by exact Kd.R_mono (Kd.R_far (p := ⟨gb899, 2, none⟩) (Kd.R_far (p := ⟨gb899, 1, none⟩) (Kd.R_far (p := ⟨gb899, 0, none⟩) (Kd.R_types HO_883002.out BK899.out (by decide)) (fun _ hk => hk.2) (.bool true)) (fun _ hk => hk.2) (.int .i64 t895)) (fun _ hk => hk.2) (.slice Ao80 t896.length co80)) (fun _ hk => ⟨hk.1.1, hk.1.2⟩)⟩
    have n3_ : Aside0 (Kd.R (Kd.int .i64) 3 (((w77.setCell ⟨gb899, 0, none⟩ (.bool true)).setCell ⟨gb899, 1, none⟩ (.int .i64 t895)).setCell ⟨gb899, 2, none⟩ (.slice Ao80 t896.length co80)) w.heap.size (fun k_ => some k_ ≠ (.slice Ao71 x883000_22.length co71 : Value).ownBlock ∧ some k_ ≠ (.slice Ao73 x883002_22.length co73 : Value).ownBlock) (.slice Ao80 t896.length co80) t896) := ⟨by exact Kd.R_mono (Kd.R_far (p := ⟨gb899, 2, none⟩) (Kd.R_far (p := ⟨gb899, 1, none⟩) (Kd.R_far (p := ⟨gb899, 0, none⟩) (Kd.R_types HO898.out BK899.out (by decide)) (fun _ hk => hk.2) (.bool true)) (fun _ hk => hk.2) (.int .i64 t895)) (fun _ hk => hk.2) (.slice Ao80 t896.length co80)) (fun _ hk => ⟨hk.1.1.2, hk.1.2⟩)⟩
    have n4_ : Aside0 ((((w77.setCell ⟨gb899, 0, none⟩ (.bool true)).setCell ⟨gb899, 1, none⟩ (.int .i64 t895)).setCell ⟨gb899, 2, none⟩ (.slice Ao80 t896.length co80)).heap[gb882]? = some (.cells #[.slice Ao71 x883000_22.length co71, .slice Ao72 x883001_22.length co72, .slice Ao73 x883002_22.length co73] 26 (0, 0))) := ⟨by (with_reducible repeat (first | refine blk_drewN ?_ _ | refine blk_drew ?_ | refine blk_alloc ?_ _)); refine blk_far ?_ NB882_899.out _; (with_reducible repeat (first | refine blk_drewN ?_ _ | refine blk_drew ?_ | refine blk_alloc ?_ _)); refine blk_far ?_ NB882_899.out _; (with_reducible repeat (first | refine blk_drewN ?_ _ | refine blk_drew ?_ | refine blk_alloc ?_ _)); refine blk_far ?_ NB882_899.out _; (with_reducible repeat (first | refine blk_drewN ?_ _ | refine blk_drew ?_ | refine blk_alloc ?_ _)); exact BK882.out⟩
    have n5_ : Aside0 ((((w77.setCell ⟨gb899, 0, none⟩ (.bool true)).setCell ⟨gb899, 1, none⟩ (.int .i64 t895)).setCell ⟨gb899, 2, none⟩ (.slice Ao80 t896.length co80)).heap[gb899]? = some (.cells #[.bool true, .int .i64 t895, .slice Ao80 t896.length co80] 41 (0, 0))) := ⟨by (with_reducible repeat (first | refine blk_drewN ?_ _ | refine blk_drew ?_ | refine blk_alloc ?_ _)); refine blk_put (cs := #[.bool true, .int .i64 t895, .slice none 0 0]) ?_ 2 _ rfl; (with_reducible repeat (first | refine blk_drewN ?_ _ | refine blk_drew ?_ | refine blk_alloc ?_ _)); refine blk_put (cs := #[.bool true, .int .i64 0, .slice none 0 0]) ?_ 1 _ rfl; (with_reducible repeat (first | refine blk_drewN ?_ _ | refine blk_drew ?_ | refine blk_alloc ?_ _)); refine blk_put (cs := #[.bool false, .int .i64 0, .slice none 0 0]) ?_ 0 _ rfl; (with_reducible repeat (first | refine blk_drewN ?_ _ | refine blk_drew ?_ | refine blk_alloc ?_ _)); exact BK899.out⟩
    have n6_ : Aside0 (Below w.heap.size w (((w77.setCell ⟨gb899, 0, none⟩ (.bool true)).setCell ⟨gb899, 1, none⟩ (.int .i64 t895)).setCell ⟨gb899, 2, none⟩ (.slice Ao80 t896.length co80))) := ⟨by repeat (first | (with_reducible first | exact HB.out | refine below_set ?_ GE882.out | refine below_set ?_ GE899.out) | exact HB.out)⟩
    clear HO_883000
    clear HO_883001
    clear HO_883002
    clear HO898
    clear BK882
    clear BK899
    clear HB
    generalize (((w77.setCell ⟨gb899, 0, none⟩ (.bool true)).setCell ⟨gb899, 1, none⟩ (.int .i64 t895)).setCell ⟨gb899, 2, none⟩ (.slice Ao80 t896.length co80)) = w81 at n0_ n1_ n2_ n3_ n4_ n5_ n6_ ⊢
    have HO_883000 := n0_
    have HO_883001 := n1_
    have HO_883002 := n2_
    have HO898 := n3_
    have BK882 := n4_
    have BK899 := n5_
    have HB := n6_
    clear n0_ n1_ n2_ n3_ n4_ n5_ n6_
    have n0_ := K_ (Kd.R_drew HO_883000.out)
    have n1_ := K_ (Kd.N_drew HO_883001.out)
    have n2_ := K_ (Kd.R_drew HO_883002.out)
    have n3_ := K_ (Kd.R_drew HO898.out)
    have n4_ := K_ (blk_drew BK882.out)
    have n5_ := K_ (blk_drew BK899.out)
    have n6_ := K_ (below_drew1 HB.out)
    clear HO_883000
    clear HO_883001
    clear HO_883002
    clear HO898
    clear BK882
    clear BK899
    clear HB
    have HO_883000 := n0_
    have HO_883001 := n1_
    have HO_883002 := n2_
    have HO898 := n3_
    have BK882 := n4_
    have BK899 := n5_
    have HB := n6_
    clear n0_ n1_ n2_ n3_ n4_ n5_ n6_
    refine start_ (n := 20) (S := fun w' => w'.cell? ⟨gb899, 0, none⟩ = some (.bool true) ∧ w'.cell? ⟨gb899, 1, none⟩ = some (.int .i64 t895) ∧ w'.cell? ⟨gb899, 2, none⟩ = some (.slice Ao80 t896.length co80) ∧ w'.cell? ⟨gb882, 0, none⟩ = some (.slice Ao71 x883000_22.length co71) ∧ w'.cell? ⟨gb882, 1, none⟩ = some (.slice Ao72 x883001_22.length co72) ∧ w'.cell? ⟨gb882, 2, none⟩ = some (.slice Ao73 x883002_22.length co73)) (ds := []) #[ff, ff, ff, ff, ff, ff, ff, ff, ff, ff, ff, ff, ff, ff, ff, ff, ff, ff, ff, ff] (by kernel_rfl) rfl rfl ⟨(blk_cell BK899.out 0).trans rfl, (blk_cell BK899.out 1).trans rfl, (blk_cell BK899.out 2).trans rfl, (blk_cell BK882.out 0).trans rfl, (blk_cell BK882.out 1).trans rfl, (blk_cell BK882.out 2).trans rfl⟩ (fun hHeld => ?_); refine with_tabW laws_FnMeet.tab20 laws_FnMeet.bits20 (fun HT_ HW_ => ?_)
    generalize w81.drew = w82 at HO_883000 HO_883001 HO_883002 HO898 BK882 BK899 HB hHeld ⊢
    refine pure_ (i := 0) (N := some 53) (v := ?_) (a' := ?_) (M_ 20 1) rfl rfl (any_of HT_.out (by kernel_rfl)) (fun _ _ _ h => h) (Or.inl ⟨by rfl, ?_⟩) ?_ ?_
    rotate_left
    ·intro w'
     go_simp
     with_reducible rfl
    rotate_left
    ·simp only [P_, i64_w, i32_w]
     rfl
    refine take_ (i := 1) (N := some 54) (v := ?_) (a' := ?_) (M_ 20 3) rfl rfl (take_ofW HT_.out HW_.out (by kernel_rfl)) (fun _ _ _ h => h) (Or.inl ⟨by rfl, ?_⟩) hHeld ?_ ?_
    rotate_left
    ·rintro w' ⟨s0, s1, s2, s3, s4, s5⟩
     go_simp
     with_reducible rfl
    rotate_left
    ·simp only [P_, i64_w, i32_w]
     rfl
    refine pure_ (i := 2) (N := some 55) (v := ?_) (a' := ?_) (M_ 20 7) rfl rfl (any_of HT_.out (by kernel_rfl)) (fun _ _ _ h => h) (Or.inl ⟨by rfl, ?_⟩) ?_ ?_
    rotate_left
    ·intro w'
     go_simp
     with_reducible rfl
    rotate_left
    ·simp only [P_, i64_w, i32_w]
     rfl
    refine pure_ (i := 4) (N := some 57) (v := ?_) (a' := ?_) (M_ 20 23) rfl rfl (any_of HT_.out (by kernel_rfl)) (fun _ _ _ h => h) (Or.inl ⟨by rfl, ?_⟩) ?_ ?_
    rotate_left
    ·intro w'
     go_simp
     with_reducible rfl
    rotate_left
    ·simp only [P_, i64_w, i32_w]
     rfl
    refine pure_ (i := 7) (N := some 60) (v := ?_) (a' := ?_) (M_ 20 151) rfl rfl (any_of HT_.out (by kernel_rfl)) (fun _ _ _ h => h) (Or.inl ⟨by rfl, ?_⟩) ?_ ?_
    rotate_left
    ·intro w'
     go_simp
     with_reducible rfl
    rotate_left
    ·simp only [P_, i64_w, i32_w]
     rfl
    refine take_ (i := 3) (N := some 56) (v := ?_) (a' := ?_) (M_ 20 159) rfl rfl (take_ofW HT_.out HW_.out (by kernel_rfl)) (fun _ _ _ h => h) (Or.inl ⟨by rfl, ?_⟩) hHeld ?_ ?_
    rotate_left
    ·rintro w' ⟨s0, s1, s2, s3, s4, s5⟩
     go_simp
     with_reducible rfl
    rotate_left
    ·simp only [P_, i64_w, i32_w]
     rfl
    refine take_ (i := 5) (N := some 58) (v := ?_) (a' := ?_) (M_ 20 191) rfl rfl (take_ofW HT_.out HW_.out (by kernel_rfl)) (fun _ _ _ h => h) (Or.inl ⟨by rfl, ?_⟩) hHeld ?_ ?_
    rotate_left
    ·rintro w' ⟨s0, s1, s2, s3, s4, s5⟩
     go_simp
     with_reducible rfl
    rotate_left
    ·simp only [P_, i64_w, i32_w]
     rfl
    refine take_ (i := 8) (N := some 61) (v := ?_) (a' := ?_) (M_ 20 447) rfl rfl (take_ofW HT_.out HW_.out (by kernel_rfl)) (fun _ _ _ h => h) (Or.inl ⟨by rfl, ?_⟩) hHeld ?_ ?_
    rotate_left
    ·rintro w' ⟨s0, s1, s2, s3, s4, s5⟩
     go_simp
     with_reducible rfl
    rotate_left
    ·simp only [P_, i64_w, i32_w]
     rfl
    refine one_ (i := 6) (N := some 59) (M_ 20 511) rfl rfl (one_of HT_.out (by kernel_rfl)) (by decide) (fun K hK => ?_)
    refine goes_ Try.func34 (by kernel_rfl) rfl #[.agg #[.slice Ao71 x883000_22.length co71, .slice Ao72 x883001_22.length co72, .slice Ao73 x883002_22.length co73], .slice Ao80 t896.length co80] (by rfl) rfl rfl (by simp only [List.map_toArray, List.map_cons, List.map_nil]; try rfl) ?_
    with_reducible refine (impl_Cost.calls kj22 (fun k_ => some k_ = (.slice Ao71 x883000_22.length co71 : Value).ownBlock) _ _ x883000_22 (fun k_ => (some k_ ≠ (.slice Ao71 x883000_22.length co71 : Value).ownBlock ∧ (some k_ ≠ (.slice Ao73 x883002_22.length co73 : Value).ownBlock ∧ (some k_ ≠ (.slice Ao80 t896.length co80 : Value).ownBlock ∧ (k_ ≠ gb882 ∧ k_ ≠ gb899))))) _ _ x883001_22 (fun k_ => some k_ = (.slice Ao73 x883002_22.length co73 : Value).ownBlock) _ _ x883002_22 _ _ t896 t900 _ ?side1 ?side2 ?side3 ?side4 ?side5 A52.out).mono ?_
    (case side1 => exact Kd.R_V (Kd.R_tight rfl (Kd.R_types (Kd.R_types (Kd.R_apart' (HO_883000.out) (Kd.N_typed HO_883001.out) (by decide)) BK882.out (by decide)) BK899.out (by decide))))
    (case side2 => exact Kd.N_V (HO_883001.out))
    (case side3 => exact Kd.R_V (Kd.R_tight rfl (Kd.R_types (Kd.R_types (Kd.R_apart' (HO_883002.out) (Kd.N_typed HO_883001.out) (by decide)) BK882.out (by decide)) BK899.out (by decide))))
    (case side4 => exact (Kd.R_reads' HO898.out).2.2)
    (case side5 => exact (Kd.R_reads' HO898.out).2.1)
    rintro e w83 ⟨rfl, hb⟩
    refine ⟨_, rfl, ?_⟩
    have n0_ := K_ (Kd.R_below (by exact HO_883000.out) hb)
    have n1_ := K_ (Kd.N_below (by exact HO_883001.out) hb)
    have n2_ := K_ (Kd.R_below (by exact HO_883002.out) hb)
    have n3_ := K_ (Kd.R_below (by exact HO898.out) hb)
    have n4_ := K_ (blk_below (g := gb882) (o := .cells #[.slice Ao71 x883000_22.length co71, .slice Ao72 x883001_22.length co72, .slice Ao73 x883002_22.length co73] 26 (0, 0)) BK882.out hb)
    have n5_ := K_ (blk_below (g := gb899) (o := .cells #[.bool true, .int .i64 t895, .slice Ao80 t896.length co80] 41 (0, 0)) BK899.out hb)
    have n6_ := K_ (below_step (HB.out) hb)
    clear HO_883000
    clear HO_883001
    clear HO_883002
    clear HO898
    clear BK882
    clear BK899
    clear HB
    have HO_883000 := n0_
    have HO_883001 := n1_
    have HO_883002 := n2_
    have HO898 := n3_
    have BK882 := n4_
    have BK899 := n5_
    have HB := n6_
    clear n0_ n1_ n2_ n3_ n4_ n5_ n6_
    clear hb
    skip
    (try clear hk)
    skip
    refine hK.out _ _ ⟨(blk_cell BK899.out 0).trans rfl, (blk_cell BK899.out 1).trans rfl, (blk_cell BK899.out 2).trans rfl, (blk_cell BK882.out 0).trans rfl, (blk_cell BK882.out 1).trans rfl, (blk_cell BK882.out 2).trans rfl⟩ (fun hHeld => ?_)
    clear hK K
    refine norm_ (a' := ?_) ?_ ?_
    rotate_left
    ·show Act.put _ (some 59) _ = _
     simp only [P_, i64_w, i32_w]
     rfl
    refine pure_ (i := 9) (N := some 62) (v := ?_) (a' := ?_) (M_ 20 1023) rfl rfl (any_of HT_.out (by kernel_rfl)) (fun _ _ _ h => h) (Or.inl ⟨by rfl, ?_⟩) ?_ ?_
    rotate_left
    ·intro w'
     go_simp
     with_reducible rfl
    rotate_left
    ·simp only [P_, i64_w, i32_w]
     rfl
    refine pure_ (i := 10) (N := some 63) (v := ?_) (a' := ?_) (M_ 20 2047) rfl rfl (any_of HT_.out (by kernel_rfl)) (fun _ _ _ h => h) (Or.inl ⟨by rfl, ?_⟩) ?_ ?_
    rotate_left
    ·intro w'
     go_simp
     with_reducible rfl
    rotate_left
    ·simp only [P_, i64_w, i32_w]
     rfl
    refine pure_ (i := 11) (N := some 64) (v := ?_) (a' := ?_) (M_ 20 4095) rfl rfl (any_of HT_.out (by kernel_rfl)) (fun _ _ _ h => h) (Or.inl ⟨by rfl, ?_⟩) ?_ ?_
    rotate_left
    ·intro w'
     go_simp
     with_reducible rfl
    rotate_left
    ·simp only [P_, i64_w, i32_w]
     rfl
    refine pure_ (i := 12) (N := some 65) (v := undef) (a' := ?_) (M_ 20 8191) rfl rfl (any_of HT_.out (by kernel_rfl)) (fun _ _ _ h => h) (Or.inr ⟨by rfl, rfl⟩) ?_ ?_
    rotate_left
    ·simp only [P_, i64_w, i32_w]
     rfl
    refine pure_ (i := 13) (N := some 66) (v := undef) (a' := ?_) (M_ 20 16383) rfl rfl (any_of HT_.out (by kernel_rfl)) (fun _ _ _ h => h) (Or.inr ⟨by rfl, rfl⟩) ?_ ?_
    rotate_left
    ·simp only [P_, i64_w, i32_w]
     rfl
    refine pure_ (i := 14) (N := some 67) (v := undef) (a' := ?_) (M_ 20 32767) rfl rfl (any_of HT_.out (by kernel_rfl)) (fun _ _ _ h => h) (Or.inr ⟨by rfl, rfl⟩) ?_ ?_
    rotate_left
    ·simp only [P_, i64_w, i32_w]
     rfl
    refine pure_ (i := 15) (N := some 68) (v := undef) (a' := ?_) (M_ 20 65535) rfl rfl (any_of HT_.out (by kernel_rfl)) (fun _ _ _ h => h) (Or.inr ⟨by rfl, rfl⟩) ?_ ?_
    rotate_left
    ·simp only [P_, i64_w, i32_w]
     rfl
    refine pure_ (i := 16) (N := some 69) (v := undef) (a' := ?_) (M_ 20 131071) rfl rfl (any_of HT_.out (by kernel_rfl)) (fun _ _ _ h => h) (Or.inr ⟨by rfl, rfl⟩) ?_ ?_
    rotate_left
    ·simp only [P_, i64_w, i32_w]
     rfl
    refine pure_ (i := 17) (N := some 70) (v := undef) (a' := ?_) (M_ 20 262143) rfl rfl (any_of HT_.out (by kernel_rfl)) (fun _ _ _ h => h) (Or.inr ⟨by rfl, rfl⟩) ?_ ?_
    rotate_left
    ·simp only [P_, i64_w, i32_w]
     rfl
    refine pure_ (i := 18) (N := some 71) (v := ?_) (a' := ?_) (M_ 20 524287) rfl rfl (any_of HT_.out (by kernel_rfl)) (fun _ _ _ h => h) (Or.inl ⟨by rfl, ?_⟩) ?_ ?_
    rotate_left
    ·intro w'
     go_simp
     with_reducible rfl
    rotate_left
    ·simp only [P_, i64_w, i32_w]
     rfl
    refine pure_ (i := 19) (N := some 2) (v := ?_) (a' := ?_) (M_ 20 1048575) rfl rfl (any_of HT_.out (by kernel_rfl)) (fun _ _ _ h => h) (Or.inl ⟨by rfl, ?_⟩) ?_ ?_
    rotate_left
    ·intro w'
     go_simp
     with_reducible rfl
    rotate_left
    ·simp only [P_, i64_w, i32_w]
     rfl
    refine done_ (done_of HT_.out (by kernel_rfl)) ?_
    try go_wp2
    go_ret
    exact ⟨rfl, HB.out⟩
   rw [if_pos c53] at H
   have c53b0 := beq_iff_eq.mpr c53
   have c53b1 := bne_eq_false_iff_eq.mpr c53
   clear c53
   replace H := Option.bind_eq_some_iff.mp H
   obtain ⟨⟨t901, t902, t903⟩, A540, H⟩ := H
   try dsimp only at H
   have A54 := K_ A540
   clear A540
   obtain rfl := Option.some.inj H
   obtain ⟨hcz55_0, hcz55_1, hcz55_2, hfz55_0, hfz55_1, hfz55_2⟩ := blkf3_ BK882.out
   obtain ⟨Ao56, co56, eo56⟩ := Kd.R_slice HO_883000.out
   subst eo56
   obtain ⟨Ao57, co57, eo57⟩ := Kd.N_slice HO_883001.out
   subst eo57
   obtain ⟨Ao58, co58, eo58⟩ := Kd.R_slice HO_883002.out
   subst eo58
   try go_wp2_with (first | ((with_reducible refine gate_callee (f := 30) rfl ?_); refine goesL_ (some 49) rfl rfl Try.func30 (by kernel_rfl) rfl #[.agg #[.slice Ao56 x883000_22.length co56, .slice Ao57 x883001_22.length co57, .slice Ao58 x883002_22.length co58]] rfl (by simp only [List.map_toArray, List.map_cons, List.map_nil]; try rfl) ?_; (with_reducible refine (impl_Safe.calls kj22 _ _ x883000_22 _ _ x883001_22 _ _ x883002_22 true _ ?side1 ?side2 ?side3 ?side4 ?side5 ?side6 A48.out).mono ?_); (case side1 => exact (Kd.R_reads' HO_883000.out).2.2); (case side2 => exact (Kd.R_reads' HO_883000.out).2.1); (case side3 => exact (Kd.N_reads' HO_883001.out).2.2); (case side4 => exact (Kd.N_reads' HO_883001.out).2.1); (case side5 => exact (Kd.R_reads' HO_883002.out).2.2); (case side6 => exact (Kd.R_reads' HO_883002.out).2.1); rintro e w59 ⟨rfl, hb⟩; refine ⟨_, rfl, ?_⟩; replace HO_883000 := K_ (Kd.R_below (by exact HO_883000.out) hb); replace HO_883001 := K_ (Kd.N_below (by exact HO_883001.out) hb); replace HO_883002 := K_ (Kd.R_below (by exact HO_883002.out) hb); replace BK882 := K_ (blk_below (g := gb882) (o := .cells #[.slice Ao56 x883000_22.length co56, .slice Ao57 x883001_22.length co57, .slice Ao58 x883002_22.length co58] 26 (0, 0)) BK882.out hb); replace HB := K_ (below_step (HB.out) hb); clear hb; obtain ⟨hcz60_0, hcz60_1, hcz60_2, hfz60_0, hfz60_1, hfz60_2⟩ := blkf3_ BK882.out) | ((with_reducible refine gate_callee (f := 24) rfl ?_); refine goesL_ (some 52) rfl rfl Try.func24 (by kernel_rfl) rfl #[.agg #[.slice Ao56 x883000_22.length co56, .slice Ao57 x883001_22.length co57, .slice Ao58 x883002_22.length co58]] rfl (by simp only [List.map_toArray, List.map_cons, List.map_nil]; try rfl) ?_; (with_reducible refine (impl_Solve.calls kj22 _ _ x883000_22 _ _ x883001_22 _ _ x883002_22 true t895 t896 _ ?side1 ?side2 ?side3 ?side4 ?side5 ?side6 A50.out).mono ?_); (case side1 => exact (Kd.R_reads' HO_883000.out).2.2); (case side2 => exact (Kd.R_reads' HO_883000.out).2.1); (case side3 => exact (Kd.N_reads' HO_883001.out).2.2); (case side4 => exact (Kd.N_reads' HO_883001.out).2.1); (case side5 => exact (Kd.R_reads' HO_883002.out).2.2); (case side6 => exact (Kd.R_reads' HO_883002.out).2.1); rintro e w61 ⟨v897, rfl, ho0, hb⟩; refine ⟨_, rfl, ?_⟩; have HO898 := K_ (Kd.R_lower (Kd.R_new' (Kd.R_new' ho0 (Kd.R_lt (by exact HO_883000.out))) (Kd.R_lt (by exact HO_883002.out))) (below_size (HB.out))); replace HO_883000 := K_ (Kd.R_elder' (by exact HO_883000.out) (Kd.R_base ho0) hb); replace HO_883001 := K_ (Kd.N_elder' (by exact HO_883001.out) (Kd.R_base ho0) hb); replace HO_883002 := K_ (Kd.R_elder' (by exact HO_883002.out) (Kd.R_base ho0) hb); replace BK882 := K_ (blk_below (g := gb882) (o := .cells #[.slice Ao56 x883000_22.length co56, .slice Ao57 x883001_22.length co57, .slice Ao58 x883002_22.length co58] 26 (0, 0)) BK882.out hb); replace HB := K_ (below_step (HB.out) hb); clear hb ho0) | ((with_reducible refine gate_dst (N := 7) rfl ?_); refine box_event ?hg (N := 7) ?hd (cs := #[.bool false, .int .i64 0, .slice none 0 0]) (t := 41) ?hr ?_; (case hd => rfl); (case hg => rfl); (case hr => go_simp; try rfl); intro gb899 hg w62 hbox hb; have BK899 := K_ (hbox); have GW899 := K_ ((by rw [hg]; exact (below_size (HB.out)) : w.heap.size ≤ gb899)); have GE899 := K_ ((by rw [hg]; exact (below_size (HB.out)) : w.heap.size ≤ gb899)); have NB882_899 := K_ ((by rw [hg]; exact Nat.ne_of_lt (blk_lt (g := gb882) (o := .cells #[.slice Ao56 x883000_22.length co56, .slice Ao57 x883001_22.length co57, .slice Ao58 x883002_22.length co58] 26 (0, 0)) BK882.out) : gb882 ≠ gb899)); have NB899_882 := K_ ((by rw [hg]; exact Nat.ne_of_gt (blk_lt (g := gb882) (o := .cells #[.slice Ao56 x883000_22.length co56, .slice Ao57 x883001_22.length co57, .slice Ao58 x883002_22.length co58] 26 (0, 0)) BK882.out) : gb899 ≠ gb882)); replace HO_883000 := K_ (Kd.R_below (by exact HO_883000.out) hb); replace HO_883001 := K_ (Kd.N_below (Kd.N_elderB (by exact HO_883001.out) gb899 (Nat.le_of_eq hg.symm)) hb); replace HO_883002 := K_ (Kd.R_below (by exact HO_883002.out) hb); replace HO898 := K_ (Kd.R_below (by exact HO898.out) hb); replace BK882 := K_ (blk_below (g := gb882) (o := .cells #[.slice Ao56 x883000_22.length co56, .slice Ao57 x883001_22.length co57, .slice Ao58 x883002_22.length co58] 26 (0, 0)) BK882.out hb); replace HB := K_ (below_step (HB.out) hb); clear hb hbox hg; have hnb63 := NB899_882.out; have hnc63 := NB882_899.out; obtain ⟨hcz64_0, hcz64_1, hcz64_2, hfz64_0, hfz64_1, hfz64_2⟩ := blkf3_ BK899.out; obtain ⟨Ao65, co65, eo65⟩ := Kd.R_slice HO898.out; subst eo65))
   have n0_ : Aside0 (Kd.R (Kd.int .i64) 3 (((w62.setCell ⟨gb899, 0, none⟩ (.bool true)).setCell ⟨gb899, 1, none⟩ (.int .i64 t895)).setCell ⟨gb899, 2, none⟩ (.slice Ao65 t896.length co65)) w.heap.size (fun k_ => some k_ ≠ (.slice Ao58 x883002_22.length co58 : Value).ownBlock ∧ some k_ ≠ (.slice Ao65 t896.length co65 : Value).ownBlock) (.slice Ao56 x883000_22.length co56) x883000_22) := ⟨by exact Kd.R_mono (Kd.R_far (p := ⟨gb899, 2, none⟩) (Kd.R_far (p := ⟨gb899, 1, none⟩) (Kd.R_far (p := ⟨gb899, 0, none⟩) (Kd.R_types HO_883000.out BK899.out (by decide)) (fun _ hk => hk.2) (.bool true)) (fun _ hk => hk.2) (.int .i64 t895)) (fun _ hk => hk.2) (.slice Ao65 t896.length co65)) (fun _ hk => ⟨hk.1.1, hk.1.2⟩)⟩
   have n1_ : Aside0 (Kd.N k35 35 (((w62.setCell ⟨gb899, 0, none⟩ (.bool true)).setCell ⟨gb899, 1, none⟩ (.int .i64 t895)).setCell ⟨gb899, 2, none⟩ (.slice Ao65 t896.length co65)) w.heap.size (fun k_ => some k_ ≠ (.slice Ao56 x883000_22.length co56 : Value).ownBlock ∧ some k_ ≠ (.slice Ao58 x883002_22.length co58 : Value).ownBlock ∧ some k_ ≠ (.slice Ao65 t896.length co65 : Value).ownBlock ∧ k_ ≠ gb882 ∧ k_ ≠ gb899) (.slice Ao57 x883001_22.length co57) x883001_22) := ⟨by exact Kd.N_mono (Kd.N_far (p := ⟨gb899, 2, none⟩) (Kd.N_far (p := ⟨gb899, 1, none⟩) (Kd.N_far (p := ⟨gb899, 0, none⟩) (Kd.N_mono HO_883001.out (fun k_ hk => (⟨hk, hk.2⟩ : _ ∧ k_ ≠ gb899))) (fun _ hk => hk.2) (.bool true)) (fun _ hk => hk.2) (.int .i64 t895)) (fun _ hk => hk.2) (.slice Ao65 t896.length co65)) (fun _ hk => ⟨hk.1.1.1.1, ⟨hk.1.1.1.2.1, ⟨hk.1.1.2, ⟨hk.1.1.1.2.2, hk.1.2⟩⟩⟩⟩)⟩
   have n2_ : Aside0 (Kd.R (Kd.int .i64) 3 (((w62.setCell ⟨gb899, 0, none⟩ (.bool true)).setCell ⟨gb899, 1, none⟩ (.int .i64 t895)).setCell ⟨gb899, 2, none⟩ (.slice Ao65 t896.length co65)) w.heap.size (fun k_ => some k_ ≠ (.slice Ao56 x883000_22.length co56 : Value).ownBlock ∧ some k_ ≠ (.slice Ao65 t896.length co65 : Value).ownBlock) (.slice Ao58 x883002_22.length co58) x883002_22) := ⟨by exact Kd.R_mono (Kd.R_far (p := ⟨gb899, 2, none⟩) (Kd.R_far (p := ⟨gb899, 1, none⟩) (Kd.R_far (p := ⟨gb899, 0, none⟩) (Kd.R_types HO_883002.out BK899.out (by decide)) (fun _ hk => hk.2) (.bool true)) (fun _ hk => hk.2) (.int .i64 t895)) (fun _ hk => hk.2) (.slice Ao65 t896.length co65)) (fun _ hk => ⟨hk.1.1, hk.1.2⟩)⟩
   have n3_ : Aside0 (Kd.R (Kd.int .i64) 3 (((w62.setCell ⟨gb899, 0, none⟩ (.bool true)).setCell ⟨gb899, 1, none⟩ (.int .i64 t895)).setCell ⟨gb899, 2, none⟩ (.slice Ao65 t896.length co65)) w.heap.size (fun k_ => some k_ ≠ (.slice Ao56 x883000_22.length co56 : Value).ownBlock ∧ some k_ ≠ (.slice Ao58 x883002_22.length co58 : Value).ownBlock) (.slice Ao65 t896.length co65) t896) := ⟨by exact Kd.R_mono (Kd.R_far (p := ⟨gb899, 2, none⟩) (Kd.R_far (p := ⟨gb899, 1, none⟩) (Kd.R_far (p := ⟨gb899, 0, none⟩) (Kd.R_types HO898.out BK899.out (by decide)) (fun _ hk => hk.2) (.bool true)) (fun _ hk => hk.2) (.int .i64 t895)) (fun _ hk => hk.2) (.slice Ao65 t896.length co65)) (fun _ hk => ⟨hk.1.1.2, hk.1.2⟩)⟩
   have n4_ : Aside0 ((((w62.setCell ⟨gb899, 0, none⟩ (.bool true)).setCell ⟨gb899, 1, none⟩ (.int .i64 t895)).setCell ⟨gb899, 2, none⟩ (.slice Ao65 t896.length co65)).heap[gb882]? = some (.cells #[.slice Ao56 x883000_22.length co56, .slice Ao57 x883001_22.length co57, .slice Ao58 x883002_22.length co58] 26 (0, 0))) := ⟨by (with_reducible repeat (first | refine blk_drewN ?_ _ | refine blk_drew ?_ | refine blk_alloc ?_ _)); refine blk_far ?_ NB882_899.out _; (with_reducible repeat (first | refine blk_drewN ?_ _ | refine blk_drew ?_ | refine blk_alloc ?_ _)); refine blk_far ?_ NB882_899.out _; (with_reducible repeat (first | refine blk_drewN ?_ _ | refine blk_drew ?_ | refine blk_alloc ?_ _)); refine blk_far ?_ NB882_899.out _; (with_reducible repeat (first | refine blk_drewN ?_ _ | refine blk_drew ?_ | refine blk_alloc ?_ _)); exact BK882.out⟩
   have n5_ : Aside0 ((((w62.setCell ⟨gb899, 0, none⟩ (.bool true)).setCell ⟨gb899, 1, none⟩ (.int .i64 t895)).setCell ⟨gb899, 2, none⟩ (.slice Ao65 t896.length co65)).heap[gb899]? = some (.cells #[.bool true, .int .i64 t895, .slice Ao65 t896.length co65] 41 (0, 0))) := ⟨by (with_reducible repeat (first | refine blk_drewN ?_ _ | refine blk_drew ?_ | refine blk_alloc ?_ _)); refine blk_put (cs := #[.bool true, .int .i64 t895, .slice none 0 0]) ?_ 2 _ rfl; (with_reducible repeat (first | refine blk_drewN ?_ _ | refine blk_drew ?_ | refine blk_alloc ?_ _)); refine blk_put (cs := #[.bool true, .int .i64 0, .slice none 0 0]) ?_ 1 _ rfl; (with_reducible repeat (first | refine blk_drewN ?_ _ | refine blk_drew ?_ | refine blk_alloc ?_ _)); refine blk_put (cs := #[.bool false, .int .i64 0, .slice none 0 0]) ?_ 0 _ rfl; (with_reducible repeat (first | refine blk_drewN ?_ _ | refine blk_drew ?_ | refine blk_alloc ?_ _)); exact BK899.out⟩
   have n6_ : Aside0 (Below w.heap.size w (((w62.setCell ⟨gb899, 0, none⟩ (.bool true)).setCell ⟨gb899, 1, none⟩ (.int .i64 t895)).setCell ⟨gb899, 2, none⟩ (.slice Ao65 t896.length co65))) := ⟨by repeat (first | (with_reducible first | exact HB.out | refine below_set ?_ GE882.out | refine below_set ?_ GE899.out) | exact HB.out)⟩
   clear HO_883000
   clear HO_883001
   clear HO_883002
   clear HO898
   clear BK882
   clear BK899
   clear HB
   generalize (((w62.setCell ⟨gb899, 0, none⟩ (.bool true)).setCell ⟨gb899, 1, none⟩ (.int .i64 t895)).setCell ⟨gb899, 2, none⟩ (.slice Ao65 t896.length co65)) = w66 at n0_ n1_ n2_ n3_ n4_ n5_ n6_ ⊢
   have HO_883000 := n0_
   have HO_883001 := n1_
   have HO_883002 := n2_
   have HO898 := n3_
   have BK882 := n4_
   have BK899 := n5_
   have HB := n6_
   clear n0_ n1_ n2_ n3_ n4_ n5_ n6_
   have n0_ := K_ (Kd.R_drew HO_883000.out)
   have n1_ := K_ (Kd.N_drew HO_883001.out)
   have n2_ := K_ (Kd.R_drew HO_883002.out)
   have n3_ := K_ (Kd.R_drew HO898.out)
   have n4_ := K_ (blk_drew BK882.out)
   have n5_ := K_ (blk_drew BK899.out)
   have n6_ := K_ (below_drew1 HB.out)
   clear HO_883000
   clear HO_883001
   clear HO_883002
   clear HO898
   clear BK882
   clear BK899
   clear HB
   have HO_883000 := n0_
   have HO_883001 := n1_
   have HO_883002 := n2_
   have HO898 := n3_
   have BK882 := n4_
   have BK899 := n5_
   have HB := n6_
   clear n0_ n1_ n2_ n3_ n4_ n5_ n6_
   refine start_ (n := 20) (S := fun w' => w'.cell? ⟨gb899, 0, none⟩ = some (.bool true) ∧ w'.cell? ⟨gb899, 1, none⟩ = some (.int .i64 t895) ∧ w'.cell? ⟨gb899, 2, none⟩ = some (.slice Ao65 t896.length co65) ∧ w'.cell? ⟨gb882, 0, none⟩ = some (.slice Ao56 x883000_22.length co56) ∧ w'.cell? ⟨gb882, 1, none⟩ = some (.slice Ao57 x883001_22.length co57) ∧ w'.cell? ⟨gb882, 2, none⟩ = some (.slice Ao58 x883002_22.length co58)) (ds := []) #[ff, ff, ff, ff, ff, ff, ff, ff, ff, ff, ff, ff, ff, ff, ff, ff, ff, ff, ff, ff] (by kernel_rfl) rfl rfl ⟨(blk_cell BK899.out 0).trans rfl, (blk_cell BK899.out 1).trans rfl, (blk_cell BK899.out 2).trans rfl, (blk_cell BK882.out 0).trans rfl, (blk_cell BK882.out 1).trans rfl, (blk_cell BK882.out 2).trans rfl⟩ (fun hHeld => ?_); refine with_tabW laws_FnMeet.tab20 laws_FnMeet.bits20 (fun HT_ HW_ => ?_)
   generalize w66.drew = w67 at HO_883000 HO_883001 HO_883002 HO898 BK882 BK899 HB hHeld ⊢
   refine pure_ (i := 0) (N := some 53) (v := ?_) (a' := ?_) (M_ 20 1) rfl rfl (any_of HT_.out (by kernel_rfl)) (fun _ _ _ h => h) (Or.inl ⟨by rfl, ?_⟩) ?_ ?_
   rotate_left
   ·intro w'
    go_simp
    with_reducible rfl
   rotate_left
   ·simp only [P_, i64_w, i32_w]
    rfl
   refine take_ (i := 1) (N := some 54) (v := ?_) (a' := ?_) (M_ 20 3) rfl rfl (take_ofW HT_.out HW_.out (by kernel_rfl)) (fun _ _ _ h => h) (Or.inl ⟨by rfl, ?_⟩) hHeld ?_ ?_
   rotate_left
   ·rintro w' ⟨s0, s1, s2, s3, s4, s5⟩
    go_simp
    with_reducible rfl
   rotate_left
   ·simp only [P_, i64_w, i32_w]
    rfl
   refine pure_ (i := 2) (N := some 55) (v := ?_) (a' := ?_) (M_ 20 7) rfl rfl (any_of HT_.out (by kernel_rfl)) (fun _ _ _ h => h) (Or.inl ⟨by rfl, ?_⟩) ?_ ?_
   rotate_left
   ·intro w'
    go_simp
    with_reducible rfl
   rotate_left
   ·simp only [P_, i64_w, i32_w]
    rfl
   refine pure_ (i := 4) (N := some 57) (v := ?_) (a' := ?_) (M_ 20 23) rfl rfl (any_of HT_.out (by kernel_rfl)) (fun _ _ _ h => h) (Or.inl ⟨by rfl, ?_⟩) ?_ ?_
   rotate_left
   ·intro w'
    go_simp
    with_reducible rfl
   rotate_left
   ·simp only [P_, i64_w, i32_w]
    rfl
   refine pure_ (i := 7) (N := some 60) (v := ?_) (a' := ?_) (M_ 20 151) rfl rfl (any_of HT_.out (by kernel_rfl)) (fun _ _ _ h => h) (Or.inl ⟨by rfl, ?_⟩) ?_ ?_
   rotate_left
   ·intro w'
    go_simp
    with_reducible rfl
   rotate_left
   ·simp only [P_, i64_w, i32_w]
    rfl
   refine take_ (i := 3) (N := some 56) (v := ?_) (a' := ?_) (M_ 20 159) rfl rfl (take_ofW HT_.out HW_.out (by kernel_rfl)) (fun _ _ _ h => h) (Or.inl ⟨by rfl, ?_⟩) hHeld ?_ ?_
   rotate_left
   ·rintro w' ⟨s0, s1, s2, s3, s4, s5⟩
    go_simp
    with_reducible rfl
   rotate_left
   ·simp only [P_, i64_w, i32_w]
    rfl
   refine take_ (i := 5) (N := some 58) (v := ?_) (a' := ?_) (M_ 20 191) rfl rfl (take_ofW HT_.out HW_.out (by kernel_rfl)) (fun _ _ _ h => h) (Or.inl ⟨by rfl, ?_⟩) hHeld ?_ ?_
   rotate_left
   ·rintro w' ⟨s0, s1, s2, s3, s4, s5⟩
    go_simp
    with_reducible rfl
   rotate_left
   ·simp only [P_, i64_w, i32_w]
    rfl
   refine take_ (i := 8) (N := some 61) (v := ?_) (a' := ?_) (M_ 20 447) rfl rfl (take_ofW HT_.out HW_.out (by kernel_rfl)) (fun _ _ _ h => h) (Or.inl ⟨by rfl, ?_⟩) hHeld ?_ ?_
   rotate_left
   ·rintro w' ⟨s0, s1, s2, s3, s4, s5⟩
    go_simp
    with_reducible rfl
   rotate_left
   ·simp only [P_, i64_w, i32_w]
    rfl
   refine one_ (i := 6) (N := some 59) (M_ 20 511) rfl rfl (one_of HT_.out (by kernel_rfl)) (by decide) (fun K hK => ?_)
   refine goes_ Try.func34 (by kernel_rfl) rfl #[.agg #[.slice Ao56 x883000_22.length co56, .slice Ao57 x883001_22.length co57, .slice Ao58 x883002_22.length co58], .slice Ao65 t896.length co65] (by rfl) rfl rfl (by simp only [List.map_toArray, List.map_cons, List.map_nil]; try rfl) ?_
   with_reducible refine (impl_Cost.calls kj22 (fun k_ => some k_ = (.slice Ao56 x883000_22.length co56 : Value).ownBlock) _ _ x883000_22 (fun k_ => (some k_ ≠ (.slice Ao56 x883000_22.length co56 : Value).ownBlock ∧ (some k_ ≠ (.slice Ao58 x883002_22.length co58 : Value).ownBlock ∧ (some k_ ≠ (.slice Ao65 t896.length co65 : Value).ownBlock ∧ (k_ ≠ gb882 ∧ k_ ≠ gb899))))) _ _ x883001_22 (fun k_ => some k_ = (.slice Ao58 x883002_22.length co58 : Value).ownBlock) _ _ x883002_22 _ _ t896 t900 _ ?side1 ?side2 ?side3 ?side4 ?side5 A52.out).mono ?_
   (case side1 => exact Kd.R_V (Kd.R_tight rfl (Kd.R_types (Kd.R_types (Kd.R_apart' (HO_883000.out) (Kd.N_typed HO_883001.out) (by decide)) BK882.out (by decide)) BK899.out (by decide))))
   (case side2 => exact Kd.N_V (HO_883001.out))
   (case side3 => exact Kd.R_V (Kd.R_tight rfl (Kd.R_types (Kd.R_types (Kd.R_apart' (HO_883002.out) (Kd.N_typed HO_883001.out) (by decide)) BK882.out (by decide)) BK899.out (by decide))))
   (case side4 => exact (Kd.R_reads' HO898.out).2.2)
   (case side5 => exact (Kd.R_reads' HO898.out).2.1)
   rintro e w68 ⟨rfl, hb⟩
   refine ⟨_, rfl, ?_⟩
   have n0_ := K_ (Kd.R_below (by exact HO_883000.out) hb)
   have n1_ := K_ (Kd.N_below (by exact HO_883001.out) hb)
   have n2_ := K_ (Kd.R_below (by exact HO_883002.out) hb)
   have n3_ := K_ (Kd.R_below (by exact HO898.out) hb)
   have n4_ := K_ (blk_below (g := gb882) (o := .cells #[.slice Ao56 x883000_22.length co56, .slice Ao57 x883001_22.length co57, .slice Ao58 x883002_22.length co58] 26 (0, 0)) BK882.out hb)
   have n5_ := K_ (blk_below (g := gb899) (o := .cells #[.bool true, .int .i64 t895, .slice Ao65 t896.length co65] 41 (0, 0)) BK899.out hb)
   have n6_ := K_ (below_step (HB.out) hb)
   clear HO_883000
   clear HO_883001
   clear HO_883002
   clear HO898
   clear BK882
   clear BK899
   clear HB
   have HO_883000 := n0_
   have HO_883001 := n1_
   have HO_883002 := n2_
   have HO898 := n3_
   have BK882 := n4_
   have BK899 := n5_
   have HB := n6_
   clear n0_ n1_ n2_ n3_ n4_ n5_ n6_
   clear hb
   skip
   (try clear hk)
   skip
   refine hK.out _ _ ⟨(blk_cell BK899.out 0).trans rfl, (blk_cell BK899.out 1).trans rfl, (blk_cell BK899.out 2).trans rfl, (blk_cell BK882.out 0).trans rfl, (blk_cell BK882.out 1).trans rfl, (blk_cell BK882.out 2).trans rfl⟩ (fun hHeld => ?_)
   clear hK K
   refine norm_ (a' := ?_) ?_ ?_
   rotate_left
   ·show Act.put _ (some 59) _ = _
    simp only [P_, i64_w, i32_w]
    rfl
   refine pure_ (i := 9) (N := some 62) (v := ?_) (a' := ?_) (M_ 20 1023) rfl rfl (any_of HT_.out (by kernel_rfl)) (fun _ _ _ h => h) (Or.inl ⟨by rfl, ?_⟩) ?_ ?_
   rotate_left
   ·intro w'
    go_simp
    with_reducible rfl
   rotate_left
   ·simp only [P_, i64_w, i32_w]
    rfl
   refine pure_ (i := 10) (N := some 63) (v := ?_) (a' := ?_) (M_ 20 2047) rfl rfl (any_of HT_.out (by kernel_rfl)) (fun _ _ _ h => h) (Or.inl ⟨by rfl, ?_⟩) ?_ ?_
   rotate_left
   ·intro w'
    go_simp
    with_reducible rfl
   rotate_left
   ·simp only [P_, i64_w, i32_w]
    rfl
   refine pure_ (i := 11) (N := some 64) (v := ?_) (a' := ?_) (M_ 20 4095) rfl rfl (any_of HT_.out (by kernel_rfl)) (fun _ _ _ h => h) (Or.inl ⟨by rfl, ?_⟩) ?_ ?_
   rotate_left
   ·intro w'
    go_simp
    with_reducible rfl
   rotate_left
   ·simp only [P_, i64_w, i32_w]
    rfl
   refine pure_ (i := 12) (N := some 65) (v := ?_) (a' := ?_) (M_ 20 8191) rfl rfl (any_of HT_.out (by kernel_rfl)) (fun _ _ _ h => h) (Or.inl ⟨by rfl, ?_⟩) ?_ ?_
   rotate_left
   ·intro w'
    go_simp
    with_reducible rfl
   rotate_left
   ·simp only [P_, i64_w, i32_w]
    rfl
   refine take_ (i := 13) (N := some 66) (v := ?_) (a' := ?_) (M_ 20 16383) rfl rfl (take_ofW HT_.out HW_.out (by kernel_rfl)) (fun _ _ _ h => h) (Or.inl ⟨by rfl, ?_⟩) hHeld ?_ ?_
   rotate_left
   ·rintro w' ⟨s0, s1, s2, s3, s4, s5⟩
    go_simp
    with_reducible rfl
   rotate_left
   ·simp only [P_, i64_w, i32_w]
    rfl
   refine take_ (i := 14) (N := some 67) (v := ?_) (a' := ?_) (M_ 20 32767) rfl rfl (take_ofW HT_.out HW_.out (by kernel_rfl)) (fun _ _ _ h => h) (Or.inl ⟨by rfl, ?_⟩) hHeld ?_ ?_
   rotate_left
   ·rintro w' ⟨s0, s1, s2, s3, s4, s5⟩
    go_simp
    with_reducible rfl
   rotate_left
   ·simp only [P_, i64_w, i32_w]
    rfl
   refine one_ (i := 15) (N := some 68) (M_ 20 65535) rfl rfl (one_of HT_.out (by kernel_rfl)) (by decide) (fun K hK => ?_)
   refine goes_ Try.func27 (by kernel_rfl) rfl #[.agg #[.slice Ao56 x883000_22.length co56, .slice Ao57 x883001_22.length co57, .slice Ao58 x883002_22.length co58]] (by rfl) rfl rfl (by simp only [List.map_toArray, List.map_cons, List.map_nil]; try rfl) ?_
   with_reducible refine (spec_Solve.calls kj22 _ _ x883000_22 _ _ x883001_22 _ _ x883002_22 t901 t902 t903 _ ?side1 ?side2 ?side3 ?side4 ?side5 ?side6 A54.out).mono ?_
   (case side1 => exact (Kd.R_reads' HO_883000.out).2.2)
   (case side2 => exact (Kd.R_reads' HO_883000.out).2.1)
   (case side3 => exact (Kd.N_reads' HO_883001.out).2.2)
   (case side4 => exact (Kd.N_reads' HO_883001.out).2.1)
   (case side5 => exact (Kd.R_reads' HO_883002.out).2.2)
   (case side6 => exact (Kd.R_reads' HO_883002.out).2.1)
   rintro e w69 ⟨v904, rfl, ho0, hb⟩
   refine ⟨_, rfl, ?_⟩
   have n0_ := K_ (Kd.R_elder' (by exact HO_883000.out) (Kd.R_base ho0) hb)
   have n1_ := K_ (Kd.N_elder' (by exact HO_883001.out) (Kd.R_base ho0) hb)
   have n2_ := K_ (Kd.R_elder' (by exact HO_883002.out) (Kd.R_base ho0) hb)
   have n3_ := K_ (Kd.R_elder' (by exact HO898.out) (Kd.R_base ho0) hb)
   have n4_ := K_ (Kd.R_lower (Kd.R_new' (Kd.R_new' (Kd.R_new' ho0 (Kd.R_lt (by exact HO_883000.out))) (Kd.R_lt (by exact HO_883002.out))) (Kd.R_lt (by exact HO898.out))) (below_size (HB.out)))
   have n5_ := K_ (blk_below (g := gb882) (o := .cells #[.slice Ao56 x883000_22.length co56, .slice Ao57 x883001_22.length co57, .slice Ao58 x883002_22.length co58] 26 (0, 0)) BK882.out hb)
   have n6_ := K_ (blk_below (g := gb899) (o := .cells #[.bool true, .int .i64 t895, .slice Ao65 t896.length co65] 41 (0, 0)) BK899.out hb)
   have n7_ := K_ (below_step (HB.out) hb)
   clear HO_883000
   clear HO_883001
   clear HO_883002
   clear HO898
   clear BK882
   clear BK899
   clear HB
   have HO_883000 := n0_
   have HO_883001 := n1_
   have HO_883002 := n2_
   have HO898 := n3_
   have HO905 := n4_
   have BK882 := n5_
   have BK899 := n6_
   have HB := n7_
   clear n0_ n1_ n2_ n3_ n4_ n5_ n6_ n7_
   clear hb
   (try clear hb2)
   (try clear hk)
   (try clear hi)
   clear ho0
   refine hK.out _ _ ⟨(blk_cell BK899.out 0).trans rfl, (blk_cell BK899.out 1).trans rfl, (blk_cell BK899.out 2).trans rfl, (blk_cell BK882.out 0).trans rfl, (blk_cell BK882.out 1).trans rfl, (blk_cell BK882.out 2).trans rfl⟩ (fun hHeld => ?_)
   clear hK K
   refine norm_ (a' := ?_) ?_ ?_
   rotate_left
   ·show Act.put _ (some 68) _ = _
    simp only [P_, i64_w, i32_w]
    rfl
   refine pure_ (i := 16) (N := some 69) (v := ?_) (a' := ?_) (M_ 20 131071) rfl rfl (any_of HT_.out (by kernel_rfl)) (fun _ _ _ h => h) (Or.inl ⟨by rfl, ?_⟩) ?_ ?_
   rotate_left
   ·intro w'
    go_simp
    with_reducible rfl
   rotate_left
   ·simp only [P_, i64_w, i32_w]
    rfl
   refine pure_ (i := 17) (N := some 70) (v := ?_) (a' := ?_) (M_ 20 262143) rfl rfl (any_of HT_.out (by kernel_rfl)) (fun _ _ _ h => h) (Or.inl ⟨by rfl, ?_⟩) ?_ ?_
   rotate_left
   ·intro w'
    go_simp
    with_reducible rfl
   rotate_left
   ·simp only [P_, i64_w, i32_w]
    rfl
   refine pure_ (i := 18) (N := some 71) (v := ?_) (a' := ?_) (M_ 20 524287) rfl rfl (any_of HT_.out (by kernel_rfl)) (fun _ _ _ h => h) (Or.inl ⟨by rfl, ?_⟩) ?_ ?_
   rotate_left
   ·intro w'
    go_simp
    with_reducible rfl
   rotate_left
   ·simp only [P_, i64_w, i32_w]
    rfl
   refine pure_ (i := 19) (N := some 2) (v := ?_) (a' := ?_) (M_ 20 1048575) rfl rfl (any_of HT_.out (by kernel_rfl)) (fun _ _ _ h => h) (Or.inl ⟨by rfl, ?_⟩) ?_ ?_
   rotate_left
   ·intro w'
    go_simp
    with_reducible rfl
   rotate_left
   ·simp only [P_, i64_w, i32_w]
    rfl
   refine done_ (done_of HT_.out (by kernel_rfl)) ?_
   try go_wp2
   go_ret
   exact ⟨rfl, HB.out⟩

/-- THE ONE PURE STATEMENT of laws_FnMeet: yours. -/
def laws_FnMeet.Pure : Prop := ∀ (l0 : List Int), l0.length ≤ maxLen → l0.length * 1 ≤ 140737488351232 → (∀ x ∈ l0, (Lit.int .u8 x).wf = true) → ∃ k, laws_FnMeet.f k l0 = some true
theorem laws_FnMeet.walk (P : laws_FnMeet.Pure) (a0 : Option Addr) (len0 cap0 : Nat) (z0 : List Int) (w : World) (w0 : (a0 = none ∧ len0 = 0 ∧ cap0 = 0 ∧ z0 = []) ∨ ∃ x, a0 = some x ∧ len0 ≤ cap0 ∧ cap0 ≤ maxLen ∧ z0.length = cap0 ∧ (∀ i, i < z0.length → w.cell? (x.add i) = some (.int .u8 (z0.getD i 0))) ∧ ∀ n ∈ z0, (Lit.int .u8 n).wf = true) (y0 : len0 * 1 ≤ 140737488351232) :
  Calls Try.prog 7 #[.slice a0 len0 cap0] w fun e w' => e = .returned (.bool true) ∧ Below w.heap.size w w' := by
 have hu41_ := @So.field41
 have hu410_ := @So.field41_0
 have hu412_ := @So.field41_2
 obtain ⟨l0, rfl, hr0, hm0, hw0, hc0⟩ := ReadsInt.ofRowC w0
 obtain ⟨k, h⟩ := P l0 hm0 y0 hw0
 refine (laws_FnMeet.calls k _ _ l0 true w (Kd.C_of_reads (d := (0 : Int)) (h1 := fun _ => rfl) hr0) hc0 h).mono ?_
 rintro e w' ⟨rfl, hd⟩
 exact ⟨rfl, hd⟩


end Go.Proofs.Ytpbclogjoangfaa.Q
