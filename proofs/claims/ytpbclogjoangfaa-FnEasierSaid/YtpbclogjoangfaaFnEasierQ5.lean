-- Written by programs of this session (wip/drv.py, wip/mkclaim.py) over the kit's print; not trusted: Lean checks it.
import Derived.Test.YtpbclogjoangfaaFnEasierQ0
import Derived.Test.YtpbclogjoangfaaFnEasierQ4
namespace Go.Proofs.Ytpbclogjoangfaa.Q
open Go.RowKit Go.Proofs.YtpbclogjoangfaaW.PrintWords Go.Proofs.YtpbclogjoangfaaW.PrintLast Go.Proofs.YtpbclogjoangfaaW.PrintMore
attribute [local go_sem] max2_int min2_int max_two min_two max_three min_three max_four min_four   -- for this text's walks alone
set_option linter.unusedVariables false
set_option linter.unusedSimpArgs false

/-! ### impl_copyState: function 63 -/
def impl_copyState.l0 : Nat → List (S35) → Int → Int → List Int → List (S35) → List Int → Option (List Int × (List (S35)) × List Int)
 | 0, _, _, _, _, _, _ => none
 | k + 1, x14, x15, x16, x369000, x369001, x369002 => if x16 < x15 then (if 0 ≤ x16 then (if x16 < (x14.length : Int) then (if ([] : List Int).length + ((rd_T35 x14 x16).f1).length < 17592186044416 then (if x369001.length < 3518437208883 then (impl_copyState.l0 k x14 x15 (wrap64 (x16 + 1)) x369000 (x369001 ++ [(⟨(rd_T35 x14 x16).f0, (([] : List Int) ++ ((rd_T35 x14 x16).f1)), (rd_T35 x14 x16).f2⟩ : S35)]) x369002) else (none)) else (none)) else (none)) else (none)) else (some (x369000, x369001, x369002))
def impl_copyState.f (k : Nat) (l0_0 : List Int) (l0_1 : List (S35)) (l0_2 : List Int) : Option (List Int × (List (S35)) × List Int) := if ([] : List Int).length + l0_0.length < 17592186044416 then (if ([] : List Int).length + l0_2.length < 17592186044416 then (impl_copyState.l0 k l0_1 (l0_1.length : Int) 0 (([] : List Int) ++ l0_0) ([] : List (S35)) (([] : List Int) ++ l0_2)) else (none)) else (none)
theorem impl_copyState.mono_l : ∀ k, (∀ y0 y1 y2 y3 y4 y5, LeO (impl_copyState.l0 k y0 y1 y2 y3 y4 y5) (impl_copyState.l0 (k + 1) y0 y1 y2 y3 y4 y5))
 | 0 => fun _ _ _ _ _ _ r h => by simp [impl_copyState.l0] at h
 | k + 1 => by
  have ih0 := impl_copyState.mono_l k
  ·intro y0 y1 y2 y3 y4 y5
   unfold impl_copyState.l0
   repeat' with_reducible first | exact ih0 _ _ _ _ _ _ | exact LeO.refl _ | exact LeO.none _ | refine LeO.ite ?_ ?_ | refine LeO.bind ?_ (fun _ => ?_)
theorem impl_copyState.mono : ∀ a0 a1 a2 k, LeO (impl_copyState.f k a0 a1 a2) (impl_copyState.f (k + 1) a0 a1 a2) := by
 intro a0 a1 a2 k
 have ih0 := impl_copyState.mono_l k
 unfold impl_copyState.f
 repeat' with_reducible first | exact ih0 _ _ _ _ _ _ | exact LeO.refl _ | exact LeO.none _ | refine LeO.ite ?_ ?_ | refine LeO.bind ?_ (fun _ => ?_)
def impl_copyState.T1 : Bool × List (List Nat × List Nat) := (true, [([], []), ([0], [0]), ([1], [1]), ([], []), ([3], [3]), ([4, 2], [4]), ([2, 5], [2, 5]), ([], []), ([7, 6, 5, 0, 1, 2, 3, 4, 5, 6, 7], [6, 7])])
def impl_copyState.B1 : List Nat := [0, 1, 3, 0, 8, 31, 63, 0, 255]
theorem impl_copyState.tab1 : rtab .any (opsOf Try.f63 1) = impl_copyState.T1 := by kernel_rfl
theorem impl_copyState.bits1 : waitsOk impl_copyState.T1.2 impl_copyState.B1 = true := by kernel_rfl

/-! ### impl_step: function 62 -/
def impl_step.f (k : Nat) (l0_0 : List Int) (l0_1 : List (S35)) (l0_2 : List Int) (a1 : Int) : Option (List Int × (List (S35)) × List Int) := (impl_copyState.f k l0_0 l0_1 l0_2).bind fun bt379 => (if 0 ≤ a1 then (if a1 < (bt379.2.1.length : Int) then (if (((rd_T35 bt379.2.1 a1).f1).length : Int) = 0 then (if a1 ≤ (bt379.2.1.length : Int) then (if 0 ≤ (wrap64 (a1 + 1)) then (if (wrap64 (a1 + 1)) ≤ (bt379.2.1.length : Int) then (if a1 ≤ (bt379.2.2.length : Int) then (if (wrap64 (a1 + 1)) ≤ (bt379.2.2.length : Int) then (some (bt379.1, (bt379.2.1.eraseIdx (a1 : Int).toNat), (bt379.2.2.eraseIdx (a1 : Int).toNat))) else (none)) else (none)) else (none)) else (none)) else (none)) else (if 0 < (((rd_T35 bt379.2.1 a1).f1).length : Int) then ((some (bt379.2.1.set (a1 : Int).toNat (⟨rd ((rd_T35 bt379.2.1 a1).f1) 0, (rd_T35 bt379.2.1 a1).f1, (rd_T35 bt379.2.1 a1).f2⟩ : S35) : List (S35))).bind fun y418 => (if 1 ≤ (((rd_T35 y418 a1).f1).length : Int) then ((some (((rd_T35 y418 a1).f1).drop 1 : List Int)).bind fun y420 => (if ([] : List Int).length + y420.length < 17592186044416 then (some (bt379.1, (y418.set (a1 : Int).toNat (⟨(rd_T35 y418 a1).f0, (([] : List Int) ++ y420), (rd_T35 y418 a1).f2⟩ : S35)), bt379.2.2)) else (none))) else (none))) else (none))) else (none)) else (none))
theorem impl_step.mono : ∀ a0 a1 a2 a3 k, LeO (impl_step.f k a0 a1 a2 a3) (impl_step.f (k + 1) a0 a1 a2 a3) := by
 intro a0 a1 a2 a3 k
 unfold impl_step.f
 repeat' with_reducible first | exact impl_copyState.mono _ _ _ _ | exact LeO.refl _ | exact LeO.none _ | refine LeO.ite ?_ ?_ | refine LeO.bind ?_ (fun _ => ?_)
def impl_step.T3 : Bool × List (List Nat × List Nat) := (true, [([], []), ([0], [0]), ([], []), ([1, 2], [1, 2]), ([], []), ([4], [4]), ([], []), ([6], [6]), ([5, 7], [5, 7]), ([3, 8], [3, 8]), ([0, 1, 2, 3, 4, 5, 6, 7, 8, 9], []), ([10, 9, 9, 0, 1, 2, 3, 4, 5, 6, 7, 8, 9], [9, 10])])
def impl_step.B3 : List Nat := [0, 1, 0, 7, 0, 16, 0, 64, 240, 511, 1023, 2047]
theorem impl_step.tab3 : rtab .any (opsOf Try.f62 3) = impl_step.T3 := by kernel_rfl
theorem impl_step.bits3 : waitsOk impl_step.T3.2 impl_step.B3 = true := by kernel_rfl
def impl_step.T4 : Bool × List (List Nat × List Nat) := (true, [([], []), ([0], [0]), ([], []), ([1, 2], [1, 2]), ([], []), ([4], [4]), ([], []), ([6], [6]), ([5, 7], [5, 7]), ([3, 8], [3, 8]), ([0, 1, 2, 3, 4, 5, 6, 7, 8, 9], []), ([10, 9, 9, 0, 1, 2, 3, 4, 5, 6, 7, 8, 9], [9, 10])])
def impl_step.B4 : List Nat := [0, 1, 0, 7, 0, 16, 0, 64, 240, 511, 1023, 2047]
theorem impl_step.tab4 : rtab .any (opsOf Try.f62 4) = impl_step.T4 := by kernel_rfl
theorem impl_step.bits4 : waitsOk impl_step.T4.2 impl_step.B4 = true := by kernel_rfl
def impl_step.T6 : Bool × List (List Nat × List Nat) := (true, [([], []), ([0], [0]), ([], []), ([], []), ([3], [3]), ([], []), ([4, 5], [4, 5]), ([6], [6]), ([7], [7]), ([8], [8]), ([9], [9]), ([1, 2, 0, 1, 2, 3, 4, 5, 6, 7, 8, 9, 10], [1, 2]), ([11, 0, 1, 2, 3, 4, 5, 6, 7, 8, 9, 10], [11]), ([12, 10, 0, 1, 2, 3, 4, 5, 6, 7, 8, 9, 10], [10, 12])])
def impl_step.B6 : List Nat := [0, 1, 0, 0, 8, 0, 56, 120, 248, 504, 1016, 2047, 4095, 8191]
theorem impl_step.tab6 : rtab .any (opsOf Try.f62 6) = impl_step.T6 := by kernel_rfl
theorem impl_step.bits6 : waitsOk impl_step.T6.2 impl_step.B6 = true := by kernel_rfl
def impl_step.T7 : Bool × List (List Nat × List Nat) := (true, [([], []), ([0], [0]), ([], []), ([], []), ([3], [3]), ([], []), ([4, 5], [4, 5]), ([6], [6]), ([7], [7]), ([8], [8]), ([9], [9]), ([1, 2, 0, 1, 2, 3, 4, 5, 6, 7, 8, 9, 10], [1, 2]), ([11, 0, 1, 2, 3, 4, 5, 6, 7, 8, 9, 10], [11]), ([12, 10, 10, 0, 1, 2, 3, 4, 5, 6, 7, 8, 9, 10], [10, 12])])
def impl_step.B7 : List Nat := [0, 1, 0, 0, 8, 0, 56, 120, 248, 504, 1016, 2047, 4095, 8191]
theorem impl_step.tab7 : rtab .any (opsOf Try.f62 7) = impl_step.T7 := by kernel_rfl
theorem impl_step.bits7 : waitsOk impl_step.T7.2 impl_step.B7 = true := by kernel_rfl

/-! ### laws_eqIntS: function 36 -/
def laws_eqIntS.l0 : Nat → List Int → List Int → Int → Option (Bool)
 | 0, _, _, _ => none
 | k + 1, x0, x1, x5 => if x5 < (x0.length : Int) then (if 0 ≤ x5 then (if x5 < (x1.length : Int) then (if (rd x0 x5) = (rd x1 x5) then (laws_eqIntS.l0 k x0 x1 (wrap64 (x5 + 1))) else (some false)) else (none)) else (none)) else (some true)
def laws_eqIntS.f (k : Nat) (l0 : List Int) (l1 : List Int) : Option (Bool) := if (l0.length : Int) = (l1.length : Int) then (laws_eqIntS.l0 k l0 l1 0) else (some false)
theorem laws_eqIntS.mono_l : ∀ k, (∀ y0 y1 y2, LeO (laws_eqIntS.l0 k y0 y1 y2) (laws_eqIntS.l0 (k + 1) y0 y1 y2))
 | 0 => fun _ _ _ r h => by simp [laws_eqIntS.l0] at h
 | k + 1 => by
  have ih0 := laws_eqIntS.mono_l k
  ·intro y0 y1 y2
   unfold laws_eqIntS.l0
   repeat' with_reducible first | exact ih0 _ _ _ | exact LeO.refl _ | exact LeO.none _ | refine LeO.ite ?_ ?_ | refine LeO.bind ?_ (fun _ => ?_)
theorem laws_eqIntS.mono : ∀ a0 a1 k, LeO (laws_eqIntS.f k a0 a1) (laws_eqIntS.f (k + 1) a0 a1) := by
 intro a0 a1 k
 have ih0 := laws_eqIntS.mono_l k
 unfold laws_eqIntS.f
 repeat' with_reducible first | exact ih0 _ _ _ | exact LeO.refl _ | exact LeO.none _ | refine LeO.ite ?_ ?_ | refine LeO.bind ?_ (fun _ => ?_)

/-! ### laws_eqTrain: function 90 -/
def laws_eqTrain.f (k : Nat) (a0_0 : Int) (l0_1 : List Int) (a0_2 : Int) (a1_0 : Int) (l1_1 : List Int) (a1_2 : Int) : Option (Bool) := if a0_0 = a1_0 then ((laws_eqIntS.f k l0_1 l1_1).bind fun t523 => (if t523 = true then (if a0_2 = a1_2 then (some true) else (some false)) else (some false))) else (some false)
theorem laws_eqTrain.mono : ∀ a0 a1 a2 a3 a4 a5 k, LeO (laws_eqTrain.f k a0 a1 a2 a3 a4 a5) (laws_eqTrain.f (k + 1) a0 a1 a2 a3 a4 a5) := by
 intro a0 a1 a2 a3 a4 a5 k
 unfold laws_eqTrain.f
 repeat' with_reducible first | exact laws_eqIntS.mono _ _ _ | exact LeO.refl _ | exact LeO.none _ | refine LeO.ite ?_ ?_ | refine LeO.bind ?_ (fun _ => ?_)

/-! ### laws_eqTrainS: function 75 -/
def laws_eqTrainS.l0 : Nat → List (S35) → List (S35) → Int → Option (Bool)
 | 0, _, _, _ => none
 | k + 1, x0, x1, x5 => if x5 < (x0.length : Int) then (if 0 ≤ x5 then (if x5 < (x1.length : Int) then ((laws_eqTrain.f k ((rd_T35 x0 x5).f0) ((rd_T35 x0 x5).f1) ((rd_T35 x0 x5).f2) ((rd_T35 x1 x5).f0) ((rd_T35 x1 x5).f1) ((rd_T35 x1 x5).f2)).bind fun t526 => (if t526 = true then (laws_eqTrainS.l0 k x0 x1 (wrap64 (x5 + 1))) else (some false))) else (none)) else (none)) else (some true)
def laws_eqTrainS.f (k : Nat) (l0 : List (S35)) (l1 : List (S35)) : Option (Bool) := if (l0.length : Int) = (l1.length : Int) then (laws_eqTrainS.l0 k l0 l1 0) else (some false)
theorem laws_eqTrainS.mono_l : ∀ k, (∀ y0 y1 y2, LeO (laws_eqTrainS.l0 k y0 y1 y2) (laws_eqTrainS.l0 (k + 1) y0 y1 y2))
 | 0 => fun _ _ _ r h => by simp [laws_eqTrainS.l0] at h
 | k + 1 => by
  have ih0 := laws_eqTrainS.mono_l k
  ·intro y0 y1 y2
   unfold laws_eqTrainS.l0
   repeat' with_reducible first | exact ih0 _ _ _ | exact laws_eqTrain.mono _ _ _ _ _ _ _ | exact LeO.refl _ | exact LeO.none _ | refine LeO.ite ?_ ?_ | refine LeO.bind ?_ (fun _ => ?_)
theorem laws_eqTrainS.mono : ∀ a0 a1 k, LeO (laws_eqTrainS.f k a0 a1) (laws_eqTrainS.f (k + 1) a0 a1) := by
 intro a0 a1 k
 have ih0 := laws_eqTrainS.mono_l k
 unfold laws_eqTrainS.f
 repeat' with_reducible first | exact ih0 _ _ _ | exact laws_eqTrain.mono _ _ _ _ _ _ _ | exact LeO.refl _ | exact LeO.none _ | refine LeO.ite ?_ ?_ | refine LeO.bind ?_ (fun _ => ?_)
def laws_eqTrainS.T6 : Bool × List (List Nat × List Nat) := (true, [([], []), ([], []), ([0, 1], [0, 1]), ([2], [2]), ([], []), ([], []), ([4, 5], [4, 5]), ([6], [6]), ([3, 7], [3, 7]), ([8], [8])])
def laws_eqTrainS.B6 : List Nat := [0, 0, 3, 7, 0, 0, 48, 112, 255, 511]
theorem laws_eqTrainS.tab6 : rtab .any (opsOf Try.f75 6) = laws_eqTrainS.T6 := by kernel_rfl
theorem laws_eqTrainS.bits6 : waitsOk laws_eqTrainS.T6.2 laws_eqTrainS.B6 = true := by kernel_rfl

/-! ### laws_eqState: function 31 -/
def laws_eqState.f (k : Nat) (l0_0 : List Int) (l0_1 : List (S35)) (l0_2 : List Int) (l1_0 : List Int) (l1_1 : List (S35)) (l1_2 : List Int) : Option (Bool) := (laws_eqIntS.f k l0_0 l1_0).bind fun t529 => (if t529 = true then ((laws_eqTrainS.f k l0_1 l1_1).bind fun t530 => (if t530 = true then ((laws_eqIntS.f k l0_2 l1_2).bind fun t531 => (if t531 = true then (some true) else (some false))) else (some false))) else (some false))
theorem laws_eqState.mono : ∀ a0 a1 a2 a3 a4 a5 k, LeO (laws_eqState.f k a0 a1 a2 a3 a4 a5) (laws_eqState.f (k + 1) a0 a1 a2 a3 a4 a5) := by
 intro a0 a1 a2 a3 a4 a5 k
 unfold laws_eqState.f
 repeat' with_reducible first | exact laws_eqIntS.mono _ _ _ | exact laws_eqTrainS.mono _ _ _ | exact LeO.refl _ | exact LeO.none _ | refine LeO.ite ?_ ?_ | refine LeO.bind ?_ (fun _ => ?_)

/-! ### impl_Step: function 33 -/
def impl_Step.f (k : Nat) (l0_0 : List Int) (l0_1 : List (S35)) (l0_2 : List Int) (a1 : Int) : Option (List Int × (List (S35)) × List Int) := (impl_StateOk.f k l0_0 l0_1 l0_2).bind fun t576 => (if t576 = 0 then ((impl_find.f k l0_0 l0_1 l0_2 a1).bind fun t577 => (if t577 < 0 then (some (([] : List Int), ([] : List (S35)), ([] : List Int))) else ((impl_can.f k l0_0 l0_1 l0_2 t577).bind fun t578 => (if t578 = true then ((impl_step.f k l0_0 l0_1 l0_2 t577).bind fun bt579 => (some (bt579.1, bt579.2.1, bt579.2.2))) else (some (([] : List Int), ([] : List (S35)), ([] : List Int))))))) else (some (([] : List Int), ([] : List (S35)), ([] : List Int))))
theorem impl_Step.mono : ∀ a0 a1 a2 a3 k, LeO (impl_Step.f k a0 a1 a2 a3) (impl_Step.f (k + 1) a0 a1 a2 a3) := by
 intro a0 a1 a2 a3 k
 unfold impl_Step.f
 repeat' with_reducible first | exact impl_StateOk.mono _ _ _ _ | exact impl_can.mono _ _ _ _ _ | exact impl_find.mono _ _ _ _ _ | exact impl_step.mono _ _ _ _ _ | exact LeO.refl _ | exact LeO.none _ | refine LeO.ite ?_ ?_ | refine LeO.bind ?_ (fun _ => ?_)

end Go.Proofs.Ytpbclogjoangfaa.Q
