-- Written by programs of this session (wip/drv.py, wip/mkclaim.py) over the kit's print; not trusted: Lean checks it.
import Derived.Test.YtpbclogjoangfaaFnEasierQ0
import Derived.Test.YtpbclogjoangfaaFnEasierQ1
import Derived.Test.YtpbclogjoangfaaFnEasierQ2
import Derived.Test.YtpbclogjoangfaaFnEasierQ3
import Derived.Test.YtpbclogjoangfaaFnEasierQ4
import Derived.Test.YtpbclogjoangfaaFnEasierQ5
namespace Go.Proofs.Ytpbclogjoangfaa.Q
open Go.RowKit Go.Proofs.YtpbclogjoangfaaW.PrintWords Go.Proofs.YtpbclogjoangfaaW.PrintLast Go.Proofs.YtpbclogjoangfaaW.PrintMore
attribute [local go_sem] max2_int min2_int max_two min_two max_three min_three max_four min_four   -- for this text's walks alone
set_option linter.unusedVariables false
set_option linter.unusedSimpArgs false

/-! ### impl_Cost: function 34 -/
mutual
def impl_Cost.j0 : Nat → List Int → Bool → List Int → List (S35) → List Int → Option (Int)
 | 0, _, _, _, _, _ => none
 | k + 1, x1, x18, x589000, x589001, x589002 => if x18 = true then (some (-1)) else (impl_Cost.l0 k 0 x1 (x1.length : Int) 0 x589000 x589001 x589002)
def impl_Cost.l0 : Nat → Int → List Int → Int → Int → List Int → List (S35) → List Int → Option (Int)
 | 0, _, _, _, _, _, _, _ => none
 | k + 1, x5, x19, x20, x21, x589000, x589001, x589002 => if x21 < x20 then (if 0 ≤ x21 then (if x21 < (x19.length : Int) then ((impl_find.f k x589000 x589001 x589002 (rd x19 x21)).bind fun t591 => (if t591 < 0 then (impl_Cost.j2 k x5 t591 x19 x20 x21 true x589000 x589001 x589002) else ((impl_can.f k x589000 x589001 x589002 t591).bind fun t592 => (impl_Cost.j2 k x5 t591 x19 x20 x21 (!t592) x589000 x589001 x589002)))) else (none)) else (none)) else (if (x589001.length : Int) > 0 then (some (-1)) else (some x5))
def impl_Cost.j2 : Nat → Int → Int → List Int → Int → Int → Bool → List Int → List (S35) → List Int → Option (Int)
 | 0, _, _, _, _, _, _, _, _, _ => none
 | k + 1, x5, x8, x19, x20, x21, x35, x589000, x589001, x589002 => if x35 = true then (some (-1)) else (impl_Cost.l1 k x5 x8 x19 x20 x21 x589001 (x589001.length : Int) 0 x589000 x589001 x589002)
def impl_Cost.l1 : Nat → Int → Int → List Int → Int → Int → List (S35) → Int → Int → List Int → List (S35) → List Int → Option (Int)
 | 0, _, _, _, _, _, _, _, _, _, _, _ => none
 | k + 1, x5, x8, x19, x20, x21, x37, x38, x39, x589000, x589001, x589002 => if x39 < x38 then (if 0 ≤ x39 then (if x39 < (x37.length : Int) then (impl_Cost.l1 k (wrap64 (x5 + ((rd_T35 x37 x39).f2))) x8 x19 x20 x21 x37 x38 (wrap64 (x39 + 1)) x589000 x589001 x589002) else (none)) else (none)) else ((impl_step.f k x589000 x589001 x589002 x8).bind fun bt595 => (impl_Cost.l0 k x5 x19 x20 (wrap64 (x21 + 1)) bt595.1 bt595.2.1 bt595.2.2))
end
def impl_Cost.f (k : Nat) (l0_0 : List Int) (l0_1 : List (S35)) (l0_2 : List Int) (l1 : List Int) : Option (Int) := (impl_StateOk.f k l0_0 l0_1 l0_2).bind fun t589 => (if t589 = 0 then (impl_Cost.j0 k l1 (decide ((l1.length : Int) > 45)) l0_0 l0_1 l0_2) else (impl_Cost.j0 k l1 true l0_0 l0_1 l0_2))
theorem impl_Cost.mono_l : ∀ k, (∀ y0 y1 y2 y3 y4, LeO (impl_Cost.j0 k y0 y1 y2 y3 y4) (impl_Cost.j0 (k + 1) y0 y1 y2 y3 y4)) ∧ (∀ y0 y1 y2 y3 y4 y5 y6, LeO (impl_Cost.l0 k y0 y1 y2 y3 y4 y5 y6) (impl_Cost.l0 (k + 1) y0 y1 y2 y3 y4 y5 y6)) ∧ (∀ y0 y1 y2 y3 y4 y5 y6 y7 y8, LeO (impl_Cost.j2 k y0 y1 y2 y3 y4 y5 y6 y7 y8) (impl_Cost.j2 (k + 1) y0 y1 y2 y3 y4 y5 y6 y7 y8)) ∧ (∀ y0 y1 y2 y3 y4 y5 y6 y7 y8 y9 y10, LeO (impl_Cost.l1 k y0 y1 y2 y3 y4 y5 y6 y7 y8 y9 y10) (impl_Cost.l1 (k + 1) y0 y1 y2 y3 y4 y5 y6 y7 y8 y9 y10))
 | 0 => ⟨fun _ _ _ _ _ r h => by simp [impl_Cost.j0] at h, fun _ _ _ _ _ _ _ r h => by simp [impl_Cost.l0] at h, fun _ _ _ _ _ _ _ _ _ r h => by simp [impl_Cost.j2] at h, fun _ _ _ _ _ _ _ _ _ _ _ r h => by simp [impl_Cost.l1] at h⟩
 | k + 1 => by
  obtain ⟨ih0, ih1, ih2, ih3⟩ := impl_Cost.mono_l k
  refine ⟨?_, ?_, ?_, ?_⟩
  ·intro y0 y1 y2 y3 y4
   unfold impl_Cost.j0
   repeat' with_reducible first | exact ih0 _ _ _ _ _ | exact ih1 _ _ _ _ _ _ _ | exact ih2 _ _ _ _ _ _ _ _ _ | exact ih3 _ _ _ _ _ _ _ _ _ _ _ | exact impl_StateOk.mono _ _ _ _ | exact impl_can.mono _ _ _ _ _ | exact impl_find.mono _ _ _ _ _ | exact impl_step.mono _ _ _ _ _ | exact LeO.refl _ | exact LeO.none _ | refine LeO.ite ?_ ?_ | refine LeO.bind ?_ (fun _ => ?_)
  ·intro y0 y1 y2 y3 y4 y5 y6
   unfold impl_Cost.l0
   repeat' with_reducible first | exact ih0 _ _ _ _ _ | exact ih1 _ _ _ _ _ _ _ | exact ih2 _ _ _ _ _ _ _ _ _ | exact ih3 _ _ _ _ _ _ _ _ _ _ _ | exact impl_StateOk.mono _ _ _ _ | exact impl_can.mono _ _ _ _ _ | exact impl_find.mono _ _ _ _ _ | exact impl_step.mono _ _ _ _ _ | exact LeO.refl _ | exact LeO.none _ | refine LeO.ite ?_ ?_ | refine LeO.bind ?_ (fun _ => ?_)
  ·intro y0 y1 y2 y3 y4 y5 y6 y7 y8
   unfold impl_Cost.j2
   repeat' with_reducible first | exact ih0 _ _ _ _ _ | exact ih1 _ _ _ _ _ _ _ | exact ih2 _ _ _ _ _ _ _ _ _ | exact ih3 _ _ _ _ _ _ _ _ _ _ _ | exact impl_StateOk.mono _ _ _ _ | exact impl_can.mono _ _ _ _ _ | exact impl_find.mono _ _ _ _ _ | exact impl_step.mono _ _ _ _ _ | exact LeO.refl _ | exact LeO.none _ | refine LeO.ite ?_ ?_ | refine LeO.bind ?_ (fun _ => ?_)
  ·intro y0 y1 y2 y3 y4 y5 y6 y7 y8 y9 y10
   unfold impl_Cost.l1
   repeat' with_reducible first | exact ih0 _ _ _ _ _ | exact ih1 _ _ _ _ _ _ _ | exact ih2 _ _ _ _ _ _ _ _ _ | exact ih3 _ _ _ _ _ _ _ _ _ _ _ | exact impl_StateOk.mono _ _ _ _ | exact impl_can.mono _ _ _ _ _ | exact impl_find.mono _ _ _ _ _ | exact impl_step.mono _ _ _ _ _ | exact LeO.refl _ | exact LeO.none _ | refine LeO.ite ?_ ?_ | refine LeO.bind ?_ (fun _ => ?_)
theorem impl_Cost.mono : ∀ a0 a1 a2 a3 k, LeO (impl_Cost.f k a0 a1 a2 a3) (impl_Cost.f (k + 1) a0 a1 a2 a3) := by
 intro a0 a1 a2 a3 k
 obtain ⟨ih0, ih1, ih2, ih3⟩ := impl_Cost.mono_l k
 unfold impl_Cost.f
 repeat' with_reducible first | exact ih0 _ _ _ _ _ | exact ih1 _ _ _ _ _ _ _ | exact ih2 _ _ _ _ _ _ _ _ _ | exact ih3 _ _ _ _ _ _ _ _ _ _ _ | exact impl_StateOk.mono _ _ _ _ | exact impl_can.mono _ _ _ _ _ | exact impl_find.mono _ _ _ _ _ | exact impl_step.mono _ _ _ _ _ | exact LeO.refl _ | exact LeO.none _ | refine LeO.ite ?_ ?_ | refine LeO.bind ?_ (fun _ => ?_)

/-! ### spec_Cost: function 45 -/
mutual
def spec_Cost.j0 : Nat → List Int → Bool → List Int → List (S35) → List Int → Option (Int)
 | 0, _, _, _, _, _ => none
 | k + 1, x1, x16, x657000, x657001, x657002 => if x16 = true then (some (-1)) else (spec_Cost.l0 k 0 x1 (x1.length : Int) 0 x657000 x657001 x657002)
def spec_Cost.l0 : Nat → Int → List Int → Int → Int → List Int → List (S35) → List Int → Option (Int)
 | 0, _, _, _, _, _, _, _ => none
 | k + 1, x5, x17, x18, x19, x657000, x657001, x657002 => if x19 < x18 then (if 0 ≤ x19 then (if x19 < (x17.length : Int) then ((spec_l1name.f k x657000 x657001 x657002 (rd x17 x19)).bind fun t659 => (if t659 < 0 then (spec_Cost.j2 k x5 t659 x17 x18 x19 true x657000 x657001 x657002) else ((spec_l1can.f k x657000 x657001 x657002 t659).bind fun t660 => (spec_Cost.j2 k x5 t659 x17 x18 x19 (!t660) x657000 x657001 x657002)))) else (none)) else (none)) else (if (x657001.length : Int) > 0 then (some (-1)) else (some x5))
def spec_Cost.j2 : Nat → Int → Int → List Int → Int → Int → Bool → List Int → List (S35) → List Int → Option (Int)
 | 0, _, _, _, _, _, _, _, _, _ => none
 | k + 1, x5, x8, x17, x18, x19, x33, x657000, x657001, x657002 => if x33 = true then (some (-1)) else ((spec_l2weight.f k x657000 x657001 x657002).bind fun t661 => ((spec_l1step.f k x657000 x657001 x657002 x8).bind fun bt662 => (spec_Cost.l0 k (wrap64 (x5 + t661)) x17 x18 (wrap64 (x19 + 1)) bt662.1 bt662.2.1 bt662.2.2)))
end
def spec_Cost.f (k : Nat) (l0_0 : List Int) (l0_1 : List (S35)) (l0_2 : List Int) (l1 : List Int) : Option (Int) := (spec_StateOk.f k l0_0 l0_1 l0_2).bind fun t657 => (if t657 = 0 then (spec_Cost.j0 k l1 (decide ((l1.length : Int) > 45)) l0_0 l0_1 l0_2) else (spec_Cost.j0 k l1 true l0_0 l0_1 l0_2))
theorem spec_Cost.mono_l : ∀ k, (∀ y0 y1 y2 y3 y4, LeO (spec_Cost.j0 k y0 y1 y2 y3 y4) (spec_Cost.j0 (k + 1) y0 y1 y2 y3 y4)) ∧ (∀ y0 y1 y2 y3 y4 y5 y6, LeO (spec_Cost.l0 k y0 y1 y2 y3 y4 y5 y6) (spec_Cost.l0 (k + 1) y0 y1 y2 y3 y4 y5 y6)) ∧ (∀ y0 y1 y2 y3 y4 y5 y6 y7 y8, LeO (spec_Cost.j2 k y0 y1 y2 y3 y4 y5 y6 y7 y8) (spec_Cost.j2 (k + 1) y0 y1 y2 y3 y4 y5 y6 y7 y8))
 | 0 => ⟨fun _ _ _ _ _ r h => by simp [spec_Cost.j0] at h, fun _ _ _ _ _ _ _ r h => by simp [spec_Cost.l0] at h, fun _ _ _ _ _ _ _ _ _ r h => by simp [spec_Cost.j2] at h⟩
 | k + 1 => by
  obtain ⟨ih0, ih1, ih2⟩ := spec_Cost.mono_l k
  refine ⟨?_, ?_, ?_⟩
  ·intro y0 y1 y2 y3 y4
   unfold spec_Cost.j0
   repeat' with_reducible first | exact ih0 _ _ _ _ _ | exact ih1 _ _ _ _ _ _ _ | exact ih2 _ _ _ _ _ _ _ _ _ | exact spec_StateOk.mono _ _ _ _ | exact spec_l1can.mono _ _ _ _ _ | exact spec_l1name.mono _ _ _ _ _ | exact spec_l1step.mono _ _ _ _ _ | exact spec_l2weight.mono _ _ _ _ | exact LeO.refl _ | exact LeO.none _ | refine LeO.ite ?_ ?_ | refine LeO.bind ?_ (fun _ => ?_)
  ·intro y0 y1 y2 y3 y4 y5 y6
   unfold spec_Cost.l0
   repeat' with_reducible first | exact ih0 _ _ _ _ _ | exact ih1 _ _ _ _ _ _ _ | exact ih2 _ _ _ _ _ _ _ _ _ | exact spec_StateOk.mono _ _ _ _ | exact spec_l1can.mono _ _ _ _ _ | exact spec_l1name.mono _ _ _ _ _ | exact spec_l1step.mono _ _ _ _ _ | exact spec_l2weight.mono _ _ _ _ | exact LeO.refl _ | exact LeO.none _ | refine LeO.ite ?_ ?_ | refine LeO.bind ?_ (fun _ => ?_)
  ·intro y0 y1 y2 y3 y4 y5 y6 y7 y8
   unfold spec_Cost.j2
   repeat' with_reducible first | exact ih0 _ _ _ _ _ | exact ih1 _ _ _ _ _ _ _ | exact ih2 _ _ _ _ _ _ _ _ _ | exact spec_StateOk.mono _ _ _ _ | exact spec_l1can.mono _ _ _ _ _ | exact spec_l1name.mono _ _ _ _ _ | exact spec_l1step.mono _ _ _ _ _ | exact spec_l2weight.mono _ _ _ _ | exact LeO.refl _ | exact LeO.none _ | refine LeO.ite ?_ ?_ | refine LeO.bind ?_ (fun _ => ?_)
theorem spec_Cost.mono : ∀ a0 a1 a2 a3 k, LeO (spec_Cost.f k a0 a1 a2 a3) (spec_Cost.f (k + 1) a0 a1 a2 a3) := by
 intro a0 a1 a2 a3 k
 obtain ⟨ih0, ih1, ih2⟩ := spec_Cost.mono_l k
 unfold spec_Cost.f
 repeat' with_reducible first | exact ih0 _ _ _ _ _ | exact ih1 _ _ _ _ _ _ _ | exact ih2 _ _ _ _ _ _ _ _ _ | exact spec_StateOk.mono _ _ _ _ | exact spec_l1can.mono _ _ _ _ _ | exact spec_l1name.mono _ _ _ _ _ | exact spec_l1step.mono _ _ _ _ _ | exact spec_l2weight.mono _ _ _ _ | exact LeO.refl _ | exact LeO.none _ | refine LeO.ite ?_ ?_ | refine LeO.bind ?_ (fun _ => ?_)

/-! ### impl_Stuck: function 40 -/
def impl_Stuck.f (k : Nat) (l0_0 : List Int) (l0_1 : List (S35)) (l0_2 : List Int) : Option (Bool) := (impl_StateOk.f k l0_0 l0_1 l0_2).bind fun t633 => (if t633 = 0 then (if (l0_1.length : Int) > 0 then ((impl_Moves.f k l0_0 l0_1 l0_2).bind fun t634 => (some ((t634.length : Int) == 0))) else (some false)) else (some false))
theorem impl_Stuck.mono : ∀ a0 a1 a2 k, LeO (impl_Stuck.f k a0 a1 a2) (impl_Stuck.f (k + 1) a0 a1 a2) := by
 intro a0 a1 a2 k
 unfold impl_Stuck.f
 repeat' with_reducible first | exact impl_Moves.mono _ _ _ _ | exact impl_StateOk.mono _ _ _ _ | exact LeO.refl _ | exact LeO.none _ | refine LeO.ite ?_ ?_ | refine LeO.bind ?_ (fun _ => ?_)

/-! ### laws_wInts: function 21 -/
def laws_wInts.l0 : Nat → List Int → List Int → Int → Int → Option (Bool)
 | 0, _, _, _, _ => none
 | k + 1, x0, x1, x12, x13 => if x13 < x12 then (if 0 ≤ x13 then (if x13 < (x0.length : Int) then (if x13 < (x1.length : Int) then (if (rd x0 x13) = (rd x1 x13) then (laws_wInts.l0 k x0 x1 x12 (wrap64 (x13 + 1))) else (some false)) else (none)) else (none)) else (none)) else (some true)
def laws_wInts.f (k : Nat) (l0 : List Int) (l1 : List Int) : Option (Bool) := if (l0.length : Int) = (l1.length : Int) then (laws_wInts.l0 k l0 l1 (l0.length : Int) 0) else (some false)
theorem laws_wInts.mono_l : ∀ k, (∀ y0 y1 y2 y3, LeO (laws_wInts.l0 k y0 y1 y2 y3) (laws_wInts.l0 (k + 1) y0 y1 y2 y3))
 | 0 => fun _ _ _ _ r h => by simp [laws_wInts.l0] at h
 | k + 1 => by
  have ih0 := laws_wInts.mono_l k
  ·intro y0 y1 y2 y3
   unfold laws_wInts.l0
   repeat' with_reducible first | exact ih0 _ _ _ _ | exact LeO.refl _ | exact LeO.none _ | refine LeO.ite ?_ ?_ | refine LeO.bind ?_ (fun _ => ?_)
theorem laws_wInts.mono : ∀ a0 a1 k, LeO (laws_wInts.f k a0 a1) (laws_wInts.f (k + 1) a0 a1) := by
 intro a0 a1 k
 have ih0 := laws_wInts.mono_l k
 unfold laws_wInts.f
 repeat' with_reducible first | exact ih0 _ _ _ _ | exact LeO.refl _ | exact LeO.none _ | refine LeO.ite ?_ ?_ | refine LeO.bind ?_ (fun _ => ?_)

end Go.Proofs.Ytpbclogjoangfaa.Q
