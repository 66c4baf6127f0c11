-- Written by programs of this session (wip/drv.py, wip/mkclaim.py) over the kit's print; not trusted: Lean checks it.
import Derived.Test.YtkcocomehhlpmaaDoorFnExactShownQ0
namespace Go.Proofs.YtkcocomehhlpmaaDoor.Q
open Go.RowKit Go.Proofs.YtkcocomehhlpmaaDoorW.PrintWords Go.Proofs.YtkcocomehhlpmaaDoorW.PrintLast Go.Proofs.YtkcocomehhlpmaaDoorW.PrintMore
attribute [local go_sem] max2_int min2_int max_two min_two max_three min_three max_four min_four   -- for this text's walks alone
set_option linter.unusedVariables false
set_option linter.unusedSimpArgs false

/-! ### impl_StateOk: function 11 -/
mutual
def impl_StateOk.j0 : Nat → Int → Bool → List Int → List (S48) → List Int → Option (Int)
 | 0, _, _, _, _, _ => none
 | k + 1, x3, x42, x288000, x288001, x288002 => if x42 = true then (some 1) else (impl_StateOk.l0 k x3 x288000 (x288000.length : Int) 0 x288000 x288001 x288002)
def impl_StateOk.l0 : Nat → Int → List Int → Int → Int → List Int → List (S48) → List Int → Option (Int)
 | 0, _, _, _, _, _, _, _ => none
 | k + 1, x3, x44, x45, x46, x288000, x288001, x288002 => if x46 < x45 then (if 0 ≤ x46 then (if x46 < (x44.length : Int) then (if (rd x44 x46) < 1 then (some 2) else (if (rd x44 x46) > 5 then (some 2) else (impl_StateOk.l0 k x3 x44 x45 (wrap64 (x46 + 1)) x288000 x288001 x288002))) else (none)) else (none)) else (impl_StateOk.l1 k x3 x288001 (x288001.length : Int) 0 x288000 x288001 x288002)
def impl_StateOk.l1 : Nat → Int → List (S48) → Int → Int → List Int → List (S48) → List Int → Option (Int)
 | 0, _, _, _, _, _, _, _ => none
 | k + 1, x3, x58, x59, x60, x288000, x288001, x288002 => if x60 < x59 then (if 0 ≤ x60 then (if x60 < (x58.length : Int) then (if ((rd_T48 x58 x60).f0) < 0 then (impl_StateOk.j3 k x3 x58 x59 x60 true x288000 x288001 x288002 ((rd_T48 x58 x60).f0) ((rd_T48 x58 x60).f1) ((rd_T48 x58 x60).f2)) else (if ((rd_T48 x58 x60).f0) ≥ x3 then (impl_StateOk.j3 k x3 x58 x59 x60 true x288000 x288001 x288002 ((rd_T48 x58 x60).f0) ((rd_T48 x58 x60).f1) ((rd_T48 x58 x60).f2)) else (if (((rd_T48 x58 x60).f1).length : Int) > 8 then (impl_StateOk.j3 k x3 x58 x59 x60 true x288000 x288001 x288002 ((rd_T48 x58 x60).f0) ((rd_T48 x58 x60).f1) ((rd_T48 x58 x60).f2)) else (if ((rd_T48 x58 x60).f2) < 1 then (impl_StateOk.j3 k x3 x58 x59 x60 true x288000 x288001 x288002 ((rd_T48 x58 x60).f0) ((rd_T48 x58 x60).f1) ((rd_T48 x58 x60).f2)) else (impl_StateOk.j3 k x3 x58 x59 x60 (decide (((rd_T48 x58 x60).f2) > 100)) x288000 x288001 x288002 ((rd_T48 x58 x60).f0) ((rd_T48 x58 x60).f1) ((rd_T48 x58 x60).f2)))))) else (none)) else (none)) else (impl_StateOk.l3 k x3 (-1) x288002 (x288002.length : Int) 0 x288000 x288001 x288002)
def impl_StateOk.j3 : Nat → Int → List (S48) → Int → Int → Bool → List Int → List (S48) → List Int → Int → List Int → Int → Option (Int)
 | 0, _, _, _, _, _, _, _, _, _, _, _ => none
 | k + 1, x3, x58, x59, x60, x88, x288000, x288001, x288002, x291000, x291001, x291002 => if x88 = true then (some 3) else (impl_StateOk.l2 k x3 x291000 x58 x59 x60 x291001 (x291001.length : Int) 0 x288000 x288001 x288002)
def impl_StateOk.l2 : Nat → Int → Int → List (S48) → Int → Int → List Int → Int → Int → List Int → List (S48) → List Int → Option (Int)
 | 0, _, _, _, _, _, _, _, _, _, _, _ => none
 | k + 1, x3, x8, x58, x59, x60, x92, x93, x94, x288000, x288001, x288002 => if x94 < x93 then (if 0 ≤ x94 then (if x94 < (x92.length : Int) then (if (rd x92 x94) < 0 then (some 3) else (if (rd x92 x94) ≥ x3 then (some 3) else (if (rd x92 x94) = x8 then (some 3) else (impl_StateOk.l2 k x3 (rd x92 x94) x58 x59 x60 x92 x93 (wrap64 (x94 + 1)) x288000 x288001 x288002)))) else (none)) else (none)) else (impl_StateOk.l1 k x3 x58 x59 (wrap64 (x60 + 1)) x288000 x288001 x288002)
def impl_StateOk.l3 : Nat → Int → Int → List Int → Int → Int → List Int → List (S48) → List Int → Option (Int)
 | 0, _, _, _, _, _, _, _, _ => none
 | k + 1, x3, x11, x114, x115, x116, x288000, x288001, x288002 => if x116 < x115 then (if 0 ≤ x116 then (if x116 < (x114.length : Int) then (if (rd x114 x116) ≤ x11 then (some 4) else (if (rd x114 x116) > 1000 then (some 4) else (impl_StateOk.l3 k x3 (rd x114 x116) x114 x115 (wrap64 (x116 + 1)) x288000 x288001 x288002))) else (none)) else (none)) else (if 0 ≤ x3 then (if (x3 : Int).toNat ≤ 35184372088832 then (impl_StateOk.l4 k (List.replicate (x3 : Int).toNat 0) x288001 (x288001.length : Int) 0 x288000 x288001 x288002) else (none)) else (none))
def impl_StateOk.l4 : Nat → List Int → List (S48) → Int → Int → List Int → List (S48) → List Int → Option (Int)
 | 0, _, _, _, _, _, _, _ => none
 | k + 1, x14, x132, x133, x134, x288000, x288001, x288002 => if x134 < x133 then (if 0 ≤ x134 then (if x134 < (x132.length : Int) then (if 0 ≤ ((rd_T48 x132 x134).f0) then (if ((rd_T48 x132 x134).f0) < (x14.length : Int) then (impl_StateOk.l4 k (x14.set (((rd_T48 x132 x134).f0) : Int).toNat (wrap64 ((rd x14 ((rd_T48 x132 x134).f0)) + 1))) x132 x133 (wrap64 (x134 + 1)) x288000 x288001 x288002) else (none)) else (none)) else (none)) else (none)) else (impl_StateOk.l5 k x14 (x14.length : Int) 0 x288000 x288001 x288002)
def impl_StateOk.l5 : Nat → List Int → Int → Int → List Int → List (S48) → List Int → Option (Int)
 | 0, _, _, _, _, _, _ => none
 | k + 1, x146, x147, x148, x288000, x288001, x288002 => if x148 < x147 then (if 0 ≤ x148 then (if x148 < (x146.length : Int) then (if x148 < (x288000.length : Int) then (if (rd x146 x148) > (rd x288000 x148) then (some 5) else (impl_StateOk.l5 k x146 x147 (wrap64 (x148 + 1)) x288000 x288001 x288002)) else (none)) else (none)) else (none)) else (some 0)
end
def impl_StateOk.f (k : Nat) (l0_0 : List Int) (l0_1 : List (S48)) (l0_2 : List Int) : Option (Int) := if (l0_0.length : Int) < 1 then (impl_StateOk.j0 k (l0_0.length : Int) true l0_0 l0_1 l0_2) else (if (l0_0.length : Int) > 40 then (impl_StateOk.j0 k (l0_0.length : Int) true l0_0 l0_1 l0_2) else (if (l0_1.length : Int) > 5 then (impl_StateOk.j0 k (l0_0.length : Int) true l0_0 l0_1 l0_2) else (impl_StateOk.j0 k (l0_0.length : Int) ((l0_2.length : Int) != (l0_1.length : Int)) l0_0 l0_1 l0_2)))
theorem impl_StateOk.mono_l : ∀ k, (∀ y0 y1 y2 y3 y4, LeO (impl_StateOk.j0 k y0 y1 y2 y3 y4) (impl_StateOk.j0 (k + 1) y0 y1 y2 y3 y4)) ∧ (∀ y0 y1 y2 y3 y4 y5 y6, LeO (impl_StateOk.l0 k y0 y1 y2 y3 y4 y5 y6) (impl_StateOk.l0 (k + 1) y0 y1 y2 y3 y4 y5 y6)) ∧ (∀ y0 y1 y2 y3 y4 y5 y6, LeO (impl_StateOk.l1 k y0 y1 y2 y3 y4 y5 y6) (impl_StateOk.l1 (k + 1) y0 y1 y2 y3 y4 y5 y6)) ∧ (∀ y0 y1 y2 y3 y4 y5 y6 y7 y8 y9 y10, LeO (impl_StateOk.j3 k y0 y1 y2 y3 y4 y5 y6 y7 y8 y9 y10) (impl_StateOk.j3 (k + 1) y0 y1 y2 y3 y4 y5 y6 y7 y8 y9 y10)) ∧ (∀ y0 y1 y2 y3 y4 y5 y6 y7 y8 y9 y10, LeO (impl_StateOk.l2 k y0 y1 y2 y3 y4 y5 y6 y7 y8 y9 y10) (impl_StateOk.l2 (k + 1) y0 y1 y2 y3 y4 y5 y6 y7 y8 y9 y10)) ∧ (∀ y0 y1 y2 y3 y4 y5 y6 y7, LeO (impl_StateOk.l3 k y0 y1 y2 y3 y4 y5 y6 y7) (impl_StateOk.l3 (k + 1) y0 y1 y2 y3 y4 y5 y6 y7)) ∧ (∀ y0 y1 y2 y3 y4 y5 y6, LeO (impl_StateOk.l4 k y0 y1 y2 y3 y4 y5 y6) (impl_StateOk.l4 (k + 1) y0 y1 y2 y3 y4 y5 y6)) ∧ (∀ y0 y1 y2 y3 y4 y5, LeO (impl_StateOk.l5 k y0 y1 y2 y3 y4 y5) (impl_StateOk.l5 (k + 1) y0 y1 y2 y3 y4 y5))
 | 0 => ⟨fun _ _ _ _ _ r h => by simp [impl_StateOk.j0] at h, fun _ _ _ _ _ _ _ r h => by simp [impl_StateOk.l0] at h, fun _ _ _ _ _ _ _ r h => by simp [impl_StateOk.l1] at h, fun _ _ _ _ _ _ _ _ _ _ _ r h => by simp [impl_StateOk.j3] at h, fun _ _ _ _ _ _ _ _ _ _ _ r h => by simp [impl_StateOk.l2] at h, fun _ _ _ _ _ _ _ _ r h => by simp [impl_StateOk.l3] at h, fun _ _ _ _ _ _ _ r h => by simp [impl_StateOk.l4] at h, fun _ _ _ _ _ _ r h => by simp [impl_StateOk.l5] at h⟩
 | k + 1 => by
  obtain ⟨ih0, ih1, ih2, ih3, ih4, ih5, ih6, ih7⟩ := impl_StateOk.mono_l k
  refine ⟨?_, ?_, ?_, ?_, ?_, ?_, ?_, ?_⟩
  ·intro y0 y1 y2 y3 y4
   unfold impl_StateOk.j0
   repeat' first
   | (with_reducible exact ih0 _ _ _ _ _)
   | (with_reducible exact ih1 _ _ _ _ _ _ _)
   | (with_reducible exact ih2 _ _ _ _ _ _ _)
   | (with_reducible exact ih3 _ _ _ _ _ _ _ _ _ _ _)
   | (with_reducible exact ih4 _ _ _ _ _ _ _ _ _ _ _)
   | (with_reducible exact ih5 _ _ _ _ _ _ _ _)
   | (with_reducible exact ih6 _ _ _ _ _ _ _)
   | (with_reducible exact ih7 _ _ _ _ _ _)
   | (with_reducible exact LeO.refl _)
   | (with_reducible exact LeO.none _)
   | (with_reducible refine LeO.ite ?_ ?_)
   | (with_reducible refine LeO.bind ?_ (fun _ => ?_))
   | exact ih0 _ _ _ _ _
   | exact ih1 _ _ _ _ _ _ _
   | exact ih2 _ _ _ _ _ _ _
   | exact ih3 _ _ _ _ _ _ _ _ _ _ _
   | exact ih4 _ _ _ _ _ _ _ _ _ _ _
   | exact ih5 _ _ _ _ _ _ _ _
   | exact ih6 _ _ _ _ _ _ _
   | exact ih7 _ _ _ _ _ _
   | exact LeO.none _
   | refine LeO.ite ?_ ?_
   | refine LeO.bind ?_ (fun _ => ?_)
  ·intro y0 y1 y2 y3 y4 y5 y6
   unfold impl_StateOk.l0
   repeat' first
   | (with_reducible exact ih0 _ _ _ _ _)
   | (with_reducible exact ih1 _ _ _ _ _ _ _)
   | (with_reducible exact ih2 _ _ _ _ _ _ _)
   | (with_reducible exact ih3 _ _ _ _ _ _ _ _ _ _ _)
   | (with_reducible exact ih4 _ _ _ _ _ _ _ _ _ _ _)
   | (with_reducible exact ih5 _ _ _ _ _ _ _ _)
   | (with_reducible exact ih6 _ _ _ _ _ _ _)
   | (with_reducible exact ih7 _ _ _ _ _ _)
   | (with_reducible exact LeO.refl _)
   | (with_reducible exact LeO.none _)
   | (with_reducible refine LeO.ite ?_ ?_)
   | (with_reducible refine LeO.bind ?_ (fun _ => ?_))
   | exact ih0 _ _ _ _ _
   | exact ih1 _ _ _ _ _ _ _
   | exact ih2 _ _ _ _ _ _ _
   | exact ih3 _ _ _ _ _ _ _ _ _ _ _
   | exact ih4 _ _ _ _ _ _ _ _ _ _ _
   | exact ih5 _ _ _ _ _ _ _ _
   | exact ih6 _ _ _ _ _ _ _
   | exact ih7 _ _ _ _ _ _
   | exact LeO.none _
   | refine LeO.ite ?_ ?_
   | refine LeO.bind ?_ (fun _ => ?_)
  ·intro y0 y1 y2 y3 y4 y5 y6
   unfold impl_StateOk.l1
   repeat' first
   | (with_reducible exact ih0 _ _ _ _ _)
   | (with_reducible exact ih1 _ _ _ _ _ _ _)
   | (with_reducible exact ih2 _ _ _ _ _ _ _)
   | (with_reducible exact ih3 _ _ _ _ _ _ _ _ _ _ _)
   | (with_reducible exact ih4 _ _ _ _ _ _ _ _ _ _ _)
   | (with_reducible exact ih5 _ _ _ _ _ _ _ _)
   | (with_reducible exact ih6 _ _ _ _ _ _ _)
   | (with_reducible exact ih7 _ _ _ _ _ _)
   | (with_reducible exact LeO.refl _)
   | (with_reducible exact LeO.none _)
   | (with_reducible refine LeO.ite ?_ ?_)
   | (with_reducible refine LeO.bind ?_ (fun _ => ?_))
   | exact ih0 _ _ _ _ _
   | exact ih1 _ _ _ _ _ _ _
   | exact ih2 _ _ _ _ _ _ _
   | exact ih3 _ _ _ _ _ _ _ _ _ _ _
   | exact ih4 _ _ _ _ _ _ _ _ _ _ _
   | exact ih5 _ _ _ _ _ _ _ _
   | exact ih6 _ _ _ _ _ _ _
   | exact ih7 _ _ _ _ _ _
   | exact LeO.none _
   | refine LeO.ite ?_ ?_
   | refine LeO.bind ?_ (fun _ => ?_)
  ·intro y0 y1 y2 y3 y4 y5 y6 y7 y8 y9 y10
   unfold impl_StateOk.j3
   repeat' first
   | (with_reducible exact ih0 _ _ _ _ _)
   | (with_reducible exact ih1 _ _ _ _ _ _ _)
   | (with_reducible exact ih2 _ _ _ _ _ _ _)
   | (with_reducible exact ih3 _ _ _ _ _ _ _ _ _ _ _)
   | (with_reducible exact ih4 _ _ _ _ _ _ _ _ _ _ _)
   | (with_reducible exact ih5 _ _ _ _ _ _ _ _)
   | (with_reducible exact ih6 _ _ _ _ _ _ _)
   | (with_reducible exact ih7 _ _ _ _ _ _)
   | (with_reducible exact LeO.refl _)
   | (with_reducible exact LeO.none _)
   | (with_reducible refine LeO.ite ?_ ?_)
   | (with_reducible refine LeO.bind ?_ (fun _ => ?_))
   | exact ih0 _ _ _ _ _
   | exact ih1 _ _ _ _ _ _ _
   | exact ih2 _ _ _ _ _ _ _
   | exact ih3 _ _ _ _ _ _ _ _ _ _ _
   | exact ih4 _ _ _ _ _ _ _ _ _ _ _
   | exact ih5 _ _ _ _ _ _ _ _
   | exact ih6 _ _ _ _ _ _ _
   | exact ih7 _ _ _ _ _ _
   | exact LeO.none _
   | refine LeO.ite ?_ ?_
   | refine LeO.bind ?_ (fun _ => ?_)
  ·intro y0 y1 y2 y3 y4 y5 y6 y7 y8 y9 y10
   unfold impl_StateOk.l2
   repeat' first
   | (with_reducible exact ih0 _ _ _ _ _)
   | (with_reducible exact ih1 _ _ _ _ _ _ _)
   | (with_reducible exact ih2 _ _ _ _ _ _ _)
   | (with_reducible exact ih3 _ _ _ _ _ _ _ _ _ _ _)
   | (with_reducible exact ih4 _ _ _ _ _ _ _ _ _ _ _)
   | (with_reducible exact ih5 _ _ _ _ _ _ _ _)
   | (with_reducible exact ih6 _ _ _ _ _ _ _)
   | (with_reducible exact ih7 _ _ _ _ _ _)
   | (with_reducible exact LeO.refl _)
   | (with_reducible exact LeO.none _)
   | (with_reducible refine LeO.ite ?_ ?_)
   | (with_reducible refine LeO.bind ?_ (fun _ => ?_))
   | exact ih0 _ _ _ _ _
   | exact ih1 _ _ _ _ _ _ _
   | exact ih2 _ _ _ _ _ _ _
   | exact ih3 _ _ _ _ _ _ _ _ _ _ _
   | exact ih4 _ _ _ _ _ _ _ _ _ _ _
   | exact ih5 _ _ _ _ _ _ _ _
   | exact ih6 _ _ _ _ _ _ _
   | exact ih7 _ _ _ _ _ _
   | exact LeO.none _
   | refine LeO.ite ?_ ?_
   | refine LeO.bind ?_ (fun _ => ?_)
  ·intro y0 y1 y2 y3 y4 y5 y6 y7
   unfold impl_StateOk.l3
   repeat' first
   | (with_reducible exact ih0 _ _ _ _ _)
   | (with_reducible exact ih1 _ _ _ _ _ _ _)
   | (with_reducible exact ih2 _ _ _ _ _ _ _)
   | (with_reducible exact ih3 _ _ _ _ _ _ _ _ _ _ _)
   | (with_reducible exact ih4 _ _ _ _ _ _ _ _ _ _ _)
   | (with_reducible exact ih5 _ _ _ _ _ _ _ _)
   | (with_reducible exact ih6 _ _ _ _ _ _ _)
   | (with_reducible exact ih7 _ _ _ _ _ _)
   | (with_reducible exact LeO.refl _)
   | (with_reducible exact LeO.none _)
   | (with_reducible refine LeO.ite ?_ ?_)
   | (with_reducible refine LeO.bind ?_ (fun _ => ?_))
   | exact ih0 _ _ _ _ _
   | exact ih1 _ _ _ _ _ _ _
   | exact ih2 _ _ _ _ _ _ _
   | exact ih3 _ _ _ _ _ _ _ _ _ _ _
   | exact ih4 _ _ _ _ _ _ _ _ _ _ _
   | exact ih5 _ _ _ _ _ _ _ _
   | exact ih6 _ _ _ _ _ _ _
   | exact ih7 _ _ _ _ _ _
   | exact LeO.none _
   | refine LeO.ite ?_ ?_
   | refine LeO.bind ?_ (fun _ => ?_)
  ·intro y0 y1 y2 y3 y4 y5 y6
   unfold impl_StateOk.l4
   repeat' first
   | (with_reducible exact ih0 _ _ _ _ _)
   | (with_reducible exact ih1 _ _ _ _ _ _ _)
   | (with_reducible exact ih2 _ _ _ _ _ _ _)
   | (with_reducible exact ih3 _ _ _ _ _ _ _ _ _ _ _)
   | (with_reducible exact ih4 _ _ _ _ _ _ _ _ _ _ _)
   | (with_reducible exact ih5 _ _ _ _ _ _ _ _)
   | (with_reducible exact ih6 _ _ _ _ _ _ _)
   | (with_reducible exact ih7 _ _ _ _ _ _)
   | (with_reducible exact LeO.refl _)
   | (with_reducible exact LeO.none _)
   | (with_reducible refine LeO.ite ?_ ?_)
   | (with_reducible refine LeO.bind ?_ (fun _ => ?_))
   | exact ih0 _ _ _ _ _
   | exact ih1 _ _ _ _ _ _ _
   | exact ih2 _ _ _ _ _ _ _
   | exact ih3 _ _ _ _ _ _ _ _ _ _ _
   | exact ih4 _ _ _ _ _ _ _ _ _ _ _
   | exact ih5 _ _ _ _ _ _ _ _
   | exact ih6 _ _ _ _ _ _ _
   | exact ih7 _ _ _ _ _ _
   | exact LeO.none _
   | refine LeO.ite ?_ ?_
   | refine LeO.bind ?_ (fun _ => ?_)
  ·intro y0 y1 y2 y3 y4 y5
   unfold impl_StateOk.l5
   repeat' first
   | (with_reducible exact ih0 _ _ _ _ _)
   | (with_reducible exact ih1 _ _ _ _ _ _ _)
   | (with_reducible exact ih2 _ _ _ _ _ _ _)
   | (with_reducible exact ih3 _ _ _ _ _ _ _ _ _ _ _)
   | (with_reducible exact ih4 _ _ _ _ _ _ _ _ _ _ _)
   | (with_reducible exact ih5 _ _ _ _ _ _ _ _)
   | (with_reducible exact ih6 _ _ _ _ _ _ _)
   | (with_reducible exact ih7 _ _ _ _ _ _)
   | (with_reducible exact LeO.refl _)
   | (with_reducible exact LeO.none _)
   | (with_reducible refine LeO.ite ?_ ?_)
   | (with_reducible refine LeO.bind ?_ (fun _ => ?_))
   | exact ih0 _ _ _ _ _
   | exact ih1 _ _ _ _ _ _ _
   | exact ih2 _ _ _ _ _ _ _
   | exact ih3 _ _ _ _ _ _ _ _ _ _ _
   | exact ih4 _ _ _ _ _ _ _ _ _ _ _
   | exact ih5 _ _ _ _ _ _ _ _
   | exact ih6 _ _ _ _ _ _ _
   | exact ih7 _ _ _ _ _ _
   | exact LeO.none _
   | refine LeO.ite ?_ ?_
   | refine LeO.bind ?_ (fun _ => ?_)
theorem impl_StateOk.mono : ∀ a0 a1 a2 k, LeO (impl_StateOk.f k a0 a1 a2) (impl_StateOk.f (k + 1) a0 a1 a2) := by
 intro a0 a1 a2 k
 obtain ⟨ih0, ih1, ih2, ih3, ih4, ih5, ih6, ih7⟩ := impl_StateOk.mono_l k
 unfold impl_StateOk.f
 repeat' first
   | (with_reducible exact ih0 _ _ _ _ _)
   | (with_reducible exact ih1 _ _ _ _ _ _ _)
   | (with_reducible exact ih2 _ _ _ _ _ _ _)
   | (with_reducible exact ih3 _ _ _ _ _ _ _ _ _ _ _)
   | (with_reducible exact ih4 _ _ _ _ _ _ _ _ _ _ _)
   | (with_reducible exact ih5 _ _ _ _ _ _ _ _)
   | (with_reducible exact ih6 _ _ _ _ _ _ _)
   | (with_reducible exact ih7 _ _ _ _ _ _)
   | (with_reducible exact LeO.refl _)
   | (with_reducible exact LeO.none _)
   | (with_reducible refine LeO.ite ?_ ?_)
   | (with_reducible refine LeO.bind ?_ (fun _ => ?_))
   | exact ih0 _ _ _ _ _
   | exact ih1 _ _ _ _ _ _ _
   | exact ih2 _ _ _ _ _ _ _
   | exact ih3 _ _ _ _ _ _ _ _ _ _ _
   | exact ih4 _ _ _ _ _ _ _ _ _ _ _
   | exact ih5 _ _ _ _ _ _ _ _
   | exact ih6 _ _ _ _ _ _ _
   | exact ih7 _ _ _ _ _ _
   | exact LeO.none _
   | refine LeO.ite ?_ ?_
   | refine LeO.bind ?_ (fun _ => ?_)
set_option maxHeartbeats 8000000 in
set_option maxRecDepth 100000 in
theorem impl_StateOk.calls (k : Nat) (A0_0 : Option Addr) (c0_0 : Nat) (l0_0 : List Int) (A0_1 : Option Addr) (c0_1 : Nat) (l0_1 : List (S48)) (A0_2 : Option Addr) (c0_2 : Nat) (l0_2 : List Int) (r : Int) (w : World) (hr0_0 : Kd.C (Kd.int .i64) w A0_0 l0_0.length l0_0) (hc0_0 : l0_0.length ≤ c0_0) (hr0_1 : Kd.C k48 w A0_1 l0_1.length l0_1) (hc0_1 : l0_1.length ≤ c0_1) (hr0_2 : Kd.C (Kd.int .i64) w A0_2 l0_2.length l0_2) (hc0_2 : l0_2.length ≤ c0_2) (h : impl_StateOk.f k l0_0 l0_1 l0_2 = some r) :
  Calls Tryd.prog 11 #[.agg #[.slice A0_0 l0_0.length c0_0, .slice A0_1 l0_1.length c0_1, .slice A0_2 l0_2.length c0_2]] w fun e w' => e = .returned (.int .i64 r) ∧ Below w.heap.size w w' := by
 have hu30 := Tryd.underlying30
 have hu48 := Tryd.underlying48
 have HR0_0 := Aside0.mk hr0_0
 have HC0_0 := Aside0.mk hc0_0
 clear hr0_0 hc0_0
 have HR0_1 := Aside0.mk hr0_1
 have HC0_1 := Aside0.mk hc0_1
 clear hr0_1 hc0_1
 have HR0_2 := Aside0.mk hr0_2
 have HC0_2 := Aside0.mk hc0_2
 clear hr0_2 hc0_2
 have HB := Aside0.mk (Below.refl w.heap.size w)
 have H : (if (l0_0.length : Int) < 1 then (impl_StateOk.j0 k (l0_0.length : Int) true l0_0 l0_1 l0_2) else (if (l0_0.length : Int) > 40 then (impl_StateOk.j0 k (l0_0.length : Int) true l0_0 l0_1 l0_2) else (if (l0_1.length : Int) > 5 then (impl_StateOk.j0 k (l0_0.length : Int) true l0_0 l0_1 l0_2) else (impl_StateOk.j0 k (l0_0.length : Int) ((l0_2.length : Int) != (l0_1.length : Int)) l0_0 l0_1 l0_2)))) = some r := h
 clear h
 have HC2 := Aside0.mk H
 clear H
 go_enter Tryd.func11, Tryd.ntmps11
 go_upto_region 2 with (first | ((with_reducible refine gate_dst (N := 1) rfl ?_); (try (refine gate_guard (by rfl) ?_; dsimp only)); refine box_event ?hg (N := 1) ?hd (cs := #[.slice A0_0 l0_0.length c0_0, .slice A0_1 l0_1.length c0_1, .slice A0_2 l0_2.length c0_2]) (t := 30) ?hr ?_; (case hd => rfl); (case hg => rfl); (case hr => first | (go_simp; done) | (go_simp; rfl)); intro gb287 hg w3 hbox hb; have n0_ := Aside0.mk (below_step (by exact HB.out) hb); have n1_ := Aside0.mk (hbox); have n2_ := Aside0.mk ((by rw [hg]; exact (below_size (by exact HB.out)) : w.heap.size ≤ gb287)); have n3_ := Aside0.mk ((by rw [hg]; exact (below_size (by exact HB.out)) : w.heap.size ≤ gb287)); clear HB; have HB := n0_; have BK287 := n1_; have GW287 := n2_; have GE287 := n3_; clear n0_ n1_ n2_ n3_; clear hb hbox hg; have hcz4_0 : w3.cell? ⟨gb287, 0, none⟩ = some (.slice A0_0 l0_0.length c0_0) := (blk_cell BK287.out 0).trans rfl; have hcz4_1 : w3.cell? ⟨gb287, 1, none⟩ = some (.slice A0_1 l0_1.length c0_1) := (blk_cell BK287.out 1).trans rfl; have hcz4_2 : w3.cell? ⟨gb287, 2, none⟩ = some (.slice A0_2 l0_2.length c0_2) := (blk_cell BK287.out 2).trans rfl; have hfz4_0 := blk_frozen BK287.out 0; have hfz4_1 := blk_frozen BK287.out 1; have hfz4_2 := blk_frozen BK287.out 2))
 (try simp only [Act.put, List.setIfInBounds_toArray, List.set_cons_zero, List.set_cons_succ])
 go_cut [42] (fun v42 wc => ∃ (kq : Nat) (x42_1 : Bool), v42 = .bool x42_1 ∧ Aside0 (impl_StateOk.j0 kq (l0_0.length : Int) x42_1 l0_0 l0_1 l0_2 = some r) ∧ Aside0 (kq ≤ k) ∧ Aside0 (wc.heap[gb287]? = some (.cells #[(.slice A0_0 l0_0.length c0_0), (.slice A0_1 l0_1.length c0_1), (.slice A0_2 l0_2.length c0_2)] 30 (0, 0))) ∧ Aside0 (Below w.heap.size w wc))
 case first =>
  have H := HC2.out
  clear HC2
  by_cases c5 : (l0_0.length : Int) < 1
  ·rw [if_pos c5] at H
   have c5b0 : decide ((l0_0.length : Int) < 1) = true := decide_eq_true c5
   have c5b1 : decide (l0_0.length < 1) = true := decide_eq_true (by omega)
   clear c5
   (first | rw [c5b0] | (simp only [i64_w, i32_w]; rw [c5b0]) | skip)
   have H' := Aside0.mk H
   clear H
   go_wp2
   go_meet
   case rel => exact ⟨_, (true), (by first | rfl | (simp; done) | (simp [*]; done)), H', ⟨by first | omega | exact Nat.le_refl _⟩, ⟨by exact BK287.out⟩, ⟨by exact HB.out⟩⟩
  ·rw [if_neg c5] at H
   have c5b0 : decide ((l0_0.length : Int) < 1) = false := decide_eq_false c5
   have c5b1 : decide (l0_0.length < 1) = false := decide_eq_false (by omega)
   clear c5
   (first | rw [c5b0] | (simp only [i64_w, i32_w]; rw [c5b0]) | skip)
   by_cases c6 : (l0_0.length : Int) > 40
   ·rw [if_pos c6] at H
    have c6b0 : decide (40 < (l0_0.length : Int)) = true := decide_eq_true c6
    have c6b1 : decide (40 < l0_0.length) = true := decide_eq_true (by omega)
    clear c6
    have H' := Aside0.mk H
    clear H
    go_wp2
    go_meet
    case rel => exact ⟨_, (true), (by first | rfl | (simp; done) | (simp [*]; done)), H', ⟨by first | omega | exact Nat.le_refl _⟩, ⟨by exact BK287.out⟩, ⟨by exact HB.out⟩⟩
   ·rw [if_neg c6] at H
    have c6b0 : decide (40 < (l0_0.length : Int)) = false := decide_eq_false c6
    have c6b1 : decide (40 < l0_0.length) = false := decide_eq_false (by omega)
    clear c6
    by_cases c7 : (l0_1.length : Int) > 5
    ·rw [if_pos c7] at H
     have c7b0 : decide (5 < (l0_1.length : Int)) = true := decide_eq_true c7
     have c7b1 : decide (5 < l0_1.length) = true := decide_eq_true (by omega)
     clear c7
     have H' := Aside0.mk H
     clear H
     have hcz8_0 : w3.cell? ⟨gb287, 0, none⟩ = some (.slice A0_0 l0_0.length c0_0) := (blk_cell BK287.out 0).trans rfl
     have hcz8_1 : w3.cell? ⟨gb287, 1, none⟩ = some (.slice A0_1 l0_1.length c0_1) := (blk_cell BK287.out 1).trans rfl
     have hcz8_2 : w3.cell? ⟨gb287, 2, none⟩ = some (.slice A0_2 l0_2.length c0_2) := (blk_cell BK287.out 2).trans rfl
     have hfz8_0 := blk_frozen BK287.out 0
     have hfz8_1 := blk_frozen BK287.out 1
     have hfz8_2 := blk_frozen BK287.out 2
     go_wp2
     go_meet
     case rel => exact ⟨_, (true), (by first | rfl | (simp; done) | (simp [*]; done)), H', ⟨by first | omega | exact Nat.le_refl _⟩, ⟨by exact BK287.out⟩, ⟨by exact HB.out⟩⟩
    ·rw [if_neg c7] at H
     have c7b0 : decide (5 < (l0_1.length : Int)) = false := decide_eq_false c7
     have c7b1 : decide (5 < l0_1.length) = false := decide_eq_false (by omega)
     clear c7
     have H' := Aside0.mk H
     clear H
     have hcz9_0 : w3.cell? ⟨gb287, 0, none⟩ = some (.slice A0_0 l0_0.length c0_0) := (blk_cell BK287.out 0).trans rfl
     have hcz9_1 : w3.cell? ⟨gb287, 1, none⟩ = some (.slice A0_1 l0_1.length c0_1) := (blk_cell BK287.out 1).trans rfl
     have hcz9_2 : w3.cell? ⟨gb287, 2, none⟩ = some (.slice A0_2 l0_2.length c0_2) := (blk_cell BK287.out 2).trans rfl
     have hfz9_0 := blk_frozen BK287.out 0
     have hfz9_1 := blk_frozen BK287.out 1
     have hfz9_2 := blk_frozen BK287.out 2
     go_wp2
     go_meet
     case rel => exact ⟨_, (((l0_2.length : Int) != (l0_1.length : Int))), (by first | rfl | (simp; done) | (simp [*]; done)), H', ⟨by first | omega | exact Nat.le_refl _⟩, ⟨by exact BK287.out⟩, ⟨by exact HB.out⟩⟩
 case rest =>
  clear HC2
  try clear c1
  try clear p2
  try clear c5
  try clear c5b0
  try clear c5b1
  try clear c6
  try clear c6b0
  try clear c6b1
  try clear c7
  try clear c7b0
  try clear c7b1
  try clear hcz4_0
  try clear hcz4_1
  try clear hcz4_2
  try clear hcz8_0
  try clear hcz8_1
  try clear hcz8_2
  try clear hcz9_0
  try clear hcz9_1
  try clear hcz9_2
  try clear hfz4_0
  try clear hfz4_1
  try clear hfz4_2
  try clear hfz8_0
  try clear hfz8_1
  try clear hfz8_2
  try clear hfz9_0
  try clear hfz9_1
  try clear hfz9_2
  obtain ⟨kq, x42_1, rfl, HA, HJ1, BK287, HB⟩ := hcut
  cases kq with
  | zero => exact absurd HA.out (by simp [impl_StateOk.j0])
  | succ kj1 =>
   have H := HA.out
   clear HA
   simp only [impl_StateOk.j0] at H
   by_cases c10 : x42_1 = true
   ·subst c10
    have H1 : (some 1) = some r := by rw [if_pos rfl] at H; exact H
    clear H
    have H := H1
    clear H1
    obtain rfl := Option.some.inj H
    go_wp2
    go_ret
    exact ⟨by first | rfl | (simp [errW_none, errW_some] <;> rfl) | (simp [*, errW_none, errW_some] <;> rfl), by exact HB.out⟩
   ·replace c10 := Bool.eq_false_iff.mpr c10
    subst c10
    have H1 : (impl_StateOk.l0 kj1 (l0_0.length : Int) l0_0 (l0_0.length : Int) 0 l0_0 l0_1 l0_2) = some r := by rw [if_neg (show ¬ (false = true) by decide)] at H; exact H
    clear H
    have H := H1
    clear H1
    have H' := Aside0.mk H
    clear H
    have hcz11_0 : wc.cell? ⟨gb287, 0, none⟩ = some (.slice A0_0 l0_0.length c0_0) := (blk_cell BK287.out 0).trans rfl
    have hcz11_1 : wc.cell? ⟨gb287, 1, none⟩ = some (.slice A0_1 l0_1.length c0_1) := (blk_cell BK287.out 1).trans rfl
    have hcz11_2 : wc.cell? ⟨gb287, 2, none⟩ = some (.slice A0_2 l0_2.length c0_2) := (blk_cell BK287.out 2).trans rfl
    have hfz11_0 := blk_frozen BK287.out 0
    have hfz11_1 := blk_frozen BK287.out 1
    have hfz11_2 := blk_frozen BK287.out 2
    go_wp2
    go_loopg [46] kj1 (fun kq v46 w' => ∃ (x46_2 : Int), v46 = .int .i64 x46_2 ∧ Aside0 (impl_StateOk.l0 kq (l0_0.length : Int) l0_0 (l0_0.length : Int) x46_2 l0_0 l0_1 l0_2 = some r) ∧ Aside0 (kq ≤ kj1) ∧ Aside0 (w'.heap[gb287]? = some (.cells #[(.slice A0_0 l0_0.length c0_0), (.slice A0_1 l0_1.length c0_1), (.slice A0_2 l0_2.length c0_2)] 30 (0, 0))) ∧ Aside0 (Below w.heap.size w w'))
    case atStart => exact ⟨(0), (by first | rfl | (simp; done) | (simp [*]; done)), H', ⟨Nat.le_refl _⟩, ⟨by exact BK287.out⟩, ⟨by exact HB.out⟩⟩
    case round =>
     clear H'
     try clear c1
     try clear p2
     try clear c5
     try clear c5b0
     try clear c5b1
     try clear c6
     try clear c6b0
     try clear c6b1
     try clear c7
     try clear c7b0
     try clear c7b1
     try clear c10
     try clear c11
     try clear hcz11_0
     try clear hcz11_1
     try clear hcz11_2
     try clear hcz4_0
     try clear hcz4_1
     try clear hcz4_2
     try clear hcz8_0
     try clear hcz8_1
     try clear hcz8_2
     try clear hcz9_0
     try clear hcz9_1
     try clear hcz9_2
     try clear hfz11_0
     try clear hfz11_1
     try clear hfz11_2
     try clear hfz4_0
     try clear hfz4_1
     try clear hfz4_2
     try clear hfz8_0
     try clear hfz8_1
     try clear hfz8_2
     try clear hfz9_0
     try clear hfz9_1
     try clear hfz9_2
     try clear p2
     obtain ⟨x46_2, rfl, HA, HK2, BK287, HB⟩ := hrel
     cases gk with
     | zero => exact absurd HA.out (by simp [impl_StateOk.l0])
     | succ k2 =>
      have H := HA.out
      clear HA
      simp only [impl_StateOk.l0] at H
      by_cases c12 : x46_2 < (l0_0.length : Int)
      ·rw [if_pos c12] at H
       have c12b0 : decide (x46_2 < (l0_0.length : Int)) = true := decide_eq_true c12
       clear c12
       by_cases c13 : 0 ≤ x46_2
       ·rw [if_pos c13] at H
        have c13b0 : decide (0 ≤ x46_2) = true := decide_eq_true c13
        clear c13
        by_cases c14 : x46_2 < (l0_0.length : Int)
        ·rw [if_pos c14] at H
         have c14b0 : decide (x46_2 < (l0_0.length : Int)) = true := decide_eq_true c14
         clear c14
         by_cases c15 : (rd l0_0 x46_2) < 1
         ·rw [if_pos c15] at H
          have c15b0 : decide ((rd l0_0 x46_2) < 1) = true := decide_eq_true c15
          clear c15
          obtain rfl := Option.some.inj H
          have p288 : 0 ≤ (x46_2 : Int) := of_decide_eq_true (by assumption)
          have q288 : x46_2 < (l0_0.length : Int) := of_decide_eq_true (by assumption)
          obtain ⟨ad288, e288, hx288_0⟩ := Kd.at_int HR0_0.out x46_2 p288 q288
          cases e288
          replace hx288_0 := (HB.out.cell (World.block_lt_of_cell? w _ hx288_0)).trans hx288_0
          replace p288 := eq_true p288
          replace q288 := eq_true q288
          go_wp2
          go_ret
          exact ⟨by first | rfl | (simp [errW_none, errW_some] <;> rfl) | (simp [*, errW_none, errW_some] <;> rfl), by exact HB.out⟩
         ·rw [if_neg c15] at H
          have c15b0 : decide ((rd l0_0 x46_2) < 1) = false := decide_eq_false c15
          clear c15
          by_cases c16 : (rd l0_0 x46_2) > 5
          ·rw [if_pos c16] at H
           have c16b0 : decide (5 < (rd l0_0 x46_2)) = true := decide_eq_true c16
           clear c16
           obtain rfl := Option.some.inj H
           have p288 : 0 ≤ (x46_2 : Int) := of_decide_eq_true (by assumption)
           have q288 : x46_2 < (l0_0.length : Int) := of_decide_eq_true (by assumption)
           obtain ⟨ad288, e288, hx288_0⟩ := Kd.at_int HR0_0.out x46_2 p288 q288
           cases e288
           replace hx288_0 := (HB.out.cell (World.block_lt_of_cell? w _ hx288_0)).trans hx288_0
           replace p288 := eq_true p288
           replace q288 := eq_true q288
           go_wp2
           go_ret
           exact ⟨by first | rfl | (simp [errW_none, errW_some] <;> rfl) | (simp [*, errW_none, errW_some] <;> rfl), by exact HB.out⟩
          ·rw [if_neg c16] at H
           have c16b0 : decide (5 < (rd l0_0 x46_2)) = false := decide_eq_false c16
           clear c16
           have H' := Aside0.mk H
           clear H
           have p288 : 0 ≤ (x46_2 : Int) := of_decide_eq_true (by assumption)
           have q288 : x46_2 < (l0_0.length : Int) := of_decide_eq_true (by assumption)
           obtain ⟨ad288, e288, hx288_0⟩ := Kd.at_int HR0_0.out x46_2 p288 q288
           cases e288
           replace hx288_0 := (HB.out.cell (World.block_lt_of_cell? w _ hx288_0)).trans hx288_0
           replace p288 := eq_true p288
           replace q288 := eq_true q288
           go_wp2
           go_roundg k2
           case measure => have := HJ1.out; have := HK2.out; omega
           case rel => exact ⟨(wrap64 (x46_2 + 1)), (by first | rfl | (simp; done) | (simp [*]; done)), H', ⟨by have := HJ1.out; have := HK2.out; omega⟩, ⟨by exact BK287.out⟩, ⟨by exact HB.out⟩⟩
        ·rw [if_neg c14] at H
         exact absurd H (by simp)
       ·rw [if_neg c13] at H
        exact absurd H (by simp)
      ·rw [if_neg c12] at H
       have c12b0 : decide (x46_2 < (l0_0.length : Int)) = false := decide_eq_false c12
       clear c12
       have H' := Aside0.mk H
       clear H
       have hcz17_0 : wr.cell? ⟨gb287, 0, none⟩ = some (.slice A0_0 l0_0.length c0_0) := (blk_cell BK287.out 0).trans rfl
       have hcz17_1 : wr.cell? ⟨gb287, 1, none⟩ = some (.slice A0_1 l0_1.length c0_1) := (blk_cell BK287.out 1).trans rfl
       have hcz17_2 : wr.cell? ⟨gb287, 2, none⟩ = some (.slice A0_2 l0_2.length c0_2) := (blk_cell BK287.out 2).trans rfl
       have hfz17_0 := blk_frozen BK287.out 0
       have hfz17_1 := blk_frozen BK287.out 1
       have hfz17_2 := blk_frozen BK287.out 2
       go_wp2
       go_loopg [60] k2 (fun kq v60 w' => ∃ (x60_3 : Int), v60 = .int .i64 x60_3 ∧ Aside0 (impl_StateOk.l1 kq (l0_0.length : Int) l0_1 (l0_1.length : Int) x60_3 l0_0 l0_1 l0_2 = some r) ∧ Aside0 (kq ≤ k2) ∧ Aside0 (w'.heap[gb287]? = some (.cells #[(.slice A0_0 l0_0.length c0_0), (.slice A0_1 l0_1.length c0_1), (.slice A0_2 l0_2.length c0_2)] 30 (0, 0))) ∧ Aside0 (Below w.heap.size w w'))
       case atStart => exact ⟨(0), (by first | rfl | (simp; done) | (simp [*]; done)), H', ⟨Nat.le_refl _⟩, ⟨by exact BK287.out⟩, ⟨by exact HB.out⟩⟩
       case round =>
        clear H'
        try clear c1
        try clear p2
        try clear q2
        try clear hx2
        try clear c5
        try clear c5b0
        try clear c5b1
        try clear c6
        try clear c6b0
        try clear c6b1
        try clear p6
        try clear c7
        try clear c7b0
        try clear c7b1
        try clear c10
        try clear c11
        try clear c12
        try clear c12b0
        try clear c13
        try clear c13b0
        try clear c14
        try clear c14b0
        try clear c15
        try clear c15b0
        try clear c16
        try clear c16b0
        try clear hcz11_0
        try clear hcz11_1
        try clear hcz11_2
        try clear hcz17_0
        try clear hcz17_1
        try clear hcz17_2
        try clear hcz4_0
        try clear hcz4_1
        try clear hcz4_2
        try clear hcz8_0
        try clear hcz8_1
        try clear hcz8_2
        try clear hcz9_0
        try clear hcz9_1
        try clear hcz9_2
        try clear hfz11_0
        try clear hfz11_1
        try clear hfz11_2
        try clear hfz17_0
        try clear hfz17_1
        try clear hfz17_2
        try clear hfz4_0
        try clear hfz4_1
        try clear hfz4_2
        try clear hfz8_0
        try clear hfz8_1
        try clear hfz8_2
        try clear hfz9_0
        try clear hfz9_1
        try clear hfz9_2
        try clear hx288_0
        try clear p2
        try clear p288
        try clear q288
        obtain ⟨x60_3, rfl, HA, HK3, BK287, HB⟩ := hrel
        cases gk with
        | zero => exact absurd HA.out (by simp [impl_StateOk.l1])
        | succ k3 =>
         have H := HA.out
         clear HA
         simp only [impl_StateOk.l1] at H
         by_cases c18 : x60_3 < (l0_1.length : Int)
         ·rw [if_pos c18] at H
          have c18b0 : decide (x60_3 < (l0_1.length : Int)) = true := decide_eq_true c18
          clear c18
          by_cases c19 : 0 ≤ x60_3
          ·rw [if_pos c19] at H
           have c19b0 : decide (0 ≤ x60_3) = true := decide_eq_true c19
           clear c19
           by_cases c20 : x60_3 < (l0_1.length : Int)
           ·rw [if_pos c20] at H
            have c20b0 : decide (x60_3 < (l0_1.length : Int)) = true := decide_eq_true c20
            clear c20
            have HC21 := Aside0.mk H
            clear H
            have p289 : 0 ≤ (x60_3 : Int) := of_decide_eq_true (by assumption)
            have q289 : x60_3 < (l0_1.length : Int) := of_decide_eq_true (by assumption)
            obtain ⟨ad289, A289_1, c289_1, e289, hx289_0, hx289_1, hx289_2, hl289_1, hi289_1⟩ := at_T48 HR0_1.out x60_3 p289 q289
            cases e289
            replace hx289_0 := (HB.out.cell (World.block_lt_of_cell? w _ hx289_0)).trans hx289_0
            replace hx289_1 := (HB.out.cell (World.block_lt_of_cell? w _ hx289_1)).trans hx289_1
            replace hx289_2 := (HB.out.cell (World.block_lt_of_cell? w _ hx289_2)).trans hx289_2
            have HR289_1 := Aside0.mk hi289_1
            have HC289_1 := Aside0.mk hl289_1
            clear hi289_1 hl289_1
            replace p289 := eq_true p289
            replace q289 := eq_true q289
            go_upto_region 13 with (first | ((with_reducible refine gate_dst (N := 7) rfl ?_); (try (refine gate_guard (by rfl) ?_; dsimp only)); refine box_event ?hg (N := 7) ?hd (cs := #[.int .i64 0, .slice none 0 0, .int .i64 0]) (t := 48) ?hr ?_; (case hd => rfl); (case hg => rfl); (case hr => first | (go_simp; done) | (go_simp; rfl)); intro gb290 hg w22 hbox hb; have n0_ := Aside0.mk (blk_below (g := gb287) (o := .cells #[.slice A0_0 l0_0.length c0_0, .slice (some ad289) l0_1.length c0_1, .slice A0_2 l0_2.length c0_2] 30 (0, 0)) (by exact BK287.out) hb); have n1_ := Aside0.mk (below_step (by exact HB.out) hb); have n2_ := Aside0.mk (hbox); have n3_ := Aside0.mk ((by rw [hg]; exact (below_size (by exact HB.out)) : w.heap.size ≤ gb290)); have n4_ := Aside0.mk ((by rw [hg]; exact (below_size (by exact HB.out)) : w.heap.size ≤ gb290)); have n5_ := Aside0.mk ((by rw [hg]; exact Nat.ne_of_lt (blk_lt (g := gb287) (o := .cells #[.slice A0_0 l0_0.length c0_0, .slice (some ad289) l0_1.length c0_1, .slice A0_2 l0_2.length c0_2] 30 (0, 0)) (by exact BK287.out)) : gb287 ≠ gb290)); have n6_ := Aside0.mk ((by rw [hg]; exact Nat.ne_of_gt (blk_lt (g := gb287) (o := .cells #[.slice A0_0 l0_0.length c0_0, .slice (some ad289) l0_1.length c0_1, .slice A0_2 l0_2.length c0_2] 30 (0, 0)) (by exact BK287.out)) : gb290 ≠ gb287)); clear BK287; clear HB; have BK287 := n0_; have HB := n1_; have BK290 := n2_; have GW290 := n3_; have GE290 := n4_; have NB287_290 := n5_; have NB290_287 := n6_; clear n0_ n1_ n2_ n3_ n4_ n5_ n6_; clear hb hbox hg; have hnb23 := NB290_287.out; have hnc23 := NB287_290.out; have hcz24_0 : w22.cell? ⟨gb290, 0, none⟩ = some (.int .i64 0) := (blk_cell BK290.out 0).trans rfl; have hcz24_1 : w22.cell? ⟨gb290, 1, none⟩ = some (.slice none 0 0) := (blk_cell BK290.out 1).trans rfl; have hcz24_2 : w22.cell? ⟨gb290, 2, none⟩ = some (.int .i64 0) := (blk_cell BK290.out 2).trans rfl; have hfz24_0 := blk_frozen BK290.out 0; have hfz24_1 := blk_frozen BK290.out 1; have hfz24_2 := blk_frozen BK290.out 2))
            (try simp only [Act.put, List.setIfInBounds_toArray, List.set_cons_zero, List.set_cons_succ])
            go_cut [88] (fun v88 wc => ∃ (kq : Nat) (x88_20 : Bool), v88 = .bool x88_20 ∧ Aside0 (impl_StateOk.j3 kq (l0_0.length : Int) l0_1 (l0_1.length : Int) x60_3 x88_20 l0_0 l0_1 l0_2 ((rd_T48 l0_1 x60_3).f0) ((rd_T48 l0_1 x60_3).f1) ((rd_T48 l0_1 x60_3).f2) = some r) ∧ Aside0 (kq ≤ k3) ∧ Aside0 (wc.heap[gb287]? = some (.cells #[(.slice A0_0 l0_0.length c0_0), (.slice (some ad289) l0_1.length c0_1), (.slice A0_2 l0_2.length c0_2)] 30 (0, 0))) ∧ Aside0 (wc.heap[gb290]? = some (.cells #[.int .i64 ((rd_T48 l0_1 x60_3).f0), (.slice A289_1 ((rd_T48 l0_1 x60_3).f1).length c289_1), .int .i64 ((rd_T48 l0_1 x60_3).f2)] 48 (0, 0))) ∧ Aside0 (Below w.heap.size w wc))
            case first =>
             have H := HC21.out
             clear HC21
             by_cases c25 : ((rd_T48 l0_1 x60_3).f0) < 0
             ·rw [if_pos c25] at H
              have c25b0 : decide (((rd_T48 l0_1 x60_3).f0) < 0) = true := decide_eq_true c25
              clear c25
              (first | rw [c25b0] | (simp only [i64_w, i32_w]; rw [c25b0]) | skip)
              have H' := Aside0.mk H
              clear H
              have hnb26 := NB290_287.out
              have hnc26 := NB287_290.out
              have hcz27_0 : w22.cell? ⟨gb290, 0, none⟩ = some (.int .i64 0) := (blk_cell BK290.out 0).trans rfl
              have hcz27_1 : w22.cell? ⟨gb290, 1, none⟩ = some (.slice none 0 0) := (blk_cell BK290.out 1).trans rfl
              have hcz27_2 : w22.cell? ⟨gb290, 2, none⟩ = some (.int .i64 0) := (blk_cell BK290.out 2).trans rfl
              have hfz27_0 := blk_frozen BK290.out 0
              have hfz27_1 := blk_frozen BK290.out 1
              have hfz27_2 := blk_frozen BK290.out 2
              go_wp2
              go_meet
              case rel => exact ⟨_, (true), (by first | rfl | (simp; done) | (simp [*]; done)), H', ⟨by have := HJ1.out; have := HK2.out; have := HK3.out; first | omega | exact Nat.le_refl _⟩, ⟨by refine blk_far ?_ NB287_290.out _; refine blk_far ?_ NB287_290.out _; refine blk_far ?_ NB287_290.out _; exact BK287.out⟩, ⟨by refine blk_put (cs := #[.int .i64 ((rd_T48 l0_1 x60_3).f0), .slice A289_1 ((rd_T48 l0_1 x60_3).f1).length c289_1, .int .i64 0]) ?_ 2 _ rfl; refine blk_put (cs := #[.int .i64 ((rd_T48 l0_1 x60_3).f0), .slice none 0 0, .int .i64 0]) ?_ 1 _ rfl; refine blk_put (cs := #[.int .i64 0, .slice none 0 0, .int .i64 0]) ?_ 0 _ rfl; exact BK290.out⟩, ⟨by repeat (first | (with_reducible first | exact HB.out | apply below_alloc | apply pw_below_drewN | apply below_drew1 | refine below_set ?_ GE287.out | refine below_set ?_ GE290.out) | exact HB.out)⟩⟩
             ·rw [if_neg c25] at H
              have c25b0 : decide (((rd_T48 l0_1 x60_3).f0) < 0) = false := decide_eq_false c25
              clear c25
              (first | rw [c25b0] | (simp only [i64_w, i32_w]; rw [c25b0]) | skip)
              by_cases c28 : ((rd_T48 l0_1 x60_3).f0) ≥ (l0_0.length : Int)
              ·rw [if_pos c28] at H
               have c28b0 : decide ((l0_0.length : Int) ≤ ((rd_T48 l0_1 x60_3).f0)) = true := decide_eq_true c28
               clear c28
               have H' := Aside0.mk H
               clear H
               have hnb29 := NB290_287.out
               have hnc29 := NB287_290.out
               have hcz30_0 : w22.cell? ⟨gb290, 0, none⟩ = some (.int .i64 0) := (blk_cell BK290.out 0).trans rfl
               have hcz30_1 : w22.cell? ⟨gb290, 1, none⟩ = some (.slice none 0 0) := (blk_cell BK290.out 1).trans rfl
               have hcz30_2 : w22.cell? ⟨gb290, 2, none⟩ = some (.int .i64 0) := (blk_cell BK290.out 2).trans rfl
               have hfz30_0 := blk_frozen BK290.out 0
               have hfz30_1 := blk_frozen BK290.out 1
               have hfz30_2 := blk_frozen BK290.out 2
               go_wp2
               go_meet
               case rel => exact ⟨_, (true), (by first | rfl | (simp; done) | (simp [*]; done)), H', ⟨by have := HJ1.out; have := HK2.out; have := HK3.out; first | omega | exact Nat.le_refl _⟩, ⟨by refine blk_far ?_ NB287_290.out _; refine blk_far ?_ NB287_290.out _; refine blk_far ?_ NB287_290.out _; exact BK287.out⟩, ⟨by refine blk_put (cs := #[.int .i64 ((rd_T48 l0_1 x60_3).f0), .slice A289_1 ((rd_T48 l0_1 x60_3).f1).length c289_1, .int .i64 0]) ?_ 2 _ rfl; refine blk_put (cs := #[.int .i64 ((rd_T48 l0_1 x60_3).f0), .slice none 0 0, .int .i64 0]) ?_ 1 _ rfl; refine blk_put (cs := #[.int .i64 0, .slice none 0 0, .int .i64 0]) ?_ 0 _ rfl; exact BK290.out⟩, ⟨by repeat (first | (with_reducible first | exact HB.out | apply below_alloc | apply pw_below_drewN | apply below_drew1 | refine below_set ?_ GE287.out | refine below_set ?_ GE290.out) | exact HB.out)⟩⟩
              ·rw [if_neg c28] at H
               have c28b0 : decide ((l0_0.length : Int) ≤ ((rd_T48 l0_1 x60_3).f0)) = false := decide_eq_false c28
               clear c28
               by_cases c31 : (((rd_T48 l0_1 x60_3).f1).length : Int) > 8
               ·rw [if_pos c31] at H
                have c31b0 : decide (8 < (((rd_T48 l0_1 x60_3).f1).length : Int)) = true := decide_eq_true c31
                have c31b1 : decide (8 < ((rd_T48 l0_1 x60_3).f1).length) = true := decide_eq_true (by omega)
                clear c31
                have H' := Aside0.mk H
                clear H
                have hnb32 := NB290_287.out
                have hnc32 := NB287_290.out
                have hcz33_0 : w22.cell? ⟨gb290, 0, none⟩ = some (.int .i64 0) := (blk_cell BK290.out 0).trans rfl
                have hcz33_1 : w22.cell? ⟨gb290, 1, none⟩ = some (.slice none 0 0) := (blk_cell BK290.out 1).trans rfl
                have hcz33_2 : w22.cell? ⟨gb290, 2, none⟩ = some (.int .i64 0) := (blk_cell BK290.out 2).trans rfl
                have hfz33_0 := blk_frozen BK290.out 0
                have hfz33_1 := blk_frozen BK290.out 1
                have hfz33_2 := blk_frozen BK290.out 2
                go_wp2
                go_meet
                case rel => exact ⟨_, (true), (by first | rfl | (simp; done) | (simp [*]; done)), H', ⟨by have := HJ1.out; have := HK2.out; have := HK3.out; first | omega | exact Nat.le_refl _⟩, ⟨by refine blk_far ?_ NB287_290.out _; refine blk_far ?_ NB287_290.out _; refine blk_far ?_ NB287_290.out _; exact BK287.out⟩, ⟨by refine blk_put (cs := #[.int .i64 ((rd_T48 l0_1 x60_3).f0), .slice A289_1 ((rd_T48 l0_1 x60_3).f1).length c289_1, .int .i64 0]) ?_ 2 _ rfl; refine blk_put (cs := #[.int .i64 ((rd_T48 l0_1 x60_3).f0), .slice none 0 0, .int .i64 0]) ?_ 1 _ rfl; refine blk_put (cs := #[.int .i64 0, .slice none 0 0, .int .i64 0]) ?_ 0 _ rfl; exact BK290.out⟩, ⟨by repeat (first | (with_reducible first | exact HB.out | apply below_alloc | apply pw_below_drewN | apply below_drew1 | refine below_set ?_ GE287.out | refine below_set ?_ GE290.out) | exact HB.out)⟩⟩
               ·rw [if_neg c31] at H
                have c31b0 : decide (8 < (((rd_T48 l0_1 x60_3).f1).length : Int)) = false := decide_eq_false c31
                have c31b1 : decide (8 < ((rd_T48 l0_1 x60_3).f1).length) = false := decide_eq_false (by omega)
                clear c31
                by_cases c34 : ((rd_T48 l0_1 x60_3).f2) < 1
                ·rw [if_pos c34] at H
                 have c34b0 : decide (((rd_T48 l0_1 x60_3).f2) < 1) = true := decide_eq_true c34
                 clear c34
                 have H' := Aside0.mk H
                 clear H
                 have hnb35 := NB290_287.out
                 have hnc35 := NB287_290.out
                 have hcz36_0 : w22.cell? ⟨gb290, 0, none⟩ = some (.int .i64 0) := (blk_cell BK290.out 0).trans rfl
                 have hcz36_1 : w22.cell? ⟨gb290, 1, none⟩ = some (.slice none 0 0) := (blk_cell BK290.out 1).trans rfl
                 have hcz36_2 : w22.cell? ⟨gb290, 2, none⟩ = some (.int .i64 0) := (blk_cell BK290.out 2).trans rfl
                 have hfz36_0 := blk_frozen BK290.out 0
                 have hfz36_1 := blk_frozen BK290.out 1
                 have hfz36_2 := blk_frozen BK290.out 2
                 go_wp2
                 go_meet
                 case rel => exact ⟨_, (true), (by first | rfl | (simp; done) | (simp [*]; done)), H', ⟨by have := HJ1.out; have := HK2.out; have := HK3.out; first | omega | exact Nat.le_refl _⟩, ⟨by refine blk_far ?_ NB287_290.out _; refine blk_far ?_ NB287_290.out _; refine blk_far ?_ NB287_290.out _; exact BK287.out⟩, ⟨by refine blk_put (cs := #[.int .i64 ((rd_T48 l0_1 x60_3).f0), .slice A289_1 ((rd_T48 l0_1 x60_3).f1).length c289_1, .int .i64 0]) ?_ 2 _ rfl; refine blk_put (cs := #[.int .i64 ((rd_T48 l0_1 x60_3).f0), .slice none 0 0, .int .i64 0]) ?_ 1 _ rfl; refine blk_put (cs := #[.int .i64 0, .slice none 0 0, .int .i64 0]) ?_ 0 _ rfl; exact BK290.out⟩, ⟨by repeat (first | (with_reducible first | exact HB.out | apply below_alloc | apply pw_below_drewN | apply below_drew1 | refine below_set ?_ GE287.out | refine below_set ?_ GE290.out) | exact HB.out)⟩⟩
                ·rw [if_neg c34] at H
                 have c34b0 : decide (((rd_T48 l0_1 x60_3).f2) < 1) = false := decide_eq_false c34
                 clear c34
                 have H' := Aside0.mk H
                 clear H
                 have hnb37 := NB290_287.out
                 have hnc37 := NB287_290.out
                 have hcz38_0 : w22.cell? ⟨gb290, 0, none⟩ = some (.int .i64 0) := (blk_cell BK290.out 0).trans rfl
                 have hcz38_1 : w22.cell? ⟨gb290, 1, none⟩ = some (.slice none 0 0) := (blk_cell BK290.out 1).trans rfl
                 have hcz38_2 : w22.cell? ⟨gb290, 2, none⟩ = some (.int .i64 0) := (blk_cell BK290.out 2).trans rfl
                 have hfz38_0 := blk_frozen BK290.out 0
                 have hfz38_1 := blk_frozen BK290.out 1
                 have hfz38_2 := blk_frozen BK290.out 2
                 go_wp2
                 go_meet
                 case rel => exact ⟨_, (decide (((rd_T48 l0_1 x60_3).f2) > 100)), (by first | rfl | (simp; done) | (simp [*]; done)), H', ⟨by have := HJ1.out; have := HK2.out; have := HK3.out; first | omega | exact Nat.le_refl _⟩, ⟨by refine blk_far ?_ NB287_290.out _; refine blk_far ?_ NB287_290.out _; refine blk_far ?_ NB287_290.out _; exact BK287.out⟩, ⟨by refine blk_put (cs := #[.int .i64 ((rd_T48 l0_1 x60_3).f0), .slice A289_1 ((rd_T48 l0_1 x60_3).f1).length c289_1, .int .i64 0]) ?_ 2 _ rfl; refine blk_put (cs := #[.int .i64 ((rd_T48 l0_1 x60_3).f0), .slice none 0 0, .int .i64 0]) ?_ 1 _ rfl; refine blk_put (cs := #[.int .i64 0, .slice none 0 0, .int .i64 0]) ?_ 0 _ rfl; exact BK290.out⟩, ⟨by repeat (first | (with_reducible first | exact HB.out | apply below_alloc | apply pw_below_drewN | apply below_drew1 | refine below_set ?_ GE287.out | refine below_set ?_ GE290.out) | exact HB.out)⟩⟩
            case rest =>
             clear HC21
             try clear c1
             try clear c2
             try clear p2
             try clear q2
             try clear hx2
             try clear c3
             try clear c5
             try clear c5b0
             try clear c5b1
             try clear c6
             try clear c6b0
             try clear c6b1
             try clear p6
             try clear c7
             try clear c7b0
             try clear c7b1
             try clear c10
             try clear c11
             try clear c12
             try clear c12b0
             try clear c13
             try clear c13b0
             try clear c14
             try clear c14b0
             try clear c15
             try clear c15b0
             try clear c16
             try clear c16b0
             try clear c18
             try clear c18b0
             try clear c19
             try clear c19b0
             try clear c20
             try clear c20b0
             try clear c23
             try clear c25
             try clear c25b0
             try clear c26
             try clear c28
             try clear c28b0
             try clear p28
             try clear q28
             try clear hx28
             try clear c29
             try clear c31
             try clear c31b0
             try clear c31b1
             try clear c32
             try clear c34
             try clear c34b0
             try clear c35
             try clear c37
             try clear hcz11_0
             try clear hcz11_1
             try clear hcz11_2
             try clear hcz17_0
             try clear hcz17_1
             try clear hcz17_2
             try clear hcz24_0
             try clear hcz24_1
             try clear hcz24_2
             try clear hcz27_0
             try clear hcz27_1
             try clear hcz27_2
             try clear hcz30_0
             try clear hcz30_1
             try clear hcz30_2
             try clear hcz33_0
             try clear hcz33_1
             try clear hcz33_2
             try clear hcz36_0
             try clear hcz36_1
             try clear hcz36_2
             try clear hcz38_0
             try clear hcz38_1
             try clear hcz38_2
             try clear hcz4_0
             try clear hcz4_1
             try clear hcz4_2
             try clear hcz8_0
             try clear hcz8_1
             try clear hcz8_2
             try clear hcz9_0
             try clear hcz9_1
             try clear hcz9_2
             try clear hfz11_0
             try clear hfz11_1
             try clear hfz11_2
             try clear hfz17_0
             try clear hfz17_1
             try clear hfz17_2
             try clear hfz24_0
             try clear hfz24_1
             try clear hfz24_2
             try clear hfz27_0
             try clear hfz27_1
             try clear hfz27_2
             try clear hfz30_0
             try clear hfz30_1
             try clear hfz30_2
             try clear hfz33_0
             try clear hfz33_1
             try clear hfz33_2
             try clear hfz36_0
             try clear hfz36_1
             try clear hfz36_2
             try clear hfz38_0
             try clear hfz38_1
             try clear hfz38_2
             try clear hfz4_0
             try clear hfz4_1
             try clear hfz4_2
             try clear hfz8_0
             try clear hfz8_1
             try clear hfz8_2
             try clear hfz9_0
             try clear hfz9_1
             try clear hfz9_2
             try clear hx288_0
             try clear hx289_0
             try clear hx289_1
             try clear hx289_2
             try clear p2
             try clear p288
             try clear p289
             try clear p6
             try clear q2
             try clear q288
             try clear q289
             obtain ⟨kq, x88_20, rfl, HA, HJ20, BK287, BK290, HB⟩ := hcut
             cases kq with
             | zero => exact absurd HA.out (by simp [impl_StateOk.j3])
             | succ kj20 =>
              have H := HA.out
              clear HA
              simp only [impl_StateOk.j3] at H
              by_cases c39 : x88_20 = true
              ·subst c39
               have H1 : (some 3) = some r := by rw [if_pos rfl] at H; exact H
               clear H
               have H := H1
               clear H1
               obtain rfl := Option.some.inj H
               go_wp2
               go_ret
               exact ⟨by first | rfl | (simp [errW_none, errW_some] <;> rfl) | (simp [*, errW_none, errW_some] <;> rfl), by exact HB.out⟩
              ·replace c39 := Bool.eq_false_iff.mpr c39
               subst c39
               have H1 : (impl_StateOk.l2 kj20 (l0_0.length : Int) ((rd_T48 l0_1 x60_3).f0) l0_1 (l0_1.length : Int) x60_3 ((rd_T48 l0_1 x60_3).f1) (((rd_T48 l0_1 x60_3).f1).length : Int) 0 l0_0 l0_1 l0_2) = some r := by rw [if_neg (show ¬ (false = true) by decide)] at H; exact H
               clear H
               have H := H1
               clear H1
               have H' := Aside0.mk H
               clear H
               have hnb40 := NB290_287.out
               have hnc40 := NB287_290.out
               have hcz41_0 : wc.cell? ⟨gb290, 0, none⟩ = some (.int .i64 ((rd_T48 l0_1 x60_3).f0)) := (blk_cell BK290.out 0).trans rfl
               have hcz41_1 : wc.cell? ⟨gb290, 1, none⟩ = some (.slice A289_1 ((rd_T48 l0_1 x60_3).f1).length c289_1) := (blk_cell BK290.out 1).trans rfl
               have hcz41_2 : wc.cell? ⟨gb290, 2, none⟩ = some (.int .i64 ((rd_T48 l0_1 x60_3).f2)) := (blk_cell BK290.out 2).trans rfl
               have hfz41_0 := blk_frozen BK290.out 0
               have hfz41_1 := blk_frozen BK290.out 1
               have hfz41_2 := blk_frozen BK290.out 2
               go_wp2
               go_loopg [8, 94] kj20 (fun kq v8 v94 w' => ∃ (x8_5 : Int) (x94_5 : Int), v8 = .int .i64 x8_5 ∧ v94 = .int .i64 x94_5 ∧ Aside0 (impl_StateOk.l2 kq (l0_0.length : Int) x8_5 l0_1 (l0_1.length : Int) x60_3 ((rd_T48 l0_1 x60_3).f1) (((rd_T48 l0_1 x60_3).f1).length : Int) x94_5 l0_0 l0_1 l0_2 = some r) ∧ Aside0 (kq ≤ kj20) ∧ Aside0 (w'.heap[gb287]? = some (.cells #[(.slice A0_0 l0_0.length c0_0), (.slice (some ad289) l0_1.length c0_1), (.slice A0_2 l0_2.length c0_2)] 30 (0, 0))) ∧ Aside0 (w'.heap[gb290]? = some (.cells #[.int .i64 ((rd_T48 l0_1 x60_3).f0), (.slice A289_1 ((rd_T48 l0_1 x60_3).f1).length c289_1), .int .i64 ((rd_T48 l0_1 x60_3).f2)] 48 (0, 0))) ∧ Aside0 (Below w.heap.size w w'))
               case atStart => exact ⟨(((rd_T48 l0_1 x60_3).f0)), (0), (by first | rfl | (simp; done) | (simp [*]; done)), (by first | rfl | (simp; done) | (simp [*]; done)), H', ⟨Nat.le_refl _⟩, ⟨by exact BK287.out⟩, ⟨by exact BK290.out⟩, ⟨by exact HB.out⟩⟩
               case round =>
                clear H'
                try clear c1
                try clear c2
                try clear p2
                try clear q2
                try clear hx2
                try clear c3
                try clear c4
                try clear c5
                try clear c5b0
                try clear c5b1
                try clear c6
                try clear c6b0
                try clear c6b1
                try clear p6
                try clear c7
                try clear c7b0
                try clear c7b1
                try clear c10
                try clear c11
                try clear c12
                try clear c12b0
                try clear c13
                try clear c13b0
                try clear c14
                try clear c14b0
                try clear c15
                try clear c15b0
                try clear c16
                try clear c16b0
                try clear c18
                try clear c18b0
                try clear c19
                try clear c19b0
                try clear c20
                try clear c20b0
                try clear c23
                try clear c25
                try clear c25b0
                try clear c26
                try clear c28
                try clear c28b0
                try clear p28
                try clear q28
                try clear hx28
                try clear c29
                try clear c31
                try clear c31b0
                try clear c31b1
                try clear c32
                try clear c34
                try clear c34b0
                try clear c35
                try clear c37
                try clear c39
                try clear c40
                try clear hcz11_0
                try clear hcz11_1
                try clear hcz11_2
                try clear hcz17_0
                try clear hcz17_1
                try clear hcz17_2
                try clear hcz24_0
                try clear hcz24_1
                try clear hcz24_2
                try clear hcz27_0
                try clear hcz27_1
                try clear hcz27_2
                try clear hcz30_0
                try clear hcz30_1
                try clear hcz30_2
                try clear hcz33_0
                try clear hcz33_1
                try clear hcz33_2
                try clear hcz36_0
                try clear hcz36_1
                try clear hcz36_2
                try clear hcz38_0
                try clear hcz38_1
                try clear hcz38_2
                try clear hcz41_0
                try clear hcz41_1
                try clear hcz41_2
                try clear hcz4_0
                try clear hcz4_1
                try clear hcz4_2
                try clear hcz8_0
                try clear hcz8_1
                try clear hcz8_2
                try clear hcz9_0
                try clear hcz9_1
                try clear hcz9_2
                try clear hfz11_0
                try clear hfz11_1
                try clear hfz11_2
                try clear hfz17_0
                try clear hfz17_1
                try clear hfz17_2
                try clear hfz24_0
                try clear hfz24_1
                try clear hfz24_2
                try clear hfz27_0
                try clear hfz27_1
                try clear hfz27_2
                try clear hfz30_0
                try clear hfz30_1
                try clear hfz30_2
                try clear hfz33_0
                try clear hfz33_1
                try clear hfz33_2
                try clear hfz36_0
                try clear hfz36_1
                try clear hfz36_2
                try clear hfz38_0
                try clear hfz38_1
                try clear hfz38_2
                try clear hfz41_0
                try clear hfz41_1
                try clear hfz41_2
                try clear hfz4_0
                try clear hfz4_1
                try clear hfz4_2
                try clear hfz8_0
                try clear hfz8_1
                try clear hfz8_2
                try clear hfz9_0
                try clear hfz9_1
                try clear hfz9_2
                try clear hx288_0
                try clear hx289_0
                try clear hx289_1
                try clear hx289_2
                try clear p2
                try clear p28
                try clear p288
                try clear p289
                try clear p6
                try clear q2
                try clear q28
                try clear q288
                try clear q289
                obtain ⟨x8_5, x94_5, rfl, rfl, HA, HK5, BK287, BK290, HB⟩ := hrel
                cases gk with
                | zero => exact absurd HA.out (by simp [impl_StateOk.l2])
                | succ k5 =>
                 have H := HA.out
                 clear HA
                 simp only [impl_StateOk.l2] at H
                 by_cases c42 : x94_5 < (((rd_T48 l0_1 x60_3).f1).length : Int)
                 ·rw [if_pos c42] at H
                  have c42b0 : decide (x94_5 < (((rd_T48 l0_1 x60_3).f1).length : Int)) = true := decide_eq_true c42
                  clear c42
                  by_cases c43 : 0 ≤ x94_5
                  ·rw [if_pos c43] at H
                   have c43b0 : decide (0 ≤ x94_5) = true := decide_eq_true c43
                   clear c43
                   by_cases c44 : x94_5 < (((rd_T48 l0_1 x60_3).f1).length : Int)
                   ·rw [if_pos c44] at H
                    have c44b0 : decide (x94_5 < (((rd_T48 l0_1 x60_3).f1).length : Int)) = true := decide_eq_true c44
                    clear c44
                    by_cases c45 : (rd ((rd_T48 l0_1 x60_3).f1) x94_5) < 0
                    ·rw [if_pos c45] at H
                     have c45b0 : decide ((rd ((rd_T48 l0_1 x60_3).f1) x94_5) < 0) = true := decide_eq_true c45
                     clear c45
                     obtain rfl := Option.some.inj H
                     have p291 : 0 ≤ (x94_5 : Int) := of_decide_eq_true (by assumption)
                     have q291 : x94_5 < (((rd_T48 l0_1 x60_3).f1).length : Int) := of_decide_eq_true (by assumption)
                     obtain ⟨ad291, e291, hx291_0⟩ := Kd.at_int HR289_1.out x94_5 p291 q291
                     cases e291
                     replace hx291_0 := (HB.out.cell (World.block_lt_of_cell? w _ hx291_0)).trans hx291_0
                     replace p291 := eq_true p291
                     replace q291 := eq_true q291
                     go_wp2
                     go_ret
                     exact ⟨by first | rfl | (simp [errW_none, errW_some] <;> rfl) | (simp [*, errW_none, errW_some] <;> rfl), by exact HB.out⟩
                    ·rw [if_neg c45] at H
                     have c45b0 : decide ((rd ((rd_T48 l0_1 x60_3).f1) x94_5) < 0) = false := decide_eq_false c45
                     clear c45
                     by_cases c46 : (rd ((rd_T48 l0_1 x60_3).f1) x94_5) ≥ (l0_0.length : Int)
                     ·rw [if_pos c46] at H
                      have c46b0 : decide ((l0_0.length : Int) ≤ (rd ((rd_T48 l0_1 x60_3).f1) x94_5)) = true := decide_eq_true c46
                      clear c46
                      obtain rfl := Option.some.inj H
                      have p291 : 0 ≤ (x94_5 : Int) := of_decide_eq_true (by assumption)
                      have q291 : x94_5 < (((rd_T48 l0_1 x60_3).f1).length : Int) := of_decide_eq_true (by assumption)
                      obtain ⟨ad291, e291, hx291_0⟩ := Kd.at_int HR289_1.out x94_5 p291 q291
                      cases e291
                      replace hx291_0 := (HB.out.cell (World.block_lt_of_cell? w _ hx291_0)).trans hx291_0
                      replace p291 := eq_true p291
                      replace q291 := eq_true q291
                      go_wp2
                      go_ret
                      exact ⟨by first | rfl | (simp [errW_none, errW_some] <;> rfl) | (simp [*, errW_none, errW_some] <;> rfl), by exact HB.out⟩
                     ·rw [if_neg c46] at H
                      have c46b0 : decide ((l0_0.length : Int) ≤ (rd ((rd_T48 l0_1 x60_3).f1) x94_5)) = false := decide_eq_false c46
                      clear c46
                      by_cases c47 : (rd ((rd_T48 l0_1 x60_3).f1) x94_5) = x8_5
                      ·rw [if_pos c47] at H
                       have c47b0 : ((rd ((rd_T48 l0_1 x60_3).f1) x94_5) == x8_5) = true := beq_iff_eq.mpr c47
                       have c47b1 : ((rd ((rd_T48 l0_1 x60_3).f1) x94_5) != x8_5) = false := bne_eq_false_iff_eq.mpr c47
                       clear c47
                       obtain rfl := Option.some.inj H
                       have p291 : 0 ≤ (x94_5 : Int) := of_decide_eq_true (by assumption)
                       have q291 : x94_5 < (((rd_T48 l0_1 x60_3).f1).length : Int) := of_decide_eq_true (by assumption)
                       obtain ⟨ad291, e291, hx291_0⟩ := Kd.at_int HR289_1.out x94_5 p291 q291
                       cases e291
                       replace hx291_0 := (HB.out.cell (World.block_lt_of_cell? w _ hx291_0)).trans hx291_0
                       replace p291 := eq_true p291
                       replace q291 := eq_true q291
                       go_wp2
                       go_ret
                       exact ⟨by first | rfl | (simp [errW_none, errW_some] <;> rfl) | (simp [*, errW_none, errW_some] <;> rfl), by exact HB.out⟩
                      ·rw [if_neg c47] at H
                       have c47b0 : ((rd ((rd_T48 l0_1 x60_3).f1) x94_5) == x8_5) = false := beq_eq_false_iff_ne.mpr c47
                       have c47b1 : ((rd ((rd_T48 l0_1 x60_3).f1) x94_5) != x8_5) = true := bne_iff_ne.mpr c47
                       have H' := Aside0.mk H
                       clear H
                       have p291 : 0 ≤ (x94_5 : Int) := of_decide_eq_true (by assumption)
                       have q291 : x94_5 < (((rd_T48 l0_1 x60_3).f1).length : Int) := of_decide_eq_true (by assumption)
                       obtain ⟨ad291, e291, hx291_0⟩ := Kd.at_int HR289_1.out x94_5 p291 q291
                       cases e291
                       replace hx291_0 := (HB.out.cell (World.block_lt_of_cell? w _ hx291_0)).trans hx291_0
                       replace p291 := eq_true p291
                       replace q291 := eq_true q291
                       go_wp2
                       go_roundg k5
                       case measure => have := HJ1.out; have := HK2.out; have := HK3.out; have := HJ20.out; have := HK5.out; omega
                       case rel => exact ⟨(rd ((rd_T48 l0_1 x60_3).f1) x94_5), (wrap64 (x94_5 + 1)), (by first | rfl | (simp; done) | (simp [*]; done)), (by first | rfl | (simp; done) | (simp [*]; done)), H', ⟨by have := HJ1.out; have := HK2.out; have := HK3.out; have := HJ20.out; have := HK5.out; omega⟩, ⟨by exact BK287.out⟩, ⟨by exact BK290.out⟩, ⟨by exact HB.out⟩⟩
                   ·rw [if_neg c44] at H
                    exact absurd H (by simp)
                  ·rw [if_neg c43] at H
                   exact absurd H (by simp)
                 ·rw [if_neg c42] at H
                  have c42b0 : decide (x94_5 < (((rd_T48 l0_1 x60_3).f1).length : Int)) = false := decide_eq_false c42
                  clear c42
                  have H' := Aside0.mk H
                  clear H
                  go_wp2
                  go_roundg k5
                  case measure => have := HJ1.out; have := HK2.out; have := HK3.out; have := HJ20.out; have := HK5.out; omega
                  case rel => exact ⟨(wrap64 (x60_3 + 1)), (by first | rfl | (simp; done) | (simp [*]; done)), H', ⟨by have := HJ1.out; have := HK2.out; have := HK3.out; have := HJ20.out; have := HK5.out; omega⟩, ⟨by exact BK287.out⟩, ⟨by exact HB.out⟩⟩
           ·rw [if_neg c20] at H
            exact absurd H (by simp)
          ·rw [if_neg c19] at H
           exact absurd H (by simp)
         ·rw [if_neg c18] at H
          have c18b0 : decide (x60_3 < (l0_1.length : Int)) = false := decide_eq_false c18
          clear c18
          have H' := Aside0.mk H
          clear H
          have hcz48_0 : wr.cell? ⟨gb287, 0, none⟩ = some (.slice A0_0 l0_0.length c0_0) := (blk_cell BK287.out 0).trans rfl
          have hcz48_1 : wr.cell? ⟨gb287, 1, none⟩ = some (.slice A0_1 l0_1.length c0_1) := (blk_cell BK287.out 1).trans rfl
          have hcz48_2 : wr.cell? ⟨gb287, 2, none⟩ = some (.slice A0_2 l0_2.length c0_2) := (blk_cell BK287.out 2).trans rfl
          have hfz48_0 := blk_frozen BK287.out 0
          have hfz48_1 := blk_frozen BK287.out 1
          have hfz48_2 := blk_frozen BK287.out 2
          go_wp2
          go_loopg [11, 116] k3 (fun kq v11 v116 w' => ∃ (x11_4 : Int) (x116_4 : Int), v11 = .int .i64 x11_4 ∧ v116 = .int .i64 x116_4 ∧ Aside0 (impl_StateOk.l3 kq (l0_0.length : Int) x11_4 l0_2 (l0_2.length : Int) x116_4 l0_0 l0_1 l0_2 = some r) ∧ Aside0 (kq ≤ k3) ∧ Aside0 (w'.heap[gb287]? = some (.cells #[(.slice A0_0 l0_0.length c0_0), (.slice A0_1 l0_1.length c0_1), (.slice A0_2 l0_2.length c0_2)] 30 (0, 0))) ∧ Aside0 (Below w.heap.size w w'))
          case atStart => exact ⟨((-1)), (0), (by first | rfl | (simp; done) | (simp [*]; done)), (by first | rfl | (simp; done) | (simp [*]; done)), H', ⟨Nat.le_refl _⟩, ⟨by exact BK287.out⟩, ⟨by exact HB.out⟩⟩
          case round =>
           clear H'
           try clear c1
           try clear c2
           try clear p2
           try clear q2
           try clear hx2
           try clear c3
           try clear c4
           try clear c5
           try clear c5b0
           try clear c5b1
           try clear c6
           try clear c6b0
           try clear c6b1
           try clear p6
           try clear c7
           try clear c7b0
           try clear c7b1
           try clear c10
           try clear c11
           try clear c12
           try clear c12b0
           try clear c13
           try clear c13b0
           try clear c14
           try clear c14b0
           try clear c15
           try clear c15b0
           try clear c16
           try clear c16b0
           try clear c18
           try clear c18b0
           try clear c19
           try clear c19b0
           try clear c20
           try clear c20b0
           try clear c23
           try clear c25
           try clear c25b0
           try clear c26
           try clear c28
           try clear c28b0
           try clear p28
           try clear q28
           try clear hx28
           try clear c29
           try clear p29
           try clear q29
           try clear hx29
           try clear c31
           try clear c31b0
           try clear c31b1
           try clear c32
           try clear c34
           try clear c34b0
           try clear c35
           try clear c37
           try clear c39
           try clear c40
           try clear c42
           try clear c42b0
           try clear c43
           try clear c43b0
           try clear c44
           try clear c44b0
           try clear c45
           try clear c45b0
           try clear c46
           try clear c46b0
           try clear c47
           try clear c47b0
           try clear c47b1
           try clear hcz11_0
           try clear hcz11_1
           try clear hcz11_2
           try clear hcz17_0
           try clear hcz17_1
           try clear hcz17_2
           try clear hcz24_0
           try clear hcz24_1
           try clear hcz24_2
           try clear hcz27_0
           try clear hcz27_1
           try clear hcz27_2
           try clear hcz30_0
           try clear hcz30_1
           try clear hcz30_2
           try clear hcz33_0
           try clear hcz33_1
           try clear hcz33_2
           try clear hcz36_0
           try clear hcz36_1
           try clear hcz36_2
           try clear hcz38_0
           try clear hcz38_1
           try clear hcz38_2
           try clear hcz41_0
           try clear hcz41_1
           try clear hcz41_2
           try clear hcz48_0
           try clear hcz48_1
           try clear hcz48_2
           try clear hcz4_0
           try clear hcz4_1
           try clear hcz4_2
           try clear hcz8_0
           try clear hcz8_1
           try clear hcz8_2
           try clear hcz9_0
           try clear hcz9_1
           try clear hcz9_2
           try clear hfz11_0
           try clear hfz11_1
           try clear hfz11_2
           try clear hfz17_0
           try clear hfz17_1
           try clear hfz17_2
           try clear hfz24_0
           try clear hfz24_1
           try clear hfz24_2
           try clear hfz27_0
           try clear hfz27_1
           try clear hfz27_2
           try clear hfz30_0
           try clear hfz30_1
           try clear hfz30_2
           try clear hfz33_0
           try clear hfz33_1
           try clear hfz33_2
           try clear hfz36_0
           try clear hfz36_1
           try clear hfz36_2
           try clear hfz38_0
           try clear hfz38_1
           try clear hfz38_2
           try clear hfz41_0
           try clear hfz41_1
           try clear hfz41_2
           try clear hfz48_0
           try clear hfz48_1
           try clear hfz48_2
           try clear hfz4_0
           try clear hfz4_1
           try clear hfz4_2
           try clear hfz8_0
           try clear hfz8_1
           try clear hfz8_2
           try clear hfz9_0
           try clear hfz9_1
           try clear hfz9_2
           try clear hx288_0
           try clear hx289_0
           try clear hx289_1
           try clear hx289_2
           try clear hx291_0
           try clear p2
           try clear p28
           try clear p288
           try clear p289
           try clear p291
           try clear p6
           try clear q2
           try clear q28
           try clear q288
           try clear q289
           try clear q291
           obtain ⟨x11_4, x116_4, rfl, rfl, HA, HK4, BK287, HB⟩ := hrel
           cases gk with
           | zero => exact absurd HA.out (by simp [impl_StateOk.l3])
           | succ k4 =>
            have H := HA.out
            clear HA
            simp only [impl_StateOk.l3] at H
            by_cases c49 : x116_4 < (l0_2.length : Int)
            ·rw [if_pos c49] at H
             have c49b0 : decide (x116_4 < (l0_2.length : Int)) = true := decide_eq_true c49
             clear c49
             by_cases c50 : 0 ≤ x116_4
             ·rw [if_pos c50] at H
              have c50b0 : decide (0 ≤ x116_4) = true := decide_eq_true c50
              clear c50
              by_cases c51 : x116_4 < (l0_2.length : Int)
              ·rw [if_pos c51] at H
               have c51b0 : decide (x116_4 < (l0_2.length : Int)) = true := decide_eq_true c51
               clear c51
               by_cases c52 : (rd l0_2 x116_4) ≤ x11_4
               ·rw [if_pos c52] at H
                have c52b0 : decide ((rd l0_2 x116_4) ≤ x11_4) = true := decide_eq_true c52
                clear c52
                obtain rfl := Option.some.inj H
                have p292 : 0 ≤ (x116_4 : Int) := of_decide_eq_true (by assumption)
                have q292 : x116_4 < (l0_2.length : Int) := of_decide_eq_true (by assumption)
                obtain ⟨ad292, e292, hx292_0⟩ := Kd.at_int HR0_2.out x116_4 p292 q292
                cases e292
                replace hx292_0 := (HB.out.cell (World.block_lt_of_cell? w _ hx292_0)).trans hx292_0
                replace p292 := eq_true p292
                replace q292 := eq_true q292
                go_wp2
                go_ret
                exact ⟨by first | rfl | (simp [errW_none, errW_some] <;> rfl) | (simp [*, errW_none, errW_some] <;> rfl), by exact HB.out⟩
               ·rw [if_neg c52] at H
                have c52b0 : decide ((rd l0_2 x116_4) ≤ x11_4) = false := decide_eq_false c52
                clear c52
                by_cases c53 : (rd l0_2 x116_4) > 1000
                ·rw [if_pos c53] at H
                 have c53b0 : decide (1000 < (rd l0_2 x116_4)) = true := decide_eq_true c53
                 clear c53
                 obtain rfl := Option.some.inj H
                 have p292 : 0 ≤ (x116_4 : Int) := of_decide_eq_true (by assumption)
                 have q292 : x116_4 < (l0_2.length : Int) := of_decide_eq_true (by assumption)
                 obtain ⟨ad292, e292, hx292_0⟩ := Kd.at_int HR0_2.out x116_4 p292 q292
                 cases e292
                 replace hx292_0 := (HB.out.cell (World.block_lt_of_cell? w _ hx292_0)).trans hx292_0
                 replace p292 := eq_true p292
                 replace q292 := eq_true q292
                 go_wp2
                 go_ret
                 exact ⟨by first | rfl | (simp [errW_none, errW_some] <;> rfl) | (simp [*, errW_none, errW_some] <;> rfl), by exact HB.out⟩
                ·rw [if_neg c53] at H
                 have c53b0 : decide (1000 < (rd l0_2 x116_4)) = false := decide_eq_false c53
                 clear c53
                 have H' := Aside0.mk H
                 clear H
                 have p292 : 0 ≤ (x116_4 : Int) := of_decide_eq_true (by assumption)
                 have q292 : x116_4 < (l0_2.length : Int) := of_decide_eq_true (by assumption)
                 obtain ⟨ad292, e292, hx292_0⟩ := Kd.at_int HR0_2.out x116_4 p292 q292
                 cases e292
                 replace hx292_0 := (HB.out.cell (World.block_lt_of_cell? w _ hx292_0)).trans hx292_0
                 replace p292 := eq_true p292
                 replace q292 := eq_true q292
                 go_wp2
                 go_roundg k4
                 case measure => have := HJ1.out; have := HK2.out; have := HK3.out; have := HK4.out; omega
                 case rel => exact ⟨(rd l0_2 x116_4), (wrap64 (x116_4 + 1)), (by first | rfl | (simp; done) | (simp [*]; done)), (by first | rfl | (simp; done) | (simp [*]; done)), H', ⟨by have := HJ1.out; have := HK2.out; have := HK3.out; have := HK4.out; omega⟩, ⟨by exact BK287.out⟩, ⟨by exact HB.out⟩⟩
              ·rw [if_neg c51] at H
               exact absurd H (by simp)
             ·rw [if_neg c50] at H
              exact absurd H (by simp)
            ·rw [if_neg c49] at H
             have c49b0 : decide (x116_4 < (l0_2.length : Int)) = false := decide_eq_false c49
             clear c49
             by_cases c54 : 0 ≤ (l0_0.length : Int)
             ·rw [if_pos c54] at H
              have c54b0 := eq_true c54
              have c54b1 : decide (0 ≤ (l0_0.length : Int)) = true := decide_eq_true c54
              clear c54
              by_cases c55 : ((l0_0.length : Int) : Int).toNat ≤ 35184372088832
              ·rw [if_pos c55] at H
               have c55b0 := eq_true c55
               have c55b1 : decide (((l0_0.length : Int) : Int).toNat ≤ 35184372088832) = true := decide_eq_true c55
               clear c55
               obtain ⟨y293, hy293⟩ : ∃ y_ : List Int, y_ = (List.replicate ((l0_0.length : Int) : Int).toNat 0) := ⟨_, rfl⟩
               replace H : (impl_StateOk.l4 k4 y293 l0_1 (l0_1.length : Int) 0 l0_0 l0_1 l0_2) = some r := by first | (rw [hy293]; with_reducible exact H) | (have H2_ := (Option.bind_some _ _).symm.trans H; rw [hy293]; with_reducible exact H2_) | (have H2_ := (Option.bind_some _ _).symm.trans H; with_reducible exact H2_) | with_reducible exact H | (rw [hy293]; exact H) | exact H
               have Ny293 := Aside0.mk hy293
               clear hy293
               have H' := Aside0.mk H
               clear H
               go_wp2_with (first | ((with_reducible refine gate_dst (N := 130) rfl ?_); (try (refine gate_guard (by rfl) ?_; dsimp only)); refine Kd.R_make (Kd.int .i64) _ 3 rfl (N := 130) rfl 22 _ _ rfl (l0_0.length : Int) rfl rfl Tryd.underlying22 (.int .i64 0) 8 info3 rfl (by decide) (by omega) 0 (ok := fun _ => True) (okp := fun _ => True) rfl (fun _ hk => hk) trivial (of_decide_eq_true (by assumption)) (Nat.le_trans (Nat.mul_le_mul_right _ (of_decide_eq_true (by assumption) : (l0_0.length : Int).toNat ≤ 35184372088832)) (by omega)) (Below.refl _ _) (Nat.le_refl _) ?_; intro v294 w56 ho57 hb hg_ hnew_; clear hg_ hnew_; (first | rw [← Ny293.out] at ho57 | (simp only [Int.reduceToNat] at ho57; rw [← Ny293.out] at ho57)); have n0_ := Aside0.mk (Kd.R_lower ho57 (below_size (by exact HB.out))); have n1_ := Aside0.mk (blk_below (g := gb287) (o := .cells #[.slice A0_0 l0_0.length c0_0, .slice A0_1 l0_1.length c0_1, .slice A0_2 l0_2.length c0_2] 30 (0, 0)) (by exact BK287.out) hb); have n2_ := Aside0.mk (below_step (by exact HB.out) hb); clear BK287; clear HB; have HO295 := n0_; have BK287 := n1_; have HB := n2_; clear n0_ n1_ n2_; clear hb ho57; have hcz58_0 : w56.cell? ⟨gb287, 0, none⟩ = some (.slice A0_0 l0_0.length c0_0) := (blk_cell BK287.out 0).trans rfl; have hcz58_1 : w56.cell? ⟨gb287, 1, none⟩ = some (.slice A0_1 l0_1.length c0_1) := (blk_cell BK287.out 1).trans rfl; have hcz58_2 : w56.cell? ⟨gb287, 2, none⟩ = some (.slice A0_2 l0_2.length c0_2) := (blk_cell BK287.out 2).trans rfl; have hfz58_0 := blk_frozen BK287.out 0; have hfz58_1 := blk_frozen BK287.out 1; have hfz58_2 := blk_frozen BK287.out 2))
               go_loopg [134] k4 (fun kq v134 w' => ∃ (x14_5 : List Int) (x134_5 : Int), v134 = .int .i64 x134_5 ∧ Aside0 (impl_StateOk.l4 kq x14_5 l0_1 (l0_1.length : Int) x134_5 l0_0 l0_1 l0_2 = some r) ∧ Aside0 (kq ≤ k4) ∧ Aside0 (Kd.R (Kd.int .i64) 3 w' w.heap.size (fun _ => True) v294 x14_5) ∧ Aside0 (w'.heap[gb287]? = some (.cells #[(.slice A0_0 l0_0.length c0_0), (.slice A0_1 l0_1.length c0_1), (.slice A0_2 l0_2.length c0_2)] 30 (0, 0))) ∧ Aside0 (Below w.heap.size w w'))
               case atStart => exact ⟨(y293), (0), (by first | rfl | (simp; done) | (simp [*]; done)), H', ⟨Nat.le_refl _⟩, ⟨by exact HO295.out⟩, ⟨by exact BK287.out⟩, ⟨by exact HB.out⟩⟩
               case round =>
                clear H'
                try clear c1
                try clear c2
                try clear p2
                try clear q2
                try clear hx2
                try clear c3
                try clear c4
                try clear c5
                try clear c5b0
                try clear c5b1
                try clear c6
                try clear c6b0
                try clear c6b1
                try clear p6
                try clear c7
                try clear c7b0
                try clear c7b1
                try clear c10
                try clear c11
                try clear c12
                try clear c12b0
                try clear c13
                try clear c13b0
                try clear c14
                try clear c14b0
                try clear c15
                try clear c15b0
                try clear c16
                try clear c16b0
                try clear c18
                try clear c18b0
                try clear c19
                try clear c19b0
                try clear c20
                try clear c20b0
                try clear c23
                try clear c25
                try clear c25b0
                try clear c26
                try clear c28
                try clear c28b0
                try clear p28
                try clear q28
                try clear hx28
                try clear c29
                try clear p29
                try clear q29
                try clear hx29
                try clear c31
                try clear c31b0
                try clear c31b1
                try clear c32
                try clear c34
                try clear c34b0
                try clear c35
                try clear c37
                try clear c39
                try clear c40
                try clear c42
                try clear c42b0
                try clear c43
                try clear c43b0
                try clear c44
                try clear c44b0
                try clear c45
                try clear c45b0
                try clear c46
                try clear c46b0
                try clear c47
                try clear c47b0
                try clear c47b1
                try clear c49
                try clear c49b0
                try clear c50
                try clear c50b0
                try clear c51
                try clear c51b0
                try clear c52
                try clear c52b0
                try clear c53
                try clear c53b0
                try clear c54
                try clear c54b0
                try clear c54b1
                try clear c55
                try clear c55b0
                try clear c55b1
                try clear hcz11_0
                try clear hcz11_1
                try clear hcz11_2
                try clear hcz17_0
                try clear hcz17_1
                try clear hcz17_2
                try clear hcz24_0
                try clear hcz24_1
                try clear hcz24_2
                try clear hcz27_0
                try clear hcz27_1
                try clear hcz27_2
                try clear hcz30_0
                try clear hcz30_1
                try clear hcz30_2
                try clear hcz33_0
                try clear hcz33_1
                try clear hcz33_2
                try clear hcz36_0
                try clear hcz36_1
                try clear hcz36_2
                try clear hcz38_0
                try clear hcz38_1
                try clear hcz38_2
                try clear hcz41_0
                try clear hcz41_1
                try clear hcz41_2
                try clear hcz48_0
                try clear hcz48_1
                try clear hcz48_2
                try clear hcz4_0
                try clear hcz4_1
                try clear hcz4_2
                try clear hcz58_0
                try clear hcz58_1
                try clear hcz58_2
                try clear hcz8_0
                try clear hcz8_1
                try clear hcz8_2
                try clear hcz9_0
                try clear hcz9_1
                try clear hcz9_2
                try clear hfz11_0
                try clear hfz11_1
                try clear hfz11_2
                try clear hfz17_0
                try clear hfz17_1
                try clear hfz17_2
                try clear hfz24_0
                try clear hfz24_1
                try clear hfz24_2
                try clear hfz27_0
                try clear hfz27_1
                try clear hfz27_2
                try clear hfz30_0
                try clear hfz30_1
                try clear hfz30_2
                try clear hfz33_0
                try clear hfz33_1
                try clear hfz33_2
                try clear hfz36_0
                try clear hfz36_1
                try clear hfz36_2
                try clear hfz38_0
                try clear hfz38_1
                try clear hfz38_2
                try clear hfz41_0
                try clear hfz41_1
                try clear hfz41_2
                try clear hfz48_0
                try clear hfz48_1
                try clear hfz48_2
                try clear hfz4_0
                try clear hfz4_1
                try clear hfz4_2
                try clear hfz58_0
                try clear hfz58_1
                try clear hfz58_2
                try clear hfz8_0
                try clear hfz8_1
                try clear hfz8_2
                try clear hfz9_0
                try clear hfz9_1
                try clear hfz9_2
                try clear hx288_0
                try clear hx289_0
                try clear hx289_1
                try clear hx289_2
                try clear hx291_0
                try clear hx292_0
                try clear p2
                try clear p28
                try clear p288
                try clear p289
                try clear p29
                try clear p291
                try clear p292
                try clear p6
                try clear q2
                try clear q28
                try clear q288
                try clear q289
                try clear q29
                try clear q291
                try clear q292
                obtain ⟨x14_5, x134_5, rfl, HA, HK5, HO_14, BK287, HB⟩ := hrel
                cases gk with
                | zero => exact absurd HA.out (by simp [impl_StateOk.l4])
                | succ k5 =>
                 have H := HA.out
                 clear HA
                 simp only [impl_StateOk.l4] at H
                 by_cases c59 : x134_5 < (l0_1.length : Int)
                 ·rw [if_pos c59] at H
                  have c59b0 : decide (x134_5 < (l0_1.length : Int)) = true := decide_eq_true c59
                  clear c59
                  by_cases c60 : 0 ≤ x134_5
                  ·rw [if_pos c60] at H
                   have c60b0 : decide (0 ≤ x134_5) = true := decide_eq_true c60
                   clear c60
                   by_cases c61 : x134_5 < (l0_1.length : Int)
                   ·rw [if_pos c61] at H
                    have c61b0 : decide (x134_5 < (l0_1.length : Int)) = true := decide_eq_true c61
                    clear c61
                    by_cases c62 : 0 ≤ ((rd_T48 l0_1 x134_5).f0)
                    ·rw [if_pos c62] at H
                     have c62b0 : decide (0 ≤ ((rd_T48 l0_1 x134_5).f0)) = true := decide_eq_true c62
                     clear c62
                     by_cases c63 : ((rd_T48 l0_1 x134_5).f0) < (x14_5.length : Int)
                     ·rw [if_pos c63] at H
                      have c63b0 : decide (((rd_T48 l0_1 x134_5).f0) < (x14_5.length : Int)) = true := decide_eq_true c63
                      clear c63
                      obtain ⟨y299, hy299⟩ : ∃ y_ : List Int, y_ = (x14_5.set (((rd_T48 l0_1 x134_5).f0) : Int).toNat (wrap64 ((rd x14_5 ((rd_T48 l0_1 x134_5).f0)) + 1))) := ⟨_, rfl⟩
                      replace H : (impl_StateOk.l4 k5 y299 l0_1 (l0_1.length : Int) (wrap64 (x134_5 + 1)) l0_0 l0_1 l0_2) = some r := by first | (rw [hy299]; with_reducible exact H) | (have H2_ := (Option.bind_some _ _).symm.trans H; rw [hy299]; with_reducible exact H2_) | (have H2_ := (Option.bind_some _ _).symm.trans H; with_reducible exact H2_) | with_reducible exact H | (rw [hy299]; exact H) | exact H
                      have Ny299 := Aside0.mk hy299
                      clear hy299
                      have H' := Aside0.mk H
                      clear H
                      have p296 : 0 ≤ (x134_5 : Int) := of_decide_eq_true (by assumption)
                      have q296 : x134_5 < (l0_1.length : Int) := of_decide_eq_true (by assumption)
                      obtain ⟨ad296, A296_1, c296_1, e296, hx296_0, hx296_1, hx296_2, hl296_1, hi296_1⟩ := at_T48 HR0_1.out x134_5 p296 q296
                      cases e296
                      replace hx296_0 := (HB.out.cell (World.block_lt_of_cell? w _ hx296_0)).trans hx296_0
                      replace hx296_1 := (HB.out.cell (World.block_lt_of_cell? w _ hx296_1)).trans hx296_1
                      replace hx296_2 := (HB.out.cell (World.block_lt_of_cell? w _ hx296_2)).trans hx296_2
                      have HR296_1 := Aside0.mk hi296_1
                      have HC296_1 := Aside0.mk hl296_1
                      clear hi296_1 hl296_1
                      replace p296 := eq_true p296
                      replace q296 := eq_true q296
                      go_wp2_with (first | ((with_reducible refine gate_dst (N := 16) rfl ?_); (try (refine gate_guard (by rfl) ?_; dsimp only)); refine box_event ?hg (N := 16) ?hd (cs := #[.int .i64 0, .slice none 0 0, .int .i64 0]) (t := 48) ?hr ?_; (case hd => rfl); (case hg => rfl); (case hr => first | (go_simp; done) | (go_simp; rfl)); intro gb297 hg w65 hbox hb; have n0_ := Aside0.mk (Kd.R_below (by exact HO_14.out) hb); have n1_ := Aside0.mk (blk_below (g := gb287) (o := .cells #[.slice A0_0 l0_0.length c0_0, .slice (some ad296) l0_1.length c0_1, .slice A0_2 l0_2.length c0_2] 30 (0, 0)) (by exact BK287.out) hb); have n2_ := Aside0.mk (below_step (by exact HB.out) hb); have n3_ := Aside0.mk (hbox); have n4_ := Aside0.mk ((by rw [hg]; exact (below_size (by exact HB.out)) : w.heap.size ≤ gb297)); have n5_ := Aside0.mk ((by rw [hg]; exact (below_size (by exact HB.out)) : w.heap.size ≤ gb297)); have n6_ := Aside0.mk ((by rw [hg]; exact Nat.ne_of_lt (blk_lt (g := gb287) (o := .cells #[.slice A0_0 l0_0.length c0_0, .slice (some ad296) l0_1.length c0_1, .slice A0_2 l0_2.length c0_2] 30 (0, 0)) (by exact BK287.out)) : gb287 ≠ gb297)); have n7_ := Aside0.mk ((by rw [hg]; exact Nat.ne_of_gt (blk_lt (g := gb287) (o := .cells #[.slice A0_0 l0_0.length c0_0, .slice (some ad296) l0_1.length c0_1, .slice A0_2 l0_2.length c0_2] 30 (0, 0)) (by exact BK287.out)) : gb297 ≠ gb287)); clear HO_14; clear BK287; clear HB; have HO_14 := n0_; have BK287 := n1_; have HB := n2_; have BK297 := n3_; have GW297 := n4_; have GE297 := n5_; have NB287_297 := n6_; have NB297_287 := n7_; clear n0_ n1_ n2_ n3_ n4_ n5_ n6_ n7_; clear hb hbox hg; have hnb66 := NB297_287.out; have hnc66 := NB287_297.out; have hcz67_0 : w65.cell? ⟨gb297, 0, none⟩ = some (.int .i64 0) := (blk_cell BK297.out 0).trans rfl; have hcz67_1 : w65.cell? ⟨gb297, 1, none⟩ = some (.slice none 0 0) := (blk_cell BK297.out 1).trans rfl; have hcz67_2 : w65.cell? ⟨gb297, 2, none⟩ = some (.int .i64 0) := (blk_cell BK297.out 2).trans rfl; have hfz67_0 := blk_frozen BK297.out 0; have hfz67_1 := blk_frozen BK297.out 1; have hfz67_2 := blk_frozen BK297.out 2) | ((with_reducible refine gate_store (t := 48) (p := 16) rfl ?_); refine store_event (t := 48) (p := 16) (v := ?vo_w68) (w1 := (((w65.setCell ⟨gb297, 0, none⟩ (.int .i64 ((rd_T48 l0_1 x134_5).f0))).setCell ⟨gb297, 1, none⟩ (.slice A296_1 ((rd_T48 l0_1 x134_5).f1).length c296_1)).setCell ⟨gb297, 2, none⟩ (.int .i64 ((rd_T48 l0_1 x134_5).f2)))) ?hg ?ho ?hn ?hr ?_; (case ho => rfl); (case hg => rfl); (case hn => rfl); (case hr => first | (go_simp; done) | (go_simp; rfl)); intro w68 hw; have n0_ : Aside0 (Kd.R (Kd.int .i64) 3 w68 w.heap.size (fun _ => True) v294 x14_5) := ⟨(by rw [hw]; exact (by exact Kd.R_mono (Kd.R_far (p := ⟨gb297, 2, none⟩) (Kd.R_far (p := ⟨gb297, 1, none⟩) (Kd.R_far (p := ⟨gb297, 0, none⟩) (Kd.R_types HO_14.out BK297.out (by decide)) (fun _ hk => hk.2) (.int .i64 ((rd_T48 l0_1 x134_5).f0))) (fun _ hk => hk.2) (.slice A296_1 ((rd_T48 l0_1 x134_5).f1).length c296_1)) (fun _ hk => hk.2) (.int .i64 ((rd_T48 l0_1 x134_5).f2))) (fun _ hk => trivial)))⟩; have n1_ : Aside0 (w68.heap[gb287]? = some (.cells #[.slice A0_0 l0_0.length c0_0, .slice (some ad296) l0_1.length c0_1, .slice A0_2 l0_2.length c0_2] 30 (0, 0))) := ⟨(by rw [hw]; exact (by refine blk_far ?_ NB287_297.out _; refine blk_far ?_ NB287_297.out _; refine blk_far ?_ NB287_297.out _; exact BK287.out))⟩; have n2_ : Aside0 (w68.heap[gb297]? = some (.cells #[.int .i64 ((rd_T48 l0_1 x134_5).f0), .slice A296_1 ((rd_T48 l0_1 x134_5).f1).length c296_1, .int .i64 ((rd_T48 l0_1 x134_5).f2)] 48 (0, 0))) := ⟨(by rw [hw]; exact (by refine blk_put (cs := #[.int .i64 ((rd_T48 l0_1 x134_5).f0), .slice A296_1 ((rd_T48 l0_1 x134_5).f1).length c296_1, .int .i64 0]) ?_ 2 _ rfl; refine blk_put (cs := #[.int .i64 ((rd_T48 l0_1 x134_5).f0), .slice none 0 0, .int .i64 0]) ?_ 1 _ rfl; refine blk_put (cs := #[.int .i64 0, .slice none 0 0, .int .i64 0]) ?_ 0 _ rfl; exact BK297.out))⟩; have n3_ : Aside0 (Below w.heap.size w w68) := ⟨(by rw [hw]; exact (by repeat (first | (with_reducible first | exact HB.out | apply below_alloc | apply pw_below_drewN | apply below_drew1 | refine below_set ?_ GE287.out | refine below_set ?_ GE297.out) | exact HB.out)))⟩; clear hw; clear HO_14; clear BK287; clear BK297; clear HB; have HO_14 := n0_; have BK287 := n1_; have BK297 := n2_; have HB := n3_; clear n0_ n1_ n2_ n3_; have hcz69_0 : w68.cell? ⟨gb297, 0, none⟩ = some (.int .i64 ((rd_T48 l0_1 x134_5).f0)) := (blk_cell BK297.out 0).trans rfl; have hcz69_1 : w68.cell? ⟨gb297, 1, none⟩ = some (.slice A296_1 ((rd_T48 l0_1 x134_5).f1).length c296_1) := (blk_cell BK297.out 1).trans rfl; have hcz69_2 : w68.cell? ⟨gb297, 2, none⟩ = some (.int .i64 ((rd_T48 l0_1 x134_5).f2)) := (blk_cell BK297.out 2).trans rfl; have hfz69_0 := blk_frozen BK297.out 0; have hfz69_1 := blk_frozen BK297.out 1; have hfz69_2 := blk_frozen BK297.out 2; obtain ⟨Ao70, co70, eo70⟩ := Kd.R_slice HO_14.out; subst eo70; have p298 : 0 ≤ (((rd_T48 l0_1 x134_5).f0) : Int) := of_decide_eq_true (by assumption); have q298 : ((rd_T48 l0_1 x134_5).f0) < (x14_5.length : Int) := of_decide_eq_true (by assumption); obtain ⟨ad298, e298, hx298_0⟩ := Kd.at_int (Kd.R_reads' HO_14.out).2.2 ((rd_T48 l0_1 x134_5).f0) p298 q298; cases e298; replace p298 := eq_true p298; replace q298 := eq_true q298; have p64 : 0 ≤ (((rd_T48 l0_1 x134_5).f0) : Int) := of_decide_eq_true (by assumption); have q64 : (((rd_T48 l0_1 x134_5).f0) : Int) < ((x14_5.length : Int) : Int) := of_decide_eq_true (by assumption); obtain ⟨go64, co64, eo64, gb64, gl64, cl64, HG64⟩ := Kd.R_form HO_14.out (by omega); (first | cases eo64 | (injection eo64 with ea_ en_ ec_; (first | subst ea_ | (injection ea_ with ea_; subst ea_)); subst ec_; clear en_)); have GB64 := Aside0.mk gb64; have GG64 := Aside0.mk HG64; clear gb64 gl64 HG64; (first | simp only [add_plain] at hx298_0 | skip); obtain ⟨hx64_0, hf64_0⟩ := Kd.R_celln 0 HO_14.out (((rd_T48 l0_1 x134_5).f0) : Int) p64 q64; replace p64 := eq_true p64; replace q64 := eq_true q64; obtain ⟨hy71_, hz71_⟩ := Kd.R_celln 0 HO_14.out (((rd_T48 l0_1 x134_5).f0) : Int) (of_decide_eq_true (by assumption)) (of_decide_eq_true (by assumption)); have HP71 := Kd.R_putg HO_14.out (((rd_T48 l0_1 x134_5).f0) : Int) (wrap64 ((rd x14_5 ((rd_T48 l0_1 x134_5).f0)) + 1))) | ((with_reducible refine gate_store (t := 3) (p := 144) rfl ?_); refine store_event (t := 3) (p := 144) (v := ?vo_w72) (w1 := (w68.setCell ⟨go64, (((rd_T48 l0_1 x134_5).f0) : Int).toNat, none⟩ (.int .i64 (wrap64 ((rd x14_5 ((rd_T48 l0_1 x134_5).f0)) + 1))))) ?hg ?ho ?hn ?hr ?_; (case ho => rfl); (case hg => rfl); (case hn => rfl); (case hr => first | (go_simp; done) | (go_simp; rfl)); intro w72 hw; have hg : w68.grownBy w72 (some go64) := (by rw [hw]; exact HP71.2); have hp_ : Kd.R (Kd.int .i64) 3 w72 w.heap.size (fun _ => True) (.slice (some ⟨go64, 0, none⟩) x14_5.length co70) y299 := (by rw [hw, Ny299.out]; exact HP71.1); clear HP71; have n0_ := Aside0.mk (hp_); have n1_ := Aside0.mk (blk_grown (g := gb287) (o := .cells #[.slice A0_0 l0_0.length c0_0, .slice (some ad296) l0_1.length c0_1, .slice A0_2 l0_2.length c0_2] 30 (0, 0)) (by exact BK287.out) hg (Kd.R_ne HO_14.out BK287.out (by decide))); have n2_ := Aside0.mk (blk_grown (g := gb297) (o := .cells #[.int .i64 ((rd_T48 l0_1 x134_5).f0), .slice A296_1 ((rd_T48 l0_1 x134_5).f1).length c296_1, .int .i64 ((rd_T48 l0_1 x134_5).f2)] 48 (0, 0)) (by exact BK297.out) hg (Kd.R_ne HO_14.out BK297.out (by decide))); have n3_ := Aside0.mk ((by rw [hw]; exact below_set (HB.out) GB64.out : Below w.heap.size w w72)); clear HO_14; clear BK287; clear BK297; clear HB; have HO_14 := n0_; have BK287 := n1_; have BK297 := n2_; have HB := n3_; clear n0_ n1_ n2_ n3_; clear hg hw hp_))
                      go_roundg k5
                      case measure => have := HJ1.out; have := HK2.out; have := HK3.out; have := HK4.out; have := HK5.out; omega
                      case rel => exact ⟨(y299), (wrap64 (x134_5 + 1)), (by first | rfl | (simp; done) | (simp [*]; done)), H', ⟨by have := HJ1.out; have := HK2.out; have := HK3.out; have := HK4.out; have := HK5.out; omega⟩, ⟨by exact HO_14.out⟩, ⟨by exact BK287.out⟩, ⟨by exact HB.out⟩⟩
                     ·rw [if_neg c63] at H
                      exact absurd H (by simp)
                    ·rw [if_neg c62] at H
                     exact absurd H (by simp)
                   ·rw [if_neg c61] at H
                    exact absurd H (by simp)
                  ·rw [if_neg c60] at H
                   exact absurd H (by simp)
                 ·rw [if_neg c59] at H
                  have c59b0 : decide (x134_5 < (l0_1.length : Int)) = false := decide_eq_false c59
                  clear c59
                  have H' := Aside0.mk H
                  clear H
                  obtain ⟨Ao73, co73, eo73⟩ := Kd.R_slice HO_14.out
                  subst eo73
                  go_wp2
                  go_loopg [148] k5 (fun kq v148 w' => ∃ (x148_6 : Int), v148 = .int .i64 x148_6 ∧ Aside0 (impl_StateOk.l5 kq x14_5 (x14_5.length : Int) x148_6 l0_0 l0_1 l0_2 = some r) ∧ Aside0 (kq ≤ k5) ∧ Aside0 (Kd.R (Kd.int .i64) 3 w' w.heap.size (fun _ => True) (.slice Ao73 x14_5.length co73) x14_5) ∧ Aside0 (w'.heap[gb287]? = some (.cells #[(.slice A0_0 l0_0.length c0_0), (.slice A0_1 l0_1.length c0_1), (.slice A0_2 l0_2.length c0_2)] 30 (0, 0))) ∧ Aside0 (Below w.heap.size w w'))
                  case atStart => exact ⟨(0), (by first | rfl | (simp; done) | (simp [*]; done)), H', ⟨Nat.le_refl _⟩, ⟨by exact HO_14.out⟩, ⟨by exact BK287.out⟩, ⟨by exact HB.out⟩⟩
                  case round =>
                   clear H'
                   try clear c1
                   try clear c2
                   try clear p2
                   try clear q2
                   try clear hx2
                   try clear c3
                   try clear c4
                   try clear c5
                   try clear c5b0
                   try clear c5b1
                   try clear c6
                   try clear c6b0
                   try clear c6b1
                   try clear p6
                   try clear q6
                   try clear hx6
                   try clear hf6
                   try clear c7
                   try clear c7b0
                   try clear c7b1
                   try clear c10
                   try clear c11
                   try clear c12
                   try clear c12b0
                   try clear c13
                   try clear c13b0
                   try clear c14
                   try clear c14b0
                   try clear c15
                   try clear c15b0
                   try clear c16
                   try clear c16b0
                   try clear c18
                   try clear c18b0
                   try clear c19
                   try clear c19b0
                   try clear c20
                   try clear c20b0
                   try clear c23
                   try clear c25
                   try clear c25b0
                   try clear c26
                   try clear c28
                   try clear c28b0
                   try clear p28
                   try clear q28
                   try clear hx28
                   try clear c29
                   try clear p29
                   try clear q29
                   try clear hx29
                   try clear c31
                   try clear c31b0
                   try clear c31b1
                   try clear c32
                   try clear c34
                   try clear c34b0
                   try clear c35
                   try clear c37
                   try clear c39
                   try clear c40
                   try clear c42
                   try clear c42b0
                   try clear c43
                   try clear c43b0
                   try clear c44
                   try clear c44b0
                   try clear c45
                   try clear c45b0
                   try clear c46
                   try clear c46b0
                   try clear c47
                   try clear c47b0
                   try clear c47b1
                   try clear c49
                   try clear c49b0
                   try clear c50
                   try clear c50b0
                   try clear c51
                   try clear c51b0
                   try clear c52
                   try clear c52b0
                   try clear c53
                   try clear c53b0
                   try clear c54
                   try clear c54b0
                   try clear c54b1
                   try clear c55
                   try clear c55b0
                   try clear c55b1
                   try clear c59
                   try clear c59b0
                   try clear c60
                   try clear c60b0
                   try clear c61
                   try clear c61b0
                   try clear c62
                   try clear c62b0
                   try clear c63
                   try clear c63b0
                   try clear p64
                   try clear q64
                   try clear hx64
                   try clear hf64
                   try clear c66
                   try clear hcz11_0
                   try clear hcz11_1
                   try clear hcz11_2
                   try clear hcz17_0
                   try clear hcz17_1
                   try clear hcz17_2
                   try clear hcz24_0
                   try clear hcz24_1
                   try clear hcz24_2
                   try clear hcz27_0
                   try clear hcz27_1
                   try clear hcz27_2
                   try clear hcz30_0
                   try clear hcz30_1
                   try clear hcz30_2
                   try clear hcz33_0
                   try clear hcz33_1
                   try clear hcz33_2
                   try clear hcz36_0
                   try clear hcz36_1
                   try clear hcz36_2
                   try clear hcz38_0
                   try clear hcz38_1
                   try clear hcz38_2
                   try clear hcz41_0
                   try clear hcz41_1
                   try clear hcz41_2
                   try clear hcz48_0
                   try clear hcz48_1
                   try clear hcz48_2
                   try clear hcz4_0
                   try clear hcz4_1
                   try clear hcz4_2
                   try clear hcz58_0
                   try clear hcz58_1
                   try clear hcz58_2
                   try clear hcz67_0
                   try clear hcz67_1
                   try clear hcz67_2
                   try clear hcz69_0
                   try clear hcz69_1
                   try clear hcz69_2
                   try clear hcz8_0
                   try clear hcz8_1
                   try clear hcz8_2
                   try clear hcz9_0
                   try clear hcz9_1
                   try clear hcz9_2
                   try clear hfz11_0
                   try clear hfz11_1
                   try clear hfz11_2
                   try clear hfz17_0
                   try clear hfz17_1
                   try clear hfz17_2
                   try clear hfz24_0
                   try clear hfz24_1
                   try clear hfz24_2
                   try clear hfz27_0
                   try clear hfz27_1
                   try clear hfz27_2
                   try clear hfz30_0
                   try clear hfz30_1
                   try clear hfz30_2
                   try clear hfz33_0
                   try clear hfz33_1
                   try clear hfz33_2
                   try clear hfz36_0
                   try clear hfz36_1
                   try clear hfz36_2
                   try clear hfz38_0
                   try clear hfz38_1
                   try clear hfz38_2
                   try clear hfz41_0
                   try clear hfz41_1
                   try clear hfz41_2
                   try clear hfz48_0
                   try clear hfz48_1
                   try clear hfz48_2
                   try clear hfz4_0
                   try clear hfz4_1
                   try clear hfz4_2
                   try clear hfz58_0
                   try clear hfz58_1
                   try clear hfz58_2
                   try clear hfz67_0
                   try clear hfz67_1
                   try clear hfz67_2
                   try clear hfz69_0
                   try clear hfz69_1
                   try clear hfz69_2
                   try clear hfz8_0
                   try clear hfz8_1
                   try clear hfz8_2
                   try clear hfz9_0
                   try clear hfz9_1
                   try clear hfz9_2
                   try clear hx288_0
                   try clear hx289_0
                   try clear hx289_1
                   try clear hx289_2
                   try clear hx291_0
                   try clear hx292_0
                   try clear hx296_0
                   try clear hx296_1
                   try clear hx296_2
                   try clear hx298_0
                   try clear hx64_0
                   try clear p2
                   try clear p28
                   try clear p288
                   try clear p289
                   try clear p29
                   try clear p291
                   try clear p292
                   try clear p296
                   try clear p298
                   try clear p6
                   try clear p64
                   try clear q2
                   try clear q28
                   try clear q288
                   try clear q289
                   try clear q29
                   try clear q291
                   try clear q292
                   try clear q296
                   try clear q298
                   try clear q64
                   obtain ⟨x148_6, rfl, HA, HK6, HO_146, BK287, HB⟩ := hrel
                   cases gk with
                   | zero => exact absurd HA.out (by simp [impl_StateOk.l5])
                   | succ k6 =>
                    have H := HA.out
                    clear HA
                    simp only [impl_StateOk.l5] at H
                    by_cases c74 : x148_6 < (x14_5.length : Int)
                    ·rw [if_pos c74] at H
                     have c74b0 : decide (x148_6 < (x14_5.length : Int)) = true := decide_eq_true c74
                     clear c74
                     by_cases c75 : 0 ≤ x148_6
                     ·rw [if_pos c75] at H
                      have c75b0 : decide (0 ≤ x148_6) = true := decide_eq_true c75
                      clear c75
                      by_cases c76 : x148_6 < (x14_5.length : Int)
                      ·rw [if_pos c76] at H
                       have c76b0 : decide (x148_6 < (x14_5.length : Int)) = true := decide_eq_true c76
                       clear c76
                       by_cases c77 : x148_6 < (l0_0.length : Int)
                       ·rw [if_pos c77] at H
                        have c77b0 : decide (x148_6 < (l0_0.length : Int)) = true := decide_eq_true c77
                        clear c77
                        by_cases c78 : (rd x14_5 x148_6) > (rd l0_0 x148_6)
                        ·rw [if_pos c78] at H
                         have c78b0 : decide ((rd l0_0 x148_6) < (rd x14_5 x148_6)) = true := decide_eq_true c78
                         clear c78
                         obtain rfl := Option.some.inj H
                         have p300 : 0 ≤ (x148_6 : Int) := of_decide_eq_true (by assumption)
                         have q300 : x148_6 < (x14_5.length : Int) := of_decide_eq_true (by assumption)
                         obtain ⟨ad300, e300, hx300_0⟩ := Kd.at_int (Kd.R_reads' HO_146.out).2.2 x148_6 p300 q300
                         cases e300
                         replace p300 := eq_true p300
                         replace q300 := eq_true q300
                         have hcz79_0 : wr.cell? ⟨gb287, 0, none⟩ = some (.slice A0_0 l0_0.length c0_0) := (blk_cell BK287.out 0).trans rfl
                         have hcz79_1 : wr.cell? ⟨gb287, 1, none⟩ = some (.slice A0_1 l0_1.length c0_1) := (blk_cell BK287.out 1).trans rfl
                         have hcz79_2 : wr.cell? ⟨gb287, 2, none⟩ = some (.slice A0_2 l0_2.length c0_2) := (blk_cell BK287.out 2).trans rfl
                         have hfz79_0 := blk_frozen BK287.out 0
                         have hfz79_1 := blk_frozen BK287.out 1
                         have hfz79_2 := blk_frozen BK287.out 2
                         have p301 : 0 ≤ (x148_6 : Int) := of_decide_eq_true (by assumption)
                         have q301 : x148_6 < (l0_0.length : Int) := of_decide_eq_true (by assumption)
                         obtain ⟨ad301, e301, hx301_0⟩ := Kd.at_int HR0_0.out x148_6 p301 q301
                         cases e301
                         replace hx301_0 := (HB.out.cell (World.block_lt_of_cell? w _ hx301_0)).trans hx301_0
                         replace p301 := eq_true p301
                         replace q301 := eq_true q301
                         go_wp2
                         go_ret
                         exact ⟨by first | rfl | (simp [errW_none, errW_some] <;> rfl) | (simp [*, errW_none, errW_some] <;> rfl), by exact HB.out⟩
                        ·rw [if_neg c78] at H
                         have c78b0 : decide ((rd l0_0 x148_6) < (rd x14_5 x148_6)) = false := decide_eq_false c78
                         clear c78
                         have H' := Aside0.mk H
                         clear H
                         have p300 : 0 ≤ (x148_6 : Int) := of_decide_eq_true (by assumption)
                         have q300 : x148_6 < (x14_5.length : Int) := of_decide_eq_true (by assumption)
                         obtain ⟨ad300, e300, hx300_0⟩ := Kd.at_int (Kd.R_reads' HO_146.out).2.2 x148_6 p300 q300
                         cases e300
                         replace p300 := eq_true p300
                         replace q300 := eq_true q300
                         have hcz80_0 : wr.cell? ⟨gb287, 0, none⟩ = some (.slice A0_0 l0_0.length c0_0) := (blk_cell BK287.out 0).trans rfl
                         have hcz80_1 : wr.cell? ⟨gb287, 1, none⟩ = some (.slice A0_1 l0_1.length c0_1) := (blk_cell BK287.out 1).trans rfl
                         have hcz80_2 : wr.cell? ⟨gb287, 2, none⟩ = some (.slice A0_2 l0_2.length c0_2) := (blk_cell BK287.out 2).trans rfl
                         have hfz80_0 := blk_frozen BK287.out 0
                         have hfz80_1 := blk_frozen BK287.out 1
                         have hfz80_2 := blk_frozen BK287.out 2
                         have p301 : 0 ≤ (x148_6 : Int) := of_decide_eq_true (by assumption)
                         have q301 : x148_6 < (l0_0.length : Int) := of_decide_eq_true (by assumption)
                         obtain ⟨ad301, e301, hx301_0⟩ := Kd.at_int HR0_0.out x148_6 p301 q301
                         cases e301
                         replace hx301_0 := (HB.out.cell (World.block_lt_of_cell? w _ hx301_0)).trans hx301_0
                         replace p301 := eq_true p301
                         replace q301 := eq_true q301
                         go_wp2
                         go_roundg k6
                         case measure => have := HJ1.out; have := HK2.out; have := HK3.out; have := HK4.out; have := HK5.out; have := HK6.out; omega
                         case rel => exact ⟨(wrap64 (x148_6 + 1)), (by first | rfl | (simp; done) | (simp [*]; done)), H', ⟨by have := HJ1.out; have := HK2.out; have := HK3.out; have := HK4.out; have := HK5.out; have := HK6.out; omega⟩, ⟨by exact HO_146.out⟩, ⟨by exact BK287.out⟩, ⟨by exact HB.out⟩⟩
                       ·rw [if_neg c77] at H
                        exact absurd H (by simp)
                      ·rw [if_neg c76] at H
                       exact absurd H (by simp)
                     ·rw [if_neg c75] at H
                      exact absurd H (by simp)
                    ·rw [if_neg c74] at H
                     have c74b0 : decide (x148_6 < (x14_5.length : Int)) = false := decide_eq_false c74
                     clear c74
                     obtain rfl := Option.some.inj H
                     go_wp2
                     go_ret
                     exact ⟨by first | rfl | (simp [errW_none, errW_some] <;> rfl) | (simp [*, errW_none, errW_some] <;> rfl), by exact HB.out⟩
              ·rw [if_neg c55] at H
               exact absurd H (by simp)
             ·rw [if_neg c54] at H
              exact absurd H (by simp)


end Go.Proofs.YtkcocomehhlpmaaDoor.Q
