-- Written by programs of this session (wip/drv.py, wip/mkclaim.py) over the kit's print; not trusted: Lean checks it.
import Derived.Test.YtpbclogjoangfaaFnExactGuardQ0
import Derived.Test.YtpbclogjoangfaaFnExactGuardQ4
import Derived.Test.YtpbclogjoangfaaFnExactGuardQ5
import Derived.Test.YtpbclogjoangfaaFnExactGuardQ6
import Derived.Test.YtpbclogjoangfaaFnExactGuardQ7
namespace Go.Proofs.Ytpbclogjoangfaa.Q
open Go.RowKit Go.Proofs.YtpbclogjoangfaaW.PrintWords Go.Proofs.YtpbclogjoangfaaW.PrintLast Go.Proofs.YtpbclogjoangfaaW.PrintMore
attribute [local go_sem] max2_int min2_int max_two min_two max_three min_three max_four min_four   -- for this text's walks alone
set_option linter.unusedVariables false
set_option linter.unusedSimpArgs false

/-! ### laws_heldTrainS: function 82 -/
def laws_heldTrainS.l0 : Nat → List (S35) → Int → Int → Option (Int)
 | 0, _, _, _ => none
 | k + 1, x0, x1, x5 => if x5 < (x0.length : Int) then (if 0 ≤ x5 then (if ((rd_T35 x0 x5).f0) = x1 then ((laws_heldIntS.f k ((rd_T35 x0 x5).f1) (wrap64 (x1 + 1))).bind fun t844 => (if t844 < 0 then (some (-1)) else (if ((rd_T35 x0 x5).f2) = t844 then (laws_heldTrainS.l0 k x0 (wrap64 (t844 + 1)) (wrap64 (x5 + 1))) else (some (-1))))) else (some (-1))) else (none)) else (some x1)
def laws_heldTrainS.f (k : Nat) (l0 : List (S35)) (a1 : Int) : Option (Int) := laws_heldTrainS.l0 k l0 a1 0
theorem laws_heldTrainS.mono_l : ∀ k, (∀ y0 y1 y2, LeO (laws_heldTrainS.l0 k y0 y1 y2) (laws_heldTrainS.l0 (k + 1) y0 y1 y2))
 | 0 => fun _ _ _ r h => by simp [laws_heldTrainS.l0] at h
 | k + 1 => by
  have ih0 := laws_heldTrainS.mono_l k
  ·intro y0 y1 y2
   unfold laws_heldTrainS.l0
   repeat' with_reducible first | exact ih0 _ _ _ | exact laws_heldIntS.mono _ _ _ | exact LeO.refl _ | exact LeO.none _ | refine LeO.ite ?_ ?_ | refine LeO.bind ?_ (fun _ => ?_)
theorem laws_heldTrainS.mono : ∀ a0 a1 k, LeO (laws_heldTrainS.f k a0 a1) (laws_heldTrainS.f (k + 1) a0 a1) := by
 intro a0 a1 k
 have ih0 := laws_heldTrainS.mono_l k
 unfold laws_heldTrainS.f
 repeat' with_reducible first | exact ih0 _ _ _ | exact laws_heldIntS.mono _ _ _ | exact LeO.refl _ | exact LeO.none _ | refine LeO.ite ?_ ?_ | refine LeO.bind ?_ (fun _ => ?_)
set_option maxHeartbeats 8000000 in
set_option maxRecDepth 100000 in
theorem laws_heldTrainS.calls (k : Nat) (A0 : Option Addr) (c0 : Nat) (l0 : List (S35)) (a1 : Int) (r : Int) (w : World) (hr0 : Kd.C k35 w A0 l0.length l0) (hc0 : l0.length ≤ c0) (h : laws_heldTrainS.f k l0 a1 = some r) :
  Calls Try.prog 82 #[.slice A0 l0.length c0, .int .i64 a1] w fun e w' => e = .returned (.int .i64 r) ∧ Drawn0 w w' := by
 have HR0 := K_ hr0
 have HC0 := K_ hc0
 clear hr0 hc0
 unfold laws_heldTrainS.f at h
 have H := h
 clear h
 have H' := K_ H
 clear H
 go_enter Try.func82, Try.ntmps82
 go_wp2
 go_loopg [1, 5] k (fun kq v1 v5 w' => ∃ (x1_1 : Int) (x5_1 : Int), v1 = .int .i64 x1_1 ∧ v5 = .int .i64 x5_1 ∧ Aside0 (laws_heldTrainS.l0 kq l0 x1_1 x5_1 = some r) ∧ Aside0 (kq ≤ k) ∧ Drawn0 w w')
 case atStart => exact ⟨(a1), (0), rfl, rfl, H', ⟨Nat.le_refl _⟩, by repeat (first | exact Drawn0.refl _ | apply Drawn0.step)⟩
 case round =>
  clear H'
  skip
  obtain ⟨x1_1, x5_1, rfl, rfl, HA, HK1, ⟨m1, rfl⟩⟩ := hrel
  cases gk with
  | zero => exact absurd HA.out (by simp [laws_heldTrainS.l0])
  | succ k1 =>
   have H := HA.out
   clear HA
   simp only [laws_heldTrainS.l0] at H
   by_cases c3 : x5_1 < (l0.length : Int)
   ·rw [if_pos c3] at H
    have c3b0 := decide_eq_true c3
    clear c3
    by_cases c4 : 0 ≤ x5_1
    ·rw [if_pos c4] at H
     have c4b0 := decide_eq_true c4
     clear c4
     by_cases c5 : ((rd_T35 l0 x5_1).f0) = x1_1
     ·rw [if_pos c5] at H
      have c5b0 := beq_iff_eq.mpr c5
      have c5b1 := bne_eq_false_iff_eq.mpr c5
      clear c5
      replace H := Option.bind_eq_some_iff.mp H
      obtain ⟨t844, A60, H⟩ := H
      try dsimp only at H
      have A6 := K_ A60
      clear A60
      by_cases c7 : t844 < 0
      ·rw [if_pos c7] at H
       have c7b0 := decide_eq_true c7
       clear c7
       obtain rfl := Option.some.inj H
       have p842 : 0 ≤ (x5_1 : Int) := of_decide_eq_true (by assumption)
       have q842 : x5_1 < (l0.length : Int) := of_decide_eq_true (by assumption)
       obtain ⟨ad842, A842_1, c842_1, e842, hx842_0, hx842_1, hx842_2, hl842_1, hi842_1⟩ := at_T35 HR0.out x5_1 p842 q842
       cases e842
       have HR842_1 := K_ hi842_1
       have HC842_1 := K_ hl842_1
       clear hi842_1 hl842_1
       replace p842 := eq_true p842
       replace q842 := eq_true q842
       have p843 : 0 ≤ (x5_1 : Int) := of_decide_eq_true (by assumption)
       have q843 : x5_1 < (l0.length : Int) := of_decide_eq_true (by assumption)
       obtain ⟨ad843, A843_1, c843_1, e843, hx843_0, hx843_1, hx843_2, hl843_1, hi843_1⟩ := at_T35 HR0.out x5_1 p843 q843
       obtain rfl : ad842 = ad843 := (by injection e843)
       have HR843_1 := K_ hi843_1
       have HC843_1 := K_ hl843_1
       clear hi843_1 hl843_1
       replace p843 := eq_true p843
       replace q843 := eq_true q843
       have ea_ := Option.some.inj (hx842_1.symm.trans hx843_1)
       injection ea_ with ea_ en_ ec_
       subst ea_
       subst ec_
       clear en_
       go_wp2_with (first | ((with_reducible refine gate_callee (f := 39) rfl ?_); refine goesL_ (some 27) rfl rfl Try.func39 (by kernel_rfl) rfl #[.slice A842_1 ((rd_T35 l0 x5_1).f1).length c842_1, .int .i64 (wrap64 (x1_1 + 1))] rfl (by simp only [List.map_toArray, List.map_cons, List.map_nil]; try rfl) ?_; (with_reducible refine (laws_heldIntS.calls k1 _ _ ((rd_T35 l0 x5_1).f1) (wrap64 (x1_1 + 1)) t844 _ ?side1 ?side2 A6.out).mono ?_); (case side1 => exact HR843_1.out); (case side2 => exact HC843_1.out); rintro e w' ⟨rfl, ⟨nd, rfl⟩⟩; refine ⟨_, rfl, ?_⟩))
       go_ret
       exact ⟨by first | rfl | (simp; done) | (simp [*]; done), by repeat (first | exact Drawn0.refl _ | apply Drawn0.step)⟩
      ·rw [if_neg c7] at H
       have c7b0 := decide_eq_false c7
       clear c7
       by_cases c8 : ((rd_T35 l0 x5_1).f2) = t844
       ·rw [if_pos c8] at H
        have c8b0 := beq_iff_eq.mpr c8
        have c8b1 := bne_eq_false_iff_eq.mpr c8
        clear c8
        have H' := K_ H
        clear H
        have p842 : 0 ≤ (x5_1 : Int) := of_decide_eq_true (by assumption)
        have q842 : x5_1 < (l0.length : Int) := of_decide_eq_true (by assumption)
        obtain ⟨ad842, A842_1, c842_1, e842, hx842_0, hx842_1, hx842_2, hl842_1, hi842_1⟩ := at_T35 HR0.out x5_1 p842 q842
        cases e842
        have HR842_1 := K_ hi842_1
        have HC842_1 := K_ hl842_1
        clear hi842_1 hl842_1
        replace p842 := eq_true p842
        replace q842 := eq_true q842
        have p843 : 0 ≤ (x5_1 : Int) := of_decide_eq_true (by assumption)
        have q843 : x5_1 < (l0.length : Int) := of_decide_eq_true (by assumption)
        obtain ⟨ad843, A843_1, c843_1, e843, hx843_0, hx843_1, hx843_2, hl843_1, hi843_1⟩ := at_T35 HR0.out x5_1 p843 q843
        obtain rfl : ad842 = ad843 := (by injection e843)
        have HR843_1 := K_ hi843_1
        have HC843_1 := K_ hl843_1
        clear hi843_1 hl843_1
        replace p843 := eq_true p843
        replace q843 := eq_true q843
        have ea_ := Option.some.inj (hx842_1.symm.trans hx843_1)
        injection ea_ with ea_ en_ ec_
        subst ea_
        subst ec_
        clear en_
        go_wp2_with (first | ((with_reducible refine gate_callee (f := 39) rfl ?_); refine goesL_ (some 27) rfl rfl Try.func39 (by kernel_rfl) rfl #[.slice A842_1 ((rd_T35 l0 x5_1).f1).length c842_1, .int .i64 (wrap64 (x1_1 + 1))] rfl (by simp only [List.map_toArray, List.map_cons, List.map_nil]; try rfl) ?_; (with_reducible refine (laws_heldIntS.calls k1 _ _ ((rd_T35 l0 x5_1).f1) (wrap64 (x1_1 + 1)) t844 _ ?side1 ?side2 A6.out).mono ?_); (case side1 => exact HR843_1.out); (case side2 => exact HC843_1.out); rintro e w' ⟨rfl, ⟨nd, rfl⟩⟩; refine ⟨_, rfl, ?_⟩; have p845 : 0 ≤ (x5_1 : Int) := of_decide_eq_true (by assumption); have q845 : x5_1 < (l0.length : Int) := of_decide_eq_true (by assumption); obtain ⟨ad845, A845_1, c845_1, e845, hx845_0, hx845_1, hx845_2, hl845_1, hi845_1⟩ := at_T35 HR0.out x5_1 p845 q845; obtain rfl : ad842 = ad845 := (by injection e845); have HR845_1 := K_ hi845_1; have HC845_1 := K_ hl845_1; clear hi845_1 hl845_1; replace p845 := eq_true p845; replace q845 := eq_true q845; have ea_ := Option.some.inj (hx842_1.symm.trans hx845_1); injection ea_ with ea_ en_ ec_; subst ea_; subst ec_; clear en_))
        go_roundg k1
        case measure => have := HK1.out; omega
        case rel => exact ⟨(wrap64 (t844 + 1)), (wrap64 (x5_1 + 1)), rfl, rfl, H', ⟨by have := HK1.out; omega⟩, by repeat (first | exact Drawn0.refl _ | apply Drawn0.step)⟩
       ·rw [if_neg c8] at H
        have c8b0 := beq_eq_false_iff_ne.mpr c8
        have c8b1 := bne_iff_ne.mpr c8
        obtain rfl := Option.some.inj H
        have p842 : 0 ≤ (x5_1 : Int) := of_decide_eq_true (by assumption)
        have q842 : x5_1 < (l0.length : Int) := of_decide_eq_true (by assumption)
        obtain ⟨ad842, A842_1, c842_1, e842, hx842_0, hx842_1, hx842_2, hl842_1, hi842_1⟩ := at_T35 HR0.out x5_1 p842 q842
        cases e842
        have HR842_1 := K_ hi842_1
        have HC842_1 := K_ hl842_1
        clear hi842_1 hl842_1
        replace p842 := eq_true p842
        replace q842 := eq_true q842
        have p843 : 0 ≤ (x5_1 : Int) := of_decide_eq_true (by assumption)
        have q843 : x5_1 < (l0.length : Int) := of_decide_eq_true (by assumption)
        obtain ⟨ad843, A843_1, c843_1, e843, hx843_0, hx843_1, hx843_2, hl843_1, hi843_1⟩ := at_T35 HR0.out x5_1 p843 q843
        obtain rfl : ad842 = ad843 := (by injection e843)
        have HR843_1 := K_ hi843_1
        have HC843_1 := K_ hl843_1
        clear hi843_1 hl843_1
        replace p843 := eq_true p843
        replace q843 := eq_true q843
        have ea_ := Option.some.inj (hx842_1.symm.trans hx843_1)
        injection ea_ with ea_ en_ ec_
        subst ea_
        subst ec_
        clear en_
        go_wp2_with (first | ((with_reducible refine gate_callee (f := 39) rfl ?_); refine goesL_ (some 27) rfl rfl Try.func39 (by kernel_rfl) rfl #[.slice A842_1 ((rd_T35 l0 x5_1).f1).length c842_1, .int .i64 (wrap64 (x1_1 + 1))] rfl (by simp only [List.map_toArray, List.map_cons, List.map_nil]; try rfl) ?_; (with_reducible refine (laws_heldIntS.calls k1 _ _ ((rd_T35 l0 x5_1).f1) (wrap64 (x1_1 + 1)) t844 _ ?side1 ?side2 A6.out).mono ?_); (case side1 => exact HR843_1.out); (case side2 => exact HC843_1.out); rintro e w' ⟨rfl, ⟨nd, rfl⟩⟩; refine ⟨_, rfl, ?_⟩; have p845 : 0 ≤ (x5_1 : Int) := of_decide_eq_true (by assumption); have q845 : x5_1 < (l0.length : Int) := of_decide_eq_true (by assumption); obtain ⟨ad845, A845_1, c845_1, e845, hx845_0, hx845_1, hx845_2, hl845_1, hi845_1⟩ := at_T35 HR0.out x5_1 p845 q845; obtain rfl : ad842 = ad845 := (by injection e845); have HR845_1 := K_ hi845_1; have HC845_1 := K_ hl845_1; clear hi845_1 hl845_1; replace p845 := eq_true p845; replace q845 := eq_true q845; have ea_ := Option.some.inj (hx842_1.symm.trans hx845_1); injection ea_ with ea_ en_ ec_; subst ea_; subst ec_; clear en_))
        go_ret
        exact ⟨by first | rfl | (simp; done) | (simp [*]; done), by repeat (first | exact Drawn0.refl _ | apply Drawn0.step)⟩
     ·rw [if_neg c5] at H
      have c5b0 := beq_eq_false_iff_ne.mpr c5
      have c5b1 := bne_iff_ne.mpr c5
      obtain rfl := Option.some.inj H
      have p842 : 0 ≤ (x5_1 : Int) := of_decide_eq_true (by assumption)
      have q842 : x5_1 < (l0.length : Int) := of_decide_eq_true (by assumption)
      obtain ⟨ad842, A842_1, c842_1, e842, hx842_0, hx842_1, hx842_2, hl842_1, hi842_1⟩ := at_T35 HR0.out x5_1 p842 q842
      cases e842
      have HR842_1 := K_ hi842_1
      have HC842_1 := K_ hl842_1
      clear hi842_1 hl842_1
      replace p842 := eq_true p842
      replace q842 := eq_true q842
      go_wp2
      go_ret
      exact ⟨by first | rfl | (simp; done) | (simp [*]; done), by repeat (first | exact Drawn0.refl _ | apply Drawn0.step)⟩
    ·rw [if_neg c4] at H
     exact absurd H (by simp)
   ·rw [if_neg c3] at H
    have c3b0 := decide_eq_false c3
    clear c3
    obtain rfl := Option.some.inj H
    go_wp2
    go_ret
    exact ⟨by first | rfl | (simp; done) | (simp [*]; done), by repeat (first | exact Drawn0.refl _ | apply Drawn0.step)⟩


/-! ### impl_Cost: function 34 -/
mutual
def impl_Cost.j0 : Nat → List Int → Bool → List Int → List (S35) → List Int → Option (Int)
 | 0, _, _, _, _, _ => none
 | k + 1, x1, x18, x589000, x589001, x589002 => if x18 = true then (some (-1)) else (impl_Cost.l0 k 0 x1 (x1.length : Int) 0 x589000 x589001 x589002)
def impl_Cost.l0 : Nat → Int → List Int → Int → Int → List Int → List (S35) → List Int → Option (Int)
 | 0, _, _, _, _, _, _, _ => none
 | k + 1, x5, x19, x20, x21, x589000, x589001, x589002 => if x21 < x20 then (if 0 ≤ x21 then (if x21 < (x19.length : Int) then ((impl_find.f k x589000 x589001 x589002 (rd x19 x21)).bind fun t591 => (if t591 < 0 then (impl_Cost.j2 k x5 t591 x19 x20 x21 true x589000 x589001 x589002) else ((impl_can.f k x589000 x589001 x589002 t591).bind fun t592 => (impl_Cost.j2 k x5 t591 x19 x20 x21 (!t592) x589000 x589001 x589002)))) else (none)) else (none)) else (if (x589001.length : Int) > 0 then (some (-1)) else (some x5))
def impl_Cost.j2 : Nat → Int → Int → List Int → Int → Int → Bool → List Int → List (S35) → List Int → Option (Int)
 | 0, _, _, _, _, _, _, _, _, _ => none
 | k + 1, x5, x8, x19, x20, x21, x35, x589000, x589001, x589002 => if x35 = true then (some (-1)) else (impl_Cost.l1 k x5 x8 x19 x20 x21 x589001 (x589001.length : Int) 0 x589000 x589001 x589002)
def impl_Cost.l1 : Nat → Int → Int → List Int → Int → Int → List (S35) → Int → Int → List Int → List (S35) → List Int → Option (Int)
 | 0, _, _, _, _, _, _, _, _, _, _, _ => none
 | k + 1, x5, x8, x19, x20, x21, x37, x38, x39, x589000, x589001, x589002 => if x39 < x38 then (if 0 ≤ x39 then (if x39 < (x37.length : Int) then (impl_Cost.l1 k (wrap64 (x5 + ((rd_T35 x37 x39).f2))) x8 x19 x20 x21 x37 x38 (wrap64 (x39 + 1)) x589000 x589001 x589002) else (none)) else (none)) else ((impl_step.f k x589000 x589001 x589002 x8).bind fun bt595 => (impl_Cost.l0 k x5 x19 x20 (wrap64 (x21 + 1)) bt595.1 bt595.2.1 bt595.2.2))
end
def impl_Cost.f (k : Nat) (l0_0 : List Int) (l0_1 : List (S35)) (l0_2 : List Int) (l1 : List Int) : Option (Int) := (impl_StateOk.f k l0_0 l0_1 l0_2).bind fun t589 => (if t589 = 0 then (impl_Cost.j0 k l1 (decide ((l1.length : Int) > 45)) l0_0 l0_1 l0_2) else (impl_Cost.j0 k l1 true l0_0 l0_1 l0_2))
theorem impl_Cost.mono_l : ∀ k, (∀ y0 y1 y2 y3 y4, LeO (impl_Cost.j0 k y0 y1 y2 y3 y4) (impl_Cost.j0 (k + 1) y0 y1 y2 y3 y4)) ∧ (∀ y0 y1 y2 y3 y4 y5 y6, LeO (impl_Cost.l0 k y0 y1 y2 y3 y4 y5 y6) (impl_Cost.l0 (k + 1) y0 y1 y2 y3 y4 y5 y6)) ∧ (∀ y0 y1 y2 y3 y4 y5 y6 y7 y8, LeO (impl_Cost.j2 k y0 y1 y2 y3 y4 y5 y6 y7 y8) (impl_Cost.j2 (k + 1) y0 y1 y2 y3 y4 y5 y6 y7 y8)) ∧ (∀ y0 y1 y2 y3 y4 y5 y6 y7 y8 y9 y10, LeO (impl_Cost.l1 k y0 y1 y2 y3 y4 y5 y6 y7 y8 y9 y10) (impl_Cost.l1 (k + 1) y0 y1 y2 y3 y4 y5 y6 y7 y8 y9 y10))
 | 0 => ⟨fun _ _ _ _ _ r h => by simp [impl_Cost.j0] at h, fun _ _ _ _ _ _ _ r h => by simp [impl_Cost.l0] at h, fun _ _ _ _ _ _ _ _ _ r h => by simp [impl_Cost.j2] at h, fun _ _ _ _ _ _ _ _ _ _ _ r h => by simp [impl_Cost.l1] at h⟩
 | k + 1 => by
  obtain ⟨ih0, ih1, ih2, ih3⟩ := impl_Cost.mono_l k
  refine ⟨?_, ?_, ?_, ?_⟩
  ·intro y0 y1 y2 y3 y4
   unfold impl_Cost.j0
   repeat' with_reducible first | exact ih0 _ _ _ _ _ | exact ih1 _ _ _ _ _ _ _ | exact ih2 _ _ _ _ _ _ _ _ _ | exact ih3 _ _ _ _ _ _ _ _ _ _ _ | exact impl_StateOk.mono _ _ _ _ | exact impl_can.mono _ _ _ _ _ | exact impl_find.mono _ _ _ _ _ | exact impl_step.mono _ _ _ _ _ | exact LeO.refl _ | exact LeO.none _ | refine LeO.ite ?_ ?_ | refine LeO.bind ?_ (fun _ => ?_)
  ·intro y0 y1 y2 y3 y4 y5 y6
   unfold impl_Cost.l0
   repeat' with_reducible first | exact ih0 _ _ _ _ _ | exact ih1 _ _ _ _ _ _ _ | exact ih2 _ _ _ _ _ _ _ _ _ | exact ih3 _ _ _ _ _ _ _ _ _ _ _ | exact impl_StateOk.mono _ _ _ _ | exact impl_can.mono _ _ _ _ _ | exact impl_find.mono _ _ _ _ _ | exact impl_step.mono _ _ _ _ _ | exact LeO.refl _ | exact LeO.none _ | refine LeO.ite ?_ ?_ | refine LeO.bind ?_ (fun _ => ?_)
  ·intro y0 y1 y2 y3 y4 y5 y6 y7 y8
   unfold impl_Cost.j2
   repeat' with_reducible first | exact ih0 _ _ _ _ _ | exact ih1 _ _ _ _ _ _ _ | exact ih2 _ _ _ _ _ _ _ _ _ | exact ih3 _ _ _ _ _ _ _ _ _ _ _ | exact impl_StateOk.mono _ _ _ _ | exact impl_can.mono _ _ _ _ _ | exact impl_find.mono _ _ _ _ _ | exact impl_step.mono _ _ _ _ _ | exact LeO.refl _ | exact LeO.none _ | refine LeO.ite ?_ ?_ | refine LeO.bind ?_ (fun _ => ?_)
  ·intro y0 y1 y2 y3 y4 y5 y6 y7 y8 y9 y10
   unfold impl_Cost.l1
   repeat' with_reducible first | exact ih0 _ _ _ _ _ | exact ih1 _ _ _ _ _ _ _ | exact ih2 _ _ _ _ _ _ _ _ _ | exact ih3 _ _ _ _ _ _ _ _ _ _ _ | exact impl_StateOk.mono _ _ _ _ | exact impl_can.mono _ _ _ _ _ | exact impl_find.mono _ _ _ _ _ | exact impl_step.mono _ _ _ _ _ | exact LeO.refl _ | exact LeO.none _ | refine LeO.ite ?_ ?_ | refine LeO.bind ?_ (fun _ => ?_)
theorem impl_Cost.mono : ∀ a0 a1 a2 a3 k, LeO (impl_Cost.f k a0 a1 a2 a3) (impl_Cost.f (k + 1) a0 a1 a2 a3) := by
 intro a0 a1 a2 a3 k
 obtain ⟨ih0, ih1, ih2, ih3⟩ := impl_Cost.mono_l k
 unfold impl_Cost.f
 repeat' with_reducible first | exact ih0 _ _ _ _ _ | exact ih1 _ _ _ _ _ _ _ | exact ih2 _ _ _ _ _ _ _ _ _ | exact ih3 _ _ _ _ _ _ _ _ _ _ _ | exact impl_StateOk.mono _ _ _ _ | exact impl_can.mono _ _ _ _ _ | exact impl_find.mono _ _ _ _ _ | exact impl_step.mono _ _ _ _ _ | exact LeO.refl _ | exact LeO.none _ | refine LeO.ite ?_ ?_ | refine LeO.bind ?_ (fun _ => ?_)

/-! ### laws_wInts: function 21 -/
def laws_wInts.l0 : Nat → List Int → List Int → Int → Int → Option (Bool)
 | 0, _, _, _, _ => none
 | k + 1, x0, x1, x12, x13 => if x13 < x12 then (if 0 ≤ x13 then (if x13 < (x0.length : Int) then (if x13 < (x1.length : Int) then (if (rd x0 x13) = (rd x1 x13) then (laws_wInts.l0 k x0 x1 x12 (wrap64 (x13 + 1))) else (some false)) else (none)) else (none)) else (none)) else (some true)
def laws_wInts.f (k : Nat) (l0 : List Int) (l1 : List Int) : Option (Bool) := if (l0.length : Int) = (l1.length : Int) then (laws_wInts.l0 k l0 l1 (l0.length : Int) 0) else (some false)
theorem laws_wInts.mono_l : ∀ k, (∀ y0 y1 y2 y3, LeO (laws_wInts.l0 k y0 y1 y2 y3) (laws_wInts.l0 (k + 1) y0 y1 y2 y3))
 | 0 => fun _ _ _ _ r h => by simp [laws_wInts.l0] at h
 | k + 1 => by
  have ih0 := laws_wInts.mono_l k
  ·intro y0 y1 y2 y3
   unfold laws_wInts.l0
   repeat' with_reducible first | exact ih0 _ _ _ _ | exact LeO.refl _ | exact LeO.none _ | refine LeO.ite ?_ ?_ | refine LeO.bind ?_ (fun _ => ?_)
theorem laws_wInts.mono : ∀ a0 a1 k, LeO (laws_wInts.f k a0 a1) (laws_wInts.f (k + 1) a0 a1) := by
 intro a0 a1 k
 have ih0 := laws_wInts.mono_l k
 unfold laws_wInts.f
 repeat' with_reducible first | exact ih0 _ _ _ _ | exact LeO.refl _ | exact LeO.none _ | refine LeO.ite ?_ ?_ | refine LeO.bind ?_ (fun _ => ?_)

/-! ### laws_heldAskedS: function 53 -/
def laws_heldAskedS.l0 : Nat → List (S33) → Int → Int → Option (Int)
  | 0, _, _, _ => none
  | k + 1, x0, x1, x5 => if x5 < (x0.length : Int) then (if 0 ≤ x5 then (if ((rd_T33 x0 x5).f0) = x1 then ((laws_heldIntS.f k ((rd_T33 x0 x5).f1.f0) (wrap64 (x1 + 1))).bind fun t848 => (if t848 < 0 then (some (-1)) else ((laws_heldTrainS.f k ((rd_T33 x0 x5).f1.f1) t848).bind fun t850 => (if t850 < 0 then (some (-1)) else ((laws_heldIntS.f k ((rd_T33 x0 x5).f1.f2) t850).bind fun t852 => (if t852 < 0 then (some (-1)) else (laws_heldAskedS.l0 k x0 t852 (wrap64 (x5 + 1))))))))) else (some (-1))) else (none)) else (some x1)
def laws_heldAskedS.f (k : Nat) (l0 : List (S33)) (a1 : Int) : Option (Int) := laws_heldAskedS.l0 k l0 a1 0
theorem laws_heldAskedS.mono_l : ∀ k, (∀ y0 y1 y2, LeO (laws_heldAskedS.l0 k y0 y1 y2) (laws_heldAskedS.l0 (k + 1) y0 y1 y2))
  | 0 => fun _ _ _ r h => by simp [laws_heldAskedS.l0] at h
  | k + 1 => by
    have ih0 := laws_heldAskedS.mono_l k
    · intro y0 y1 y2
      unfold laws_heldAskedS.l0
      repeat' with_reducible first | exact ih0 _ _ _ | exact laws_heldIntS.mono _ _ _ | exact laws_heldTrainS.mono _ _ _ | exact LeO.refl _ | exact LeO.none _ | refine LeO.ite ?_ ?_ | refine LeO.bind ?_ (fun _ => ?_)
theorem laws_heldAskedS.mono : ∀ a0 a1 k, LeO (laws_heldAskedS.f k a0 a1) (laws_heldAskedS.f (k + 1) a0 a1) := by
  intro a0 a1 k
  have ih0 := laws_heldAskedS.mono_l k
  unfold laws_heldAskedS.f
  repeat' with_reducible first | exact ih0 _ _ _ | exact laws_heldIntS.mono _ _ _ | exact laws_heldTrainS.mono _ _ _ | exact LeO.refl _ | exact LeO.none _ | refine LeO.ite ?_ ?_ | refine LeO.bind ?_ (fun _ => ?_)
set_option maxHeartbeats 8000000 in
set_option maxRecDepth 100000 in
theorem laws_heldAskedS.calls (k : Nat) (A0 : Option Addr) (c0 : Nat) (l0 : List (S33)) (a1 : Int) (r : Int) (w : World) (hr0 : Kd.C k33 w A0 l0.length l0) (hc0 : l0.length ≤ c0) (h : laws_heldAskedS.f k l0 a1 = some r) :
    Calls Try.prog 53 #[.slice A0 l0.length c0, .int .i64 a1] w fun e w' => e = .returned (.int .i64 r) ∧ Drawn0 w w' := by
  have HR0 := K_ hr0
  have HC0 := K_ hc0
  clear hr0 hc0
  unfold laws_heldAskedS.f at h
  have H := h
  clear h
  have H' := K_ H
  clear H
  go_enter Try.func53, Try.ntmps53
  go_wp2
  go_loopg [1, 5] k (fun kq v1 v5 w' => ∃ (x1_1 : Int) (x5_1 : Int), v1 = .int .i64 x1_1 ∧ v5 = .int .i64 x5_1 ∧ Aside0 (laws_heldAskedS.l0 kq l0 x1_1 x5_1 = some r) ∧ Aside0 (kq ≤ k) ∧ Drawn0 w w')
  case atStart => exact ⟨(a1), (0), rfl, rfl, H', ⟨Nat.le_refl _⟩, by repeat (first | exact Drawn0.refl _ | apply Drawn0.step)⟩
  case round =>
    clear H'
    skip
    obtain ⟨x1_1, x5_1, rfl, rfl, HA, HK1, ⟨m1, rfl⟩⟩ := hrel
    cases gk with
    | zero => exact absurd HA.out (by simp [laws_heldAskedS.l0])
    | succ k1 =>
      have H := HA.out
      clear HA
      simp only [laws_heldAskedS.l0] at H
      by_cases c3 : x5_1 < (l0.length : Int)
      · rw [if_pos c3] at H
        have c3b0 := decide_eq_true c3
        clear c3
        by_cases c4 : 0 ≤ x5_1
        · rw [if_pos c4] at H
          have c4b0 := decide_eq_true c4
          clear c4
          by_cases c5 : ((rd_T33 l0 x5_1).f0) = x1_1
          · rw [if_pos c5] at H
            have c5b0 := beq_iff_eq.mpr c5
            have c5b1 := bne_eq_false_iff_eq.mpr c5
            clear c5
            replace H := Option.bind_eq_some_iff.mp H
            obtain ⟨t848, A60, H⟩ := H
            try dsimp only at H
            have A6 := K_ A60
            clear A60
            by_cases c7 : t848 < 0
            · rw [if_pos c7] at H
              have c7b0 := decide_eq_true c7
              clear c7
              obtain rfl := Option.some.inj H
              have p846 : 0 ≤ (x5_1 : Int) := of_decide_eq_true (by assumption)
              have q846 : x5_1 < (l0.length : Int) := of_decide_eq_true (by assumption)
              obtain ⟨ad846, A846_1, c846_1, A846_2, c846_2, A846_3, c846_3, e846, hx846_0, hx846_1, hx846_2, hx846_3, hl846_1, hi846_1, hl846_2, hi846_2, hl846_3, hi846_3⟩ := at_T33 HR0.out x5_1 p846 q846
              cases e846
              have HR846_1 := K_ hi846_1
              have HC846_1 := K_ hl846_1
              clear hi846_1 hl846_1
              have HR846_2 := K_ hi846_2
              have HC846_2 := K_ hl846_2
              clear hi846_2 hl846_2
              have HR846_3 := K_ hi846_3
              have HC846_3 := K_ hl846_3
              clear hi846_3 hl846_3
              replace p846 := eq_true p846
              replace q846 := eq_true q846
              have p847 : 0 ≤ (x5_1 : Int) := of_decide_eq_true (by assumption)
              have q847 : x5_1 < (l0.length : Int) := of_decide_eq_true (by assumption)
              obtain ⟨ad847, A847_1, c847_1, A847_2, c847_2, A847_3, c847_3, e847, hx847_0, hx847_1, hx847_2, hx847_3, hl847_1, hi847_1, hl847_2, hi847_2, hl847_3, hi847_3⟩ := at_T33 HR0.out x5_1 p847 q847
              obtain rfl : ad846 = ad847 := (by injection e847)
              have HR847_1 := K_ hi847_1
              have HC847_1 := K_ hl847_1
              clear hi847_1 hl847_1
              have HR847_2 := K_ hi847_2
              have HC847_2 := K_ hl847_2
              clear hi847_2 hl847_2
              have HR847_3 := K_ hi847_3
              have HC847_3 := K_ hl847_3
              clear hi847_3 hl847_3
              replace p847 := eq_true p847
              replace q847 := eq_true q847
              have ea_ := Option.some.inj (hx846_1.symm.trans hx847_1)
              injection ea_ with ea_ en_ ec_
              subst ea_
              subst ec_
              clear en_
              have ea_ := Option.some.inj (hx846_2.symm.trans hx847_2)
              injection ea_ with ea_ en_ ec_
              subst ea_
              subst ec_
              clear en_
              have ea_ := Option.some.inj (hx846_3.symm.trans hx847_3)
              injection ea_ with ea_ en_ ec_
              subst ea_
              subst ec_
              clear en_
              go_wp2_with (first | ((with_reducible refine gate_callee (f := 39) rfl ?_); refine goesL_ (some 28) rfl rfl Try.func39 (by kernel_rfl) rfl #[.slice A846_1 ((rd_T33 l0 x5_1).f1.f0).length c846_1, .int .i64 (wrap64 (x1_1 + 1))] rfl (by simp only [List.map_toArray, List.map_cons, List.map_nil]; try rfl) ?_; (with_reducible refine (laws_heldIntS.calls k1 _ _ ((rd_T33 l0 x5_1).f1.f0) (wrap64 (x1_1 + 1)) t848 _ ?side1 ?side2 A6.out).mono ?_); (case side1 => exact HR847_1.out); (case side2 => exact HC847_1.out); rintro e w' ⟨rfl, ⟨nd, rfl⟩⟩; refine ⟨_, rfl, ?_⟩))
              go_ret
              exact ⟨by first | rfl | (simp; done) | (simp [*]; done), by repeat (first | exact Drawn0.refl _ | apply Drawn0.step)⟩
            · rw [if_neg c7] at H
              have c7b0 := decide_eq_false c7
              clear c7
              replace H := Option.bind_eq_some_iff.mp H
              obtain ⟨t850, A80, H⟩ := H
              try dsimp only at H
              have A8 := K_ A80
              clear A80
              by_cases c9 : t850 < 0
              · rw [if_pos c9] at H
                have c9b0 := decide_eq_true c9
                clear c9
                obtain rfl := Option.some.inj H
                have p846 : 0 ≤ (x5_1 : Int) := of_decide_eq_true (by assumption)
                have q846 : x5_1 < (l0.length : Int) := of_decide_eq_true (by assumption)
                obtain ⟨ad846, A846_1, c846_1, A846_2, c846_2, A846_3, c846_3, e846, hx846_0, hx846_1, hx846_2, hx846_3, hl846_1, hi846_1, hl846_2, hi846_2, hl846_3, hi846_3⟩ := at_T33 HR0.out x5_1 p846 q846
                cases e846
                have HR846_1 := K_ hi846_1
                have HC846_1 := K_ hl846_1
                clear hi846_1 hl846_1
                have HR846_2 := K_ hi846_2
                have HC846_2 := K_ hl846_2
                clear hi846_2 hl846_2
                have HR846_3 := K_ hi846_3
                have HC846_3 := K_ hl846_3
                clear hi846_3 hl846_3
                replace p846 := eq_true p846
                replace q846 := eq_true q846
                have p847 : 0 ≤ (x5_1 : Int) := of_decide_eq_true (by assumption)
                have q847 : x5_1 < (l0.length : Int) := of_decide_eq_true (by assumption)
                obtain ⟨ad847, A847_1, c847_1, A847_2, c847_2, A847_3, c847_3, e847, hx847_0, hx847_1, hx847_2, hx847_3, hl847_1, hi847_1, hl847_2, hi847_2, hl847_3, hi847_3⟩ := at_T33 HR0.out x5_1 p847 q847
                obtain rfl : ad846 = ad847 := (by injection e847)
                have HR847_1 := K_ hi847_1
                have HC847_1 := K_ hl847_1
                clear hi847_1 hl847_1
                have HR847_2 := K_ hi847_2
                have HC847_2 := K_ hl847_2
                clear hi847_2 hl847_2
                have HR847_3 := K_ hi847_3
                have HC847_3 := K_ hl847_3
                clear hi847_3 hl847_3
                replace p847 := eq_true p847
                replace q847 := eq_true q847
                have ea_ := Option.some.inj (hx846_1.symm.trans hx847_1)
                injection ea_ with ea_ en_ ec_
                subst ea_
                subst ec_
                clear en_
                have ea_ := Option.some.inj (hx846_2.symm.trans hx847_2)
                injection ea_ with ea_ en_ ec_
                subst ea_
                subst ec_
                clear en_
                have ea_ := Option.some.inj (hx846_3.symm.trans hx847_3)
                injection ea_ with ea_ en_ ec_
                subst ea_
                subst ec_
                clear en_
                go_wp2_with (first | ((with_reducible refine gate_callee (f := 39) rfl ?_); refine goesL_ (some 28) rfl rfl Try.func39 (by kernel_rfl) rfl #[.slice A846_1 ((rd_T33 l0 x5_1).f1.f0).length c846_1, .int .i64 (wrap64 (x1_1 + 1))] rfl (by simp only [List.map_toArray, List.map_cons, List.map_nil]; try rfl) ?_; (with_reducible refine (laws_heldIntS.calls k1 _ _ ((rd_T33 l0 x5_1).f1.f0) (wrap64 (x1_1 + 1)) t848 _ ?side1 ?side2 A6.out).mono ?_); (case side1 => exact HR847_1.out); (case side2 => exact HC847_1.out); rintro e w' ⟨rfl, ⟨nd, rfl⟩⟩; refine ⟨_, rfl, ?_⟩; have p849 : 0 ≤ (x5_1 : Int) := of_decide_eq_true (by assumption); have q849 : x5_1 < (l0.length : Int) := of_decide_eq_true (by assumption); obtain ⟨ad849, A849_1, c849_1, A849_2, c849_2, A849_3, c849_3, e849, hx849_0, hx849_1, hx849_2, hx849_3, hl849_1, hi849_1, hl849_2, hi849_2, hl849_3, hi849_3⟩ := at_T33 HR0.out x5_1 p849 q849; obtain rfl : ad846 = ad849 := (by injection e849); have HR849_1 := K_ hi849_1; have HC849_1 := K_ hl849_1; clear hi849_1 hl849_1; have HR849_2 := K_ hi849_2; have HC849_2 := K_ hl849_2; clear hi849_2 hl849_2; have HR849_3 := K_ hi849_3; have HC849_3 := K_ hl849_3; clear hi849_3 hl849_3; replace p849 := eq_true p849; replace q849 := eq_true q849; have ea_ := Option.some.inj (hx846_1.symm.trans hx849_1); injection ea_ with ea_ en_ ec_; subst ea_; subst ec_; clear en_; have ea_ := Option.some.inj (hx846_2.symm.trans hx849_2); injection ea_ with ea_ en_ ec_; subst ea_; subst ec_; clear en_; have ea_ := Option.some.inj (hx846_3.symm.trans hx849_3); injection ea_ with ea_ en_ ec_; subst ea_; subst ec_; clear en_) | ((with_reducible refine gate_callee (f := 82) rfl ?_); refine goesL_ (some 38) rfl rfl Try.func82 (by kernel_rfl) rfl #[.slice A846_2 ((rd_T33 l0 x5_1).f1.f1).length c846_2, .int .i64 t848] rfl (by simp only [List.map_toArray, List.map_cons, List.map_nil]; try rfl) ?_; (with_reducible refine (laws_heldTrainS.calls k1 _ _ ((rd_T33 l0 x5_1).f1.f1) t848 t850 _ ?side1 ?side2 A8.out).mono ?_); (case side1 => exact HR849_2.out); (case side2 => exact HC849_2.out); rintro e w' ⟨rfl, ⟨nd, rfl⟩⟩; refine ⟨_, rfl, ?_⟩))
                go_ret
                exact ⟨by first | rfl | (simp; done) | (simp [*]; done), by repeat (first | exact Drawn0.refl _ | apply Drawn0.step)⟩
              · rw [if_neg c9] at H
                have c9b0 := decide_eq_false c9
                clear c9
                replace H := Option.bind_eq_some_iff.mp H
                obtain ⟨t852, A100, H⟩ := H
                try dsimp only at H
                have A10 := K_ A100
                clear A100
                by_cases c11 : t852 < 0
                · rw [if_pos c11] at H
                  have c11b0 := decide_eq_true c11
                  clear c11
                  obtain rfl := Option.some.inj H
                  have p846 : 0 ≤ (x5_1 : Int) := of_decide_eq_true (by assumption)
                  have q846 : x5_1 < (l0.length : Int) := of_decide_eq_true (by assumption)
                  obtain ⟨ad846, A846_1, c846_1, A846_2, c846_2, A846_3, c846_3, e846, hx846_0, hx846_1, hx846_2, hx846_3, hl846_1, hi846_1, hl846_2, hi846_2, hl846_3, hi846_3⟩ := at_T33 HR0.out x5_1 p846 q846
                  cases e846
                  have HR846_1 := K_ hi846_1
                  have HC846_1 := K_ hl846_1
                  clear hi846_1 hl846_1
                  have HR846_2 := K_ hi846_2
                  have HC846_2 := K_ hl846_2
                  clear hi846_2 hl846_2
                  have HR846_3 := K_ hi846_3
                  have HC846_3 := K_ hl846_3
                  clear hi846_3 hl846_3
                  replace p846 := eq_true p846
                  replace q846 := eq_true q846
                  have p847 : 0 ≤ (x5_1 : Int) := of_decide_eq_true (by assumption)
                  have q847 : x5_1 < (l0.length : Int) := of_decide_eq_true (by assumption)
                  obtain ⟨ad847, A847_1, c847_1, A847_2, c847_2, A847_3, c847_3, e847, hx847_0, hx847_1, hx847_2, hx847_3, hl847_1, hi847_1, hl847_2, hi847_2, hl847_3, hi847_3⟩ := at_T33 HR0.out x5_1 p847 q847
                  obtain rfl : ad846 = ad847 := (by injection e847)
                  have HR847_1 := K_ hi847_1
                  have HC847_1 := K_ hl847_1
                  clear hi847_1 hl847_1
                  have HR847_2 := K_ hi847_2
                  have HC847_2 := K_ hl847_2
                  clear hi847_2 hl847_2
                  have HR847_3 := K_ hi847_3
                  have HC847_3 := K_ hl847_3
                  clear hi847_3 hl847_3
                  replace p847 := eq_true p847
                  replace q847 := eq_true q847
                  have ea_ := Option.some.inj (hx846_1.symm.trans hx847_1)
                  injection ea_ with ea_ en_ ec_
                  subst ea_
                  subst ec_
                  clear en_
                  have ea_ := Option.some.inj (hx846_2.symm.trans hx847_2)
                  injection ea_ with ea_ en_ ec_
                  subst ea_
                  subst ec_
                  clear en_
                  have ea_ := Option.some.inj (hx846_3.symm.trans hx847_3)
                  injection ea_ with ea_ en_ ec_
                  subst ea_
                  subst ec_
                  clear en_
                  go_wp2_with (first | ((with_reducible refine gate_callee (f := 39) rfl ?_); refine goesL_ (some 28) rfl rfl Try.func39 (by kernel_rfl) rfl #[.slice A846_1 ((rd_T33 l0 x5_1).f1.f0).length c846_1, .int .i64 (wrap64 (x1_1 + 1))] rfl (by simp only [List.map_toArray, List.map_cons, List.map_nil]; try rfl) ?_; (with_reducible refine (laws_heldIntS.calls k1 _ _ ((rd_T33 l0 x5_1).f1.f0) (wrap64 (x1_1 + 1)) t848 _ ?side1 ?side2 A6.out).mono ?_); (case side1 => exact HR847_1.out); (case side2 => exact HC847_1.out); rintro e w' ⟨rfl, ⟨nd, rfl⟩⟩; refine ⟨_, rfl, ?_⟩; have p849 : 0 ≤ (x5_1 : Int) := of_decide_eq_true (by assumption); have q849 : x5_1 < (l0.length : Int) := of_decide_eq_true (by assumption); obtain ⟨ad849, A849_1, c849_1, A849_2, c849_2, A849_3, c849_3, e849, hx849_0, hx849_1, hx849_2, hx849_3, hl849_1, hi849_1, hl849_2, hi849_2, hl849_3, hi849_3⟩ := at_T33 HR0.out x5_1 p849 q849; obtain rfl : ad846 = ad849 := (by injection e849); have HR849_1 := K_ hi849_1; have HC849_1 := K_ hl849_1; clear hi849_1 hl849_1; have HR849_2 := K_ hi849_2; have HC849_2 := K_ hl849_2; clear hi849_2 hl849_2; have HR849_3 := K_ hi849_3; have HC849_3 := K_ hl849_3; clear hi849_3 hl849_3; replace p849 := eq_true p849; replace q849 := eq_true q849; have ea_ := Option.some.inj (hx846_1.symm.trans hx849_1); injection ea_ with ea_ en_ ec_; subst ea_; subst ec_; clear en_; have ea_ := Option.some.inj (hx846_2.symm.trans hx849_2); injection ea_ with ea_ en_ ec_; subst ea_; subst ec_; clear en_; have ea_ := Option.some.inj (hx846_3.symm.trans hx849_3); injection ea_ with ea_ en_ ec_; subst ea_; subst ec_; clear en_) | ((with_reducible refine gate_callee (f := 82) rfl ?_); refine goesL_ (some 38) rfl rfl Try.func82 (by kernel_rfl) rfl #[.slice A846_2 ((rd_T33 l0 x5_1).f1.f1).length c846_2, .int .i64 t848] rfl (by simp only [List.map_toArray, List.map_cons, List.map_nil]; try rfl) ?_; (with_reducible refine (laws_heldTrainS.calls k1 _ _ ((rd_T33 l0 x5_1).f1.f1) t848 t850 _ ?side1 ?side2 A8.out).mono ?_); (case side1 => exact HR849_2.out); (case side2 => exact HC849_2.out); rintro e w' ⟨rfl, ⟨nd, rfl⟩⟩; refine ⟨_, rfl, ?_⟩; have p851 : 0 ≤ (x5_1 : Int) := of_decide_eq_true (by assumption); have q851 : x5_1 < (l0.length : Int) := of_decide_eq_true (by assumption); obtain ⟨ad851, A851_1, c851_1, A851_2, c851_2, A851_3, c851_3, e851, hx851_0, hx851_1, hx851_2, hx851_3, hl851_1, hi851_1, hl851_2, hi851_2, hl851_3, hi851_3⟩ := at_T33 HR0.out x5_1 p851 q851; obtain rfl : ad846 = ad851 := (by injection e851); have HR851_1 := K_ hi851_1; have HC851_1 := K_ hl851_1; clear hi851_1 hl851_1; have HR851_2 := K_ hi851_2; have HC851_2 := K_ hl851_2; clear hi851_2 hl851_2; have HR851_3 := K_ hi851_3; have HC851_3 := K_ hl851_3; clear hi851_3 hl851_3; replace p851 := eq_true p851; replace q851 := eq_true q851; have ea_ := Option.some.inj (hx846_1.symm.trans hx851_1); injection ea_ with ea_ en_ ec_; subst ea_; subst ec_; clear en_; have ea_ := Option.some.inj (hx846_2.symm.trans hx851_2); injection ea_ with ea_ en_ ec_; subst ea_; subst ec_; clear en_; have ea_ := Option.some.inj (hx846_3.symm.trans hx851_3); injection ea_ with ea_ en_ ec_; subst ea_; subst ec_; clear en_) | ((with_reducible refine gate_callee (f := 39) rfl ?_); refine goesL_ (some 48) rfl rfl Try.func39 (by kernel_rfl) rfl #[.slice A846_3 ((rd_T33 l0 x5_1).f1.f2).length c846_3, .int .i64 t850] rfl (by simp only [List.map_toArray, List.map_cons, List.map_nil]; try rfl) ?_; (with_reducible refine (laws_heldIntS.calls k1 _ _ ((rd_T33 l0 x5_1).f1.f2) t850 t852 _ ?side1 ?side2 A10.out).mono ?_); (case side1 => exact HR851_3.out); (case side2 => exact HC851_3.out); rintro e w' ⟨rfl, ⟨nd, rfl⟩⟩; refine ⟨_, rfl, ?_⟩))
                  go_ret
                  exact ⟨by first | rfl | (simp; done) | (simp [*]; done), by repeat (first | exact Drawn0.refl _ | apply Drawn0.step)⟩
                · rw [if_neg c11] at H
                  have c11b0 := decide_eq_false c11
                  clear c11
                  have H' := K_ H
                  clear H
                  have p846 : 0 ≤ (x5_1 : Int) := of_decide_eq_true (by assumption)
                  have q846 : x5_1 < (l0.length : Int) := of_decide_eq_true (by assumption)
                  obtain ⟨ad846, A846_1, c846_1, A846_2, c846_2, A846_3, c846_3, e846, hx846_0, hx846_1, hx846_2, hx846_3, hl846_1, hi846_1, hl846_2, hi846_2, hl846_3, hi846_3⟩ := at_T33 HR0.out x5_1 p846 q846
                  cases e846
                  have HR846_1 := K_ hi846_1
                  have HC846_1 := K_ hl846_1
                  clear hi846_1 hl846_1
                  have HR846_2 := K_ hi846_2
                  have HC846_2 := K_ hl846_2
                  clear hi846_2 hl846_2
                  have HR846_3 := K_ hi846_3
                  have HC846_3 := K_ hl846_3
                  clear hi846_3 hl846_3
                  replace p846 := eq_true p846
                  replace q846 := eq_true q846
                  have p847 : 0 ≤ (x5_1 : Int) := of_decide_eq_true (by assumption)
                  have q847 : x5_1 < (l0.length : Int) := of_decide_eq_true (by assumption)
                  obtain ⟨ad847, A847_1, c847_1, A847_2, c847_2, A847_3, c847_3, e847, hx847_0, hx847_1, hx847_2, hx847_3, hl847_1, hi847_1, hl847_2, hi847_2, hl847_3, hi847_3⟩ := at_T33 HR0.out x5_1 p847 q847
                  obtain rfl : ad846 = ad847 := (by injection e847)
                  have HR847_1 := K_ hi847_1
                  have HC847_1 := K_ hl847_1
                  clear hi847_1 hl847_1
                  have HR847_2 := K_ hi847_2
                  have HC847_2 := K_ hl847_2
                  clear hi847_2 hl847_2
                  have HR847_3 := K_ hi847_3
                  have HC847_3 := K_ hl847_3
                  clear hi847_3 hl847_3
                  replace p847 := eq_true p847
                  replace q847 := eq_true q847
                  have ea_ := Option.some.inj (hx846_1.symm.trans hx847_1)
                  injection ea_ with ea_ en_ ec_
                  subst ea_
                  subst ec_
                  clear en_
                  have ea_ := Option.some.inj (hx846_2.symm.trans hx847_2)
                  injection ea_ with ea_ en_ ec_
                  subst ea_
                  subst ec_
                  clear en_
                  have ea_ := Option.some.inj (hx846_3.symm.trans hx847_3)
                  injection ea_ with ea_ en_ ec_
                  subst ea_
                  subst ec_
                  clear en_
                  go_wp2_with (first | ((with_reducible refine gate_callee (f := 39) rfl ?_); refine goesL_ (some 28) rfl rfl Try.func39 (by kernel_rfl) rfl #[.slice A846_1 ((rd_T33 l0 x5_1).f1.f0).length c846_1, .int .i64 (wrap64 (x1_1 + 1))] rfl (by simp only [List.map_toArray, List.map_cons, List.map_nil]; try rfl) ?_; (with_reducible refine (laws_heldIntS.calls k1 _ _ ((rd_T33 l0 x5_1).f1.f0) (wrap64 (x1_1 + 1)) t848 _ ?side1 ?side2 A6.out).mono ?_); (case side1 => exact HR847_1.out); (case side2 => exact HC847_1.out); rintro e w' ⟨rfl, ⟨nd, rfl⟩⟩; refine ⟨_, rfl, ?_⟩; have p849 : 0 ≤ (x5_1 : Int) := of_decide_eq_true (by assumption); have q849 : x5_1 < (l0.length : Int) := of_decide_eq_true (by assumption); obtain ⟨ad849, A849_1, c849_1, A849_2, c849_2, A849_3, c849_3, e849, hx849_0, hx849_1, hx849_2, hx849_3, hl849_1, hi849_1, hl849_2, hi849_2, hl849_3, hi849_3⟩ := at_T33 HR0.out x5_1 p849 q849; obtain rfl : ad846 = ad849 := (by injection e849); have HR849_1 := K_ hi849_1; have HC849_1 := K_ hl849_1; clear hi849_1 hl849_1; have HR849_2 := K_ hi849_2; have HC849_2 := K_ hl849_2; clear hi849_2 hl849_2; have HR849_3 := K_ hi849_3; have HC849_3 := K_ hl849_3; clear hi849_3 hl849_3; replace p849 := eq_true p849; replace q849 := eq_true q849; have ea_ := Option.some.inj (hx846_1.symm.trans hx849_1); injection ea_ with ea_ en_ ec_; subst ea_; subst ec_; clear en_; have ea_ := Option.some.inj (hx846_2.symm.trans hx849_2); injection ea_ with ea_ en_ ec_; subst ea_; subst ec_; clear en_; have ea_ := Option.some.inj (hx846_3.symm.trans hx849_3); injection ea_ with ea_ en_ ec_; subst ea_; subst ec_; clear en_) | ((with_reducible refine gate_callee (f := 82) rfl ?_); refine goesL_ (some 38) rfl rfl Try.func82 (by kernel_rfl) rfl #[.slice A846_2 ((rd_T33 l0 x5_1).f1.f1).length c846_2, .int .i64 t848] rfl (by simp only [List.map_toArray, List.map_cons, List.map_nil]; try rfl) ?_; (with_reducible refine (laws_heldTrainS.calls k1 _ _ ((rd_T33 l0 x5_1).f1.f1) t848 t850 _ ?side1 ?side2 A8.out).mono ?_); (case side1 => exact HR849_2.out); (case side2 => exact HC849_2.out); rintro e w' ⟨rfl, ⟨nd, rfl⟩⟩; refine ⟨_, rfl, ?_⟩; have p851 : 0 ≤ (x5_1 : Int) := of_decide_eq_true (by assumption); have q851 : x5_1 < (l0.length : Int) := of_decide_eq_true (by assumption); obtain ⟨ad851, A851_1, c851_1, A851_2, c851_2, A851_3, c851_3, e851, hx851_0, hx851_1, hx851_2, hx851_3, hl851_1, hi851_1, hl851_2, hi851_2, hl851_3, hi851_3⟩ := at_T33 HR0.out x5_1 p851 q851; obtain rfl : ad846 = ad851 := (by injection e851); have HR851_1 := K_ hi851_1; have HC851_1 := K_ hl851_1; clear hi851_1 hl851_1; have HR851_2 := K_ hi851_2; have HC851_2 := K_ hl851_2; clear hi851_2 hl851_2; have HR851_3 := K_ hi851_3; have HC851_3 := K_ hl851_3; clear hi851_3 hl851_3; replace p851 := eq_true p851; replace q851 := eq_true q851; have ea_ := Option.some.inj (hx846_1.symm.trans hx851_1); injection ea_ with ea_ en_ ec_; subst ea_; subst ec_; clear en_; have ea_ := Option.some.inj (hx846_2.symm.trans hx851_2); injection ea_ with ea_ en_ ec_; subst ea_; subst ec_; clear en_; have ea_ := Option.some.inj (hx846_3.symm.trans hx851_3); injection ea_ with ea_ en_ ec_; subst ea_; subst ec_; clear en_) | ((with_reducible refine gate_callee (f := 39) rfl ?_); refine goesL_ (some 48) rfl rfl Try.func39 (by kernel_rfl) rfl #[.slice A846_3 ((rd_T33 l0 x5_1).f1.f2).length c846_3, .int .i64 t850] rfl (by simp only [List.map_toArray, List.map_cons, List.map_nil]; try rfl) ?_; (with_reducible refine (laws_heldIntS.calls k1 _ _ ((rd_T33 l0 x5_1).f1.f2) t850 t852 _ ?side1 ?side2 A10.out).mono ?_); (case side1 => exact HR851_3.out); (case side2 => exact HC851_3.out); rintro e w' ⟨rfl, ⟨nd, rfl⟩⟩; refine ⟨_, rfl, ?_⟩))
                  go_roundg k1
                  case measure => have := HK1.out; omega
                  case rel => exact ⟨(t852), (wrap64 (x5_1 + 1)), rfl, rfl, H', ⟨by have := HK1.out; omega⟩, by repeat (first | exact Drawn0.refl _ | apply Drawn0.step)⟩
          · rw [if_neg c5] at H
            have c5b0 := beq_eq_false_iff_ne.mpr c5
            have c5b1 := bne_iff_ne.mpr c5
            obtain rfl := Option.some.inj H
            have p846 : 0 ≤ (x5_1 : Int) := of_decide_eq_true (by assumption)
            have q846 : x5_1 < (l0.length : Int) := of_decide_eq_true (by assumption)
            obtain ⟨ad846, A846_1, c846_1, A846_2, c846_2, A846_3, c846_3, e846, hx846_0, hx846_1, hx846_2, hx846_3, hl846_1, hi846_1, hl846_2, hi846_2, hl846_3, hi846_3⟩ := at_T33 HR0.out x5_1 p846 q846
            cases e846
            have HR846_1 := K_ hi846_1
            have HC846_1 := K_ hl846_1
            clear hi846_1 hl846_1
            have HR846_2 := K_ hi846_2
            have HC846_2 := K_ hl846_2
            clear hi846_2 hl846_2
            have HR846_3 := K_ hi846_3
            have HC846_3 := K_ hl846_3
            clear hi846_3 hl846_3
            replace p846 := eq_true p846
            replace q846 := eq_true q846
            go_wp2
            go_ret
            exact ⟨by first | rfl | (simp; done) | (simp [*]; done), by repeat (first | exact Drawn0.refl _ | apply Drawn0.step)⟩
        · rw [if_neg c4] at H
          exact absurd H (by simp)
      · rw [if_neg c3] at H
        have c3b0 := decide_eq_false c3
        clear c3
        obtain rfl := Option.some.inj H
        go_wp2
        go_ret
        exact ⟨by first | rfl | (simp; done) | (simp [*]; done), by repeat (first | exact Drawn0.refl _ | apply Drawn0.step)⟩

-- NOT PRINTED: function 13 (laws_FnExactGuard)


end Go.Proofs.Ytpbclogjoangfaa.Q
