-- Written by programs of this session (wip/drv.py, wip/mkclaim.py) over the kit's print; not trusted: Lean checks it.
import Derived.Test.YtpbclogjoangfaaFnBestQ0
import Derived.Test.YtpbclogjoangfaaFnBestQ1
import Derived.Test.YtpbclogjoangfaaFnBestQ2
import Derived.Test.YtpbclogjoangfaaFnBestQ3
import Derived.Test.YtpbclogjoangfaaFnBestQ4
import Derived.Test.YtpbclogjoangfaaFnBestQ5
import Derived.Test.YtpbclogjoangfaaFnBestQ6
namespace Go.Proofs.Ytpbclogjoangfaa.Q
open Go.RowKit Go.Proofs.YtpbclogjoangfaaW.PrintWords Go.Proofs.YtpbclogjoangfaaW.PrintLast Go.Proofs.YtpbclogjoangfaaW.PrintMore
attribute [local go_sem] max2_int min2_int max_two min_two max_three min_three max_four min_four   -- for this text's walks alone
set_option linter.unusedVariables false
set_option linter.unusedSimpArgs false

/-! ### impl_Cost: function 34 -/
mutual
def impl_Cost.j0 : Nat → List Int → Bool → List Int → List (S35) → List Int → Option (Int)
 | 0, _, _, _, _, _ => none
 | k + 1, x1, x18, x00, x01, x02 => if x18 = true then (some (-1)) else (impl_Cost.l0 k 0 x1 (x1.length : Int) 0 x00 x01 x02)
def impl_Cost.l0 : Nat → Int → List Int → Int → Int → List Int → List (S35) → List Int → Option (Int)
 | 0, _, _, _, _, _, _, _ => none
 | k + 1, x5, x19, x20, x21, x00, x01, x02 => if x21 < x20 then (if 0 ≤ x21 then (if x21 < (x19.length : Int) then ((impl_find.f k x00 x01 x02 (rd x19 x21)).bind fun t591 => (if t591 < 0 then (impl_Cost.j2 k x5 t591 x19 x20 x21 true x00 x01 x02) else ((impl_can.f k x00 x01 x02 t591).bind fun t592 => (impl_Cost.j2 k x5 t591 x19 x20 x21 (!t592) x00 x01 x02)))) else (none)) else (none)) else (if (x01.length : Int) > 0 then (some (-1)) else (some x5))
def impl_Cost.j2 : Nat → Int → Int → List Int → Int → Int → Bool → List Int → List (S35) → List Int → Option (Int)
 | 0, _, _, _, _, _, _, _, _, _ => none
 | k + 1, x5, x8, x19, x20, x21, x35, x00, x01, x02 => if x35 = true then (some (-1)) else (impl_Cost.l1 k x5 x8 x19 x20 x21 x01 (x01.length : Int) 0 x00 x01 x02)
def impl_Cost.l1 : Nat → Int → Int → List Int → Int → Int → List (S35) → Int → Int → List Int → List (S35) → List Int → Option (Int)
 | 0, _, _, _, _, _, _, _, _, _, _, _ => none
 | k + 1, x5, x8, x19, x20, x21, x37, x38, x39, x00, x01, x02 => if x39 < x38 then (if 0 ≤ x39 then (if x39 < (x37.length : Int) then (impl_Cost.l1 k (wrap64 (x5 + ((rd_T35 x37 x39).f2))) x8 x19 x20 x21 x37 x38 (wrap64 (x39 + 1)) x00 x01 x02) else (none)) else (none)) else ((impl_step.f k x00 x01 x02 x8).bind fun bt595 => (impl_Cost.l0 k x5 x19 x20 (wrap64 (x21 + 1)) bt595.1 bt595.2.1 bt595.2.2))
end
def impl_Cost.f (k : Nat) (l0_0 : List Int) (l0_1 : List (S35)) (l0_2 : List Int) (l1 : List Int) : Option (Int) := (impl_StateOk.f k l0_0 l0_1 l0_2).bind fun t589 => (if t589 = 0 then (impl_Cost.j0 k l1 (decide ((l1.length : Int) > 45)) l0_0 l0_1 l0_2) else (impl_Cost.j0 k l1 true l0_0 l0_1 l0_2))
theorem impl_Cost.mono_l : ∀ k, (∀ y0 y1 y2 y3 y4, LeO (impl_Cost.j0 k y0 y1 y2 y3 y4) (impl_Cost.j0 (k + 1) y0 y1 y2 y3 y4)) ∧ (∀ y0 y1 y2 y3 y4 y5 y6, LeO (impl_Cost.l0 k y0 y1 y2 y3 y4 y5 y6) (impl_Cost.l0 (k + 1) y0 y1 y2 y3 y4 y5 y6)) ∧ (∀ y0 y1 y2 y3 y4 y5 y6 y7 y8, LeO (impl_Cost.j2 k y0 y1 y2 y3 y4 y5 y6 y7 y8) (impl_Cost.j2 (k + 1) y0 y1 y2 y3 y4 y5 y6 y7 y8)) ∧ (∀ y0 y1 y2 y3 y4 y5 y6 y7 y8 y9 y10, LeO (impl_Cost.l1 k y0 y1 y2 y3 y4 y5 y6 y7 y8 y9 y10) (impl_Cost.l1 (k + 1) y0 y1 y2 y3 y4 y5 y6 y7 y8 y9 y10))
 | 0 => ⟨fun _ _ _ _ _ r h => by simp [impl_Cost.j0] at h, fun _ _ _ _ _ _ _ r h => by simp [impl_Cost.l0] at h, fun _ _ _ _ _ _ _ _ _ r h => by simp [impl_Cost.j2] at h, fun _ _ _ _ _ _ _ _ _ _ _ r h => by simp [impl_Cost.l1] at h⟩
 | k + 1 => by
  obtain ⟨ih0, ih1, ih2, ih3⟩ := impl_Cost.mono_l k
  refine ⟨?_, ?_, ?_, ?_⟩
  ·intro y0 y1 y2 y3 y4
   unfold impl_Cost.j0
   repeat' with_reducible first | exact ih0 _ _ _ _ _ | exact ih1 _ _ _ _ _ _ _ | exact ih2 _ _ _ _ _ _ _ _ _ | exact ih3 _ _ _ _ _ _ _ _ _ _ _ | exact impl_StateOk.mono _ _ _ _ | exact impl_can.mono _ _ _ _ _ | exact impl_find.mono _ _ _ _ _ | exact impl_step.mono _ _ _ _ _ | exact LeO.refl _ | exact LeO.none _ | refine LeO.ite ?_ ?_ | refine LeO.bind ?_ (fun _ => ?_)
  ·intro y0 y1 y2 y3 y4 y5 y6
   unfold impl_Cost.l0
   repeat' with_reducible first | exact ih0 _ _ _ _ _ | exact ih1 _ _ _ _ _ _ _ | exact ih2 _ _ _ _ _ _ _ _ _ | exact ih3 _ _ _ _ _ _ _ _ _ _ _ | exact impl_StateOk.mono _ _ _ _ | exact impl_can.mono _ _ _ _ _ | exact impl_find.mono _ _ _ _ _ | exact impl_step.mono _ _ _ _ _ | exact LeO.refl _ | exact LeO.none _ | refine LeO.ite ?_ ?_ | refine LeO.bind ?_ (fun _ => ?_)
  ·intro y0 y1 y2 y3 y4 y5 y6 y7 y8
   unfold impl_Cost.j2
   repeat' with_reducible first | exact ih0 _ _ _ _ _ | exact ih1 _ _ _ _ _ _ _ | exact ih2 _ _ _ _ _ _ _ _ _ | exact ih3 _ _ _ _ _ _ _ _ _ _ _ | exact impl_StateOk.mono _ _ _ _ | exact impl_can.mono _ _ _ _ _ | exact impl_find.mono _ _ _ _ _ | exact impl_step.mono _ _ _ _ _ | exact LeO.refl _ | exact LeO.none _ | refine LeO.ite ?_ ?_ | refine LeO.bind ?_ (fun _ => ?_)
  ·intro y0 y1 y2 y3 y4 y5 y6 y7 y8 y9 y10
   unfold impl_Cost.l1
   repeat' with_reducible first | exact ih0 _ _ _ _ _ | exact ih1 _ _ _ _ _ _ _ | exact ih2 _ _ _ _ _ _ _ _ _ | exact ih3 _ _ _ _ _ _ _ _ _ _ _ | exact impl_StateOk.mono _ _ _ _ | exact impl_can.mono _ _ _ _ _ | exact impl_find.mono _ _ _ _ _ | exact impl_step.mono _ _ _ _ _ | exact LeO.refl _ | exact LeO.none _ | refine LeO.ite ?_ ?_ | refine LeO.bind ?_ (fun _ => ?_)
theorem impl_Cost.mono : ∀ a0 a1 a2 a3 k, LeO (impl_Cost.f k a0 a1 a2 a3) (impl_Cost.f (k + 1) a0 a1 a2 a3) := by
 intro a0 a1 a2 a3 k
 obtain ⟨ih0, ih1, ih2, ih3⟩ := impl_Cost.mono_l k
 unfold impl_Cost.f
 repeat' with_reducible first | exact ih0 _ _ _ _ _ | exact ih1 _ _ _ _ _ _ _ | exact ih2 _ _ _ _ _ _ _ _ _ | exact ih3 _ _ _ _ _ _ _ _ _ _ _ | exact impl_StateOk.mono _ _ _ _ | exact impl_can.mono _ _ _ _ _ | exact impl_find.mono _ _ _ _ _ | exact impl_step.mono _ _ _ _ _ | exact LeO.refl _ | exact LeO.none _ | refine LeO.ite ?_ ?_ | refine LeO.bind ?_ (fun _ => ?_)
set_option maxHeartbeats 8000000 in
set_option maxRecDepth 100000 in
theorem impl_Cost.calls (k : Nat) (P0_0_ : Nat → Prop) (A0_0 : Option Addr) (c0_0 : Nat) (l0_0 : List Int) (P0_1_ : Nat → Prop) (A0_1 : Option Addr) (c0_1 : Nat) (l0_1 : List (S35)) (P0_2_ : Nat → Prop) (A0_2 : Option Addr) (c0_2 : Nat) (l0_2 : List Int) (A1 : Option Addr) (c1 : Nat) (l1 : List Int) (r : Int) (w : World) (hs0_0 : Kd.V (Kd.int .i64) 3 w w.heap.size (fun k_ => P0_0_ k_) (.slice A0_0 l0_0.length c0_0) l0_0) (hs0_1 : Kd.V k35 35 w w.heap.size (fun k_ => P0_1_ k_) (.slice A0_1 l0_1.length c0_1) l0_1) (hs0_2 : Kd.V (Kd.int .i64) 3 w w.heap.size (fun k_ => P0_2_ k_) (.slice A0_2 l0_2.length c0_2) l0_2) (hr1 : Kd.C (Kd.int .i64) w A1 l1.length l1) (hc1 : l1.length ≤ c1) (h : impl_Cost.f k l0_0 l0_1 l0_2 l1 = some r) :
  Calls Try.prog 34 #[.agg #[.slice A0_0 l0_0.length c0_0, .slice A0_1 l0_1.length c0_1, .slice A0_2 l0_2.length c0_2], .slice A1 l1.length c1] w fun e w' => e = .returned (.int .i64 r) ∧ Below w.heap.size w w' := by
 have hu26 := Try.underlying26
 have hu35 := Try.underlying35
 have HO0_0 := K_ (show Kd.V (Kd.int .i64) 3 w w.heap.size (fun k_ => ((P0_0_ k_ ∨ P0_1_ k_ ∨ P0_2_ k_) ∨ w.heap.size ≤ k_)) (.slice A0_0 l0_0.length c0_0) l0_0 from Kd.V_mono hs0_0 (fun k_ hk => .inl (.inl hk)))
 have HO0_1 := K_ (show Kd.V k35 35 w w.heap.size (fun k_ => ((P0_0_ k_ ∨ P0_1_ k_ ∨ P0_2_ k_) ∨ w.heap.size ≤ k_)) (.slice A0_1 l0_1.length c0_1) l0_1 from Kd.V_mono hs0_1 (fun k_ hk => .inl (.inr (.inl hk))))
 have HO0_2 := K_ (show Kd.V (Kd.int .i64) 3 w w.heap.size (fun k_ => ((P0_0_ k_ ∨ P0_1_ k_ ∨ P0_2_ k_) ∨ w.heap.size ≤ k_)) (.slice A0_2 l0_2.length c0_2) l0_2 from Kd.V_mono hs0_2 (fun k_ hk => .inl (.inr (.inr hk))))
 have HR1 := K_ hr1
 have HC1 := K_ hc1
 clear hr1 hc1
 have HB := K_ (Below.refl w.heap.size w)
 unfold impl_Cost.f at h
 have H := h
 clear h
 have HC3 := K_ H
 clear H
 go_enter Try.func34, Try.ntmps34
 go_upto_region 1 with (first | ((with_reducible refine gate_dst (N := 2) rfl ?_); refine box_event (by rfl) (N := 2) (by rfl) (cs := #[.slice A0_0 l0_0.length c0_0, .slice A0_1 l0_1.length c0_1, .slice A0_2 l0_2.length c0_2]) (t := 26) (by go_simp; try rfl) ?_; intro gb588 hg w4 hbox hb; have BK588 := K_ (hbox); have GW588 := ge_ hg HB.out; have GE588 := ge_ hg HB.out; replace HO0_0 := K_ (Kd.V_below (Kd.V_elderB HO0_0.out gb588 (Nat.le_of_eq hg.symm)) hb); replace HO0_1 := K_ (Kd.V_below (Kd.V_elderB HO0_1.out gb588 (Nat.le_of_eq hg.symm)) hb); replace HO0_2 := K_ (Kd.V_below (Kd.V_elderB HO0_2.out gb588 (Nat.le_of_eq hg.symm)) hb); replace HB := K_ (below_step HB.out hb); clear hb hbox hg))
 (try simp only [P_])
 go_cut [18] (fun v18 wc => ∃ (kq : Nat) (x18_2 : Bool), v18 = .bool x18_2 ∧ Aside0 (impl_Cost.j0 kq l1 x18_2 l0_0 l0_1 l0_2 = some r) ∧ Aside0 (kq ≤ k) ∧ Aside0 (Kd.V (Kd.int .i64) 3 wc w.heap.size (fun k_ => ((P0_0_ k_ ∨ P0_1_ k_ ∨ P0_2_ k_) ∨ w.heap.size ≤ k_) ∧ k_ ≠ gb588) (.slice A0_0 l0_0.length c0_0) l0_0) ∧ Aside0 (Kd.V k35 35 wc w.heap.size (fun k_ => ((P0_0_ k_ ∨ P0_1_ k_ ∨ P0_2_ k_) ∨ w.heap.size ≤ k_) ∧ k_ ≠ gb588) (.slice A0_1 l0_1.length c0_1) l0_1) ∧ Aside0 (Kd.V (Kd.int .i64) 3 wc w.heap.size (fun k_ => ((P0_0_ k_ ∨ P0_1_ k_ ∨ P0_2_ k_) ∨ w.heap.size ≤ k_) ∧ k_ ≠ gb588) (.slice A0_2 l0_2.length c0_2) l0_2) ∧ Aside0 (wc.heap[gb588]? = some (.cells #[(.slice A0_0 l0_0.length c0_0), (.slice A0_1 l0_1.length c0_1), (.slice A0_2 l0_2.length c0_2)] 26 (0, 0))) ∧ Aside0 (Below w.heap.size w wc))
 case first =>
  have H := HC3.out
  clear HC3
  replace H := Option.bind_eq_some_iff.mp H
  obtain ⟨t589, A50, H⟩ := H
  try dsimp only at H
  have A5 := K_ A50
  clear A50
  replace H := ps_ H
  rcases H with ⟨c6, H⟩ | ⟨c6, H⟩
  case inr =>
   have c6b0 := beq_eq_false_iff_ne.mpr c6
   have c6b1 := bne_iff_ne.mpr c6
   (first | rw [c6b0] | (simp only [i64_w, i32_w]; rw [c6b0]) | skip)
   have H' := K_ H
   clear H
   obtain ⟨hcz9_0, hcz9_1, hcz9_2, hfz9_0, hfz9_1, hfz9_2⟩ := blkf3_ BK588.out
   go_wp2_with (first | ((with_reducible refine gate_callee (f := 41) rfl ?_); refine goesL_ (some 12) rfl rfl Try.func41 (by kernel_rfl) rfl #[.agg #[.slice A0_0 l0_0.length c0_0, .slice A0_1 l0_1.length c0_1, .slice A0_2 l0_2.length c0_2]] rfl (by simp only [List.map_toArray, List.map_cons, List.map_nil]; try rfl) ?_; (with_reducible refine (impl_StateOk.calls k _ _ l0_0 _ _ l0_1 _ _ l0_2 t589 _ ?side1 ?side2 ?side3 ?side4 ?side5 ?side6 A5.out).mono ?_); (case side1 => exact (Kd.V_reads' HO0_0.out).2.2); (case side2 => exact (Kd.V_reads' HO0_0.out).2.1); (case side3 => exact (Kd.V_reads' HO0_1.out).2.2); (case side4 => exact (Kd.V_reads' HO0_1.out).2.1); (case side5 => exact (Kd.V_reads' HO0_2.out).2.2); (case side6 => exact (Kd.V_reads' HO0_2.out).2.1); rintro e w10 ⟨rfl, hb⟩; refine ⟨_, rfl, ?_⟩; replace HO0_0 := K_ (Kd.V_below HO0_0.out hb); replace HO0_1 := K_ (Kd.V_below HO0_1.out hb); replace HO0_2 := K_ (Kd.V_below HO0_2.out hb); replace BK588 := K_ (blk_below BK588.out hb); replace HB := K_ (below_step HB.out hb); clear hb))
   go_meet
   case rel => exact ⟨_, (true), rfl, H', ⟨by first | omega | exact Nat.le_refl _⟩, ⟨HO0_0.out⟩, ⟨HO0_1.out⟩, ⟨HO0_2.out⟩, ⟨BK588.out⟩, ⟨HB.out⟩⟩
  have c6b0 := beq_iff_eq.mpr c6
  have c6b1 := bne_eq_false_iff_eq.mpr c6
  clear c6
  (first | rw [c6b0] | (simp only [i64_w, i32_w]; rw [c6b0]) | skip)
  have H' := K_ H
  clear H
  obtain ⟨hcz7_0, hcz7_1, hcz7_2, hfz7_0, hfz7_1, hfz7_2⟩ := blkf3_ BK588.out
  go_wp2_with (first | ((with_reducible refine gate_callee (f := 41) rfl ?_); refine goesL_ (some 12) rfl rfl Try.func41 (by kernel_rfl) rfl #[.agg #[.slice A0_0 l0_0.length c0_0, .slice A0_1 l0_1.length c0_1, .slice A0_2 l0_2.length c0_2]] rfl (by simp only [List.map_toArray, List.map_cons, List.map_nil]; try rfl) ?_; (with_reducible refine (impl_StateOk.calls k _ _ l0_0 _ _ l0_1 _ _ l0_2 t589 _ ?side1 ?side2 ?side3 ?side4 ?side5 ?side6 A5.out).mono ?_); (case side1 => exact (Kd.V_reads' HO0_0.out).2.2); (case side2 => exact (Kd.V_reads' HO0_0.out).2.1); (case side3 => exact (Kd.V_reads' HO0_1.out).2.2); (case side4 => exact (Kd.V_reads' HO0_1.out).2.1); (case side5 => exact (Kd.V_reads' HO0_2.out).2.2); (case side6 => exact (Kd.V_reads' HO0_2.out).2.1); rintro e w8 ⟨rfl, hb⟩; refine ⟨_, rfl, ?_⟩; replace HO0_0 := K_ (Kd.V_below HO0_0.out hb); replace HO0_1 := K_ (Kd.V_below HO0_1.out hb); replace HO0_2 := K_ (Kd.V_below HO0_2.out hb); replace BK588 := K_ (blk_below BK588.out hb); replace HB := K_ (below_step HB.out hb); clear hb))
  go_meet
  case rel => exact ⟨_, (decide ((l1.length : Int) > 45)), rfl, H', ⟨by first | omega | exact Nat.le_refl _⟩, ⟨HO0_0.out⟩, ⟨HO0_1.out⟩, ⟨HO0_2.out⟩, ⟨BK588.out⟩, ⟨HB.out⟩⟩
 case rest =>
  clear HC3
  skip
  obtain ⟨kq, x18_2, rfl, HA, HJ2, HO_00, HO_01, HO_02, BK588, HB⟩ := hcut
  cases kq with
  | zero => exact absurd HA.out (by simp [impl_Cost.j0])
  | succ kj2 =>
   have H := HA.out
   clear HA
   simp only [impl_Cost.j0] at H
   by_cases c11 : x18_2 = true
   case pos =>
    subst c11
    rw [if_pos rfl] at H
    obtain rfl := Option.some.inj H
    go_wp2
    go_ret
    exact ⟨rfl, HB.out⟩
   replace c11 := Bool.eq_false_iff.mpr c11
   subst c11
   rw [if_neg (show ¬ (false = true) by decide)] at H
   have H' := K_ H
   clear H
   go_wp2
   go_loopg [5, 21] kj2 (fun kq v5 v21 w' => ∃ (x5_2 : Int) (x21_2 : Int) (x00_2 : List Int) (x01_2 : List (S35)) (x02_2 : List Int) (u00 : Value) (u01 : Value) (u02 : Value), v5 = .int .i64 x5_2 ∧ v21 = .int .i64 x21_2 ∧ Aside0 (impl_Cost.l0 kq x5_2 l1 (l1.length : Int) x21_2 x00_2 x01_2 x02_2 = some r) ∧ Aside0 (kq ≤ kj2) ∧ Aside0 (Kd.V (Kd.int .i64) 3 w' w.heap.size (fun k_ => ((P0_0_ k_ ∨ P0_1_ k_ ∨ P0_2_ k_) ∨ w.heap.size ≤ k_) ∧ k_ ≠ gb588) u00 x00_2) ∧ Aside0 (Kd.V k35 35 w' w.heap.size (fun k_ => ((P0_0_ k_ ∨ P0_1_ k_ ∨ P0_2_ k_) ∨ w.heap.size ≤ k_) ∧ k_ ≠ gb588) u01 x01_2) ∧ Aside0 (Kd.V (Kd.int .i64) 3 w' w.heap.size (fun k_ => ((P0_0_ k_ ∨ P0_1_ k_ ∨ P0_2_ k_) ∨ w.heap.size ≤ k_) ∧ k_ ≠ gb588) u02 x02_2) ∧ Aside0 (w'.heap[gb588]? = some (.cells #[u00, u01, u02] 26 (0, 0))) ∧ Aside0 (Below w.heap.size w w'))
   case atStart => exact ⟨(0), (0), (l0_0), (l0_1), (l0_2), (.slice A0_0 l0_0.length c0_0), (.slice A0_1 l0_1.length c0_1), (.slice A0_2 l0_2.length c0_2), rfl, rfl, H', ⟨Nat.le_refl _⟩, ⟨HO_00.out⟩, ⟨HO_01.out⟩, ⟨HO_02.out⟩, ⟨BK588.out⟩, ⟨HB.out⟩⟩
   case round =>
    clear H'
    skip
    obtain ⟨x5_2, x21_2, x00_2, x01_2, x02_2, u00, u01, u02, rfl, rfl, HA, HK2, HO_00, HO_01, HO_02, BK588, HB⟩ := hrel
    cases gk with
    | zero => exact absurd HA.out (by simp [impl_Cost.l0])
    | succ k2 =>
     have H := HA.out
     clear HA
     simp only [impl_Cost.l0] at H
     by_cases c12 : x21_2 < (l1.length : Int)
     case neg =>
      rw [if_neg c12] at H
      have c12b0 := decide_eq_false c12
      clear c12
      replace H := ps_ H
      rcases H with ⟨c41, H⟩ | ⟨c41, H⟩
      case inr =>
       have c41b0 := decide_eq_false c41
       have c41b1 : decide (0 < x01_2.length) = false := decide_eq_false (by omega)
       clear c41
       obtain rfl := Option.some.inj H
       obtain ⟨hcz44_0, hcz44_1, hcz44_2, hfz44_0, hfz44_1, hfz44_2⟩ := blkf3_ BK588.out
       obtain ⟨Ao45, co45, eo45⟩ := Kd.V_slice HO_01.out
       subst eo45
       go_wp2
       go_ret
       exact ⟨rfl, HB.out⟩
      have c41b0 := decide_eq_true c41
      have c41b1 : decide (0 < x01_2.length) = true := decide_eq_true (by omega)
      clear c41
      obtain rfl := Option.some.inj H
      obtain ⟨hcz42_0, hcz42_1, hcz42_2, hfz42_0, hfz42_1, hfz42_2⟩ := blkf3_ BK588.out
      obtain ⟨Ao43, co43, eo43⟩ := Kd.V_slice HO_01.out
      subst eo43
      go_wp2
      go_ret
      exact ⟨rfl, HB.out⟩
     rw [if_pos c12] at H
     have c12b0 := decide_eq_true c12
     clear c12
     replace H := dn_ H
     obtain ⟨c13b0, H⟩ := H
     replace H := dn_ H
     obtain ⟨c14b0, H⟩ := H
     replace H := Option.bind_eq_some_iff.mp H
     obtain ⟨t591, A150, H⟩ := H
     try dsimp only at H
     have A15 := K_ A150
     clear A150
     have HC16 := K_ H
     clear H
     obtain ⟨ad590, rfl, hx590_0, p590, q590⟩ := rd_ HR1.out HB.out x21_2 (by assumption) (by assumption)
     obtain ⟨hcz17_0, hcz17_1, hcz17_2, hfz17_0, hfz17_1, hfz17_2⟩ := blkf3_ BK588.out
     obtain ⟨Ao18, co18, eo18⟩ := Kd.V_slice HO_00.out
     subst eo18
     obtain ⟨Ao19, co19, eo19⟩ := Kd.V_slice HO_01.out
     subst eo19
     obtain ⟨Ao20, co20, eo20⟩ := Kd.V_slice HO_02.out
     subst eo20
     go_upto_region 8 with (first | ((with_reducible refine gate_callee (f := 60) rfl ?_); refine goesL_ (some 27) rfl rfl Try.func60 (by kernel_rfl) rfl #[.agg #[.slice Ao18 x00_2.length co18, .slice Ao19 x01_2.length co19, .slice Ao20 x02_2.length co20], .int .i64 (rd l1 x21_2)] rfl (by simp only [List.map_toArray, List.map_cons, List.map_nil]; try rfl) ?_; (with_reducible refine (impl_find.calls k2 _ _ x00_2 _ _ x01_2 _ _ x02_2 (rd l1 x21_2) t591 _ ?side1 ?side2 ?side3 ?side4 ?side5 ?side6 A15.out).mono ?_); (case side1 => exact (Kd.V_reads' HO_00.out).2.2); (case side2 => exact (Kd.V_reads' HO_00.out).2.1); (case side3 => exact (Kd.V_reads' HO_01.out).2.2); (case side4 => exact (Kd.V_reads' HO_01.out).2.1); (case side5 => exact (Kd.V_reads' HO_02.out).2.2); (case side6 => exact (Kd.V_reads' HO_02.out).2.1); rintro e w21 ⟨rfl, hb⟩; refine ⟨_, rfl, ?_⟩; replace HO_00 := K_ (Kd.V_below HO_00.out hb); replace HO_01 := K_ (Kd.V_below HO_01.out hb); replace HO_02 := K_ (Kd.V_below HO_02.out hb); replace BK588 := K_ (blk_below BK588.out hb); replace HB := K_ (below_step HB.out hb); clear hb))
     (try simp only [P_])
     go_cut [35] (fun v35 wc => ∃ (kq : Nat) (x35_15 : Bool), v35 = .bool x35_15 ∧ Aside0 (impl_Cost.j2 kq x5_2 t591 l1 (l1.length : Int) x21_2 x35_15 x00_2 x01_2 x02_2 = some r) ∧ Aside0 (kq ≤ k2) ∧ Aside0 (Kd.V (Kd.int .i64) 3 wc w.heap.size (fun k_ => ((P0_0_ k_ ∨ P0_1_ k_ ∨ P0_2_ k_) ∨ w.heap.size ≤ k_) ∧ k_ ≠ gb588) (.slice Ao18 x00_2.length co18) x00_2) ∧ Aside0 (Kd.V k35 35 wc w.heap.size (fun k_ => ((P0_0_ k_ ∨ P0_1_ k_ ∨ P0_2_ k_) ∨ w.heap.size ≤ k_) ∧ k_ ≠ gb588) (.slice Ao19 x01_2.length co19) x01_2) ∧ Aside0 (Kd.V (Kd.int .i64) 3 wc w.heap.size (fun k_ => ((P0_0_ k_ ∨ P0_1_ k_ ∨ P0_2_ k_) ∨ w.heap.size ≤ k_) ∧ k_ ≠ gb588) (.slice Ao20 x02_2.length co20) x02_2) ∧ Aside0 (wc.heap[gb588]? = some (.cells #[(.slice Ao18 x00_2.length co18), (.slice Ao19 x01_2.length co19), (.slice Ao20 x02_2.length co20)] 26 (0, 0))) ∧ Aside0 (Below w.heap.size w wc))
     case first =>
      have H := HC16.out
      clear HC16
      replace H := ds_ H
      rcases H with ⟨c22b0, H⟩ | ⟨c22b0, H⟩
      case inl =>
       (first | rw [c22b0] | (simp only [i64_w, i32_w]; rw [c22b0]) | skip)
       have H' := K_ H
       clear H
       go_wp2
       go_meet
       case rel => exact ⟨_, (true), rfl, H', ⟨by have := HJ2.out; have := HK2.out; first | omega | exact Nat.le_refl _⟩, ⟨HO_00.out⟩, ⟨HO_01.out⟩, ⟨HO_02.out⟩, ⟨BK588.out⟩, ⟨HB.out⟩⟩
      (first | rw [c22b0] | (simp only [i64_w, i32_w]; rw [c22b0]) | skip)
      replace H := Option.bind_eq_some_iff.mp H
      obtain ⟨t592, A230, H⟩ := H
      try dsimp only at H
      have A23 := K_ A230
      clear A230
      have H' := K_ H
      clear H
      obtain ⟨hcz24_0, hcz24_1, hcz24_2, hfz24_0, hfz24_1, hfz24_2⟩ := blkf3_ BK588.out
      go_wp2_with (first | (go_at_call 61; (with_reducible refine (impl_can.calls k2 _ _ x00_2 _ _ x01_2 _ _ x02_2 t591 t592 _ ?side1 ?side2 ?side3 ?side4 ?side5 ?side6 A23.out).mono ?_); (case side1 => repeat (first | exact (Kd.V_reads' HO_00.out).2.2 | (with_reducible refine Kd.C_alloc ?_ _) | (with_reducible refine Kd.C_drewN ?_ _) | (with_reducible refine Kd.C_drew ?_))); (case side2 => exact (Kd.V_reads' HO_00.out).2.1); (case side3 => repeat (first | exact (Kd.V_reads' HO_01.out).2.2 | (with_reducible refine Kd.C_alloc ?_ _) | (with_reducible refine Kd.C_drewN ?_ _) | (with_reducible refine Kd.C_drew ?_))); (case side4 => exact (Kd.V_reads' HO_01.out).2.1); (case side5 => repeat (first | exact (Kd.V_reads' HO_02.out).2.2 | (with_reducible refine Kd.C_alloc ?_ _) | (with_reducible refine Kd.C_drewN ?_ _) | (with_reducible refine Kd.C_drew ?_))); (case side6 => exact (Kd.V_reads' HO_02.out).2.1); rintro e w25 ⟨rfl, hb⟩; have n0_ := K_ (Kd.V_below HO_00.out hb); have n1_ := K_ (Kd.V_below HO_01.out hb); have n2_ := K_ (Kd.V_below HO_02.out hb); have n3_ := K_ (blk_below BK588.out hb); have n4_ := K_ (below_step HB.out hb); clear HO_00; clear HO_01; clear HO_02; clear BK588; clear HB; have HO_00 := n0_; have HO_01 := n1_; have HO_02 := n2_; have BK588 := n3_; have HB := n4_; clear n0_ n1_ n2_ n3_ n4_; (try clear hb); (try clear hb2); (try clear hk); (try clear hi)))
      go_meet
      case rel => exact ⟨_, (!t592), rfl, H', ⟨by have := HJ2.out; have := HK2.out; first | omega | exact Nat.le_refl _⟩, ⟨HO_00.out⟩, ⟨HO_01.out⟩, ⟨HO_02.out⟩, ⟨BK588.out⟩, ⟨HB.out⟩⟩
     case rest =>
      clear HC16
      skip
      obtain ⟨kq, x35_15, rfl, HA, HJ15, HO_00, HO_01, HO_02, BK588, HB⟩ := hcut
      cases kq with
      | zero => exact absurd HA.out (by simp [impl_Cost.j2])
      | succ kj15 =>
       have H := HA.out
       clear HA
       simp only [impl_Cost.j2] at H
       by_cases c26 : x35_15 = true
       case pos =>
        subst c26
        rw [if_pos rfl] at H
        obtain rfl := Option.some.inj H
        go_wp2
        go_ret
        exact ⟨rfl, HB.out⟩
       replace c26 := Bool.eq_false_iff.mpr c26
       subst c26
       rw [if_neg (show ¬ (false = true) by decide)] at H
       have H' := K_ H
       clear H
       obtain ⟨hcz27_0, hcz27_1, hcz27_2, hfz27_0, hfz27_1, hfz27_2⟩ := blkf3_ BK588.out
       go_wp2
       go_loopg [5, 39] kj15 (fun kq v5 v39 w' => ∃ (x5_4 : Int) (x39_4 : Int), v5 = .int .i64 x5_4 ∧ v39 = .int .i64 x39_4 ∧ Aside0 (impl_Cost.l1 kq x5_4 t591 l1 (l1.length : Int) x21_2 x01_2 (x01_2.length : Int) x39_4 x00_2 x01_2 x02_2 = some r) ∧ Aside0 (kq ≤ kj15) ∧ Aside0 (Kd.V k35 35 w' w.heap.size (fun k_ => ((P0_0_ k_ ∨ P0_1_ k_ ∨ P0_2_ k_) ∨ w.heap.size ≤ k_) ∧ k_ ≠ gb588) (.slice Ao19 x01_2.length co19) x01_2) ∧ Aside0 (Kd.V (Kd.int .i64) 3 w' w.heap.size (fun k_ => ((P0_0_ k_ ∨ P0_1_ k_ ∨ P0_2_ k_) ∨ w.heap.size ≤ k_) ∧ k_ ≠ gb588) (.slice Ao18 x00_2.length co18) x00_2) ∧ Aside0 (Kd.V k35 35 w' w.heap.size (fun k_ => ((P0_0_ k_ ∨ P0_1_ k_ ∨ P0_2_ k_) ∨ w.heap.size ≤ k_) ∧ k_ ≠ gb588) (.slice Ao19 x01_2.length co19) x01_2) ∧ Aside0 (Kd.V (Kd.int .i64) 3 w' w.heap.size (fun k_ => ((P0_0_ k_ ∨ P0_1_ k_ ∨ P0_2_ k_) ∨ w.heap.size ≤ k_) ∧ k_ ≠ gb588) (.slice Ao20 x02_2.length co20) x02_2) ∧ Aside0 (w'.heap[gb588]? = some (.cells #[(.slice Ao18 x00_2.length co18), (.slice Ao19 x01_2.length co19), (.slice Ao20 x02_2.length co20)] 26 (0, 0))) ∧ Aside0 (Below w.heap.size w w'))
       case atStart => exact ⟨(x5_2), (0), rfl, rfl, H', ⟨Nat.le_refl _⟩, ⟨HO_01.out⟩, ⟨HO_00.out⟩, ⟨HO_01.out⟩, ⟨HO_02.out⟩, ⟨BK588.out⟩, ⟨HB.out⟩⟩
       case round =>
        clear H'
        clear hcz27_0 hcz27_1 hcz27_2 hfz27_0 hfz27_1 hfz27_2
        obtain ⟨x5_4, x39_4, rfl, rfl, HA, HK4, HO_37, HO_00, HO_01, HO_02, BK588, HB⟩ := hrel
        cases gk with
        | zero => exact absurd HA.out (by simp [impl_Cost.l1])
        | succ k4 =>
         have H := HA.out
         clear HA
         simp only [impl_Cost.l1] at H
         replace H := ds_ H
         rcases H with ⟨c28b0, H⟩ | ⟨c28b0, H⟩
         case inr =>
          replace H := Option.bind_eq_some_iff.mp H
          obtain ⟨⟨t595, t598, t601⟩, A340, H⟩ := H
          try dsimp only at H
          have A34 := K_ A340
          clear A340
          have H' := K_ H
          clear H
          obtain ⟨hcz35_0, hcz35_1, hcz35_2, hfz35_0, hfz35_1, hfz35_2⟩ := blkf3_ BK588.out
          go_wp2_with (first | ((with_reducible refine gate_callee (f := 62) rfl ?_); refine goesL_ (some 50) rfl rfl Try.func62 (by kernel_rfl) rfl #[.agg #[.slice Ao18 x00_2.length co18, .slice Ao19 x01_2.length co19, .slice Ao20 x02_2.length co20], .int .i64 t591] rfl (by simp only [List.map_toArray, List.map_cons, List.map_nil]; try rfl) ?_; (with_reducible refine (impl_step.calls k4 _ _ x00_2 _ _ x01_2 _ _ x02_2 t591 t595 t598 t601 _ ?side1 ?side2 ?side3 ?side4 ?side5 ?side6 A34.out).mono ?_); (case side1 => exact (Kd.V_reads' HO_00.out).2.2); (case side2 => exact (Kd.V_reads' HO_00.out).2.1); (case side3 => exact (Kd.V_reads' HO_01.out).2.2); (case side4 => exact (Kd.V_reads' HO_01.out).2.1); (case side5 => exact (Kd.V_reads' HO_02.out).2.2); (case side6 => exact (Kd.V_reads' HO_02.out).2.1); rintro e w36 ⟨v596, v599, v602, rfl, ho0, ho1, ho2, hb⟩; refine ⟨_, rfl, ?_⟩; have HO597 := K_ (Kd.R_lower (Kd.R_newM (M := fun k_ => (w.heap.size ≤ k_)) (Kd.R_mono (ok' := fun k_ => X_ k_ v602) ho0 (fun _ hk_ => hk_.2)) (below_size HB.out) (fun k_ h_ => h_)) (below_size HB.out)); have HO600 := K_ (Kd.N_lower (Kd.N_mono (ok' := fun k_ => ((P0_0_ k_ ∨ P0_1_ k_ ∨ P0_2_ k_) ∨ w.heap.size ≤ k_) ∧ X_ k_ v596 ∧ X_ k_ v602 ∧ k_ ≠ gb588) ho1 (fun k_ hk_ => ⟨(.inr (Nat.le_trans (below_size HB.out) hk_.1)), hk_.2.1, hk_.2.2, (Kd.freshB BK588.out k_ hk_.1)⟩)) (below_size HB.out)); have HO603 := K_ (Kd.R_lower (Kd.R_newM (M := fun k_ => (w.heap.size ≤ k_)) (Kd.R_mono (ok' := fun k_ => X_ k_ v596) ho2 (fun _ hk_ => hk_.2)) (below_size HB.out) (fun k_ h_ => h_)) (below_size HB.out)); replace HO_37 := K_ (Kd.V_mono (Kd.V_told (Kd.V_told (Kd.V_told (Kd.V_old HO_37.out hb) (Kd.R_base ho0)) (Kd.N_base ho1)) (Kd.R_base ho2)) (fun _ h_ => h_.1)); replace HO_00 := K_ (Kd.V_mono (Kd.V_told (Kd.V_told (Kd.V_told (Kd.V_old HO_00.out hb) (Kd.R_base ho0)) (Kd.N_base ho1)) (Kd.R_base ho2)) (fun _ h_ => h_.1)); replace HO_01 := K_ (Kd.V_mono (Kd.V_told (Kd.V_told (Kd.V_told (Kd.V_old HO_01.out hb) (Kd.R_base ho0)) (Kd.N_base ho1)) (Kd.R_base ho2)) (fun _ h_ => h_.1)); replace HO_02 := K_ (Kd.V_mono (Kd.V_told (Kd.V_told (Kd.V_told (Kd.V_old HO_02.out hb) (Kd.R_base ho0)) (Kd.N_base ho1)) (Kd.R_base ho2)) (fun _ h_ => h_.1)); replace BK588 := K_ (blk_below BK588.out hb); replace HB := K_ (below_step HB.out hb); clear hb ho0 ho1 ho2; obtain ⟨Ao37, co37, eo37⟩ := Kd.R_slice HO597.out; subst eo37; obtain ⟨hcz38_0, hcz38_1, hcz38_2, hfz38_0, hfz38_1, hfz38_2⟩ := blkf3_ BK588.out; obtain ⟨Ao39, co39, eo39⟩ := Kd.N_slice HO600.out; subst eo39; obtain ⟨Ao40, co40, eo40⟩ := Kd.R_slice HO603.out; subst eo40))
          go_roundg k4
          case measure => have := HJ2.out; have := HK2.out; have := HJ15.out; have := HK4.out; omega
          case rel => exact ⟨(x5_4), (wrap64 (x21_2 + 1)), (t595), (t598), (t601), (.slice Ao37 t595.length co37), (.slice Ao39 t598.length co39), (.slice Ao40 t601.length co40), rfl, rfl, H', ⟨by have := HJ2.out; have := HK2.out; have := HJ15.out; have := HK4.out; omega⟩, ⟨Kd.V_mono (Kd.R_V (by exact Kd.R_mono (Kd.R_far (p := ⟨gb588, 2, none⟩) (Kd.R_far (p := ⟨gb588, 1, none⟩) (Kd.R_far (p := ⟨gb588, 0, none⟩) (Kd.R_types (Kd.R_types HO597.out BK588.out (by decide)) BK588.out (by decide)) (fun _ hk => hk.2) (.slice Ao37 t595.length co37)) (fun _ hk => hk.2) (.slice Ao39 t598.length co39)) (fun _ hk => hk.2) (.slice Ao40 t601.length co40)) (fun k_ hk => (⟨hk.1.1.1, hk.1.2⟩ : _ ∧ k_ ≠ gb588)))) (fun k_ hk => by first | exact ⟨(.inr (hk.1)), hk.2⟩ | exact (.inr (hk)))⟩, ⟨Kd.N_V (by exact Kd.N_mono (Kd.N_far (p := ⟨gb588, 2, none⟩) (Kd.N_far (p := ⟨gb588, 1, none⟩) (Kd.N_far (p := ⟨gb588, 0, none⟩) (Kd.N_mono HO600.out (fun k_ hk => (⟨hk, hk.2.2.2⟩ : _ ∧ k_ ≠ gb588))) (fun _ hk => hk.2) (.slice Ao37 t595.length co37)) (fun _ hk => hk.2) (.slice Ao39 t598.length co39)) (fun _ hk => hk.2) (.slice Ao40 t601.length co40)) (fun _ hk => ⟨hk.1.1, hk.1.2.2.2⟩))⟩, ⟨Kd.V_mono (Kd.R_V (by exact Kd.R_mono (Kd.R_far (p := ⟨gb588, 2, none⟩) (Kd.R_far (p := ⟨gb588, 1, none⟩) (Kd.R_far (p := ⟨gb588, 0, none⟩) (Kd.R_types (Kd.R_types HO603.out BK588.out (by decide)) BK588.out (by decide)) (fun _ hk => hk.2) (.slice Ao37 t595.length co37)) (fun _ hk => hk.2) (.slice Ao39 t598.length co39)) (fun _ hk => hk.2) (.slice Ao40 t601.length co40)) (fun k_ hk => (⟨hk.1.1.1, hk.1.2⟩ : _ ∧ k_ ≠ gb588)))) (fun k_ hk => by first | exact ⟨(.inr (hk.1)), hk.2⟩ | exact (.inr (hk)))⟩, ⟨by refine blk_put (cs := #[.slice Ao37 t595.length co37, .slice Ao39 t598.length co39, .slice Ao20 x02_2.length co20]) ?_ 2 _ rfl; refine blk_put (cs := #[.slice Ao37 t595.length co37, .slice Ao19 x01_2.length co19, .slice Ao20 x02_2.length co20]) ?_ 1 _ rfl; refine blk_put (cs := #[.slice Ao18 x00_2.length co18, .slice Ao19 x01_2.length co19, .slice Ao20 x02_2.length co20]) ?_ 0 _ rfl; exact BK588.out⟩, ⟨by repeat (first | exact HB.out | refine below_set ?_ GE588.out)⟩⟩
         replace H := dn_ H
         obtain ⟨c29b0, H⟩ := H
         replace H := dn_ H
         obtain ⟨c30b0, H⟩ := H
         have H' := K_ H
         clear H
         have p593 : 0 ≤ (x39_4 : Int) := of_decide_eq_true (by assumption)
         have q593 : x39_4 < (x01_2.length : Int) := of_decide_eq_true (by assumption)
         obtain ⟨ad593, A593_1, c593_1, e593, hx593_0, hx593_1, hx593_2, hl593_1, hi593_1⟩ := at_T35 (Kd.V_reads' HO_37.out).2.2 x39_4 p593 q593
         cases e593
         obtain ⟨ce593, hce593, hMe593, hcc593⟩ := Kd.V_get HO_37.out z35 x39_4 p593 (by first | exact q593 | exact of_decide_eq_true (by assumption) | (have e_ := (Kd.V_reads' HO_37.out).1; omega))
         obtain ⟨ua593_1, uc593_1, rfl, ul593_1, ge593_1⟩ := k35_openF hMe593
         have hv593_1 := hcc593 1 _ rfl
         rw [add_field _ _ 1 (by omega)] at hv593_1
         replace hv593_1 := Option.some.inj (hv593_1.symm.trans hx593_1)
         injection hv593_1 with hva_ hvn_ hvc_
         rw [hva_] at ge593_1
         rw [hvc_] at ul593_1
         have HL593_1 := K_ (show Kd.V (Kd.int .i64) 3 _ w.heap.size _ _ ((rd_T35 x01_2 x39_4).f1) from Kd.V_mk ul593_1 ge593_1)
         clear hva_ hvn_ hvc_ ge593_1 ul593_1
         clear hcc593 hce593
         have HR593_1 := K_ hi593_1
         have HC593_1 := K_ hl593_1
         clear hi593_1 hl593_1
         replace p593 := eq_true p593
         replace q593 := eq_true q593
         go_wp2_with (first | ((with_reducible refine gate_dst (N := 10) rfl ?_); refine box_event (by rfl) (N := 10) (by rfl) (cs := #[.int .i64 0, .slice none 0 0, .int .i64 0]) (t := 35) (by go_simp; try rfl) ?_; intro gb594 hg w31 hbox hb; have BK594 := K_ (hbox); have GW594 := ge_ hg HB.out; have GE594 := ge_ hg HB.out; have NB588_594 := nl_ hg BK588.out; have NB594_588 := ng_ hg BK588.out; replace HO_37 := K_ (Kd.V_below (Kd.V_elderB HO_37.out gb594 (Nat.le_of_eq hg.symm)) hb); replace HO_00 := K_ (Kd.V_below (Kd.V_elderB HO_00.out gb594 (Nat.le_of_eq hg.symm)) hb); replace HO_01 := K_ (Kd.V_below (Kd.V_elderB HO_01.out gb594 (Nat.le_of_eq hg.symm)) hb); replace HO_02 := K_ (Kd.V_below (Kd.V_elderB HO_02.out gb594 (Nat.le_of_eq hg.symm)) hb); replace HL593_1 := K_ (Kd.V_below (Kd.V_elderB HL593_1.out gb594 (Nat.le_of_eq hg.symm)) hb); replace BK588 := K_ (blk_below BK588.out hb); replace HR593_1 := K_ (Kd.C_below (by repeat (first | (with_reducible exact HR593_1.out) | (with_reducible refine Kd.C_alloc ?_ _) | (with_reducible refine Kd.C_drewN ?_ _) | (with_reducible refine Kd.C_drew ?_) | exact HR593_1.out)) hb); replace HB := K_ (below_step HB.out hb); clear hb hbox hg; have hnb32 := NB594_588.out; have hnc32 := NB588_594.out; obtain ⟨hcz33_0, hcz33_1, hcz33_2, hfz33_0, hfz33_1, hfz33_2⟩ := blkf3_ BK594.out))
         go_roundg k4
         case measure => have := HJ2.out; have := HK2.out; have := HJ15.out; have := HK4.out; omega
         case rel => exact ⟨(wrap64 (x5_4 + ((rd_T35 x01_2 x39_4).f2))), (wrap64 (x39_4 + 1)), rfl, rfl, H', ⟨by have := HJ2.out; have := HK2.out; have := HJ15.out; have := HK4.out; omega⟩, ⟨by exact Kd.V_mono (Kd.V_far (p := ⟨gb594, 2, none⟩) (Kd.V_far (p := ⟨gb594, 1, none⟩) (Kd.V_far (p := ⟨gb594, 0, none⟩) (Kd.V_mono HO_37.out (fun k_ hk => (⟨hk, hk.2⟩ : _ ∧ k_ ≠ gb594))) (fun _ hk => hk.2) (.int .i64 ((rd_T35 x01_2 x39_4).f0))) (fun _ hk => hk.2) (.slice A593_1 ((rd_T35 x01_2 x39_4).f1).length c593_1)) (fun _ hk => hk.2) (.int .i64 ((rd_T35 x01_2 x39_4).f2))) (fun _ hk => ⟨hk.1.1.1, hk.1.1.2⟩)⟩, ⟨by exact Kd.V_mono (Kd.V_far (p := ⟨gb594, 2, none⟩) (Kd.V_far (p := ⟨gb594, 1, none⟩) (Kd.V_far (p := ⟨gb594, 0, none⟩) (Kd.V_mono HO_00.out (fun k_ hk => (⟨hk, hk.2⟩ : _ ∧ k_ ≠ gb594))) (fun _ hk => hk.2) (.int .i64 ((rd_T35 x01_2 x39_4).f0))) (fun _ hk => hk.2) (.slice A593_1 ((rd_T35 x01_2 x39_4).f1).length c593_1)) (fun _ hk => hk.2) (.int .i64 ((rd_T35 x01_2 x39_4).f2))) (fun _ hk => ⟨hk.1.1.1, hk.1.1.2⟩)⟩, ⟨by exact Kd.V_mono (Kd.V_far (p := ⟨gb594, 2, none⟩) (Kd.V_far (p := ⟨gb594, 1, none⟩) (Kd.V_far (p := ⟨gb594, 0, none⟩) (Kd.V_mono HO_01.out (fun k_ hk => (⟨hk, hk.2⟩ : _ ∧ k_ ≠ gb594))) (fun _ hk => hk.2) (.int .i64 ((rd_T35 x01_2 x39_4).f0))) (fun _ hk => hk.2) (.slice A593_1 ((rd_T35 x01_2 x39_4).f1).length c593_1)) (fun _ hk => hk.2) (.int .i64 ((rd_T35 x01_2 x39_4).f2))) (fun _ hk => ⟨hk.1.1.1, hk.1.1.2⟩)⟩, ⟨by exact Kd.V_mono (Kd.V_far (p := ⟨gb594, 2, none⟩) (Kd.V_far (p := ⟨gb594, 1, none⟩) (Kd.V_far (p := ⟨gb594, 0, none⟩) (Kd.V_mono HO_02.out (fun k_ hk => (⟨hk, hk.2⟩ : _ ∧ k_ ≠ gb594))) (fun _ hk => hk.2) (.int .i64 ((rd_T35 x01_2 x39_4).f0))) (fun _ hk => hk.2) (.slice A593_1 ((rd_T35 x01_2 x39_4).f1).length c593_1)) (fun _ hk => hk.2) (.int .i64 ((rd_T35 x01_2 x39_4).f2))) (fun _ hk => ⟨hk.1.1.1, hk.1.1.2⟩)⟩, ⟨by refine blk_far ?_ NB588_594.out _; refine blk_far ?_ NB588_594.out _; refine blk_far ?_ NB588_594.out _; exact BK588.out⟩, ⟨by repeat (first | exact HB.out | refine below_set ?_ GE588.out | refine below_set ?_ GE594.out)⟩⟩

-- NOT PRINTED: function 7 (laws_FnMeet)

-- NOT PRINTED: function 35 (spec_Allowed)


/-! ### spec_Cost: function 45 -/
mutual
def spec_Cost.j0 : Nat → List Int → Bool → List Int → List (S35) → List Int → Option (Int)
 | 0, _, _, _, _, _ => none
 | k + 1, x1, x16, x03, x04, x05 => if x16 = true then (some (-1)) else (spec_Cost.l0 k 0 x1 (x1.length : Int) 0 x03 x04 x05)
def spec_Cost.l0 : Nat → Int → List Int → Int → Int → List Int → List (S35) → List Int → Option (Int)
 | 0, _, _, _, _, _, _, _ => none
 | k + 1, x5, x17, x18, x19, x03, x04, x05 => if x19 < x18 then (if 0 ≤ x19 then (if x19 < (x17.length : Int) then ((spec_l1name.f k x03 x04 x05 (rd x17 x19)).bind fun t659 => (if t659 < 0 then (spec_Cost.j2 k x5 t659 x17 x18 x19 true x03 x04 x05) else ((spec_l1can.f k x03 x04 x05 t659).bind fun t660 => (spec_Cost.j2 k x5 t659 x17 x18 x19 (!t660) x03 x04 x05)))) else (none)) else (none)) else (if (x04.length : Int) > 0 then (some (-1)) else (some x5))
def spec_Cost.j2 : Nat → Int → Int → List Int → Int → Int → Bool → List Int → List (S35) → List Int → Option (Int)
 | 0, _, _, _, _, _, _, _, _, _ => none
 | k + 1, x5, x8, x17, x18, x19, x33, x03, x04, x05 => if x33 = true then (some (-1)) else ((spec_l2weight.f k x03 x04 x05).bind fun t661 => ((spec_l1step.f k x03 x04 x05 x8).bind fun bt662 => (spec_Cost.l0 k (wrap64 (x5 + t661)) x17 x18 (wrap64 (x19 + 1)) bt662.1 bt662.2.1 bt662.2.2)))
end
def spec_Cost.f (k : Nat) (l0_0 : List Int) (l0_1 : List (S35)) (l0_2 : List Int) (l1 : List Int) : Option (Int) := (spec_StateOk.f k l0_0 l0_1 l0_2).bind fun t657 => (if t657 = 0 then (spec_Cost.j0 k l1 (decide ((l1.length : Int) > 45)) l0_0 l0_1 l0_2) else (spec_Cost.j0 k l1 true l0_0 l0_1 l0_2))
theorem spec_Cost.mono_l : ∀ k, (∀ y0 y1 y2 y3 y4, LeO (spec_Cost.j0 k y0 y1 y2 y3 y4) (spec_Cost.j0 (k + 1) y0 y1 y2 y3 y4)) ∧ (∀ y0 y1 y2 y3 y4 y5 y6, LeO (spec_Cost.l0 k y0 y1 y2 y3 y4 y5 y6) (spec_Cost.l0 (k + 1) y0 y1 y2 y3 y4 y5 y6)) ∧ (∀ y0 y1 y2 y3 y4 y5 y6 y7 y8, LeO (spec_Cost.j2 k y0 y1 y2 y3 y4 y5 y6 y7 y8) (spec_Cost.j2 (k + 1) y0 y1 y2 y3 y4 y5 y6 y7 y8))
 | 0 => ⟨fun _ _ _ _ _ r h => by simp [spec_Cost.j0] at h, fun _ _ _ _ _ _ _ r h => by simp [spec_Cost.l0] at h, fun _ _ _ _ _ _ _ _ _ r h => by simp [spec_Cost.j2] at h⟩
 | k + 1 => by
  obtain ⟨ih0, ih1, ih2⟩ := spec_Cost.mono_l k
  refine ⟨?_, ?_, ?_⟩
  ·intro y0 y1 y2 y3 y4
   unfold spec_Cost.j0
   repeat' with_reducible first | exact ih0 _ _ _ _ _ | exact ih1 _ _ _ _ _ _ _ | exact ih2 _ _ _ _ _ _ _ _ _ | exact spec_StateOk.mono _ _ _ _ | exact spec_l1can.mono _ _ _ _ _ | exact spec_l1name.mono _ _ _ _ _ | exact spec_l1step.mono _ _ _ _ _ | exact spec_l2weight.mono _ _ _ _ | exact LeO.refl _ | exact LeO.none _ | refine LeO.ite ?_ ?_ | refine LeO.bind ?_ (fun _ => ?_)
  ·intro y0 y1 y2 y3 y4 y5 y6
   unfold spec_Cost.l0
   repeat' with_reducible first | exact ih0 _ _ _ _ _ | exact ih1 _ _ _ _ _ _ _ | exact ih2 _ _ _ _ _ _ _ _ _ | exact spec_StateOk.mono _ _ _ _ | exact spec_l1can.mono _ _ _ _ _ | exact spec_l1name.mono _ _ _ _ _ | exact spec_l1step.mono _ _ _ _ _ | exact spec_l2weight.mono _ _ _ _ | exact LeO.refl _ | exact LeO.none _ | refine LeO.ite ?_ ?_ | refine LeO.bind ?_ (fun _ => ?_)
  ·intro y0 y1 y2 y3 y4 y5 y6 y7 y8
   unfold spec_Cost.j2
   repeat' with_reducible first | exact ih0 _ _ _ _ _ | exact ih1 _ _ _ _ _ _ _ | exact ih2 _ _ _ _ _ _ _ _ _ | exact spec_StateOk.mono _ _ _ _ | exact spec_l1can.mono _ _ _ _ _ | exact spec_l1name.mono _ _ _ _ _ | exact spec_l1step.mono _ _ _ _ _ | exact spec_l2weight.mono _ _ _ _ | exact LeO.refl _ | exact LeO.none _ | refine LeO.ite ?_ ?_ | refine LeO.bind ?_ (fun _ => ?_)
theorem spec_Cost.mono : ∀ a0 a1 a2 a3 k, LeO (spec_Cost.f k a0 a1 a2 a3) (spec_Cost.f (k + 1) a0 a1 a2 a3) := by
 intro a0 a1 a2 a3 k
 obtain ⟨ih0, ih1, ih2⟩ := spec_Cost.mono_l k
 unfold spec_Cost.f
 repeat' with_reducible first | exact ih0 _ _ _ _ _ | exact ih1 _ _ _ _ _ _ _ | exact ih2 _ _ _ _ _ _ _ _ _ | exact spec_StateOk.mono _ _ _ _ | exact spec_l1can.mono _ _ _ _ _ | exact spec_l1name.mono _ _ _ _ _ | exact spec_l1step.mono _ _ _ _ _ | exact spec_l2weight.mono _ _ _ _ | exact LeO.refl _ | exact LeO.none _ | refine LeO.ite ?_ ?_ | refine LeO.bind ?_ (fun _ => ?_)
set_option maxHeartbeats 8000000 in
set_option maxRecDepth 100000 in
theorem spec_Cost.calls (k : Nat) (P0_0_ : Nat → Prop) (A0_0 : Option Addr) (c0_0 : Nat) (l0_0 : List Int) (P0_1_ : Nat → Prop) (A0_1 : Option Addr) (c0_1 : Nat) (l0_1 : List (S35)) (P0_2_ : Nat → Prop) (A0_2 : Option Addr) (c0_2 : Nat) (l0_2 : List Int) (A1 : Option Addr) (c1 : Nat) (l1 : List Int) (r : Int) (w : World) (hs0_0 : Kd.V (Kd.int .i64) 3 w w.heap.size (fun k_ => P0_0_ k_) (.slice A0_0 l0_0.length c0_0) l0_0) (hs0_1 : Kd.V k35 35 w w.heap.size (fun k_ => P0_1_ k_) (.slice A0_1 l0_1.length c0_1) l0_1) (hs0_2 : Kd.V (Kd.int .i64) 3 w w.heap.size (fun k_ => P0_2_ k_) (.slice A0_2 l0_2.length c0_2) l0_2) (hr1 : Kd.C (Kd.int .i64) w A1 l1.length l1) (hc1 : l1.length ≤ c1) (h : spec_Cost.f k l0_0 l0_1 l0_2 l1 = some r) :
  Calls Try.prog 45 #[.agg #[.slice A0_0 l0_0.length c0_0, .slice A0_1 l0_1.length c0_1, .slice A0_2 l0_2.length c0_2], .slice A1 l1.length c1] w fun e w' => e = .returned (.int .i64 r) ∧ Below w.heap.size w w' := by
 have hu26 := Try.underlying26
 have HO0_0 := K_ (show Kd.V (Kd.int .i64) 3 w w.heap.size (fun k_ => ((P0_0_ k_ ∨ P0_1_ k_ ∨ P0_2_ k_) ∨ w.heap.size ≤ k_)) (.slice A0_0 l0_0.length c0_0) l0_0 from Kd.V_mono hs0_0 (fun k_ hk => .inl (.inl hk)))
 have HO0_1 := K_ (show Kd.V k35 35 w w.heap.size (fun k_ => ((P0_0_ k_ ∨ P0_1_ k_ ∨ P0_2_ k_) ∨ w.heap.size ≤ k_)) (.slice A0_1 l0_1.length c0_1) l0_1 from Kd.V_mono hs0_1 (fun k_ hk => .inl (.inr (.inl hk))))
 have HO0_2 := K_ (show Kd.V (Kd.int .i64) 3 w w.heap.size (fun k_ => ((P0_0_ k_ ∨ P0_1_ k_ ∨ P0_2_ k_) ∨ w.heap.size ≤ k_)) (.slice A0_2 l0_2.length c0_2) l0_2 from Kd.V_mono hs0_2 (fun k_ hk => .inl (.inr (.inr hk))))
 have HR1 := K_ hr1
 have HC1 := K_ hc1
 clear hr1 hc1
 have HB := K_ (Below.refl w.heap.size w)
 unfold spec_Cost.f at h
 have H := h
 clear h
 have HC3 := K_ H
 clear H
 go_enter Try.func45, Try.ntmps45
 go_upto_region 1 with (first | ((with_reducible refine gate_dst (N := 2) rfl ?_); refine box_event (by rfl) (N := 2) (by rfl) (cs := #[.slice A0_0 l0_0.length c0_0, .slice A0_1 l0_1.length c0_1, .slice A0_2 l0_2.length c0_2]) (t := 26) (by go_simp; try rfl) ?_; intro gb656 hg w4 hbox hb; have BK656 := K_ (hbox); have GW656 := ge_ hg HB.out; have GE656 := ge_ hg HB.out; replace HO0_0 := K_ (Kd.V_below (Kd.V_elderB HO0_0.out gb656 (Nat.le_of_eq hg.symm)) hb); replace HO0_1 := K_ (Kd.V_below (Kd.V_elderB HO0_1.out gb656 (Nat.le_of_eq hg.symm)) hb); replace HO0_2 := K_ (Kd.V_below (Kd.V_elderB HO0_2.out gb656 (Nat.le_of_eq hg.symm)) hb); replace HB := K_ (below_step HB.out hb); clear hb hbox hg))
 (try simp only [P_])
 go_cut [16] (fun v16 wc => ∃ (kq : Nat) (x16_2 : Bool), v16 = .bool x16_2 ∧ Aside0 (spec_Cost.j0 kq l1 x16_2 l0_0 l0_1 l0_2 = some r) ∧ Aside0 (kq ≤ k) ∧ Aside0 (Kd.V (Kd.int .i64) 3 wc w.heap.size (fun k_ => ((P0_0_ k_ ∨ P0_1_ k_ ∨ P0_2_ k_) ∨ w.heap.size ≤ k_) ∧ k_ ≠ gb656) (.slice A0_0 l0_0.length c0_0) l0_0) ∧ Aside0 (Kd.V k35 35 wc w.heap.size (fun k_ => ((P0_0_ k_ ∨ P0_1_ k_ ∨ P0_2_ k_) ∨ w.heap.size ≤ k_) ∧ k_ ≠ gb656) (.slice A0_1 l0_1.length c0_1) l0_1) ∧ Aside0 (Kd.V (Kd.int .i64) 3 wc w.heap.size (fun k_ => ((P0_0_ k_ ∨ P0_1_ k_ ∨ P0_2_ k_) ∨ w.heap.size ≤ k_) ∧ k_ ≠ gb656) (.slice A0_2 l0_2.length c0_2) l0_2) ∧ Aside0 (wc.heap[gb656]? = some (.cells #[(.slice A0_0 l0_0.length c0_0), (.slice A0_1 l0_1.length c0_1), (.slice A0_2 l0_2.length c0_2)] 26 (0, 0))) ∧ Aside0 (Below w.heap.size w wc))
 case first =>
  have H := HC3.out
  clear HC3
  replace H := Option.bind_eq_some_iff.mp H
  obtain ⟨t657, A50, H⟩ := H
  try dsimp only at H
  have A5 := K_ A50
  clear A50
  replace H := ps_ H
  rcases H with ⟨c6, H⟩ | ⟨c6, H⟩
  case inr =>
   have c6b0 := beq_eq_false_iff_ne.mpr c6
   have c6b1 := bne_iff_ne.mpr c6
   (first | rw [c6b0] | (simp only [i64_w, i32_w]; rw [c6b0]) | skip)
   have H' := K_ H
   clear H
   obtain ⟨hcz9_0, hcz9_1, hcz9_2, hfz9_0, hfz9_1, hfz9_2⟩ := blkf3_ BK656.out
   go_wp2_with (first | ((with_reducible refine gate_callee (f := 67) rfl ?_); refine goesL_ (some 10) rfl rfl Try.func67 (by kernel_rfl) rfl #[.agg #[.slice A0_0 l0_0.length c0_0, .slice A0_1 l0_1.length c0_1, .slice A0_2 l0_2.length c0_2]] rfl (by simp only [List.map_toArray, List.map_cons, List.map_nil]; try rfl) ?_; (with_reducible refine (spec_StateOk.calls k _ _ l0_0 _ _ l0_1 _ _ l0_2 t657 _ ?side1 ?side2 ?side3 ?side4 ?side5 ?side6 A5.out).mono ?_); (case side1 => exact (Kd.V_reads' HO0_0.out).2.2); (case side2 => exact (Kd.V_reads' HO0_0.out).2.1); (case side3 => exact (Kd.V_reads' HO0_1.out).2.2); (case side4 => exact (Kd.V_reads' HO0_1.out).2.1); (case side5 => exact (Kd.V_reads' HO0_2.out).2.2); (case side6 => exact (Kd.V_reads' HO0_2.out).2.1); rintro e w10 ⟨rfl, hb⟩; refine ⟨_, rfl, ?_⟩; replace HO0_0 := K_ (Kd.V_below HO0_0.out hb); replace HO0_1 := K_ (Kd.V_below HO0_1.out hb); replace HO0_2 := K_ (Kd.V_below HO0_2.out hb); replace BK656 := K_ (blk_below BK656.out hb); replace HB := K_ (below_step HB.out hb); clear hb))
   go_meet
   case rel => exact ⟨_, (true), rfl, H', ⟨by first | omega | exact Nat.le_refl _⟩, ⟨HO0_0.out⟩, ⟨HO0_1.out⟩, ⟨HO0_2.out⟩, ⟨BK656.out⟩, ⟨HB.out⟩⟩
  have c6b0 := beq_iff_eq.mpr c6
  have c6b1 := bne_eq_false_iff_eq.mpr c6
  clear c6
  (first | rw [c6b0] | (simp only [i64_w, i32_w]; rw [c6b0]) | skip)
  have H' := K_ H
  clear H
  obtain ⟨hcz7_0, hcz7_1, hcz7_2, hfz7_0, hfz7_1, hfz7_2⟩ := blkf3_ BK656.out
  go_wp2_with (first | ((with_reducible refine gate_callee (f := 67) rfl ?_); refine goesL_ (some 10) rfl rfl Try.func67 (by kernel_rfl) rfl #[.agg #[.slice A0_0 l0_0.length c0_0, .slice A0_1 l0_1.length c0_1, .slice A0_2 l0_2.length c0_2]] rfl (by simp only [List.map_toArray, List.map_cons, List.map_nil]; try rfl) ?_; (with_reducible refine (spec_StateOk.calls k _ _ l0_0 _ _ l0_1 _ _ l0_2 t657 _ ?side1 ?side2 ?side3 ?side4 ?side5 ?side6 A5.out).mono ?_); (case side1 => exact (Kd.V_reads' HO0_0.out).2.2); (case side2 => exact (Kd.V_reads' HO0_0.out).2.1); (case side3 => exact (Kd.V_reads' HO0_1.out).2.2); (case side4 => exact (Kd.V_reads' HO0_1.out).2.1); (case side5 => exact (Kd.V_reads' HO0_2.out).2.2); (case side6 => exact (Kd.V_reads' HO0_2.out).2.1); rintro e w8 ⟨rfl, hb⟩; refine ⟨_, rfl, ?_⟩; replace HO0_0 := K_ (Kd.V_below HO0_0.out hb); replace HO0_1 := K_ (Kd.V_below HO0_1.out hb); replace HO0_2 := K_ (Kd.V_below HO0_2.out hb); replace BK656 := K_ (blk_below BK656.out hb); replace HB := K_ (below_step HB.out hb); clear hb))
  go_meet
  case rel => exact ⟨_, (decide ((l1.length : Int) > 45)), rfl, H', ⟨by first | omega | exact Nat.le_refl _⟩, ⟨HO0_0.out⟩, ⟨HO0_1.out⟩, ⟨HO0_2.out⟩, ⟨BK656.out⟩, ⟨HB.out⟩⟩
 case rest =>
  clear HC3
  skip
  obtain ⟨kq, x16_2, rfl, HA, HJ2, HO_03, HO_04, HO_05, BK656, HB⟩ := hcut
  cases kq with
  | zero => exact absurd HA.out (by simp [spec_Cost.j0])
  | succ kj2 =>
   have H := HA.out
   clear HA
   simp only [spec_Cost.j0] at H
   by_cases c11 : x16_2 = true
   case pos =>
    subst c11
    rw [if_pos rfl] at H
    obtain rfl := Option.some.inj H
    go_wp2
    go_ret
    exact ⟨rfl, HB.out⟩
   replace c11 := Bool.eq_false_iff.mpr c11
   subst c11
   rw [if_neg (show ¬ (false = true) by decide)] at H
   have H' := K_ H
   clear H
   go_wp2
   go_loopg [5, 19] kj2 (fun kq v5 v19 w' => ∃ (x5_2 : Int) (x19_2 : Int) (x03_2 : List Int) (x04_2 : List (S35)) (x05_2 : List Int) (u03 : Value) (u04 : Value) (u05 : Value), v5 = .int .i64 x5_2 ∧ v19 = .int .i64 x19_2 ∧ Aside0 (spec_Cost.l0 kq x5_2 l1 (l1.length : Int) x19_2 x03_2 x04_2 x05_2 = some r) ∧ Aside0 (kq ≤ kj2) ∧ Aside0 (Kd.V (Kd.int .i64) 3 w' w.heap.size (fun k_ => ((P0_0_ k_ ∨ P0_1_ k_ ∨ P0_2_ k_) ∨ w.heap.size ≤ k_) ∧ k_ ≠ gb656) u03 x03_2) ∧ Aside0 (Kd.V k35 35 w' w.heap.size (fun k_ => ((P0_0_ k_ ∨ P0_1_ k_ ∨ P0_2_ k_) ∨ w.heap.size ≤ k_) ∧ k_ ≠ gb656) u04 x04_2) ∧ Aside0 (Kd.V (Kd.int .i64) 3 w' w.heap.size (fun k_ => ((P0_0_ k_ ∨ P0_1_ k_ ∨ P0_2_ k_) ∨ w.heap.size ≤ k_) ∧ k_ ≠ gb656) u05 x05_2) ∧ Aside0 (w'.heap[gb656]? = some (.cells #[u03, u04, u05] 26 (0, 0))) ∧ Aside0 (Below w.heap.size w w'))
   case atStart => exact ⟨(0), (0), (l0_0), (l0_1), (l0_2), (.slice A0_0 l0_0.length c0_0), (.slice A0_1 l0_1.length c0_1), (.slice A0_2 l0_2.length c0_2), rfl, rfl, H', ⟨Nat.le_refl _⟩, ⟨HO_03.out⟩, ⟨HO_04.out⟩, ⟨HO_05.out⟩, ⟨BK656.out⟩, ⟨HB.out⟩⟩
   case round =>
    clear H'
    skip
    obtain ⟨x5_2, x19_2, x03_2, x04_2, x05_2, u03, u04, u05, rfl, rfl, HA, HK2, HO_03, HO_04, HO_05, BK656, HB⟩ := hrel
    cases gk with
    | zero => exact absurd HA.out (by simp [spec_Cost.l0])
    | succ k2 =>
     have H := HA.out
     clear HA
     simp only [spec_Cost.l0] at H
     by_cases c12 : x19_2 < (l1.length : Int)
     case neg =>
      rw [if_neg c12] at H
      have c12b0 := decide_eq_false c12
      clear c12
      replace H := ps_ H
      rcases H with ⟨c37, H⟩ | ⟨c37, H⟩
      case inr =>
       have c37b0 := decide_eq_false c37
       have c37b1 : decide (0 < x04_2.length) = false := decide_eq_false (by omega)
       clear c37
       obtain rfl := Option.some.inj H
       obtain ⟨hcz40_0, hcz40_1, hcz40_2, hfz40_0, hfz40_1, hfz40_2⟩ := blkf3_ BK656.out
       obtain ⟨Ao41, co41, eo41⟩ := Kd.V_slice HO_04.out
       subst eo41
       go_wp2
       go_ret
       exact ⟨rfl, HB.out⟩
      have c37b0 := decide_eq_true c37
      have c37b1 : decide (0 < x04_2.length) = true := decide_eq_true (by omega)
      clear c37
      obtain rfl := Option.some.inj H
      obtain ⟨hcz38_0, hcz38_1, hcz38_2, hfz38_0, hfz38_1, hfz38_2⟩ := blkf3_ BK656.out
      obtain ⟨Ao39, co39, eo39⟩ := Kd.V_slice HO_04.out
      subst eo39
      go_wp2
      go_ret
      exact ⟨rfl, HB.out⟩
     rw [if_pos c12] at H
     have c12b0 := decide_eq_true c12
     clear c12
     replace H := dn_ H
     obtain ⟨c13b0, H⟩ := H
     replace H := dn_ H
     obtain ⟨c14b0, H⟩ := H
     replace H := Option.bind_eq_some_iff.mp H
     obtain ⟨t659, A150, H⟩ := H
     try dsimp only at H
     have A15 := K_ A150
     clear A150
     have HC16 := K_ H
     clear H
     obtain ⟨ad658, rfl, hx658_0, p658, q658⟩ := rd_ HR1.out HB.out x19_2 (by assumption) (by assumption)
     obtain ⟨hcz17_0, hcz17_1, hcz17_2, hfz17_0, hfz17_1, hfz17_2⟩ := blkf3_ BK656.out
     obtain ⟨Ao18, co18, eo18⟩ := Kd.V_slice HO_03.out
     subst eo18
     obtain ⟨Ao19, co19, eo19⟩ := Kd.V_slice HO_04.out
     subst eo19
     obtain ⟨Ao20, co20, eo20⟩ := Kd.V_slice HO_05.out
     subst eo20
     go_upto_region 8 with (first | ((with_reducible refine gate_callee (f := 57) rfl ?_); refine goesL_ (some 25) rfl rfl Try.func57 (by kernel_rfl) rfl #[.agg #[.slice Ao18 x03_2.length co18, .slice Ao19 x04_2.length co19, .slice Ao20 x05_2.length co20], .int .i64 (rd l1 x19_2)] rfl (by simp only [List.map_toArray, List.map_cons, List.map_nil]; try rfl) ?_; (with_reducible refine (spec_l1name.calls k2 _ _ x03_2 _ _ x04_2 _ _ x05_2 (rd l1 x19_2) t659 _ ?side1 ?side2 ?side3 ?side4 ?side5 ?side6 A15.out).mono ?_); (case side1 => exact (Kd.V_reads' HO_03.out).2.2); (case side2 => exact (Kd.V_reads' HO_03.out).2.1); (case side3 => exact (Kd.V_reads' HO_04.out).2.2); (case side4 => exact (Kd.V_reads' HO_04.out).2.1); (case side5 => exact (Kd.V_reads' HO_05.out).2.2); (case side6 => exact (Kd.V_reads' HO_05.out).2.1); rintro e w21 ⟨rfl, hb⟩; refine ⟨_, rfl, ?_⟩; replace HO_03 := K_ (Kd.V_below HO_03.out hb); replace HO_04 := K_ (Kd.V_below HO_04.out hb); replace HO_05 := K_ (Kd.V_below HO_05.out hb); replace BK656 := K_ (blk_below BK656.out hb); replace HB := K_ (below_step HB.out hb); clear hb))
     (try simp only [P_])
     go_cut [33] (fun v33 wc => ∃ (kq : Nat) (x33_15 : Bool), v33 = .bool x33_15 ∧ Aside0 (spec_Cost.j2 kq x5_2 t659 l1 (l1.length : Int) x19_2 x33_15 x03_2 x04_2 x05_2 = some r) ∧ Aside0 (kq ≤ k2) ∧ Aside0 (Kd.V (Kd.int .i64) 3 wc w.heap.size (fun k_ => ((P0_0_ k_ ∨ P0_1_ k_ ∨ P0_2_ k_) ∨ w.heap.size ≤ k_) ∧ k_ ≠ gb656) (.slice Ao18 x03_2.length co18) x03_2) ∧ Aside0 (Kd.V k35 35 wc w.heap.size (fun k_ => ((P0_0_ k_ ∨ P0_1_ k_ ∨ P0_2_ k_) ∨ w.heap.size ≤ k_) ∧ k_ ≠ gb656) (.slice Ao19 x04_2.length co19) x04_2) ∧ Aside0 (Kd.V (Kd.int .i64) 3 wc w.heap.size (fun k_ => ((P0_0_ k_ ∨ P0_1_ k_ ∨ P0_2_ k_) ∨ w.heap.size ≤ k_) ∧ k_ ≠ gb656) (.slice Ao20 x05_2.length co20) x05_2) ∧ Aside0 (wc.heap[gb656]? = some (.cells #[(.slice Ao18 x03_2.length co18), (.slice Ao19 x04_2.length co19), (.slice Ao20 x05_2.length co20)] 26 (0, 0))) ∧ Aside0 (Below w.heap.size w wc))
     case first =>
      have H := HC16.out
      clear HC16
      replace H := ds_ H
      rcases H with ⟨c22b0, H⟩ | ⟨c22b0, H⟩
      case inl =>
       (first | rw [c22b0] | (simp only [i64_w, i32_w]; rw [c22b0]) | skip)
       have H' := K_ H
       clear H
       go_wp2
       go_meet
       case rel => exact ⟨_, (true), rfl, H', ⟨by have := HJ2.out; have := HK2.out; first | omega | exact Nat.le_refl _⟩, ⟨HO_03.out⟩, ⟨HO_04.out⟩, ⟨HO_05.out⟩, ⟨BK656.out⟩, ⟨HB.out⟩⟩
      (first | rw [c22b0] | (simp only [i64_w, i32_w]; rw [c22b0]) | skip)
      replace H := Option.bind_eq_some_iff.mp H
      obtain ⟨t660, A230, H⟩ := H
      try dsimp only at H
      have A23 := K_ A230
      clear A230
      have H' := K_ H
      clear H
      obtain ⟨hcz24_0, hcz24_1, hcz24_2, hfz24_0, hfz24_1, hfz24_2⟩ := blkf3_ BK656.out
      go_wp2_with (first | (go_at_call 58; (with_reducible refine (spec_l1can.calls k2 _ _ x03_2 _ _ x04_2 _ _ x05_2 t659 t660 _ ?side1 ?side2 ?side3 ?side4 ?side5 ?side6 A23.out).mono ?_); (case side1 => repeat (first | exact (Kd.V_reads' HO_03.out).2.2 | (with_reducible refine Kd.C_alloc ?_ _) | (with_reducible refine Kd.C_drewN ?_ _) | (with_reducible refine Kd.C_drew ?_))); (case side2 => exact (Kd.V_reads' HO_03.out).2.1); (case side3 => repeat (first | exact (Kd.V_reads' HO_04.out).2.2 | (with_reducible refine Kd.C_alloc ?_ _) | (with_reducible refine Kd.C_drewN ?_ _) | (with_reducible refine Kd.C_drew ?_))); (case side4 => exact (Kd.V_reads' HO_04.out).2.1); (case side5 => repeat (first | exact (Kd.V_reads' HO_05.out).2.2 | (with_reducible refine Kd.C_alloc ?_ _) | (with_reducible refine Kd.C_drewN ?_ _) | (with_reducible refine Kd.C_drew ?_))); (case side6 => exact (Kd.V_reads' HO_05.out).2.1); rintro e w25 ⟨rfl, hb⟩; have n0_ := K_ (Kd.V_below HO_03.out hb); have n1_ := K_ (Kd.V_below HO_04.out hb); have n2_ := K_ (Kd.V_below HO_05.out hb); have n3_ := K_ (blk_below BK656.out hb); have n4_ := K_ (below_step HB.out hb); clear HO_03; clear HO_04; clear HO_05; clear BK656; clear HB; have HO_03 := n0_; have HO_04 := n1_; have HO_05 := n2_; have BK656 := n3_; have HB := n4_; clear n0_ n1_ n2_ n3_ n4_; (try clear hb); (try clear hb2); (try clear hk); (try clear hi)))
      go_meet
      case rel => exact ⟨_, (!t660), rfl, H', ⟨by have := HJ2.out; have := HK2.out; first | omega | exact Nat.le_refl _⟩, ⟨HO_03.out⟩, ⟨HO_04.out⟩, ⟨HO_05.out⟩, ⟨BK656.out⟩, ⟨HB.out⟩⟩
     case rest =>
      clear HC16
      skip
      obtain ⟨kq, x33_15, rfl, HA, HJ15, HO_03, HO_04, HO_05, BK656, HB⟩ := hcut
      cases kq with
      | zero => exact absurd HA.out (by simp [spec_Cost.j2])
      | succ kj15 =>
       have H := HA.out
       clear HA
       simp only [spec_Cost.j2] at H
       by_cases c26 : x33_15 = true
       case pos =>
        subst c26
        rw [if_pos rfl] at H
        obtain rfl := Option.some.inj H
        go_wp2
        go_ret
        exact ⟨rfl, HB.out⟩
       replace c26 := Bool.eq_false_iff.mpr c26
       subst c26
       rw [if_neg (show ¬ (false = true) by decide)] at H
       replace H := Option.bind_eq_some_iff.mp H
       obtain ⟨t661, A270, H⟩ := H
       try dsimp only at H
       have A27 := K_ A270
       clear A270
       replace H := Option.bind_eq_some_iff.mp H
       obtain ⟨⟨t662, t665, t668⟩, A280, H⟩ := H
       try dsimp only at H
       have A28 := K_ A280
       clear A280
       have H' := K_ H
       clear H
       obtain ⟨hcz29_0, hcz29_1, hcz29_2, hfz29_0, hfz29_1, hfz29_2⟩ := blkf3_ BK656.out
       go_wp2_with (first | ((with_reducible refine gate_callee (f := 71) rfl ?_); refine goesL_ (some 36) rfl rfl Try.func71 (by kernel_rfl) rfl #[.agg #[.slice Ao18 x03_2.length co18, .slice Ao19 x04_2.length co19, .slice Ao20 x05_2.length co20]] rfl (by simp only [List.map_toArray, List.map_cons, List.map_nil]; try rfl) ?_; (with_reducible refine (spec_l2weight.calls kj15 _ _ x03_2 _ _ x04_2 _ _ x05_2 t661 _ ?side1 ?side2 ?side3 ?side4 ?side5 ?side6 A27.out).mono ?_); (case side1 => exact (Kd.V_reads' HO_03.out).2.2); (case side2 => exact (Kd.V_reads' HO_03.out).2.1); (case side3 => exact (Kd.V_reads' HO_04.out).2.2); (case side4 => exact (Kd.V_reads' HO_04.out).2.1); (case side5 => exact (Kd.V_reads' HO_05.out).2.2); (case side6 => exact (Kd.V_reads' HO_05.out).2.1); rintro e w30 ⟨rfl, hb⟩; refine ⟨_, rfl, ?_⟩; replace HO_03 := K_ (Kd.V_below HO_03.out hb); replace HO_04 := K_ (Kd.V_below HO_04.out hb); replace HO_05 := K_ (Kd.V_below HO_05.out hb); replace BK656 := K_ (blk_below BK656.out hb); replace HB := K_ (below_step HB.out hb); clear hb; obtain ⟨hcz31_0, hcz31_1, hcz31_2, hfz31_0, hfz31_1, hfz31_2⟩ := blkf3_ BK656.out) | ((with_reducible refine gate_callee (f := 59) rfl ?_); refine goesL_ (some 40) rfl rfl Try.func59 (by kernel_rfl) rfl #[.agg #[.slice Ao18 x03_2.length co18, .slice Ao19 x04_2.length co19, .slice Ao20 x05_2.length co20], .int .i64 t659] rfl (by simp only [List.map_toArray, List.map_cons, List.map_nil]; try rfl) ?_; (with_reducible refine (spec_l1step.calls kj15 _ _ x03_2 _ _ x04_2 _ _ x05_2 t659 t662 t665 t668 _ ?side1 ?side2 ?side3 ?side4 ?side5 ?side6 A28.out).mono ?_); (case side1 => exact (Kd.V_reads' HO_03.out).2.2); (case side2 => exact (Kd.V_reads' HO_03.out).2.1); (case side3 => exact (Kd.V_reads' HO_04.out).2.2); (case side4 => exact (Kd.V_reads' HO_04.out).2.1); (case side5 => exact (Kd.V_reads' HO_05.out).2.2); (case side6 => exact (Kd.V_reads' HO_05.out).2.1); rintro e w32 ⟨v663, v666, v669, rfl, ho0, ho1, ho2, hb⟩; refine ⟨_, rfl, ?_⟩; have HO664 := K_ (Kd.R_lower (Kd.R_newM (M := fun k_ => (w.heap.size ≤ k_)) (Kd.R_mono (ok' := fun k_ => X_ k_ v669) ho0 (fun _ hk_ => hk_.2)) (below_size HB.out) (fun k_ h_ => h_)) (below_size HB.out)); have HO667 := K_ (Kd.N_lower (Kd.N_mono (ok' := fun k_ => ((P0_0_ k_ ∨ P0_1_ k_ ∨ P0_2_ k_) ∨ w.heap.size ≤ k_) ∧ X_ k_ v663 ∧ X_ k_ v669 ∧ k_ ≠ gb656) ho1 (fun k_ hk_ => ⟨(.inr (Nat.le_trans (below_size HB.out) hk_.1)), hk_.2.1, hk_.2.2, (Kd.freshB BK656.out k_ hk_.1)⟩)) (below_size HB.out)); have HO670 := K_ (Kd.R_lower (Kd.R_newM (M := fun k_ => (w.heap.size ≤ k_)) (Kd.R_mono (ok' := fun k_ => X_ k_ v663) ho2 (fun _ hk_ => hk_.2)) (below_size HB.out) (fun k_ h_ => h_)) (below_size HB.out)); replace HO_03 := K_ (Kd.V_mono (Kd.V_told (Kd.V_told (Kd.V_told (Kd.V_old HO_03.out hb) (Kd.R_base ho0)) (Kd.N_base ho1)) (Kd.R_base ho2)) (fun _ h_ => h_.1)); replace HO_04 := K_ (Kd.V_mono (Kd.V_told (Kd.V_told (Kd.V_told (Kd.V_old HO_04.out hb) (Kd.R_base ho0)) (Kd.N_base ho1)) (Kd.R_base ho2)) (fun _ h_ => h_.1)); replace HO_05 := K_ (Kd.V_mono (Kd.V_told (Kd.V_told (Kd.V_told (Kd.V_old HO_05.out hb) (Kd.R_base ho0)) (Kd.N_base ho1)) (Kd.R_base ho2)) (fun _ h_ => h_.1)); replace BK656 := K_ (blk_below BK656.out hb); replace HB := K_ (below_step HB.out hb); clear hb ho0 ho1 ho2; obtain ⟨Ao33, co33, eo33⟩ := Kd.R_slice HO664.out; subst eo33; obtain ⟨hcz34_0, hcz34_1, hcz34_2, hfz34_0, hfz34_1, hfz34_2⟩ := blkf3_ BK656.out; obtain ⟨Ao35, co35, eo35⟩ := Kd.N_slice HO667.out; subst eo35; obtain ⟨Ao36, co36, eo36⟩ := Kd.R_slice HO670.out; subst eo36))
       go_roundg kj15
       case measure => have := HJ2.out; have := HK2.out; have := HJ15.out; omega
       case rel => exact ⟨(wrap64 (x5_2 + t661)), (wrap64 (x19_2 + 1)), (t662), (t665), (t668), (.slice Ao33 t662.length co33), (.slice Ao35 t665.length co35), (.slice Ao36 t668.length co36), rfl, rfl, H', ⟨by have := HJ2.out; have := HK2.out; have := HJ15.out; omega⟩, ⟨Kd.V_mono (Kd.R_V (by exact Kd.R_mono (Kd.R_far (p := ⟨gb656, 2, none⟩) (Kd.R_far (p := ⟨gb656, 1, none⟩) (Kd.R_far (p := ⟨gb656, 0, none⟩) (Kd.R_types (Kd.R_types HO664.out BK656.out (by decide)) BK656.out (by decide)) (fun _ hk => hk.2) (.slice Ao33 t662.length co33)) (fun _ hk => hk.2) (.slice Ao35 t665.length co35)) (fun _ hk => hk.2) (.slice Ao36 t668.length co36)) (fun k_ hk => (⟨hk.1.1.1, hk.1.2⟩ : _ ∧ k_ ≠ gb656)))) (fun k_ hk => by first | exact ⟨(.inr (hk.1)), hk.2⟩ | exact (.inr (hk)))⟩, ⟨Kd.N_V (by exact Kd.N_mono (Kd.N_far (p := ⟨gb656, 2, none⟩) (Kd.N_far (p := ⟨gb656, 1, none⟩) (Kd.N_far (p := ⟨gb656, 0, none⟩) (Kd.N_mono HO667.out (fun k_ hk => (⟨hk, hk.2.2.2⟩ : _ ∧ k_ ≠ gb656))) (fun _ hk => hk.2) (.slice Ao33 t662.length co33)) (fun _ hk => hk.2) (.slice Ao35 t665.length co35)) (fun _ hk => hk.2) (.slice Ao36 t668.length co36)) (fun _ hk => ⟨hk.1.1, hk.1.2.2.2⟩))⟩, ⟨Kd.V_mono (Kd.R_V (by exact Kd.R_mono (Kd.R_far (p := ⟨gb656, 2, none⟩) (Kd.R_far (p := ⟨gb656, 1, none⟩) (Kd.R_far (p := ⟨gb656, 0, none⟩) (Kd.R_types (Kd.R_types HO670.out BK656.out (by decide)) BK656.out (by decide)) (fun _ hk => hk.2) (.slice Ao33 t662.length co33)) (fun _ hk => hk.2) (.slice Ao35 t665.length co35)) (fun _ hk => hk.2) (.slice Ao36 t668.length co36)) (fun k_ hk => (⟨hk.1.1.1, hk.1.2⟩ : _ ∧ k_ ≠ gb656)))) (fun k_ hk => by first | exact ⟨(.inr (hk.1)), hk.2⟩ | exact (.inr (hk)))⟩, ⟨by refine blk_put (cs := #[.slice Ao33 t662.length co33, .slice Ao35 t665.length co35, .slice Ao20 x05_2.length co20]) ?_ 2 _ rfl; refine blk_put (cs := #[.slice Ao33 t662.length co33, .slice Ao19 x04_2.length co19, .slice Ao20 x05_2.length co20]) ?_ 1 _ rfl; refine blk_put (cs := #[.slice Ao18 x03_2.length co18, .slice Ao19 x04_2.length co19, .slice Ao20 x05_2.length co20]) ?_ 0 _ rfl; exact BK656.out⟩, ⟨by repeat (first | exact HB.out | refine below_set ?_ GE656.out)⟩⟩

-- NOT PRINTED: function 11 (laws_FnBest)


end Go.Proofs.Ytpbclogjoangfaa.Q
