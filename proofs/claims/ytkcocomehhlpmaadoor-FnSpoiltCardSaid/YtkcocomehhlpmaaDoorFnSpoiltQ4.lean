-- Written by programs of this session (wip/drv.py, wip/mkclaim.py) over the kit's print; not trusted: Lean checks it.
import Derived.Test.YtkcocomehhlpmaaDoorFnSpoiltQ0
namespace Go.Proofs.YtkcocomehhlpmaaDoor.Q
open Go.RowKit Go.Proofs.YtkcocomehhlpmaaDoorW.PrintWords Go.Proofs.YtkcocomehhlpmaaDoorW.PrintLast Go.Proofs.YtkcocomehhlpmaaDoorW.PrintMore
attribute [local go_sem] max2_int min2_int max_two min_two max_three min_three max_four min_four   -- for this text's walks alone
set_option linter.unusedVariables false
set_option linter.unusedSimpArgs false

/-! ### impl_StateOk: function 11 -/
mutual
def impl_StateOk.j0 : Nat → Int → Bool → List Int → List (S48) → List Int → Option (Int)
 | 0, _, _, _, _, _ => none
 | k + 1, x3, x42, x288000, x288001, x288002 => if x42 = true then (some 1) else (impl_StateOk.l0 k x3 x288000 (x288000.length : Int) 0 x288000 x288001 x288002)
def impl_StateOk.l0 : Nat → Int → List Int → Int → Int → List Int → List (S48) → List Int → Option (Int)
 | 0, _, _, _, _, _, _, _ => none
 | k + 1, x3, x44, x45, x46, x288000, x288001, x288002 => if x46 < x45 then (if 0 ≤ x46 then (if x46 < (x44.length : Int) then (if (rd x44 x46) < 1 then (some 2) else (if (rd x44 x46) > 5 then (some 2) else (impl_StateOk.l0 k x3 x44 x45 (wrap64 (x46 + 1)) x288000 x288001 x288002))) else (none)) else (none)) else (impl_StateOk.l1 k x3 x288001 (x288001.length : Int) 0 x288000 x288001 x288002)
def impl_StateOk.l1 : Nat → Int → List (S48) → Int → Int → List Int → List (S48) → List Int → Option (Int)
 | 0, _, _, _, _, _, _, _ => none
 | k + 1, x3, x58, x59, x60, x288000, x288001, x288002 => if x60 < x59 then (if 0 ≤ x60 then (if x60 < (x58.length : Int) then (if ((rd_T48 x58 x60).f0) < 0 then (impl_StateOk.j3 k x3 x58 x59 x60 true x288000 x288001 x288002 ((rd_T48 x58 x60).f0) ((rd_T48 x58 x60).f1) ((rd_T48 x58 x60).f2)) else (if ((rd_T48 x58 x60).f0) ≥ x3 then (impl_StateOk.j3 k x3 x58 x59 x60 true x288000 x288001 x288002 ((rd_T48 x58 x60).f0) ((rd_T48 x58 x60).f1) ((rd_T48 x58 x60).f2)) else (if (((rd_T48 x58 x60).f1).length : Int) > 8 then (impl_StateOk.j3 k x3 x58 x59 x60 true x288000 x288001 x288002 ((rd_T48 x58 x60).f0) ((rd_T48 x58 x60).f1) ((rd_T48 x58 x60).f2)) else (if ((rd_T48 x58 x60).f2) < 1 then (impl_StateOk.j3 k x3 x58 x59 x60 true x288000 x288001 x288002 ((rd_T48 x58 x60).f0) ((rd_T48 x58 x60).f1) ((rd_T48 x58 x60).f2)) else (impl_StateOk.j3 k x3 x58 x59 x60 (decide (((rd_T48 x58 x60).f2) > 100)) x288000 x288001 x288002 ((rd_T48 x58 x60).f0) ((rd_T48 x58 x60).f1) ((rd_T48 x58 x60).f2)))))) else (none)) else (none)) else (impl_StateOk.l3 k x3 (-1) x288002 (x288002.length : Int) 0 x288000 x288001 x288002)
def impl_StateOk.j3 : Nat → Int → List (S48) → Int → Int → Bool → List Int → List (S48) → List Int → Int → List Int → Int → Option (Int)
 | 0, _, _, _, _, _, _, _, _, _, _, _ => none
 | k + 1, x3, x58, x59, x60, x88, x288000, x288001, x288002, x291000, x291001, x291002 => if x88 = true then (some 3) else (impl_StateOk.l2 k x3 x291000 x58 x59 x60 x291001 (x291001.length : Int) 0 x288000 x288001 x288002)
def impl_StateOk.l2 : Nat → Int → Int → List (S48) → Int → Int → List Int → Int → Int → List Int → List (S48) → List Int → Option (Int)
 | 0, _, _, _, _, _, _, _, _, _, _, _ => none
 | k + 1, x3, x8, x58, x59, x60, x92, x93, x94, x288000, x288001, x288002 => if x94 < x93 then (if 0 ≤ x94 then (if x94 < (x92.length : Int) then (if (rd x92 x94) < 0 then (some 3) else (if (rd x92 x94) ≥ x3 then (some 3) else (if (rd x92 x94) = x8 then (some 3) else (impl_StateOk.l2 k x3 (rd x92 x94) x58 x59 x60 x92 x93 (wrap64 (x94 + 1)) x288000 x288001 x288002)))) else (none)) else (none)) else (impl_StateOk.l1 k x3 x58 x59 (wrap64 (x60 + 1)) x288000 x288001 x288002)
def impl_StateOk.l3 : Nat → Int → Int → List Int → Int → Int → List Int → List (S48) → List Int → Option (Int)
 | 0, _, _, _, _, _, _, _, _ => none
 | k + 1, x3, x11, x114, x115, x116, x288000, x288001, x288002 => if x116 < x115 then (if 0 ≤ x116 then (if x116 < (x114.length : Int) then (if (rd x114 x116) ≤ x11 then (some 4) else (if (rd x114 x116) > 1000 then (some 4) else (impl_StateOk.l3 k x3 (rd x114 x116) x114 x115 (wrap64 (x116 + 1)) x288000 x288001 x288002))) else (none)) else (none)) else (if 0 ≤ x3 then (if (x3 : Int).toNat ≤ 35184372088832 then (impl_StateOk.l4 k (List.replicate (x3 : Int).toNat 0) x288001 (x288001.length : Int) 0 x288000 x288001 x288002) else (none)) else (none))
def impl_StateOk.l4 : Nat → List Int → List (S48) → Int → Int → List Int → List (S48) → List Int → Option (Int)
 | 0, _, _, _, _, _, _, _ => none
 | k + 1, x14, x132, x133, x134, x288000, x288001, x288002 => if x134 < x133 then (if 0 ≤ x134 then (if x134 < (x132.length : Int) then (if 0 ≤ ((rd_T48 x132 x134).f0) then (if ((rd_T48 x132 x134).f0) < (x14.length : Int) then (impl_StateOk.l4 k (x14.set (((rd_T48 x132 x134).f0) : Int).toNat (wrap64 ((rd x14 ((rd_T48 x132 x134).f0)) + 1))) x132 x133 (wrap64 (x134 + 1)) x288000 x288001 x288002) else (none)) else (none)) else (none)) else (none)) else (impl_StateOk.l5 k x14 (x14.length : Int) 0 x288000 x288001 x288002)
def impl_StateOk.l5 : Nat → List Int → Int → Int → List Int → List (S48) → List Int → Option (Int)
 | 0, _, _, _, _, _, _ => none
 | k + 1, x146, x147, x148, x288000, x288001, x288002 => if x148 < x147 then (if 0 ≤ x148 then (if x148 < (x146.length : Int) then (if x148 < (x288000.length : Int) then (if (rd x146 x148) > (rd x288000 x148) then (some 5) else (impl_StateOk.l5 k x146 x147 (wrap64 (x148 + 1)) x288000 x288001 x288002)) else (none)) else (none)) else (none)) else (some 0)
end
def impl_StateOk.f (k : Nat) (l0_0 : List Int) (l0_1 : List (S48)) (l0_2 : List Int) : Option (Int) := if (l0_0.length : Int) < 1 then (impl_StateOk.j0 k (l0_0.length : Int) true l0_0 l0_1 l0_2) else (if (l0_0.length : Int) > 40 then (impl_StateOk.j0 k (l0_0.length : Int) true l0_0 l0_1 l0_2) else (if (l0_1.length : Int) > 5 then (impl_StateOk.j0 k (l0_0.length : Int) true l0_0 l0_1 l0_2) else (impl_StateOk.j0 k (l0_0.length : Int) ((l0_2.length : Int) != (l0_1.length : Int)) l0_0 l0_1 l0_2)))
theorem impl_StateOk.mono_l : ∀ k, (∀ y0 y1 y2 y3 y4, LeO (impl_StateOk.j0 k y0 y1 y2 y3 y4) (impl_StateOk.j0 (k + 1) y0 y1 y2 y3 y4)) ∧ (∀ y0 y1 y2 y3 y4 y5 y6, LeO (impl_StateOk.l0 k y0 y1 y2 y3 y4 y5 y6) (impl_StateOk.l0 (k + 1) y0 y1 y2 y3 y4 y5 y6)) ∧ (∀ y0 y1 y2 y3 y4 y5 y6, LeO (impl_StateOk.l1 k y0 y1 y2 y3 y4 y5 y6) (impl_StateOk.l1 (k + 1) y0 y1 y2 y3 y4 y5 y6)) ∧ (∀ y0 y1 y2 y3 y4 y5 y6 y7 y8 y9 y10, LeO (impl_StateOk.j3 k y0 y1 y2 y3 y4 y5 y6 y7 y8 y9 y10) (impl_StateOk.j3 (k + 1) y0 y1 y2 y3 y4 y5 y6 y7 y8 y9 y10)) ∧ (∀ y0 y1 y2 y3 y4 y5 y6 y7 y8 y9 y10, LeO (impl_StateOk.l2 k y0 y1 y2 y3 y4 y5 y6 y7 y8 y9 y10) (impl_StateOk.l2 (k + 1) y0 y1 y2 y3 y4 y5 y6 y7 y8 y9 y10)) ∧ (∀ y0 y1 y2 y3 y4 y5 y6 y7, LeO (impl_StateOk.l3 k y0 y1 y2 y3 y4 y5 y6 y7) (impl_StateOk.l3 (k + 1) y0 y1 y2 y3 y4 y5 y6 y7)) ∧ (∀ y0 y1 y2 y3 y4 y5 y6, LeO (impl_StateOk.l4 k y0 y1 y2 y3 y4 y5 y6) (impl_StateOk.l4 (k + 1) y0 y1 y2 y3 y4 y5 y6)) ∧ (∀ y0 y1 y2 y3 y4 y5, LeO (impl_StateOk.l5 k y0 y1 y2 y3 y4 y5) (impl_StateOk.l5 (k + 1) y0 y1 y2 y3 y4 y5))
 | 0 => ⟨fun _ _ _ _ _ r h => by simp [impl_StateOk.j0] at h, fun _ _ _ _ _ _ _ r h => by simp [impl_StateOk.l0] at h, fun _ _ _ _ _ _ _ r h => by simp [impl_StateOk.l1] at h, fun _ _ _ _ _ _ _ _ _ _ _ r h => by simp [impl_StateOk.j3] at h, fun _ _ _ _ _ _ _ _ _ _ _ r h => by simp [impl_StateOk.l2] at h, fun _ _ _ _ _ _ _ _ r h => by simp [impl_StateOk.l3] at h, fun _ _ _ _ _ _ _ r h => by simp [impl_StateOk.l4] at h, fun _ _ _ _ _ _ r h => by simp [impl_StateOk.l5] at h⟩
 | k + 1 => by
  obtain ⟨ih0, ih1, ih2, ih3, ih4, ih5, ih6, ih7⟩ := impl_StateOk.mono_l k
  refine ⟨?_, ?_, ?_, ?_, ?_, ?_, ?_, ?_⟩
  ·intro y0 y1 y2 y3 y4
   unfold impl_StateOk.j0
   repeat' with_reducible first | exact ih0 _ _ _ _ _ | exact ih1 _ _ _ _ _ _ _ | exact ih2 _ _ _ _ _ _ _ | exact ih3 _ _ _ _ _ _ _ _ _ _ _ | exact ih4 _ _ _ _ _ _ _ _ _ _ _ | exact ih5 _ _ _ _ _ _ _ _ | exact ih6 _ _ _ _ _ _ _ | exact ih7 _ _ _ _ _ _ | exact LeO.refl _ | exact LeO.none _ | refine LeO.ite ?_ ?_ | refine LeO.bind ?_ (fun _ => ?_)
  ·intro y0 y1 y2 y3 y4 y5 y6
   unfold impl_StateOk.l0
   repeat' with_reducible first | exact ih0 _ _ _ _ _ | exact ih1 _ _ _ _ _ _ _ | exact ih2 _ _ _ _ _ _ _ | exact ih3 _ _ _ _ _ _ _ _ _ _ _ | exact ih4 _ _ _ _ _ _ _ _ _ _ _ | exact ih5 _ _ _ _ _ _ _ _ | exact ih6 _ _ _ _ _ _ _ | exact ih7 _ _ _ _ _ _ | exact LeO.refl _ | exact LeO.none _ | refine LeO.ite ?_ ?_ | refine LeO.bind ?_ (fun _ => ?_)
  ·intro y0 y1 y2 y3 y4 y5 y6
   unfold impl_StateOk.l1
   repeat' with_reducible first | exact ih0 _ _ _ _ _ | exact ih1 _ _ _ _ _ _ _ | exact ih2 _ _ _ _ _ _ _ | exact ih3 _ _ _ _ _ _ _ _ _ _ _ | exact ih4 _ _ _ _ _ _ _ _ _ _ _ | exact ih5 _ _ _ _ _ _ _ _ | exact ih6 _ _ _ _ _ _ _ | exact ih7 _ _ _ _ _ _ | exact LeO.refl _ | exact LeO.none _ | refine LeO.ite ?_ ?_ | refine LeO.bind ?_ (fun _ => ?_)
  ·intro y0 y1 y2 y3 y4 y5 y6 y7 y8 y9 y10
   unfold impl_StateOk.j3
   repeat' with_reducible first | exact ih0 _ _ _ _ _ | exact ih1 _ _ _ _ _ _ _ | exact ih2 _ _ _ _ _ _ _ | exact ih3 _ _ _ _ _ _ _ _ _ _ _ | exact ih4 _ _ _ _ _ _ _ _ _ _ _ | exact ih5 _ _ _ _ _ _ _ _ | exact ih6 _ _ _ _ _ _ _ | exact ih7 _ _ _ _ _ _ | exact LeO.refl _ | exact LeO.none _ | refine LeO.ite ?_ ?_ | refine LeO.bind ?_ (fun _ => ?_)
  ·intro y0 y1 y2 y3 y4 y5 y6 y7 y8 y9 y10
   unfold impl_StateOk.l2
   repeat' with_reducible first | exact ih0 _ _ _ _ _ | exact ih1 _ _ _ _ _ _ _ | exact ih2 _ _ _ _ _ _ _ | exact ih3 _ _ _ _ _ _ _ _ _ _ _ | exact ih4 _ _ _ _ _ _ _ _ _ _ _ | exact ih5 _ _ _ _ _ _ _ _ | exact ih6 _ _ _ _ _ _ _ | exact ih7 _ _ _ _ _ _ | exact LeO.refl _ | exact LeO.none _ | refine LeO.ite ?_ ?_ | refine LeO.bind ?_ (fun _ => ?_)
  ·intro y0 y1 y2 y3 y4 y5 y6 y7
   unfold impl_StateOk.l3
   repeat' with_reducible first | exact ih0 _ _ _ _ _ | exact ih1 _ _ _ _ _ _ _ | exact ih2 _ _ _ _ _ _ _ | exact ih3 _ _ _ _ _ _ _ _ _ _ _ | exact ih4 _ _ _ _ _ _ _ _ _ _ _ | exact ih5 _ _ _ _ _ _ _ _ | exact ih6 _ _ _ _ _ _ _ | exact ih7 _ _ _ _ _ _ | exact LeO.refl _ | exact LeO.none _ | refine LeO.ite ?_ ?_ | refine LeO.bind ?_ (fun _ => ?_)
  ·intro y0 y1 y2 y3 y4 y5 y6
   unfold impl_StateOk.l4
   repeat' with_reducible first | exact ih0 _ _ _ _ _ | exact ih1 _ _ _ _ _ _ _ | exact ih2 _ _ _ _ _ _ _ | exact ih3 _ _ _ _ _ _ _ _ _ _ _ | exact ih4 _ _ _ _ _ _ _ _ _ _ _ | exact ih5 _ _ _ _ _ _ _ _ | exact ih6 _ _ _ _ _ _ _ | exact ih7 _ _ _ _ _ _ | exact LeO.refl _ | exact LeO.none _ | refine LeO.ite ?_ ?_ | refine LeO.bind ?_ (fun _ => ?_)
  ·intro y0 y1 y2 y3 y4 y5
   unfold impl_StateOk.l5
   repeat' with_reducible first | exact ih0 _ _ _ _ _ | exact ih1 _ _ _ _ _ _ _ | exact ih2 _ _ _ _ _ _ _ | exact ih3 _ _ _ _ _ _ _ _ _ _ _ | exact ih4 _ _ _ _ _ _ _ _ _ _ _ | exact ih5 _ _ _ _ _ _ _ _ | exact ih6 _ _ _ _ _ _ _ | exact ih7 _ _ _ _ _ _ | exact LeO.refl _ | exact LeO.none _ | refine LeO.ite ?_ ?_ | refine LeO.bind ?_ (fun _ => ?_)
theorem impl_StateOk.mono : ∀ a0 a1 a2 k, LeO (impl_StateOk.f k a0 a1 a2) (impl_StateOk.f (k + 1) a0 a1 a2) := by
 intro a0 a1 a2 k
 obtain ⟨ih0, ih1, ih2, ih3, ih4, ih5, ih6, ih7⟩ := impl_StateOk.mono_l k
 unfold impl_StateOk.f
 repeat' with_reducible first | exact ih0 _ _ _ _ _ | exact ih1 _ _ _ _ _ _ _ | exact ih2 _ _ _ _ _ _ _ | exact ih3 _ _ _ _ _ _ _ _ _ _ _ | exact ih4 _ _ _ _ _ _ _ _ _ _ _ | exact ih5 _ _ _ _ _ _ _ _ | exact ih6 _ _ _ _ _ _ _ | exact ih7 _ _ _ _ _ _ | exact LeO.refl _ | exact LeO.none _ | refine LeO.ite ?_ ?_ | refine LeO.bind ?_ (fun _ => ?_)
set_option maxHeartbeats 8000000 in
set_option maxRecDepth 100000 in
theorem impl_StateOk.calls (k : Nat) (A0_0 : Option Addr) (c0_0 : Nat) (l0_0 : List Int) (A0_1 : Option Addr) (c0_1 : Nat) (l0_1 : List (S48)) (A0_2 : Option Addr) (c0_2 : Nat) (l0_2 : List Int) (r : Int) (w : World) (hr0_0 : Kd.C (Kd.int .i64) w A0_0 l0_0.length l0_0) (hc0_0 : l0_0.length ≤ c0_0) (hr0_1 : Kd.C k48 w A0_1 l0_1.length l0_1) (hc0_1 : l0_1.length ≤ c0_1) (hr0_2 : Kd.C (Kd.int .i64) w A0_2 l0_2.length l0_2) (hc0_2 : l0_2.length ≤ c0_2) (h : impl_StateOk.f k l0_0 l0_1 l0_2 = some r) :
  Calls Tryd.prog 11 #[.agg #[.slice A0_0 l0_0.length c0_0, .slice A0_1 l0_1.length c0_1, .slice A0_2 l0_2.length c0_2]] w fun e w' => e = .returned (.int .i64 r) ∧ Below w.heap.size w w' := by
 have hu30 := Tryd.underlying30
 have hu48 := Tryd.underlying48
 have HR0_0 := K_ hr0_0
 have HC0_0 := K_ hc0_0
 clear hr0_0 hc0_0
 have HR0_1 := K_ hr0_1
 have HC0_1 := K_ hc0_1
 clear hr0_1 hc0_1
 have HR0_2 := K_ hr0_2
 have HC0_2 := K_ hc0_2
 clear hr0_2 hc0_2
 have HB := K_ (Below.refl w.heap.size w)
 unfold impl_StateOk.f at h
 have H := h
 clear h
 have HC2 := K_ H
 clear H
 go_enter Tryd.func11, Tryd.ntmps11
 go_upto_region 2 with (first | ((with_reducible refine gate_dst (N := 1) rfl ?_); refine box_event (by rfl) (N := 1) (by rfl) (cs := #[.slice A0_0 l0_0.length c0_0, .slice A0_1 l0_1.length c0_1, .slice A0_2 l0_2.length c0_2]) (t := 30) (by go_simp; try rfl) ?_; intro gb287 hg w3 hbox hb; have BK287 := K_ (hbox); have GW287 := ge_ hg HB.out; have GE287 := ge_ hg HB.out; replace HB := K_ (below_step HB.out hb); clear hb hbox hg; obtain ⟨hcz4_0, hcz4_1, hcz4_2, hfz4_0, hfz4_1, hfz4_2⟩ := blkf3_ BK287.out))
 (try simp only [P_])
 go_cut [42] (fun v42 wc => ∃ (kq : Nat) (x42_1 : Bool), v42 = .bool x42_1 ∧ Aside0 (impl_StateOk.j0 kq (l0_0.length : Int) x42_1 l0_0 l0_1 l0_2 = some r) ∧ Aside0 (kq ≤ k) ∧ Aside0 (wc.heap[gb287]? = some (.cells #[(.slice A0_0 l0_0.length c0_0), (.slice A0_1 l0_1.length c0_1), (.slice A0_2 l0_2.length c0_2)] 30 (0, 0))) ∧ Aside0 (Below w.heap.size w wc))
 case first =>
  have H := HC2.out
  clear HC2
  replace H := ps_ H
  rcases H with ⟨c5, H⟩ | ⟨c5, H⟩
  case inl =>
   have c5b0 := decide_eq_true c5
   have c5b1 : decide (l0_0.length < 1) = true := decide_eq_true (by omega)
   clear c5
   (first | rw [c5b0] | (simp only [i64_w, i32_w]; rw [c5b0]) | skip)
   have H' := K_ H
   clear H
   go_wp2
   go_meet
   case rel => exact ⟨_, (true), rfl, H', ⟨by first | omega | exact Nat.le_refl _⟩, ⟨BK287.out⟩, ⟨HB.out⟩⟩
  have c5b0 := decide_eq_false c5
  have c5b1 : decide (l0_0.length < 1) = false := decide_eq_false (by omega)
  clear c5
  (first | rw [c5b0] | (simp only [i64_w, i32_w]; rw [c5b0]) | skip)
  replace H := ps_ H
  rcases H with ⟨c6, H⟩ | ⟨c6, H⟩
  case inl =>
   have c6b0 := decide_eq_true c6
   have c6b1 : decide (40 < l0_0.length) = true := decide_eq_true (by omega)
   clear c6
   have H' := K_ H
   clear H
   go_wp2
   go_meet
   case rel => exact ⟨_, (true), rfl, H', ⟨by first | omega | exact Nat.le_refl _⟩, ⟨BK287.out⟩, ⟨HB.out⟩⟩
  have c6b0 := decide_eq_false c6
  have c6b1 : decide (40 < l0_0.length) = false := decide_eq_false (by omega)
  clear c6
  replace H := ps_ H
  rcases H with ⟨c7, H⟩ | ⟨c7, H⟩
  case inr =>
   have c7b0 := decide_eq_false c7
   have c7b1 : decide (5 < l0_1.length) = false := decide_eq_false (by omega)
   clear c7
   have H' := K_ H
   clear H
   obtain ⟨hcz9_0, hcz9_1, hcz9_2, hfz9_0, hfz9_1, hfz9_2⟩ := blkf3_ BK287.out
   go_wp2
   go_meet
   case rel => exact ⟨_, (((l0_2.length : Int) != (l0_1.length : Int))), rfl, H', ⟨by first | omega | exact Nat.le_refl _⟩, ⟨BK287.out⟩, ⟨HB.out⟩⟩
  have c7b0 := decide_eq_true c7
  have c7b1 : decide (5 < l0_1.length) = true := decide_eq_true (by omega)
  clear c7
  have H' := K_ H
  clear H
  obtain ⟨hcz8_0, hcz8_1, hcz8_2, hfz8_0, hfz8_1, hfz8_2⟩ := blkf3_ BK287.out
  go_wp2
  go_meet
  case rel => exact ⟨_, (true), rfl, H', ⟨by first | omega | exact Nat.le_refl _⟩, ⟨BK287.out⟩, ⟨HB.out⟩⟩
 case rest =>
  clear HC2
  skip
  obtain ⟨kq, x42_1, rfl, HA, HJ1, BK287, HB⟩ := hcut
  cases kq with
  | zero => exact absurd HA.out (by simp [impl_StateOk.j0])
  | succ kj1 =>
   have H := HA.out
   clear HA
   simp only [impl_StateOk.j0] at H
   by_cases c10 : x42_1 = true
   case pos =>
    subst c10
    rw [if_pos rfl] at H
    obtain rfl := Option.some.inj H
    go_wp2
    go_ret
    exact ⟨rfl, HB.out⟩
   replace c10 := Bool.eq_false_iff.mpr c10
   subst c10
   rw [if_neg (show ¬ (false = true) by decide)] at H
   have H' := K_ H
   clear H
   obtain ⟨hcz11_0, hcz11_1, hcz11_2, hfz11_0, hfz11_1, hfz11_2⟩ := blkf3_ BK287.out
   go_wp2
   go_loopg [46] kj1 (fun kq v46 w' => ∃ (x46_2 : Int), v46 = .int .i64 x46_2 ∧ Aside0 (impl_StateOk.l0 kq (l0_0.length : Int) l0_0 (l0_0.length : Int) x46_2 l0_0 l0_1 l0_2 = some r) ∧ Aside0 (kq ≤ kj1) ∧ Aside0 (w'.heap[gb287]? = some (.cells #[(.slice A0_0 l0_0.length c0_0), (.slice A0_1 l0_1.length c0_1), (.slice A0_2 l0_2.length c0_2)] 30 (0, 0))) ∧ Aside0 (Below w.heap.size w w'))
   case atStart => exact ⟨(0), rfl, H', ⟨Nat.le_refl _⟩, ⟨BK287.out⟩, ⟨HB.out⟩⟩
   case round =>
    clear H'
    clear hcz11_0 hcz11_1 hcz11_2 hfz11_0 hfz11_1 hfz11_2
    obtain ⟨x46_2, rfl, HA, HK2, BK287, HB⟩ := hrel
    cases gk with
    | zero => exact absurd HA.out (by simp [impl_StateOk.l0])
    | succ k2 =>
     have H := HA.out
     clear HA
     simp only [impl_StateOk.l0] at H
     by_cases c12 : x46_2 < (l0_0.length : Int)
     case pos =>
      rw [if_pos c12] at H
      have c12b0 := decide_eq_true c12
      clear c12
      replace H := dn_ H
      obtain ⟨c13b0, H⟩ := H
      replace H := dn_ H
      obtain ⟨c14b0, H⟩ := H
      replace H := ds_ H
      rcases H with ⟨c15b0, H⟩ | ⟨c15b0, H⟩
      case inl =>
       obtain rfl := Option.some.inj H
       obtain ⟨ad288, rfl, hx288_0, p288, q288⟩ := rd_ HR0_0.out HB.out x46_2 (by assumption) (by assumption)
       go_wp2
       go_ret
       exact ⟨rfl, HB.out⟩
      replace H := ps_ H
      rcases H with ⟨c16, H⟩ | ⟨c16, H⟩
      case inl =>
       have c16b0 := decide_eq_true c16
       clear c16
       obtain rfl := Option.some.inj H
       obtain ⟨ad288, rfl, hx288_0, p288, q288⟩ := rd_ HR0_0.out HB.out x46_2 (by assumption) (by assumption)
       go_wp2
       go_ret
       exact ⟨rfl, HB.out⟩
      have c16b0 := decide_eq_false c16
      clear c16
      have H' := K_ H
      clear H
      obtain ⟨ad288, rfl, hx288_0, p288, q288⟩ := rd_ HR0_0.out HB.out x46_2 (by assumption) (by assumption)
      go_wp2
      go_roundg k2
      case measure => have := HJ1.out; have := HK2.out; omega
      case rel => exact ⟨(wrap64 (x46_2 + 1)), rfl, H', ⟨by have := HJ1.out; have := HK2.out; omega⟩, ⟨BK287.out⟩, ⟨HB.out⟩⟩
     rw [if_neg c12] at H
     have c12b0 := decide_eq_false c12
     clear c12
     have H' := K_ H
     clear H
     obtain ⟨hcz17_0, hcz17_1, hcz17_2, hfz17_0, hfz17_1, hfz17_2⟩ := blkf3_ BK287.out
     go_wp2
     go_loopg [60] k2 (fun kq v60 w' => ∃ (x60_3 : Int), v60 = .int .i64 x60_3 ∧ Aside0 (impl_StateOk.l1 kq (l0_0.length : Int) l0_1 (l0_1.length : Int) x60_3 l0_0 l0_1 l0_2 = some r) ∧ Aside0 (kq ≤ k2) ∧ Aside0 (w'.heap[gb287]? = some (.cells #[(.slice A0_0 l0_0.length c0_0), (.slice A0_1 l0_1.length c0_1), (.slice A0_2 l0_2.length c0_2)] 30 (0, 0))) ∧ Aside0 (Below w.heap.size w w'))
     case atStart => exact ⟨(0), rfl, H', ⟨Nat.le_refl _⟩, ⟨BK287.out⟩, ⟨HB.out⟩⟩
     case round =>
      clear H'
      clear c12b0 hcz17_0 hcz17_1 hcz17_2 hfz17_0 hfz17_1 hfz17_2
      obtain ⟨x60_3, rfl, HA, HK3, BK287, HB⟩ := hrel
      cases gk with
      | zero => exact absurd HA.out (by simp [impl_StateOk.l1])
      | succ k3 =>
       have H := HA.out
       clear HA
       simp only [impl_StateOk.l1] at H
       by_cases c18 : x60_3 < (l0_1.length : Int)
       case pos =>
        rw [if_pos c18] at H
        have c18b0 := decide_eq_true c18
        clear c18
        replace H := dn_ H
        obtain ⟨c19b0, H⟩ := H
        replace H := dn_ H
        obtain ⟨c20b0, H⟩ := H
        have HC21 := K_ H
        clear H
        have p289 : 0 ≤ (x60_3 : Int) := of_decide_eq_true (by assumption)
        have q289 : x60_3 < (l0_1.length : Int) := of_decide_eq_true (by assumption)
        obtain ⟨ad289, A289_1, c289_1, e289, hx289_0, hx289_1, hx289_2, hl289_1, hi289_1⟩ := at_T48 HR0_1.out x60_3 p289 q289
        cases e289
        replace hx289_0 := (HB.out.cell (World.block_lt_of_cell? w _ hx289_0)).trans hx289_0
        replace hx289_1 := (HB.out.cell (World.block_lt_of_cell? w _ hx289_1)).trans hx289_1
        replace hx289_2 := (HB.out.cell (World.block_lt_of_cell? w _ hx289_2)).trans hx289_2
        have HR289_1 := K_ hi289_1
        have HC289_1 := K_ hl289_1
        clear hi289_1 hl289_1
        replace p289 := eq_true p289
        replace q289 := eq_true q289
        go_upto_region 13 with (first | ((with_reducible refine gate_dst (N := 7) rfl ?_); refine box_event (by rfl) (N := 7) (by rfl) (cs := #[.int .i64 0, .slice none 0 0, .int .i64 0]) (t := 48) (by go_simp; try rfl) ?_; intro gb290 hg w22 hbox hb; have BK290 := K_ (hbox); have GW290 := ge_ hg HB.out; have GE290 := ge_ hg HB.out; have NB287_290 := nl_ hg BK287.out; have NB290_287 := ng_ hg BK287.out; replace BK287 := K_ (blk_below BK287.out hb); replace HB := K_ (below_step HB.out hb); clear hb hbox hg; have hnb23 := NB290_287.out; have hnc23 := NB287_290.out; obtain ⟨hcz24_0, hcz24_1, hcz24_2, hfz24_0, hfz24_1, hfz24_2⟩ := blkf3_ BK290.out))
        (try simp only [P_])
        go_cut [88] (fun v88 wc => ∃ (kq : Nat) (x88_20 : Bool), v88 = .bool x88_20 ∧ Aside0 (impl_StateOk.j3 kq (l0_0.length : Int) l0_1 (l0_1.length : Int) x60_3 x88_20 l0_0 l0_1 l0_2 ((rd_T48 l0_1 x60_3).f0) ((rd_T48 l0_1 x60_3).f1) ((rd_T48 l0_1 x60_3).f2) = some r) ∧ Aside0 (kq ≤ k3) ∧ Aside0 (wc.heap[gb287]? = some (.cells #[(.slice A0_0 l0_0.length c0_0), (.slice (some ad289) l0_1.length c0_1), (.slice A0_2 l0_2.length c0_2)] 30 (0, 0))) ∧ Aside0 (wc.heap[gb290]? = some (.cells #[.int .i64 ((rd_T48 l0_1 x60_3).f0), (.slice A289_1 ((rd_T48 l0_1 x60_3).f1).length c289_1), .int .i64 ((rd_T48 l0_1 x60_3).f2)] 48 (0, 0))) ∧ Aside0 (Below w.heap.size w wc))
        case first =>
         have H := HC21.out
         clear HC21
         replace H := ds_ H
         rcases H with ⟨c25b0, H⟩ | ⟨c25b0, H⟩
         case inl =>
          (first | rw [c25b0] | (simp only [i64_w, i32_w]; rw [c25b0]) | skip)
          have H' := K_ H
          clear H
          have hnb26 := NB290_287.out
          have hnc26 := NB287_290.out
          obtain ⟨hcz27_0, hcz27_1, hcz27_2, hfz27_0, hfz27_1, hfz27_2⟩ := blkf3_ BK290.out
          go_wp2
          go_meet
          case rel => exact ⟨_, (true), rfl, H', ⟨by have := HJ1.out; have := HK2.out; have := HK3.out; first | omega | exact Nat.le_refl _⟩, ⟨by refine blk_far ?_ NB287_290.out _; refine blk_far ?_ NB287_290.out _; refine blk_far ?_ NB287_290.out _; exact BK287.out⟩, ⟨by refine blk_put (cs := #[.int .i64 ((rd_T48 l0_1 x60_3).f0), .slice A289_1 ((rd_T48 l0_1 x60_3).f1).length c289_1, .int .i64 0]) ?_ 2 _ rfl; refine blk_put (cs := #[.int .i64 ((rd_T48 l0_1 x60_3).f0), .slice none 0 0, .int .i64 0]) ?_ 1 _ rfl; refine blk_put (cs := #[.int .i64 0, .slice none 0 0, .int .i64 0]) ?_ 0 _ rfl; exact BK290.out⟩, ⟨by repeat (first | exact HB.out | refine below_set ?_ GE287.out | refine below_set ?_ GE290.out)⟩⟩
         (first | rw [c25b0] | (simp only [i64_w, i32_w]; rw [c25b0]) | skip)
         replace H := ps_ H
         rcases H with ⟨c28, H⟩ | ⟨c28, H⟩
         case inl =>
          have c28b0 := decide_eq_true c28
          clear c28
          have H' := K_ H
          clear H
          have hnb29 := NB290_287.out
          have hnc29 := NB287_290.out
          obtain ⟨hcz30_0, hcz30_1, hcz30_2, hfz30_0, hfz30_1, hfz30_2⟩ := blkf3_ BK290.out
          go_wp2
          go_meet
          case rel => exact ⟨_, (true), rfl, H', ⟨by have := HJ1.out; have := HK2.out; have := HK3.out; first | omega | exact Nat.le_refl _⟩, ⟨by refine blk_far ?_ NB287_290.out _; refine blk_far ?_ NB287_290.out _; refine blk_far ?_ NB287_290.out _; exact BK287.out⟩, ⟨by refine blk_put (cs := #[.int .i64 ((rd_T48 l0_1 x60_3).f0), .slice A289_1 ((rd_T48 l0_1 x60_3).f1).length c289_1, .int .i64 0]) ?_ 2 _ rfl; refine blk_put (cs := #[.int .i64 ((rd_T48 l0_1 x60_3).f0), .slice none 0 0, .int .i64 0]) ?_ 1 _ rfl; refine blk_put (cs := #[.int .i64 0, .slice none 0 0, .int .i64 0]) ?_ 0 _ rfl; exact BK290.out⟩, ⟨by repeat (first | exact HB.out | refine below_set ?_ GE287.out | refine below_set ?_ GE290.out)⟩⟩
         have c28b0 := decide_eq_false c28
         clear c28
         replace H := ps_ H
         rcases H with ⟨c31, H⟩ | ⟨c31, H⟩
         case inl =>
          have c31b0 := decide_eq_true c31
          have c31b1 : decide (8 < ((rd_T48 l0_1 x60_3).f1).length) = true := decide_eq_true (by omega)
          clear c31
          have H' := K_ H
          clear H
          have hnb32 := NB290_287.out
          have hnc32 := NB287_290.out
          obtain ⟨hcz33_0, hcz33_1, hcz33_2, hfz33_0, hfz33_1, hfz33_2⟩ := blkf3_ BK290.out
          go_wp2
          go_meet
          case rel => exact ⟨_, (true), rfl, H', ⟨by have := HJ1.out; have := HK2.out; have := HK3.out; first | omega | exact Nat.le_refl _⟩, ⟨by refine blk_far ?_ NB287_290.out _; refine blk_far ?_ NB287_290.out _; refine blk_far ?_ NB287_290.out _; exact BK287.out⟩, ⟨by refine blk_put (cs := #[.int .i64 ((rd_T48 l0_1 x60_3).f0), .slice A289_1 ((rd_T48 l0_1 x60_3).f1).length c289_1, .int .i64 0]) ?_ 2 _ rfl; refine blk_put (cs := #[.int .i64 ((rd_T48 l0_1 x60_3).f0), .slice none 0 0, .int .i64 0]) ?_ 1 _ rfl; refine blk_put (cs := #[.int .i64 0, .slice none 0 0, .int .i64 0]) ?_ 0 _ rfl; exact BK290.out⟩, ⟨by repeat (first | exact HB.out | refine below_set ?_ GE287.out | refine below_set ?_ GE290.out)⟩⟩
         have c31b0 := decide_eq_false c31
         have c31b1 : decide (8 < ((rd_T48 l0_1 x60_3).f1).length) = false := decide_eq_false (by omega)
         clear c31
         replace H := ds_ H
         rcases H with ⟨c34b0, H⟩ | ⟨c34b0, H⟩
         case inr =>
          have H' := K_ H
          clear H
          have hnb37 := NB290_287.out
          have hnc37 := NB287_290.out
          obtain ⟨hcz38_0, hcz38_1, hcz38_2, hfz38_0, hfz38_1, hfz38_2⟩ := blkf3_ BK290.out
          go_wp2
          go_meet
          case rel => exact ⟨_, (decide (((rd_T48 l0_1 x60_3).f2) > 100)), rfl, H', ⟨by have := HJ1.out; have := HK2.out; have := HK3.out; first | omega | exact Nat.le_refl _⟩, ⟨by refine blk_far ?_ NB287_290.out _; refine blk_far ?_ NB287_290.out _; refine blk_far ?_ NB287_290.out _; exact BK287.out⟩, ⟨by refine blk_put (cs := #[.int .i64 ((rd_T48 l0_1 x60_3).f0), .slice A289_1 ((rd_T48 l0_1 x60_3).f1).length c289_1, .int .i64 0]) ?_ 2 _ rfl; refine blk_put (cs := #[.int .i64 ((rd_T48 l0_1 x60_3).f0), .slice none 0 0, .int .i64 0]) ?_ 1 _ rfl; refine blk_put (cs := #[.int .i64 0, .slice none 0 0, .int .i64 0]) ?_ 0 _ rfl; exact BK290.out⟩, ⟨by repeat (first | exact HB.out | refine below_set ?_ GE287.out | refine below_set ?_ GE290.out)⟩⟩
         have H' := K_ H
         clear H
         have hnb35 := NB290_287.out
         have hnc35 := NB287_290.out
         obtain ⟨hcz36_0, hcz36_1, hcz36_2, hfz36_0, hfz36_1, hfz36_2⟩ := blkf3_ BK290.out
         go_wp2
         go_meet
         case rel => exact ⟨_, (true), rfl, H', ⟨by have := HJ1.out; have := HK2.out; have := HK3.out; first | omega | exact Nat.le_refl _⟩, ⟨by refine blk_far ?_ NB287_290.out _; refine blk_far ?_ NB287_290.out _; refine blk_far ?_ NB287_290.out _; exact BK287.out⟩, ⟨by refine blk_put (cs := #[.int .i64 ((rd_T48 l0_1 x60_3).f0), .slice A289_1 ((rd_T48 l0_1 x60_3).f1).length c289_1, .int .i64 0]) ?_ 2 _ rfl; refine blk_put (cs := #[.int .i64 ((rd_T48 l0_1 x60_3).f0), .slice none 0 0, .int .i64 0]) ?_ 1 _ rfl; refine blk_put (cs := #[.int .i64 0, .slice none 0 0, .int .i64 0]) ?_ 0 _ rfl; exact BK290.out⟩, ⟨by repeat (first | exact HB.out | refine below_set ?_ GE287.out | refine below_set ?_ GE290.out)⟩⟩
        case rest =>
         clear HC21
         skip
         obtain ⟨kq, x88_20, rfl, HA, HJ20, BK287, BK290, HB⟩ := hcut
         cases kq with
         | zero => exact absurd HA.out (by simp [impl_StateOk.j3])
         | succ kj20 =>
          have H := HA.out
          clear HA
          simp only [impl_StateOk.j3] at H
          by_cases c39 : x88_20 = true
          case pos =>
           subst c39
           rw [if_pos rfl] at H
           obtain rfl := Option.some.inj H
           go_wp2
           go_ret
           exact ⟨rfl, HB.out⟩
          replace c39 := Bool.eq_false_iff.mpr c39
          subst c39
          rw [if_neg (show ¬ (false = true) by decide)] at H
          have H' := K_ H
          clear H
          have hnb40 := NB290_287.out
          have hnc40 := NB287_290.out
          obtain ⟨hcz41_0, hcz41_1, hcz41_2, hfz41_0, hfz41_1, hfz41_2⟩ := blkf3_ BK290.out
          go_wp2
          go_loopg [8, 94] kj20 (fun kq v8 v94 w' => ∃ (x8_5 : Int) (x94_5 : Int), v8 = .int .i64 x8_5 ∧ v94 = .int .i64 x94_5 ∧ Aside0 (impl_StateOk.l2 kq (l0_0.length : Int) x8_5 l0_1 (l0_1.length : Int) x60_3 ((rd_T48 l0_1 x60_3).f1) (((rd_T48 l0_1 x60_3).f1).length : Int) x94_5 l0_0 l0_1 l0_2 = some r) ∧ Aside0 (kq ≤ kj20) ∧ Aside0 (w'.heap[gb287]? = some (.cells #[(.slice A0_0 l0_0.length c0_0), (.slice (some ad289) l0_1.length c0_1), (.slice A0_2 l0_2.length c0_2)] 30 (0, 0))) ∧ Aside0 (w'.heap[gb290]? = some (.cells #[.int .i64 ((rd_T48 l0_1 x60_3).f0), (.slice A289_1 ((rd_T48 l0_1 x60_3).f1).length c289_1), .int .i64 ((rd_T48 l0_1 x60_3).f2)] 48 (0, 0))) ∧ Aside0 (Below w.heap.size w w'))
          case atStart => exact ⟨(((rd_T48 l0_1 x60_3).f0)), (0), rfl, rfl, H', ⟨Nat.le_refl _⟩, ⟨BK287.out⟩, ⟨BK290.out⟩, ⟨HB.out⟩⟩
          case round =>
           clear H'
           clear hcz41_0 hcz41_1 hcz41_2 hfz41_0 hfz41_1 hfz41_2
           obtain ⟨x8_5, x94_5, rfl, rfl, HA, HK5, BK287, BK290, HB⟩ := hrel
           cases gk with
           | zero => exact absurd HA.out (by simp [impl_StateOk.l2])
           | succ k5 =>
            have H := HA.out
            clear HA
            simp only [impl_StateOk.l2] at H
            replace H := ds_ H
            rcases H with ⟨c42b0, H⟩ | ⟨c42b0, H⟩
            case inr =>
             have H' := K_ H
             clear H
             go_wp2
             go_roundg k5
             case measure => have := HJ1.out; have := HK2.out; have := HK3.out; have := HJ20.out; have := HK5.out; omega
             case rel => exact ⟨(wrap64 (x60_3 + 1)), rfl, H', ⟨by have := HJ1.out; have := HK2.out; have := HK3.out; have := HJ20.out; have := HK5.out; omega⟩, ⟨BK287.out⟩, ⟨HB.out⟩⟩
            replace H := dn_ H
            obtain ⟨c43b0, H⟩ := H
            replace H := dn_ H
            obtain ⟨c44b0, H⟩ := H
            replace H := ds_ H
            rcases H with ⟨c45b0, H⟩ | ⟨c45b0, H⟩
            case inl =>
             obtain rfl := Option.some.inj H
             obtain ⟨ad291, rfl, hx291_0, p291, q291⟩ := rd_ HR289_1.out HB.out x94_5 (by assumption) (by assumption)
             go_wp2
             go_ret
             exact ⟨rfl, HB.out⟩
            replace H := ps_ H
            rcases H with ⟨c46, H⟩ | ⟨c46, H⟩
            case inl =>
             have c46b0 := decide_eq_true c46
             clear c46
             obtain rfl := Option.some.inj H
             obtain ⟨ad291, rfl, hx291_0, p291, q291⟩ := rd_ HR289_1.out HB.out x94_5 (by assumption) (by assumption)
             go_wp2
             go_ret
             exact ⟨rfl, HB.out⟩
            have c46b0 := decide_eq_false c46
            clear c46
            replace H := ps_ H
            rcases H with ⟨c47, H⟩ | ⟨c47, H⟩
            case inl =>
             have c47b0 := beq_iff_eq.mpr c47
             have c47b1 := bne_eq_false_iff_eq.mpr c47
             clear c47
             obtain rfl := Option.some.inj H
             obtain ⟨ad291, rfl, hx291_0, p291, q291⟩ := rd_ HR289_1.out HB.out x94_5 (by assumption) (by assumption)
             go_wp2
             go_ret
             exact ⟨rfl, HB.out⟩
            have c47b0 := beq_eq_false_iff_ne.mpr c47
            have c47b1 := bne_iff_ne.mpr c47
            have H' := K_ H
            clear H
            obtain ⟨ad291, rfl, hx291_0, p291, q291⟩ := rd_ HR289_1.out HB.out x94_5 (by assumption) (by assumption)
            go_wp2
            go_roundg k5
            case measure => have := HJ1.out; have := HK2.out; have := HK3.out; have := HJ20.out; have := HK5.out; omega
            case rel => exact ⟨(rd ((rd_T48 l0_1 x60_3).f1) x94_5), (wrap64 (x94_5 + 1)), rfl, rfl, H', ⟨by have := HJ1.out; have := HK2.out; have := HK3.out; have := HJ20.out; have := HK5.out; omega⟩, ⟨BK287.out⟩, ⟨BK290.out⟩, ⟨HB.out⟩⟩
       rw [if_neg c18] at H
       have c18b0 := decide_eq_false c18
       clear c18
       have H' := K_ H
       clear H
       obtain ⟨hcz48_0, hcz48_1, hcz48_2, hfz48_0, hfz48_1, hfz48_2⟩ := blkf3_ BK287.out
       go_wp2
       go_loopg [11, 116] k3 (fun kq v11 v116 w' => ∃ (x11_4 : Int) (x116_4 : Int), v11 = .int .i64 x11_4 ∧ v116 = .int .i64 x116_4 ∧ Aside0 (impl_StateOk.l3 kq (l0_0.length : Int) x11_4 l0_2 (l0_2.length : Int) x116_4 l0_0 l0_1 l0_2 = some r) ∧ Aside0 (kq ≤ k3) ∧ Aside0 (w'.heap[gb287]? = some (.cells #[(.slice A0_0 l0_0.length c0_0), (.slice A0_1 l0_1.length c0_1), (.slice A0_2 l0_2.length c0_2)] 30 (0, 0))) ∧ Aside0 (Below w.heap.size w w'))
       case atStart => exact ⟨((-1)), (0), rfl, rfl, H', ⟨Nat.le_refl _⟩, ⟨BK287.out⟩, ⟨HB.out⟩⟩
       case round =>
        clear H'
        clear c18b0 hcz48_0 hcz48_1 hcz48_2 hfz48_0 hfz48_1 hfz48_2
        obtain ⟨x11_4, x116_4, rfl, rfl, HA, HK4, BK287, HB⟩ := hrel
        cases gk with
        | zero => exact absurd HA.out (by simp [impl_StateOk.l3])
        | succ k4 =>
         have H := HA.out
         clear HA
         simp only [impl_StateOk.l3] at H
         by_cases c49 : x116_4 < (l0_2.length : Int)
         case pos =>
          rw [if_pos c49] at H
          have c49b0 := decide_eq_true c49
          clear c49
          replace H := dn_ H
          obtain ⟨c50b0, H⟩ := H
          replace H := dn_ H
          obtain ⟨c51b0, H⟩ := H
          replace H := ds_ H
          rcases H with ⟨c52b0, H⟩ | ⟨c52b0, H⟩
          case inl =>
           obtain rfl := Option.some.inj H
           obtain ⟨ad292, rfl, hx292_0, p292, q292⟩ := rd_ HR0_2.out HB.out x116_4 (by assumption) (by assumption)
           go_wp2
           go_ret
           exact ⟨rfl, HB.out⟩
          replace H := ps_ H
          rcases H with ⟨c53, H⟩ | ⟨c53, H⟩
          case inl =>
           have c53b0 := decide_eq_true c53
           clear c53
           obtain rfl := Option.some.inj H
           obtain ⟨ad292, rfl, hx292_0, p292, q292⟩ := rd_ HR0_2.out HB.out x116_4 (by assumption) (by assumption)
           go_wp2
           go_ret
           exact ⟨rfl, HB.out⟩
          have c53b0 := decide_eq_false c53
          clear c53
          have H' := K_ H
          clear H
          obtain ⟨ad292, rfl, hx292_0, p292, q292⟩ := rd_ HR0_2.out HB.out x116_4 (by assumption) (by assumption)
          go_wp2
          go_roundg k4
          case measure => have := HJ1.out; have := HK2.out; have := HK3.out; have := HK4.out; omega
          case rel => exact ⟨(rd l0_2 x116_4), (wrap64 (x116_4 + 1)), rfl, rfl, H', ⟨by have := HJ1.out; have := HK2.out; have := HK3.out; have := HK4.out; omega⟩, ⟨BK287.out⟩, ⟨HB.out⟩⟩
         rw [if_neg c49] at H
         have c49b0 := decide_eq_false c49
         clear c49
         replace H := pn_ H
         obtain ⟨c54, H⟩ := H
         have c54b0 := eq_true c54
         have c54b1 := decide_eq_true c54
         clear c54
         replace H := pn_ H
         obtain ⟨c55, H⟩ := H
         have c55b0 := eq_true c55
         have c55b1 := decide_eq_true c55
         clear c55
         obtain ⟨y293, hy293⟩ : ∃ y_ : List Int, y_ = (List.replicate ((l0_0.length : Int) : Int).toNat 0) := ⟨_, rfl⟩
         rw [← hy293] at H
         have Ny293 := K_ hy293
         clear hy293
         have H' := K_ H
         clear H
         go_wp2_with (first | ((with_reducible refine gate_dst (N := 130) rfl ?_); refine Kd.R_make (Kd.int .i64) _ 3 rfl (N := 130) rfl 22 _ _ rfl (l0_0.length : Int) rfl rfl Tryd.underlying22 (.int .i64 0) 8 info3 rfl (by decide) (by omega) 0 (ok := fun _ => True) (okp := fun _ => True) rfl (fun _ hk => hk) trivial (of_decide_eq_true (by assumption)) (Nat.le_trans (Nat.mul_le_mul_right _ (of_decide_eq_true (by assumption) : (l0_0.length : Int).toNat ≤ 35184372088832)) (by omega)) (Below.refl _ _) (Nat.le_refl _) ?_; intro v294 w56 ho57 hb hg_ hnew_; clear hg_ hnew_; (first | rw [← Ny293.out] at ho57 | (simp only [Int.reduceToNat] at ho57; rw [← Ny293.out] at ho57)); have HO295 := K_ (Kd.R_lower ho57 (below_size HB.out)); replace BK287 := K_ (blk_below BK287.out hb); replace HB := K_ (below_step HB.out hb); clear hb ho57; obtain ⟨hcz58_0, hcz58_1, hcz58_2, hfz58_0, hfz58_1, hfz58_2⟩ := blkf3_ BK287.out))
         go_loopg [134] k4 (fun kq v134 w' => ∃ (x14_5 : List Int) (x134_5 : Int), v134 = .int .i64 x134_5 ∧ Aside0 (impl_StateOk.l4 kq x14_5 l0_1 (l0_1.length : Int) x134_5 l0_0 l0_1 l0_2 = some r) ∧ Aside0 (kq ≤ k4) ∧ Aside0 (Kd.R (Kd.int .i64) 3 w' w.heap.size (fun _ => True) v294 x14_5) ∧ Aside0 (w'.heap[gb287]? = some (.cells #[(.slice A0_0 l0_0.length c0_0), (.slice A0_1 l0_1.length c0_1), (.slice A0_2 l0_2.length c0_2)] 30 (0, 0))) ∧ Aside0 (Below w.heap.size w w'))
         case atStart => exact ⟨(y293), (0), rfl, H', ⟨Nat.le_refl _⟩, ⟨HO295.out⟩, ⟨BK287.out⟩, ⟨HB.out⟩⟩
         case round =>
          clear H'
          clear hcz58_0 hcz58_1 hcz58_2 hfz58_0 hfz58_1 hfz58_2
          obtain ⟨x14_5, x134_5, rfl, HA, HK5, HO_14, BK287, HB⟩ := hrel
          cases gk with
          | zero => exact absurd HA.out (by simp [impl_StateOk.l4])
          | succ k5 =>
           have H := HA.out
           clear HA
           simp only [impl_StateOk.l4] at H
           by_cases c59 : x134_5 < (l0_1.length : Int)
           case pos =>
            rw [if_pos c59] at H
            have c59b0 := decide_eq_true c59
            clear c59
            replace H := dn_ H
            obtain ⟨c60b0, H⟩ := H
            replace H := dn_ H
            obtain ⟨c61b0, H⟩ := H
            replace H := dn_ H
            obtain ⟨c62b0, H⟩ := H
            replace H := dn_ H
            obtain ⟨c63b0, H⟩ := H
            obtain ⟨y299, hy299⟩ : ∃ y_ : List Int, y_ = (x14_5.set (((rd_T48 l0_1 x134_5).f0) : Int).toNat (wrap64 ((rd x14_5 ((rd_T48 l0_1 x134_5).f0)) + 1))) := ⟨_, rfl⟩
            rw [← hy299] at H
            have Ny299 := K_ hy299
            clear hy299
            have H' := K_ H
            clear H
            have p296 : 0 ≤ (x134_5 : Int) := of_decide_eq_true (by assumption)
            have q296 : x134_5 < (l0_1.length : Int) := of_decide_eq_true (by assumption)
            obtain ⟨ad296, A296_1, c296_1, e296, hx296_0, hx296_1, hx296_2, hl296_1, hi296_1⟩ := at_T48 HR0_1.out x134_5 p296 q296
            cases e296
            replace hx296_0 := (HB.out.cell (World.block_lt_of_cell? w _ hx296_0)).trans hx296_0
            replace hx296_1 := (HB.out.cell (World.block_lt_of_cell? w _ hx296_1)).trans hx296_1
            replace hx296_2 := (HB.out.cell (World.block_lt_of_cell? w _ hx296_2)).trans hx296_2
            have HR296_1 := K_ hi296_1
            have HC296_1 := K_ hl296_1
            clear hi296_1 hl296_1
            replace p296 := eq_true p296
            replace q296 := eq_true q296
            go_wp2_with (first | ((with_reducible refine gate_dst (N := 16) rfl ?_); refine box_event (by rfl) (N := 16) (by rfl) (cs := #[.int .i64 0, .slice none 0 0, .int .i64 0]) (t := 48) (by go_simp; try rfl) ?_; intro gb297 hg w65 hbox hb; have BK297 := K_ (hbox); have GW297 := ge_ hg HB.out; have GE297 := ge_ hg HB.out; have NB287_297 := nl_ hg BK287.out; have NB297_287 := ng_ hg BK287.out; replace HO_14 := K_ (Kd.R_below HO_14.out hb); replace BK287 := K_ (blk_below BK287.out hb); replace HB := K_ (below_step HB.out hb); clear hb hbox hg; have hnb66 := NB297_287.out; have hnc66 := NB287_297.out; obtain ⟨hcz67_0, hcz67_1, hcz67_2, hfz67_0, hfz67_1, hfz67_2⟩ := blkf3_ BK297.out) | ((with_reducible refine gate_store (t := 48) (p := 16) rfl ?_); refine store_event (t := 48) (p := 16) (v := ?vo_w68) (w1 := (((w65.setCell ⟨gb297, 0, none⟩ (.int .i64 ((rd_T48 l0_1 x134_5).f0))).setCell ⟨gb297, 1, none⟩ (.slice A296_1 ((rd_T48 l0_1 x134_5).f1).length c296_1)).setCell ⟨gb297, 2, none⟩ (.int .i64 ((rd_T48 l0_1 x134_5).f2)))) ?hg ?ho ?hn ?hr ?_; (case ho => rfl); (case hg => rfl); (case hn => rfl); (case hr => go_simp; try rfl); intro w68 hw; replace HO_14 : Aside0 (Kd.R (Kd.int .i64) 3 w68 w.heap.size (fun _ => True) v294 x14_5) := ⟨(by rw [hw]; exact (by exact Kd.R_mono (Kd.R_far (p := ⟨gb297, 2, none⟩) (Kd.R_far (p := ⟨gb297, 1, none⟩) (Kd.R_far (p := ⟨gb297, 0, none⟩) (Kd.R_types HO_14.out BK297.out (by decide)) (fun _ hk => hk.2) (.int .i64 ((rd_T48 l0_1 x134_5).f0))) (fun _ hk => hk.2) (.slice A296_1 ((rd_T48 l0_1 x134_5).f1).length c296_1)) (fun _ hk => hk.2) (.int .i64 ((rd_T48 l0_1 x134_5).f2))) (fun _ hk => trivial)))⟩; replace BK287 : Aside0 (w68.heap[gb287]? = some (.cells #[.slice A0_0 l0_0.length c0_0, .slice (some ad296) l0_1.length c0_1, .slice A0_2 l0_2.length c0_2] 30 (0, 0))) := ⟨(by rw [hw]; exact (by refine blk_far ?_ NB287_297.out _; refine blk_far ?_ NB287_297.out _; refine blk_far ?_ NB287_297.out _; exact BK287.out))⟩; replace BK297 : Aside0 (w68.heap[gb297]? = some (.cells #[.int .i64 ((rd_T48 l0_1 x134_5).f0), .slice A296_1 ((rd_T48 l0_1 x134_5).f1).length c296_1, .int .i64 ((rd_T48 l0_1 x134_5).f2)] 48 (0, 0))) := ⟨(by rw [hw]; exact (by refine blk_put (cs := #[.int .i64 ((rd_T48 l0_1 x134_5).f0), .slice A296_1 ((rd_T48 l0_1 x134_5).f1).length c296_1, .int .i64 0]) ?_ 2 _ rfl; refine blk_put (cs := #[.int .i64 ((rd_T48 l0_1 x134_5).f0), .slice none 0 0, .int .i64 0]) ?_ 1 _ rfl; refine blk_put (cs := #[.int .i64 0, .slice none 0 0, .int .i64 0]) ?_ 0 _ rfl; exact BK297.out))⟩; replace HB : Aside0 (Below w.heap.size w w68) := ⟨(by rw [hw]; exact (by repeat (first | exact HB.out | refine below_set ?_ GE287.out | refine below_set ?_ GE297.out)))⟩; clear hw; obtain ⟨hcz69_0, hcz69_1, hcz69_2, hfz69_0, hfz69_1, hfz69_2⟩ := blkf3_ BK297.out; obtain ⟨Ao70, co70, eo70⟩ := Kd.R_slice HO_14.out; subst eo70; have p298 : 0 ≤ (((rd_T48 l0_1 x134_5).f0) : Int) := of_decide_eq_true (by assumption); have q298 : ((rd_T48 l0_1 x134_5).f0) < (x14_5.length : Int) := of_decide_eq_true (by assumption); obtain ⟨ad298, e298, hx298_0⟩ := Kd.at_int (Kd.R_reads' HO_14.out).2.2 ((rd_T48 l0_1 x134_5).f0) p298 q298; cases e298; replace p298 := eq_true p298; replace q298 := eq_true q298; have p64 : 0 ≤ (((rd_T48 l0_1 x134_5).f0) : Int) := of_decide_eq_true (by assumption); have q64 : (((rd_T48 l0_1 x134_5).f0) : Int) < ((x14_5.length : Int) : Int) := of_decide_eq_true (by assumption); obtain ⟨go64, co64, eo64, gb64, gl64, cl64, HG64⟩ := Kd.R_form HO_14.out (by omega); (first | cases eo64 | (injection eo64 with ea_ en_ ec_; (first | subst ea_ | (injection ea_ with ea_; subst ea_)); subst ec_; clear en_)); have GB64 := K_ gb64; have GG64 := K_ HG64; clear gb64 gl64 HG64; (first | simp only [add_plain] at hx298_0 | skip); obtain ⟨hx64_0, hf64_0⟩ := Kd.R_celln 0 HO_14.out (((rd_T48 l0_1 x134_5).f0) : Int) p64 q64; replace p64 := eq_true p64; replace q64 := eq_true q64; obtain ⟨hy71_, hz71_⟩ := Kd.R_celln 0 HO_14.out (((rd_T48 l0_1 x134_5).f0) : Int) (of_decide_eq_true (by assumption)) (of_decide_eq_true (by assumption)); have HP71 := Kd.R_putg HO_14.out (((rd_T48 l0_1 x134_5).f0) : Int) (wrap64 ((rd x14_5 ((rd_T48 l0_1 x134_5).f0)) + 1))) | ((with_reducible refine gate_store (t := 3) (p := 144) rfl ?_); refine store_event (t := 3) (p := 144) (v := ?vo_w72) (w1 := (w68.setCell ⟨go64, (((rd_T48 l0_1 x134_5).f0) : Int).toNat, none⟩ (.int .i64 (wrap64 ((rd x14_5 ((rd_T48 l0_1 x134_5).f0)) + 1))))) ?hg ?ho ?hn ?hr ?_; (case ho => rfl); (case hg => rfl); (case hn => rfl); (case hr => go_simp; try rfl); intro w72 hw; have hg : w68.grownBy w72 (some go64) := (by rw [hw]; exact HP71.2); have hp_ : Kd.R (Kd.int .i64) 3 w72 w.heap.size (fun _ => True) (.slice (some ⟨go64, 0, none⟩) x14_5.length co70) y299 := (by rw [hw, Ny299.out]; exact HP71.1); clear HP71; replace BK287 := K_ (blk_grown BK287.out hg (Kd.R_ne HO_14.out BK287.out (by decide))); replace BK297 := K_ (blk_grown BK297.out hg (Kd.R_ne HO_14.out BK297.out (by decide))); replace HO_14 := K_ (hp_); replace HB := K_ ((by rw [hw]; exact below_set (HB.out) GB64.out : Below w.heap.size w w72)); clear hg hw hp_))
            go_roundg k5
            case measure => have := HJ1.out; have := HK2.out; have := HK3.out; have := HK4.out; have := HK5.out; omega
            case rel => exact ⟨(y299), (wrap64 (x134_5 + 1)), rfl, H', ⟨by have := HJ1.out; have := HK2.out; have := HK3.out; have := HK4.out; have := HK5.out; omega⟩, ⟨HO_14.out⟩, ⟨BK287.out⟩, ⟨HB.out⟩⟩
           rw [if_neg c59] at H
           have c59b0 := decide_eq_false c59
           clear c59
           have H' := K_ H
           clear H
           obtain ⟨Ao73, co73, eo73⟩ := Kd.R_slice HO_14.out
           subst eo73
           go_wp2
           go_loopg [148] k5 (fun kq v148 w' => ∃ (x148_6 : Int), v148 = .int .i64 x148_6 ∧ Aside0 (impl_StateOk.l5 kq x14_5 (x14_5.length : Int) x148_6 l0_0 l0_1 l0_2 = some r) ∧ Aside0 (kq ≤ k5) ∧ Aside0 (Kd.R (Kd.int .i64) 3 w' w.heap.size (fun _ => True) (.slice Ao73 x14_5.length co73) x14_5) ∧ Aside0 (w'.heap[gb287]? = some (.cells #[(.slice A0_0 l0_0.length c0_0), (.slice A0_1 l0_1.length c0_1), (.slice A0_2 l0_2.length c0_2)] 30 (0, 0))) ∧ Aside0 (Below w.heap.size w w'))
           case atStart => exact ⟨(0), rfl, H', ⟨Nat.le_refl _⟩, ⟨HO_14.out⟩, ⟨BK287.out⟩, ⟨HB.out⟩⟩
           case round =>
            clear H'
            clear c59b0
            obtain ⟨x148_6, rfl, HA, HK6, HO_146, BK287, HB⟩ := hrel
            cases gk with
            | zero => exact absurd HA.out (by simp [impl_StateOk.l5])
            | succ k6 =>
             have H := HA.out
             clear HA
             simp only [impl_StateOk.l5] at H
             replace H := ds_ H
             rcases H with ⟨c74b0, H⟩ | ⟨c74b0, H⟩
             case inr =>
              obtain rfl := Option.some.inj H
              go_wp2
              go_ret
              exact ⟨rfl, HB.out⟩
             replace H := dn_ H
             obtain ⟨c75b0, H⟩ := H
             replace H := dn_ H
             obtain ⟨c76b0, H⟩ := H
             replace H := dn_ H
             obtain ⟨c77b0, H⟩ := H
             replace H := ps_ H
             rcases H with ⟨c78, H⟩ | ⟨c78, H⟩
             case inl =>
              have c78b0 := decide_eq_true c78
              clear c78
              obtain rfl := Option.some.inj H
              have p300 : 0 ≤ (x148_6 : Int) := of_decide_eq_true (by assumption)
              have q300 : x148_6 < (x14_5.length : Int) := of_decide_eq_true (by assumption)
              obtain ⟨ad300, e300, hx300_0⟩ := Kd.at_int (Kd.R_reads' HO_146.out).2.2 x148_6 p300 q300
              cases e300
              replace p300 := eq_true p300
              replace q300 := eq_true q300
              obtain ⟨hcz79_0, hcz79_1, hcz79_2, hfz79_0, hfz79_1, hfz79_2⟩ := blkf3_ BK287.out
              obtain ⟨ad301, rfl, hx301_0, p301, q301⟩ := rd_ HR0_0.out HB.out x148_6 (by assumption) (by assumption)
              go_wp2
              go_ret
              exact ⟨rfl, HB.out⟩
             have c78b0 := decide_eq_false c78
             clear c78
             have H' := K_ H
             clear H
             have p300 : 0 ≤ (x148_6 : Int) := of_decide_eq_true (by assumption)
             have q300 : x148_6 < (x14_5.length : Int) := of_decide_eq_true (by assumption)
             obtain ⟨ad300, e300, hx300_0⟩ := Kd.at_int (Kd.R_reads' HO_146.out).2.2 x148_6 p300 q300
             cases e300
             replace p300 := eq_true p300
             replace q300 := eq_true q300
             obtain ⟨hcz80_0, hcz80_1, hcz80_2, hfz80_0, hfz80_1, hfz80_2⟩ := blkf3_ BK287.out
             obtain ⟨ad301, rfl, hx301_0, p301, q301⟩ := rd_ HR0_0.out HB.out x148_6 (by assumption) (by assumption)
             go_wp2
             go_roundg k6
             case measure => have := HJ1.out; have := HK2.out; have := HK3.out; have := HK4.out; have := HK5.out; have := HK6.out; omega
             case rel => exact ⟨(wrap64 (x148_6 + 1)), rfl, H', ⟨by have := HJ1.out; have := HK2.out; have := HK3.out; have := HK4.out; have := HK5.out; have := HK6.out; omega⟩, ⟨HO_146.out⟩, ⟨BK287.out⟩, ⟨HB.out⟩⟩


/-! ### spec_l4decimal: function 21 -/
def spec_l4decimal.l0 : Nat → Int → ByteArray → Option (ByteArray)
 | 0, _, _ => none
 | k + 1, x0, x3 => if x0 > 0 then ((some (([(wrap64 (48 + (Int.tmod x0 10))) % 256] : List Int) : List Int)).bind fun y127 => (if (strOfNums y127).size + x3.size ≤ 9223372036854775807 then (spec_l4decimal.l0 k (wrap64 (Int.tdiv x0 10)) ((strOfNums y127) ++ x3)) else (none))) else (some x3)
def spec_l4decimal.f (k : Nat) (a0 : Int) : Option (ByteArray) := if a0 = 0 then (some (⟨#[48]⟩ : ByteArray)) else (spec_l4decimal.l0 k a0 (⟨#[]⟩ : ByteArray))
theorem spec_l4decimal.mono_l : ∀ k, (∀ y0 y1, LeO (spec_l4decimal.l0 k y0 y1) (spec_l4decimal.l0 (k + 1) y0 y1))
 | 0 => fun _ _ r h => by simp [spec_l4decimal.l0] at h
 | k + 1 => by
  have ih0 := spec_l4decimal.mono_l k
  ·intro y0 y1
   unfold spec_l4decimal.l0
   repeat' with_reducible first | exact ih0 _ _ | exact LeO.refl _ | exact LeO.none _ | refine LeO.ite ?_ ?_ | refine LeO.bind ?_ (fun _ => ?_)
theorem spec_l4decimal.mono : ∀ a0 k, LeO (spec_l4decimal.f k a0) (spec_l4decimal.f (k + 1) a0) := by
 intro a0 k
 have ih0 := spec_l4decimal.mono_l k
 unfold spec_l4decimal.f
 repeat' with_reducible first | exact ih0 _ _ | exact LeO.refl _ | exact LeO.none _ | refine LeO.ite ?_ ?_ | refine LeO.bind ?_ (fun _ => ?_)
set_option maxHeartbeats 8000000 in
set_option maxRecDepth 100000 in
theorem spec_l4decimal.calls (k : Nat) (a0 : Int) (r : ByteArray) (w : World) (h : spec_l4decimal.f k a0 = some r) :
  Calls Tryd.prog 21 #[.int .i64 a0] w fun e w' => e = .returned (.string r) ∧ Below w.heap.size w w' := by
 have HB := K_ (Below.refl w.heap.size w)
 unfold spec_l4decimal.f at h
 have H := h
 clear h
 replace H := ps_ H
 rcases H with ⟨c2, H⟩ | ⟨c2, H⟩
 case inl =>
  have c2b0 := beq_iff_eq.mpr c2
  have c2b1 := bne_eq_false_iff_eq.mpr c2
  clear c2
  obtain rfl := Option.some.inj H
  go_enter Tryd.func21, Tryd.ntmps21
  go_wp2
  go_ret
  exact ⟨rfl, HB.out⟩
 have c2b0 := beq_eq_false_iff_ne.mpr c2
 have c2b1 := bne_iff_ne.mpr c2
 have H' := K_ H
 clear H
 go_enter Tryd.func21, Tryd.ntmps21
 go_wp2
 go_loopg [0, 3] k (fun kq v0 v3 w' => ∃ (x0_1 : Int) (x3_1 : ByteArray), v0 = .int .i64 x0_1 ∧ v3 = .string x3_1 ∧ Aside0 (spec_l4decimal.l0 kq x0_1 x3_1 = some r) ∧ Aside0 (kq ≤ k) ∧ Aside0 (Below w.heap.size w w'))
 case atStart => exact ⟨(a0), ((⟨#[]⟩ : ByteArray)), rfl, rfl, H', ⟨Nat.le_refl _⟩, ⟨HB.out⟩⟩
 case round =>
  clear H'
  clear c2b0 c2b1
  obtain ⟨x0_1, x3_1, rfl, rfl, HA, HK1, HB⟩ := hrel
  cases gk with
  | zero => exact absurd HA.out (by simp [spec_l4decimal.l0])
  | succ k1 =>
   have H := HA.out
   clear HA
   simp only [spec_l4decimal.l0] at H
   replace H := ps_ H
   rcases H with ⟨c3, H⟩ | ⟨c3, H⟩
   case inr =>
    have c3b0 := decide_eq_false c3
    clear c3
    obtain rfl := Option.some.inj H
    go_wp2
    go_ret
    exact ⟨rfl, HB.out⟩
   have c3b0 := decide_eq_true c3
   clear c3
   replace H := nm_ H
   obtain ⟨y127, Ny127, H⟩ := H
   replace H := pn_ H
   obtain ⟨c4, H⟩ := H
   have c4b0 := eq_true c4
   have c4b1 := decide_eq_true c4
   try have c4b2 : (9223372036854775807 < (strOfNums y127).size + x3_1.size) = False := eq_false (Nat.not_lt.2 c4)
   have H' := K_ H
   clear H
   go_wp2_with (first | ((with_reducible refine gate_dst (N := 12) rfl ?_); refine Kd.R_lit (Kd.int .u8) _ 5 ?hg (N := 12) ?hd (xs := ([(wrap64 (48 + (Int.tmod x0_1 10))) % 256] : List Int)) (inner := [.int .u8 ((wrap64 (48 + (Int.tmod x0_1 10))) % 256)]) (ok := fun _ => True) (okp := fun _ => True) ?hr ?hp (fun _ hk => hk) trivial (Below.refl _ _) (Nat.le_refl _) (by simp) ?_; (case hd => rfl); (case hg => rfl); (case hr => go_simp; try rfl); (case hp => exact (Reps.one (show Kd.M (Kd.int .u8) _ _ _ ((wrap64 (48 + (Int.tmod x0_1 10))) % 256) [.int .u8 ((wrap64 (48 + (Int.tmod x0_1 10))) % 256)] from rfl) (Reps.none _ _))); intro v128 w5 ho6 hb hg_ hnew_; clear hg_ hnew_; (first | rw [← Ny127.out] at ho6 | (simp only [Int.reduceToNat] at ho6; rw [← Ny127.out] at ho6)); have HO129 := K_ (Kd.R_lower ho6 (below_size HB.out)); replace HB := K_ (below_step HB.out hb); clear hb ho6; have hcv7 := own_string (P := Tryd.prog) Tryd.underlying34 Tryd.underlying5 Tryd.underlying9 (Kd.own_of_R HO129.out)))
   go_roundg k1
   case measure => have := HK1.out; omega
   case rel => exact ⟨(wrap64 (Int.tdiv x0_1 10)), ((strOfNums y127) ++ x3_1), rfl, rfl, H', ⟨by have := HK1.out; omega⟩, ⟨HB.out⟩⟩


end Go.Proofs.YtkcocomehhlpmaaDoor.Q
