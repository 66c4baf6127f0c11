-- Written by programs of this session (wip/drv.py, wip/mkclaim.py) over the kit's print; not trusted: Lean checks it.
import Derived.Test.YtkcocomehhlpmaaDoorFnSpoiltQ0
import Derived.Test.YtkcocomehhlpmaaDoorFnSpoiltQ2
namespace Go.Proofs.YtkcocomehhlpmaaDoor.Q
open Go.RowKit Go.Proofs.YtkcocomehhlpmaaDoorW.PrintWords Go.Proofs.YtkcocomehhlpmaaDoorW.PrintLast Go.Proofs.YtkcocomehhlpmaaDoorW.PrintMore
attribute [local go_sem] max2_int min2_int max_two min_two max_three min_three max_four min_four   -- for this text's walks alone
set_option linter.unusedVariables false
set_option linter.unusedSimpArgs false

/-! ### spec_StateOk: function 12 -/
mutual
def spec_StateOk.j0 : Nat → Bool → List Int → List (S48) → List Int → Option (Int)
 | 0, _, _, _, _ => none
 | k + 1, x33, x113000, x113001, x113002 => if x33 = true then (some 1) else (spec_StateOk.l0 k x113000 (x113000.length : Int) 0 x113000 x113001 x113002)
def spec_StateOk.l0 : Nat → List Int → Int → Int → List Int → List (S48) → List Int → Option (Int)
 | 0, _, _, _, _, _, _ => none
 | k + 1, x35, x36, x37, x113000, x113001, x113002 => if x37 < x36 then (if 0 ≤ x37 then (if x37 < (x35.length : Int) then ((spec_l1in.f (rd x35 x37) 1 5).bind fun t115 => (if t115 = true then (spec_StateOk.l0 k x35 x36 (wrap64 (x37 + 1)) x113000 x113001 x113002) else (some 2))) else (none)) else (none)) else (spec_StateOk.l1 k x113001 (x113001.length : Int) 0 x113000 x113001 x113002)
def spec_StateOk.l1 : Nat → List (S48) → Int → Int → List Int → List (S48) → List Int → Option (Int)
 | 0, _, _, _, _, _, _ => none
 | k + 1, x46, x47, x48, x113000, x113001, x113002 => if x48 < x47 then (if 0 ≤ x48 then (if x48 < (x46.length : Int) then ((spec_l1in.f ((rd_T48 x46 x48).f0) 0 (wrap64 ((x113000.length : Int) - 1))).bind fun t118 => (if t118 = true then (if (((rd_T48 x46 x48).f1).length : Int) > 8 then (spec_StateOk.j3 k x46 x47 x48 true x113000 x113001 x113002 ((rd_T48 x46 x48).f0) ((rd_T48 x46 x48).f1) ((rd_T48 x46 x48).f2)) else ((spec_l1in.f ((rd_T48 x46 x48).f2) 1 100).bind fun t119 => (spec_StateOk.j3 k x46 x47 x48 (!t119) x113000 x113001 x113002 ((rd_T48 x46 x48).f0) ((rd_T48 x46 x48).f1) ((rd_T48 x46 x48).f2)))) else (spec_StateOk.j3 k x46 x47 x48 true x113000 x113001 x113002 ((rd_T48 x46 x48).f0) ((rd_T48 x46 x48).f1) ((rd_T48 x46 x48).f2)))) else (none)) else (none)) else (spec_StateOk.l3 k x113002 (x113002.length : Int) 0 x113000 x113001 x113002)
def spec_StateOk.j3 : Nat → List (S48) → Int → Int → Bool → List Int → List (S48) → List Int → Int → List Int → Int → Option (Int)
 | 0, _, _, _, _, _, _, _, _, _, _ => none
 | k + 1, x46, x47, x48, x71, x113000, x113001, x113002, x118000, x118001, x118002 => if x71 = true then (some 3) else (spec_StateOk.l2 k x118000 x46 x47 x48 x118001 (x118001.length : Int) 0 x113000 x113001 x113002)
def spec_StateOk.l2 : Nat → Int → List (S48) → Int → Int → List Int → Int → Int → List Int → List (S48) → List Int → Option (Int)
 | 0, _, _, _, _, _, _, _, _, _, _ => none
 | k + 1, x7, x46, x47, x48, x75, x76, x77, x113000, x113001, x113002 => if x77 < x76 then (if 0 ≤ x77 then (if x77 < (x75.length : Int) then ((spec_l1in.f (rd x75 x77) 0 (wrap64 ((x113000.length : Int) - 1))).bind fun t121 => (if t121 = true then (if (rd x75 x77) = x7 then (some 3) else (spec_StateOk.l2 k (rd x75 x77) x46 x47 x48 x75 x76 (wrap64 (x77 + 1)) x113000 x113001 x113002)) else (some 3))) else (none)) else (none)) else (spec_StateOk.l1 k x46 x47 (wrap64 (x48 + 1)) x113000 x113001 x113002)
def spec_StateOk.l3 : Nat → List Int → Int → Int → List Int → List (S48) → List Int → Option (Int)
 | 0, _, _, _, _, _, _ => none
 | k + 1, x97, x98, x99, x113000, x113001, x113002 => if x99 < x98 then (if 0 ≤ x99 then (if x99 < (x97.length : Int) then ((spec_l1in.f (rd x97 x99) 0 1000).bind fun t123 => (if t123 = true then (if x99 > 0 then (if 0 ≤ (wrap64 (x99 - 1)) then (if (wrap64 (x99 - 1)) < (x113002.length : Int) then (if (rd x97 x99) ≤ (rd x113002 (wrap64 (x99 - 1))) then (some 4) else (spec_StateOk.l3 k x97 x98 (wrap64 (x99 + 1)) x113000 x113001 x113002)) else (none)) else (none)) else (spec_StateOk.l3 k x97 x98 (wrap64 (x99 + 1)) x113000 x113001 x113002)) else (some 4))) else (none)) else (none)) else (spec_StateOk.l4 k x113000 (x113000.length : Int) 0 x113000 x113001 x113002)
def spec_StateOk.l4 : Nat → List Int → Int → Int → List Int → List (S48) → List Int → Option (Int)
 | 0, _, _, _, _, _, _ => none
 | k + 1, x123, x124, x125, x113000, x113001, x113002 => if x125 < x124 then (if 0 ≤ x125 then (if x125 < (x123.length : Int) then ((spec_l1there.f k x113000 x113001 x113002 x125).bind fun t126 => (if t126 > (rd x123 x125) then (some 5) else (spec_StateOk.l4 k x123 x124 (wrap64 (x125 + 1)) x113000 x113001 x113002))) else (none)) else (none)) else (some 0)
end
def spec_StateOk.f (k : Nat) (l0_0 : List Int) (l0_1 : List (S48)) (l0_2 : List Int) : Option (Int) := (spec_l1in.f (l0_0.length : Int) 1 40).bind fun t113 => (if t113 = true then (if (l0_1.length : Int) > 5 then (spec_StateOk.j0 k true l0_0 l0_1 l0_2) else (spec_StateOk.j0 k ((l0_2.length : Int) != (l0_1.length : Int)) l0_0 l0_1 l0_2)) else (spec_StateOk.j0 k true l0_0 l0_1 l0_2))
theorem spec_StateOk.mono_l : ∀ k, (∀ y0 y1 y2 y3, LeO (spec_StateOk.j0 k y0 y1 y2 y3) (spec_StateOk.j0 (k + 1) y0 y1 y2 y3)) ∧ (∀ y0 y1 y2 y3 y4 y5, LeO (spec_StateOk.l0 k y0 y1 y2 y3 y4 y5) (spec_StateOk.l0 (k + 1) y0 y1 y2 y3 y4 y5)) ∧ (∀ y0 y1 y2 y3 y4 y5, LeO (spec_StateOk.l1 k y0 y1 y2 y3 y4 y5) (spec_StateOk.l1 (k + 1) y0 y1 y2 y3 y4 y5)) ∧ (∀ y0 y1 y2 y3 y4 y5 y6 y7 y8 y9, LeO (spec_StateOk.j3 k y0 y1 y2 y3 y4 y5 y6 y7 y8 y9) (spec_StateOk.j3 (k + 1) y0 y1 y2 y3 y4 y5 y6 y7 y8 y9)) ∧ (∀ y0 y1 y2 y3 y4 y5 y6 y7 y8 y9, LeO (spec_StateOk.l2 k y0 y1 y2 y3 y4 y5 y6 y7 y8 y9) (spec_StateOk.l2 (k + 1) y0 y1 y2 y3 y4 y5 y6 y7 y8 y9)) ∧ (∀ y0 y1 y2 y3 y4 y5, LeO (spec_StateOk.l3 k y0 y1 y2 y3 y4 y5) (spec_StateOk.l3 (k + 1) y0 y1 y2 y3 y4 y5)) ∧ (∀ y0 y1 y2 y3 y4 y5, LeO (spec_StateOk.l4 k y0 y1 y2 y3 y4 y5) (spec_StateOk.l4 (k + 1) y0 y1 y2 y3 y4 y5))
 | 0 => ⟨fun _ _ _ _ r h => by simp [spec_StateOk.j0] at h, fun _ _ _ _ _ _ r h => by simp [spec_StateOk.l0] at h, fun _ _ _ _ _ _ r h => by simp [spec_StateOk.l1] at h, fun _ _ _ _ _ _ _ _ _ _ r h => by simp [spec_StateOk.j3] at h, fun _ _ _ _ _ _ _ _ _ _ r h => by simp [spec_StateOk.l2] at h, fun _ _ _ _ _ _ r h => by simp [spec_StateOk.l3] at h, fun _ _ _ _ _ _ r h => by simp [spec_StateOk.l4] at h⟩
 | k + 1 => by
  obtain ⟨ih0, ih1, ih2, ih3, ih4, ih5, ih6⟩ := spec_StateOk.mono_l k
  refine ⟨?_, ?_, ?_, ?_, ?_, ?_, ?_⟩
  ·intro y0 y1 y2 y3
   unfold spec_StateOk.j0
   repeat' with_reducible first | exact ih0 _ _ _ _ | exact ih1 _ _ _ _ _ _ | exact ih2 _ _ _ _ _ _ | exact ih3 _ _ _ _ _ _ _ _ _ _ | exact ih4 _ _ _ _ _ _ _ _ _ _ | exact ih5 _ _ _ _ _ _ | exact ih6 _ _ _ _ _ _ | exact spec_l1there.mono _ _ _ _ _ | exact LeO.refl _ | exact LeO.none _ | refine LeO.ite ?_ ?_ | refine LeO.bind ?_ (fun _ => ?_)
  ·intro y0 y1 y2 y3 y4 y5
   unfold spec_StateOk.l0
   repeat' with_reducible first | exact ih0 _ _ _ _ | exact ih1 _ _ _ _ _ _ | exact ih2 _ _ _ _ _ _ | exact ih3 _ _ _ _ _ _ _ _ _ _ | exact ih4 _ _ _ _ _ _ _ _ _ _ | exact ih5 _ _ _ _ _ _ | exact ih6 _ _ _ _ _ _ | exact spec_l1there.mono _ _ _ _ _ | exact LeO.refl _ | exact LeO.none _ | refine LeO.ite ?_ ?_ | refine LeO.bind ?_ (fun _ => ?_)
  ·intro y0 y1 y2 y3 y4 y5
   unfold spec_StateOk.l1
   repeat' with_reducible first | exact ih0 _ _ _ _ | exact ih1 _ _ _ _ _ _ | exact ih2 _ _ _ _ _ _ | exact ih3 _ _ _ _ _ _ _ _ _ _ | exact ih4 _ _ _ _ _ _ _ _ _ _ | exact ih5 _ _ _ _ _ _ | exact ih6 _ _ _ _ _ _ | exact spec_l1there.mono _ _ _ _ _ | exact LeO.refl _ | exact LeO.none _ | refine LeO.ite ?_ ?_ | refine LeO.bind ?_ (fun _ => ?_)
  ·intro y0 y1 y2 y3 y4 y5 y6 y7 y8 y9
   unfold spec_StateOk.j3
   repeat' with_reducible first | exact ih0 _ _ _ _ | exact ih1 _ _ _ _ _ _ | exact ih2 _ _ _ _ _ _ | exact ih3 _ _ _ _ _ _ _ _ _ _ | exact ih4 _ _ _ _ _ _ _ _ _ _ | exact ih5 _ _ _ _ _ _ | exact ih6 _ _ _ _ _ _ | exact spec_l1there.mono _ _ _ _ _ | exact LeO.refl _ | exact LeO.none _ | refine LeO.ite ?_ ?_ | refine LeO.bind ?_ (fun _ => ?_)
  ·intro y0 y1 y2 y3 y4 y5 y6 y7 y8 y9
   unfold spec_StateOk.l2
   repeat' with_reducible first | exact ih0 _ _ _ _ | exact ih1 _ _ _ _ _ _ | exact ih2 _ _ _ _ _ _ | exact ih3 _ _ _ _ _ _ _ _ _ _ | exact ih4 _ _ _ _ _ _ _ _ _ _ | exact ih5 _ _ _ _ _ _ | exact ih6 _ _ _ _ _ _ | exact spec_l1there.mono _ _ _ _ _ | exact LeO.refl _ | exact LeO.none _ | refine LeO.ite ?_ ?_ | refine LeO.bind ?_ (fun _ => ?_)
  ·intro y0 y1 y2 y3 y4 y5
   unfold spec_StateOk.l3
   repeat' with_reducible first | exact ih0 _ _ _ _ | exact ih1 _ _ _ _ _ _ | exact ih2 _ _ _ _ _ _ | exact ih3 _ _ _ _ _ _ _ _ _ _ | exact ih4 _ _ _ _ _ _ _ _ _ _ | exact ih5 _ _ _ _ _ _ | exact ih6 _ _ _ _ _ _ | exact spec_l1there.mono _ _ _ _ _ | exact LeO.refl _ | exact LeO.none _ | refine LeO.ite ?_ ?_ | refine LeO.bind ?_ (fun _ => ?_)
  ·intro y0 y1 y2 y3 y4 y5
   unfold spec_StateOk.l4
   repeat' with_reducible first | exact ih0 _ _ _ _ | exact ih1 _ _ _ _ _ _ | exact ih2 _ _ _ _ _ _ | exact ih3 _ _ _ _ _ _ _ _ _ _ | exact ih4 _ _ _ _ _ _ _ _ _ _ | exact ih5 _ _ _ _ _ _ | exact ih6 _ _ _ _ _ _ | exact spec_l1there.mono _ _ _ _ _ | exact LeO.refl _ | exact LeO.none _ | refine LeO.ite ?_ ?_ | refine LeO.bind ?_ (fun _ => ?_)
theorem spec_StateOk.mono : ∀ a0 a1 a2 k, LeO (spec_StateOk.f k a0 a1 a2) (spec_StateOk.f (k + 1) a0 a1 a2) := by
 intro a0 a1 a2 k
 obtain ⟨ih0, ih1, ih2, ih3, ih4, ih5, ih6⟩ := spec_StateOk.mono_l k
 unfold spec_StateOk.f
 repeat' with_reducible first | exact ih0 _ _ _ _ | exact ih1 _ _ _ _ _ _ | exact ih2 _ _ _ _ _ _ | exact ih3 _ _ _ _ _ _ _ _ _ _ | exact ih4 _ _ _ _ _ _ _ _ _ _ | exact ih5 _ _ _ _ _ _ | exact ih6 _ _ _ _ _ _ | exact spec_l1there.mono _ _ _ _ _ | exact LeO.refl _ | exact LeO.none _ | refine LeO.ite ?_ ?_ | refine LeO.bind ?_ (fun _ => ?_)
set_option maxHeartbeats 8000000 in
set_option maxRecDepth 100000 in
theorem spec_StateOk.calls (k : Nat) (A0_0 : Option Addr) (c0_0 : Nat) (l0_0 : List Int) (A0_1 : Option Addr) (c0_1 : Nat) (l0_1 : List (S48)) (A0_2 : Option Addr) (c0_2 : Nat) (l0_2 : List Int) (r : Int) (w : World) (hr0_0 : Kd.C (Kd.int .i64) w A0_0 l0_0.length l0_0) (hc0_0 : l0_0.length ≤ c0_0) (hr0_1 : Kd.C k48 w A0_1 l0_1.length l0_1) (hc0_1 : l0_1.length ≤ c0_1) (hr0_2 : Kd.C (Kd.int .i64) w A0_2 l0_2.length l0_2) (hc0_2 : l0_2.length ≤ c0_2) (h : spec_StateOk.f k l0_0 l0_1 l0_2 = some r) :
  Calls Tryd.prog 12 #[.agg #[.slice A0_0 l0_0.length c0_0, .slice A0_1 l0_1.length c0_1, .slice A0_2 l0_2.length c0_2]] w fun e w' => e = .returned (.int .i64 r) ∧ Below w.heap.size w w' := by
 have hu30 := Tryd.underlying30
 have hu48 := Tryd.underlying48
 have HR0_0 := K_ hr0_0
 have HC0_0 := K_ hc0_0
 clear hr0_0 hc0_0
 have HR0_1 := K_ hr0_1
 have HC0_1 := K_ hc0_1
 clear hr0_1 hc0_1
 have HR0_2 := K_ hr0_2
 have HC0_2 := K_ hc0_2
 clear hr0_2 hc0_2
 have HB := K_ (Below.refl w.heap.size w)
 unfold spec_StateOk.f at h
 have H := h
 clear h
 have HC2 := K_ H
 clear H
 go_enter Tryd.func12, Tryd.ntmps12
 go_upto_region 1 with (first | ((with_reducible refine gate_dst (N := 1) rfl ?_); refine box_event (by rfl) (N := 1) (by rfl) (cs := #[.slice A0_0 l0_0.length c0_0, .slice A0_1 l0_1.length c0_1, .slice A0_2 l0_2.length c0_2]) (t := 30) (by go_simp; try rfl) ?_; intro gb112 hg w3 hbox hb; have BK112 := K_ (hbox); have GW112 := ge_ hg HB.out; have GE112 := ge_ hg HB.out; replace HB := K_ (below_step HB.out hb); clear hb hbox hg))
 (try simp only [P_])
 go_cut [33] (fun v33 wc => ∃ (kq : Nat) (x33_1 : Bool), v33 = .bool x33_1 ∧ Aside0 (spec_StateOk.j0 kq x33_1 l0_0 l0_1 l0_2 = some r) ∧ Aside0 (kq ≤ k) ∧ Aside0 (wc.heap[gb112]? = some (.cells #[(.slice A0_0 l0_0.length c0_0), (.slice A0_1 l0_1.length c0_1), (.slice A0_2 l0_2.length c0_2)] 30 (0, 0))) ∧ Aside0 (Below w.heap.size w wc))
 case first =>
  have H := HC2.out
  clear HC2
  replace H := Option.bind_eq_some_iff.mp H
  obtain ⟨t113, A40, H⟩ := H
  try dsimp only at H
  have A4 := K_ A40
  clear A40
  by_cases c5 : t113 = true
  case neg =>
   replace c5 := Bool.eq_false_iff.mpr c5
   subst c5
   rw [if_neg (show ¬ (false = true) by decide)] at H
   have H' := K_ H
   clear H
   obtain ⟨hcz9_0, hcz9_1, hcz9_2, hfz9_0, hfz9_1, hfz9_2⟩ := blkf3_ BK112.out
   go_wp2_with (first | ((with_reducible refine gate_callee (f := 37) rfl ?_); refine goesL_ (some 17) rfl rfl Tryd.func37 (by kernel_rfl) rfl #[.int .i64 (l0_0.length : Int), .int .i64 1, .int .i64 40] rfl (by simp only [List.map_toArray, List.map_cons, List.map_nil]; try rfl) ?_; (with_reducible refine (spec_l1in.calls (l0_0.length : Int) 1 40 false _ A4.out).mono ?_); rintro e w' ⟨rfl, ⟨nd, rfl⟩⟩; refine ⟨_, rfl, ?_⟩))
   go_meet
   case rel => exact ⟨_, (true), (by first | rfl | (simp; done) | (simp [*]; done)), H', ⟨by first | omega | exact Nat.le_refl _⟩, ⟨by (with_reducible repeat (first | refine blk_drewN ?_ _ | refine blk_drew ?_ | refine blk_alloc ?_ _)); exact BK112.out⟩, ⟨by repeat (first | (with_reducible first | exact HB.out | apply below_alloc | apply pw_below_drewN | apply below_drew1 | refine below_set ?_ GE112.out) | exact HB.out)⟩⟩
  subst c5
  rw [if_pos rfl] at H
  replace H := ps_ H
  rcases H with ⟨c6, H⟩ | ⟨c6, H⟩
  case inr =>
   have c6b0 := decide_eq_false c6
   have c6b1 : decide (5 < l0_1.length) = false := decide_eq_false (by omega)
   clear c6
   (first | rw [c6b0] | (simp only [i64_w, i32_w]; rw [c6b0]) | skip)
   have H' := K_ H
   clear H
   obtain ⟨hcz8_0, hcz8_1, hcz8_2, hfz8_0, hfz8_1, hfz8_2⟩ := blkf3_ BK112.out
   go_wp2_with (first | ((with_reducible refine gate_callee (f := 37) rfl ?_); refine goesL_ (some 17) rfl rfl Tryd.func37 (by kernel_rfl) rfl #[.int .i64 (l0_0.length : Int), .int .i64 1, .int .i64 40] rfl (by simp only [List.map_toArray, List.map_cons, List.map_nil]; try rfl) ?_; (with_reducible refine (spec_l1in.calls (l0_0.length : Int) 1 40 true _ A4.out).mono ?_); rintro e w' ⟨rfl, ⟨nd, rfl⟩⟩; refine ⟨_, rfl, ?_⟩))
   go_meet
   case rel => exact ⟨_, (((l0_2.length : Int) != (l0_1.length : Int))), (by first | rfl | (simp; done) | (simp [*]; done)), H', ⟨by first | omega | exact Nat.le_refl _⟩, ⟨by (with_reducible repeat (first | refine blk_drewN ?_ _ | refine blk_drew ?_ | refine blk_alloc ?_ _)); exact BK112.out⟩, ⟨by repeat (first | (with_reducible first | exact HB.out | apply below_alloc | apply pw_below_drewN | apply below_drew1 | refine below_set ?_ GE112.out) | exact HB.out)⟩⟩
  have c6b0 := decide_eq_true c6
  have c6b1 : decide (5 < l0_1.length) = true := decide_eq_true (by omega)
  clear c6
  (first | rw [c6b0] | (simp only [i64_w, i32_w]; rw [c6b0]) | skip)
  have H' := K_ H
  clear H
  obtain ⟨hcz7_0, hcz7_1, hcz7_2, hfz7_0, hfz7_1, hfz7_2⟩ := blkf3_ BK112.out
  go_wp2_with (first | ((with_reducible refine gate_callee (f := 37) rfl ?_); refine goesL_ (some 17) rfl rfl Tryd.func37 (by kernel_rfl) rfl #[.int .i64 (l0_0.length : Int), .int .i64 1, .int .i64 40] rfl (by simp only [List.map_toArray, List.map_cons, List.map_nil]; try rfl) ?_; (with_reducible refine (spec_l1in.calls (l0_0.length : Int) 1 40 true _ A4.out).mono ?_); rintro e w' ⟨rfl, ⟨nd, rfl⟩⟩; refine ⟨_, rfl, ?_⟩))
  go_meet
  case rel => exact ⟨_, (true), (by first | rfl | (simp; done) | (simp [*]; done)), H', ⟨by first | omega | exact Nat.le_refl _⟩, ⟨by (with_reducible repeat (first | refine blk_drewN ?_ _ | refine blk_drew ?_ | refine blk_alloc ?_ _)); exact BK112.out⟩, ⟨by repeat (first | (with_reducible first | exact HB.out | apply below_alloc | apply pw_below_drewN | apply below_drew1 | refine below_set ?_ GE112.out) | exact HB.out)⟩⟩
 case rest =>
  clear HC2
  skip
  obtain ⟨kq, x33_1, rfl, HA, HJ1, BK112, HB⟩ := hcut
  cases kq with
  | zero => exact absurd HA.out (by simp [spec_StateOk.j0])
  | succ kj1 =>
   have H := HA.out
   clear HA
   simp only [spec_StateOk.j0] at H
   by_cases c10 : x33_1 = true
   case pos =>
    subst c10
    rw [if_pos rfl] at H
    obtain rfl := Option.some.inj H
    go_wp2
    go_ret
    exact ⟨rfl, HB.out⟩
   replace c10 := Bool.eq_false_iff.mpr c10
   subst c10
   rw [if_neg (show ¬ (false = true) by decide)] at H
   have H' := K_ H
   clear H
   obtain ⟨hcz11_0, hcz11_1, hcz11_2, hfz11_0, hfz11_1, hfz11_2⟩ := blkf3_ BK112.out
   go_wp2
   go_loopg [37] kj1 (fun kq v37 w' => ∃ (x37_2 : Int), v37 = .int .i64 x37_2 ∧ Aside0 (spec_StateOk.l0 kq l0_0 (l0_0.length : Int) x37_2 l0_0 l0_1 l0_2 = some r) ∧ Aside0 (kq ≤ kj1) ∧ Aside0 (w'.heap[gb112]? = some (.cells #[(.slice A0_0 l0_0.length c0_0), (.slice A0_1 l0_1.length c0_1), (.slice A0_2 l0_2.length c0_2)] 30 (0, 0))) ∧ Aside0 (Below w.heap.size w w'))
   case atStart => exact ⟨(0), rfl, H', ⟨Nat.le_refl _⟩, ⟨BK112.out⟩, ⟨HB.out⟩⟩
   case round =>
    clear H'
    clear hcz11_0 hcz11_1 hcz11_2 hfz11_0 hfz11_1 hfz11_2
    obtain ⟨x37_2, rfl, HA, HK2, BK112, HB⟩ := hrel
    cases gk with
    | zero => exact absurd HA.out (by simp [spec_StateOk.l0])
    | succ k2 =>
     have H := HA.out
     clear HA
     simp only [spec_StateOk.l0] at H
     by_cases c12 : x37_2 < (l0_0.length : Int)
     case pos =>
      rw [if_pos c12] at H
      have c12b0 := decide_eq_true c12
      clear c12
      replace H := dn_ H
      obtain ⟨c13b0, H⟩ := H
      replace H := dn_ H
      obtain ⟨c14b0, H⟩ := H
      replace H := Option.bind_eq_some_iff.mp H
      obtain ⟨t115, A150, H⟩ := H
      try dsimp only at H
      have A15 := K_ A150
      clear A150
      by_cases c16 : t115 = true
      case neg =>
       replace c16 := Bool.eq_false_iff.mpr c16
       subst c16
       rw [if_neg (show ¬ (false = true) by decide)] at H
       obtain rfl := Option.some.inj H
       obtain ⟨ad114, rfl, hx114_0, p114, q114⟩ := rd_ HR0_0.out HB.out x37_2 (by assumption) (by assumption)
       go_wp2_with (first | ((with_reducible refine gate_callee (f := 37) rfl ?_); refine goesL_ (some 42) rfl rfl Tryd.func37 (by kernel_rfl) rfl #[.int .i64 (rd l0_0 x37_2), .int .i64 1, .int .i64 5] rfl (by simp only [List.map_toArray, List.map_cons, List.map_nil]; try rfl) ?_; (with_reducible refine (spec_l1in.calls (rd l0_0 x37_2) 1 5 false _ A15.out).mono ?_); rintro e w' ⟨rfl, ⟨nd, rfl⟩⟩; refine ⟨_, rfl, ?_⟩))
       go_ret
       exact ⟨by first | rfl | (simp [errW_none, errW_some] <;> rfl) | (simp [*, errW_none, errW_some] <;> rfl), by repeat (first | (with_reducible first | exact HB.out | apply below_alloc | apply pw_below_drewN | apply below_drew1 | refine below_set ?_ GE112.out) | exact HB.out)⟩
      subst c16
      rw [if_pos rfl] at H
      have H' := K_ H
      clear H
      obtain ⟨ad114, rfl, hx114_0, p114, q114⟩ := rd_ HR0_0.out HB.out x37_2 (by assumption) (by assumption)
      go_wp2_with (first | ((with_reducible refine gate_callee (f := 37) rfl ?_); refine goesL_ (some 42) rfl rfl Tryd.func37 (by kernel_rfl) rfl #[.int .i64 (rd l0_0 x37_2), .int .i64 1, .int .i64 5] rfl (by simp only [List.map_toArray, List.map_cons, List.map_nil]; try rfl) ?_; (with_reducible refine (spec_l1in.calls (rd l0_0 x37_2) 1 5 true _ A15.out).mono ?_); rintro e w' ⟨rfl, ⟨nd, rfl⟩⟩; refine ⟨_, rfl, ?_⟩))
      go_roundg k2
      case measure => have := HJ1.out; have := HK2.out; omega
      case rel => exact ⟨(wrap64 (x37_2 + 1)), (by first | rfl | (simp; done) | (simp [*]; done)), H', ⟨by have := HJ1.out; have := HK2.out; omega⟩, ⟨by (with_reducible repeat (first | refine blk_drewN ?_ _ | refine blk_drew ?_ | refine blk_alloc ?_ _)); exact BK112.out⟩, ⟨by repeat (first | (with_reducible first | exact HB.out | apply below_alloc | apply pw_below_drewN | apply below_drew1 | refine below_set ?_ GE112.out) | exact HB.out)⟩⟩
     rw [if_neg c12] at H
     have c12b0 := decide_eq_false c12
     clear c12
     have H' := K_ H
     clear H
     obtain ⟨hcz17_0, hcz17_1, hcz17_2, hfz17_0, hfz17_1, hfz17_2⟩ := blkf3_ BK112.out
     go_wp2
     go_loopg [48] k2 (fun kq v48 w' => ∃ (x48_3 : Int), v48 = .int .i64 x48_3 ∧ Aside0 (spec_StateOk.l1 kq l0_1 (l0_1.length : Int) x48_3 l0_0 l0_1 l0_2 = some r) ∧ Aside0 (kq ≤ k2) ∧ Aside0 (w'.heap[gb112]? = some (.cells #[(.slice A0_0 l0_0.length c0_0), (.slice A0_1 l0_1.length c0_1), (.slice A0_2 l0_2.length c0_2)] 30 (0, 0))) ∧ Aside0 (Below w.heap.size w w'))
     case atStart => exact ⟨(0), rfl, H', ⟨Nat.le_refl _⟩, ⟨BK112.out⟩, ⟨HB.out⟩⟩
     case round =>
      clear H'
      clear c12b0 hcz17_0 hcz17_1 hcz17_2 hfz17_0 hfz17_1 hfz17_2
      obtain ⟨x48_3, rfl, HA, HK3, BK112, HB⟩ := hrel
      cases gk with
      | zero => exact absurd HA.out (by simp [spec_StateOk.l1])
      | succ k3 =>
       have H := HA.out
       clear HA
       simp only [spec_StateOk.l1] at H
       by_cases c18 : x48_3 < (l0_1.length : Int)
       case pos =>
        rw [if_pos c18] at H
        have c18b0 := decide_eq_true c18
        clear c18
        replace H := dn_ H
        obtain ⟨c19b0, H⟩ := H
        replace H := dn_ H
        obtain ⟨c20b0, H⟩ := H
        have HC21 := K_ H
        clear H
        have p116 : 0 ≤ (x48_3 : Int) := of_decide_eq_true (by assumption)
        have q116 : x48_3 < (l0_1.length : Int) := of_decide_eq_true (by assumption)
        obtain ⟨ad116, A116_1, c116_1, e116, hx116_0, hx116_1, hx116_2, hl116_1, hi116_1⟩ := at_T48 HR0_1.out x48_3 p116 q116
        cases e116
        replace hx116_0 := (HB.out.cell (World.block_lt_of_cell? w _ hx116_0)).trans hx116_0
        replace hx116_1 := (HB.out.cell (World.block_lt_of_cell? w _ hx116_1)).trans hx116_1
        replace hx116_2 := (HB.out.cell (World.block_lt_of_cell? w _ hx116_2)).trans hx116_2
        have HR116_1 := K_ hi116_1
        have HC116_1 := K_ hl116_1
        clear hi116_1 hl116_1
        replace p116 := eq_true p116
        replace q116 := eq_true q116
        go_upto_region 12 with (first | ((with_reducible refine gate_dst (N := 6) rfl ?_); refine box_event (by rfl) (N := 6) (by rfl) (cs := #[.int .i64 0, .slice none 0 0, .int .i64 0]) (t := 48) (by go_simp; try rfl) ?_; intro gb117 hg w22 hbox hb; have BK117 := K_ (hbox); have GW117 := ge_ hg HB.out; have GE117 := ge_ hg HB.out; have NB112_117 := nl_ hg BK112.out; have NB117_112 := ng_ hg BK112.out; replace BK112 := K_ (blk_below BK112.out hb); replace HB := K_ (below_step HB.out hb); clear hb hbox hg; have hnb23 := NB117_112.out; have hnc23 := NB112_117.out; obtain ⟨hcz24_0, hcz24_1, hcz24_2, hfz24_0, hfz24_1, hfz24_2⟩ := blkf3_ BK117.out))
        (try simp only [P_])
        go_cut [71] (fun v71 wc => ∃ (kq : Nat) (x71_20 : Bool), v71 = .bool x71_20 ∧ Aside0 (spec_StateOk.j3 kq l0_1 (l0_1.length : Int) x48_3 x71_20 l0_0 l0_1 l0_2 ((rd_T48 l0_1 x48_3).f0) ((rd_T48 l0_1 x48_3).f1) ((rd_T48 l0_1 x48_3).f2) = some r) ∧ Aside0 (kq ≤ k3) ∧ Aside0 (wc.heap[gb112]? = some (.cells #[(.slice A0_0 l0_0.length c0_0), (.slice (some ad116) l0_1.length c0_1), (.slice A0_2 l0_2.length c0_2)] 30 (0, 0))) ∧ Aside0 (wc.heap[gb117]? = some (.cells #[.int .i64 ((rd_T48 l0_1 x48_3).f0), (.slice A116_1 ((rd_T48 l0_1 x48_3).f1).length c116_1), .int .i64 ((rd_T48 l0_1 x48_3).f2)] 48 (0, 0))) ∧ Aside0 (Below w.heap.size w wc))
        case first =>
         have H := HC21.out
         clear HC21
         replace H := Option.bind_eq_some_iff.mp H
         obtain ⟨t118, A250, H⟩ := H
         try dsimp only at H
         have A25 := K_ A250
         clear A250
         by_cases c26 : t118 = true
         case neg =>
          replace c26 := Bool.eq_false_iff.mpr c26
          subst c26
          rw [if_neg (show ¬ (false = true) by decide)] at H
          have H' := K_ H
          clear H
          have hnb35 := NB117_112.out
          have hnc35 := NB112_117.out
          obtain ⟨hcz36_0, hcz36_1, hcz36_2, hfz36_0, hfz36_1, hfz36_2⟩ := blkf3_ BK117.out
          obtain ⟨hcz37_0, hcz37_1, hcz37_2, hfz37_0, hfz37_1, hfz37_2⟩ := blkf3_ BK112.out
          go_wp2_with (first | ((with_reducible refine gate_callee (f := 37) rfl ?_); refine goesL_ (some 58) rfl rfl Tryd.func37 (by kernel_rfl) rfl #[.int .i64 ((rd_T48 l0_1 x48_3).f0), .int .i64 0, .int .i64 (wrap64 ((l0_0.length : Int) - 1))] rfl (by simp only [List.map_toArray, List.map_cons, List.map_nil]; try rfl) ?_; (with_reducible refine (spec_l1in.calls ((rd_T48 l0_1 x48_3).f0) 0 (wrap64 ((l0_0.length : Int) - 1)) false _ A25.out).mono ?_); rintro e w' ⟨rfl, ⟨nd, rfl⟩⟩; refine ⟨_, rfl, ?_⟩))
          go_meet
          case rel => exact ⟨_, (true), (by first | rfl | (simp; done) | (simp [*]; done)), H', ⟨by have := HJ1.out; have := HK2.out; have := HK3.out; first | omega | exact Nat.le_refl _⟩, ⟨by (with_reducible repeat (first | refine blk_drewN ?_ _ | refine blk_drew ?_ | refine blk_alloc ?_ _)); refine blk_far ?_ NB112_117.out _; refine blk_far ?_ NB112_117.out _; refine blk_far ?_ NB112_117.out _; exact BK112.out⟩, ⟨by (with_reducible repeat (first | refine blk_drewN ?_ _ | refine blk_drew ?_ | refine blk_alloc ?_ _)); refine blk_put (cs := #[.int .i64 ((rd_T48 l0_1 x48_3).f0), .slice A116_1 ((rd_T48 l0_1 x48_3).f1).length c116_1, .int .i64 0]) ?_ 2 _ rfl; refine blk_put (cs := #[.int .i64 ((rd_T48 l0_1 x48_3).f0), .slice none 0 0, .int .i64 0]) ?_ 1 _ rfl; refine blk_put (cs := #[.int .i64 0, .slice none 0 0, .int .i64 0]) ?_ 0 _ rfl; exact BK117.out⟩, ⟨by repeat (first | (with_reducible first | exact HB.out | apply below_alloc | apply pw_below_drewN | apply below_drew1 | refine below_set ?_ GE112.out | refine below_set ?_ GE117.out) | exact HB.out)⟩⟩
         subst c26
         rw [if_pos rfl] at H
         replace H := ps_ H
         rcases H with ⟨c27, H⟩ | ⟨c27, H⟩
         case inl =>
          have c27b0 := decide_eq_true c27
          have c27b1 : decide (8 < ((rd_T48 l0_1 x48_3).f1).length) = true := decide_eq_true (by omega)
          clear c27
          (first | rw [c27b0] | (simp only [i64_w, i32_w]; rw [c27b0]) | skip)
          have H' := K_ H
          clear H
          have hnb28 := NB117_112.out
          have hnc28 := NB112_117.out
          obtain ⟨hcz29_0, hcz29_1, hcz29_2, hfz29_0, hfz29_1, hfz29_2⟩ := blkf3_ BK117.out
          obtain ⟨hcz30_0, hcz30_1, hcz30_2, hfz30_0, hfz30_1, hfz30_2⟩ := blkf3_ BK112.out
          go_wp2_with (first | ((with_reducible refine gate_callee (f := 37) rfl ?_); refine goesL_ (some 58) rfl rfl Tryd.func37 (by kernel_rfl) rfl #[.int .i64 ((rd_T48 l0_1 x48_3).f0), .int .i64 0, .int .i64 (wrap64 ((l0_0.length : Int) - 1))] rfl (by simp only [List.map_toArray, List.map_cons, List.map_nil]; try rfl) ?_; (with_reducible refine (spec_l1in.calls ((rd_T48 l0_1 x48_3).f0) 0 (wrap64 ((l0_0.length : Int) - 1)) true _ A25.out).mono ?_); rintro e w' ⟨rfl, ⟨nd, rfl⟩⟩; refine ⟨_, rfl, ?_⟩))
          go_meet
          case rel => exact ⟨_, (true), (by first | rfl | (simp; done) | (simp [*]; done)), H', ⟨by have := HJ1.out; have := HK2.out; have := HK3.out; first | omega | exact Nat.le_refl _⟩, ⟨by (with_reducible repeat (first | refine blk_drewN ?_ _ | refine blk_drew ?_ | refine blk_alloc ?_ _)); refine blk_far ?_ NB112_117.out _; refine blk_far ?_ NB112_117.out _; refine blk_far ?_ NB112_117.out _; exact BK112.out⟩, ⟨by (with_reducible repeat (first | refine blk_drewN ?_ _ | refine blk_drew ?_ | refine blk_alloc ?_ _)); refine blk_put (cs := #[.int .i64 ((rd_T48 l0_1 x48_3).f0), .slice A116_1 ((rd_T48 l0_1 x48_3).f1).length c116_1, .int .i64 0]) ?_ 2 _ rfl; refine blk_put (cs := #[.int .i64 ((rd_T48 l0_1 x48_3).f0), .slice none 0 0, .int .i64 0]) ?_ 1 _ rfl; refine blk_put (cs := #[.int .i64 0, .slice none 0 0, .int .i64 0]) ?_ 0 _ rfl; exact BK117.out⟩, ⟨by repeat (first | (with_reducible first | exact HB.out | apply below_alloc | apply pw_below_drewN | apply below_drew1 | refine below_set ?_ GE112.out | refine below_set ?_ GE117.out) | exact HB.out)⟩⟩
         have c27b0 := decide_eq_false c27
         have c27b1 : decide (8 < ((rd_T48 l0_1 x48_3).f1).length) = false := decide_eq_false (by omega)
         clear c27
         (first | rw [c27b0] | (simp only [i64_w, i32_w]; rw [c27b0]) | skip)
         replace H := Option.bind_eq_some_iff.mp H
         obtain ⟨t119, A310, H⟩ := H
         try dsimp only at H
         have A31 := K_ A310
         clear A310
         have H' := K_ H
         clear H
         have hnb32 := NB117_112.out
         have hnc32 := NB112_117.out
         obtain ⟨hcz33_0, hcz33_1, hcz33_2, hfz33_0, hfz33_1, hfz33_2⟩ := blkf3_ BK117.out
         obtain ⟨hcz34_0, hcz34_1, hcz34_2, hfz34_0, hfz34_1, hfz34_2⟩ := blkf3_ BK112.out
         go_wp2_with (first | ((with_reducible refine gate_callee (f := 37) rfl ?_); refine goesL_ (some 58) rfl rfl Tryd.func37 (by kernel_rfl) rfl #[.int .i64 ((rd_T48 l0_1 x48_3).f0), .int .i64 0, .int .i64 (wrap64 ((l0_0.length : Int) - 1))] rfl (by simp only [List.map_toArray, List.map_cons, List.map_nil]; try rfl) ?_; (with_reducible refine (spec_l1in.calls ((rd_T48 l0_1 x48_3).f0) 0 (wrap64 ((l0_0.length : Int) - 1)) true _ A25.out).mono ?_); rintro e w' ⟨rfl, ⟨nd, rfl⟩⟩; refine ⟨_, rfl, ?_⟩) | (go_at_call 37; (with_reducible refine (spec_l1in.calls ((rd_T48 l0_1 x48_3).f2) 1 100 t119 _ A31.out).mono ?_); rintro e w' ⟨rfl, ⟨nd, rfl⟩⟩))
         go_meet
         case rel => exact ⟨_, (!t119), (by first | rfl | (simp; done) | (simp [*]; done)), H', ⟨by have := HJ1.out; have := HK2.out; have := HK3.out; first | omega | exact Nat.le_refl _⟩, ⟨by (with_reducible repeat (first | refine blk_drewN ?_ _ | refine blk_drew ?_ | refine blk_alloc ?_ _)); refine blk_far ?_ NB112_117.out _; refine blk_far ?_ NB112_117.out _; refine blk_far ?_ NB112_117.out _; exact BK112.out⟩, ⟨by (with_reducible repeat (first | refine blk_drewN ?_ _ | refine blk_drew ?_ | refine blk_alloc ?_ _)); refine blk_put (cs := #[.int .i64 ((rd_T48 l0_1 x48_3).f0), .slice A116_1 ((rd_T48 l0_1 x48_3).f1).length c116_1, .int .i64 0]) ?_ 2 _ rfl; refine blk_put (cs := #[.int .i64 ((rd_T48 l0_1 x48_3).f0), .slice none 0 0, .int .i64 0]) ?_ 1 _ rfl; refine blk_put (cs := #[.int .i64 0, .slice none 0 0, .int .i64 0]) ?_ 0 _ rfl; exact BK117.out⟩, ⟨by repeat (first | (with_reducible first | exact HB.out | apply below_alloc | apply pw_below_drewN | apply below_drew1 | refine below_set ?_ GE112.out | refine below_set ?_ GE117.out) | exact HB.out)⟩⟩
        case rest =>
         clear HC21
         skip
         obtain ⟨kq, x71_20, rfl, HA, HJ20, BK112, BK117, HB⟩ := hcut
         cases kq with
         | zero => exact absurd HA.out (by simp [spec_StateOk.j3])
         | succ kj20 =>
          have H := HA.out
          clear HA
          simp only [spec_StateOk.j3] at H
          by_cases c38 : x71_20 = true
          case pos =>
           subst c38
           rw [if_pos rfl] at H
           obtain rfl := Option.some.inj H
           go_wp2
           go_ret
           exact ⟨rfl, HB.out⟩
          replace c38 := Bool.eq_false_iff.mpr c38
          subst c38
          rw [if_neg (show ¬ (false = true) by decide)] at H
          have H' := K_ H
          clear H
          have hnb39 := NB117_112.out
          have hnc39 := NB112_117.out
          obtain ⟨hcz40_0, hcz40_1, hcz40_2, hfz40_0, hfz40_1, hfz40_2⟩ := blkf3_ BK117.out
          go_wp2
          go_loopg [7, 77] kj20 (fun kq v7 v77 w' => ∃ (x7_5 : Int) (x77_5 : Int), v7 = .int .i64 x7_5 ∧ v77 = .int .i64 x77_5 ∧ Aside0 (spec_StateOk.l2 kq x7_5 l0_1 (l0_1.length : Int) x48_3 ((rd_T48 l0_1 x48_3).f1) (((rd_T48 l0_1 x48_3).f1).length : Int) x77_5 l0_0 l0_1 l0_2 = some r) ∧ Aside0 (kq ≤ kj20) ∧ Aside0 (w'.heap[gb112]? = some (.cells #[(.slice A0_0 l0_0.length c0_0), (.slice (some ad116) l0_1.length c0_1), (.slice A0_2 l0_2.length c0_2)] 30 (0, 0))) ∧ Aside0 (w'.heap[gb117]? = some (.cells #[.int .i64 ((rd_T48 l0_1 x48_3).f0), (.slice A116_1 ((rd_T48 l0_1 x48_3).f1).length c116_1), .int .i64 ((rd_T48 l0_1 x48_3).f2)] 48 (0, 0))) ∧ Aside0 (Below w.heap.size w w'))
          case atStart => exact ⟨(((rd_T48 l0_1 x48_3).f0)), (0), rfl, rfl, H', ⟨Nat.le_refl _⟩, ⟨BK112.out⟩, ⟨BK117.out⟩, ⟨HB.out⟩⟩
          case round =>
           clear H'
           clear hcz40_0 hcz40_1 hcz40_2 hfz40_0 hfz40_1 hfz40_2
           obtain ⟨x7_5, x77_5, rfl, rfl, HA, HK5, BK112, BK117, HB⟩ := hrel
           cases gk with
           | zero => exact absurd HA.out (by simp [spec_StateOk.l2])
           | succ k5 =>
            have H := HA.out
            clear HA
            simp only [spec_StateOk.l2] at H
            replace H := ds_ H
            rcases H with ⟨c41b0, H⟩ | ⟨c41b0, H⟩
            case inr =>
             have H' := K_ H
             clear H
             go_wp2
             go_roundg k5
             case measure => have := HJ1.out; have := HK2.out; have := HK3.out; have := HJ20.out; have := HK5.out; omega
             case rel => exact ⟨(wrap64 (x48_3 + 1)), rfl, H', ⟨by have := HJ1.out; have := HK2.out; have := HK3.out; have := HJ20.out; have := HK5.out; omega⟩, ⟨BK112.out⟩, ⟨HB.out⟩⟩
            replace H := dn_ H
            obtain ⟨c42b0, H⟩ := H
            replace H := dn_ H
            obtain ⟨c43b0, H⟩ := H
            replace H := Option.bind_eq_some_iff.mp H
            obtain ⟨t121, A440, H⟩ := H
            try dsimp only at H
            have A44 := K_ A440
            clear A440
            by_cases c45 : t121 = true
            case neg =>
             replace c45 := Bool.eq_false_iff.mpr c45
             subst c45
             rw [if_neg (show ¬ (false = true) by decide)] at H
             obtain rfl := Option.some.inj H
             obtain ⟨ad120, rfl, hx120_0, p120, q120⟩ := rd_ HR116_1.out HB.out x77_5 (by assumption) (by assumption)
             have hnb51 := NB112_117.out
             have hnc51 := NB117_112.out
             obtain ⟨hcz52_0, hcz52_1, hcz52_2, hfz52_0, hfz52_1, hfz52_2⟩ := blkf3_ BK112.out
             go_wp2_with (first | ((with_reducible refine gate_callee (f := 37) rfl ?_); refine goesL_ (some 86) rfl rfl Tryd.func37 (by kernel_rfl) rfl #[.int .i64 (rd ((rd_T48 l0_1 x48_3).f1) x77_5), .int .i64 0, .int .i64 (wrap64 ((l0_0.length : Int) - 1))] rfl (by simp only [List.map_toArray, List.map_cons, List.map_nil]; try rfl) ?_; (with_reducible refine (spec_l1in.calls (rd ((rd_T48 l0_1 x48_3).f1) x77_5) 0 (wrap64 ((l0_0.length : Int) - 1)) false _ A44.out).mono ?_); rintro e w' ⟨rfl, ⟨nd, rfl⟩⟩; refine ⟨_, rfl, ?_⟩))
             go_ret
             exact ⟨by first | rfl | (simp [errW_none, errW_some] <;> rfl) | (simp [*, errW_none, errW_some] <;> rfl), by repeat (first | (with_reducible first | exact HB.out | apply below_alloc | apply pw_below_drewN | apply below_drew1 | refine below_set ?_ GE112.out | refine below_set ?_ GE117.out) | exact HB.out)⟩
            subst c45
            rw [if_pos rfl] at H
            replace H := ps_ H
            rcases H with ⟨c46, H⟩ | ⟨c46, H⟩
            case inl =>
             have c46b0 := beq_iff_eq.mpr c46
             have c46b1 := bne_eq_false_iff_eq.mpr c46
             clear c46
             obtain rfl := Option.some.inj H
             obtain ⟨ad120, rfl, hx120_0, p120, q120⟩ := rd_ HR116_1.out HB.out x77_5 (by assumption) (by assumption)
             have hnb47 := NB112_117.out
             have hnc47 := NB117_112.out
             obtain ⟨hcz48_0, hcz48_1, hcz48_2, hfz48_0, hfz48_1, hfz48_2⟩ := blkf3_ BK112.out
             go_wp2_with (first | ((with_reducible refine gate_callee (f := 37) rfl ?_); refine goesL_ (some 86) rfl rfl Tryd.func37 (by kernel_rfl) rfl #[.int .i64 (rd ((rd_T48 l0_1 x48_3).f1) x77_5), .int .i64 0, .int .i64 (wrap64 ((l0_0.length : Int) - 1))] rfl (by simp only [List.map_toArray, List.map_cons, List.map_nil]; try rfl) ?_; (with_reducible refine (spec_l1in.calls (rd ((rd_T48 l0_1 x48_3).f1) x77_5) 0 (wrap64 ((l0_0.length : Int) - 1)) true _ A44.out).mono ?_); rintro e w' ⟨rfl, ⟨nd, rfl⟩⟩; refine ⟨_, rfl, ?_⟩))
             go_ret
             exact ⟨by first | rfl | (simp [errW_none, errW_some] <;> rfl) | (simp [*, errW_none, errW_some] <;> rfl), by repeat (first | (with_reducible first | exact HB.out | apply below_alloc | apply pw_below_drewN | apply below_drew1 | refine below_set ?_ GE112.out | refine below_set ?_ GE117.out) | exact HB.out)⟩
            have c46b0 := beq_eq_false_iff_ne.mpr c46
            have c46b1 := bne_iff_ne.mpr c46
            have H' := K_ H
            clear H
            obtain ⟨ad120, rfl, hx120_0, p120, q120⟩ := rd_ HR116_1.out HB.out x77_5 (by assumption) (by assumption)
            have hnb49 := NB112_117.out
            have hnc49 := NB117_112.out
            obtain ⟨hcz50_0, hcz50_1, hcz50_2, hfz50_0, hfz50_1, hfz50_2⟩ := blkf3_ BK112.out
            go_wp2_with (first | ((with_reducible refine gate_callee (f := 37) rfl ?_); refine goesL_ (some 86) rfl rfl Tryd.func37 (by kernel_rfl) rfl #[.int .i64 (rd ((rd_T48 l0_1 x48_3).f1) x77_5), .int .i64 0, .int .i64 (wrap64 ((l0_0.length : Int) - 1))] rfl (by simp only [List.map_toArray, List.map_cons, List.map_nil]; try rfl) ?_; (with_reducible refine (spec_l1in.calls (rd ((rd_T48 l0_1 x48_3).f1) x77_5) 0 (wrap64 ((l0_0.length : Int) - 1)) true _ A44.out).mono ?_); rintro e w' ⟨rfl, ⟨nd, rfl⟩⟩; refine ⟨_, rfl, ?_⟩))
            go_roundg k5
            case measure => have := HJ1.out; have := HK2.out; have := HK3.out; have := HJ20.out; have := HK5.out; omega
            case rel => exact ⟨(rd ((rd_T48 l0_1 x48_3).f1) x77_5), (wrap64 (x77_5 + 1)), (by first | rfl | (simp; done) | (simp [*]; done)), (by first | rfl | (simp; done) | (simp [*]; done)), H', ⟨by have := HJ1.out; have := HK2.out; have := HK3.out; have := HJ20.out; have := HK5.out; omega⟩, ⟨by (with_reducible repeat (first | refine blk_drewN ?_ _ | refine blk_drew ?_ | refine blk_alloc ?_ _)); exact BK112.out⟩, ⟨by (with_reducible repeat (first | refine blk_drewN ?_ _ | refine blk_drew ?_ | refine blk_alloc ?_ _)); exact BK117.out⟩, ⟨by repeat (first | (with_reducible first | exact HB.out | apply below_alloc | apply pw_below_drewN | apply below_drew1 | refine below_set ?_ GE112.out | refine below_set ?_ GE117.out) | exact HB.out)⟩⟩
       rw [if_neg c18] at H
       have c18b0 := decide_eq_false c18
       clear c18
       have H' := K_ H
       clear H
       obtain ⟨hcz53_0, hcz53_1, hcz53_2, hfz53_0, hfz53_1, hfz53_2⟩ := blkf3_ BK112.out
       go_wp2
       go_loopg [99] k3 (fun kq v99 w' => ∃ (x99_4 : Int), v99 = .int .i64 x99_4 ∧ Aside0 (spec_StateOk.l3 kq l0_2 (l0_2.length : Int) x99_4 l0_0 l0_1 l0_2 = some r) ∧ Aside0 (kq ≤ k3) ∧ Aside0 (w'.heap[gb112]? = some (.cells #[(.slice A0_0 l0_0.length c0_0), (.slice A0_1 l0_1.length c0_1), (.slice A0_2 l0_2.length c0_2)] 30 (0, 0))) ∧ Aside0 (Below w.heap.size w w'))
       case atStart => exact ⟨(0), rfl, H', ⟨Nat.le_refl _⟩, ⟨BK112.out⟩, ⟨HB.out⟩⟩
       case round =>
        clear H'
        clear c18b0 hcz53_0 hcz53_1 hcz53_2 hfz53_0 hfz53_1 hfz53_2
        obtain ⟨x99_4, rfl, HA, HK4, BK112, HB⟩ := hrel
        cases gk with
        | zero => exact absurd HA.out (by simp [spec_StateOk.l3])
        | succ k4 =>
         have H := HA.out
         clear HA
         simp only [spec_StateOk.l3] at H
         by_cases c54 : x99_4 < (l0_2.length : Int)
         case pos =>
          rw [if_pos c54] at H
          have c54b0 := decide_eq_true c54
          clear c54
          replace H := dn_ H
          obtain ⟨c55b0, H⟩ := H
          replace H := dn_ H
          obtain ⟨c56b0, H⟩ := H
          replace H := Option.bind_eq_some_iff.mp H
          obtain ⟨t123, A570, H⟩ := H
          try dsimp only at H
          have A57 := K_ A570
          clear A570
          by_cases c58 : t123 = true
          case neg =>
           replace c58 := Bool.eq_false_iff.mpr c58
           subst c58
           rw [if_neg (show ¬ (false = true) by decide)] at H
           obtain rfl := Option.some.inj H
           obtain ⟨ad122, rfl, hx122_0, p122, q122⟩ := rd_ HR0_2.out HB.out x99_4 (by assumption) (by assumption)
           go_wp2_with (first | ((with_reducible refine gate_callee (f := 37) rfl ?_); refine goesL_ (some 105) rfl rfl Tryd.func37 (by kernel_rfl) rfl #[.int .i64 (rd l0_2 x99_4), .int .i64 0, .int .i64 1000] rfl (by simp only [List.map_toArray, List.map_cons, List.map_nil]; try rfl) ?_; (with_reducible refine (spec_l1in.calls (rd l0_2 x99_4) 0 1000 false _ A57.out).mono ?_); rintro e w' ⟨rfl, ⟨nd, rfl⟩⟩; refine ⟨_, rfl, ?_⟩))
           go_ret
           exact ⟨by first | rfl | (simp [errW_none, errW_some] <;> rfl) | (simp [*, errW_none, errW_some] <;> rfl), by repeat (first | (with_reducible first | exact HB.out | apply below_alloc | apply pw_below_drewN | apply below_drew1 | refine below_set ?_ GE112.out) | exact HB.out)⟩
          subst c58
          rw [if_pos rfl] at H
          replace H := ps_ H
          rcases H with ⟨c59, H⟩ | ⟨c59, H⟩
          case inr =>
           have c59b0 := decide_eq_false c59
           clear c59
           have H' := K_ H
           clear H
           obtain ⟨ad122, rfl, hx122_0, p122, q122⟩ := rd_ HR0_2.out HB.out x99_4 (by assumption) (by assumption)
           go_wp2_with (first | ((with_reducible refine gate_callee (f := 37) rfl ?_); refine goesL_ (some 105) rfl rfl Tryd.func37 (by kernel_rfl) rfl #[.int .i64 (rd l0_2 x99_4), .int .i64 0, .int .i64 1000] rfl (by simp only [List.map_toArray, List.map_cons, List.map_nil]; try rfl) ?_; (with_reducible refine (spec_l1in.calls (rd l0_2 x99_4) 0 1000 true _ A57.out).mono ?_); rintro e w' ⟨rfl, ⟨nd, rfl⟩⟩; refine ⟨_, rfl, ?_⟩))
           go_roundg k4
           case measure => have := HJ1.out; have := HK2.out; have := HK3.out; have := HK4.out; omega
           case rel => exact ⟨(wrap64 (x99_4 + 1)), (by first | rfl | (simp; done) | (simp [*]; done)), H', ⟨by have := HJ1.out; have := HK2.out; have := HK3.out; have := HK4.out; omega⟩, ⟨by (with_reducible repeat (first | refine blk_drewN ?_ _ | refine blk_drew ?_ | refine blk_alloc ?_ _)); exact BK112.out⟩, ⟨by repeat (first | (with_reducible first | exact HB.out | apply below_alloc | apply pw_below_drewN | apply below_drew1 | refine below_set ?_ GE112.out) | exact HB.out)⟩⟩
          have c59b0 := decide_eq_true c59
          clear c59
          obtain ⟨ji60, hji60⟩ : ∃ j_ : Int, (wrap64 (x99_4 - 1)) = j_ := ⟨_, rfl⟩
          replace H : (if 0 ≤ (ji60) then (if (ji60) < (l0_2.length : Int) then (if (rd l0_2 x99_4) ≤ (rd l0_2 (ji60)) then (some 4) else (spec_StateOk.l3 k4 l0_2 (l0_2.length : Int) (wrap64 (x99_4 + 1)) l0_0 l0_1 l0_2)) else (none)) else (none)) = some r := by first | (rw [hji60] at H; exact H) | (simp only [hji60] at H ⊢; exact H)
          (try rw [hji60] at A57)
          have hji60w : (IntKind.i64.wrap (x99_4 - 1)) = ji60 := (i64_w _).trans hji60
          replace H := dn_ H
          obtain ⟨c61b0, H⟩ := H
          replace H := dn_ H
          obtain ⟨c62b0, H⟩ := H
          replace H := ds_ H
          rcases H with ⟨c63b0, H⟩ | ⟨c63b0, H⟩
          case inl =>
           obtain rfl := Option.some.inj H
           obtain ⟨ad122, rfl, hx122_0, p122, q122⟩ := rd_ HR0_2.out HB.out x99_4 (by assumption) (by assumption)
           go_wp2_with (first | ((with_reducible refine gate_callee (f := 37) rfl ?_); refine goesL_ (some 105) rfl rfl Tryd.func37 (by kernel_rfl) rfl #[.int .i64 (rd l0_2 x99_4), .int .i64 0, .int .i64 1000] rfl (by simp only [List.map_toArray, List.map_cons, List.map_nil]; try rfl) ?_; (with_reducible refine (spec_l1in.calls (rd l0_2 x99_4) 0 1000 true _ A57.out).mono ?_); rintro e w' ⟨rfl, ⟨nd, rfl⟩⟩; refine ⟨_, rfl, ?_⟩; obtain ⟨hcz64_0, hcz64_1, hcz64_2, hfz64_0, hfz64_1, hfz64_2⟩ := blkf3_ BK112.out; have p124 : 0 ≤ ((ji60) : Int) := of_decide_eq_true (by assumption); have q124 : (ji60) < (l0_2.length : Int) := of_decide_eq_true (by assumption); obtain ⟨ad124, e124, hx124_0⟩ := Kd.at_int HR0_2.out (ji60) p124 q124; obtain rfl : ad122 = ad124 := (by injection e124); replace hx124_0 := (HB.out.cell (World.block_lt_of_cell? w _ hx124_0)).trans hx124_0; replace p124 := eq_true p124; replace q124 := eq_true q124))
           go_ret
           exact ⟨by first | rfl | (simp [errW_none, errW_some] <;> rfl) | (simp only [← hji60]; first | rfl | (simp [errW_none, errW_some] <;> rfl)) | (simp [*, errW_none, errW_some] <;> rfl), by repeat (first | (with_reducible first | exact HB.out | apply below_alloc | apply pw_below_drewN | apply below_drew1 | refine below_set ?_ GE112.out) | exact HB.out)⟩
          have H' := K_ H
          clear H
          obtain ⟨ad122, rfl, hx122_0, p122, q122⟩ := rd_ HR0_2.out HB.out x99_4 (by assumption) (by assumption)
          go_wp2_with (first | ((with_reducible refine gate_callee (f := 37) rfl ?_); refine goesL_ (some 105) rfl rfl Tryd.func37 (by kernel_rfl) rfl #[.int .i64 (rd l0_2 x99_4), .int .i64 0, .int .i64 1000] rfl (by simp only [List.map_toArray, List.map_cons, List.map_nil]; try rfl) ?_; (with_reducible refine (spec_l1in.calls (rd l0_2 x99_4) 0 1000 true _ A57.out).mono ?_); rintro e w' ⟨rfl, ⟨nd, rfl⟩⟩; refine ⟨_, rfl, ?_⟩; obtain ⟨hcz65_0, hcz65_1, hcz65_2, hfz65_0, hfz65_1, hfz65_2⟩ := blkf3_ BK112.out; have p124 : 0 ≤ ((ji60) : Int) := of_decide_eq_true (by assumption); have q124 : (ji60) < (l0_2.length : Int) := of_decide_eq_true (by assumption); obtain ⟨ad124, e124, hx124_0⟩ := Kd.at_int HR0_2.out (ji60) p124 q124; obtain rfl : ad122 = ad124 := (by injection e124); replace hx124_0 := (HB.out.cell (World.block_lt_of_cell? w _ hx124_0)).trans hx124_0; replace p124 := eq_true p124; replace q124 := eq_true q124))
          go_roundg k4
          case measure => have := HJ1.out; have := HK2.out; have := HK3.out; have := HK4.out; omega
          case rel => exact ⟨(wrap64 (x99_4 + 1)), (by first | rfl | (simp; done) | (simp [*]; done)), H', ⟨by have := HJ1.out; have := HK2.out; have := HK3.out; have := HK4.out; omega⟩, ⟨by (with_reducible repeat (first | refine blk_drewN ?_ _ | refine blk_drew ?_ | refine blk_alloc ?_ _)); exact BK112.out⟩, ⟨by repeat (first | (with_reducible first | exact HB.out | apply below_alloc | apply pw_below_drewN | apply below_drew1 | refine below_set ?_ GE112.out) | exact HB.out)⟩⟩
         rw [if_neg c54] at H
         have c54b0 := decide_eq_false c54
         clear c54
         have H' := K_ H
         clear H
         obtain ⟨hcz66_0, hcz66_1, hcz66_2, hfz66_0, hfz66_1, hfz66_2⟩ := blkf3_ BK112.out
         go_wp2
         go_loopg [125] k4 (fun kq v125 w' => ∃ (x125_5 : Int), v125 = .int .i64 x125_5 ∧ Aside0 (spec_StateOk.l4 kq l0_0 (l0_0.length : Int) x125_5 l0_0 l0_1 l0_2 = some r) ∧ Aside0 (kq ≤ k4) ∧ Aside0 (w'.heap[gb112]? = some (.cells #[(.slice A0_0 l0_0.length c0_0), (.slice A0_1 l0_1.length c0_1), (.slice A0_2 l0_2.length c0_2)] 30 (0, 0))) ∧ Aside0 (Below w.heap.size w w'))
         case atStart => exact ⟨(0), rfl, H', ⟨Nat.le_refl _⟩, ⟨BK112.out⟩, ⟨HB.out⟩⟩
         case round =>
          clear H'
          clear c54b0 hcz66_0 hcz66_1 hcz66_2 hfz66_0 hfz66_1 hfz66_2
          obtain ⟨x125_5, rfl, HA, HK5, BK112, HB⟩ := hrel
          cases gk with
          | zero => exact absurd HA.out (by simp [spec_StateOk.l4])
          | succ k5 =>
           have H := HA.out
           clear HA
           simp only [spec_StateOk.l4] at H
           replace H := ds_ H
           rcases H with ⟨c67b0, H⟩ | ⟨c67b0, H⟩
           case inr =>
            obtain rfl := Option.some.inj H
            go_wp2
            go_ret
            exact ⟨rfl, HB.out⟩
           replace H := dn_ H
           obtain ⟨c68b0, H⟩ := H
           replace H := dn_ H
           obtain ⟨c69b0, H⟩ := H
           replace H := Option.bind_eq_some_iff.mp H
           obtain ⟨t126, A700, H⟩ := H
           try dsimp only at H
           have A70 := K_ A700
           clear A700
           replace H := ps_ H
           rcases H with ⟨c71, H⟩ | ⟨c71, H⟩
           case inl =>
            have c71b0 := decide_eq_true c71
            clear c71
            obtain rfl := Option.some.inj H
            obtain ⟨ad125, rfl, hx125_0, p125, q125⟩ := rd_ HR0_0.out HB.out x125_5 (by assumption) (by assumption)
            obtain ⟨hcz72_0, hcz72_1, hcz72_2, hfz72_0, hfz72_1, hfz72_2⟩ := blkf3_ BK112.out
            go_wp2_with (first | ((with_reducible refine gate_callee (f := 38) rfl ?_); refine goesL_ (some 132) rfl rfl Tryd.func38 (by kernel_rfl) rfl #[.agg #[.slice (some ad125) l0_0.length c0_0, .slice A0_1 l0_1.length c0_1, .slice A0_2 l0_2.length c0_2], .int .i64 x125_5] rfl (by simp only [List.map_toArray, List.map_cons, List.map_nil]; try rfl) ?_; (with_reducible refine (spec_l1there.calls k5 _ _ l0_0 _ _ l0_1 _ _ l0_2 x125_5 t126 _ ?side1 ?side2 ?side3 ?side4 ?side5 ?side6 A70.out).mono ?_); (case side1 => exact (Kd.C_below HR0_0.out HB.out)); (case side2 => exact HC0_0.out); (case side3 => exact (Kd.C_below HR0_1.out HB.out)); (case side4 => exact HC0_1.out); (case side5 => exact (Kd.C_below HR0_2.out HB.out)); (case side6 => exact HC0_2.out); rintro e w73 ⟨rfl, hb⟩; refine ⟨_, rfl, ?_⟩; replace BK112 := K_ (blk_below BK112.out hb); replace HB := K_ (below_step HB.out hb); clear hb))
            go_ret
            exact ⟨rfl, HB.out⟩
           have c71b0 := decide_eq_false c71
           clear c71
           have H' := K_ H
           clear H
           obtain ⟨ad125, rfl, hx125_0, p125, q125⟩ := rd_ HR0_0.out HB.out x125_5 (by assumption) (by assumption)
           obtain ⟨hcz74_0, hcz74_1, hcz74_2, hfz74_0, hfz74_1, hfz74_2⟩ := blkf3_ BK112.out
           go_wp2_with (first | ((with_reducible refine gate_callee (f := 38) rfl ?_); refine goesL_ (some 132) rfl rfl Tryd.func38 (by kernel_rfl) rfl #[.agg #[.slice (some ad125) l0_0.length c0_0, .slice A0_1 l0_1.length c0_1, .slice A0_2 l0_2.length c0_2], .int .i64 x125_5] rfl (by simp only [List.map_toArray, List.map_cons, List.map_nil]; try rfl) ?_; (with_reducible refine (spec_l1there.calls k5 _ _ l0_0 _ _ l0_1 _ _ l0_2 x125_5 t126 _ ?side1 ?side2 ?side3 ?side4 ?side5 ?side6 A70.out).mono ?_); (case side1 => exact (Kd.C_below HR0_0.out HB.out)); (case side2 => exact HC0_0.out); (case side3 => exact (Kd.C_below HR0_1.out HB.out)); (case side4 => exact HC0_1.out); (case side5 => exact (Kd.C_below HR0_2.out HB.out)); (case side6 => exact HC0_2.out); rintro e w75 ⟨rfl, hb⟩; refine ⟨_, rfl, ?_⟩; replace BK112 := K_ (blk_below BK112.out hb); replace HB := K_ (below_step HB.out hb); clear hb))
           go_roundg k5
           case measure => have := HJ1.out; have := HK2.out; have := HK3.out; have := HK4.out; have := HK5.out; omega
           case rel => exact ⟨(wrap64 (x125_5 + 1)), rfl, H', ⟨by have := HJ1.out; have := HK2.out; have := HK3.out; have := HK4.out; have := HK5.out; omega⟩, ⟨BK112.out⟩, ⟨HB.out⟩⟩


end Go.Proofs.YtkcocomehhlpmaaDoor.Q
