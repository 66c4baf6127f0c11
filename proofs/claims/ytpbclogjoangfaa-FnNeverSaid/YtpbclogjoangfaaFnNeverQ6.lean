-- Written by programs of this session (wip/drv.py, wip/mkclaim.py) over the kit's print; not trusted: Lean checks it.
import Derived.Test.YtpbclogjoangfaaFnNeverQ0
import Derived.Test.YtpbclogjoangfaaFnNeverQ2
import Derived.Test.YtpbclogjoangfaaFnNeverQ3
import Derived.Test.YtpbclogjoangfaaFnNeverQ4
import Derived.Test.YtpbclogjoangfaaFnNeverQ5
namespace Go.Proofs.Ytpbclogjoangfaa.Q
open Go.RowKit Go.Proofs.YtpbclogjoangfaaW.PrintWords Go.Proofs.YtpbclogjoangfaaW.PrintLast Go.Proofs.YtpbclogjoangfaaW.PrintMore
attribute [local go_sem] max2_int min2_int max_two min_two max_three min_three max_four min_four   -- for this text's walks alone
set_option linter.unusedVariables false
set_option linter.unusedSimpArgs false

/-! ### impl_can: function 61 -/
def impl_can.f (k : Nat) (l0_0 : List Int) (l0_1 : List (S35)) (l0_2 : List Int) (a1 : Int) : Option (Bool) := if 0 ≤ a1 then (if a1 < (l0_1.length : Int) then (if (((rd_T35 l0_1 a1).f1).length : Int) = 0 then (some true) else (if 0 < (((rd_T35 l0_1 a1).f1).length : Int) then ((impl_free.f k l0_0 l0_1 l0_2 (rd ((rd_T35 l0_1 a1).f1) 0)).bind fun t359 => (some (decide (t359 > 0)))) else (none))) else (none)) else (none)
theorem impl_can.mono : ∀ a0 a1 a2 a3 k, LeO (impl_can.f k a0 a1 a2 a3) (impl_can.f (k + 1) a0 a1 a2 a3) := by
 intro a0 a1 a2 a3 k
 unfold impl_can.f
 repeat' with_reducible first | exact impl_free.mono _ _ _ _ _ | exact LeO.refl _ | exact LeO.none _ | refine LeO.ite ?_ ?_ | refine LeO.bind ?_ (fun _ => ?_)
def impl_can.T2 : Bool × List (List Nat × List Nat) := (true, [([], []), ([0], [0]), ([1], [1]), ([2], [2]), ([3], [3]), ([3], [3]), ([5, 3], [3, 5]), ([6, 3], [3, 6]), ([4, 7, 3, 3], [3, 4, 7]), ([8, 3], [3, 8]), ([3, 9], [3, 9]), ([10, 8, 0, 1, 2, 3, 4, 5, 6, 7, 8, 9, 10], [10])])
def impl_can.B2 : List Nat := [0, 1, 3, 7, 15, 15, 47, 111, 255, 511, 1023, 2047]
theorem impl_can.tab2 : rtab .any (opsOf Try.f61 2) = impl_can.T2 := by kernel_rfl
theorem impl_can.bits2 : waitsOk impl_can.T2.2 impl_can.B2 = true := by kernel_rfl
set_option maxHeartbeats 8000000 in
set_option maxRecDepth 100000 in
theorem impl_can.calls (k : Nat) (A0_0 : Option Addr) (c0_0 : Nat) (l0_0 : List Int) (A0_1 : Option Addr) (c0_1 : Nat) (l0_1 : List (S35)) (A0_2 : Option Addr) (c0_2 : Nat) (l0_2 : List Int) (a1 : Int) (r : Bool) (w : World) (hr0_0 : Kd.C (Kd.int .i64) w A0_0 l0_0.length l0_0) (hc0_0 : l0_0.length ≤ c0_0) (hr0_1 : Kd.C k35 w A0_1 l0_1.length l0_1) (hc0_1 : l0_1.length ≤ c0_1) (hr0_2 : Kd.C (Kd.int .i64) w A0_2 l0_2.length l0_2) (hc0_2 : l0_2.length ≤ c0_2) (h : impl_can.f k l0_0 l0_1 l0_2 a1 = some r) :
  Calls Try.prog 61 #[.agg #[.slice A0_0 l0_0.length c0_0, .slice A0_1 l0_1.length c0_1, .slice A0_2 l0_2.length c0_2], .int .i64 a1] w fun e w' => e = .returned (.bool r) ∧ Below w.heap.size w w' := by
 have hu26 := Try.underlying26
 have HR0_0 := K_ hr0_0
 have HC0_0 := K_ hc0_0
 clear hr0_0 hc0_0
 have HR0_1 := K_ hr0_1
 have HC0_1 := K_ hc0_1
 clear hr0_1 hc0_1
 have HR0_2 := K_ hr0_2
 have HC0_2 := K_ hc0_2
 clear hr0_2 hc0_2
 have HB := K_ (Below.refl w.heap.size w)
 unfold impl_can.f at h
 have H := h
 clear h
 replace H := dn_ H
 obtain ⟨c3b0, H⟩ := H
 replace H := dn_ H
 obtain ⟨c4b0, H⟩ := H
 replace H := ps_ H
 rcases H with ⟨c5, H⟩ | ⟨c5, H⟩
 case inl =>
  have c5b0 := beq_iff_eq.mpr c5
  have c5b1 := bne_eq_false_iff_eq.mpr c5
  clear c5
  obtain rfl := Option.some.inj H
  go_enter Try.func61, Try.ntmps61
  try go_wp2_with (first | ((with_reducible refine gate_dst (N := 2) rfl ?_); refine box_event ?hg (N := 2) ?hd (cs := #[.slice A0_0 l0_0.length c0_0, .slice A0_1 l0_1.length c0_1, .slice A0_2 l0_2.length c0_2]) (t := 26) ?hr ?_; (case hd => rfl); (case hg => rfl); (case hr => go_simp; try rfl); intro gb356 hg w6 hbox hb; have BK356 := K_ (hbox); have GW356 := ge_ hg HB.out; have GE356 := ge_ hg HB.out; replace HB := K_ (below_step HB.out hb); clear hb hbox hg; obtain ⟨hcz7_0, hcz7_1, hcz7_2, hfz7_0, hfz7_1, hfz7_2⟩ := blkf3_ BK356.out; have p357 : 0 ≤ (a1 : Int) := of_decide_eq_true (by assumption); have q357 : a1 < (l0_1.length : Int) := of_decide_eq_true (by assumption); obtain ⟨ad357, A357_1, c357_1, e357, hx357_0, hx357_1, hx357_2, hl357_1, hi357_1⟩ := at_T35 HR0_1.out a1 p357 q357; cases e357; replace hx357_0 := (HB.out.cell (World.block_lt_of_cell? w _ hx357_0)).trans hx357_0; replace hx357_1 := (HB.out.cell (World.block_lt_of_cell? w _ hx357_1)).trans hx357_1; replace hx357_2 := (HB.out.cell (World.block_lt_of_cell? w _ hx357_2)).trans hx357_2; have HR357_1 := K_ hi357_1; have HC357_1 := K_ hl357_1; clear hi357_1 hl357_1; replace p357 := eq_true p357; replace q357 := eq_true q357))
  have n0_ := K_ (blk_drew BK356.out)
  have n1_ := K_ (below_drew1 HB.out)
  clear BK356
  clear HB
  have BK356 := n0_
  have HB := n1_
  clear n0_ n1_
  refine start_ (n := 12) (S := fun w' => True) (ds := []) #[ff, ff, ff, ff, ff, ff, ff, ff, ff, ff, ff, ff] (by kernel_rfl) rfl rfl trivial (fun hHeld => ?_); refine with_tabW impl_can.tab2 impl_can.bits2 (fun HT_ HW_ => ?_)
  generalize w6.drew = w8 at BK356 HB hHeld ⊢
  refine pure_ (i := 0) (N := some 12) (v := ?_) (a' := ?_) (M_ 12 1) rfl rfl (any_of HT_.out (by kernel_rfl)) (fun _ _ _ h => h) (Or.inl ⟨by rfl, ?_⟩) ?_ ?_
  rotate_left
  ·intro w'
   go_simp
   with_reducible rfl
  rotate_left
  ·simp only [P_, i64_w, i32_w]
   rfl
  refine pure_ (i := 1) (N := some 13) (v := ?_) (a' := ?_) (M_ 12 3) rfl rfl (any_of HT_.out (by kernel_rfl)) (fun _ _ _ h => h) (Or.inl ⟨by rfl, ?_⟩) ?_ ?_
  rotate_left
  ·intro w'
   go_simp
   with_reducible rfl
  rotate_left
  ·simp only [P_, i64_w, i32_w]
   rfl
  refine pure_ (i := 2) (N := some 14) (v := ?_) (a' := ?_) (M_ 12 7) rfl rfl (any_of HT_.out (by kernel_rfl)) (fun _ _ _ h => h) (Or.inl ⟨by rfl, ?_⟩) ?_ ?_
  rotate_left
  ·intro w'
   go_simp
   with_reducible rfl
  rotate_left
  ·simp only [P_, i64_w, i32_w]
   rfl
  refine pure_ (i := 3) (N := some 15) (v := ?_) (a' := ?_) (M_ 12 15) rfl rfl (any_of HT_.out (by kernel_rfl)) (fun _ _ _ h => h) (Or.inl ⟨by rfl, ?_⟩) ?_ ?_
  rotate_left
  ·intro w'
   go_simp
   with_reducible rfl
  rotate_left
  ·simp only [P_, i64_w, i32_w]
   rfl
  refine pure_ (i := 4) (N := some 16) (v := undef) (a' := ?_) (M_ 12 31) rfl rfl (any_of HT_.out (by kernel_rfl)) (fun _ _ _ h => h) (Or.inr ⟨by rfl, rfl⟩) ?_ ?_
  rotate_left
  ·simp only [P_, i64_w, i32_w]
   rfl
  refine pure_ (i := 5) (N := some 17) (v := undef) (a' := ?_) (M_ 12 63) rfl rfl (any_of HT_.out (by kernel_rfl)) (fun _ _ _ h => h) (Or.inr ⟨by rfl, rfl⟩) ?_ ?_
  rotate_left
  ·simp only [P_, i64_w, i32_w]
   rfl
  refine pure_ (i := 6) (N := some 18) (v := undef) (a' := ?_) (M_ 12 127) rfl rfl (any_of HT_.out (by kernel_rfl)) (fun _ _ _ h => h) (Or.inr ⟨by rfl, rfl⟩) ?_ ?_
  rotate_left
  ·simp only [P_, i64_w, i32_w]
   rfl
  refine pure_ (i := 7) (N := some 19) (v := undef) (a' := ?_) (M_ 12 255) rfl rfl (any_of HT_.out (by kernel_rfl)) (fun _ _ _ h => h) (Or.inr ⟨by rfl, rfl⟩) ?_ ?_
  rotate_left
  ·simp only [P_, i64_w, i32_w]
   rfl
  refine pure_ (i := 8) (N := some 20) (v := undef) (a' := ?_) (M_ 12 511) rfl rfl (any_of HT_.out (by kernel_rfl)) (fun _ _ _ h => h) (Or.inr ⟨by rfl, rfl⟩) ?_ ?_
  rotate_left
  ·simp only [P_, i64_w, i32_w]
   rfl
  refine pure_ (i := 9) (N := some 21) (v := undef) (a' := ?_) (M_ 12 1023) rfl rfl (any_of HT_.out (by kernel_rfl)) (fun _ _ _ h => h) (Or.inr ⟨by rfl, rfl⟩) ?_ ?_
  rotate_left
  ·simp only [P_, i64_w, i32_w]
   rfl
  refine pure_ (i := 10) (N := some 22) (v := ?_) (a' := ?_) (M_ 12 2047) rfl rfl (any_of HT_.out (by kernel_rfl)) (fun _ _ _ h => h) (Or.inl ⟨by rfl, ?_⟩) ?_ ?_
  rotate_left
  ·intro w'
   go_simp
   with_reducible rfl
  rotate_left
  ·simp only [P_, i64_w, i32_w]
   rfl
  refine pure_ (i := 11) (N := some 4) (v := ?_) (a' := ?_) (M_ 12 4095) rfl rfl (any_of HT_.out (by kernel_rfl)) (fun _ _ _ h => h) (Or.inl ⟨by rfl, ?_⟩) ?_ ?_
  rotate_left
  ·intro w'
   go_simp
   with_reducible rfl
  rotate_left
  ·simp only [P_, i64_w, i32_w]
   rfl
  refine done_ (done_of HT_.out (by kernel_rfl)) ?_
  try go_wp2
  go_ret
  exact ⟨rfl, HB.out⟩
 have c5b0 := beq_eq_false_iff_ne.mpr c5
 have c5b1 := bne_iff_ne.mpr c5
 have c5b2 : ¬ (((rd_T35 l0_1 a1).f1) = []) := fun h_ => c5 (by rw [h_]; rfl)
 replace H := pn_ H
 obtain ⟨c9, H⟩ := H
 have c9b0 := decide_eq_true c9
 have c9b1 : decide (0 < ((rd_T35 l0_1 a1).f1).length) = true := decide_eq_true (by omega)
 clear c9
 replace H := Option.bind_eq_some_iff.mp H
 obtain ⟨t359, A100, H⟩ := H
 try dsimp only at H
 have A10 := K_ A100
 clear A100
 obtain rfl := Option.some.inj H
 go_enter Try.func61, Try.ntmps61
 try go_wp2_with (first | ((with_reducible refine gate_dst (N := 2) rfl ?_); refine box_event ?hg (N := 2) ?hd (cs := #[.slice A0_0 l0_0.length c0_0, .slice A0_1 l0_1.length c0_1, .slice A0_2 l0_2.length c0_2]) (t := 26) ?hr ?_; (case hd => rfl); (case hg => rfl); (case hr => go_simp; try rfl); intro gb356 hg w11 hbox hb; have BK356 := K_ (hbox); have GW356 := ge_ hg HB.out; have GE356 := ge_ hg HB.out; replace HB := K_ (below_step HB.out hb); clear hb hbox hg; obtain ⟨hcz12_0, hcz12_1, hcz12_2, hfz12_0, hfz12_1, hfz12_2⟩ := blkf3_ BK356.out; have p357 : 0 ≤ (a1 : Int) := of_decide_eq_true (by assumption); have q357 : a1 < (l0_1.length : Int) := of_decide_eq_true (by assumption); obtain ⟨ad357, A357_1, c357_1, e357, hx357_0, hx357_1, hx357_2, hl357_1, hi357_1⟩ := at_T35 HR0_1.out a1 p357 q357; cases e357; replace hx357_0 := (HB.out.cell (World.block_lt_of_cell? w _ hx357_0)).trans hx357_0; replace hx357_1 := (HB.out.cell (World.block_lt_of_cell? w _ hx357_1)).trans hx357_1; replace hx357_2 := (HB.out.cell (World.block_lt_of_cell? w _ hx357_2)).trans hx357_2; have HR357_1 := K_ hi357_1; have HC357_1 := K_ hl357_1; clear hi357_1 hl357_1; replace p357 := eq_true p357; replace q357 := eq_true q357))
 have n0_ := K_ (blk_drew BK356.out)
 have n1_ := K_ (below_drew1 HB.out)
 clear BK356
 clear HB
 have BK356 := n0_
 have HB := n1_
 clear n0_ n1_
 have p358 : 0 ≤ (0 : Int) := (by omega)
 have q358 : 0 < (((rd_T35 l0_1 a1).f1).length : Int) := of_decide_eq_true (by assumption)
 obtain ⟨ad358, e358, hx358_0⟩ := Kd.at_int HR357_1.out 0 p358 q358
 have hw358_0 := hx358_0
 (try rw [show ((0 : Int)).toNat = 0 from rfl] at hw358_0)
 (try rw [show 0 * 1 = 0 from rfl] at hw358_0)
 (try rw [Addr.add_zero'] at hw358_0)
 cases e358
 have qi358 : (0 < ((rd_T35 l0_1 a1).f1).length) = True := eq_true (by omega)
 (try rw [show ((0 : Int)).toNat = 0 from rfl] at hx358_0)
 (try rw [Addr.add_zero'] at hx358_0)
 replace hx358_0 := (HB.out.cell (World.block_lt_of_cell? w _ hx358_0)).trans hx358_0
 replace p358 := eq_true p358
 replace q358 := eq_true q358
 refine start_ (n := 12) (S := fun w' => w'.cell? ⟨gb356, 0, none⟩ = some (.slice A0_0 l0_0.length c0_0) ∧ w'.cell? ⟨gb356, 1, none⟩ = some (.slice (some ad357) l0_1.length c0_1) ∧ w'.cell? ⟨gb356, 2, none⟩ = some (.slice A0_2 l0_2.length c0_2) ∧ w'.cell? ad358 = some (.int .i64 (rd ((rd_T35 l0_1 a1).f1) 0))) (ds := []) #[ff, ff, ff, ff, ff, ff, ff, ff, ff, ff, ff, ff] (by kernel_rfl) rfl rfl ⟨(blk_cell BK356.out 0).trans rfl, (blk_cell BK356.out 1).trans rfl, (blk_cell BK356.out 2).trans rfl, ((HB.out.cell (World.block_lt_of_cell? w _ hw358_0)).trans hw358_0)⟩ (fun hHeld => ?_); refine with_tabW impl_can.tab2 impl_can.bits2 (fun HT_ HW_ => ?_)
 generalize w11.drew = w13 at BK356 HB hx358_0 hHeld ⊢
 refine pure_ (i := 0) (N := some 12) (v := ?_) (a' := ?_) (M_ 12 1) rfl rfl (any_of HT_.out (by kernel_rfl)) (fun _ _ _ h => h) (Or.inl ⟨by rfl, ?_⟩) ?_ ?_
 rotate_left
 ·intro w'
  go_simp
  with_reducible rfl
 rotate_left
 ·simp only [P_, i64_w, i32_w]
  rfl
 refine pure_ (i := 1) (N := some 13) (v := ?_) (a' := ?_) (M_ 12 3) rfl rfl (any_of HT_.out (by kernel_rfl)) (fun _ _ _ h => h) (Or.inl ⟨by rfl, ?_⟩) ?_ ?_
 rotate_left
 ·intro w'
  go_simp
  with_reducible rfl
 rotate_left
 ·simp only [P_, i64_w, i32_w]
  rfl
 refine pure_ (i := 2) (N := some 14) (v := ?_) (a' := ?_) (M_ 12 7) rfl rfl (any_of HT_.out (by kernel_rfl)) (fun _ _ _ h => h) (Or.inl ⟨by rfl, ?_⟩) ?_ ?_
 rotate_left
 ·intro w'
  go_simp
  with_reducible rfl
 rotate_left
 ·simp only [P_, i64_w, i32_w]
  rfl
 refine pure_ (i := 3) (N := some 15) (v := ?_) (a' := ?_) (M_ 12 15) rfl rfl (any_of HT_.out (by kernel_rfl)) (fun _ _ _ h => h) (Or.inl ⟨by rfl, ?_⟩) ?_ ?_
 rotate_left
 ·intro w'
  go_simp
  with_reducible rfl
 rotate_left
 ·simp only [P_, i64_w, i32_w]
  rfl
 refine pure_ (i := 5) (N := some 17) (v := ?_) (a' := ?_) (M_ 12 47) rfl rfl (any_of HT_.out (by kernel_rfl)) (fun _ _ _ h => h) (Or.inl ⟨by rfl, ?_⟩) ?_ ?_
 rotate_left
 ·intro w'
  go_simp
  with_reducible rfl
 rotate_left
 ·simp only [P_, i64_w, i32_w]
  rfl
 refine pure_ (i := 6) (N := some 18) (v := ?_) (a' := ?_) (M_ 12 111) rfl rfl (any_of HT_.out (by kernel_rfl)) (fun _ _ _ h => h) (Or.inl ⟨by rfl, ?_⟩) ?_ ?_
 rotate_left
 ·intro w'
  go_simp
  with_reducible rfl
 rotate_left
 ·simp only [P_, i64_w, i32_w]
  rfl
 refine take_ (i := 4) (N := some 16) (v := ?_) (a' := ?_) (M_ 12 127) rfl rfl (take_ofW HT_.out HW_.out (by kernel_rfl)) (fun _ _ _ h => h) (Or.inl ⟨by rfl, ?_⟩) hHeld ?_ ?_
 rotate_left
 ·rintro w' ⟨s0, s1, s2, s3⟩
  go_simp
  with_reducible rfl
 rotate_left
 ·simp only [P_, i64_w, i32_w]
  rfl
 refine take_ (i := 7) (N := some 19) (v := ?_) (a' := ?_) (M_ 12 255) rfl rfl (take_ofW HT_.out HW_.out (by kernel_rfl)) (fun _ _ _ h => h) (Or.inl ⟨by rfl, ?_⟩) hHeld ?_ ?_
 rotate_left
 ·rintro w' ⟨s0, s1, s2, s3⟩
  go_simp
  with_reducible rfl
 rotate_left
 ·simp only [P_, i64_w, i32_w]
  rfl
 refine one_ (i := 8) (N := some 20) (M_ 12 511) rfl rfl (one_of HT_.out (by kernel_rfl)) (by decide) (fun K hK => ?_)
 refine goes_ Try.func85 (by kernel_rfl) rfl #[.agg #[.slice A0_0 l0_0.length c0_0, .slice (some ad357) l0_1.length c0_1, .slice A0_2 l0_2.length c0_2], .int .i64 (rd ((rd_T35 l0_1 a1).f1) 0)] (by rfl) rfl rfl (by simp only [List.map_toArray, List.map_cons, List.map_nil]; try rfl) ?_
 with_reducible refine (impl_free.calls k _ _ l0_0 _ _ l0_1 _ _ l0_2 (rd ((rd_T35 l0_1 a1).f1) 0) t359 _ ?side1 ?side2 ?side3 ?side4 ?side5 ?side6 A10.out).mono ?_
 (case side1 => exact (Kd.C_below HR0_0.out HB.out))
 (case side2 => exact HC0_0.out)
 (case side3 => exact (Kd.C_below HR0_1.out HB.out))
 (case side4 => exact HC0_1.out)
 (case side5 => exact (Kd.C_below HR0_2.out HB.out))
 (case side6 => exact HC0_2.out)
 rintro e w14 ⟨rfl, hb⟩
 refine ⟨_, rfl, ?_⟩
 have n0_ := K_ (blk_below BK356.out hb)
 have n1_ := K_ (below_step HB.out hb)
 clear BK356
 clear HB
 have BK356 := n0_
 have HB := n1_
 clear n0_ n1_
 clear hb
 skip
 skip
 skip
 refine hK.out _ _ ⟨(blk_cell BK356.out 0).trans rfl, (blk_cell BK356.out 1).trans rfl, (blk_cell BK356.out 2).trans rfl, ((HB.out.cell (World.block_lt_of_cell? w _ hw358_0)).trans hw358_0)⟩ (fun hHeld => ?_)
 clear hK K
 refine norm_ (a' := ?_) ?_ ?_
 rotate_left
 ·show Act.put _ (some 20) _ = _
  simp only [P_, i64_w, i32_w]
  rfl
 refine pure_ (i := 9) (N := some 21) (v := ?_) (a' := ?_) (M_ 12 1023) rfl rfl (any_of HT_.out (by kernel_rfl)) (fun _ _ _ h => h) (Or.inl ⟨by rfl, ?_⟩) ?_ ?_
 rotate_left
 ·intro w'
  go_simp
  with_reducible rfl
 rotate_left
 ·simp only [P_, i64_w, i32_w]
  rfl
 refine pure_ (i := 10) (N := some 22) (v := ?_) (a' := ?_) (M_ 12 2047) rfl rfl (any_of HT_.out (by kernel_rfl)) (fun _ _ _ h => h) (Or.inl ⟨by rfl, ?_⟩) ?_ ?_
 rotate_left
 ·intro w'
  go_simp
  with_reducible rfl
 rotate_left
 ·simp only [P_, i64_w, i32_w]
  rfl
 refine pure_ (i := 11) (N := some 4) (v := ?_) (a' := ?_) (M_ 12 4095) rfl rfl (any_of HT_.out (by kernel_rfl)) (fun _ _ _ h => h) (Or.inl ⟨by rfl, ?_⟩) ?_ ?_
 rotate_left
 ·intro w'
  go_simp
  with_reducible rfl
 rotate_left
 ·simp only [P_, i64_w, i32_w]
  rfl
 refine done_ (done_of HT_.out (by kernel_rfl)) ?_
 try go_wp2
 go_ret
 exact ⟨rfl, HB.out⟩


/-! ### impl_Moves: function 19 -/
def impl_Moves.l0 : Nat → List Int → Int → Int → List Int → List (S35) → List Int → Option (List Int)
 | 0, _, _, _, _, _, _ => none
 | k + 1, x3, x10, x11, x442000, x442001, x442002 => if x11 < x10 then ((impl_can.f k x442000 x442001 x442002 x11).bind fun t443 => (if t443 = true then (if 0 ≤ x11 then (if x11 < (x442002.length : Int) then (if x3.length < 17592186044416 then (impl_Moves.l0 k (x3 ++ [rd x442002 x11]) x10 (wrap64 (x11 + 1)) x442000 x442001 x442002) else (none)) else (none)) else (none)) else (impl_Moves.l0 k x3 x10 (wrap64 (x11 + 1)) x442000 x442001 x442002))) else (some x3)
def impl_Moves.f (k : Nat) (l0_0 : List Int) (l0_1 : List (S35)) (l0_2 : List Int) : Option (List Int) := (impl_StateOk.f k l0_0 l0_1 l0_2).bind fun t442 => (if t442 = 0 then (impl_Moves.l0 k ([] : List Int) (l0_1.length : Int) 0 l0_0 l0_1 l0_2) else (some ([] : List Int)))
theorem impl_Moves.mono_l : ∀ k, (∀ y0 y1 y2 y3 y4 y5, LeO (impl_Moves.l0 k y0 y1 y2 y3 y4 y5) (impl_Moves.l0 (k + 1) y0 y1 y2 y3 y4 y5))
 | 0 => fun _ _ _ _ _ _ r h => by simp [impl_Moves.l0] at h
 | k + 1 => by
  have ih0 := impl_Moves.mono_l k
  ·intro y0 y1 y2 y3 y4 y5
   unfold impl_Moves.l0
   repeat' with_reducible first | exact ih0 _ _ _ _ _ _ | exact impl_StateOk.mono _ _ _ _ | exact impl_can.mono _ _ _ _ _ | exact LeO.refl _ | exact LeO.none _ | refine LeO.ite ?_ ?_ | refine LeO.bind ?_ (fun _ => ?_)
theorem impl_Moves.mono : ∀ a0 a1 a2 k, LeO (impl_Moves.f k a0 a1 a2) (impl_Moves.f (k + 1) a0 a1 a2) := by
 intro a0 a1 a2 k
 have ih0 := impl_Moves.mono_l k
 unfold impl_Moves.f
 repeat' with_reducible first | exact ih0 _ _ _ _ _ _ | exact impl_StateOk.mono _ _ _ _ | exact impl_can.mono _ _ _ _ _ | exact LeO.refl _ | exact LeO.none _ | refine LeO.ite ?_ ?_ | refine LeO.bind ?_ (fun _ => ?_)
set_option maxHeartbeats 8000000 in
set_option maxRecDepth 100000 in
theorem impl_Moves.calls (k : Nat) (A0_0 : Option Addr) (c0_0 : Nat) (l0_0 : List Int) (A0_1 : Option Addr) (c0_1 : Nat) (l0_1 : List (S35)) (A0_2 : Option Addr) (c0_2 : Nat) (l0_2 : List Int) (r : List Int) (w : World) (hr0_0 : Kd.C (Kd.int .i64) w A0_0 l0_0.length l0_0) (hc0_0 : l0_0.length ≤ c0_0) (hr0_1 : Kd.C k35 w A0_1 l0_1.length l0_1) (hc0_1 : l0_1.length ≤ c0_1) (hr0_2 : Kd.C (Kd.int .i64) w A0_2 l0_2.length l0_2) (hc0_2 : l0_2.length ≤ c0_2) (h : impl_Moves.f k l0_0 l0_1 l0_2 = some r) :
  Calls Try.prog 19 #[.agg #[.slice A0_0 l0_0.length c0_0, .slice A0_1 l0_1.length c0_1, .slice A0_2 l0_2.length c0_2]] w fun e w' => ∃ v0_ : Value, e = .returned (v0_) ∧ Kd.R (Kd.int .i64) 3 w' w.heap.size (fun _ => True) v0_ r ∧ Below w.heap.size w w' := by
 have hu26 := Try.underlying26
 have HR0_0 := K_ hr0_0
 have HC0_0 := K_ hc0_0
 clear hr0_0 hc0_0
 have HR0_1 := K_ hr0_1
 have HC0_1 := K_ hc0_1
 clear hr0_1 hc0_1
 have HR0_2 := K_ hr0_2
 have HC0_2 := K_ hc0_2
 clear hr0_2 hc0_2
 have HB := K_ (Below.refl w.heap.size w)
 unfold impl_Moves.f at h
 have H := h
 clear h
 replace H := Option.bind_eq_some_iff.mp H
 obtain ⟨t442, A20, H⟩ := H
 try dsimp only at H
 have A2 := K_ A20
 clear A20
 replace H := ps_ H
 rcases H with ⟨c3, H⟩ | ⟨c3, H⟩
 case inr =>
  have c3b0 := beq_eq_false_iff_ne.mpr c3
  have c3b1 := bne_iff_ne.mpr c3
  obtain rfl := Option.some.inj H
  go_enter Try.func19, Try.ntmps19
  go_wp2_with (first | ((with_reducible refine gate_dst (N := 1) rfl ?_); refine box_event ?hg (N := 1) ?hd (cs := #[.slice A0_0 l0_0.length c0_0, .slice A0_1 l0_1.length c0_1, .slice A0_2 l0_2.length c0_2]) (t := 26) ?hr ?_; (case hd => rfl); (case hg => rfl); (case hr => go_simp; try rfl); intro gb441 hg w20 hbox hb; have BK441 := K_ (hbox); have GW441 := ge_ hg HB.out; have GE441 := ge_ hg HB.out; replace HB := K_ (below_step HB.out hb); clear hb hbox hg; obtain ⟨hcz21_0, hcz21_1, hcz21_2, hfz21_0, hfz21_1, hfz21_2⟩ := blkf3_ BK441.out) | ((with_reducible refine gate_callee (f := 41) rfl ?_); refine goesL_ (some 6) rfl rfl Try.func41 (by kernel_rfl) rfl #[.agg #[.slice A0_0 l0_0.length c0_0, .slice A0_1 l0_1.length c0_1, .slice A0_2 l0_2.length c0_2]] rfl (by simp only [List.map_toArray, List.map_cons, List.map_nil]; try rfl) ?_; (with_reducible refine (impl_StateOk.calls k _ _ l0_0 _ _ l0_1 _ _ l0_2 t442 _ ?side1 ?side2 ?side3 ?side4 ?side5 ?side6 A2.out).mono ?_); (case side1 => exact (Kd.C_below HR0_0.out HB.out)); (case side2 => exact HC0_0.out); (case side3 => exact (Kd.C_below HR0_1.out HB.out)); (case side4 => exact HC0_1.out); (case side5 => exact (Kd.C_below HR0_2.out HB.out)); (case side6 => exact HC0_2.out); rintro e w22 ⟨rfl, hb⟩; refine ⟨_, rfl, ?_⟩; replace BK441 := K_ (blk_below BK441.out hb); replace HB := K_ (below_step HB.out hb); clear hb))
  go_ret
  exact ⟨_, rfl, Kd.R_nil _ _ _ _ _, HB.out⟩
 have c3b0 := beq_iff_eq.mpr c3
 have c3b1 := bne_eq_false_iff_eq.mpr c3
 clear c3
 have H' := K_ H
 clear H
 go_enter Try.func19, Try.ntmps19
 go_wp2_with (first | ((with_reducible refine gate_dst (N := 1) rfl ?_); refine box_event ?hg (N := 1) ?hd (cs := #[.slice A0_0 l0_0.length c0_0, .slice A0_1 l0_1.length c0_1, .slice A0_2 l0_2.length c0_2]) (t := 26) ?hr ?_; (case hd => rfl); (case hg => rfl); (case hr => go_simp; try rfl); intro gb441 hg w4 hbox hb; have BK441 := K_ (hbox); have GW441 := ge_ hg HB.out; have GE441 := ge_ hg HB.out; replace HB := K_ (below_step HB.out hb); clear hb hbox hg; obtain ⟨hcz5_0, hcz5_1, hcz5_2, hfz5_0, hfz5_1, hfz5_2⟩ := blkf3_ BK441.out) | ((with_reducible refine gate_callee (f := 41) rfl ?_); refine goesL_ (some 6) rfl rfl Try.func41 (by kernel_rfl) rfl #[.agg #[.slice A0_0 l0_0.length c0_0, .slice A0_1 l0_1.length c0_1, .slice A0_2 l0_2.length c0_2]] rfl (by simp only [List.map_toArray, List.map_cons, List.map_nil]; try rfl) ?_; (with_reducible refine (impl_StateOk.calls k _ _ l0_0 _ _ l0_1 _ _ l0_2 t442 _ ?side1 ?side2 ?side3 ?side4 ?side5 ?side6 A2.out).mono ?_); (case side1 => exact (Kd.C_below HR0_0.out HB.out)); (case side2 => exact HC0_0.out); (case side3 => exact (Kd.C_below HR0_1.out HB.out)); (case side4 => exact HC0_1.out); (case side5 => exact (Kd.C_below HR0_2.out HB.out)); (case side6 => exact HC0_2.out); rintro e w6 ⟨rfl, hb⟩; refine ⟨_, rfl, ?_⟩; replace BK441 := K_ (blk_below BK441.out hb); replace HB := K_ (below_step HB.out hb); clear hb; obtain ⟨hcz7_0, hcz7_1, hcz7_2, hfz7_0, hfz7_1, hfz7_2⟩ := blkf3_ BK441.out))
 go_loopg [3, 11] k (fun kq v3 v11 w' => ∃ (x3_1 : List Int) (x11_1 : Int), v11 = .int .i64 x11_1 ∧ Aside0 (impl_Moves.l0 kq x3_1 (l0_1.length : Int) x11_1 l0_0 l0_1 l0_2 = some r) ∧ Aside0 (kq ≤ k) ∧ Aside0 (Kd.R (Kd.int .i64) 3 w' w.heap.size (fun _ => True) v3 x3_1) ∧ Aside0 (w'.heap[gb441]? = some (.cells #[(.slice A0_0 l0_0.length c0_0), (.slice A0_1 l0_1.length c0_1), (.slice A0_2 l0_2.length c0_2)] 26 (0, 0))) ∧ Aside0 (Below w.heap.size w w'))
 case atStart => exact ⟨(([] : List Int)), (0), rfl, H', ⟨Nat.le_refl _⟩, ⟨Kd.R_nil _ _ _ _ _⟩, ⟨BK441.out⟩, ⟨HB.out⟩⟩
 case round =>
  clear H'
  clear c3b0 c3b1 hcz5_0 hcz5_1 hcz5_2 hcz7_0 hcz7_1 hcz7_2 hfz5_0 hfz5_1 hfz5_2 hfz7_0 hfz7_1 hfz7_2
  obtain ⟨x3_1, x11_1, rfl, HA, HK1, HO_3, BK441, HB⟩ := hrel
  cases gk with
  | zero => exact absurd HA.out (by simp [impl_Moves.l0])
  | succ k1 =>
   have H := HA.out
   clear HA
   simp only [impl_Moves.l0] at H
   replace H := ds_ H
   rcases H with ⟨c8b0, H⟩ | ⟨c8b0, H⟩
   case inr =>
    obtain rfl := Option.some.inj H
    go_wp2
    go_ret
    exact ⟨_, rfl, by exact HO_3.out, HB.out⟩
   replace H := Option.bind_eq_some_iff.mp H
   obtain ⟨t443, A90, H⟩ := H
   try dsimp only at H
   have A9 := K_ A90
   clear A90
   by_cases c10 : t443 = true
   case neg =>
    replace c10 := Bool.eq_false_iff.mpr c10
    subst c10
    rw [if_neg (show ¬ (false = true) by decide)] at H
    have H' := K_ H
    clear H
    obtain ⟨hcz18_0, hcz18_1, hcz18_2, hfz18_0, hfz18_1, hfz18_2⟩ := blkf3_ BK441.out
    go_wp2_with (first | ((with_reducible refine gate_callee (f := 61) rfl ?_); refine goesL_ (some 16) rfl rfl Try.func61 (by kernel_rfl) rfl #[.agg #[.slice A0_0 l0_0.length c0_0, .slice A0_1 l0_1.length c0_1, .slice A0_2 l0_2.length c0_2], .int .i64 x11_1] rfl (by simp only [List.map_toArray, List.map_cons, List.map_nil]; try rfl) ?_; (with_reducible refine (impl_can.calls k1 _ _ l0_0 _ _ l0_1 _ _ l0_2 x11_1 false _ ?side1 ?side2 ?side3 ?side4 ?side5 ?side6 A9.out).mono ?_); (case side1 => exact (Kd.C_below HR0_0.out HB.out)); (case side2 => exact HC0_0.out); (case side3 => exact (Kd.C_below HR0_1.out HB.out)); (case side4 => exact HC0_1.out); (case side5 => exact (Kd.C_below HR0_2.out HB.out)); (case side6 => exact HC0_2.out); rintro e w19 ⟨rfl, hb⟩; refine ⟨_, rfl, ?_⟩; replace HO_3 := K_ (Kd.R_below HO_3.out hb); replace BK441 := K_ (blk_below BK441.out hb); replace HB := K_ (below_step HB.out hb); clear hb))
    go_roundg k1
    case measure => have := HK1.out; omega
    case rel => exact ⟨(x3_1), (wrap64 (x11_1 + 1)), rfl, H', ⟨by have := HK1.out; omega⟩, ⟨HO_3.out⟩, ⟨BK441.out⟩, ⟨HB.out⟩⟩
   subst c10
   rw [if_pos rfl] at H
   replace H := dn_ H
   obtain ⟨c11b0, H⟩ := H
   replace H := dn_ H
   obtain ⟨c12b0, H⟩ := H
   replace H := pn_ H
   obtain ⟨c13, H⟩ := H
   have LMc13 := K_ c13
   clear c13
   obtain ⟨y445, hy445⟩ : ∃ y_ : List Int, y_ = (x3_1 ++ [rd l0_2 x11_1]) := ⟨_, rfl⟩
   rw [← hy445] at H
   have Ny445 := K_ hy445
   clear hy445
   have H' := K_ H
   clear H
   obtain ⟨hcz14_0, hcz14_1, hcz14_2, hfz14_0, hfz14_1, hfz14_2⟩ := blkf3_ BK441.out
   go_wp2_with (first | ((with_reducible refine gate_callee (f := 61) rfl ?_); refine goesL_ (some 16) rfl rfl Try.func61 (by kernel_rfl) rfl #[.agg #[.slice A0_0 l0_0.length c0_0, .slice A0_1 l0_1.length c0_1, .slice A0_2 l0_2.length c0_2], .int .i64 x11_1] rfl (by simp only [List.map_toArray, List.map_cons, List.map_nil]; try rfl) ?_; (with_reducible refine (impl_can.calls k1 _ _ l0_0 _ _ l0_1 _ _ l0_2 x11_1 true _ ?side1 ?side2 ?side3 ?side4 ?side5 ?side6 A9.out).mono ?_); (case side1 => exact (Kd.C_below HR0_0.out HB.out)); (case side2 => exact HC0_0.out); (case side3 => exact (Kd.C_below HR0_1.out HB.out)); (case side4 => exact HC0_1.out); (case side5 => exact (Kd.C_below HR0_2.out HB.out)); (case side6 => exact HC0_2.out); rintro e w15 ⟨rfl, hb⟩; refine ⟨_, rfl, ?_⟩; replace HO_3 := K_ (Kd.R_below HO_3.out hb); replace BK441 := K_ (blk_below BK441.out hb); replace HB := K_ (below_step HB.out hb); clear hb; obtain ⟨hcz16_0, hcz16_1, hcz16_2, hfz16_0, hfz16_1, hfz16_2⟩ := blkf3_ BK441.out; have p444 : 0 ≤ (x11_1 : Int) := of_decide_eq_true (by assumption); have q444 : x11_1 < (l0_2.length : Int) := of_decide_eq_true (by assumption); obtain ⟨ad444, e444, hx444_0⟩ := Kd.at_int HR0_2.out x11_1 p444 q444; cases e444; replace hx444_0 := (HB.out.cell (World.block_lt_of_cell? w _ hx444_0)).trans hx444_0; replace p444 := eq_true p444; replace q444 := eq_true q444) | ((with_reducible refine gate_builtin (b := .append) (xs := #[.tmp 17, .tmp 23]) rfl ?_); at_builtin; refine Kd.R_append (Kd.int .i64) (w0 := w) w.heap.size rfl (.tmp 17) (.tmp 23) 23 3 (.int .i64 0) 8 rfl Try.underlying23 info3 rfl (by decide) (by omega) u3 x3_1 (rd l0_2 x11_1) [.int .i64 (rd l0_2 x11_1)] (fun _ => True) (fun _ => False) rfl rfl ?aP (fun _ hk => hk.elim) ?aF ?aO ?aB ?aS ?aL ?_; (case aP => exact rfl); (case aB => exact HB.out); (case aF => exact (fun _ _ => trivial)); (case aO => exact HO_3.out); (case aS => exact (below_size HB.out)); (case aL => have := LMc13.out; omega); intro v446 w17 ho hb hg hat; rw [← Ny445.out] at ho; have n0_ := K_ (blk_grown BK441.out hg (Kd.R_ne HO_3.out BK441.out (by decide))); have n1_ := K_ (hb); have n2_ := K_ (ho); clear BK441; clear HB; clear HO_3; have BK441 := n0_; have HB := n1_; have HO447 := n2_; clear n0_ n1_ n2_; clear ho hb hg hat))
   go_roundg k1
   case measure => have := HK1.out; omega
   case rel => exact ⟨(y445), (wrap64 (x11_1 + 1)), rfl, H', ⟨by have := HK1.out; omega⟩, ⟨HO447.out⟩, ⟨BK441.out⟩, ⟨HB.out⟩⟩

-- NOT PRINTED: function 20 (impl_Allowed)


/-! ### spec_Moves: function 22 -/
def spec_Moves.l0 : Nat → List Int → List Int → Int → Int → List Int → List (S35) → List Int → Option (List Int)
 | 0, _, _, _, _, _, _, _ => none
 | k + 1, x3, x10, x11, x12, x451000, x451001, x451002 => if x12 < x11 then (if 0 ≤ x12 then (if x12 < (x10.length : Int) then ((spec_l1can.f k x451000 x451001 x451002 x12).bind fun t453 => (if t453 = true then (if x3.length < 17592186044416 then (spec_Moves.l0 k (x3 ++ [rd x10 x12]) x10 x11 (wrap64 (x12 + 1)) x451000 x451001 x451002) else (none)) else (spec_Moves.l0 k x3 x10 x11 (wrap64 (x12 + 1)) x451000 x451001 x451002))) else (none)) else (none)) else (some x3)
def spec_Moves.f (k : Nat) (l0_0 : List Int) (l0_1 : List (S35)) (l0_2 : List Int) : Option (List Int) := (spec_StateOk.f k l0_0 l0_1 l0_2).bind fun t451 => (if t451 = 0 then (spec_Moves.l0 k ([] : List Int) l0_2 (l0_2.length : Int) 0 l0_0 l0_1 l0_2) else (some ([] : List Int)))
theorem spec_Moves.mono_l : ∀ k, (∀ y0 y1 y2 y3 y4 y5 y6, LeO (spec_Moves.l0 k y0 y1 y2 y3 y4 y5 y6) (spec_Moves.l0 (k + 1) y0 y1 y2 y3 y4 y5 y6))
 | 0 => fun _ _ _ _ _ _ _ r h => by simp [spec_Moves.l0] at h
 | k + 1 => by
  have ih0 := spec_Moves.mono_l k
  ·intro y0 y1 y2 y3 y4 y5 y6
   unfold spec_Moves.l0
   repeat' with_reducible first | exact ih0 _ _ _ _ _ _ _ | exact spec_StateOk.mono _ _ _ _ | exact spec_l1can.mono _ _ _ _ _ | exact LeO.refl _ | exact LeO.none _ | refine LeO.ite ?_ ?_ | refine LeO.bind ?_ (fun _ => ?_)
theorem spec_Moves.mono : ∀ a0 a1 a2 k, LeO (spec_Moves.f k a0 a1 a2) (spec_Moves.f (k + 1) a0 a1 a2) := by
 intro a0 a1 a2 k
 have ih0 := spec_Moves.mono_l k
 unfold spec_Moves.f
 repeat' with_reducible first | exact ih0 _ _ _ _ _ _ _ | exact spec_StateOk.mono _ _ _ _ | exact spec_l1can.mono _ _ _ _ _ | exact LeO.refl _ | exact LeO.none _ | refine LeO.ite ?_ ?_ | refine LeO.bind ?_ (fun _ => ?_)

/-! ### spec_Step: function 23 -/
def spec_Step.f (k : Nat) (l0_0 : List Int) (l0_1 : List (S35)) (l0_2 : List Int) (a1 : Int) : Option (List Int × (List (S35)) × List Int) := (spec_StateOk.f k l0_0 l0_1 l0_2).bind fun t459 => (if t459 = 0 then ((spec_l1name.f k l0_0 l0_1 l0_2 a1).bind fun t460 => (if t460 < 0 then (some (([] : List Int), ([] : List (S35)), ([] : List Int))) else ((spec_l1can.f k l0_0 l0_1 l0_2 t460).bind fun t461 => (if t461 = true then ((spec_l1step.f k l0_0 l0_1 l0_2 t460).bind fun bt462 => (some (bt462.1, bt462.2.1, bt462.2.2))) else (some (([] : List Int), ([] : List (S35)), ([] : List Int))))))) else (some (([] : List Int), ([] : List (S35)), ([] : List Int))))
theorem spec_Step.mono : ∀ a0 a1 a2 a3 k, LeO (spec_Step.f k a0 a1 a2 a3) (spec_Step.f (k + 1) a0 a1 a2 a3) := by
 intro a0 a1 a2 a3 k
 unfold spec_Step.f
 repeat' with_reducible first | exact spec_StateOk.mono _ _ _ _ | exact spec_l1can.mono _ _ _ _ _ | exact spec_l1name.mono _ _ _ _ _ | exact spec_l1step.mono _ _ _ _ _ | exact LeO.refl _ | exact LeO.none _ | refine LeO.ite ?_ ?_ | refine LeO.bind ?_ (fun _ => ?_)

/-! ### laws_wByte: function 25 -/
def laws_wByte.f (l0 : List Int) (a1 : Int) : Option (Int) := if (l0.length : Int) = 0 then (some 0) else (if 0 ≤ (Int.tmod a1 (l0.length : Int)) then (if (Int.tmod a1 (l0.length : Int)) < (l0.length : Int) then (some (wrap64 (rd l0 (Int.tmod a1 (l0.length : Int))))) else (none)) else (none))
set_option maxHeartbeats 8000000 in
set_option maxRecDepth 100000 in
theorem laws_wByte.calls (A0 : Option Addr) (c0 : Nat) (l0 : List Int) (a1 : Int) (r : Int) (w : World) (hr0 : Kd.C (Kd.int .u8) w A0 l0.length l0) (hc0 : l0.length ≤ c0) (h : laws_wByte.f l0 a1 = some r) :
  Calls Try.prog 25 #[.slice A0 l0.length c0, .int .i64 a1] w fun e w' => e = .returned (.int .i64 r) ∧ Drawn0 w w' := by
 have HR0 := K_ hr0
 have HC0 := K_ hc0
 clear hr0 hc0
 unfold laws_wByte.f at h
 have H := h
 clear h
 replace H := ps_ H
 rcases H with ⟨c3, H⟩ | ⟨c3, H⟩
 case inl =>
  have c3b0 := beq_iff_eq.mpr c3
  have c3b1 := bne_eq_false_iff_eq.mpr c3
  clear c3
  obtain rfl := Option.some.inj H
  go_enter Try.func25, Try.ntmps25
  go_wp2
  go_ret
  exact ⟨by first | rfl | (simp; done) | (simp [*]; done), by repeat (first | exact Drawn0.refl _ | apply Drawn0.step)⟩
 have c3b0 := beq_eq_false_iff_ne.mpr c3
 have c3b1 := bne_iff_ne.mpr c3
 have c3b2 : ¬ (l0 = []) := fun h_ => c3 (by rw [h_]; rfl)
 obtain ⟨ji4, hji4⟩ : ∃ j_ : Int, (Int.tmod a1 (l0.length : Int)) = j_ := ⟨_, rfl⟩
 replace H : (if 0 ≤ (ji4) then (if (ji4) < (l0.length : Int) then (some (wrap64 (rd l0 (ji4)))) else (none)) else (none)) = some r := by first | (rw [hji4] at H; exact H) | (simp only [hji4] at H ⊢; exact H)
 replace H := dn_ H
 obtain ⟨c5b0, H⟩ := H
 replace H := dn_ H
 obtain ⟨c6b0, H⟩ := H
 obtain rfl := Option.some.inj H
 have p474 : 0 ≤ ((ji4) : Int) := of_decide_eq_true (by assumption)
 have q474 : (ji4) < (l0.length : Int) := of_decide_eq_true (by assumption)
 obtain ⟨ad474, e474, hx474_0⟩ := Kd.at_int HR0.out (ji4) p474 q474
 cases e474
 replace p474 := eq_true p474
 replace q474 := eq_true q474
 go_enter Try.func25, Try.ntmps25
 go_wp2
 go_ret
 exact ⟨by first | rfl | (simp; done) | (simp only [← hji4] <;> (first | rfl | simp)) | (simp [*]; done), by repeat (first | exact Drawn0.refl _ | apply Drawn0.step)⟩

-- NOT PRINTED: function 4 (laws_FnJust)

-- NOT PRINTED: function 27 (spec_Solve)

-- NOT PRINTED: function 5 (laws_FnEasier)


/-! ### laws_szIntS: function 72 -/
def laws_szIntS.f (l0 : List Int) (a1 : Int) : Option (Int) := if (wrap64 (a1 - (l0.length : Int))) < 0 then (some (-1)) else (some (wrap64 (a1 - (l0.length : Int))))

/-! ### laws_szTrain: function 88 -/
def laws_szTrain.f (a0_0 : Int) (l0_1 : List Int) (a0_2 : Int) (a1 : Int) : Option (Int) := (laws_szIntS.f l0_1 a1).bind fun t479 => (if t479 < 0 then (some (-1)) else (some t479))

/-! ### impl_copyState: function 63 -/
def impl_copyState.l0 : Nat → List (S35) → Int → Int → List Int → List (S35) → List Int → Option (List Int × (List (S35)) × List Int)
 | 0, _, _, _, _, _, _ => none
 | k + 1, x14, x15, x16, x369000, x369001, x369002 => if x16 < x15 then (if 0 ≤ x16 then (if x16 < (x14.length : Int) then (if ([] : List Int).length + ((rd_T35 x14 x16).f1).length < 17592186044416 then (if x369001.length < 3518437208883 then (impl_copyState.l0 k x14 x15 (wrap64 (x16 + 1)) x369000 (x369001 ++ [(⟨(rd_T35 x14 x16).f0, (([] : List Int) ++ ((rd_T35 x14 x16).f1)), (rd_T35 x14 x16).f2⟩ : S35)]) x369002) else (none)) else (none)) else (none)) else (none)) else (some (x369000, x369001, x369002))
def impl_copyState.f (k : Nat) (l0_0 : List Int) (l0_1 : List (S35)) (l0_2 : List Int) : Option (List Int × (List (S35)) × List Int) := if ([] : List Int).length + l0_0.length < 17592186044416 then (if ([] : List Int).length + l0_2.length < 17592186044416 then (impl_copyState.l0 k l0_1 (l0_1.length : Int) 0 (([] : List Int) ++ l0_0) ([] : List (S35)) (([] : List Int) ++ l0_2)) else (none)) else (none)
theorem impl_copyState.mono_l : ∀ k, (∀ y0 y1 y2 y3 y4 y5, LeO (impl_copyState.l0 k y0 y1 y2 y3 y4 y5) (impl_copyState.l0 (k + 1) y0 y1 y2 y3 y4 y5))
 | 0 => fun _ _ _ _ _ _ r h => by simp [impl_copyState.l0] at h
 | k + 1 => by
  have ih0 := impl_copyState.mono_l k
  ·intro y0 y1 y2 y3 y4 y5
   unfold impl_copyState.l0
   repeat' with_reducible first | exact ih0 _ _ _ _ _ _ | exact LeO.refl _ | exact LeO.none _ | refine LeO.ite ?_ ?_ | refine LeO.bind ?_ (fun _ => ?_)
theorem impl_copyState.mono : ∀ a0 a1 a2 k, LeO (impl_copyState.f k a0 a1 a2) (impl_copyState.f (k + 1) a0 a1 a2) := by
 intro a0 a1 a2 k
 have ih0 := impl_copyState.mono_l k
 unfold impl_copyState.f
 repeat' with_reducible first | exact ih0 _ _ _ _ _ _ | exact LeO.refl _ | exact LeO.none _ | refine LeO.ite ?_ ?_ | refine LeO.bind ?_ (fun _ => ?_)
def impl_copyState.T1 : Bool × List (List Nat × List Nat) := (true, [([], []), ([0], [0]), ([1], [1]), ([], []), ([3], [3]), ([4, 2], [4]), ([2, 5], [2, 5]), ([], []), ([7, 6, 5, 0, 1, 2, 3, 4, 5, 6, 7], [6, 7])])
def impl_copyState.B1 : List Nat := [0, 1, 3, 0, 8, 31, 63, 0, 255]
theorem impl_copyState.tab1 : rtab .any (opsOf Try.f63 1) = impl_copyState.T1 := by kernel_rfl
theorem impl_copyState.bits1 : waitsOk impl_copyState.T1.2 impl_copyState.B1 = true := by kernel_rfl
set_option maxHeartbeats 8000000 in
set_option maxRecDepth 100000 in
theorem impl_copyState.calls (k : Nat) (A0_0 : Option Addr) (c0_0 : Nat) (l0_0 : List Int) (A0_1 : Option Addr) (c0_1 : Nat) (l0_1 : List (S35)) (A0_2 : Option Addr) (c0_2 : Nat) (l0_2 : List Int) (r1 : List Int) (r2 : List (S35)) (r3 : List Int) (w : World) (hr0_0 : Kd.C (Kd.int .i64) w A0_0 l0_0.length l0_0) (hc0_0 : l0_0.length ≤ c0_0) (hr0_1 : Kd.C k35 w A0_1 l0_1.length l0_1) (hc0_1 : l0_1.length ≤ c0_1) (hr0_2 : Kd.C (Kd.int .i64) w A0_2 l0_2.length l0_2) (hc0_2 : l0_2.length ≤ c0_2) (h : impl_copyState.f k l0_0 l0_1 l0_2 = some (r1, r2, r3)) :
  Calls Try.prog 63 #[.agg #[.slice A0_0 l0_0.length c0_0, .slice A0_1 l0_1.length c0_1, .slice A0_2 l0_2.length c0_2]] w fun e w' => ∃ v0_ v1_ v2_ : Value, e = .returned (.agg #[v0_, v1_, v2_]) ∧ Kd.R (Kd.int .i64) 3 w' w.heap.size (fun k_ => some k_ ≠ (v2_ : Value).ownBlock) v0_ r1 ∧ Kd.S k35 35 w' w.heap.size (fun k_ => some k_ ≠ (v0_ : Value).ownBlock ∧ some k_ ≠ (v2_ : Value).ownBlock) v1_ r2 ∧ Kd.R (Kd.int .i64) 3 w' w.heap.size (fun k_ => some k_ ≠ (v0_ : Value).ownBlock) v2_ r3 ∧ Below w.heap.size w w' := by
 have hu26 := Try.underlying26
 have hu35 := Try.underlying35
 have HR0_0 := K_ hr0_0
 have HC0_0 := K_ hc0_0
 clear hr0_0 hc0_0
 have HR0_1 := K_ hr0_1
 have HC0_1 := K_ hc0_1
 clear hr0_1 hc0_1
 have HR0_2 := K_ hr0_2
 have HC0_2 := K_ hc0_2
 clear hr0_2 hc0_2
 have HB := K_ (Below.refl w.heap.size w)
 unfold impl_copyState.f at h
 have H := h
 clear h
 replace H := pn_ H
 obtain ⟨c2, H⟩ := H
 have LMc2 := K_ c2
 clear c2
 obtain ⟨y362, hy362⟩ : ∃ y_ : List Int, y_ = (([] : List Int) ++ l0_0) := ⟨_, rfl⟩
 rw [← hy362] at H
 have Ny362 := K_ hy362
 clear hy362
 replace H := pn_ H
 obtain ⟨c3, H⟩ := H
 have LMc3 := K_ c3
 clear c3
 obtain ⟨y365, hy365⟩ : ∃ y_ : List Int, y_ = (([] : List Int) ++ l0_2) := ⟨_, rfl⟩
 rw [← hy365] at H
 have Ny365 := K_ hy365
 clear hy365
 have H' := K_ H
 clear H
 go_enter Try.func63, Try.ntmps63
 try go_wp2_with (first | ((with_reducible refine gate_dst (N := 1) rfl ?_); refine box_event ?hg (N := 1) ?hd (cs := #[.slice A0_0 l0_0.length c0_0, .slice A0_1 l0_1.length c0_1, .slice A0_2 l0_2.length c0_2]) (t := 26) ?hr ?_; (case hd => rfl); (case hg => rfl); (case hr => go_simp; try rfl); intro gb360 hg w4 hbox hb; have BK360 := K_ (hbox); have GW360 := ge_ hg HB.out; have GE360 := ge_ hg HB.out; replace HB := K_ (below_step HB.out hb); clear hb hbox hg) | ((with_reducible refine gate_dst (N := 2) rfl ?_); refine box_event ?hg (N := 2) ?hd (cs := #[.slice none 0 0, .slice none 0 0, .slice none 0 0]) (t := 26) ?hr ?_; (case hd => rfl); (case hg => rfl); (case hr => go_simp; try rfl); intro gb361 hg w5 hbox hb; have BK361 := K_ (hbox); have GW361 := ge_ hg HB.out; have GE361 := ge_ hg HB.out; have NB360_361 := nl_ hg BK360.out; have NB361_360 := ng_ hg BK360.out; replace BK360 := K_ (blk_below BK360.out hb); replace HB := K_ (below_step HB.out hb); clear hb hbox hg))
 have n0_ := K_ (blk_drew BK360.out)
 have n1_ := K_ (blk_drew BK361.out)
 have n2_ := K_ (below_drew1 HB.out)
 clear BK360
 clear BK361
 clear HB
 have BK360 := n0_
 have BK361 := n1_
 have HB := n2_
 clear n0_ n1_ n2_
 refine start_ (n := 9) (S := fun w' => w'.cell? ⟨gb360, 0, none⟩ = some (.slice A0_0 l0_0.length c0_0) ∧ w'.cell? ⟨gb360, 1, none⟩ = some (.slice A0_1 l0_1.length c0_1) ∧ w'.cell? ⟨gb360, 2, none⟩ = some (.slice A0_2 l0_2.length c0_2)) (ds := []) #[ff, ff, ff, ff, ff, ff, ff, ff, ff] (by kernel_rfl) rfl rfl ⟨(blk_cell BK360.out 0).trans rfl, (blk_cell BK360.out 1).trans rfl, (blk_cell BK360.out 2).trans rfl⟩ (fun hHeld => ?_); refine with_tabW impl_copyState.tab1 impl_copyState.bits1 (fun HT_ HW_ => ?_)
 generalize w5.drew = w6 at BK360 BK361 HB hHeld ⊢
 refine pure_ (i := 0) (N := some 6) (v := ?_) (a' := ?_) (M_ 9 1) rfl rfl (any_of HT_.out (by kernel_rfl)) (fun _ _ _ h => h) (Or.inl ⟨by rfl, ?_⟩) ?_ ?_
 rotate_left
 ·intro w'
  go_simp
  with_reducible rfl
 rotate_left
 ·simp only [P_, i64_w, i32_w]
  rfl
 refine pure_ (i := 3) (N := some 9) (v := ?_) (a' := ?_) (M_ 9 9) rfl rfl (any_of HT_.out (by kernel_rfl)) (fun _ _ _ h => h) (Or.inl ⟨by rfl, ?_⟩) ?_ ?_
 rotate_left
 ·intro w'
  go_simp
  with_reducible rfl
 rotate_left
 ·simp only [P_, i64_w, i32_w]
  rfl
 refine take_ (i := 1) (N := some 7) (v := ?_) (a' := ?_) (M_ 9 11) rfl rfl (take_ofW HT_.out HW_.out (by kernel_rfl)) (fun _ _ _ h => h) (Or.inl ⟨by rfl, ?_⟩) hHeld ?_ ?_
 rotate_left
 ·rintro w' ⟨s0, s1, s2⟩
  go_simp
  with_reducible rfl
 rotate_left
 ·simp only [P_, i64_w, i32_w]
  rfl
 refine take_ (i := 4) (N := some 10) (v := ?_) (a' := ?_) (M_ 9 27) rfl rfl (take_ofW HT_.out HW_.out (by kernel_rfl)) (fun _ _ _ h => h) (Or.inl ⟨by rfl, ?_⟩) hHeld ?_ ?_
 rotate_left
 ·rintro w' ⟨s0, s1, s2⟩
  go_simp
  with_reducible rfl
 rotate_left
 ·simp only [P_, i64_w, i32_w]
  rfl
 refine join_ (σ := Value × Value × Nat) 1 #[tt, tt, tt, tt, tt, tt, tt, tt, ff] (fun s_ => [(8, s_.1), (11, s_.2.1), (3, .pointer (some ⟨s_.2.2, 0, none⟩)), (12, .agg #[s_.1, .slice none 0 0, s_.2.1])]) (fun s_ w' => (w'.cell? ⟨gb360, 0, none⟩ = some (.slice A0_0 l0_0.length c0_0) ∧ w'.cell? ⟨gb360, 1, none⟩ = some (.slice A0_1 l0_1.length c0_1) ∧ w'.cell? ⟨gb360, 2, none⟩ = some (.slice A0_2 l0_2.length c0_2)) ∧ (Kd.R (Kd.int .i64) 3 w' w.heap.size (fun k_ => some k_ ≠ (s_.2.1 : Value).ownBlock) s_.1 y362) ∧ (Kd.R (Kd.int .i64) 3 w' w.heap.size (fun k_ => some k_ ≠ (s_.1 : Value).ownBlock) s_.2.1 y365) ∧ (w'.heap[gb360]? = some (.cells #[.slice A0_0 l0_0.length c0_0, .slice A0_1 l0_1.length c0_1, .slice A0_2 l0_2.length c0_2] 26 (0, 0))) ∧ (w'.heap[gb361]? = some (.cells #[.slice none 0 0, .slice none 0 0, .slice none 0 0] 26 (0, 0))) ∧ (w'.heap[s_.2.2]? = some (.cells #[.slice none 0 0, .slice none 0 0, .slice none 0 0] 26 (0, 0))) ∧ (w.heap.size ≤ s_.2.2) ∧ (w.heap.size ≤ s_.2.2) ∧ (gb360 ≠ s_.2.2) ∧ (s_.2.2 ≠ gb360) ∧ (gb361 ≠ s_.2.2) ∧ (s_.2.2 ≠ gb361) ∧ (Below w.heap.size w w')) ?_ ?_
 rotate_left
 ·intro hCont
  refine two_ (i := 2) (j := 7) (Ni := some 8) (Nj := some 3) #[tt, tt, tt, tt, tt, ff, ff, ff, ff] (M_ 9 155) rfl rfl rfl rfl (two_of HT_.out (by kernel_rfl)) (by decide) (by decide) (fun K hK => ?_) (fun K hK => ?_)
  ·skip
   refine Kd.R_append_rows_step (Kd.int .i64) (w0 := w) w.heap.size (by rfl) (.const (.slice none 0 0)) (.tmp 7) 23 3 (.int .i64 0) 8 rfl Try.underlying23 info3 rfl (by decide) (by omega) (.slice none 0 0) ([] : List Int) l0_0 _ _ _ (fun _ => True) (fun _ => False) rfl rfl ?aO ?aR (fun _ _ h => h) (fun _ h => h.elim) ?aF ?aB ?aS ?aL ?_
   (case aR => exact (Kd.C_below HR0_0.out HB.out))
   (case aB => exact HB.out)
   (case aF => exact (fun _ _ => trivial))
   (case aO => exact ((Kd.R_nil _ _ _ _ (fun _ => True))))
   (case aS => exact (below_size HB.out))
   (case aL => have := LMc2.out; omega)
   intro v363 w7 ho hb hg hat
   rw [← Ny362.out] at ho
   have n0_ := K_ (blk_grown BK360.out hg (by simp [Value.ownBlock]))
   have n1_ := K_ (blk_grown BK361.out hg (by simp [Value.ownBlock]))
   have n2_ := K_ (hb)
   have n3_ := K_ (ho)
   clear BK360
   clear BK361
   clear HB
   have BK360 := n0_
   have BK361 := n1_
   have HB := n2_
   have HO364 := n3_
   clear n0_ n1_ n2_ n3_
   clear ho hb hg hat
   refine hK.out _ _ ⟨(blk_cell BK360.out 0).trans rfl, (blk_cell BK360.out 1).trans rfl, (blk_cell BK360.out 2).trans rfl⟩ (fun hHeld => ?_)
   clear hK K
   refine norm_ (a' := ?_) ?_ ?_
   rotate_left
   ·show Act.put _ (some 8) _ = _
    simp only [P_, i64_w, i32_w]
    rfl
   refine two_ (i := 5) (j := 7) (Ni := some 11) (Nj := some 3) #[tt, tt, tt, tt, tt, tt, ff, ff, ff] (M_ 9 159) rfl rfl rfl rfl (two_of HT_.out (by kernel_rfl)) (by decide) (by decide) (fun K hK => ?_) (fun K hK => ?_)
   ·skip
    refine Kd.R_append_rows_step (Kd.int .i64) (w0 := w) w.heap.size (by rfl) (.const (.slice none 0 0)) (.tmp 10) 23 3 (.int .i64 0) 8 rfl Try.underlying23 info3 rfl (by decide) (by omega) (.slice none 0 0) ([] : List Int) l0_2 _ _ _ (fun k_ => some k_ ≠ (v363 : Value).ownBlock) (fun _ => False) rfl rfl ?aO ?aR (fun _ _ h => h) (fun _ h => h.elim) ?aF ?aB ?aS ?aL ?_
    (case aR => exact (Kd.C_below HR0_2.out HB.out))
    (case aB => exact HB.out)
    (case aF => exact (fun k_ hk => Kd.fresh' (Kd.R_lt HO364.out) k_ hk))
    (case aO => exact ((Kd.R_nil _ _ _ _ (fun k_ => some k_ ≠ (v363 : Value).ownBlock))))
    (case aS => exact (below_size HB.out))
    (case aL => have := LMc3.out; omega)
    intro v366 w8 ho hb hg hat
    rw [← Ny365.out] at ho
    have n0_ := K_ (blk_grown BK360.out hg (by simp [Value.ownBlock]))
    have n1_ := K_ (blk_grown BK361.out hg (by simp [Value.ownBlock]))
    have n2_ := K_ (Kd.R_after (Kd.R_apart_nil HO364.out) hg hat)
    have n3_ := K_ (hb)
    have n4_ := K_ (ho)
    clear BK360
    clear BK361
    clear HO364
    clear HB
    have BK360 := n0_
    have BK361 := n1_
    have HO364 := n2_
    have HB := n3_
    have HO367 := n4_
    clear n0_ n1_ n2_ n3_ n4_
    clear ho hb hg hat
    obtain ⟨Ao9, co9, eo9⟩ := Kd.R_slice HO367.out
    (first | subst eo9 | (injection eo9 with f1_ f2_ f3_; have f4_ := f1_.symm; have f5_ := f3_.symm; clear f1_ f2_ f3_; subst f4_; subst f5_))
    obtain ⟨Ao10, co10, eo10⟩ := Kd.R_slice HO364.out
    (first | subst eo10 | (injection eo10 with f1_ f2_ f3_; have f4_ := f1_.symm; have f5_ := f3_.symm; clear f1_ f2_ f3_; subst f4_; subst f5_))
    refine hK.out _ _ ⟨(blk_cell BK360.out 0).trans rfl, (blk_cell BK360.out 1).trans rfl, (blk_cell BK360.out 2).trans rfl⟩ (fun hHeld => ?_)
    clear hK K
    refine norm_ (a' := ?_) ?_ ?_
    rotate_left
    ·show Act.put _ (some 11) _ = _
     simp only [P_, i64_w, i32_w]
     rfl
    refine pure_ (i := 6) (N := some 12) (v := ?_) (a' := ?_) (M_ 9 127) rfl rfl (any_of HT_.out (by kernel_rfl)) (fun _ _ _ h => h) (Or.inl ⟨by rfl, ?_⟩) ?_ ?_
    rotate_left
    ·intro w'
     go_simp
     with_reducible rfl
    rotate_left
    ·simp only [P_, i64_w, i32_w]
     rfl
    refine one_ (i := 7) (N := some 3) (M_ 9 255) rfl rfl (one_of HT_.out (by kernel_rfl)) (by decide) (fun K hK => ?_)
    refine box_step ?hg (N := 3) ?hd (cs := #[.slice none 0 0, .slice none 0 0, .slice none 0 0]) (t := 26) ?hr ?_; (case hd => rfl); (case hg => rfl); (case hr => go_simp; try rfl)
    intro gb368 hg w11 hbox hb
    have n0_ := K_ (Kd.R_below HO364.out hb)
    have n1_ := K_ (Kd.R_below HO367.out hb)
    have n2_ := K_ (blk_below BK360.out hb)
    have n3_ := K_ (blk_below BK361.out hb)
    have n4_ := K_ (below_step HB.out hb)
    have n5_ := K_ (hbox)
    have n6_ := K_ ((by rw [hg]; exact (below_size HB.out) : w.heap.size ≤ gb368))
    have n7_ := K_ ((by rw [hg]; exact (below_size HB.out) : w.heap.size ≤ gb368))
    have n8_ := K_ ((by rw [hg]; exact Nat.ne_of_lt (blk_lt BK360.out) : gb360 ≠ gb368))
    have n9_ := K_ ((by rw [hg]; exact Nat.ne_of_gt (blk_lt BK360.out) : gb368 ≠ gb360))
    have n10_ := K_ ((by rw [hg]; exact Nat.ne_of_lt (blk_lt BK361.out) : gb361 ≠ gb368))
    have n11_ := K_ ((by rw [hg]; exact Nat.ne_of_gt (blk_lt BK361.out) : gb368 ≠ gb361))
    clear HO364
    clear HO367
    clear BK360
    clear BK361
    clear HB
    have HO364 := n0_
    have HO367 := n1_
    have BK360 := n2_
    have BK361 := n3_
    have HB := n4_
    have BK368 := n5_
    have GW368 := n6_
    have GE368 := n7_
    have NB360_368 := n8_
    have NB368_360 := n9_
    have NB361_368 := n10_
    have NB368_361 := n11_
    clear n0_ n1_ n2_ n3_ n4_ n5_ n6_ n7_ n8_ n9_ n10_ n11_
    clear hb hbox hg
    refine hK.out _ _ ⟨(blk_cell BK360.out 0).trans rfl, (blk_cell BK360.out 1).trans rfl, (blk_cell BK360.out 2).trans rfl⟩ (fun hHeld => ?_)
    clear hK K
    refine norm_ (a' := ?_) ?_ ?_
    rotate_left
    ·show Act.put _ (some 3) _ = _
     simp only [P_, i64_w, i32_w]
     rfl
    exact norm_ (by simp only [putAll, P_]) (hCont (.slice Ao10 y362.length co10, .slice Ao9 y365.length co9, gb368) _ ⟨hHeld, (by exact Kd.R_mono HO364.out (fun _ hk => hk.2)), HO367.out, BK360.out, BK361.out, BK368.out, GW368.out, GE368.out, NB360_368.out, NB368_360.out, NB361_368.out, NB368_361.out, HB.out⟩)
   ·skip
    refine box_step ?hg (N := 3) ?hd (cs := #[.slice none 0 0, .slice none 0 0, .slice none 0 0]) (t := 26) ?hr ?_; (case hd => rfl); (case hg => rfl); (case hr => go_simp; try rfl)
    intro gb368 hg w8 hbox hb
    have n0_ := K_ (Kd.R_below HO364.out hb)
    have n1_ := K_ (blk_below BK360.out hb)
    have n2_ := K_ (blk_below BK361.out hb)
    have n3_ := K_ (below_step HB.out hb)
    have n4_ := K_ (hbox)
    have n5_ := K_ ((by rw [hg]; exact (below_size HB.out) : w.heap.size ≤ gb368))
    have n6_ := K_ ((by rw [hg]; exact (below_size HB.out) : w.heap.size ≤ gb368))
    have n7_ := K_ ((by rw [hg]; exact Nat.ne_of_lt (blk_lt BK360.out) : gb360 ≠ gb368))
    have n8_ := K_ ((by rw [hg]; exact Nat.ne_of_gt (blk_lt BK360.out) : gb368 ≠ gb360))
    have n9_ := K_ ((by rw [hg]; exact Nat.ne_of_lt (blk_lt BK361.out) : gb361 ≠ gb368))
    have n10_ := K_ ((by rw [hg]; exact Nat.ne_of_gt (blk_lt BK361.out) : gb368 ≠ gb361))
    clear HO364
    clear BK360
    clear BK361
    clear HB
    have HO364 := n0_
    have BK360 := n1_
    have BK361 := n2_
    have HB := n3_
    have BK368 := n4_
    have GW368 := n5_
    have GE368 := n6_
    have NB360_368 := n7_
    have NB368_360 := n8_
    have NB361_368 := n9_
    have NB368_361 := n10_
    clear n0_ n1_ n2_ n3_ n4_ n5_ n6_ n7_ n8_ n9_ n10_
    clear hb hbox hg
    refine hK.out _ _ ⟨(blk_cell BK360.out 0).trans rfl, (blk_cell BK360.out 1).trans rfl, (blk_cell BK360.out 2).trans rfl⟩ (fun hHeld => ?_)
    clear hK K
    refine norm_ (a' := ?_) ?_ ?_
    rotate_left
    ·show Act.put _ (some 3) _ = _
     simp only [P_, i64_w, i32_w]
     rfl
    refine one_ (i := 5) (N := some 11) (M_ 9 191) rfl rfl (one_of HT_.out (by kernel_rfl)) (by decide) (fun K hK => ?_)
    refine Kd.R_append_rows_step (Kd.int .i64) (w0 := w) w.heap.size (by rfl) (.const (.slice none 0 0)) (.tmp 10) 23 3 (.int .i64 0) 8 rfl Try.underlying23 info3 rfl (by decide) (by omega) (.slice none 0 0) ([] : List Int) l0_2 _ _ _ (fun k_ => some k_ ≠ (v363 : Value).ownBlock) (fun _ => False) rfl rfl ?aO ?aR (fun _ _ h => h) (fun _ h => h.elim) ?aF ?aB ?aS ?aL ?_
    (case aR => exact (Kd.C_below HR0_2.out HB.out))
    (case aB => exact HB.out)
    (case aF => exact (fun k_ hk => Kd.fresh' (Kd.R_lt HO364.out) k_ hk))
    (case aO => exact ((Kd.R_nil _ _ _ _ (fun k_ => some k_ ≠ (v363 : Value).ownBlock))))
    (case aS => exact (below_size HB.out))
    (case aL => have := LMc3.out; omega)
    intro v366 w9 ho hb hg hat
    rw [← Ny365.out] at ho
    have n0_ := K_ (blk_grown BK360.out hg (by simp [Value.ownBlock]))
    have n1_ := K_ (blk_grown BK361.out hg (by simp [Value.ownBlock]))
    have n2_ := K_ (Kd.R_after (Kd.R_apart_nil HO364.out) hg hat)
    have n3_ := K_ (blk_grown BK368.out hg (by simp [Value.ownBlock]))
    have n4_ := K_ (hb)
    have n5_ := K_ (ho)
    clear BK360
    clear BK361
    clear HO364
    clear BK368
    clear HB
    have BK360 := n0_
    have BK361 := n1_
    have HO364 := n2_
    have BK368 := n3_
    have HB := n4_
    have HO367 := n5_
    clear n0_ n1_ n2_ n3_ n4_ n5_
    clear ho hb hg hat
    obtain ⟨Ao10, co10, eo10⟩ := Kd.R_slice HO367.out
    (first | subst eo10 | (injection eo10 with f1_ f2_ f3_; have f4_ := f1_.symm; have f5_ := f3_.symm; clear f1_ f2_ f3_; subst f4_; subst f5_))
    obtain ⟨Ao11, co11, eo11⟩ := Kd.R_slice HO364.out
    (first | subst eo11 | (injection eo11 with f1_ f2_ f3_; have f4_ := f1_.symm; have f5_ := f3_.symm; clear f1_ f2_ f3_; subst f4_; subst f5_))
    refine hK.out _ _ ⟨(blk_cell BK360.out 0).trans rfl, (blk_cell BK360.out 1).trans rfl, (blk_cell BK360.out 2).trans rfl⟩ (fun hHeld => ?_)
    clear hK K
    refine norm_ (a' := ?_) ?_ ?_
    rotate_left
    ·show Act.put _ (some 11) _ = _
     simp only [P_, i64_w, i32_w]
     rfl
    refine pure_ (i := 6) (N := some 12) (v := ?_) (a' := ?_) (M_ 9 255) rfl rfl (any_of HT_.out (by kernel_rfl)) (fun _ _ _ h => h) (Or.inl ⟨by rfl, ?_⟩) ?_ ?_
    rotate_left
    ·intro w'
     go_simp
     with_reducible rfl
    rotate_left
    ·simp only [P_, i64_w, i32_w]
     rfl
    exact norm_ (by simp only [putAll, P_]) (hCont (.slice Ao11 y362.length co11, .slice Ao10 y365.length co10, gb368) _ ⟨hHeld, (by exact Kd.R_mono HO364.out (fun _ hk => hk.2)), HO367.out, BK360.out, BK361.out, BK368.out, GW368.out, GE368.out, NB360_368.out, NB368_360.out, NB361_368.out, NB368_361.out, HB.out⟩)
  ·skip
   refine box_step ?hg (N := 3) ?hd (cs := #[.slice none 0 0, .slice none 0 0, .slice none 0 0]) (t := 26) ?hr ?_; (case hd => rfl); (case hg => rfl); (case hr => go_simp; try rfl)
   intro gb368 hg w7 hbox hb
   have n0_ := K_ (blk_below BK360.out hb)
   have n1_ := K_ (blk_below BK361.out hb)
   have n2_ := K_ (below_step HB.out hb)
   have n3_ := K_ (hbox)
   have n4_ := K_ ((by rw [hg]; exact (below_size HB.out) : w.heap.size ≤ gb368))
   have n5_ := K_ ((by rw [hg]; exact (below_size HB.out) : w.heap.size ≤ gb368))
   have n6_ := K_ ((by rw [hg]; exact Nat.ne_of_lt (blk_lt BK360.out) : gb360 ≠ gb368))
   have n7_ := K_ ((by rw [hg]; exact Nat.ne_of_gt (blk_lt BK360.out) : gb368 ≠ gb360))
   have n8_ := K_ ((by rw [hg]; exact Nat.ne_of_lt (blk_lt BK361.out) : gb361 ≠ gb368))
   have n9_ := K_ ((by rw [hg]; exact Nat.ne_of_gt (blk_lt BK361.out) : gb368 ≠ gb361))
   clear BK360
   clear BK361
   clear HB
   have BK360 := n0_
   have BK361 := n1_
   have HB := n2_
   have BK368 := n3_
   have GW368 := n4_
   have GE368 := n5_
   have NB360_368 := n6_
   have NB368_360 := n7_
   have NB361_368 := n8_
   have NB368_361 := n9_
   clear n0_ n1_ n2_ n3_ n4_ n5_ n6_ n7_ n8_ n9_
   clear hb hbox hg
   refine hK.out _ _ ⟨(blk_cell BK360.out 0).trans rfl, (blk_cell BK360.out 1).trans rfl, (blk_cell BK360.out 2).trans rfl⟩ (fun hHeld => ?_)
   clear hK K
   refine norm_ (a' := ?_) ?_ ?_
   rotate_left
   ·show Act.put _ (some 3) _ = _
    simp only [P_, i64_w, i32_w]
    rfl
   refine one_ (i := 2) (N := some 8) (M_ 9 159) rfl rfl (one_of HT_.out (by kernel_rfl)) (by decide) (fun K hK => ?_)
   refine Kd.R_append_rows_step (Kd.int .i64) (w0 := w) w.heap.size (by rfl) (.const (.slice none 0 0)) (.tmp 7) 23 3 (.int .i64 0) 8 rfl Try.underlying23 info3 rfl (by decide) (by omega) (.slice none 0 0) ([] : List Int) l0_0 _ _ _ (fun _ => True) (fun _ => False) rfl rfl ?aO ?aR (fun _ _ h => h) (fun _ h => h.elim) ?aF ?aB ?aS ?aL ?_
   (case aR => exact (Kd.C_below HR0_0.out HB.out))
   (case aB => exact HB.out)
   (case aF => exact (fun _ _ => trivial))
   (case aO => exact ((Kd.R_nil _ _ _ _ (fun _ => True))))
   (case aS => exact (below_size HB.out))
   (case aL => have := LMc2.out; omega)
   intro v363 w8 ho hb hg hat
   rw [← Ny362.out] at ho
   have n0_ := K_ (blk_grown BK360.out hg (by simp [Value.ownBlock]))
   have n1_ := K_ (blk_grown BK361.out hg (by simp [Value.ownBlock]))
   have n2_ := K_ (blk_grown BK368.out hg (by simp [Value.ownBlock]))
   have n3_ := K_ (hb)
   have n4_ := K_ (ho)
   clear BK360
   clear BK361
   clear BK368
   clear HB
   have BK360 := n0_
   have BK361 := n1_
   have BK368 := n2_
   have HB := n3_
   have HO364 := n4_
   clear n0_ n1_ n2_ n3_ n4_
   clear ho hb hg hat
   refine hK.out _ _ ⟨(blk_cell BK360.out 0).trans rfl, (blk_cell BK360.out 1).trans rfl, (blk_cell BK360.out 2).trans rfl⟩ (fun hHeld => ?_)
   clear hK K
   refine norm_ (a' := ?_) ?_ ?_
   rotate_left
   ·show Act.put _ (some 8) _ = _
    simp only [P_, i64_w, i32_w]
    rfl
   refine one_ (i := 5) (N := some 11) (M_ 9 191) rfl rfl (one_of HT_.out (by kernel_rfl)) (by decide) (fun K hK => ?_)
   refine Kd.R_append_rows_step (Kd.int .i64) (w0 := w) w.heap.size (by rfl) (.const (.slice none 0 0)) (.tmp 10) 23 3 (.int .i64 0) 8 rfl Try.underlying23 info3 rfl (by decide) (by omega) (.slice none 0 0) ([] : List Int) l0_2 _ _ _ (fun k_ => some k_ ≠ (v363 : Value).ownBlock) (fun _ => False) rfl rfl ?aO ?aR (fun _ _ h => h) (fun _ h => h.elim) ?aF ?aB ?aS ?aL ?_
   (case aR => exact (Kd.C_below HR0_2.out HB.out))
   (case aB => exact HB.out)
   (case aF => exact (fun k_ hk => Kd.fresh' (Kd.R_lt HO364.out) k_ hk))
   (case aO => exact ((Kd.R_nil _ _ _ _ (fun k_ => some k_ ≠ (v363 : Value).ownBlock))))
   (case aS => exact (below_size HB.out))
   (case aL => have := LMc3.out; omega)
   intro v366 w9 ho hb hg hat
   rw [← Ny365.out] at ho
   have n0_ := K_ (blk_grown BK360.out hg (by simp [Value.ownBlock]))
   have n1_ := K_ (blk_grown BK361.out hg (by simp [Value.ownBlock]))
   have n2_ := K_ (blk_grown BK368.out hg (by simp [Value.ownBlock]))
   have n3_ := K_ (Kd.R_after (Kd.R_apart_nil HO364.out) hg hat)
   have n4_ := K_ (hb)
   have n5_ := K_ (ho)
   clear BK360
   clear BK361
   clear BK368
   clear HO364
   clear HB
   have BK360 := n0_
   have BK361 := n1_
   have BK368 := n2_
   have HO364 := n3_
   have HB := n4_
   have HO367 := n5_
   clear n0_ n1_ n2_ n3_ n4_ n5_
   clear ho hb hg hat
   obtain ⟨Ao10, co10, eo10⟩ := Kd.R_slice HO367.out
   (first | subst eo10 | (injection eo10 with f1_ f2_ f3_; have f4_ := f1_.symm; have f5_ := f3_.symm; clear f1_ f2_ f3_; subst f4_; subst f5_))
   obtain ⟨Ao11, co11, eo11⟩ := Kd.R_slice HO364.out
   (first | subst eo11 | (injection eo11 with f1_ f2_ f3_; have f4_ := f1_.symm; have f5_ := f3_.symm; clear f1_ f2_ f3_; subst f4_; subst f5_))
   refine hK.out _ _ ⟨(blk_cell BK360.out 0).trans rfl, (blk_cell BK360.out 1).trans rfl, (blk_cell BK360.out 2).trans rfl⟩ (fun hHeld => ?_)
   clear hK K
   refine norm_ (a' := ?_) ?_ ?_
   rotate_left
   ·show Act.put _ (some 11) _ = _
    simp only [P_, i64_w, i32_w]
    rfl
   refine pure_ (i := 6) (N := some 12) (v := ?_) (a' := ?_) (M_ 9 255) rfl rfl (any_of HT_.out (by kernel_rfl)) (fun _ _ _ h => h) (Or.inl ⟨by rfl, ?_⟩) ?_ ?_
   rotate_left
   ·intro w'
    go_simp
    with_reducible rfl
   rotate_left
   ·simp only [P_, i64_w, i32_w]
    rfl
   exact norm_ (by simp only [putAll, P_]) (hCont (.slice Ao11 y362.length co11, .slice Ao10 y365.length co10, gb368) _ ⟨hHeld, (by exact Kd.R_mono HO364.out (fun _ hk => hk.2)), HO367.out, BK360.out, BK361.out, BK368.out, GW368.out, GE368.out, NB360_368.out, NB368_360.out, NB361_368.out, NB368_361.out, HB.out⟩)
 rintro ⟨v363, v366, gb368⟩ w12 ⟨hS_, h0_, h1_, h2_, h3_, h4_, h5_, h6_, h7_, h8_, h9_, h10_, h11_⟩
 have n0_ : Aside0 (Kd.R (Kd.int .i64) 3 w12 w.heap.size (fun k_ => some k_ ≠ (v366 : Value).ownBlock) v363 y362) := ⟨h0_⟩
 have n1_ : Aside0 (Kd.R (Kd.int .i64) 3 w12 w.heap.size (fun k_ => some k_ ≠ (v363 : Value).ownBlock) v366 y365) := ⟨h1_⟩
 have n2_ : Aside0 (w12.heap[gb360]? = some (.cells #[.slice A0_0 l0_0.length c0_0, .slice A0_1 l0_1.length c0_1, .slice A0_2 l0_2.length c0_2] 26 (0, 0))) := ⟨h2_⟩
 have n3_ : Aside0 (w12.heap[gb361]? = some (.cells #[.slice none 0 0, .slice none 0 0, .slice none 0 0] 26 (0, 0))) := ⟨h3_⟩
 have n4_ : Aside0 (w12.heap[gb368]? = some (.cells #[.slice none 0 0, .slice none 0 0, .slice none 0 0] 26 (0, 0))) := ⟨h4_⟩
 have n5_ : Aside0 (w.heap.size ≤ gb368) := ⟨h5_⟩
 have n6_ : Aside0 (w.heap.size ≤ gb368) := ⟨h6_⟩
 have n7_ : Aside0 (gb360 ≠ gb368) := ⟨h7_⟩
 have n8_ : Aside0 (gb368 ≠ gb360) := ⟨h8_⟩
 have n9_ : Aside0 (gb361 ≠ gb368) := ⟨h9_⟩
 have n10_ : Aside0 (gb368 ≠ gb361) := ⟨h10_⟩
 have n11_ : Aside0 (Below w.heap.size w w12) := ⟨h11_⟩
 clear BK360
 clear BK361
 clear HB
 clear h0_ h1_ h2_ h3_ h4_ h5_ h6_ h7_ h8_ h9_ h10_ h11_
 have HO364 := n0_
 have HO367 := n1_
 have BK360 := n2_
 have BK361 := n3_
 have BK368 := n4_
 have GW368 := n5_
 have GE368 := n6_
 have NB360_368 := n7_
 have NB368_360 := n8_
 have NB361_368 := n9_
 have NB368_361 := n10_
 have HB := n11_
 clear n0_ n1_ n2_ n3_ n4_ n5_ n6_ n7_ n8_ n9_ n10_ n11_
 have hHeld : w12.cell? ⟨gb360, 0, none⟩ = some (.slice A0_0 l0_0.length c0_0) ∧ w12.cell? ⟨gb360, 1, none⟩ = some (.slice A0_1 l0_1.length c0_1) ∧ w12.cell? ⟨gb360, 2, none⟩ = some (.slice A0_2 l0_2.length c0_2) := hS_
 obtain ⟨Ao13, co13, eo13⟩ := Kd.R_slice HO367.out
 (first | subst eo13 | (injection eo13 with f1_ f2_ f3_; have f4_ := f1_.symm; have f5_ := f3_.symm; clear f1_ f2_ f3_; subst f4_; subst f5_))
 obtain ⟨Ao14, co14, eo14⟩ := Kd.R_slice HO364.out
 (first | subst eo14 | (injection eo14 with f1_ f2_ f3_; have f4_ := f1_.symm; have f5_ := f3_.symm; clear f1_ f2_ f3_; subst f4_; subst f5_))
 refine norm_ (a' := ?_) ?_ ?_
 rotate_left
 ·simp only [putAll, P_]
  rfl
 refine one_ (i := 8) (N := none) (M_ 9 511) rfl rfl (one_of HT_.out (by kernel_rfl)) (by decide) (fun K hK => ?_)
 have hs15 : w12.cell? ⟨gb368, 0, none⟩ = some (.slice none 0 0) := (blk_cell BK368.out 0).trans rfl
 have hfs15 := blk_frozen BK368.out 0
 have hns15_0 := NB360_368.out
 have hns15_1 := NB361_368.out
 have hms15_0 := NB368_360.out
 have hms15_1 := NB368_361.out
 have hs16 : w12.cell? ⟨gb368, 1, none⟩ = some (.slice none 0 0) := (blk_cell BK368.out 1).trans rfl
 have hfs16 := blk_frozen BK368.out 1
 have hns16_0 := NB360_368.out
 have hns16_1 := NB361_368.out
 have hms16_0 := NB368_360.out
 have hms16_1 := NB368_361.out
 have hs17 : w12.cell? ⟨gb368, 2, none⟩ = some (.slice none 0 0) := (blk_cell BK368.out 2).trans rfl
 have hfs17 := blk_frozen BK368.out 2
 have hns17_0 := NB360_368.out
 have hns17_1 := NB361_368.out
 have hms17_0 := NB368_360.out
 have hms17_1 := NB368_361.out
 refine skip_ (w1 := ?_) (by rfl) rfl ?_ ?_
 rotate_left
 ·go_simp
  rfl
 refine hK.out _ _ ⟨((cell_far (p := ⟨gb368, _, none⟩) NB360_368.out _).trans (((cell_far (p := ⟨gb368, _, none⟩) NB360_368.out _).trans (((cell_far (p := ⟨gb368, _, none⟩) NB360_368.out _).trans (hHeld.1)))))), ((cell_far (p := ⟨gb368, _, none⟩) NB360_368.out _).trans (((cell_far (p := ⟨gb368, _, none⟩) NB360_368.out _).trans (((cell_far (p := ⟨gb368, _, none⟩) NB360_368.out _).trans (hHeld.2.1)))))), ((cell_far (p := ⟨gb368, _, none⟩) NB360_368.out _).trans (((cell_far (p := ⟨gb368, _, none⟩) NB360_368.out _).trans (((cell_far (p := ⟨gb368, _, none⟩) NB360_368.out _).trans (hHeld.2.2))))))⟩ (fun hHeld => ?_)
 clear hK K
 refine done_ (done_of HT_.out (by kernel_rfl)) ?_
 have hnb18 := NB360_361.out
 have hnc18 := NB361_360.out
 have hnb19 := NB360_368.out
 have hnc19 := NB368_360.out
 obtain ⟨hcz20_0, hcz20_1, hcz20_2, hfz20_0, hfz20_1, hfz20_2⟩ := blkf3_ BK360.out
 try go_wp2
 go_loopg [16] k (fun kq v16 w' => ∃ (x16_1 : Int) (x369001_1 : List (S35)) (u369001 : Value), v16 = .int .i64 x16_1 ∧ Aside0 (impl_copyState.l0 kq l0_1 (l0_1.length : Int) x16_1 y362 x369001_1 y365 = some (r1, r2, r3)) ∧ Aside0 (kq ≤ k) ∧ Aside0 (Kd.R (Kd.int .i64) 3 w' w.heap.size (fun k_ => some k_ ≠ ((.slice Ao13 y365.length co13) : Value).ownBlock) (.slice Ao14 y362.length co14) y362) ∧ Aside0 (Kd.S k35 35 w' w.heap.size (fun k_ => some k_ ≠ ((.slice Ao14 y362.length co14) : Value).ownBlock ∧ some k_ ≠ ((.slice Ao13 y365.length co13) : Value).ownBlock) u369001 x369001_1) ∧ Aside0 (Kd.R (Kd.int .i64) 3 w' w.heap.size (fun k_ => some k_ ≠ ((.slice Ao14 y362.length co14) : Value).ownBlock) (.slice Ao13 y365.length co13) y365) ∧ Aside0 (w'.heap[gb360]? = some (.cells #[(.slice A0_0 l0_0.length c0_0), (.slice A0_1 l0_1.length c0_1), (.slice A0_2 l0_2.length c0_2)] 26 (0, 0))) ∧ Aside0 (w'.heap[gb361]? = some (.cells #[(.slice none 0 0), (.slice none 0 0), (.slice none 0 0)] 26 (0, 0))) ∧ Aside0 (w'.heap[gb368]? = some (.cells #[(.slice Ao14 y362.length co14), u369001, (.slice Ao13 y365.length co13)] 26 (0, 0))) ∧ Aside0 (Below w.heap.size w w'))
 case atStart => exact ⟨(0), (([] : List (S35))), (.slice none 0 0), rfl, H', ⟨Nat.le_refl _⟩, ⟨by exact Kd.R_mono (Kd.R_far (p := ⟨gb368, 2, none⟩) (Kd.R_far (p := ⟨gb368, 1, none⟩) (Kd.R_far (p := ⟨gb368, 0, none⟩) (Kd.R_types HO364.out BK368.out (by decide)) (fun _ hk => hk.2) (.slice Ao14 y362.length co14)) (fun _ hk => hk.2) (.slice none 0 0)) (fun _ hk => hk.2) (.slice Ao13 y365.length co13)) (fun _ hk => hk.1)⟩, ⟨Kd.S_nil _ _ _ _ _⟩, ⟨by exact Kd.R_mono (Kd.R_far (p := ⟨gb368, 2, none⟩) (Kd.R_far (p := ⟨gb368, 1, none⟩) (Kd.R_far (p := ⟨gb368, 0, none⟩) (Kd.R_types HO367.out BK368.out (by decide)) (fun _ hk => hk.2) (.slice Ao14 y362.length co14)) (fun _ hk => hk.2) (.slice none 0 0)) (fun _ hk => hk.2) (.slice Ao13 y365.length co13)) (fun _ hk => hk.1)⟩, ⟨by refine blk_far ?_ NB360_368.out _; refine blk_far ?_ NB360_368.out _; refine blk_far ?_ NB360_368.out _; exact BK360.out⟩, ⟨by refine blk_far ?_ NB361_368.out _; refine blk_far ?_ NB361_368.out _; refine blk_far ?_ NB361_368.out _; exact BK361.out⟩, ⟨by refine blk_put (cs := #[.slice Ao14 y362.length co14, .slice none 0 0, .slice none 0 0]) ?_ 2 _ rfl; refine blk_put (cs := #[.slice Ao14 y362.length co14, .slice none 0 0, .slice none 0 0]) ?_ 1 _ rfl; refine blk_put (cs := #[.slice none 0 0, .slice none 0 0, .slice none 0 0]) ?_ 0 _ rfl; exact BK368.out⟩, ⟨by repeat (first | exact HB.out | refine below_set ?_ GE360.out | refine below_set ?_ GE361.out | refine below_set ?_ GE368.out)⟩⟩
 case round =>
  clear H'
  clear hcz20_0 hcz20_1 hcz20_2 hfz20_0 hfz20_1 hfz20_2
  obtain ⟨x16_1, x369001_1, u369001, rfl, HA, HK1, HO_369000, HO_369001, HO_369002, BK360, BK361, BK368, HB⟩ := hrel
  cases gk with
  | zero => exact absurd HA.out (by simp [impl_copyState.l0])
  | succ k1 =>
   have H := HA.out
   clear HA
   simp only [impl_copyState.l0] at H
   replace H := ds_ H
   rcases H with ⟨c21b0, H⟩ | ⟨c21b0, H⟩
   case inr =>
    simp only [Option.some.injEq, Prod.mk.injEq] at H
    obtain ⟨rfl, rfl, rfl⟩ := H
    have hnb42 := NB368_360.out
    have hnc42 := NB360_368.out
    have hnb43 := NB368_361.out
    have hnc43 := NB361_368.out
    obtain ⟨hcz44_0, hcz44_1, hcz44_2, hfz44_0, hfz44_1, hfz44_2⟩ := blkf3_ BK368.out
    have hnb45 := NB361_360.out
    have hnc45 := NB360_361.out
    obtain ⟨hcz46_0, hcz46_1, hcz46_2, hfz46_0, hfz46_1, hfz46_2⟩ := blkf3_ BK361.out
    obtain ⟨Ao47, co47, eo47⟩ := Kd.S_slice HO_369001.out
    subst eo47
    go_wp2
    refine bodyPost_ret (results_cell_row rfl _ _ gb361 26 #[.slice Ao14 y362.length co14, .slice Ao47 x369001_1.length co47, .slice Ao13 y365.length co13] (0, 0) _ rfl (by refine blk_put (cs := #[.slice Ao14 y362.length co14, .slice Ao47 x369001_1.length co47, .slice none 0 0]) ?_ 2 _ rfl; refine blk_put (cs := #[.slice Ao14 y362.length co14, .slice none 0 0, .slice none 0 0]) ?_ 1 _ rfl; refine blk_put (cs := #[.slice none 0 0, .slice none 0 0, .slice none 0 0]) ?_ 0 _ rfl; exact BK361.out) Try.underlying26 rfl (by kernel_rfl)) rfl ?_
    exact ⟨_, _, _, rfl, by exact Kd.R_mono (Kd.R_far (p := ⟨gb361, 2, none⟩) (Kd.R_far (p := ⟨gb361, 1, none⟩) (Kd.R_far (p := ⟨gb361, 0, none⟩) (Kd.R_types HO_369000.out BK361.out (by decide)) (fun _ hk => hk.2) (.slice Ao14 y362.length co14)) (fun _ hk => hk.2) (.slice Ao47 x369001_1.length co47)) (fun _ hk => hk.2) (.slice Ao13 y365.length co13)) (fun _ hk => hk.1), by exact Kd.S_mono (Kd.S_far (p := ⟨gb361, 2, none⟩) (Kd.S_far (p := ⟨gb361, 1, none⟩) (Kd.S_far (p := ⟨gb361, 0, none⟩) (Kd.S_types HO_369001.out BK361.out (by decide)) (fun _ hk => hk.2) (.slice Ao14 y362.length co14)) (fun _ hk => hk.2) (.slice Ao47 x369001_1.length co47)) (fun _ hk => hk.2) (.slice Ao13 y365.length co13)) (fun _ hk => ⟨hk.1.1, hk.1.2⟩), by exact Kd.R_mono (Kd.R_far (p := ⟨gb361, 2, none⟩) (Kd.R_far (p := ⟨gb361, 1, none⟩) (Kd.R_far (p := ⟨gb361, 0, none⟩) (Kd.R_types HO_369002.out BK361.out (by decide)) (fun _ hk => hk.2) (.slice Ao14 y362.length co14)) (fun _ hk => hk.2) (.slice Ao47 x369001_1.length co47)) (fun _ hk => hk.2) (.slice Ao13 y365.length co13)) (fun _ hk => hk.1), by repeat (first | exact HB.out | refine below_set ?_ GE360.out | refine below_set ?_ GE361.out | refine below_set ?_ GE368.out)⟩
   replace H := dn_ H
   obtain ⟨c22b0, H⟩ := H
   replace H := dn_ H
   obtain ⟨c23b0, H⟩ := H
   replace H := pn_ H
   obtain ⟨c24, H⟩ := H
   have LMc24 := K_ c24
   clear c24
   obtain ⟨y371, hy371⟩ : ∃ y_ : List Int, y_ = (([] : List Int) ++ ((rd_T35 l0_1 x16_1).f1)) := ⟨_, rfl⟩
   rw [← hy371] at H
   have Ny371 := K_ hy371
   clear hy371
   replace H := pn_ H
   obtain ⟨c25, H⟩ := H
   have LMc25 := K_ c25
   clear c25
   obtain ⟨y374, hy374⟩ : ∃ y_ : List (S35), y_ = (x369001_1 ++ [(⟨(rd_T35 l0_1 x16_1).f0, y371, (rd_T35 l0_1 x16_1).f2⟩ : S35)]) := ⟨_, rfl⟩
   rw [← hy374] at H
   have Ny374 := K_ hy374
   clear hy374
   have H' := K_ H
   clear H
   have p369 : 0 ≤ (x16_1 : Int) := of_decide_eq_true (by assumption)
   have q369 : x16_1 < (l0_1.length : Int) := of_decide_eq_true (by assumption)
   obtain ⟨ad369, A369_1, c369_1, e369, hx369_0, hx369_1, hx369_2, hl369_1, hi369_1⟩ := at_T35 HR0_1.out x16_1 p369 q369
   cases e369
   replace hx369_0 := (HB.out.cell (World.block_lt_of_cell? w _ hx369_0)).trans hx369_0
   replace hx369_1 := (HB.out.cell (World.block_lt_of_cell? w _ hx369_1)).trans hx369_1
   replace hx369_2 := (HB.out.cell (World.block_lt_of_cell? w _ hx369_2)).trans hx369_2
   have HR369_1 := K_ hi369_1
   have HC369_1 := K_ hl369_1
   clear hi369_1 hl369_1
   replace p369 := eq_true p369
   replace q369 := eq_true q369
   go_wp2_with (first | ((with_reducible refine gate_dst (N := 5) rfl ?_); refine box_event ?hg (N := 5) ?hd (cs := #[.int .i64 0, .slice none 0 0, .int .i64 0]) (t := 35) ?hr ?_; (case hd => rfl); (case hg => rfl); (case hr => go_simp; try rfl); intro gb370 hg w26 hbox hb; have BK370 := K_ (hbox); have GW370 := ge_ hg HB.out; have GE370 := ge_ hg HB.out; have NB360_370 := nl_ hg BK360.out; have NB370_360 := ng_ hg BK360.out; have NB361_370 := nl_ hg BK361.out; have NB370_361 := ng_ hg BK361.out; have NB368_370 := nl_ hg BK368.out; have NB370_368 := ng_ hg BK368.out; replace HO_369000 := K_ (Kd.R_below HO_369000.out hb); replace HO_369001 := K_ (Kd.S_below (Kd.S_elderB HO_369001.out gb370 (Nat.le_of_eq hg.symm)) hb); replace HO_369002 := K_ (Kd.R_below HO_369002.out hb); replace BK360 := K_ (blk_below BK360.out hb); replace BK361 := K_ (blk_below BK361.out hb); replace BK368 := K_ (blk_below BK368.out hb); replace HB := K_ (below_step HB.out hb); clear hb hbox hg; have hnb27 := NB370_360.out; have hnc27 := NB360_370.out; have hnb28 := NB370_361.out; have hnc28 := NB361_370.out; have hnb29 := NB370_368.out; have hnc29 := NB368_370.out; obtain ⟨hcz30_0, hcz30_1, hcz30_2, hfz30_0, hfz30_1, hfz30_2⟩ := blkf3_ BK370.out) | ((with_reducible refine gate_builtin (b := .append) (xs := #[.const (.slice none 0 0), .tmp 21]) rfl ?_); at_builtin; refine Kd.R_append_rows (Kd.int .i64) (w0 := w) w.heap.size rfl (.const (.slice none 0 0)) (.tmp 21) 23 3 (.int .i64 0) 8 rfl Try.underlying23 info3 rfl (by decide) (by omega) (.slice none 0 0) ([] : List Int) ((rd_T35 l0_1 x16_1).f1) _ _ _ (fun k_ => some k_ ≠ (.slice Ao14 y362.length co14 : Value).ownBlock ∧ some k_ ≠ (.slice Ao13 y365.length co13 : Value).ownBlock) (fun _ => False) rfl rfl ?aO ?aR (fun _ _ h => h) (fun _ h => h.elim) ?aF ?aB ?aS ?aL ?_; (case aR => exact Kd.C_below HR369_1.out (by repeat (first | exact HB.out | refine below_set ?_ GE360.out | refine below_set ?_ GE361.out | refine below_set ?_ GE368.out | refine below_set ?_ GE370.out))); (case aB => exact (by repeat (first | exact HB.out | refine below_set ?_ GE360.out | refine below_set ?_ GE361.out | refine below_set ?_ GE368.out | refine below_set ?_ GE370.out))); (case aF => exact (fun k_ hk => ⟨Kd.fresh' (Kd.R_lt (by exact (Kd.R_mono (Kd.R_far (p := ⟨gb370, 2, none⟩) (Kd.R_far (p := ⟨gb370, 1, none⟩) (Kd.R_far (p := ⟨gb370, 0, none⟩) (Kd.R_types HO_369000.out BK370.out (by decide)) (fun _ hk => hk.2) (.int .i64 ((rd_T35 l0_1 x16_1).f0))) (fun _ hk => hk.2) (.slice A369_1 ((rd_T35 l0_1 x16_1).f1).length c369_1)) (fun _ hk => hk.2) (.int .i64 ((rd_T35 l0_1 x16_1).f2))) (fun _ h_ => h_.1)))) k_ hk, Kd.fresh' (Kd.R_lt (by exact (Kd.R_mono (Kd.R_far (p := ⟨gb370, 2, none⟩) (Kd.R_far (p := ⟨gb370, 1, none⟩) (Kd.R_far (p := ⟨gb370, 0, none⟩) (Kd.R_types HO_369002.out BK370.out (by decide)) (fun _ hk => hk.2) (.int .i64 ((rd_T35 l0_1 x16_1).f0))) (fun _ hk => hk.2) (.slice A369_1 ((rd_T35 l0_1 x16_1).f1).length c369_1)) (fun _ hk => hk.2) (.int .i64 ((rd_T35 l0_1 x16_1).f2))) (fun _ h_ => h_.1)))) k_ hk⟩)); (case aO => exact ((Kd.R_nil _ _ _ _ (fun k_ => some k_ ≠ (.slice Ao14 y362.length co14 : Value).ownBlock ∧ some k_ ≠ (.slice Ao13 y365.length co13 : Value).ownBlock)))); (case aS => exact (below_size (by repeat (first | exact HB.out | refine below_set ?_ GE360.out | refine below_set ?_ GE361.out | refine below_set ?_ GE368.out | refine below_set ?_ GE370.out)))); (case aL => have := LMc24.out; omega); intro v372 w31 ho hb hg hat; rw [← Ny371.out] at ho; have HO373 := K_ (ho); replace HO_369000 := K_ (Kd.R_after (Kd.R_apart_nil (by exact (Kd.R_mono (Kd.R_far (p := ⟨gb370, 2, none⟩) (Kd.R_far (p := ⟨gb370, 1, none⟩) (Kd.R_far (p := ⟨gb370, 0, none⟩) (Kd.R_types HO_369000.out BK370.out (by decide)) (fun _ hk => hk.2) (.int .i64 ((rd_T35 l0_1 x16_1).f0))) (fun _ hk => hk.2) (.slice A369_1 ((rd_T35 l0_1 x16_1).f1).length c369_1)) (fun _ hk => hk.2) (.int .i64 ((rd_T35 l0_1 x16_1).f2))) (fun _ h_ => h_.1)))) hg hat); replace HO_369001 := K_ (Kd.S_after (Kd.S_apart_nil (by exact (Kd.S_mono (Kd.S_far (p := ⟨gb370, 2, none⟩) (Kd.S_far (p := ⟨gb370, 1, none⟩) (Kd.S_far (p := ⟨gb370, 0, none⟩) (Kd.S_mono HO_369001.out (fun k_ hk => (⟨hk, hk.2⟩ : _ ∧ k_ ≠ gb370))) (fun _ hk => hk.2) (.int .i64 ((rd_T35 l0_1 x16_1).f0))) (fun _ hk => hk.2) (.slice A369_1 ((rd_T35 l0_1 x16_1).f1).length c369_1)) (fun _ hk => hk.2) (.int .i64 ((rd_T35 l0_1 x16_1).f2))) (fun _ h_ => h_.1)))) hg hat); replace HO_369002 := K_ (Kd.R_after (Kd.R_apart_nil (by exact (Kd.R_mono (Kd.R_far (p := ⟨gb370, 2, none⟩) (Kd.R_far (p := ⟨gb370, 1, none⟩) (Kd.R_far (p := ⟨gb370, 0, none⟩) (Kd.R_types HO_369002.out BK370.out (by decide)) (fun _ hk => hk.2) (.int .i64 ((rd_T35 l0_1 x16_1).f0))) (fun _ hk => hk.2) (.slice A369_1 ((rd_T35 l0_1 x16_1).f1).length c369_1)) (fun _ hk => hk.2) (.int .i64 ((rd_T35 l0_1 x16_1).f2))) (fun _ h_ => h_.1)))) hg hat); replace BK360 := K_ (blk_grown (g := gb360) (o := .cells #[.slice A0_0 l0_0.length c0_0, .slice (some ad369) l0_1.length c0_1, .slice A0_2 l0_2.length c0_2] 26 (0, 0)) (by refine blk_far ?_ NB360_370.out _; refine blk_far ?_ NB360_370.out _; refine blk_far ?_ NB360_370.out _; exact BK360.out) hg (by simp [Value.ownBlock])); replace BK361 := K_ (blk_grown (g := gb361) (o := .cells #[.slice none 0 0, .slice none 0 0, .slice none 0 0] 26 (0, 0)) (by refine blk_far ?_ NB361_370.out _; refine blk_far ?_ NB361_370.out _; refine blk_far ?_ NB361_370.out _; exact BK361.out) hg (by simp [Value.ownBlock])); replace BK368 := K_ (blk_grown (g := gb368) (o := .cells #[.slice Ao14 y362.length co14, u369001, .slice Ao13 y365.length co13] 26 (0, 0)) (by refine blk_far ?_ NB368_370.out _; refine blk_far ?_ NB368_370.out _; refine blk_far ?_ NB368_370.out _; exact BK368.out) hg (by simp [Value.ownBlock])); replace BK370 := K_ (blk_grown (g := gb370) (o := .cells #[.int .i64 ((rd_T35 l0_1 x16_1).f0), .slice A369_1 ((rd_T35 l0_1 x16_1).f1).length c369_1, .int .i64 ((rd_T35 l0_1 x16_1).f2)] 35 (0, 0)) (by refine blk_put (cs := #[.int .i64 ((rd_T35 l0_1 x16_1).f0), .slice A369_1 ((rd_T35 l0_1 x16_1).f1).length c369_1, .int .i64 0]) ?_ 2 _ rfl; refine blk_put (cs := #[.int .i64 ((rd_T35 l0_1 x16_1).f0), .slice none 0 0, .int .i64 0]) ?_ 1 _ rfl; refine blk_put (cs := #[.int .i64 0, .slice none 0 0, .int .i64 0]) ?_ 0 _ rfl; exact BK370.out) hg (by simp [Value.ownBlock])); replace HB := K_ (hb); clear ho hb hg hat; obtain ⟨Ao32, co32, eo32⟩ := Kd.R_slice HO373.out; subst eo32; obtain ⟨hcz33_0, hcz33_1, hcz33_2, hfz33_0, hfz33_1, hfz33_2⟩ := blkf3_ BK370.out) | ((with_reducible refine gate_store (t := 23) (p := 23) rfl ?_); refine store_event (t := 23) (p := 23) (v := ?vo_w34) (w1 := (w31.setCell ⟨gb370, 1, none⟩ (.slice Ao32 y371.length co32))) ?hg ?ho ?hn ?hr ?_; (case ho => rfl); (case hg => rfl); (case hn => rfl); (case hr => go_simp; try rfl); intro w34 hw; have n0_ : Aside0 (Kd.R (Kd.int .i64) 3 w34 w.heap.size (fun k_ => some k_ ≠ (.slice Ao13 y365.length co13 : Value).ownBlock ∧ some k_ ≠ (.slice Ao32 y371.length co32 : Value).ownBlock) (.slice Ao14 y362.length co14) y362) := ⟨(by rw [hw]; exact (by exact Kd.R_mono (Kd.R_far (p := ⟨gb370, 1, none⟩) (Kd.R_types HO_369000.out BK370.out (by decide)) (fun _ hk => hk.2) (.slice Ao32 y371.length co32)) (fun _ hk => ⟨hk.1.1, hk.1.2⟩)))⟩; have n1_ : Aside0 (Kd.S k35 35 w34 w.heap.size (fun k_ => some k_ ≠ (.slice Ao14 y362.length co14 : Value).ownBlock ∧ some k_ ≠ (.slice Ao13 y365.length co13 : Value).ownBlock ∧ some k_ ≠ (.slice Ao32 y371.length co32 : Value).ownBlock ∧ k_ ≠ gb370) u369001 x369001_1) := ⟨(by rw [hw]; exact (by exact Kd.S_mono (Kd.S_far (p := ⟨gb370, 1, none⟩) (Kd.S_mono HO_369001.out (fun k_ hk => (⟨hk, hk.1.2⟩ : _ ∧ k_ ≠ gb370))) (fun _ hk => hk.2) (.slice Ao32 y371.length co32)) (fun _ hk => ⟨hk.1.1.1.1, ⟨hk.1.1.1.2, ⟨hk.1.2, hk.1.1.2⟩⟩⟩)))⟩; have n2_ : Aside0 (Kd.R (Kd.int .i64) 3 w34 w.heap.size (fun k_ => some k_ ≠ (.slice Ao14 y362.length co14 : Value).ownBlock ∧ some k_ ≠ (.slice Ao32 y371.length co32 : Value).ownBlock) (.slice Ao13 y365.length co13) y365) := ⟨(by rw [hw]; exact (by exact Kd.R_mono (Kd.R_far (p := ⟨gb370, 1, none⟩) (Kd.R_types HO_369002.out BK370.out (by decide)) (fun _ hk => hk.2) (.slice Ao32 y371.length co32)) (fun _ hk => ⟨hk.1.1, hk.1.2⟩)))⟩; have n3_ : Aside0 (Kd.R (Kd.int .i64) 3 w34 w.heap.size (fun k_ => some k_ ≠ (.slice Ao14 y362.length co14 : Value).ownBlock ∧ some k_ ≠ (.slice Ao13 y365.length co13 : Value).ownBlock) (.slice Ao32 y371.length co32) y371) := ⟨(by rw [hw]; exact (by exact Kd.R_mono (Kd.R_far (p := ⟨gb370, 1, none⟩) (Kd.R_types HO373.out BK370.out (by decide)) (fun _ hk => hk.2) (.slice Ao32 y371.length co32)) (fun _ hk => ⟨hk.1.1, hk.1.2⟩)))⟩; have n4_ : Aside0 (w34.heap[gb360]? = some (.cells #[.slice A0_0 l0_0.length c0_0, .slice (some ad369) l0_1.length c0_1, .slice A0_2 l0_2.length c0_2] 26 (0, 0))) := ⟨(by rw [hw]; exact (by refine blk_far ?_ NB360_370.out _; exact BK360.out))⟩; have n5_ : Aside0 (w34.heap[gb361]? = some (.cells #[.slice none 0 0, .slice none 0 0, .slice none 0 0] 26 (0, 0))) := ⟨(by rw [hw]; exact (by refine blk_far ?_ NB361_370.out _; exact BK361.out))⟩; have n6_ : Aside0 (w34.heap[gb368]? = some (.cells #[.slice Ao14 y362.length co14, u369001, .slice Ao13 y365.length co13] 26 (0, 0))) := ⟨(by rw [hw]; exact (by refine blk_far ?_ NB368_370.out _; exact BK368.out))⟩; have n7_ : Aside0 (w34.heap[gb370]? = some (.cells #[.int .i64 ((rd_T35 l0_1 x16_1).f0), .slice Ao32 y371.length co32, .int .i64 ((rd_T35 l0_1 x16_1).f2)] 35 (0, 0))) := ⟨(by rw [hw]; exact (by refine blk_put (cs := #[.int .i64 ((rd_T35 l0_1 x16_1).f0), .slice A369_1 ((rd_T35 l0_1 x16_1).f1).length c369_1, .int .i64 ((rd_T35 l0_1 x16_1).f2)]) ?_ 1 _ rfl; exact BK370.out))⟩; have n8_ : Aside0 (Below w.heap.size w w34) := ⟨(by rw [hw]; exact (by repeat (first | exact HB.out | refine below_set ?_ GE360.out | refine below_set ?_ GE361.out | refine below_set ?_ GE368.out | refine below_set ?_ GE370.out)))⟩; clear hw; clear HO_369000; clear HO_369001; clear HO_369002; clear HO373; clear BK360; clear BK361; clear BK368; clear BK370; clear HB; have HO_369000 := n0_; have HO_369001 := n1_; have HO_369002 := n2_; have HO373 := n3_; have BK360 := n4_; have BK361 := n5_; have BK368 := n6_; have BK370 := n7_; have HB := n8_; clear n0_ n1_ n2_ n3_ n4_ n5_ n6_ n7_ n8_; have hnb35 := NB368_360.out; have hnc35 := NB360_368.out; have hnb36 := NB368_361.out; have hnc36 := NB361_368.out; obtain ⟨hcz37_0, hcz37_1, hcz37_2, hfz37_0, hfz37_1, hfz37_2⟩ := blkf3_ BK368.out; obtain ⟨hcz38_0, hcz38_1, hcz38_2, hfz38_0, hfz38_1, hfz38_2⟩ := blkf3_ BK370.out) | ((with_reducible refine gate_builtin (b := .append) (xs := #[.tmp 25, .tmp 27]) rfl ?_); at_builtin; refine Kd.S_append k35 (w0 := w) w.heap.size rfl (.tmp 25) (.tmp 27) 24 35 (.agg #[(.int .i64 0), (.slice none 0 0), (.int .i64 0)]) 40 rfl Try.underlying24 info35 rfl (by decide) (by omega) u369001 x369001_1 (⟨(rd_T35 l0_1 x16_1).f0, y371, (rd_T35 l0_1 x16_1).f2⟩ : S35) [.int .i64 ((rd_T35 l0_1 x16_1).f0), .slice Ao32 y371.length co32, .int .i64 ((rd_T35 l0_1 x16_1).f2)] (fun k_ => some k_ ≠ (.slice Ao14 y362.length co14 : Value).ownBlock ∧ some k_ ≠ (.slice Ao13 y365.length co13 : Value).ownBlock ∧ k_ ≠ gb370) (fun k_ => some k_ = (.slice Ao32 y371.length co32 : Value).ownBlock) rfl rfl ?aP (fun k_ hk_ => ((Kd.R_mono (ok' := fun k_ => ((fun k_ => some k_ ≠ (.slice Ao14 y362.length co14 : Value).ownBlock ∧ some k_ ≠ (.slice Ao13 y365.length co13 : Value).ownBlock ∧ k_ ≠ gb370)) k_ ∧ some k_ ≠ (u369001 : Value).ownBlock) (Kd.R_types (Kd.R_apart' (HO373.out) (Kd.S_typed HO_369001.out) (by decide)) BK370.out (by decide)) (fun k_ hk => ⟨⟨hk.1.1.1, ⟨hk.1.1.2, hk.2⟩⟩, hk.1.2⟩))).1 k_ hk_.symm) ?aF ?aO ?aB ?aS ?aL ?_; (case aP => exact k35_mkM _ _ _ (⟨(rd_T35 l0_1 x16_1).f0, y371, (rd_T35 l0_1 x16_1).f2⟩ : S35) (Kd.R_mono (Kd.R_tight rfl (Kd.R_mono (ok' := fun k_ => ((fun k_ => some k_ ≠ (.slice Ao14 y362.length co14 : Value).ownBlock ∧ some k_ ≠ (.slice Ao13 y365.length co13 : Value).ownBlock ∧ k_ ≠ gb370)) k_ ∧ some k_ ≠ (u369001 : Value).ownBlock) (Kd.R_types (Kd.R_apart' (HO373.out) (Kd.S_typed HO_369001.out) (by decide)) BK370.out (by decide)) (fun k_ hk => ⟨⟨hk.1.1.1, ⟨hk.1.1.2, hk.2⟩⟩, hk.1.2⟩))) (fun _ h_ => h_))); (case aB => exact HB.out); (case aF => exact (fun k_ hk => ⟨Kd.fresh' (Kd.R_lt HO_369000.out) k_ hk, Kd.fresh' (Kd.R_lt HO_369002.out) k_ hk, Kd.freshB BK370.out k_ hk⟩)); (case aO => exact (by exact Kd.S_mono HO_369001.out (fun k_ hk => ⟨⟨hk.1, ⟨hk.2.1, hk.2.2.2⟩⟩, fun e_ => hk.2.2.1 e_⟩))); (case aS => exact (below_size HB.out)); (case aL => have := LMc25.out; omega); intro v375 w39 ho hb hg hat; rw [← Ny374.out] at ho; have n0_ := K_ (Kd.R_over' HO_369000.out (Kd.S_typed HO_369001.out) (by decide) hg); have n1_ := K_ (Kd.R_over' HO_369002.out (Kd.S_typed HO_369001.out) (by decide) hg); have n2_ := K_ (blk_grown BK360.out hg (Kd.S_ne HO_369001.out BK360.out (by decide))); have n3_ := K_ (blk_grown BK361.out hg (Kd.S_ne HO_369001.out BK361.out (by decide))); have n4_ := K_ (blk_grown BK368.out hg (Kd.S_ne HO_369001.out BK368.out (by decide))); have n5_ := K_ (blk_grown BK370.out hg (Kd.S_away HO_369001.out (fun _ hk => hk.2.2.2))); have n6_ := K_ (hb); have n7_ := K_ (ho); clear HO_369000; clear HO_369002; clear BK360; clear BK361; clear BK368; clear BK370; clear HB; clear HO_369001; clear HO373; have HO_369000 := n0_; have HO_369002 := n1_; have BK360 := n2_; have BK361 := n3_; have BK368 := n4_; have BK370 := n5_; have HB := n6_; have HO376 := n7_; clear n0_ n1_ n2_ n3_ n4_ n5_ n6_ n7_; clear ho hb hg hat; obtain ⟨Ao40, co40, eo40⟩ := Kd.S_slice HO376.out; subst eo40; obtain ⟨hcz41_0, hcz41_1, hcz41_2, hfz41_0, hfz41_1, hfz41_2⟩ := blkf3_ BK368.out))
   go_roundg k1
   case measure => have := HK1.out; omega
   case rel => exact ⟨(wrap64 (x16_1 + 1)), (y374), (.slice Ao40 y374.length co40), rfl, H', ⟨by have := HK1.out; omega⟩, ⟨by exact Kd.R_mono (Kd.R_far (p := ⟨gb368, 1, none⟩) (Kd.R_types HO_369000.out BK368.out (by decide)) (fun _ hk => hk.2) (.slice Ao40 y374.length co40)) (fun _ hk => hk.1.1)⟩, ⟨by exact Kd.S_mono (Kd.S_far (p := ⟨gb368, 1, none⟩) (Kd.S_types HO376.out BK368.out (by decide)) (fun _ hk => hk.2) (.slice Ao40 y374.length co40)) (fun _ hk => ⟨hk.1.1, hk.1.2.1⟩)⟩, ⟨by exact Kd.R_mono (Kd.R_far (p := ⟨gb368, 1, none⟩) (Kd.R_types HO_369002.out BK368.out (by decide)) (fun _ hk => hk.2) (.slice Ao40 y374.length co40)) (fun _ hk => hk.1.1)⟩, ⟨by refine blk_far ?_ NB360_368.out _; exact BK360.out⟩, ⟨by refine blk_far ?_ NB361_368.out _; exact BK361.out⟩, ⟨by refine blk_put (cs := #[.slice Ao14 y362.length co14, u369001, .slice Ao13 y365.length co13]) ?_ 1 _ rfl; exact BK368.out⟩, ⟨by repeat (first | exact HB.out | refine below_set ?_ GE360.out | refine below_set ?_ GE361.out | refine below_set ?_ GE368.out | refine below_set ?_ GE370.out)⟩⟩


end Go.Proofs.Ytpbclogjoangfaa.Q
