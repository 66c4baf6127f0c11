-- Written by programs of this session (wip/drv.py, wip/mkclaim.py) over the kit's print; not trusted: Lean checks it.
import Derived.Test.YtpbclogjoangfaaFnTopQ0
import Derived.Test.YtpbclogjoangfaaFnTopQ1
namespace Go.Proofs.Ytpbclogjoangfaa.Q
open Go.RowKit Go.Proofs.YtpbclogjoangfaaW.PrintWords Go.Proofs.YtpbclogjoangfaaW.PrintLast Go.Proofs.YtpbclogjoangfaaW.PrintMore
attribute [local go_sem] max2_int min2_int max_two min_two max_three min_three max_four min_four   -- for this text's walks alone
set_option linter.unusedVariables false
set_option linter.unusedSimpArgs false

/-! ### spec_l1can: function 58 -/
def spec_l1can.f (k : Nat) (l0_0 : List Int) (l0_1 : List (S35)) (l0_2 : List Int) (a1 : Int) : Option (Bool) := if 0 ≤ a1 then (if a1 < (l0_1.length : Int) then (if (((rd_T35 l0_1 a1).f1).length : Int) = 0 then (some true) else (if 0 < (((rd_T35 l0_1 a1).f1).length : Int) then ((spec_l1there.f k l0_0 l0_1 l0_2 (rd ((rd_T35 l0_1 a1).f1) 0)).bind fun t243 => (if 0 ≤ (rd ((rd_T35 l0_1 a1).f1) 0) then (if (rd ((rd_T35 l0_1 a1).f1) 0) < (l0_0.length : Int) then (some (decide (t243 < (rd l0_0 (rd ((rd_T35 l0_1 a1).f1) 0))))) else (none)) else (none))) else (none))) else (none)) else (none)
theorem spec_l1can.mono : ∀ a0 a1 a2 a3 k, LeO (spec_l1can.f k a0 a1 a2 a3) (spec_l1can.f (k + 1) a0 a1 a2 a3) := by
 intro a0 a1 a2 a3 k
 unfold spec_l1can.f
 repeat' with_reducible first | exact spec_l1there.mono _ _ _ _ _ | exact LeO.refl _ | exact LeO.none _ | refine LeO.ite ?_ ?_ | refine LeO.bind ?_ (fun _ => ?_)
def spec_l1can.T2 : Bool × List (List Nat × List Nat) := (true, [([], []), ([0], [0]), ([1], [1]), ([2], [2]), ([3], [3]), ([4], [4]), ([4], [4]), ([6, 4], [4, 6]), ([7, 4], [4, 7]), ([8, 4], [4, 8]), ([5, 9, 4, 4], [4, 5, 9]), ([4], [4]), ([11, 4], [4, 11]), ([4], [4]), ([13, 4], [4, 13]), ([14, 4], [4, 14]), ([15, 4], [4, 15]), ([12, 16, 4], [4, 12, 16]), ([17, 4], [4, 17]), ([10, 18, 4], [4, 10, 18]), ([4, 19], [4, 19]), ([20, 10, 0, 1, 2, 3, 4, 5, 6, 7, 8, 9, 10, 11, 12, 13, 14, 15, 16, 17, 18, 19, 20], [20])])
def spec_l1can.B2 : List Nat := [0, 1, 3, 7, 15, 31, 31, 95, 223, 479, 1023, 31, 2079, 31, 8223, 24607, 57375, 129055, 260127, 524287, 1048575, 2097151]
theorem spec_l1can.tab2 : rtab .any (opsOf Try.f58 2) = spec_l1can.T2 := by kernel_rfl
theorem spec_l1can.bits2 : waitsOk spec_l1can.T2.2 spec_l1can.B2 = true := by kernel_rfl
set_option maxHeartbeats 8000000 in
set_option maxRecDepth 100000 in
theorem spec_l1can.calls (k : Nat) (A0_0 : Option Addr) (c0_0 : Nat) (l0_0 : List Int) (A0_1 : Option Addr) (c0_1 : Nat) (l0_1 : List (S35)) (A0_2 : Option Addr) (c0_2 : Nat) (l0_2 : List Int) (a1 : Int) (r : Bool) (w : World) (hr0_0 : Kd.C (Kd.int .i64) w A0_0 l0_0.length l0_0) (hc0_0 : l0_0.length ≤ c0_0) (hr0_1 : Kd.C k35 w A0_1 l0_1.length l0_1) (hc0_1 : l0_1.length ≤ c0_1) (hr0_2 : Kd.C (Kd.int .i64) w A0_2 l0_2.length l0_2) (hc0_2 : l0_2.length ≤ c0_2) (h : spec_l1can.f k l0_0 l0_1 l0_2 a1 = some r) :
  Calls Try.prog 58 #[.agg #[.slice A0_0 l0_0.length c0_0, .slice A0_1 l0_1.length c0_1, .slice A0_2 l0_2.length c0_2], .int .i64 a1] w fun e w' => e = .returned (.bool r) ∧ Below w.heap.size w w' := by
 have hu26 := Try.underlying26
 have hu35 := Try.underlying35
 have HR0_0 := K_ hr0_0
 have HC0_0 := K_ hc0_0
 clear hr0_0 hc0_0
 have HR0_1 := K_ hr0_1
 have HC0_1 := K_ hc0_1
 clear hr0_1 hc0_1
 have HR0_2 := K_ hr0_2
 have HC0_2 := K_ hc0_2
 clear hr0_2 hc0_2
 have HB := K_ (Below.refl w.heap.size w)
 unfold spec_l1can.f at h
 have H := h
 clear h
 replace H := dn_ H
 obtain ⟨c3b0, H⟩ := H
 replace H := dn_ H
 obtain ⟨c4b0, H⟩ := H
 replace H := ps_ H
 rcases H with ⟨c5, H⟩ | ⟨c5, H⟩
 case inl =>
  have c5b0 := beq_iff_eq.mpr c5
  have c5b1 := bne_eq_false_iff_eq.mpr c5
  clear c5
  obtain rfl := Option.some.inj H
  go_enter Try.func58, Try.ntmps58
  try go_wp2_with (first | ((with_reducible refine gate_dst (N := 2) rfl ?_); refine box_event (by rfl) (N := 2) (by rfl) (cs := #[.slice A0_0 l0_0.length c0_0, .slice A0_1 l0_1.length c0_1, .slice A0_2 l0_2.length c0_2]) (t := 26) (by go_simp; try rfl) ?_; intro gb239 hg w6 hbox hb; have BK239 := K_ (hbox); have GW239 := ge_ hg HB.out; have GE239 := ge_ hg HB.out; replace HB := K_ (below_step HB.out hb); clear hb hbox hg; obtain ⟨hcz7_0, hcz7_1, hcz7_2, hfz7_0, hfz7_1, hfz7_2⟩ := blkf3_ BK239.out; have p240 : 0 ≤ (a1 : Int) := of_decide_eq_true (by assumption); have q240 : a1 < (l0_1.length : Int) := of_decide_eq_true (by assumption); obtain ⟨ad240, A240_1, c240_1, e240, hx240_0, hx240_1, hx240_2, hl240_1, hi240_1⟩ := at_T35 HR0_1.out a1 p240 q240; cases e240; replace hx240_0 := (HB.out.cell (World.block_lt_of_cell? w _ hx240_0)).trans hx240_0; replace hx240_1 := (HB.out.cell (World.block_lt_of_cell? w _ hx240_1)).trans hx240_1; replace hx240_2 := (HB.out.cell (World.block_lt_of_cell? w _ hx240_2)).trans hx240_2; have HR240_1 := K_ hi240_1; have HC240_1 := K_ hl240_1; clear hi240_1 hl240_1; replace p240 := eq_true p240; replace q240 := eq_true q240) | ((with_reducible refine gate_dst (N := 5) rfl ?_); refine box_event (by rfl) (N := 5) (by rfl) (cs := #[.int .i64 0, .slice none 0 0, .int .i64 0]) (t := 35) (by go_simp; try rfl) ?_; intro gb241 hg w8 hbox hb; have BK241 := K_ (hbox); have GW241 := ge_ hg HB.out; have GE241 := ge_ hg HB.out; have NB239_241 := nl_ hg BK239.out; have NB241_239 := ng_ hg BK239.out; replace BK239 := K_ (blk_below BK239.out hb); replace HB := K_ (below_step HB.out hb); clear hb hbox hg; have hnb9 := NB241_239.out; have hnc9 := NB239_241.out; obtain ⟨hcz10_0, hcz10_1, hcz10_2, hfz10_0, hfz10_1, hfz10_2⟩ := blkf3_ BK241.out))
  have n0_ : Aside0 ((((w8.setCell ⟨gb241, 0, none⟩ (.int .i64 ((rd_T35 l0_1 a1).f0))).setCell ⟨gb241, 1, none⟩ (.slice A240_1 ((rd_T35 l0_1 a1).f1).length c240_1)).setCell ⟨gb241, 2, none⟩ (.int .i64 ((rd_T35 l0_1 a1).f2))).heap[gb239]? = some (.cells #[.slice A0_0 l0_0.length c0_0, .slice (some ad240) l0_1.length c0_1, .slice A0_2 l0_2.length c0_2] 26 (0, 0))) := ⟨by refine blk_far ?_ NB239_241.out _; refine blk_far ?_ NB239_241.out _; refine blk_far ?_ NB239_241.out _; exact BK239.out⟩
  have n1_ : Aside0 ((((w8.setCell ⟨gb241, 0, none⟩ (.int .i64 ((rd_T35 l0_1 a1).f0))).setCell ⟨gb241, 1, none⟩ (.slice A240_1 ((rd_T35 l0_1 a1).f1).length c240_1)).setCell ⟨gb241, 2, none⟩ (.int .i64 ((rd_T35 l0_1 a1).f2))).heap[gb241]? = some (.cells #[.int .i64 ((rd_T35 l0_1 a1).f0), .slice A240_1 ((rd_T35 l0_1 a1).f1).length c240_1, .int .i64 ((rd_T35 l0_1 a1).f2)] 35 (0, 0))) := ⟨by refine blk_put (cs := #[.int .i64 ((rd_T35 l0_1 a1).f0), .slice A240_1 ((rd_T35 l0_1 a1).f1).length c240_1, .int .i64 0]) ?_ 2 _ rfl; refine blk_put (cs := #[.int .i64 ((rd_T35 l0_1 a1).f0), .slice none 0 0, .int .i64 0]) ?_ 1 _ rfl; refine blk_put (cs := #[.int .i64 0, .slice none 0 0, .int .i64 0]) ?_ 0 _ rfl; exact BK241.out⟩
  have n2_ : Aside0 (Below w.heap.size w (((w8.setCell ⟨gb241, 0, none⟩ (.int .i64 ((rd_T35 l0_1 a1).f0))).setCell ⟨gb241, 1, none⟩ (.slice A240_1 ((rd_T35 l0_1 a1).f1).length c240_1)).setCell ⟨gb241, 2, none⟩ (.int .i64 ((rd_T35 l0_1 a1).f2)))) := ⟨by repeat (first | exact HB.out | refine below_set ?_ GE239.out | refine below_set ?_ GE241.out)⟩
  clear BK239
  clear BK241
  clear HB
  generalize (((w8.setCell ⟨gb241, 0, none⟩ (.int .i64 ((rd_T35 l0_1 a1).f0))).setCell ⟨gb241, 1, none⟩ (.slice A240_1 ((rd_T35 l0_1 a1).f1).length c240_1)).setCell ⟨gb241, 2, none⟩ (.int .i64 ((rd_T35 l0_1 a1).f2))) = w11 at n0_ n1_ n2_ ⊢
  have BK239 := n0_
  have BK241 := n1_
  have HB := n2_
  clear n0_ n1_ n2_
  replace BK239 := K_ (blk_drew BK239.out)
  replace BK241 := K_ (blk_drew BK241.out)
  replace HB := K_ (below_drew1 HB.out)
  refine start_ (n := 22) (S := fun w' => w'.cell? ⟨gb241, 0, none⟩ = some (.int .i64 ((rd_T35 l0_1 a1).f0)) ∧ w'.cell? ⟨gb241, 1, none⟩ = some (.slice A240_1 ((rd_T35 l0_1 a1).f1).length c240_1) ∧ w'.cell? ⟨gb241, 2, none⟩ = some (.int .i64 ((rd_T35 l0_1 a1).f2))) (ds := []) #[ff, ff, ff, ff, ff, ff, ff, ff, ff, ff, ff, ff, ff, ff, ff, ff, ff, ff, ff, ff, ff, ff] (by kernel_rfl) rfl rfl ⟨(blk_cell BK241.out 0).trans rfl, (blk_cell BK241.out 1).trans rfl, (blk_cell BK241.out 2).trans rfl⟩ (fun hHeld => ?_); refine with_tabW spec_l1can.tab2 spec_l1can.bits2 (fun HT_ HW_ => ?_)
  generalize w11.drew = w12 at BK239 BK241 HB hHeld ⊢
  refine pure_ (i := 0) (N := some 11) (v := ?_) (a' := ?_) (M_ 22 1) rfl rfl (any_of HT_.out (by kernel_rfl)) (fun _ _ _ h => h) (Or.inl ⟨by rfl, ?_⟩) ?_ ?_
  rotate_left
  ·intro w'
   go_simp
   with_reducible rfl
  rotate_left
  ·simp only [P_, i64_w, i32_w]
   rfl
  refine take_ (i := 1) (N := some 12) (v := ?_) (a' := ?_) (M_ 22 3) rfl rfl (take_ofW HT_.out HW_.out (by kernel_rfl)) (fun _ _ _ h => h) (Or.inl ⟨by rfl, ?_⟩) hHeld ?_ ?_
  rotate_left
  ·rintro w' ⟨s0, s1, s2⟩
   go_simp
   with_reducible rfl
  rotate_left
  ·simp only [P_, i64_w, i32_w]
   rfl
  refine pure_ (i := 2) (N := some 13) (v := ?_) (a' := ?_) (M_ 22 7) rfl rfl (any_of HT_.out (by kernel_rfl)) (fun _ _ _ h => h) (Or.inl ⟨by rfl, ?_⟩) ?_ ?_
  rotate_left
  ·intro w'
   go_simp
   with_reducible rfl
  rotate_left
  ·simp only [P_, i64_w, i32_w]
   rfl
  refine pure_ (i := 3) (N := some 14) (v := ?_) (a' := ?_) (M_ 22 15) rfl rfl (any_of HT_.out (by kernel_rfl)) (fun _ _ _ h => h) (Or.inl ⟨by rfl, ?_⟩) ?_ ?_
  rotate_left
  ·intro w'
   go_simp
   with_reducible rfl
  rotate_left
  ·simp only [P_, i64_w, i32_w]
   rfl
  refine pure_ (i := 4) (N := some 15) (v := ?_) (a' := ?_) (M_ 22 31) rfl rfl (any_of HT_.out (by kernel_rfl)) (fun _ _ _ h => h) (Or.inl ⟨by rfl, ?_⟩) ?_ ?_
  rotate_left
  ·intro w'
   go_simp
   with_reducible rfl
  rotate_left
  ·simp only [P_, i64_w, i32_w]
   rfl
  refine pure_ (i := 5) (N := some 16) (v := undef) (a' := ?_) (M_ 22 63) rfl rfl (any_of HT_.out (by kernel_rfl)) (fun _ _ _ h => h) (Or.inr ⟨by rfl, rfl⟩) ?_ ?_
  rotate_left
  ·simp only [P_, i64_w, i32_w]
   rfl
  refine pure_ (i := 6) (N := some 17) (v := undef) (a' := ?_) (M_ 22 127) rfl rfl (any_of HT_.out (by kernel_rfl)) (fun _ _ _ h => h) (Or.inr ⟨by rfl, rfl⟩) ?_ ?_
  rotate_left
  ·simp only [P_, i64_w, i32_w]
   rfl
  refine pure_ (i := 7) (N := some 18) (v := undef) (a' := ?_) (M_ 22 255) rfl rfl (any_of HT_.out (by kernel_rfl)) (fun _ _ _ h => h) (Or.inr ⟨by rfl, rfl⟩) ?_ ?_
  rotate_left
  ·simp only [P_, i64_w, i32_w]
   rfl
  refine pure_ (i := 8) (N := some 19) (v := undef) (a' := ?_) (M_ 22 511) rfl rfl (any_of HT_.out (by kernel_rfl)) (fun _ _ _ h => h) (Or.inr ⟨by rfl, rfl⟩) ?_ ?_
  rotate_left
  ·simp only [P_, i64_w, i32_w]
   rfl
  refine pure_ (i := 9) (N := some 20) (v := undef) (a' := ?_) (M_ 22 1023) rfl rfl (any_of HT_.out (by kernel_rfl)) (fun _ _ _ h => h) (Or.inr ⟨by rfl, rfl⟩) ?_ ?_
  rotate_left
  ·simp only [P_, i64_w, i32_w]
   rfl
  refine pure_ (i := 10) (N := some 21) (v := undef) (a' := ?_) (M_ 22 2047) rfl rfl (any_of HT_.out (by kernel_rfl)) (fun _ _ _ h => h) (Or.inr ⟨by rfl, rfl⟩) ?_ ?_
  rotate_left
  ·simp only [P_, i64_w, i32_w]
   rfl
  refine pure_ (i := 11) (N := some 22) (v := undef) (a' := ?_) (M_ 22 4095) rfl rfl (any_of HT_.out (by kernel_rfl)) (fun _ _ _ h => h) (Or.inr ⟨by rfl, rfl⟩) ?_ ?_
  rotate_left
  ·simp only [P_, i64_w, i32_w]
   rfl
  refine pure_ (i := 12) (N := some 23) (v := undef) (a' := ?_) (M_ 22 8191) rfl rfl (any_of HT_.out (by kernel_rfl)) (fun _ _ _ h => h) (Or.inr ⟨by rfl, rfl⟩) ?_ ?_
  rotate_left
  ·simp only [P_, i64_w, i32_w]
   rfl
  refine pure_ (i := 13) (N := some 24) (v := undef) (a' := ?_) (M_ 22 16383) rfl rfl (any_of HT_.out (by kernel_rfl)) (fun _ _ _ h => h) (Or.inr ⟨by rfl, rfl⟩) ?_ ?_
  rotate_left
  ·simp only [P_, i64_w, i32_w]
   rfl
  refine pure_ (i := 14) (N := some 25) (v := undef) (a' := ?_) (M_ 22 32767) rfl rfl (any_of HT_.out (by kernel_rfl)) (fun _ _ _ h => h) (Or.inr ⟨by rfl, rfl⟩) ?_ ?_
  rotate_left
  ·simp only [P_, i64_w, i32_w]
   rfl
  refine pure_ (i := 15) (N := some 26) (v := undef) (a' := ?_) (M_ 22 65535) rfl rfl (any_of HT_.out (by kernel_rfl)) (fun _ _ _ h => h) (Or.inr ⟨by rfl, rfl⟩) ?_ ?_
  rotate_left
  ·simp only [P_, i64_w, i32_w]
   rfl
  refine pure_ (i := 16) (N := some 27) (v := undef) (a' := ?_) (M_ 22 131071) rfl rfl (any_of HT_.out (by kernel_rfl)) (fun _ _ _ h => h) (Or.inr ⟨by rfl, rfl⟩) ?_ ?_
  rotate_left
  ·simp only [P_, i64_w, i32_w]
   rfl
  refine pure_ (i := 17) (N := some 28) (v := undef) (a' := ?_) (M_ 22 262143) rfl rfl (any_of HT_.out (by kernel_rfl)) (fun _ _ _ h => h) (Or.inr ⟨by rfl, rfl⟩) ?_ ?_
  rotate_left
  ·simp only [P_, i64_w, i32_w]
   rfl
  refine pure_ (i := 18) (N := some 29) (v := undef) (a' := ?_) (M_ 22 524287) rfl rfl (any_of HT_.out (by kernel_rfl)) (fun _ _ _ h => h) (Or.inr ⟨by rfl, rfl⟩) ?_ ?_
  rotate_left
  ·simp only [P_, i64_w, i32_w]
   rfl
  refine pure_ (i := 19) (N := some 30) (v := undef) (a' := ?_) (M_ 22 1048575) rfl rfl (any_of HT_.out (by kernel_rfl)) (fun _ _ _ h => h) (Or.inr ⟨by rfl, rfl⟩) ?_ ?_
  rotate_left
  ·simp only [P_, i64_w, i32_w]
   rfl
  refine pure_ (i := 20) (N := some 31) (v := ?_) (a' := ?_) (M_ 22 2097151) rfl rfl (any_of HT_.out (by kernel_rfl)) (fun _ _ _ h => h) (Or.inl ⟨by rfl, ?_⟩) ?_ ?_
  rotate_left
  ·intro w'
   go_simp
   with_reducible rfl
  rotate_left
  ·simp only [P_, i64_w, i32_w]
   rfl
  refine pure_ (i := 21) (N := some 4) (v := ?_) (a' := ?_) (M_ 22 4194303) rfl rfl (any_of HT_.out (by kernel_rfl)) (fun _ _ _ h => h) (Or.inl ⟨by rfl, ?_⟩) ?_ ?_
  rotate_left
  ·intro w'
   go_simp
   with_reducible rfl
  rotate_left
  ·simp only [P_, i64_w, i32_w]
   rfl
  refine done_ (done_of HT_.out (by kernel_rfl)) ?_
  try go_wp2
  go_ret
  exact ⟨rfl, HB.out⟩
 have c5b0 := beq_eq_false_iff_ne.mpr c5
 have c5b1 := bne_iff_ne.mpr c5
 have c5b2 : ¬ (((rd_T35 l0_1 a1).f1) = []) := fun h_ => c5 (by rw [h_]; rfl)
 replace H := pn_ H
 obtain ⟨c13, H⟩ := H
 have c13b0 := decide_eq_true c13
 have c13b1 : decide (0 < ((rd_T35 l0_1 a1).f1).length) = true := decide_eq_true (by omega)
 clear c13
 replace H := Option.bind_eq_some_iff.mp H
 obtain ⟨t243, A140, H⟩ := H
 try dsimp only at H
 have A14 := K_ A140
 clear A140
 replace H := dn_ H
 obtain ⟨c15b0, H⟩ := H
 replace H := dn_ H
 obtain ⟨c16b0, H⟩ := H
 obtain rfl := Option.some.inj H
 go_enter Try.func58, Try.ntmps58
 try go_wp2_with (first | ((with_reducible refine gate_dst (N := 2) rfl ?_); refine box_event (by rfl) (N := 2) (by rfl) (cs := #[.slice A0_0 l0_0.length c0_0, .slice A0_1 l0_1.length c0_1, .slice A0_2 l0_2.length c0_2]) (t := 26) (by go_simp; try rfl) ?_; intro gb239 hg w17 hbox hb; have BK239 := K_ (hbox); have GW239 := ge_ hg HB.out; have GE239 := ge_ hg HB.out; replace HB := K_ (below_step HB.out hb); clear hb hbox hg; obtain ⟨hcz18_0, hcz18_1, hcz18_2, hfz18_0, hfz18_1, hfz18_2⟩ := blkf3_ BK239.out; have p240 : 0 ≤ (a1 : Int) := of_decide_eq_true (by assumption); have q240 : a1 < (l0_1.length : Int) := of_decide_eq_true (by assumption); obtain ⟨ad240, A240_1, c240_1, e240, hx240_0, hx240_1, hx240_2, hl240_1, hi240_1⟩ := at_T35 HR0_1.out a1 p240 q240; cases e240; replace hx240_0 := (HB.out.cell (World.block_lt_of_cell? w _ hx240_0)).trans hx240_0; replace hx240_1 := (HB.out.cell (World.block_lt_of_cell? w _ hx240_1)).trans hx240_1; replace hx240_2 := (HB.out.cell (World.block_lt_of_cell? w _ hx240_2)).trans hx240_2; have HR240_1 := K_ hi240_1; have HC240_1 := K_ hl240_1; clear hi240_1 hl240_1; replace p240 := eq_true p240; replace q240 := eq_true q240) | ((with_reducible refine gate_dst (N := 5) rfl ?_); refine box_event (by rfl) (N := 5) (by rfl) (cs := #[.int .i64 0, .slice none 0 0, .int .i64 0]) (t := 35) (by go_simp; try rfl) ?_; intro gb241 hg w19 hbox hb; have BK241 := K_ (hbox); have GW241 := ge_ hg HB.out; have GE241 := ge_ hg HB.out; have NB239_241 := nl_ hg BK239.out; have NB241_239 := ng_ hg BK239.out; replace BK239 := K_ (blk_below BK239.out hb); replace HB := K_ (below_step HB.out hb); clear hb hbox hg; have hnb20 := NB241_239.out; have hnc20 := NB239_241.out; obtain ⟨hcz21_0, hcz21_1, hcz21_2, hfz21_0, hfz21_1, hfz21_2⟩ := blkf3_ BK241.out))
 have n0_ : Aside0 ((((w19.setCell ⟨gb241, 0, none⟩ (.int .i64 ((rd_T35 l0_1 a1).f0))).setCell ⟨gb241, 1, none⟩ (.slice A240_1 ((rd_T35 l0_1 a1).f1).length c240_1)).setCell ⟨gb241, 2, none⟩ (.int .i64 ((rd_T35 l0_1 a1).f2))).heap[gb239]? = some (.cells #[.slice A0_0 l0_0.length c0_0, .slice (some ad240) l0_1.length c0_1, .slice A0_2 l0_2.length c0_2] 26 (0, 0))) := ⟨by refine blk_far ?_ NB239_241.out _; refine blk_far ?_ NB239_241.out _; refine blk_far ?_ NB239_241.out _; exact BK239.out⟩
 have n1_ : Aside0 ((((w19.setCell ⟨gb241, 0, none⟩ (.int .i64 ((rd_T35 l0_1 a1).f0))).setCell ⟨gb241, 1, none⟩ (.slice A240_1 ((rd_T35 l0_1 a1).f1).length c240_1)).setCell ⟨gb241, 2, none⟩ (.int .i64 ((rd_T35 l0_1 a1).f2))).heap[gb241]? = some (.cells #[.int .i64 ((rd_T35 l0_1 a1).f0), .slice A240_1 ((rd_T35 l0_1 a1).f1).length c240_1, .int .i64 ((rd_T35 l0_1 a1).f2)] 35 (0, 0))) := ⟨by refine blk_put (cs := #[.int .i64 ((rd_T35 l0_1 a1).f0), .slice A240_1 ((rd_T35 l0_1 a1).f1).length c240_1, .int .i64 0]) ?_ 2 _ rfl; refine blk_put (cs := #[.int .i64 ((rd_T35 l0_1 a1).f0), .slice none 0 0, .int .i64 0]) ?_ 1 _ rfl; refine blk_put (cs := #[.int .i64 0, .slice none 0 0, .int .i64 0]) ?_ 0 _ rfl; exact BK241.out⟩
 have n2_ : Aside0 (Below w.heap.size w (((w19.setCell ⟨gb241, 0, none⟩ (.int .i64 ((rd_T35 l0_1 a1).f0))).setCell ⟨gb241, 1, none⟩ (.slice A240_1 ((rd_T35 l0_1 a1).f1).length c240_1)).setCell ⟨gb241, 2, none⟩ (.int .i64 ((rd_T35 l0_1 a1).f2)))) := ⟨by repeat (first | exact HB.out | refine below_set ?_ GE239.out | refine below_set ?_ GE241.out)⟩
 clear BK239
 clear BK241
 clear HB
 generalize (((w19.setCell ⟨gb241, 0, none⟩ (.int .i64 ((rd_T35 l0_1 a1).f0))).setCell ⟨gb241, 1, none⟩ (.slice A240_1 ((rd_T35 l0_1 a1).f1).length c240_1)).setCell ⟨gb241, 2, none⟩ (.int .i64 ((rd_T35 l0_1 a1).f2))) = w22 at n0_ n1_ n2_ ⊢
 have BK239 := n0_
 have BK241 := n1_
 have HB := n2_
 clear n0_ n1_ n2_
 replace BK239 := K_ (blk_drew BK239.out)
 replace BK241 := K_ (blk_drew BK241.out)
 replace HB := K_ (below_drew1 HB.out)
 have p242 : 0 ≤ (0 : Int) := (by omega)
 have q242 : 0 < (((rd_T35 l0_1 a1).f1).length : Int) := of_decide_eq_true (by assumption)
 obtain ⟨ad242, e242, hx242_0⟩ := Kd.at_int HR240_1.out 0 p242 q242
 have hw242_0 := hx242_0
 (try rw [show ((0 : Int)).toNat = 0 from rfl] at hw242_0)
 (try rw [show 0 * 1 = 0 from rfl] at hw242_0)
 (try rw [Addr.add_zero'] at hw242_0)
 cases e242
 have qi242 : (0 < ((rd_T35 l0_1 a1).f1).length) = True := eq_true (by omega)
 (try rw [show ((0 : Int)).toNat = 0 from rfl] at hx242_0)
 (try rw [Addr.add_zero'] at hx242_0)
 replace hx242_0 := (HB.out.cell (World.block_lt_of_cell? w _ hx242_0)).trans hx242_0
 replace p242 := eq_true p242
 replace q242 := eq_true q242
 have p244 : 0 ≤ (0 : Int) := (by omega)
 have q244 : 0 < (((rd_T35 l0_1 a1).f1).length : Int) := of_decide_eq_true (by assumption)
 obtain ⟨ad244, e244, hx244_0⟩ := Kd.at_int HR240_1.out 0 p244 q244
 have hw244_0 := hx244_0
 (try rw [show ((0 : Int)).toNat = 0 from rfl] at hw244_0)
 (try rw [show 0 * 1 = 0 from rfl] at hw244_0)
 (try rw [Addr.add_zero'] at hw244_0)
 obtain rfl : ad242 = ad244 := (by injection e244)
 have qi244 : (0 < ((rd_T35 l0_1 a1).f1).length) = True := eq_true (by omega)
 (try rw [show ((0 : Int)).toNat = 0 from rfl] at hx244_0)
 (try rw [Addr.add_zero'] at hx244_0)
 replace hx244_0 := (HB.out.cell (World.block_lt_of_cell? w _ hx244_0)).trans hx244_0
 replace p244 := eq_true p244
 replace q244 := eq_true q244
 have p245 : 0 ≤ ((rd ((rd_T35 l0_1 a1).f1) 0) : Int) := of_decide_eq_true (by assumption)
 have q245 : (rd ((rd_T35 l0_1 a1).f1) 0) < (l0_0.length : Int) := of_decide_eq_true (by assumption)
 obtain ⟨ad245, e245, hx245_0⟩ := Kd.at_int HR0_0.out (rd ((rd_T35 l0_1 a1).f1) 0) p245 q245
 have hw245_0 := hx245_0
 cases e245
 replace hx245_0 := (HB.out.cell (World.block_lt_of_cell? w _ hx245_0)).trans hx245_0
 replace p245 := eq_true p245
 replace q245 := eq_true q245
 refine start_ (n := 22) (S := fun w' => w'.cell? ⟨gb241, 0, none⟩ = some (.int .i64 ((rd_T35 l0_1 a1).f0)) ∧ w'.cell? ⟨gb241, 1, none⟩ = some (.slice (some ad242) ((rd_T35 l0_1 a1).f1).length c240_1) ∧ w'.cell? ⟨gb241, 2, none⟩ = some (.int .i64 ((rd_T35 l0_1 a1).f2)) ∧ w'.cell? ⟨gb239, 0, none⟩ = some (.slice (some ad245) l0_0.length c0_0) ∧ w'.cell? ⟨gb239, 1, none⟩ = some (.slice (some ad240) l0_1.length c0_1) ∧ w'.cell? ⟨gb239, 2, none⟩ = some (.slice A0_2 l0_2.length c0_2) ∧ w'.cell? ad242 = some (.int .i64 (rd ((rd_T35 l0_1 a1).f1) 0)) ∧ w'.cell? ad242 = some (.int .i64 (rd ((rd_T35 l0_1 a1).f1) 0)) ∧ w'.cell? (ad245.add ((rd ((rd_T35 l0_1 a1).f1) 0)).toNat) = some (.int .i64 (rd l0_0 (rd ((rd_T35 l0_1 a1).f1) 0)))) (ds := []) #[ff, ff, ff, ff, ff, ff, ff, ff, ff, ff, ff, ff, ff, ff, ff, ff, ff, ff, ff, ff, ff, ff] (by kernel_rfl) rfl rfl ⟨(blk_cell BK241.out 0).trans rfl, (blk_cell BK241.out 1).trans rfl, (blk_cell BK241.out 2).trans rfl, (blk_cell BK239.out 0).trans rfl, (blk_cell BK239.out 1).trans rfl, (blk_cell BK239.out 2).trans rfl, ((HB.out.cell (World.block_lt_of_cell? w _ hw242_0)).trans hw242_0), ((HB.out.cell (World.block_lt_of_cell? w _ hw244_0)).trans hw244_0), ((HB.out.cell (World.block_lt_of_cell? w _ hw245_0)).trans hw245_0)⟩ (fun hHeld => ?_); refine with_tabW spec_l1can.tab2 spec_l1can.bits2 (fun HT_ HW_ => ?_)
 generalize w22.drew = w23 at BK239 BK241 HB hx242_0 hx244_0 hx245_0 hHeld ⊢
 refine pure_ (i := 0) (N := some 11) (v := ?_) (a' := ?_) (M_ 22 1) rfl rfl (any_of HT_.out (by kernel_rfl)) (fun _ _ _ h => h) (Or.inl ⟨by rfl, ?_⟩) ?_ ?_
 rotate_left
 ·intro w'
  go_simp
  with_reducible rfl
 rotate_left
 ·simp only [P_, i64_w, i32_w]
  rfl
 refine take_ (i := 1) (N := some 12) (v := ?_) (a' := ?_) (M_ 22 3) rfl rfl (take_ofW HT_.out HW_.out (by kernel_rfl)) (fun _ _ _ h => h) (Or.inl ⟨by rfl, ?_⟩) hHeld ?_ ?_
 rotate_left
 ·rintro w' ⟨s0, s1, s2, s3, s4, s5, s6, s7, s8⟩
  go_simp
  with_reducible rfl
 rotate_left
 ·simp only [P_, i64_w, i32_w]
  rfl
 refine pure_ (i := 2) (N := some 13) (v := ?_) (a' := ?_) (M_ 22 7) rfl rfl (any_of HT_.out (by kernel_rfl)) (fun _ _ _ h => h) (Or.inl ⟨by rfl, ?_⟩) ?_ ?_
 rotate_left
 ·intro w'
  go_simp
  with_reducible rfl
 rotate_left
 ·simp only [P_, i64_w, i32_w]
  rfl
 refine pure_ (i := 3) (N := some 14) (v := ?_) (a' := ?_) (M_ 22 15) rfl rfl (any_of HT_.out (by kernel_rfl)) (fun _ _ _ h => h) (Or.inl ⟨by rfl, ?_⟩) ?_ ?_
 rotate_left
 ·intro w'
  go_simp
  with_reducible rfl
 rotate_left
 ·simp only [P_, i64_w, i32_w]
  rfl
 refine pure_ (i := 4) (N := some 15) (v := ?_) (a' := ?_) (M_ 22 31) rfl rfl (any_of HT_.out (by kernel_rfl)) (fun _ _ _ h => h) (Or.inl ⟨by rfl, ?_⟩) ?_ ?_
 rotate_left
 ·intro w'
  go_simp
  with_reducible rfl
 rotate_left
 ·simp only [P_, i64_w, i32_w]
  rfl
 refine pure_ (i := 6) (N := some 17) (v := ?_) (a' := ?_) (M_ 22 95) rfl rfl (any_of HT_.out (by kernel_rfl)) (fun _ _ _ h => h) (Or.inl ⟨by rfl, ?_⟩) ?_ ?_
 rotate_left
 ·intro w'
  go_simp
  with_reducible rfl
 rotate_left
 ·simp only [P_, i64_w, i32_w]
  rfl
 refine pure_ (i := 11) (N := some 22) (v := ?_) (a' := ?_) (M_ 22 2143) rfl rfl (any_of HT_.out (by kernel_rfl)) (fun _ _ _ h => h) (Or.inl ⟨by rfl, ?_⟩) ?_ ?_
 rotate_left
 ·intro w'
  go_simp
  with_reducible rfl
 rotate_left
 ·simp only [P_, i64_w, i32_w]
  rfl
 refine pure_ (i := 13) (N := some 24) (v := ?_) (a' := ?_) (M_ 22 10335) rfl rfl (any_of HT_.out (by kernel_rfl)) (fun _ _ _ h => h) (Or.inl ⟨by rfl, ?_⟩) ?_ ?_
 rotate_left
 ·intro w'
  go_simp
  with_reducible rfl
 rotate_left
 ·simp only [P_, i64_w, i32_w]
  rfl
 refine take_ (i := 5) (N := some 16) (v := ?_) (a' := ?_) (M_ 22 10367) rfl rfl (take_ofW HT_.out HW_.out (by kernel_rfl)) (fun _ _ _ h => h) (Or.inl ⟨by rfl, ?_⟩) hHeld ?_ ?_
 rotate_left
 ·rintro w' ⟨s0, s1, s2, s3, s4, s5, s6, s7, s8⟩
  go_simp
  with_reducible rfl
 rotate_left
 ·simp only [P_, i64_w, i32_w]
  rfl
 refine take_ (i := 7) (N := some 18) (v := ?_) (a' := ?_) (M_ 22 10495) rfl rfl (take_ofW HT_.out HW_.out (by kernel_rfl)) (fun _ _ _ h => h) (Or.inl ⟨by rfl, ?_⟩) hHeld ?_ ?_
 rotate_left
 ·rintro w' ⟨s0, s1, s2, s3, s4, s5, s6, s7, s8⟩
  go_simp
  with_reducible rfl
 rotate_left
 ·simp only [P_, i64_w, i32_w]
  rfl
 refine pure_ (i := 8) (N := some 19) (v := ?_) (a' := ?_) (M_ 22 10751) rfl rfl (any_of HT_.out (by kernel_rfl)) (fun _ _ _ h => h) (Or.inl ⟨by rfl, ?_⟩) ?_ ?_
 rotate_left
 ·intro w'
  go_simp
  with_reducible rfl
 rotate_left
 ·simp only [P_, i64_w, i32_w]
  rfl
 refine take_ (i := 9) (N := some 20) (v := ?_) (a' := ?_) (M_ 22 11263) rfl rfl (take_ofW HT_.out HW_.out (by kernel_rfl)) (fun _ _ _ h => h) (Or.inl ⟨by rfl, ?_⟩) hHeld ?_ ?_
 rotate_left
 ·rintro w' ⟨s0, s1, s2, s3, s4, s5, s6, s7, s8⟩
  go_simp
  with_reducible rfl
 rotate_left
 ·simp only [P_, i64_w, i32_w]
  rfl
 refine take_ (i := 12) (N := some 23) (v := ?_) (a' := ?_) (M_ 22 15359) rfl rfl (take_ofW HT_.out HW_.out (by kernel_rfl)) (fun _ _ _ h => h) (Or.inl ⟨by rfl, ?_⟩) hHeld ?_ ?_
 rotate_left
 ·rintro w' ⟨s0, s1, s2, s3, s4, s5, s6, s7, s8⟩
  go_simp
  with_reducible rfl
 rotate_left
 ·simp only [P_, i64_w, i32_w]
  rfl
 refine take_ (i := 14) (N := some 25) (v := ?_) (a' := ?_) (M_ 22 31743) rfl rfl (take_ofW HT_.out HW_.out (by kernel_rfl)) (fun _ _ _ h => h) (Or.inl ⟨by rfl, ?_⟩) hHeld ?_ ?_
 rotate_left
 ·rintro w' ⟨s0, s1, s2, s3, s4, s5, s6, s7, s8⟩
  go_simp
  with_reducible rfl
 rotate_left
 ·simp only [P_, i64_w, i32_w]
  rfl
 refine pure_ (i := 15) (N := some 26) (v := ?_) (a' := ?_) (M_ 22 64511) rfl rfl (any_of HT_.out (by kernel_rfl)) (fun _ _ _ h => h) (Or.inl ⟨by rfl, ?_⟩) ?_ ?_
 rotate_left
 ·intro w'
  go_simp
  with_reducible rfl
 rotate_left
 ·simp only [P_, i64_w, i32_w]
  rfl
 refine take_ (i := 16) (N := some 27) (v := ?_) (a' := ?_) (M_ 22 130047) rfl rfl (take_ofW HT_.out HW_.out (by kernel_rfl)) (fun _ _ _ h => h) (Or.inl ⟨by rfl, ?_⟩) hHeld ?_ ?_
 rotate_left
 ·rintro w' ⟨s0, s1, s2, s3, s4, s5, s6, s7, s8⟩
  go_simp
  with_reducible rfl
 rotate_left
 ·simp only [P_, i64_w, i32_w]
  rfl
 refine pure_ (i := 17) (N := some 28) (v := ?_) (a' := ?_) (M_ 22 261119) rfl rfl (any_of HT_.out (by kernel_rfl)) (fun _ _ _ h => h) (Or.inl ⟨by rfl, ?_⟩) ?_ ?_
 rotate_left
 ·intro w'
  go_simp
  with_reducible rfl
 rotate_left
 ·simp only [P_, i64_w, i32_w]
  rfl
 refine take_ (i := 18) (N := some 29) (v := ?_) (a' := ?_) (M_ 22 523263) rfl rfl (take_ofW HT_.out HW_.out (by kernel_rfl)) (fun _ _ _ h => h) (Or.inl ⟨by rfl, ?_⟩) hHeld ?_ ?_
 rotate_left
 ·rintro w' ⟨s0, s1, s2, s3, s4, s5, s6, s7, s8⟩
  go_simp
  with_reducible rfl
 rotate_left
 ·simp only [P_, i64_w, i32_w]
  rfl
 refine one_ (i := 10) (N := some 21) (M_ 22 524287) rfl rfl (one_of HT_.out (by kernel_rfl)) (by decide) (fun K hK => ?_)
 refine goes_ Try.func84 (by kernel_rfl) rfl #[.agg #[.slice (some ad245) l0_0.length c0_0, .slice (some ad240) l0_1.length c0_1, .slice A0_2 l0_2.length c0_2], .int .i64 (rd ((rd_T35 l0_1 a1).f1) 0)] (by rfl) rfl rfl (by simp only [List.map_toArray, List.map_cons, List.map_nil]; try rfl) ?_
 with_reducible refine (spec_l1there.calls k _ _ l0_0 _ _ l0_1 _ _ l0_2 (rd ((rd_T35 l0_1 a1).f1) 0) t243 _ ?side1 ?side2 ?side3 ?side4 ?side5 ?side6 A14.out).mono ?_
 (case side1 => exact (Kd.C_below HR0_0.out HB.out))
 (case side2 => exact HC0_0.out)
 (case side3 => exact (Kd.C_below HR0_1.out HB.out))
 (case side4 => exact HC0_1.out)
 (case side5 => exact (Kd.C_below HR0_2.out HB.out))
 (case side6 => exact HC0_2.out)
 rintro e w24 ⟨rfl, hb⟩
 refine ⟨_, rfl, ?_⟩
 replace BK239 := K_ (blk_below BK239.out hb)
 replace BK241 := K_ (blk_below BK241.out hb)
 replace HB := K_ (below_step HB.out hb)
 clear hb
 skip
 skip
 skip
 refine hK.out _ _ ⟨(blk_cell BK241.out 0).trans rfl, (blk_cell BK241.out 1).trans rfl, (blk_cell BK241.out 2).trans rfl, (blk_cell BK239.out 0).trans rfl, (blk_cell BK239.out 1).trans rfl, (blk_cell BK239.out 2).trans rfl, ((HB.out.cell (World.block_lt_of_cell? w _ hw242_0)).trans hw242_0), ((HB.out.cell (World.block_lt_of_cell? w _ hw244_0)).trans hw244_0), ((HB.out.cell (World.block_lt_of_cell? w _ hw245_0)).trans hw245_0)⟩ (fun hHeld => ?_)
 clear hK K
 refine norm_ (a' := ?_) ?_ ?_
 rotate_left
 ·show Act.put _ (some 21) _ = _
  simp only [P_, i64_w, i32_w]
  rfl
 refine pure_ (i := 19) (N := some 30) (v := ?_) (a' := ?_) (M_ 22 1048575) rfl rfl (any_of HT_.out (by kernel_rfl)) (fun _ _ _ h => h) (Or.inl ⟨by rfl, ?_⟩) ?_ ?_
 rotate_left
 ·intro w'
  go_simp
  with_reducible rfl
 rotate_left
 ·simp only [P_, i64_w, i32_w]
  rfl
 refine pure_ (i := 20) (N := some 31) (v := ?_) (a' := ?_) (M_ 22 2097151) rfl rfl (any_of HT_.out (by kernel_rfl)) (fun _ _ _ h => h) (Or.inl ⟨by rfl, ?_⟩) ?_ ?_
 rotate_left
 ·intro w'
  go_simp
  with_reducible rfl
 rotate_left
 ·simp only [P_, i64_w, i32_w]
  rfl
 refine pure_ (i := 21) (N := some 4) (v := ?_) (a' := ?_) (M_ 22 4194303) rfl rfl (any_of HT_.out (by kernel_rfl)) (fun _ _ _ h => h) (Or.inl ⟨by rfl, ?_⟩) ?_ ?_
 rotate_left
 ·intro w'
  go_simp
  with_reducible rfl
 rotate_left
 ·simp only [P_, i64_w, i32_w]
  rfl
 refine done_ (done_of HT_.out (by kernel_rfl)) ?_
 try go_wp2
 go_ret
 exact ⟨rfl, HB.out⟩

/-! ### spec_l1copy: function 56 -/
def spec_l1copy.l0 : Nat → List (S35) → Int → Int → List Int → List (S35) → List Int → Option (List Int × (List (S35)) × List Int)
 | 0, _, _, _, _, _, _ => none
 | k + 1, x20, x21, x22, x249000, x249001, x249002 => if x22 < x21 then (if 0 ≤ x22 then (if x22 < (x20.length : Int) then ((some (([] : List Int) : List Int)).bind fun y258 => (if y258.length + ((rd_T35 x20 x22).f1).length < 17592186044416 then (if x249001.length < 3518437208883 then (spec_l1copy.l0 k x20 x21 (wrap64 (x22 + 1)) x249000 (x249001 ++ [(⟨(rd_T35 x20 x22).f0, (y258 ++ ((rd_T35 x20 x22).f1)), (rd_T35 x20 x22).f2⟩ : S35)]) x249002) else (none)) else (none))) else (none)) else (none)) else (some (x249000, x249001, x249002))
def spec_l1copy.f (k : Nat) (l0_0 : List Int) (l0_1 : List (S35)) (l0_2 : List Int) : Option (List Int × (List (S35)) × List Int) := if ([] : List Int).length + l0_0.length < 17592186044416 then (if ([] : List Int).length + l0_2.length < 17592186044416 then (spec_l1copy.l0 k l0_1 (l0_1.length : Int) 0 (([] : List Int) ++ l0_0) ([] : List (S35)) (([] : List Int) ++ l0_2)) else (none)) else (none)
theorem spec_l1copy.mono_l : ∀ k, (∀ y0 y1 y2 y3 y4 y5, LeO (spec_l1copy.l0 k y0 y1 y2 y3 y4 y5) (spec_l1copy.l0 (k + 1) y0 y1 y2 y3 y4 y5))
 | 0 => fun _ _ _ _ _ _ r h => by simp [spec_l1copy.l0] at h
 | k + 1 => by
  have ih0 := spec_l1copy.mono_l k
  ·intro y0 y1 y2 y3 y4 y5
   unfold spec_l1copy.l0
   repeat' with_reducible first | exact ih0 _ _ _ _ _ _ | exact LeO.refl _ | exact LeO.none _ | refine LeO.ite ?_ ?_ | refine LeO.bind ?_ (fun _ => ?_)
theorem spec_l1copy.mono : ∀ a0 a1 a2 k, LeO (spec_l1copy.f k a0 a1 a2) (spec_l1copy.f (k + 1) a0 a1 a2) := by
 intro a0 a1 a2 k
 have ih0 := spec_l1copy.mono_l k
 unfold spec_l1copy.f
 repeat' with_reducible first | exact ih0 _ _ _ _ _ _ | exact LeO.refl _ | exact LeO.none _ | refine LeO.ite ?_ ?_ | refine LeO.bind ?_ (fun _ => ?_)
set_option maxHeartbeats 8000000 in
set_option maxRecDepth 100000 in
theorem spec_l1copy.calls (k : Nat) (A0_0 : Option Addr) (c0_0 : Nat) (l0_0 : List Int) (A0_1 : Option Addr) (c0_1 : Nat) (l0_1 : List (S35)) (A0_2 : Option Addr) (c0_2 : Nat) (l0_2 : List Int) (r1 : List Int) (r2 : List (S35)) (r3 : List Int) (w : World) (hr0_0 : Kd.C (Kd.int .i64) w A0_0 l0_0.length l0_0) (hc0_0 : l0_0.length ≤ c0_0) (hr0_1 : Kd.C k35 w A0_1 l0_1.length l0_1) (hc0_1 : l0_1.length ≤ c0_1) (hr0_2 : Kd.C (Kd.int .i64) w A0_2 l0_2.length l0_2) (hc0_2 : l0_2.length ≤ c0_2) (h : spec_l1copy.f k l0_0 l0_1 l0_2 = some (r1, r2, r3)) :
  Calls Try.prog 56 #[.agg #[.slice A0_0 l0_0.length c0_0, .slice A0_1 l0_1.length c0_1, .slice A0_2 l0_2.length c0_2]] w fun e w' => ∃ v0_ v1_ v2_ : Value, e = .returned (.agg #[v0_, v1_, v2_]) ∧ Kd.R (Kd.int .i64) 3 w' w.heap.size (fun k_ => X_ k_ v2_) v0_ r1 ∧ Kd.S k35 35 w' w.heap.size (fun k_ => X_ k_ v0_ ∧ X_ k_ v2_) v1_ r2 ∧ Kd.R (Kd.int .i64) 3 w' w.heap.size (fun k_ => X_ k_ v0_) v2_ r3 ∧ Below w.heap.size w w' := by
 have hu26 := Try.underlying26
 have hu35 := Try.underlying35
 have HR0_0 := K_ hr0_0
 have HC0_0 := K_ hc0_0
 clear hr0_0 hc0_0
 have HR0_1 := K_ hr0_1
 have HC0_1 := K_ hc0_1
 clear hr0_1 hc0_1
 have HR0_2 := K_ hr0_2
 have HC0_2 := K_ hc0_2
 clear hr0_2 hc0_2
 have HB := K_ (Below.refl w.heap.size w)
 unfold spec_l1copy.f at h
 have H := h
 clear h
 replace H := pn_ H
 obtain ⟨c2, H⟩ := H
 have LMc2 := K_ c2
 clear c2
 obtain ⟨y249, hy249⟩ : ∃ y_ : List Int, y_ = (([] : List Int) ++ l0_0) := ⟨_, rfl⟩
 rw [← hy249] at H
 have Ny249 := K_ hy249
 clear hy249
 replace H := pn_ H
 obtain ⟨c3, H⟩ := H
 have LMc3 := K_ c3
 clear c3
 obtain ⟨y252, hy252⟩ : ∃ y_ : List Int, y_ = (([] : List Int) ++ l0_2) := ⟨_, rfl⟩
 rw [← hy252] at H
 have Ny252 := K_ hy252
 clear hy252
 have H' := K_ H
 clear H
 go_enter Try.func56, Try.ntmps56
 go_wp2_with (first | ((with_reducible refine gate_dst (N := 1) rfl ?_); refine box_event (by rfl) (N := 1) (by rfl) (cs := #[.slice A0_0 l0_0.length c0_0, .slice A0_1 l0_1.length c0_1, .slice A0_2 l0_2.length c0_2]) (t := 26) (by go_simp; try rfl) ?_; intro gb246 hg w4 hbox hb; have BK246 := K_ (hbox); have GW246 := ge_ hg HB.out; have GE246 := ge_ hg HB.out; replace HB := K_ (below_step HB.out hb); clear hb hbox hg) | ((with_reducible refine gate_dst (N := 2) rfl ?_); refine box_event (by rfl) (N := 2) (by rfl) (cs := #[.slice none 0 0, .slice none 0 0, .slice none 0 0]) (t := 26) (by go_simp; try rfl) ?_; intro gb247 hg w5 hbox hb; have BK247 := K_ (hbox); have GW247 := ge_ hg HB.out; have GE247 := ge_ hg HB.out; have NB246_247 := nl_ hg BK246.out; have NB247_246 := ng_ hg BK246.out; replace BK246 := K_ (blk_below BK246.out hb); replace HB := K_ (below_step HB.out hb); clear hb hbox hg) | ((with_reducible refine gate_dst (N := 3) rfl ?_); refine box_event (by rfl) (N := 3) (by rfl) (cs := #[.slice none 0 0, .slice none 0 0, .slice none 0 0]) (t := 26) (by go_simp; try rfl) ?_; intro gb248 hg w6 hbox hb; have BK248 := K_ (hbox); have GW248 := ge_ hg HB.out; have GE248 := ge_ hg HB.out; have NB246_248 := nl_ hg BK246.out; have NB248_246 := ng_ hg BK246.out; have NB247_248 := nl_ hg BK247.out; have NB248_247 := ng_ hg BK247.out; replace BK246 := K_ (blk_below BK246.out hb); replace BK247 := K_ (blk_below BK247.out hb); replace HB := K_ (below_step HB.out hb); clear hb hbox hg; have hnb7 := NB248_246.out; have hnc7 := NB246_248.out; have hnb8 := NB248_247.out; have hnc8 := NB247_248.out; obtain ⟨hcz9_0, hcz9_1, hcz9_2, hfz9_0, hfz9_1, hfz9_2⟩ := blkf3_ BK248.out; have hnb10 := NB246_247.out; have hnc10 := NB247_246.out; obtain ⟨hcz11_0, hcz11_1, hcz11_2, hfz11_0, hfz11_1, hfz11_2⟩ := blkf3_ BK246.out) | ((with_reducible refine gate_builtin (b := .append) (xs := #[.tmp 8, .tmp 10]) rfl ?_); at_builtin; refine Kd.R_append_rows (Kd.int .i64) (w0 := w) w.heap.size rfl (.tmp 8) (.tmp 10) 23 3 (.int .i64 0) 8 rfl Try.underlying23 info3 rfl (by decide) (by omega) (.slice none 0 0) ([] : List Int) l0_0 _ _ _ (fun _ => True) (fun _ => False) rfl rfl ?aO ?aR (fun _ _ h => h) (fun _ h => h.elim) ?aF ?aB ?aS ?aL ?_; (case aR => exact (Kd.C_below HR0_0.out HB.out)); (case aB => exact HB.out); (case aF => exact (fun _ _ => trivial)); (case aO => exact ((Kd.R_nil _ _ _ _ (fun _ => True)))); (case aS => exact (below_size HB.out)); (case aL => have := LMc2.out; omega); intro v250 w12 ho hb hg hat; rw [← Ny249.out] at ho; have HO251 := K_ (ho); replace BK246 := K_ (blk_grown BK246.out hg (by simp [Value.ownBlock])); replace BK247 := K_ (blk_grown BK247.out hg (by simp [Value.ownBlock])); replace BK248 := K_ (blk_grown BK248.out hg (by simp [Value.ownBlock])); replace HB := K_ (hb); clear ho hb hg hat; obtain ⟨Ao13, co13, eo13⟩ := Kd.R_slice HO251.out; subst eo13; obtain ⟨hcz14_0, hcz14_1, hcz14_2, hfz14_0, hfz14_1, hfz14_2⟩ := blkf3_ BK248.out; obtain ⟨hcz15_0, hcz15_1, hcz15_2, hfz15_0, hfz15_1, hfz15_2⟩ := blkf3_ BK246.out) | ((with_reducible refine gate_builtin (b := .append) (xs := #[.tmp 14, .tmp 16]) rfl ?_); at_builtin; refine Kd.R_append_rows (Kd.int .i64) (w0 := w) w.heap.size rfl (.tmp 14) (.tmp 16) 23 3 (.int .i64 0) 8 rfl Try.underlying23 info3 rfl (by decide) (by omega) (.slice none 0 0) ([] : List Int) l0_2 _ _ _ (fun k_ => X_ k_ (.slice Ao13 y249.length co13)) (fun _ => False) rfl rfl ?aO ?aR (fun _ _ h => h) (fun _ h => h.elim) ?aF ?aB ?aS ?aL ?_; (case aR => exact Kd.C_below HR0_2.out (by repeat (first | exact HB.out | refine below_set ?_ GE246.out | refine below_set ?_ GE247.out | refine below_set ?_ GE248.out))); (case aB => exact (by repeat (first | exact HB.out | refine below_set ?_ GE246.out | refine below_set ?_ GE247.out | refine below_set ?_ GE248.out))); (case aF => exact (fun k_ hk => Kd.fresh' (Kd.R_lt (by exact (Kd.R_mono (Kd.R_far (p := ⟨gb248, 0, none⟩) (Kd.R_types HO251.out BK248.out (by decide)) (fun _ hk => hk.2) (.slice Ao13 y249.length co13)) (fun _ h_ => h_.1)))) k_ hk)); (case aO => exact ((Kd.R_nil _ _ _ _ (fun k_ => X_ k_ (.slice Ao13 y249.length co13))))); (case aS => exact (below_size (by repeat (first | exact HB.out | refine below_set ?_ GE246.out | refine below_set ?_ GE247.out | refine below_set ?_ GE248.out)))); (case aL => have := LMc3.out; omega); intro v253 w16 ho hb hg hat; rw [← Ny252.out] at ho; have HO254 := K_ (ho); replace BK246 := K_ (blk_grown (g := gb246) (o := .cells #[.slice A0_0 l0_0.length c0_0, .slice A0_1 l0_1.length c0_1, .slice A0_2 l0_2.length c0_2] 26 (0, 0)) (by refine blk_far ?_ NB246_248.out _; exact BK246.out) hg (by simp [Value.ownBlock])); replace BK247 := K_ (blk_grown (g := gb247) (o := .cells #[.slice none 0 0, .slice none 0 0, .slice none 0 0] 26 (0, 0)) (by refine blk_far ?_ NB247_248.out _; exact BK247.out) hg (by simp [Value.ownBlock])); replace HO251 := K_ (Kd.R_after (Kd.R_apart_nil (by exact (Kd.R_mono (Kd.R_far (p := ⟨gb248, 0, none⟩) (Kd.R_types HO251.out BK248.out (by decide)) (fun _ hk => hk.2) (.slice Ao13 y249.length co13)) (fun _ h_ => h_.1)))) hg hat); replace BK248 := K_ (blk_grown (g := gb248) (o := .cells #[.slice Ao13 y249.length co13, .slice none 0 0, .slice none 0 0] 26 (0, 0)) (by refine blk_put (cs := #[.slice none 0 0, .slice none 0 0, .slice none 0 0]) ?_ 0 _ rfl; exact BK248.out) hg (by simp [Value.ownBlock])); replace HB := K_ (hb); clear ho hb hg hat; obtain ⟨Ao17, co17, eo17⟩ := Kd.R_slice HO254.out; subst eo17; obtain ⟨hcz18_0, hcz18_1, hcz18_2, hfz18_0, hfz18_1, hfz18_2⟩ := blkf3_ BK248.out; obtain ⟨hcz19_0, hcz19_1, hcz19_2, hfz19_0, hfz19_1, hfz19_2⟩ := blkf3_ BK246.out))
 go_loopg [22] k (fun kq v22 w' => ∃ (x22_1 : Int) (x249001_1 : List (S35)) (u249001 : Value), v22 = .int .i64 x22_1 ∧ Aside0 (spec_l1copy.l0 kq l0_1 (l0_1.length : Int) x22_1 y249 x249001_1 y252 = some (r1, r2, r3)) ∧ Aside0 (kq ≤ k) ∧ Aside0 (Kd.R (Kd.int .i64) 3 w' w.heap.size (fun k_ => some k_ ≠ ((.slice Ao17 y252.length co17) : Value).ownBlock) (.slice Ao13 y249.length co13) y249) ∧ Aside0 (Kd.S k35 35 w' w.heap.size (fun k_ => some k_ ≠ ((.slice Ao13 y249.length co13) : Value).ownBlock ∧ some k_ ≠ ((.slice Ao17 y252.length co17) : Value).ownBlock) u249001 x249001_1) ∧ Aside0 (Kd.R (Kd.int .i64) 3 w' w.heap.size (fun k_ => some k_ ≠ ((.slice Ao13 y249.length co13) : Value).ownBlock) (.slice Ao17 y252.length co17) y252) ∧ Aside0 (w'.heap[gb246]? = some (.cells #[(.slice A0_0 l0_0.length c0_0), (.slice A0_1 l0_1.length c0_1), (.slice A0_2 l0_2.length c0_2)] 26 (0, 0))) ∧ Aside0 (w'.heap[gb247]? = some (.cells #[(.slice none 0 0), (.slice none 0 0), (.slice none 0 0)] 26 (0, 0))) ∧ Aside0 (w'.heap[gb248]? = some (.cells #[(.slice Ao13 y249.length co13), u249001, (.slice Ao17 y252.length co17)] 26 (0, 0))) ∧ Aside0 (Below w.heap.size w w'))
 case atStart => exact ⟨(0), (([] : List (S35))), (.slice none 0 0), rfl, H', ⟨Nat.le_refl _⟩, ⟨by exact Kd.R_mono (Kd.R_far (p := ⟨gb248, 2, none⟩) (Kd.R_types HO251.out BK248.out (by decide)) (fun _ hk => hk.2) (.slice Ao17 y252.length co17)) (fun _ hk => hk.1.2)⟩, ⟨Kd.S_nil _ _ _ _ _⟩, ⟨by exact Kd.R_mono (Kd.R_far (p := ⟨gb248, 2, none⟩) (Kd.R_types HO254.out BK248.out (by decide)) (fun _ hk => hk.2) (.slice Ao17 y252.length co17)) (fun _ hk => hk.1)⟩, ⟨by refine blk_far ?_ NB246_248.out _; exact BK246.out⟩, ⟨by refine blk_far ?_ NB247_248.out _; exact BK247.out⟩, ⟨by refine blk_put (cs := #[.slice Ao13 y249.length co13, .slice none 0 0, .slice none 0 0]) ?_ 2 _ rfl; exact BK248.out⟩, ⟨by repeat (first | exact HB.out | refine below_set ?_ GE246.out | refine below_set ?_ GE247.out | refine below_set ?_ GE248.out)⟩⟩
 case round =>
  clear H'
  clear hcz11_0 hcz11_1 hcz11_2 hcz14_0 hcz14_1 hcz14_2 hcz15_0 hcz15_1 hcz15_2 hcz18_0 hcz18_1 hcz18_2 hcz19_0 hcz19_1 hcz19_2 hcz9_0 hcz9_1 hcz9_2 hfz11_0 hfz11_1 hfz11_2 hfz14_0 hfz14_1 hfz14_2 hfz15_0 hfz15_1 hfz15_2 hfz18_0 hfz18_1 hfz18_2 hfz19_0 hfz19_1 hfz19_2 hfz9_0 hfz9_1 hfz9_2
  obtain ⟨x22_1, x249001_1, u249001, rfl, HA, HK1, HO_249000, HO_249001, HO_249002, BK246, BK247, BK248, HB⟩ := hrel
  cases gk with
  | zero => exact absurd HA.out (by simp [spec_l1copy.l0])
  | succ k1 =>
   have H := HA.out
   clear HA
   simp only [spec_l1copy.l0] at H
   replace H := ds_ H
   rcases H with ⟨c20b0, H⟩ | ⟨c20b0, H⟩
   case inr =>
    simp only [Option.some.injEq, Prod.mk.injEq] at H
    obtain ⟨rfl, rfl, rfl⟩ := H
    have hnb50 := NB248_246.out
    have hnc50 := NB246_248.out
    have hnb51 := NB248_247.out
    have hnc51 := NB247_248.out
    obtain ⟨hcz52_0, hcz52_1, hcz52_2, hfz52_0, hfz52_1, hfz52_2⟩ := blkf3_ BK248.out
    have hnb53 := NB247_246.out
    have hnc53 := NB246_247.out
    obtain ⟨hcz54_0, hcz54_1, hcz54_2, hfz54_0, hfz54_1, hfz54_2⟩ := blkf3_ BK247.out
    obtain ⟨Ao55, co55, eo55⟩ := Kd.S_slice HO_249001.out
    subst eo55
    go_wp2
    refine bodyPost_ret (results_cell_row rfl _ _ gb247 26 #[.slice Ao13 y249.length co13, .slice Ao55 x249001_1.length co55, .slice Ao17 y252.length co17] (0, 0) _ rfl (by refine blk_put (cs := #[.slice Ao13 y249.length co13, .slice Ao55 x249001_1.length co55, .slice none 0 0]) ?_ 2 _ rfl; refine blk_put (cs := #[.slice Ao13 y249.length co13, .slice none 0 0, .slice none 0 0]) ?_ 1 _ rfl; refine blk_put (cs := #[.slice none 0 0, .slice none 0 0, .slice none 0 0]) ?_ 0 _ rfl; exact BK247.out) Try.underlying26 rfl (by kernel_rfl)) rfl ?_
    exact ⟨_, _, _, rfl, by exact Kd.R_mono (Kd.R_far (p := ⟨gb247, 2, none⟩) (Kd.R_far (p := ⟨gb247, 1, none⟩) (Kd.R_far (p := ⟨gb247, 0, none⟩) (Kd.R_types HO_249000.out BK247.out (by decide)) (fun _ hk => hk.2) (.slice Ao13 y249.length co13)) (fun _ hk => hk.2) (.slice Ao55 x249001_1.length co55)) (fun _ hk => hk.2) (.slice Ao17 y252.length co17)) (fun _ hk => hk.1), by exact Kd.S_mono (Kd.S_far (p := ⟨gb247, 2, none⟩) (Kd.S_far (p := ⟨gb247, 1, none⟩) (Kd.S_far (p := ⟨gb247, 0, none⟩) (Kd.S_types HO_249001.out BK247.out (by decide)) (fun _ hk => hk.2) (.slice Ao13 y249.length co13)) (fun _ hk => hk.2) (.slice Ao55 x249001_1.length co55)) (fun _ hk => hk.2) (.slice Ao17 y252.length co17)) (fun _ hk => ⟨hk.1.1, hk.1.2⟩), by exact Kd.R_mono (Kd.R_far (p := ⟨gb247, 2, none⟩) (Kd.R_far (p := ⟨gb247, 1, none⟩) (Kd.R_far (p := ⟨gb247, 0, none⟩) (Kd.R_types HO_249002.out BK247.out (by decide)) (fun _ hk => hk.2) (.slice Ao13 y249.length co13)) (fun _ hk => hk.2) (.slice Ao55 x249001_1.length co55)) (fun _ hk => hk.2) (.slice Ao17 y252.length co17)) (fun _ hk => hk.1), by repeat (first | exact HB.out | refine below_set ?_ GE246.out | refine below_set ?_ GE247.out | refine below_set ?_ GE248.out)⟩
   replace H := dn_ H
   obtain ⟨c21b0, H⟩ := H
   replace H := dn_ H
   obtain ⟨c22b0, H⟩ := H
   replace H := nm_ H
   obtain ⟨y258, Ny258, H⟩ := H
   replace H := pn_ H
   obtain ⟨c23, H⟩ := H
   have LMc23 := K_ c23
   clear c23
   obtain ⟨y261, hy261⟩ : ∃ y_ : List Int, y_ = (y258 ++ ((rd_T35 l0_1 x22_1).f1)) := ⟨_, rfl⟩
   rw [← hy261] at H
   have Ny261 := K_ hy261
   clear hy261
   replace H := pn_ H
   obtain ⟨c24, H⟩ := H
   have LMc24 := K_ c24
   clear c24
   obtain ⟨y264, hy264⟩ : ∃ y_ : List (S35), y_ = (x249001_1 ++ [(⟨(rd_T35 l0_1 x22_1).f0, y261, (rd_T35 l0_1 x22_1).f2⟩ : S35)]) := ⟨_, rfl⟩
   rw [← hy264] at H
   have Ny264 := K_ hy264
   clear hy264
   have H' := K_ H
   clear H
   have p255 : 0 ≤ (x22_1 : Int) := of_decide_eq_true (by assumption)
   have q255 : x22_1 < (l0_1.length : Int) := of_decide_eq_true (by assumption)
   obtain ⟨ad255, A255_1, c255_1, e255, hx255_0, hx255_1, hx255_2, hl255_1, hi255_1⟩ := at_T35 HR0_1.out x22_1 p255 q255
   cases e255
   replace hx255_0 := (HB.out.cell (World.block_lt_of_cell? w _ hx255_0)).trans hx255_0
   replace hx255_1 := (HB.out.cell (World.block_lt_of_cell? w _ hx255_1)).trans hx255_1
   replace hx255_2 := (HB.out.cell (World.block_lt_of_cell? w _ hx255_2)).trans hx255_2
   have HR255_1 := K_ hi255_1
   have HC255_1 := K_ hl255_1
   clear hi255_1 hl255_1
   replace p255 := eq_true p255
   replace q255 := eq_true q255
   go_wp2_with (first | ((with_reducible refine gate_dst (N := 5) rfl ?_); refine box_event (by rfl) (N := 5) (by rfl) (cs := #[.int .i64 0, .slice none 0 0, .int .i64 0]) (t := 35) (by go_simp; try rfl) ?_; intro gb256 hg w25 hbox hb; have BK256 := K_ (hbox); have GW256 := ge_ hg HB.out; have GE256 := ge_ hg HB.out; have NB246_256 := nl_ hg BK246.out; have NB256_246 := ng_ hg BK246.out; have NB247_256 := nl_ hg BK247.out; have NB256_247 := ng_ hg BK247.out; have NB248_256 := nl_ hg BK248.out; have NB256_248 := ng_ hg BK248.out; replace HO_249000 := K_ (Kd.R_below HO_249000.out hb); replace HO_249001 := K_ (Kd.S_below (Kd.S_elderB HO_249001.out gb256 (Nat.le_of_eq hg.symm)) hb); replace HO_249002 := K_ (Kd.R_below HO_249002.out hb); replace BK246 := K_ (blk_below BK246.out hb); replace BK247 := K_ (blk_below BK247.out hb); replace BK248 := K_ (blk_below BK248.out hb); replace HB := K_ (below_step HB.out hb); clear hb hbox hg; have hnb26 := NB256_246.out; have hnc26 := NB246_256.out; have hnb27 := NB256_247.out; have hnc27 := NB247_256.out; have hnb28 := NB256_248.out; have hnc28 := NB248_256.out; obtain ⟨hcz29_0, hcz29_1, hcz29_2, hfz29_0, hfz29_1, hfz29_2⟩ := blkf3_ BK256.out) | ((with_reducible refine gate_dst (N := 6) rfl ?_); refine box_event (by rfl) (N := 6) (by rfl) (cs := #[.int .i64 0, .slice none 0 0, .int .i64 0]) (t := 35) (by go_simp; try rfl) ?_; intro gb257 hg w30 hbox hb; have BK257 := K_ (hbox); have GW257 := K_ ((by rw [hg]; exact (below_size (by repeat (first | exact HB.out | refine below_set ?_ GE246.out | refine below_set ?_ GE247.out | refine below_set ?_ GE248.out | refine below_set ?_ GE256.out))) : w.heap.size ≤ gb257)); have GE257 := K_ ((by rw [hg]; exact (below_size (by repeat (first | exact HB.out | refine below_set ?_ GE246.out | refine below_set ?_ GE247.out | refine below_set ?_ GE248.out | refine below_set ?_ GE256.out))) : w.heap.size ≤ gb257)); have NB246_257 := K_ ((by rw [hg]; exact Nat.ne_of_lt (blk_lt (g := gb246) (o := .cells #[.slice A0_0 l0_0.length c0_0, .slice (some ad255) l0_1.length c0_1, .slice A0_2 l0_2.length c0_2] 26 (0, 0)) (by refine blk_far ?_ NB246_256.out _; refine blk_far ?_ NB246_256.out _; refine blk_far ?_ NB246_256.out _; exact BK246.out)) : gb246 ≠ gb257)); have NB257_246 := K_ ((by rw [hg]; exact Nat.ne_of_gt (blk_lt (g := gb246) (o := .cells #[.slice A0_0 l0_0.length c0_0, .slice (some ad255) l0_1.length c0_1, .slice A0_2 l0_2.length c0_2] 26 (0, 0)) (by refine blk_far ?_ NB246_256.out _; refine blk_far ?_ NB246_256.out _; refine blk_far ?_ NB246_256.out _; exact BK246.out)) : gb257 ≠ gb246)); have NB247_257 := K_ ((by rw [hg]; exact Nat.ne_of_lt (blk_lt (g := gb247) (o := .cells #[.slice none 0 0, .slice none 0 0, .slice none 0 0] 26 (0, 0)) (by refine blk_far ?_ NB247_256.out _; refine blk_far ?_ NB247_256.out _; refine blk_far ?_ NB247_256.out _; exact BK247.out)) : gb247 ≠ gb257)); have NB257_247 := K_ ((by rw [hg]; exact Nat.ne_of_gt (blk_lt (g := gb247) (o := .cells #[.slice none 0 0, .slice none 0 0, .slice none 0 0] 26 (0, 0)) (by refine blk_far ?_ NB247_256.out _; refine blk_far ?_ NB247_256.out _; refine blk_far ?_ NB247_256.out _; exact BK247.out)) : gb257 ≠ gb247)); have NB248_257 := K_ ((by rw [hg]; exact Nat.ne_of_lt (blk_lt (g := gb248) (o := .cells #[.slice Ao13 y249.length co13, u249001, .slice Ao17 y252.length co17] 26 (0, 0)) (by refine blk_far ?_ NB248_256.out _; refine blk_far ?_ NB248_256.out _; refine blk_far ?_ NB248_256.out _; exact BK248.out)) : gb248 ≠ gb257)); have NB257_248 := K_ ((by rw [hg]; exact Nat.ne_of_gt (blk_lt (g := gb248) (o := .cells #[.slice Ao13 y249.length co13, u249001, .slice Ao17 y252.length co17] 26 (0, 0)) (by refine blk_far ?_ NB248_256.out _; refine blk_far ?_ NB248_256.out _; refine blk_far ?_ NB248_256.out _; exact BK248.out)) : gb257 ≠ gb248)); have NB256_257 := K_ ((by rw [hg]; exact Nat.ne_of_lt (blk_lt (g := gb256) (o := .cells #[.int .i64 ((rd_T35 l0_1 x22_1).f0), .slice A255_1 ((rd_T35 l0_1 x22_1).f1).length c255_1, .int .i64 ((rd_T35 l0_1 x22_1).f2)] 35 (0, 0)) (by refine blk_put (cs := #[.int .i64 ((rd_T35 l0_1 x22_1).f0), .slice A255_1 ((rd_T35 l0_1 x22_1).f1).length c255_1, .int .i64 0]) ?_ 2 _ rfl; refine blk_put (cs := #[.int .i64 ((rd_T35 l0_1 x22_1).f0), .slice none 0 0, .int .i64 0]) ?_ 1 _ rfl; refine blk_put (cs := #[.int .i64 0, .slice none 0 0, .int .i64 0]) ?_ 0 _ rfl; exact BK256.out)) : gb256 ≠ gb257)); have NB257_256 := K_ ((by rw [hg]; exact Nat.ne_of_gt (blk_lt (g := gb256) (o := .cells #[.int .i64 ((rd_T35 l0_1 x22_1).f0), .slice A255_1 ((rd_T35 l0_1 x22_1).f1).length c255_1, .int .i64 ((rd_T35 l0_1 x22_1).f2)] 35 (0, 0)) (by refine blk_put (cs := #[.int .i64 ((rd_T35 l0_1 x22_1).f0), .slice A255_1 ((rd_T35 l0_1 x22_1).f1).length c255_1, .int .i64 0]) ?_ 2 _ rfl; refine blk_put (cs := #[.int .i64 ((rd_T35 l0_1 x22_1).f0), .slice none 0 0, .int .i64 0]) ?_ 1 _ rfl; refine blk_put (cs := #[.int .i64 0, .slice none 0 0, .int .i64 0]) ?_ 0 _ rfl; exact BK256.out)) : gb257 ≠ gb256)); replace HO_249000 := K_ (Kd.R_below (by exact (Kd.R_mono (Kd.R_far (p := ⟨gb256, 2, none⟩) (Kd.R_far (p := ⟨gb256, 1, none⟩) (Kd.R_far (p := ⟨gb256, 0, none⟩) (Kd.R_types HO_249000.out BK256.out (by decide)) (fun _ hk => hk.2) (.int .i64 ((rd_T35 l0_1 x22_1).f0))) (fun _ hk => hk.2) (.slice A255_1 ((rd_T35 l0_1 x22_1).f1).length c255_1)) (fun _ hk => hk.2) (.int .i64 ((rd_T35 l0_1 x22_1).f2))) (fun _ h_ => h_.1))) hb); replace HO_249001 := K_ (Kd.S_below (Kd.S_elderB (by exact (Kd.S_mono (Kd.S_far (p := ⟨gb256, 2, none⟩) (Kd.S_far (p := ⟨gb256, 1, none⟩) (Kd.S_far (p := ⟨gb256, 0, none⟩) (Kd.S_mono HO_249001.out (fun k_ hk => (⟨hk, hk.2⟩ : _ ∧ k_ ≠ gb256))) (fun _ hk => hk.2) (.int .i64 ((rd_T35 l0_1 x22_1).f0))) (fun _ hk => hk.2) (.slice A255_1 ((rd_T35 l0_1 x22_1).f1).length c255_1)) (fun _ hk => hk.2) (.int .i64 ((rd_T35 l0_1 x22_1).f2))) (fun _ h_ => h_.1))) gb257 (Nat.le_of_eq hg.symm)) hb); replace HO_249002 := K_ (Kd.R_below (by exact (Kd.R_mono (Kd.R_far (p := ⟨gb256, 2, none⟩) (Kd.R_far (p := ⟨gb256, 1, none⟩) (Kd.R_far (p := ⟨gb256, 0, none⟩) (Kd.R_types HO_249002.out BK256.out (by decide)) (fun _ hk => hk.2) (.int .i64 ((rd_T35 l0_1 x22_1).f0))) (fun _ hk => hk.2) (.slice A255_1 ((rd_T35 l0_1 x22_1).f1).length c255_1)) (fun _ hk => hk.2) (.int .i64 ((rd_T35 l0_1 x22_1).f2))) (fun _ h_ => h_.1))) hb); replace BK246 := K_ (blk_below (g := gb246) (o := .cells #[.slice A0_0 l0_0.length c0_0, .slice (some ad255) l0_1.length c0_1, .slice A0_2 l0_2.length c0_2] 26 (0, 0)) (by refine blk_far ?_ NB246_256.out _; refine blk_far ?_ NB246_256.out _; refine blk_far ?_ NB246_256.out _; exact BK246.out) hb); replace BK247 := K_ (blk_below (g := gb247) (o := .cells #[.slice none 0 0, .slice none 0 0, .slice none 0 0] 26 (0, 0)) (by refine blk_far ?_ NB247_256.out _; refine blk_far ?_ NB247_256.out _; refine blk_far ?_ NB247_256.out _; exact BK247.out) hb); replace BK248 := K_ (blk_below (g := gb248) (o := .cells #[.slice Ao13 y249.length co13, u249001, .slice Ao17 y252.length co17] 26 (0, 0)) (by refine blk_far ?_ NB248_256.out _; refine blk_far ?_ NB248_256.out _; refine blk_far ?_ NB248_256.out _; exact BK248.out) hb); replace BK256 := K_ (blk_below (g := gb256) (o := .cells #[.int .i64 ((rd_T35 l0_1 x22_1).f0), .slice A255_1 ((rd_T35 l0_1 x22_1).f1).length c255_1, .int .i64 ((rd_T35 l0_1 x22_1).f2)] 35 (0, 0)) (by refine blk_put (cs := #[.int .i64 ((rd_T35 l0_1 x22_1).f0), .slice A255_1 ((rd_T35 l0_1 x22_1).f1).length c255_1, .int .i64 0]) ?_ 2 _ rfl; refine blk_put (cs := #[.int .i64 ((rd_T35 l0_1 x22_1).f0), .slice none 0 0, .int .i64 0]) ?_ 1 _ rfl; refine blk_put (cs := #[.int .i64 0, .slice none 0 0, .int .i64 0]) ?_ 0 _ rfl; exact BK256.out) hb); replace HB := K_ (below_step (by repeat (first | exact HB.out | refine below_set ?_ GE246.out | refine below_set ?_ GE247.out | refine below_set ?_ GE248.out | refine below_set ?_ GE256.out)) hb); clear hb hbox hg; have hnb31 := NB257_246.out; have hnc31 := NB246_257.out; have hnb32 := NB257_247.out; have hnc32 := NB247_257.out; have hnb33 := NB257_248.out; have hnc33 := NB248_257.out; have hnb34 := NB257_256.out; have hnc34 := NB256_257.out; obtain ⟨hcz35_0, hcz35_1, hcz35_2, hfz35_0, hfz35_1, hfz35_2⟩ := blkf3_ BK257.out) | ((with_reducible refine gate_dst (N := 27) rfl ?_); refine Kd.R_lit (Kd.int .i64) _ 3 ?hg (N := 27) ?hd (xs := ([] : List Int)) (inner := []) (ok := fun _ => True) (okp := fun _ => True) ?hr ?hp (fun _ hk => hk) trivial (Below.refl _ _) (Nat.le_refl _) (by simp) ?_; (case hd => rfl); (case hg => rfl); (case hr => go_simp; try rfl); (case hp => exact (Reps.none _ _)); intro v259 w36 ho37 hb hg_ hnew_; clear hg_ hnew_; (first | rw [← Ny258.out] at ho37 | (simp only [Int.reduceToNat] at ho37; rw [← Ny258.out] at ho37)); have HO260 := K_ (Kd.R_lower (Kd.R_new' (Kd.R_new' ho37 (Kd.R_lt (by exact (Kd.R_mono (Kd.R_far (p := ⟨gb257, 2, none⟩) (Kd.R_far (p := ⟨gb257, 1, none⟩) (Kd.R_far (p := ⟨gb257, 0, none⟩) (Kd.R_types HO_249000.out BK257.out (by decide)) (fun _ hk => hk.2) (.int .i64 ((rd_T35 l0_1 x22_1).f0))) (fun _ hk => hk.2) (.slice A255_1 ((rd_T35 l0_1 x22_1).f1).length c255_1)) (fun _ hk => hk.2) (.int .i64 ((rd_T35 l0_1 x22_1).f2))) (fun _ h_ => h_.1))))) (Kd.R_lt (by exact (Kd.R_mono (Kd.R_far (p := ⟨gb257, 2, none⟩) (Kd.R_far (p := ⟨gb257, 1, none⟩) (Kd.R_far (p := ⟨gb257, 0, none⟩) (Kd.R_types HO_249002.out BK257.out (by decide)) (fun _ hk => hk.2) (.int .i64 ((rd_T35 l0_1 x22_1).f0))) (fun _ hk => hk.2) (.slice A255_1 ((rd_T35 l0_1 x22_1).f1).length c255_1)) (fun _ hk => hk.2) (.int .i64 ((rd_T35 l0_1 x22_1).f2))) (fun _ h_ => h_.1))))) (below_size (by repeat (first | exact HB.out | refine below_set ?_ GE246.out | refine below_set ?_ GE247.out | refine below_set ?_ GE248.out | refine below_set ?_ GE256.out | refine below_set ?_ GE257.out)))); replace HO_249000 := K_ (Kd.R_elder' (by exact (Kd.R_mono (Kd.R_far (p := ⟨gb257, 2, none⟩) (Kd.R_far (p := ⟨gb257, 1, none⟩) (Kd.R_far (p := ⟨gb257, 0, none⟩) (Kd.R_types HO_249000.out BK257.out (by decide)) (fun _ hk => hk.2) (.int .i64 ((rd_T35 l0_1 x22_1).f0))) (fun _ hk => hk.2) (.slice A255_1 ((rd_T35 l0_1 x22_1).f1).length c255_1)) (fun _ hk => hk.2) (.int .i64 ((rd_T35 l0_1 x22_1).f2))) (fun _ h_ => h_.1))) (Kd.R_base ho37) hb); replace HO_249001 := K_ (Kd.S_elder' (by exact (Kd.S_mono (Kd.S_far (p := ⟨gb257, 2, none⟩) (Kd.S_far (p := ⟨gb257, 1, none⟩) (Kd.S_far (p := ⟨gb257, 0, none⟩) (Kd.S_mono HO_249001.out (fun k_ hk => (⟨hk, hk.2⟩ : _ ∧ k_ ≠ gb257))) (fun _ hk => hk.2) (.int .i64 ((rd_T35 l0_1 x22_1).f0))) (fun _ hk => hk.2) (.slice A255_1 ((rd_T35 l0_1 x22_1).f1).length c255_1)) (fun _ hk => hk.2) (.int .i64 ((rd_T35 l0_1 x22_1).f2))) (fun _ h_ => h_.1))) (Kd.R_base ho37) hb); replace HO_249002 := K_ (Kd.R_elder' (by exact (Kd.R_mono (Kd.R_far (p := ⟨gb257, 2, none⟩) (Kd.R_far (p := ⟨gb257, 1, none⟩) (Kd.R_far (p := ⟨gb257, 0, none⟩) (Kd.R_types HO_249002.out BK257.out (by decide)) (fun _ hk => hk.2) (.int .i64 ((rd_T35 l0_1 x22_1).f0))) (fun _ hk => hk.2) (.slice A255_1 ((rd_T35 l0_1 x22_1).f1).length c255_1)) (fun _ hk => hk.2) (.int .i64 ((rd_T35 l0_1 x22_1).f2))) (fun _ h_ => h_.1))) (Kd.R_base ho37) hb); replace BK246 := K_ (blk_below (g := gb246) (o := .cells #[.slice A0_0 l0_0.length c0_0, .slice (some ad255) l0_1.length c0_1, .slice A0_2 l0_2.length c0_2] 26 (0, 0)) (by refine blk_far ?_ NB246_257.out _; refine blk_far ?_ NB246_257.out _; refine blk_far ?_ NB246_257.out _; exact BK246.out) hb); replace BK247 := K_ (blk_below (g := gb247) (o := .cells #[.slice none 0 0, .slice none 0 0, .slice none 0 0] 26 (0, 0)) (by refine blk_far ?_ NB247_257.out _; refine blk_far ?_ NB247_257.out _; refine blk_far ?_ NB247_257.out _; exact BK247.out) hb); replace BK248 := K_ (blk_below (g := gb248) (o := .cells #[.slice Ao13 y249.length co13, u249001, .slice Ao17 y252.length co17] 26 (0, 0)) (by refine blk_far ?_ NB248_257.out _; refine blk_far ?_ NB248_257.out _; refine blk_far ?_ NB248_257.out _; exact BK248.out) hb); replace BK256 := K_ (blk_below (g := gb256) (o := .cells #[.int .i64 ((rd_T35 l0_1 x22_1).f0), .slice A255_1 ((rd_T35 l0_1 x22_1).f1).length c255_1, .int .i64 ((rd_T35 l0_1 x22_1).f2)] 35 (0, 0)) (by refine blk_far ?_ NB256_257.out _; refine blk_far ?_ NB256_257.out _; refine blk_far ?_ NB256_257.out _; exact BK256.out) hb); replace BK257 := K_ (blk_below (g := gb257) (o := .cells #[.int .i64 ((rd_T35 l0_1 x22_1).f0), .slice A255_1 ((rd_T35 l0_1 x22_1).f1).length c255_1, .int .i64 ((rd_T35 l0_1 x22_1).f2)] 35 (0, 0)) (by refine blk_put (cs := #[.int .i64 ((rd_T35 l0_1 x22_1).f0), .slice A255_1 ((rd_T35 l0_1 x22_1).f1).length c255_1, .int .i64 0]) ?_ 2 _ rfl; refine blk_put (cs := #[.int .i64 ((rd_T35 l0_1 x22_1).f0), .slice none 0 0, .int .i64 0]) ?_ 1 _ rfl; refine blk_put (cs := #[.int .i64 0, .slice none 0 0, .int .i64 0]) ?_ 0 _ rfl; exact BK257.out) hb); replace HB := K_ (below_step (by repeat (first | exact HB.out | refine below_set ?_ GE246.out | refine below_set ?_ GE247.out | refine below_set ?_ GE248.out | refine below_set ?_ GE256.out | refine below_set ?_ GE257.out)) hb); clear hb ho37; obtain ⟨hcz38_0, hcz38_1, hcz38_2, hfz38_0, hfz38_1, hfz38_2⟩ := blkf3_ BK256.out) | ((with_reducible refine gate_builtin (b := .append) (xs := #[.tmp 27, .tmp 29]) rfl ?_); at_builtin; refine Kd.R_append_rows (Kd.int .i64) (w0 := w) w.heap.size rfl (.tmp 27) (.tmp 29) 23 3 (.int .i64 0) 8 rfl Try.underlying23 info3 rfl (by decide) (by omega) v259 y258 ((rd_T35 l0_1 x22_1).f1) _ _ _ (fun k_ => X_ k_ (.slice Ao13 y249.length co13) ∧ X_ k_ (.slice Ao17 y252.length co17)) (fun _ => False) rfl rfl ?aO ?aR (fun _ _ h => h) (fun _ h => h.elim) ?aF ?aB ?aS ?aL ?_; (case aR => exact (Kd.C_below HR255_1.out HB.out)); (case aB => exact HB.out); (case aF => exact (fun k_ hk => ⟨Kd.fresh' (Kd.R_lt HO_249000.out) k_ hk, Kd.fresh' (Kd.R_lt HO_249002.out) k_ hk⟩)); (case aO => exact (by exact Kd.R_mono HO260.out (fun _ hk => ⟨hk.1.2, hk.2⟩))); (case aS => exact (below_size HB.out)); (case aL => have := LMc23.out; omega); intro v262 w39 ho hb hg hat; rw [← Ny261.out] at ho; have HO263 := K_ (ho); replace HO_249000 := K_ (Kd.R_after (ok := (fun k_ => X_ k_ (.slice Ao17 y252.length co17))) HO_249000.out hg hat); replace HO_249001 := K_ (Kd.S_after (ok := (fun k_ => X_ k_ (.slice Ao13 y249.length co13) ∧ X_ k_ (.slice Ao17 y252.length co17) ∧ k_ ≠ gb256 ∧ k_ ≠ gb257)) (by exact Kd.S_mono HO_249001.out (fun _ hk => ⟨⟨hk.1.1.1.1, ⟨hk.1.1.1.2, ⟨hk.1.1.2, hk.1.2⟩⟩⟩, hk.2⟩)) hg hat); replace HO_249002 := K_ (Kd.R_after (ok := (fun k_ => X_ k_ (.slice Ao13 y249.length co13))) HO_249002.out hg hat); replace BK246 := K_ (blk_grown BK246.out hg (Kd.R_ne HO260.out BK246.out (by decide))); replace BK247 := K_ (blk_grown BK247.out hg (Kd.R_ne HO260.out BK247.out (by decide))); replace BK248 := K_ (blk_grown BK248.out hg (Kd.R_ne HO260.out BK248.out (by decide))); replace BK256 := K_ (blk_grown BK256.out hg (Kd.R_ne HO260.out BK256.out (by decide))); replace BK257 := K_ (blk_grown BK257.out hg (Kd.R_ne HO260.out BK257.out (by decide))); replace HB := K_ (hb); clear HO260; clear ho hb hg hat; obtain ⟨Ao40, co40, eo40⟩ := Kd.R_slice HO263.out; subst eo40; obtain ⟨hcz41_0, hcz41_1, hcz41_2, hfz41_0, hfz41_1, hfz41_2⟩ := blkf3_ BK257.out) | ((with_reducible refine gate_store (t := 23) (p := 31) rfl ?_); refine store_event (t := 23) (p := 31) (v := ?vo_w42) (w1 := (w39.setCell ⟨gb257, 1, none⟩ (.slice Ao40 y261.length co40))) ?hg ?ho ?hn ?hr ?_; (case ho => rfl); (case hg => rfl); (case hn => rfl); (case hr => go_simp; try rfl); intro w42 hw; replace HO_249000 : Aside0 (Kd.R (Kd.int .i64) 3 w42 w.heap.size (fun k_ => X_ k_ (.slice Ao17 y252.length co17) ∧ X_ k_ (.slice Ao40 y261.length co40)) (.slice Ao13 y249.length co13) y249) := ⟨(by rw [hw]; exact (by exact Kd.R_mono (Kd.R_far (p := ⟨gb257, 1, none⟩) (Kd.R_types HO_249000.out BK257.out (by decide)) (fun _ hk => hk.2) (.slice Ao40 y261.length co40)) (fun _ hk => ⟨hk.1.1, hk.1.2⟩)))⟩; replace HO_249001 : Aside0 (Kd.S k35 35 w42 w.heap.size (fun k_ => X_ k_ (.slice Ao13 y249.length co13) ∧ X_ k_ (.slice Ao17 y252.length co17) ∧ X_ k_ (.slice Ao40 y261.length co40) ∧ k_ ≠ gb256 ∧ k_ ≠ gb257) u249001 x249001_1) := ⟨(by rw [hw]; exact (by exact Kd.S_mono (Kd.S_far (p := ⟨gb257, 1, none⟩) (Kd.S_mono HO_249001.out (fun k_ hk => (⟨hk, hk.1.2.2.2⟩ : _ ∧ k_ ≠ gb257))) (fun _ hk => hk.2) (.slice Ao40 y261.length co40)) (fun _ hk => ⟨hk.1.1.1, ⟨hk.1.1.2.1, ⟨hk.1.2, ⟨hk.1.1.2.2.1, hk.1.1.2.2.2⟩⟩⟩⟩)))⟩; replace HO_249002 : Aside0 (Kd.R (Kd.int .i64) 3 w42 w.heap.size (fun k_ => X_ k_ (.slice Ao13 y249.length co13) ∧ X_ k_ (.slice Ao40 y261.length co40)) (.slice Ao17 y252.length co17) y252) := ⟨(by rw [hw]; exact (by exact Kd.R_mono (Kd.R_far (p := ⟨gb257, 1, none⟩) (Kd.R_types HO_249002.out BK257.out (by decide)) (fun _ hk => hk.2) (.slice Ao40 y261.length co40)) (fun _ hk => ⟨hk.1.1, hk.1.2⟩)))⟩; replace HO263 : Aside0 (Kd.R (Kd.int .i64) 3 w42 w.heap.size (fun k_ => X_ k_ (.slice Ao13 y249.length co13) ∧ X_ k_ (.slice Ao17 y252.length co17)) (.slice Ao40 y261.length co40) y261) := ⟨(by rw [hw]; exact (by exact Kd.R_mono (Kd.R_far (p := ⟨gb257, 1, none⟩) (Kd.R_types HO263.out BK257.out (by decide)) (fun _ hk => hk.2) (.slice Ao40 y261.length co40)) (fun _ hk => ⟨hk.1.1, hk.1.2⟩)))⟩; replace BK246 : Aside0 (w42.heap[gb246]? = some (.cells #[.slice A0_0 l0_0.length c0_0, .slice (some ad255) l0_1.length c0_1, .slice A0_2 l0_2.length c0_2] 26 (0, 0))) := ⟨(by rw [hw]; exact (by refine blk_far ?_ NB246_257.out _; exact BK246.out))⟩; replace BK247 : Aside0 (w42.heap[gb247]? = some (.cells #[.slice none 0 0, .slice none 0 0, .slice none 0 0] 26 (0, 0))) := ⟨(by rw [hw]; exact (by refine blk_far ?_ NB247_257.out _; exact BK247.out))⟩; replace BK248 : Aside0 (w42.heap[gb248]? = some (.cells #[.slice Ao13 y249.length co13, u249001, .slice Ao17 y252.length co17] 26 (0, 0))) := ⟨(by rw [hw]; exact (by refine blk_far ?_ NB248_257.out _; exact BK248.out))⟩; replace BK256 : Aside0 (w42.heap[gb256]? = some (.cells #[.int .i64 ((rd_T35 l0_1 x22_1).f0), .slice A255_1 ((rd_T35 l0_1 x22_1).f1).length c255_1, .int .i64 ((rd_T35 l0_1 x22_1).f2)] 35 (0, 0))) := ⟨(by rw [hw]; exact (by refine blk_far ?_ NB256_257.out _; exact BK256.out))⟩; replace BK257 : Aside0 (w42.heap[gb257]? = some (.cells #[.int .i64 ((rd_T35 l0_1 x22_1).f0), .slice Ao40 y261.length co40, .int .i64 ((rd_T35 l0_1 x22_1).f2)] 35 (0, 0))) := ⟨(by rw [hw]; exact (by refine blk_put (cs := #[.int .i64 ((rd_T35 l0_1 x22_1).f0), .slice A255_1 ((rd_T35 l0_1 x22_1).f1).length c255_1, .int .i64 ((rd_T35 l0_1 x22_1).f2)]) ?_ 1 _ rfl; exact BK257.out))⟩; replace HB : Aside0 (Below w.heap.size w w42) := ⟨(by rw [hw]; exact (by repeat (first | exact HB.out | refine below_set ?_ GE246.out | refine below_set ?_ GE247.out | refine below_set ?_ GE248.out | refine below_set ?_ GE256.out | refine below_set ?_ GE257.out)))⟩; clear hw; have hnb43 := NB248_246.out; have hnc43 := NB246_248.out; have hnb44 := NB248_247.out; have hnc44 := NB247_248.out; obtain ⟨hcz45_0, hcz45_1, hcz45_2, hfz45_0, hfz45_1, hfz45_2⟩ := blkf3_ BK248.out; obtain ⟨hcz46_0, hcz46_1, hcz46_2, hfz46_0, hfz46_1, hfz46_2⟩ := blkf3_ BK257.out) | ((with_reducible refine gate_builtin (b := .append) (xs := #[.tmp 33, .tmp 35]) rfl ?_); at_builtin; refine Kd.S_append k35 (w0 := w) w.heap.size rfl (.tmp 33) (.tmp 35) 24 35 (.agg #[(.int .i64 0), (.slice none 0 0), (.int .i64 0)]) 40 rfl Try.underlying24 info35 rfl (by decide) (by omega) u249001 x249001_1 (⟨(rd_T35 l0_1 x22_1).f0, y261, (rd_T35 l0_1 x22_1).f2⟩ : S35) [.int .i64 ((rd_T35 l0_1 x22_1).f0), .slice Ao40 y261.length co40, .int .i64 ((rd_T35 l0_1 x22_1).f2)] (fun k_ => X_ k_ (.slice Ao13 y249.length co13) ∧ X_ k_ (.slice Ao17 y252.length co17) ∧ k_ ≠ gb256 ∧ k_ ≠ gb257) (fun k_ => some k_ = (.slice Ao40 y261.length co40 : Value).ownBlock) rfl rfl ?aP (fun k_ hk_ => ((Kd.R_mono (ok' := fun k_ => ((fun k_ => X_ k_ (.slice Ao13 y249.length co13) ∧ X_ k_ (.slice Ao17 y252.length co17) ∧ k_ ≠ gb256 ∧ k_ ≠ gb257)) k_ ∧ X_ k_ u249001) (Kd.R_types (Kd.R_types (Kd.R_apart' (HO263.out) (Kd.S_typed HO_249001.out) (by decide)) BK256.out (by decide)) BK257.out (by decide)) (fun k_ hk => ⟨⟨hk.1.1.1.1, ⟨hk.1.1.1.2, ⟨hk.1.2, hk.2⟩⟩⟩, hk.1.1.2⟩))).1 k_ hk_.symm) ?aF ?aO ?aB ?aS ?aL ?_; (case aP => exact k35_mkM _ _ _ (⟨(rd_T35 l0_1 x22_1).f0, y261, (rd_T35 l0_1 x22_1).f2⟩ : S35) (Kd.R_mono (Kd.R_tight rfl (Kd.R_mono (ok' := fun k_ => ((fun k_ => X_ k_ (.slice Ao13 y249.length co13) ∧ X_ k_ (.slice Ao17 y252.length co17) ∧ k_ ≠ gb256 ∧ k_ ≠ gb257)) k_ ∧ X_ k_ u249001) (Kd.R_types (Kd.R_types (Kd.R_apart' (HO263.out) (Kd.S_typed HO_249001.out) (by decide)) BK256.out (by decide)) BK257.out (by decide)) (fun k_ hk => ⟨⟨hk.1.1.1.1, ⟨hk.1.1.1.2, ⟨hk.1.2, hk.2⟩⟩⟩, hk.1.1.2⟩))) (fun _ h_ => h_))); (case aB => exact HB.out); (case aF => exact (fun k_ hk => ⟨Kd.fresh' (Kd.R_lt HO_249000.out) k_ hk, Kd.fresh' (Kd.R_lt HO_249002.out) k_ hk, Kd.freshB BK256.out k_ hk, Kd.freshB BK257.out k_ hk⟩)); (case aO => exact (by exact Kd.S_mono HO_249001.out (fun k_ hk => ⟨⟨hk.1, ⟨hk.2.1, ⟨hk.2.2.2.1, hk.2.2.2.2⟩⟩⟩, fun e_ => hk.2.2.1 e_⟩))); (case aS => exact (below_size HB.out)); (case aL => have := LMc24.out; omega); intro v265 w47 ho hb hg hat; rw [← Ny264.out] at ho; have HO266 := K_ (ho); replace HO_249000 := K_ (Kd.R_over' HO_249000.out (Kd.S_typed HO_249001.out) (by decide) hg); replace HO_249002 := K_ (Kd.R_over' HO_249002.out (Kd.S_typed HO_249001.out) (by decide) hg); replace BK246 := K_ (blk_grown BK246.out hg (Kd.S_ne HO_249001.out BK246.out (by decide))); replace BK247 := K_ (blk_grown BK247.out hg (Kd.S_ne HO_249001.out BK247.out (by decide))); replace BK248 := K_ (blk_grown BK248.out hg (Kd.S_ne HO_249001.out BK248.out (by decide))); replace BK256 := K_ (blk_grown BK256.out hg (Kd.S_away HO_249001.out (fun _ hk => hk.2.2.2.1))); replace BK257 := K_ (blk_grown BK257.out hg (Kd.S_away HO_249001.out (fun _ hk => hk.2.2.2.2))); replace HB := K_ (hb); clear HO_249001 HO263; clear ho hb hg hat; obtain ⟨Ao48, co48, eo48⟩ := Kd.S_slice HO266.out; subst eo48; obtain ⟨hcz49_0, hcz49_1, hcz49_2, hfz49_0, hfz49_1, hfz49_2⟩ := blkf3_ BK248.out))
   go_roundg k1
   case measure => have := HK1.out; omega
   case rel => exact ⟨(wrap64 (x22_1 + 1)), (y264), (.slice Ao48 y264.length co48), rfl, H', ⟨by have := HK1.out; omega⟩, ⟨by exact Kd.R_mono (Kd.R_far (p := ⟨gb248, 1, none⟩) (Kd.R_types HO_249000.out BK248.out (by decide)) (fun _ hk => hk.2) (.slice Ao48 y264.length co48)) (fun _ hk => hk.1.1)⟩, ⟨by exact Kd.S_mono (Kd.S_far (p := ⟨gb248, 1, none⟩) (Kd.S_types HO266.out BK248.out (by decide)) (fun _ hk => hk.2) (.slice Ao48 y264.length co48)) (fun _ hk => ⟨hk.1.1, hk.1.2.1⟩)⟩, ⟨by exact Kd.R_mono (Kd.R_far (p := ⟨gb248, 1, none⟩) (Kd.R_types HO_249002.out BK248.out (by decide)) (fun _ hk => hk.2) (.slice Ao48 y264.length co48)) (fun _ hk => hk.1.1)⟩, ⟨by refine blk_far ?_ NB246_248.out _; exact BK246.out⟩, ⟨by refine blk_far ?_ NB247_248.out _; exact BK247.out⟩, ⟨by refine blk_put (cs := #[.slice Ao13 y249.length co13, u249001, .slice Ao17 y252.length co17]) ?_ 1 _ rfl; exact BK248.out⟩, ⟨by repeat (first | exact HB.out | refine below_set ?_ GE246.out | refine below_set ?_ GE247.out | refine below_set ?_ GE248.out | refine below_set ?_ GE256.out | refine below_set ?_ GE257.out)⟩⟩
theorem spec_l1copy.row_wr_ {P : Program} {ops : Array Oper} {Q : Exit → Act → World → Prop} {o : Oper} {rest : List Oper} {a : Act} {W : World} (hgd : o.guard = none) (ty : TypeId) (x y : Operand) (ho : o.op = .store ty x y) (hN : o.dst = none) (g : Nat) (hx : a.eval x = .pointer (some ⟨g, 0, none⟩)) {c c' : Array Value} {t : Nat}
    (hy : a.eval y = .agg c') (hb : W.heap[g]? = some (.cells c t (0, 0))) (hi : (P.info? ty).map (·.size) = some c'.size) (hc : c.size = c'.size) (h1 : c'.all (·.oneCell') = true)
    (h : ∀ w', w'.heap[g]? = some (.cells c' t (0, 0)) → W.grownBy w' (some g) → wpList P ops Q rest a w') : wpList P ops Q (o :: rest) a W := by
  refine wpList_plain hgd fun K hK => ?_
  unfold Oper.wp
  have hr : (execOp a.eval o).run P W = .ok .skip (W.setRow g c') := by
    simp only [execOp, ho, hx, hy, Instr.storeAt, Instr.sureAddr, Sem.run_bind, Sem.run_pure, Result.andThen_ok, run_storeVar_row W g t ty c c' hb hi hc h1]
  rw [hr]
  show K (a.put o.dst undef) _
  rw [hN]
  exact hK _ _ (h _ (setRow_heap W g c c' t (0, 0) hb) ⟨rfl, rfl, rfl, by simp, fun i hi hn => setRow_other W g i c' (fun e => hn (by rw [e]))⟩)
section
variable {P : Program} {ops : Array Oper} {Q : Exit → Act → World → Prop} {S : World → Prop} {ds : List Nat}
/-- Number i, which yields in every world, comes up first. -/
theorem spec_l1copy.np_ {fuel : Nat} {l : Array Bool} {a a' : Act} {w : World} (i N : Nat) {oi : Oper} {v : Value} (hi : ops[i]? = some oi) (hN : oi.dst = some N) (hc : anyB .any ops l (l.setIfInBounds i true) i = true) (hQ : ∀ c a w, Q (.panic c) (a.put oi.dst v) w → Q (.panic c) a w)
    (hw : Region.wanted oi (yielded ops a.tmps) = true) (hv : ∀ w', (execOp a.eval oi).run P w' = .ok (.value v) w') (ha : a.put (some N) v = a') (h : wpAnyLast P .any ops Q S ds fuel (l.setIfInBounds i true) a' w) : wpAnyLast P .any ops Q S ds (fuel + 1) l a w :=
  pure_ _ hi hN hc hQ (.inl ⟨hw, hv⟩) ha h
/-- Number i, which yields wherever S holds (a load). -/
theorem spec_l1copy.nt_ {fuel : Nat} {l : Array Bool} {a a' : Act} {w : World} (hS : S w) (i N : Nat) {oi : Oper} {v : Value} (hi : ops[i]? = some oi) (hN : oi.dst = some N) (hc : takeB .any ops ds l (l.setIfInBounds i true) i = true) (hQ : ∀ c a w, Q (.panic c) (a.put oi.dst v) w → Q (.panic c) a w)
    (hw : Region.wanted oi (yielded ops a.tmps) = true) (hv : ∀ w', S w' → (execOp a.eval oi).run P w' = .ok (.value v) w') (ha : a.put (some N) v = a') (h : wpAnyLast P .any ops Q S ds fuel (l.setIfInBounds i true) a' w) : wpAnyLast P .any ops Q S ds (fuel + 1) l a w :=
  take_ _ hi hN hc hQ (.inl ⟨hw, hv⟩) hS ha h
/-- The region's last operation, a store, and out. -/
theorem spec_l1copy.nl_ {fuel : Nat} {l : Array Bool} {a : Act} {w : World} (i : Nat) (w1 : World) {oi : Oper} (hi : ops[i]? = some oi) (hN : oi.dst = none) (hc : readyB .any ops l (l.setIfInBounds i true) i = true) (hd : i ∈ ds) (hw : Region.wanted oi (yielded ops a.tmps) = true) (hr : (Region.ready .any ops (l.setIfInBounds i true) == []) = true)
    (hrun : (execOp a.eval oi).run P w = .ok .skip w1) (h : Q .normal a w1) : wpAnyLast P .any ops Q S ds (fuel + 1) l a w := by
  refine last_ (N := none) _ hi hN hc hd (fun K hK => ?_)
  refine skip_ hw hN hrun ?_
  exact hK.out _ _ (done_ hr h)
/-- An operation that comes up alone (a call, an append): S is shown behind it. -/
theorem spec_l1copy.no_ {fuel : Nat} {l : Array Bool} {a : Act} {w : World} (i N : Nat) {oi : Oper} (hi : ops[i]? = some oi) (hN : oi.dst = some N) (hc : readyB .any ops l (l.setIfInBounds i true) i = true) (hd : i ∉ ds)
    (h : ∀ K : Act → World → Prop, (∀ a' w', S w' → (S w' → wpAnyLast P .any ops Q S ds fuel (l.setIfInBounds i true) a' w') → K a' w') → if Region.wanted oi (yielded ops a.tmps) = true then Oper.wp P oi a w K Q else K (a.put (some N) undef) w) : wpAnyLast P .any ops Q S ds (fuel + 1) l a w :=
  one_ _ hi hN hc hd (fun K hK => h K hK.out)
theorem spec_l1copy.AP_ : (∀ (a : Act) (d : Nat) (v : Value), a.put (some d) v = { a with tmps := a.tmps.setIfInBounds d v }) ∧ (∀ (a : Act) (v : Value), a.put none v = a) ∧ (∀ (l : List Value) (i : Nat) (a : Value), l.toArray.setIfInBounds i a = (l.set i a).toArray) ∧ (∀ (x : Value) (l : List Value) (a : Value), (x :: l).set 0 a = a :: l) ∧ (∀ (x : Value) (l : List Value) (i : Nat) (a : Value), (x :: l).set (i + 1) a = x :: l.set i a) := ⟨fun _ _ _ => rfl, fun _ _ => rfl, fun l i a => List.setIfInBounds_toArray l i a, fun _ _ _ => rfl, fun _ _ _ _ => rfl⟩
end
theorem spec_l1copy.info26_ : (Try.prog.info? 26).map (·.size) = some 3 := by kernel_rfl
end Go.Proofs.Ytpbclogjoangfaa.Q
