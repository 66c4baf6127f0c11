-- Written by programs of this session (wip/drv.py, wip/mkclaim.py) over the kit's print; not trusted: Lean checks it.
import Derived.Test.YtpbclogjoangfaaFnBestQ0
import Derived.Test.YtpbclogjoangfaaFnBestQ1
namespace Go.Proofs.Ytpbclogjoangfaa.Q
open Go.RowKit Go.Proofs.YtpbclogjoangfaaW.PrintWords Go.Proofs.YtpbclogjoangfaaW.PrintLast Go.Proofs.YtpbclogjoangfaaW.PrintMore
attribute [local go_sem] max2_int min2_int max_two min_two max_three min_three max_four min_four   -- for this text's walks alone
set_option linter.unusedVariables false
set_option linter.unusedSimpArgs false

/-! ### spec_l1can: function 58 -/
def spec_l1can.f (k : Nat) (l0_0 : List Int) (l0_1 : List (S35)) (l0_2 : List Int) (a1 : Int) : Option (Bool) := if 0 ≤ a1 then (if a1 < (l0_1.length : Int) then (if (((rd_T35 l0_1 a1).f1).length : Int) = 0 then (some true) else (if 0 < (((rd_T35 l0_1 a1).f1).length : Int) then ((spec_l1there.f k l0_0 l0_1 l0_2 (rd ((rd_T35 l0_1 a1).f1) 0)).bind fun t243 => (if 0 ≤ (rd ((rd_T35 l0_1 a1).f1) 0) then (if (rd ((rd_T35 l0_1 a1).f1) 0) < (l0_0.length : Int) then (some (decide (t243 < (rd l0_0 (rd ((rd_T35 l0_1 a1).f1) 0))))) else (none)) else (none))) else (none))) else (none)) else (none)
theorem spec_l1can.mono : ∀ a0 a1 a2 a3 k, LeO (spec_l1can.f k a0 a1 a2 a3) (spec_l1can.f (k + 1) a0 a1 a2 a3) := by
 intro a0 a1 a2 a3 k
 unfold spec_l1can.f
 repeat' with_reducible first | exact spec_l1there.mono _ _ _ _ _ | exact LeO.refl _ | exact LeO.none _ | refine LeO.ite ?_ ?_ | refine LeO.bind ?_ (fun _ => ?_)
def spec_l1can.T2 : Bool × List (List Nat × List Nat) := (true, [([], []), ([0], [0]), ([1], [1]), ([2], [2]), ([3], [3]), ([4], [4]), ([4], [4]), ([6, 4], [4, 6]), ([7, 4], [4, 7]), ([8, 4], [4, 8]), ([5, 9, 4, 4], [4, 5, 9]), ([4], [4]), ([11, 4], [4, 11]), ([4], [4]), ([13, 4], [4, 13]), ([14, 4], [4, 14]), ([15, 4], [4, 15]), ([12, 16, 4], [4, 12, 16]), ([17, 4], [4, 17]), ([10, 18, 4], [4, 10, 18]), ([4, 19], [4, 19]), ([20, 10, 0, 1, 2, 3, 4, 5, 6, 7, 8, 9, 10, 11, 12, 13, 14, 15, 16, 17, 18, 19, 20], [20])])
def spec_l1can.B2 : List Nat := [0, 1, 3, 7, 15, 31, 31, 95, 223, 479, 1023, 31, 2079, 31, 8223, 24607, 57375, 129055, 260127, 524287, 1048575, 2097151]
theorem spec_l1can.tab2 : rtab .any (opsOf Try.f58 2) = spec_l1can.T2 := by kernel_rfl
theorem spec_l1can.bits2 : waitsOk spec_l1can.T2.2 spec_l1can.B2 = true := by kernel_rfl
set_option maxHeartbeats 8000000 in
set_option maxRecDepth 100000 in
theorem spec_l1can.calls (k : Nat) (A0_0 : Option Addr) (c0_0 : Nat) (l0_0 : List Int) (A0_1 : Option Addr) (c0_1 : Nat) (l0_1 : List (S35)) (A0_2 : Option Addr) (c0_2 : Nat) (l0_2 : List Int) (a1 : Int) (r : Bool) (w : World) (hr0_0 : Kd.C (Kd.int .i64) w A0_0 l0_0.length l0_0) (hc0_0 : l0_0.length ≤ c0_0) (hr0_1 : Kd.C k35 w A0_1 l0_1.length l0_1) (hc0_1 : l0_1.length ≤ c0_1) (hr0_2 : Kd.C (Kd.int .i64) w A0_2 l0_2.length l0_2) (hc0_2 : l0_2.length ≤ c0_2) (h : spec_l1can.f k l0_0 l0_1 l0_2 a1 = some r) :
  Calls Try.prog 58 #[.agg #[.slice A0_0 l0_0.length c0_0, .slice A0_1 l0_1.length c0_1, .slice A0_2 l0_2.length c0_2], .int .i64 a1] w fun e w' => e = .returned (.bool r) ∧ Below w.heap.size w w' := by
 have hu26 := Try.underlying26
 have hu35 := Try.underlying35
 have HR0_0 := K_ hr0_0
 have HC0_0 := K_ hc0_0
 clear hr0_0 hc0_0
 have HR0_1 := K_ hr0_1
 have HC0_1 := K_ hc0_1
 clear hr0_1 hc0_1
 have HR0_2 := K_ hr0_2
 have HC0_2 := K_ hc0_2
 clear hr0_2 hc0_2
 have HB := K_ (Below.refl w.heap.size w)
 unfold spec_l1can.f at h
 have H := h
 clear h
 replace H := dn_ H
 obtain ⟨c3b0, H⟩ := H
 replace H := dn_ H
 obtain ⟨c4b0, H⟩ := H
 replace H := ps_ H
 rcases H with ⟨c5, H⟩ | ⟨c5, H⟩
 case inl =>
  have c5b0 := beq_iff_eq.mpr c5
  have c5b1 := bne_eq_false_iff_eq.mpr c5
  clear c5
  obtain rfl := Option.some.inj H
  go_enter Try.func58, Try.ntmps58
  try go_wp2_with (first | ((with_reducible refine gate_dst (N := 2) rfl ?_); refine box_event (by rfl) (N := 2) (by rfl) (cs := #[.slice A0_0 l0_0.length c0_0, .slice A0_1 l0_1.length c0_1, .slice A0_2 l0_2.length c0_2]) (t := 26) (by go_simp; try rfl) ?_; intro gb239 hg w6 hbox hb; have BK239 := K_ (hbox); have GW239 := ge_ hg HB.out; have GE239 := ge_ hg HB.out; replace HB := K_ (below_step HB.out hb); clear hb hbox hg; obtain ⟨hcz7_0, hcz7_1, hcz7_2, hfz7_0, hfz7_1, hfz7_2⟩ := blkf3_ BK239.out; have p240 : 0 ≤ (a1 : Int) := of_decide_eq_true (by assumption); have q240 : a1 < (l0_1.length : Int) := of_decide_eq_true (by assumption); obtain ⟨ad240, A240_1, c240_1, e240, hx240_0, hx240_1, hx240_2, hl240_1, hi240_1⟩ := at_T35 HR0_1.out a1 p240 q240; cases e240; replace hx240_0 := (HB.out.cell (World.block_lt_of_cell? w _ hx240_0)).trans hx240_0; replace hx240_1 := (HB.out.cell (World.block_lt_of_cell? w _ hx240_1)).trans hx240_1; replace hx240_2 := (HB.out.cell (World.block_lt_of_cell? w _ hx240_2)).trans hx240_2; have HR240_1 := K_ hi240_1; have HC240_1 := K_ hl240_1; clear hi240_1 hl240_1; replace p240 := eq_true p240; replace q240 := eq_true q240) | ((with_reducible refine gate_dst (N := 5) rfl ?_); refine box_event (by rfl) (N := 5) (by rfl) (cs := #[.int .i64 0, .slice none 0 0, .int .i64 0]) (t := 35) (by go_simp; try rfl) ?_; intro gb241 hg w8 hbox hb; have BK241 := K_ (hbox); have GW241 := ge_ hg HB.out; have GE241 := ge_ hg HB.out; have NB239_241 := nl_ hg BK239.out; have NB241_239 := ng_ hg BK239.out; replace BK239 := K_ (blk_below BK239.out hb); replace HB := K_ (below_step HB.out hb); clear hb hbox hg; have hnb9 := NB241_239.out; have hnc9 := NB239_241.out; obtain ⟨hcz10_0, hcz10_1, hcz10_2, hfz10_0, hfz10_1, hfz10_2⟩ := blkf3_ BK241.out))
  have n0_ : Aside0 ((((w8.setCell ⟨gb241, 0, none⟩ (.int .i64 ((rd_T35 l0_1 a1).f0))).setCell ⟨gb241, 1, none⟩ (.slice A240_1 ((rd_T35 l0_1 a1).f1).length c240_1)).setCell ⟨gb241, 2, none⟩ (.int .i64 ((rd_T35 l0_1 a1).f2))).heap[gb239]? = some (.cells #[.slice A0_0 l0_0.length c0_0, .slice (some ad240) l0_1.length c0_1, .slice A0_2 l0_2.length c0_2] 26 (0, 0))) := ⟨by refine blk_far ?_ NB239_241.out _; refine blk_far ?_ NB239_241.out _; refine blk_far ?_ NB239_241.out _; exact BK239.out⟩
  have n1_ : Aside0 ((((w8.setCell ⟨gb241, 0, none⟩ (.int .i64 ((rd_T35 l0_1 a1).f0))).setCell ⟨gb241, 1, none⟩ (.slice A240_1 ((rd_T35 l0_1 a1).f1).length c240_1)).setCell ⟨gb241, 2, none⟩ (.int .i64 ((rd_T35 l0_1 a1).f2))).heap[gb241]? = some (.cells #[.int .i64 ((rd_T35 l0_1 a1).f0), .slice A240_1 ((rd_T35 l0_1 a1).f1).length c240_1, .int .i64 ((rd_T35 l0_1 a1).f2)] 35 (0, 0))) := ⟨by refine blk_put (cs := #[.int .i64 ((rd_T35 l0_1 a1).f0), .slice A240_1 ((rd_T35 l0_1 a1).f1).length c240_1, .int .i64 0]) ?_ 2 _ rfl; refine blk_put (cs := #[.int .i64 ((rd_T35 l0_1 a1).f0), .slice none 0 0, .int .i64 0]) ?_ 1 _ rfl; refine blk_put (cs := #[.int .i64 0, .slice none 0 0, .int .i64 0]) ?_ 0 _ rfl; exact BK241.out⟩
  have n2_ : Aside0 (Below w.heap.size w (((w8.setCell ⟨gb241, 0, none⟩ (.int .i64 ((rd_T35 l0_1 a1).f0))).setCell ⟨gb241, 1, none⟩ (.slice A240_1 ((rd_T35 l0_1 a1).f1).length c240_1)).setCell ⟨gb241, 2, none⟩ (.int .i64 ((rd_T35 l0_1 a1).f2)))) := ⟨by repeat (first | exact HB.out | refine below_set ?_ GE239.out | refine below_set ?_ GE241.out)⟩
  clear BK239
  clear BK241
  clear HB
  generalize (((w8.setCell ⟨gb241, 0, none⟩ (.int .i64 ((rd_T35 l0_1 a1).f0))).setCell ⟨gb241, 1, none⟩ (.slice A240_1 ((rd_T35 l0_1 a1).f1).length c240_1)).setCell ⟨gb241, 2, none⟩ (.int .i64 ((rd_T35 l0_1 a1).f2))) = w11 at n0_ n1_ n2_ ⊢
  have BK239 := n0_
  have BK241 := n1_
  have HB := n2_
  clear n0_ n1_ n2_
  replace BK239 := K_ (blk_drew BK239.out)
  replace BK241 := K_ (blk_drew BK241.out)
  replace HB := K_ (below_drew1 HB.out)
  refine start_ (n := 22) (S := fun w' => w'.cell? ⟨gb241, 0, none⟩ = some (.int .i64 ((rd_T35 l0_1 a1).f0)) ∧ w'.cell? ⟨gb241, 1, none⟩ = some (.slice A240_1 ((rd_T35 l0_1 a1).f1).length c240_1) ∧ w'.cell? ⟨gb241, 2, none⟩ = some (.int .i64 ((rd_T35 l0_1 a1).f2))) (ds := []) #[ff, ff, ff, ff, ff, ff, ff, ff, ff, ff, ff, ff, ff, ff, ff, ff, ff, ff, ff, ff, ff, ff] (by kernel_rfl) rfl rfl ⟨(blk_cell BK241.out 0).trans rfl, (blk_cell BK241.out 1).trans rfl, (blk_cell BK241.out 2).trans rfl⟩ (fun hHeld => ?_); refine with_tabW spec_l1can.tab2 spec_l1can.bits2 (fun HT_ HW_ => ?_)
  generalize w11.drew = w12 at BK239 BK241 HB hHeld ⊢
  refine pure_ (i := 0) (N := some 11) (v := ?_) (a' := ?_) (M_ 22 1) rfl rfl (any_of HT_.out (by kernel_rfl)) (fun _ _ _ h => h) (Or.inl ⟨by rfl, ?_⟩) ?_ ?_
  rotate_left
  ·intro w'
   go_simp
   with_reducible rfl
  rotate_left
  ·simp only [P_, i64_w, i32_w]
   rfl
  refine take_ (i := 1) (N := some 12) (v := ?_) (a' := ?_) (M_ 22 3) rfl rfl (take_ofW HT_.out HW_.out (by kernel_rfl)) (fun _ _ _ h => h) (Or.inl ⟨by rfl, ?_⟩) hHeld ?_ ?_
  rotate_left
  ·rintro w' ⟨s0, s1, s2⟩
   go_simp
   with_reducible rfl
  rotate_left
  ·simp only [P_, i64_w, i32_w]
   rfl
  refine pure_ (i := 2) (N := some 13) (v := ?_) (a' := ?_) (M_ 22 7) rfl rfl (any_of HT_.out (by kernel_rfl)) (fun _ _ _ h => h) (Or.inl ⟨by rfl, ?_⟩) ?_ ?_
  rotate_left
  ·intro w'
   go_simp
   with_reducible rfl
  rotate_left
  ·simp only [P_, i64_w, i32_w]
   rfl
  refine pure_ (i := 3) (N := some 14) (v := ?_) (a' := ?_) (M_ 22 15) rfl rfl (any_of HT_.out (by kernel_rfl)) (fun _ _ _ h => h) (Or.inl ⟨by rfl, ?_⟩) ?_ ?_
  rotate_left
  ·intro w'
   go_simp
   with_reducible rfl
  rotate_left
  ·simp only [P_, i64_w, i32_w]
   rfl
  refine pure_ (i := 4) (N := some 15) (v := ?_) (a' := ?_) (M_ 22 31) rfl rfl (any_of HT_.out (by kernel_rfl)) (fun _ _ _ h => h) (Or.inl ⟨by rfl, ?_⟩) ?_ ?_
  rotate_left
  ·intro w'
   go_simp
   with_reducible rfl
  rotate_left
  ·simp only [P_, i64_w, i32_w]
   rfl
  refine pure_ (i := 5) (N := some 16) (v := undef) (a' := ?_) (M_ 22 63) rfl rfl (any_of HT_.out (by kernel_rfl)) (fun _ _ _ h => h) (Or.inr ⟨by rfl, rfl⟩) ?_ ?_
  rotate_left
  ·simp only [P_, i64_w, i32_w]
   rfl
  refine pure_ (i := 6) (N := some 17) (v := undef) (a' := ?_) (M_ 22 127) rfl rfl (any_of HT_.out (by kernel_rfl)) (fun _ _ _ h => h) (Or.inr ⟨by rfl, rfl⟩) ?_ ?_
  rotate_left
  ·simp only [P_, i64_w, i32_w]
   rfl
  refine pure_ (i := 7) (N := some 18) (v := undef) (a' := ?_) (M_ 22 255) rfl rfl (any_of HT_.out (by kernel_rfl)) (fun _ _ _ h => h) (Or.inr ⟨by rfl, rfl⟩) ?_ ?_
  rotate_left
  ·simp only [P_, i64_w, i32_w]
   rfl
  refine pure_ (i := 8) (N := some 19) (v := undef) (a' := ?_) (M_ 22 511) rfl rfl (any_of HT_.out (by kernel_rfl)) (fun _ _ _ h => h) (Or.inr ⟨by rfl, rfl⟩) ?_ ?_
  rotate_left
  ·simp only [P_, i64_w, i32_w]
   rfl
  refine pure_ (i := 9) (N := some 20) (v := undef) (a' := ?_) (M_ 22 1023) rfl rfl (any_of HT_.out (by kernel_rfl)) (fun _ _ _ h => h) (Or.inr ⟨by rfl, rfl⟩) ?_ ?_
  rotate_left
  ·simp only [P_, i64_w, i32_w]
   rfl
  refine pure_ (i := 10) (N := some 21) (v := undef) (a' := ?_) (M_ 22 2047) rfl rfl (any_of HT_.out (by kernel_rfl)) (fun _ _ _ h => h) (Or.inr ⟨by rfl, rfl⟩) ?_ ?_
  rotate_left
  ·simp only [P_, i64_w, i32_w]
   rfl
  refine pure_ (i := 11) (N := some 22) (v := undef) (a' := ?_) (M_ 22 4095) rfl rfl (any_of HT_.out (by kernel_rfl)) (fun _ _ _ h => h) (Or.inr ⟨by rfl, rfl⟩) ?_ ?_
  rotate_left
  ·simp only [P_, i64_w, i32_w]
   rfl
  refine pure_ (i := 12) (N := some 23) (v := undef) (a' := ?_) (M_ 22 8191) rfl rfl (any_of HT_.out (by kernel_rfl)) (fun _ _ _ h => h) (Or.inr ⟨by rfl, rfl⟩) ?_ ?_
  rotate_left
  ·simp only [P_, i64_w, i32_w]
   rfl
  refine pure_ (i := 13) (N := some 24) (v := undef) (a' := ?_) (M_ 22 16383) rfl rfl (any_of HT_.out (by kernel_rfl)) (fun _ _ _ h => h) (Or.inr ⟨by rfl, rfl⟩) ?_ ?_
  rotate_left
  ·simp only [P_, i64_w, i32_w]
   rfl
  refine pure_ (i := 14) (N := some 25) (v := undef) (a' := ?_) (M_ 22 32767) rfl rfl (any_of HT_.out (by kernel_rfl)) (fun _ _ _ h => h) (Or.inr ⟨by rfl, rfl⟩) ?_ ?_
  rotate_left
  ·simp only [P_, i64_w, i32_w]
   rfl
  refine pure_ (i := 15) (N := some 26) (v := undef) (a' := ?_) (M_ 22 65535) rfl rfl (any_of HT_.out (by kernel_rfl)) (fun _ _ _ h => h) (Or.inr ⟨by rfl, rfl⟩) ?_ ?_
  rotate_left
  ·simp only [P_, i64_w, i32_w]
   rfl
  refine pure_ (i := 16) (N := some 27) (v := undef) (a' := ?_) (M_ 22 131071) rfl rfl (any_of HT_.out (by kernel_rfl)) (fun _ _ _ h => h) (Or.inr ⟨by rfl, rfl⟩) ?_ ?_
  rotate_left
  ·simp only [P_, i64_w, i32_w]
   rfl
  refine pure_ (i := 17) (N := some 28) (v := undef) (a' := ?_) (M_ 22 262143) rfl rfl (any_of HT_.out (by kernel_rfl)) (fun _ _ _ h => h) (Or.inr ⟨by rfl, rfl⟩) ?_ ?_
  rotate_left
  ·simp only [P_, i64_w, i32_w]
   rfl
  refine pure_ (i := 18) (N := some 29) (v := undef) (a' := ?_) (M_ 22 524287) rfl rfl (any_of HT_.out (by kernel_rfl)) (fun _ _ _ h => h) (Or.inr ⟨by rfl, rfl⟩) ?_ ?_
  rotate_left
  ·simp only [P_, i64_w, i32_w]
   rfl
  refine pure_ (i := 19) (N := some 30) (v := undef) (a' := ?_) (M_ 22 1048575) rfl rfl (any_of HT_.out (by kernel_rfl)) (fun _ _ _ h => h) (Or.inr ⟨by rfl, rfl⟩) ?_ ?_
  rotate_left
  ·simp only [P_, i64_w, i32_w]
   rfl
  refine pure_ (i := 20) (N := some 31) (v := ?_) (a' := ?_) (M_ 22 2097151) rfl rfl (any_of HT_.out (by kernel_rfl)) (fun _ _ _ h => h) (Or.inl ⟨by rfl, ?_⟩) ?_ ?_
  rotate_left
  ·intro w'
   go_simp
   with_reducible rfl
  rotate_left
  ·simp only [P_, i64_w, i32_w]
   rfl
  refine pure_ (i := 21) (N := some 4) (v := ?_) (a' := ?_) (M_ 22 4194303) rfl rfl (any_of HT_.out (by kernel_rfl)) (fun _ _ _ h => h) (Or.inl ⟨by rfl, ?_⟩) ?_ ?_
  rotate_left
  ·intro w'
   go_simp
   with_reducible rfl
  rotate_left
  ·simp only [P_, i64_w, i32_w]
   rfl
  refine done_ (done_of HT_.out (by kernel_rfl)) ?_
  try go_wp2
  go_ret
  exact ⟨rfl, HB.out⟩
 have c5b0 := beq_eq_false_iff_ne.mpr c5
 have c5b1 := bne_iff_ne.mpr c5
 have c5b2 : ¬ (((rd_T35 l0_1 a1).f1) = []) := fun h_ => c5 (by rw [h_]; rfl)
 replace H := pn_ H
 obtain ⟨c13, H⟩ := H
 have c13b0 := decide_eq_true c13
 have c13b1 : decide (0 < ((rd_T35 l0_1 a1).f1).length) = true := decide_eq_true (by omega)
 clear c13
 replace H := Option.bind_eq_some_iff.mp H
 obtain ⟨t243, A140, H⟩ := H
 try dsimp only at H
 have A14 := K_ A140
 clear A140
 replace H := dn_ H
 obtain ⟨c15b0, H⟩ := H
 replace H := dn_ H
 obtain ⟨c16b0, H⟩ := H
 obtain rfl := Option.some.inj H
 go_enter Try.func58, Try.ntmps58
 try go_wp2_with (first | ((with_reducible refine gate_dst (N := 2) rfl ?_); refine box_event (by rfl) (N := 2) (by rfl) (cs := #[.slice A0_0 l0_0.length c0_0, .slice A0_1 l0_1.length c0_1, .slice A0_2 l0_2.length c0_2]) (t := 26) (by go_simp; try rfl) ?_; intro gb239 hg w17 hbox hb; have BK239 := K_ (hbox); have GW239 := ge_ hg HB.out; have GE239 := ge_ hg HB.out; replace HB := K_ (below_step HB.out hb); clear hb hbox hg; obtain ⟨hcz18_0, hcz18_1, hcz18_2, hfz18_0, hfz18_1, hfz18_2⟩ := blkf3_ BK239.out; have p240 : 0 ≤ (a1 : Int) := of_decide_eq_true (by assumption); have q240 : a1 < (l0_1.length : Int) := of_decide_eq_true (by assumption); obtain ⟨ad240, A240_1, c240_1, e240, hx240_0, hx240_1, hx240_2, hl240_1, hi240_1⟩ := at_T35 HR0_1.out a1 p240 q240; cases e240; replace hx240_0 := (HB.out.cell (World.block_lt_of_cell? w _ hx240_0)).trans hx240_0; replace hx240_1 := (HB.out.cell (World.block_lt_of_cell? w _ hx240_1)).trans hx240_1; replace hx240_2 := (HB.out.cell (World.block_lt_of_cell? w _ hx240_2)).trans hx240_2; have HR240_1 := K_ hi240_1; have HC240_1 := K_ hl240_1; clear hi240_1 hl240_1; replace p240 := eq_true p240; replace q240 := eq_true q240) | ((with_reducible refine gate_dst (N := 5) rfl ?_); refine box_event (by rfl) (N := 5) (by rfl) (cs := #[.int .i64 0, .slice none 0 0, .int .i64 0]) (t := 35) (by go_simp; try rfl) ?_; intro gb241 hg w19 hbox hb; have BK241 := K_ (hbox); have GW241 := ge_ hg HB.out; have GE241 := ge_ hg HB.out; have NB239_241 := nl_ hg BK239.out; have NB241_239 := ng_ hg BK239.out; replace BK239 := K_ (blk_below BK239.out hb); replace HB := K_ (below_step HB.out hb); clear hb hbox hg; have hnb20 := NB241_239.out; have hnc20 := NB239_241.out; obtain ⟨hcz21_0, hcz21_1, hcz21_2, hfz21_0, hfz21_1, hfz21_2⟩ := blkf3_ BK241.out))
 have n0_ : Aside0 ((((w19.setCell ⟨gb241, 0, none⟩ (.int .i64 ((rd_T35 l0_1 a1).f0))).setCell ⟨gb241, 1, none⟩ (.slice A240_1 ((rd_T35 l0_1 a1).f1).length c240_1)).setCell ⟨gb241, 2, none⟩ (.int .i64 ((rd_T35 l0_1 a1).f2))).heap[gb239]? = some (.cells #[.slice A0_0 l0_0.length c0_0, .slice (some ad240) l0_1.length c0_1, .slice A0_2 l0_2.length c0_2] 26 (0, 0))) := ⟨by refine blk_far ?_ NB239_241.out _; refine blk_far ?_ NB239_241.out _; refine blk_far ?_ NB239_241.out _; exact BK239.out⟩
 have n1_ : Aside0 ((((w19.setCell ⟨gb241, 0, none⟩ (.int .i64 ((rd_T35 l0_1 a1).f0))).setCell ⟨gb241, 1, none⟩ (.slice A240_1 ((rd_T35 l0_1 a1).f1).length c240_1)).setCell ⟨gb241, 2, none⟩ (.int .i64 ((rd_T35 l0_1 a1).f2))).heap[gb241]? = some (.cells #[.int .i64 ((rd_T35 l0_1 a1).f0), .slice A240_1 ((rd_T35 l0_1 a1).f1).length c240_1, .int .i64 ((rd_T35 l0_1 a1).f2)] 35 (0, 0))) := ⟨by refine blk_put (cs := #[.int .i64 ((rd_T35 l0_1 a1).f0), .slice A240_1 ((rd_T35 l0_1 a1).f1).length c240_1, .int .i64 0]) ?_ 2 _ rfl; refine blk_put (cs := #[.int .i64 ((rd_T35 l0_1 a1).f0), .slice none 0 0, .int .i64 0]) ?_ 1 _ rfl; refine blk_put (cs := #[.int .i64 0, .slice none 0 0, .int .i64 0]) ?_ 0 _ rfl; exact BK241.out⟩
 have n2_ : Aside0 (Below w.heap.size w (((w19.setCell ⟨gb241, 0, none⟩ (.int .i64 ((rd_T35 l0_1 a1).f0))).setCell ⟨gb241, 1, none⟩ (.slice A240_1 ((rd_T35 l0_1 a1).f1).length c240_1)).setCell ⟨gb241, 2, none⟩ (.int .i64 ((rd_T35 l0_1 a1).f2)))) := ⟨by repeat (first | exact HB.out | refine below_set ?_ GE239.out | refine below_set ?_ GE241.out)⟩
 clear BK239
 clear BK241
 clear HB
 generalize (((w19.setCell ⟨gb241, 0, none⟩ (.int .i64 ((rd_T35 l0_1 a1).f0))).setCell ⟨gb241, 1, none⟩ (.slice A240_1 ((rd_T35 l0_1 a1).f1).length c240_1)).setCell ⟨gb241, 2, none⟩ (.int .i64 ((rd_T35 l0_1 a1).f2))) = w22 at n0_ n1_ n2_ ⊢
 have BK239 := n0_
 have BK241 := n1_
 have HB := n2_
 clear n0_ n1_ n2_
 replace BK239 := K_ (blk_drew BK239.out)
 replace BK241 := K_ (blk_drew BK241.out)
 replace HB := K_ (below_drew1 HB.out)
 have p242 : 0 ≤ (0 : Int) := (by omega)
 have q242 : 0 < (((rd_T35 l0_1 a1).f1).length : Int) := of_decide_eq_true (by assumption)
 obtain ⟨ad242, e242, hx242_0⟩ := Kd.at_int HR240_1.out 0 p242 q242
 have hw242_0 := hx242_0
 (try rw [show ((0 : Int)).toNat = 0 from rfl] at hw242_0)
 (try rw [show 0 * 1 = 0 from rfl] at hw242_0)
 (try rw [Addr.add_zero'] at hw242_0)
 cases e242
 have qi242 : (0 < ((rd_T35 l0_1 a1).f1).length) = True := eq_true (by omega)
 (try rw [show ((0 : Int)).toNat = 0 from rfl] at hx242_0)
 (try rw [Addr.add_zero'] at hx242_0)
 replace hx242_0 := (HB.out.cell (World.block_lt_of_cell? w _ hx242_0)).trans hx242_0
 replace p242 := eq_true p242
 replace q242 := eq_true q242
 have p244 : 0 ≤ (0 : Int) := (by omega)
 have q244 : 0 < (((rd_T35 l0_1 a1).f1).length : Int) := of_decide_eq_true (by assumption)
 obtain ⟨ad244, e244, hx244_0⟩ := Kd.at_int HR240_1.out 0 p244 q244
 have hw244_0 := hx244_0
 (try rw [show ((0 : Int)).toNat = 0 from rfl] at hw244_0)
 (try rw [show 0 * 1 = 0 from rfl] at hw244_0)
 (try rw [Addr.add_zero'] at hw244_0)
 obtain rfl : ad242 = ad244 := (by injection e244)
 have qi244 : (0 < ((rd_T35 l0_1 a1).f1).length) = True := eq_true (by omega)
 (try rw [show ((0 : Int)).toNat = 0 from rfl] at hx244_0)
 (try rw [Addr.add_zero'] at hx244_0)
 replace hx244_0 := (HB.out.cell (World.block_lt_of_cell? w _ hx244_0)).trans hx244_0
 replace p244 := eq_true p244
 replace q244 := eq_true q244
 have p245 : 0 ≤ ((rd ((rd_T35 l0_1 a1).f1) 0) : Int) := of_decide_eq_true (by assumption)
 have q245 : (rd ((rd_T35 l0_1 a1).f1) 0) < (l0_0.length : Int) := of_decide_eq_true (by assumption)
 obtain ⟨ad245, e245, hx245_0⟩ := Kd.at_int HR0_0.out (rd ((rd_T35 l0_1 a1).f1) 0) p245 q245
 have hw245_0 := hx245_0
 cases e245
 replace hx245_0 := (HB.out.cell (World.block_lt_of_cell? w _ hx245_0)).trans hx245_0
 replace p245 := eq_true p245
 replace q245 := eq_true q245
 refine start_ (n := 22) (S := fun w' => w'.cell? ⟨gb241, 0, none⟩ = some (.int .i64 ((rd_T35 l0_1 a1).f0)) ∧ w'.cell? ⟨gb241, 1, none⟩ = some (.slice (some ad242) ((rd_T35 l0_1 a1).f1).length c240_1) ∧ w'.cell? ⟨gb241, 2, none⟩ = some (.int .i64 ((rd_T35 l0_1 a1).f2)) ∧ w'.cell? ⟨gb239, 0, none⟩ = some (.slice (some ad245) l0_0.length c0_0) ∧ w'.cell? ⟨gb239, 1, none⟩ = some (.slice (some ad240) l0_1.length c0_1) ∧ w'.cell? ⟨gb239, 2, none⟩ = some (.slice A0_2 l0_2.length c0_2) ∧ w'.cell? ad242 = some (.int .i64 (rd ((rd_T35 l0_1 a1).f1) 0)) ∧ w'.cell? ad242 = some (.int .i64 (rd ((rd_T35 l0_1 a1).f1) 0)) ∧ w'.cell? (ad245.add ((rd ((rd_T35 l0_1 a1).f1) 0)).toNat) = some (.int .i64 (rd l0_0 (rd ((rd_T35 l0_1 a1).f1) 0)))) (ds := []) #[ff, ff, ff, ff, ff, ff, ff, ff, ff, ff, ff, ff, ff, ff, ff, ff, ff, ff, ff, ff, ff, ff] (by kernel_rfl) rfl rfl ⟨(blk_cell BK241.out 0).trans rfl, (blk_cell BK241.out 1).trans rfl, (blk_cell BK241.out 2).trans rfl, (blk_cell BK239.out 0).trans rfl, (blk_cell BK239.out 1).trans rfl, (blk_cell BK239.out 2).trans rfl, ((HB.out.cell (World.block_lt_of_cell? w _ hw242_0)).trans hw242_0), ((HB.out.cell (World.block_lt_of_cell? w _ hw244_0)).trans hw244_0), ((HB.out.cell (World.block_lt_of_cell? w _ hw245_0)).trans hw245_0)⟩ (fun hHeld => ?_); refine with_tabW spec_l1can.tab2 spec_l1can.bits2 (fun HT_ HW_ => ?_)
 generalize w22.drew = w23 at BK239 BK241 HB hx242_0 hx244_0 hx245_0 hHeld ⊢
 refine pure_ (i := 0) (N := some 11) (v := ?_) (a' := ?_) (M_ 22 1) rfl rfl (any_of HT_.out (by kernel_rfl)) (fun _ _ _ h => h) (Or.inl ⟨by rfl, ?_⟩) ?_ ?_
 rotate_left
 ·intro w'
  go_simp
  with_reducible rfl
 rotate_left
 ·simp only [P_, i64_w, i32_w]
  rfl
 refine take_ (i := 1) (N := some 12) (v := ?_) (a' := ?_) (M_ 22 3) rfl rfl (take_ofW HT_.out HW_.out (by kernel_rfl)) (fun _ _ _ h => h) (Or.inl ⟨by rfl, ?_⟩) hHeld ?_ ?_
 rotate_left
 ·rintro w' ⟨s0, s1, s2, s3, s4, s5, s6, s7, s8⟩
  go_simp
  with_reducible rfl
 rotate_left
 ·simp only [P_, i64_w, i32_w]
  rfl
 refine pure_ (i := 2) (N := some 13) (v := ?_) (a' := ?_) (M_ 22 7) rfl rfl (any_of HT_.out (by kernel_rfl)) (fun _ _ _ h => h) (Or.inl ⟨by rfl, ?_⟩) ?_ ?_
 rotate_left
 ·intro w'
  go_simp
  with_reducible rfl
 rotate_left
 ·simp only [P_, i64_w, i32_w]
  rfl
 refine pure_ (i := 3) (N := some 14) (v := ?_) (a' := ?_) (M_ 22 15) rfl rfl (any_of HT_.out (by kernel_rfl)) (fun _ _ _ h => h) (Or.inl ⟨by rfl, ?_⟩) ?_ ?_
 rotate_left
 ·intro w'
  go_simp
  with_reducible rfl
 rotate_left
 ·simp only [P_, i64_w, i32_w]
  rfl
 refine pure_ (i := 4) (N := some 15) (v := ?_) (a' := ?_) (M_ 22 31) rfl rfl (any_of HT_.out (by kernel_rfl)) (fun _ _ _ h => h) (Or.inl ⟨by rfl, ?_⟩) ?_ ?_
 rotate_left
 ·intro w'
  go_simp
  with_reducible rfl
 rotate_left
 ·simp only [P_, i64_w, i32_w]
  rfl
 refine pure_ (i := 6) (N := some 17) (v := ?_) (a' := ?_) (M_ 22 95) rfl rfl (any_of HT_.out (by kernel_rfl)) (fun _ _ _ h => h) (Or.inl ⟨by rfl, ?_⟩) ?_ ?_
 rotate_left
 ·intro w'
  go_simp
  with_reducible rfl
 rotate_left
 ·simp only [P_, i64_w, i32_w]
  rfl
 refine pure_ (i := 11) (N := some 22) (v := ?_) (a' := ?_) (M_ 22 2143) rfl rfl (any_of HT_.out (by kernel_rfl)) (fun _ _ _ h => h) (Or.inl ⟨by rfl, ?_⟩) ?_ ?_
 rotate_left
 ·intro w'
  go_simp
  with_reducible rfl
 rotate_left
 ·simp only [P_, i64_w, i32_w]
  rfl
 refine pure_ (i := 13) (N := some 24) (v := ?_) (a' := ?_) (M_ 22 10335) rfl rfl (any_of HT_.out (by kernel_rfl)) (fun _ _ _ h => h) (Or.inl ⟨by rfl, ?_⟩) ?_ ?_
 rotate_left
 ·intro w'
  go_simp
  with_reducible rfl
 rotate_left
 ·simp only [P_, i64_w, i32_w]
  rfl
 refine take_ (i := 5) (N := some 16) (v := ?_) (a' := ?_) (M_ 22 10367) rfl rfl (take_ofW HT_.out HW_.out (by kernel_rfl)) (fun _ _ _ h => h) (Or.inl ⟨by rfl, ?_⟩) hHeld ?_ ?_
 rotate_left
 ·rintro w' ⟨s0, s1, s2, s3, s4, s5, s6, s7, s8⟩
  go_simp
  with_reducible rfl
 rotate_left
 ·simp only [P_, i64_w, i32_w]
  rfl
 refine take_ (i := 7) (N := some 18) (v := ?_) (a' := ?_) (M_ 22 10495) rfl rfl (take_ofW HT_.out HW_.out (by kernel_rfl)) (fun _ _ _ h => h) (Or.inl ⟨by rfl, ?_⟩) hHeld ?_ ?_
 rotate_left
 ·rintro w' ⟨s0, s1, s2, s3, s4, s5, s6, s7, s8⟩
  go_simp
  with_reducible rfl
 rotate_left
 ·simp only [P_, i64_w, i32_w]
  rfl
 refine pure_ (i := 8) (N := some 19) (v := ?_) (a' := ?_) (M_ 22 10751) rfl rfl (any_of HT_.out (by kernel_rfl)) (fun _ _ _ h => h) (Or.inl ⟨by rfl, ?_⟩) ?_ ?_
 rotate_left
 ·intro w'
  go_simp
  with_reducible rfl
 rotate_left
 ·simp only [P_, i64_w, i32_w]
  rfl
 refine take_ (i := 9) (N := some 20) (v := ?_) (a' := ?_) (M_ 22 11263) rfl rfl (take_ofW HT_.out HW_.out (by kernel_rfl)) (fun _ _ _ h => h) (Or.inl ⟨by rfl, ?_⟩) hHeld ?_ ?_
 rotate_left
 ·rintro w' ⟨s0, s1, s2, s3, s4, s5, s6, s7, s8⟩
  go_simp
  with_reducible rfl
 rotate_left
 ·simp only [P_, i64_w, i32_w]
  rfl
 refine take_ (i := 12) (N := some 23) (v := ?_) (a' := ?_) (M_ 22 15359) rfl rfl (take_ofW HT_.out HW_.out (by kernel_rfl)) (fun _ _ _ h => h) (Or.inl ⟨by rfl, ?_⟩) hHeld ?_ ?_
 rotate_left
 ·rintro w' ⟨s0, s1, s2, s3, s4, s5, s6, s7, s8⟩
  go_simp
  with_reducible rfl
 rotate_left
 ·simp only [P_, i64_w, i32_w]
  rfl
 refine take_ (i := 14) (N := some 25) (v := ?_) (a' := ?_) (M_ 22 31743) rfl rfl (take_ofW HT_.out HW_.out (by kernel_rfl)) (fun _ _ _ h => h) (Or.inl ⟨by rfl, ?_⟩) hHeld ?_ ?_
 rotate_left
 ·rintro w' ⟨s0, s1, s2, s3, s4, s5, s6, s7, s8⟩
  go_simp
  with_reducible rfl
 rotate_left
 ·simp only [P_, i64_w, i32_w]
  rfl
 refine pure_ (i := 15) (N := some 26) (v := ?_) (a' := ?_) (M_ 22 64511) rfl rfl (any_of HT_.out (by kernel_rfl)) (fun _ _ _ h => h) (Or.inl ⟨by rfl, ?_⟩) ?_ ?_
 rotate_left
 ·intro w'
  go_simp
  with_reducible rfl
 rotate_left
 ·simp only [P_, i64_w, i32_w]
  rfl
 refine take_ (i := 16) (N := some 27) (v := ?_) (a' := ?_) (M_ 22 130047) rfl rfl (take_ofW HT_.out HW_.out (by kernel_rfl)) (fun _ _ _ h => h) (Or.inl ⟨by rfl, ?_⟩) hHeld ?_ ?_
 rotate_left
 ·rintro w' ⟨s0, s1, s2, s3, s4, s5, s6, s7, s8⟩
  go_simp
  with_reducible rfl
 rotate_left
 ·simp only [P_, i64_w, i32_w]
  rfl
 refine pure_ (i := 17) (N := some 28) (v := ?_) (a' := ?_) (M_ 22 261119) rfl rfl (any_of HT_.out (by kernel_rfl)) (fun _ _ _ h => h) (Or.inl ⟨by rfl, ?_⟩) ?_ ?_
 rotate_left
 ·intro w'
  go_simp
  with_reducible rfl
 rotate_left
 ·simp only [P_, i64_w, i32_w]
  rfl
 refine take_ (i := 18) (N := some 29) (v := ?_) (a' := ?_) (M_ 22 523263) rfl rfl (take_ofW HT_.out HW_.out (by kernel_rfl)) (fun _ _ _ h => h) (Or.inl ⟨by rfl, ?_⟩) hHeld ?_ ?_
 rotate_left
 ·rintro w' ⟨s0, s1, s2, s3, s4, s5, s6, s7, s8⟩
  go_simp
  with_reducible rfl
 rotate_left
 ·simp only [P_, i64_w, i32_w]
  rfl
 refine one_ (i := 10) (N := some 21) (M_ 22 524287) rfl rfl (one_of HT_.out (by kernel_rfl)) (by decide) (fun K hK => ?_)
 refine goes_ Try.func84 (by kernel_rfl) rfl #[.agg #[.slice (some ad245) l0_0.length c0_0, .slice (some ad240) l0_1.length c0_1, .slice A0_2 l0_2.length c0_2], .int .i64 (rd ((rd_T35 l0_1 a1).f1) 0)] (by rfl) rfl rfl (by simp only [List.map_toArray, List.map_cons, List.map_nil]; try rfl) ?_
 with_reducible refine (spec_l1there.calls k _ _ l0_0 _ _ l0_1 _ _ l0_2 (rd ((rd_T35 l0_1 a1).f1) 0) t243 _ ?side1 ?side2 ?side3 ?side4 ?side5 ?side6 A14.out).mono ?_
 (case side1 => exact (Kd.C_below HR0_0.out HB.out))
 (case side2 => exact HC0_0.out)
 (case side3 => exact (Kd.C_below HR0_1.out HB.out))
 (case side4 => exact HC0_1.out)
 (case side5 => exact (Kd.C_below HR0_2.out HB.out))
 (case side6 => exact HC0_2.out)
 rintro e w24 ⟨rfl, hb⟩
 refine ⟨_, rfl, ?_⟩
 replace BK239 := K_ (blk_below BK239.out hb)
 replace BK241 := K_ (blk_below BK241.out hb)
 replace HB := K_ (below_step HB.out hb)
 clear hb
 skip
 skip
 skip
 refine hK.out _ _ ⟨(blk_cell BK241.out 0).trans rfl, (blk_cell BK241.out 1).trans rfl, (blk_cell BK241.out 2).trans rfl, (blk_cell BK239.out 0).trans rfl, (blk_cell BK239.out 1).trans rfl, (blk_cell BK239.out 2).trans rfl, ((HB.out.cell (World.block_lt_of_cell? w _ hw242_0)).trans hw242_0), ((HB.out.cell (World.block_lt_of_cell? w _ hw244_0)).trans hw244_0), ((HB.out.cell (World.block_lt_of_cell? w _ hw245_0)).trans hw245_0)⟩ (fun hHeld => ?_)
 clear hK K
 refine norm_ (a' := ?_) ?_ ?_
 rotate_left
 ·show Act.put _ (some 21) _ = _
  simp only [P_, i64_w, i32_w]
  rfl
 refine pure_ (i := 19) (N := some 30) (v := ?_) (a' := ?_) (M_ 22 1048575) rfl rfl (any_of HT_.out (by kernel_rfl)) (fun _ _ _ h => h) (Or.inl ⟨by rfl, ?_⟩) ?_ ?_
 rotate_left
 ·intro w'
  go_simp
  with_reducible rfl
 rotate_left
 ·simp only [P_, i64_w, i32_w]
  rfl
 refine pure_ (i := 20) (N := some 31) (v := ?_) (a' := ?_) (M_ 22 2097151) rfl rfl (any_of HT_.out (by kernel_rfl)) (fun _ _ _ h => h) (Or.inl ⟨by rfl, ?_⟩) ?_ ?_
 rotate_left
 ·intro w'
  go_simp
  with_reducible rfl
 rotate_left
 ·simp only [P_, i64_w, i32_w]
  rfl
 refine pure_ (i := 21) (N := some 4) (v := ?_) (a' := ?_) (M_ 22 4194303) rfl rfl (any_of HT_.out (by kernel_rfl)) (fun _ _ _ h => h) (Or.inl ⟨by rfl, ?_⟩) ?_ ?_
 rotate_left
 ·intro w'
  go_simp
  with_reducible rfl
 rotate_left
 ·simp only [P_, i64_w, i32_w]
  rfl
 refine done_ (done_of HT_.out (by kernel_rfl)) ?_
 try go_wp2
 go_ret
 exact ⟨rfl, HB.out⟩


/-! ### spec_l1copy: function 56 -/
def spec_l1copy.l0 : Nat → List (S35) → Int → Int → List Int → List (S35) → List Int → Option (List Int × (List (S35)) × List Int)
 | 0, _, _, _, _, _, _ => none
 | k + 1, x20, x21, x22, x00, x01, x02 => if x22 < x21 then (if 0 ≤ x22 then (if x22 < (x20.length : Int) then ((some (([] : List Int) : List Int)).bind fun y258 => (if y258.length + ((rd_T35 x20 x22).f1).length < 17592186044416 then (if x01.length < 3518437208883 then (spec_l1copy.l0 k x20 x21 (wrap64 (x22 + 1)) x00 (x01 ++ [(⟨(rd_T35 x20 x22).f0, (y258 ++ ((rd_T35 x20 x22).f1)), (rd_T35 x20 x22).f2⟩ : S35)]) x02) else (none)) else (none))) else (none)) else (none)) else (some (x00, x01, x02))
def spec_l1copy.f (k : Nat) (l0_0 : List Int) (l0_1 : List (S35)) (l0_2 : List Int) : Option (List Int × (List (S35)) × List Int) := if ([] : List Int).length + l0_0.length < 17592186044416 then (if ([] : List Int).length + l0_2.length < 17592186044416 then (spec_l1copy.l0 k l0_1 (l0_1.length : Int) 0 (([] : List Int) ++ l0_0) ([] : List (S35)) (([] : List Int) ++ l0_2)) else (none)) else (none)
theorem spec_l1copy.mono_l : ∀ k, (∀ y0 y1 y2 y3 y4 y5, LeO (spec_l1copy.l0 k y0 y1 y2 y3 y4 y5) (spec_l1copy.l0 (k + 1) y0 y1 y2 y3 y4 y5))
 | 0 => fun _ _ _ _ _ _ r h => by simp [spec_l1copy.l0] at h
 | k + 1 => by
  have ih0 := spec_l1copy.mono_l k
  ·intro y0 y1 y2 y3 y4 y5
   unfold spec_l1copy.l0
   repeat' with_reducible first | exact ih0 _ _ _ _ _ _ | exact LeO.refl _ | exact LeO.none _ | refine LeO.ite ?_ ?_ | refine LeO.bind ?_ (fun _ => ?_)
theorem spec_l1copy.mono : ∀ a0 a1 a2 k, LeO (spec_l1copy.f k a0 a1 a2) (spec_l1copy.f (k + 1) a0 a1 a2) := by
 intro a0 a1 a2 k
 have ih0 := spec_l1copy.mono_l k
 unfold spec_l1copy.f
 repeat' with_reducible first | exact ih0 _ _ _ _ _ _ | exact LeO.refl _ | exact LeO.none _ | refine LeO.ite ?_ ?_ | refine LeO.bind ?_ (fun _ => ?_)
/-- What the copy tells: the state itself, and that its rows are not too long. -/
theorem spec_l1copy.loop_ : ∀ (k : Nat) (T : List S35) (i : Nat) (R : List Int) (U : List S35) (N : List Int) (r : List Int × List S35 × List Int), i ≤ T.length → T.length ≤ 9223372036854775807 → spec_l1copy.l0 k T (T.length : Int) (i : Int) R U N = some r → r = (R, U ++ T.drop i, N) ∧ (∀ t ∈ T.drop i, t.f1.length < 17592186044416) ∧ (i < T.length → U.length + (T.length - i) ≤ 3518437208883)
 | 0, _, _, _, _, _, _, _, _, h => by simp [spec_l1copy.l0] at h
 | k + 1, T, i, R, U, N, r, hi, hT, h => by
  simp only [spec_l1copy.l0] at h
  by_cases c : (i : Int) < (T.length : Int)
  ·have hl : i < T.length := by omega
   rw [if_pos c, if_pos (by omega), if_pos c, Option.bind_some] at h
   by_cases c1 : ([] : List Int).length + (rd_T35 T (i : Int)).f1.length < 17592186044416
   ·rw [if_pos c1] at h
    by_cases c2 : U.length < 3518437208883
    ·rw [if_pos c2, show wrap64 ((i : Int) + 1) = ((i + 1 : Nat) : Int) from by unfold wrap64; omega] at h
     have e : rd_T35 T (i : Int) = T[i] := by unfold rd_T35; simp [List.getD, hl]
     rw [e, List.nil_append] at h
     obtain ⟨h1, h2, h3⟩ := spec_l1copy.loop_ k T (i + 1) R _ N r hl hT h
     rw [List.append_assoc, List.singleton_append] at h1
     rw [List.drop_eq_getElem_cons hl]
     refine ⟨h1, fun t ht => ?_, fun _ => ?_⟩
     ·rcases List.mem_cons.1 ht with rfl | ht
      ·rw [e] at c1; simpa using c1
      ·exact h2 t ht
     ·by_cases hq : i + 1 < T.length
      ·have := h3 hq; rw [List.length_append] at this; simp only [List.length_singleton] at this; omega
      ·omega
    ·rw [if_neg c2] at h; exact absurd h (by simp)
   ·rw [if_neg c1] at h; exact absurd h (by simp)
  ·rw [if_neg c] at h
   injection h with h
   rw [← h, List.drop_eq_nil_of_le (by omega)]
   exact ⟨by simp, by simp, fun q => by omega⟩
theorem spec_l1copy.tells_ {k : Nat} {R : List Int} {T : List S35} {N : List Int} {r : List Int × List S35 × List Int} (hT : T.length ≤ 9223372036854775807) (h : spec_l1copy.f k R T N = some r) : r = (R, T, N) ∧ R.length < 17592186044416 ∧ N.length < 17592186044416 ∧ (∀ t ∈ T, t.f1.length < 17592186044416) ∧ T.length ≤ 3518437208883 := by
 unfold spec_l1copy.f at h
 by_cases c1 : ([] : List Int).length + R.length < 17592186044416
 ·rw [if_pos c1] at h
  by_cases c2 : ([] : List Int).length + N.length < 17592186044416
  ·rw [if_pos c2, List.nil_append, List.nil_append] at h
   obtain ⟨h1, h2, h3⟩ := spec_l1copy.loop_ k T 0 R [] N r (Nat.zero_le _) hT h
   refine ⟨by simpa using h1, by simpa using c1, by simpa using c2, by simpa using h2, ?_⟩
   rcases Nat.eq_zero_or_pos T.length with e | e
   ·omega
   ·have := h3 e; simp only [List.length_nil] at this; omega
  ·rw [if_neg c2] at h; exact absurd h (by simp)
 ·rw [if_neg c1] at h; exact absurd h (by simp)
theorem spec_l1copy.row_wr_ {P : Program} {ops : Array Oper} {Q : Exit → Act → World → Prop} {o : Oper} {rest : List Oper} {a : Act} {W : World} (hgd : o.guard = none) (ty : TypeId) (x y : Operand) (ho : o.op = .store ty x y) (hN : o.dst = none) (g : Nat) (hx : a.eval x = .pointer (some ⟨g, 0, none⟩)) {c c' : Array Value} {t : Nat}
  (hy : a.eval y = .agg c') (hb : W.heap[g]? = some (.cells c t (0, 0))) (hi : (P.info? ty).map (·.size) = some c'.size) (hc : c.size = c'.size) (h1 : c'.all (·.oneCell') = true)
  (h : ∀ w', w'.heap[g]? = some (.cells c' t (0, 0)) → W.grownBy w' (some g) → wpList P ops Q rest a w') : wpList P ops Q (o :: rest) a W := by
 refine wpList_plain hgd fun K hK => ?_
 unfold Oper.wp
 have hr : (execOp a.eval o).run P W = .ok .skip (W.setRow g c') := by
  simp only [execOp, ho, hx, hy, Instr.storeAt, Instr.sureAddr, Sem.run_bind, Sem.run_pure, Result.andThen_ok, run_storeVar_row W g t ty c c' hb hi hc h1]
 rw [hr]
 show K (a.put o.dst undef) _
 rw [hN]
 exact hK _ _ (h _ (setRow_heap W g c c' t (0, 0) hb) ⟨rfl, rfl, rfl, by simp, fun i hi hn => setRow_other W g i c' (fun e => hn (by rw [e]))⟩)
section
variable {P : Program} {ops : Array Oper} {Q : Exit → Act → World → Prop} {S : World → Prop} {ds : List Nat}
/-- Number i, which yields in every world, comes up first. -/
theorem spec_l1copy.np_ {fuel : Nat} {l : Array Bool} {a a' : Act} {w : World} (i N : Nat) {oi : Oper} {v : Value} (hi : ops[i]? = some oi) (hN : oi.dst = some N) (hc : anyB .any ops l (l.setIfInBounds i true) i = true) (hQ : ∀ c a w, Q (.panic c) (a.put oi.dst v) w → Q (.panic c) a w)
  (hw : Region.wanted oi (yielded ops a.tmps) = true) (hv : ∀ w', (execOp a.eval oi).run P w' = .ok (.value v) w') (ha : a.put (some N) v = a') (h : wpAnyLast P .any ops Q S ds fuel (l.setIfInBounds i true) a' w) : wpAnyLast P .any ops Q S ds (fuel + 1) l a w :=
 pure_ _ hi hN hc hQ (.inl ⟨hw, hv⟩) ha h
/-- Number i, which yields wherever S holds (a load). -/
theorem spec_l1copy.nt_ {fuel : Nat} {l : Array Bool} {a a' : Act} {w : World} (hS : S w) (i N : Nat) {oi : Oper} {v : Value} (hi : ops[i]? = some oi) (hN : oi.dst = some N) (hc : takeB .any ops ds l (l.setIfInBounds i true) i = true) (hQ : ∀ c a w, Q (.panic c) (a.put oi.dst v) w → Q (.panic c) a w)
  (hw : Region.wanted oi (yielded ops a.tmps) = true) (hv : ∀ w', S w' → (execOp a.eval oi).run P w' = .ok (.value v) w') (ha : a.put (some N) v = a') (h : wpAnyLast P .any ops Q S ds fuel (l.setIfInBounds i true) a' w) : wpAnyLast P .any ops Q S ds (fuel + 1) l a w :=
 take_ _ hi hN hc hQ (.inl ⟨hw, hv⟩) hS ha h
/-- The region's last operation, a store, and out. -/
theorem spec_l1copy.nl_ {fuel : Nat} {l : Array Bool} {a : Act} {w : World} (i : Nat) (w1 : World) {oi : Oper} (hi : ops[i]? = some oi) (hN : oi.dst = none) (hc : readyB .any ops l (l.setIfInBounds i true) i = true) (hd : i ∈ ds) (hw : Region.wanted oi (yielded ops a.tmps) = true) (hr : (Region.ready .any ops (l.setIfInBounds i true) == []) = true)
  (hrun : (execOp a.eval oi).run P w = .ok .skip w1) (h : Q .normal a w1) : wpAnyLast P .any ops Q S ds (fuel + 1) l a w := by
 refine last_ (N := none) _ hi hN hc hd (fun K hK => ?_)
 refine skip_ hw hN hrun ?_
 exact hK.out _ _ (done_ hr h)
/-- An operation that comes up alone (a call, an append): S is shown behind it. -/
theorem spec_l1copy.no_ {fuel : Nat} {l : Array Bool} {a : Act} {w : World} (i N : Nat) {oi : Oper} (hi : ops[i]? = some oi) (hN : oi.dst = some N) (hc : readyB .any ops l (l.setIfInBounds i true) i = true) (hd : i ∉ ds)
  (h : ∀ K : Act → World → Prop, (∀ a' w', S w' → (S w' → wpAnyLast P .any ops Q S ds fuel (l.setIfInBounds i true) a' w') → K a' w') → if Region.wanted oi (yielded ops a.tmps) = true then Oper.wp P oi a w K Q else K (a.put (some N) undef) w) : wpAnyLast P .any ops Q S ds (fuel + 1) l a w :=
 one_ _ hi hN hc hd (fun K hK => h K hK.out)
theorem spec_l1copy.AP_ : (∀ (a : Act) (d : Nat) (v : Value), a.put (some d) v = { a with tmps := a.tmps.setIfInBounds d v }) ∧ (∀ (a : Act) (v : Value), a.put none v = a) ∧ (∀ (l : List Value) (i : Nat) (a : Value), l.toArray.setIfInBounds i a = (l.set i a).toArray) ∧ (∀ (x : Value) (l : List Value) (a : Value), (x :: l).set 0 a = a :: l) ∧ (∀ (x : Value) (l : List Value) (i : Nat) (a : Value), (x :: l).set (i + 1) a = x :: l.set i a) := ⟨fun _ _ _ => rfl, fun _ _ => rfl, fun l i a => List.setIfInBounds_toArray l i a, fun _ _ _ => rfl, fun _ _ _ _ => rfl⟩
end
theorem spec_l1copy.info26_ : (Try.prog.info? 26).map (·.size) = some 3 := by kernel_rfl
/-- A copy while it is made: its own struct at gO; the rooms' and the names' rows in blocks below n, the trains' in blocks from n on. -/
structure spec_l1copy.Cp (w wr : World) (gR gO n : Nat) (v0 u v2 : Value) (R : List Int) (U : List S35) (N : List Int) : Prop where
 bo : wr.heap[gO]? = some (.cells #[v0, u, v2] 26 (0, 0))
 r0 : Kd.R (Kd.int .i64) 3 wr w.heap.size (fun k => some k ≠ v2.ownBlock ∧ gO < k ∧ k < n) v0 R
 r2 : Kd.R (Kd.int .i64) 3 wr w.heap.size (fun k => some k ≠ v0.ownBlock ∧ gO < k ∧ k < n) v2 N
 s1 : Kd.S k35 35 wr w.heap.size (fun k => n ≤ k) u U
 hB : Below w.heap.size w wr
 hn : gO < n ∧ n ≤ wr.heap.size ∧ w.heap.size ≤ gO
 br : wr.heap[gR]? = some (.cells #[.slice none 0 0, .slice none 0 0, .slice none 0 0] 26 (0, 0))
 hr : gR < gO ∧ w.heap.size ≤ gR
section
variable {w wr w' : World} {gR gO n : Nat} {v0 u v2 : Value} {R : List Int} {U : List S35} {N : List Int}
theorem spec_l1copy.Cp.below (h : spec_l1copy.Cp w wr gR gO n v0 u v2 R U N) (hb : Below wr.heap.size wr w') : spec_l1copy.Cp w w' gR gO n v0 u v2 R U N :=
 ⟨blk_below h.bo hb, Kd.R_below h.r0 hb, Kd.R_below h.r2 hb, Kd.S_below h.s1 hb, below_step h.hB hb, ⟨h.hn.1, Nat.le_trans h.hn.2.1 hb.size, h.hn.2.2⟩, blk_below h.br hb, h.hr⟩
theorem spec_l1copy.Cp.st {ok : Nat → Prop} (h : spec_l1copy.Cp w wr gR gO n v0 u v2 R U N) (hok : ∀ k, n ≤ k → ok k) : Kd.S k35 35 wr w.heap.size ok u U := Kd.S_mono h.s1 hok
theorem spec_l1copy.Cp.start (h0 : Kd.R (Kd.int .i64) 3 wr w.heap.size (fun k => gO < k) v0 R) (h2 : Kd.R (Kd.int .i64) 3 wr w.heap.size (fun k => n ≤ k) v2 N) (hlt : ∀ k, v0.ownBlock = some k → k < n) (hg : gO < n) (hb : wr.heap[gO]? = some (.cells #[v0, .slice none 0 0, .slice none 0 0] 26 (0, 0))) (hB : Below w.heap.size w wr) (hw : w.heap.size ≤ gO) (br : wr.heap[gR]? = some (.cells #[.slice none 0 0, .slice none 0 0, .slice none 0 0] 26 (0, 0))) (hr : gR < gO ∧ w.heap.size ≤ gR) : spec_l1copy.Cp w (wr.setCell ⟨gO, 2, none⟩ v2) gR gO (wr.setCell ⟨gO, 2, none⟩ v2).heap.size v0 (.slice none 0 0) v2 R [] N := by
 have es : (wr.setCell ⟨gO, 2, none⟩ v2).heap.size = wr.heap.size := by simp
 have l0 := Kd.R_lt h0
 have l2 := Kd.R_lt h2
 have q0 : ∀ k, v0.ownBlock = some k → some k ≠ v2.ownBlock ∧ gO < k ∧ k < (wr.setCell ⟨gO, 2, none⟩ v2).heap.size := fun k e => ⟨fun q => by have := hlt k e; have := h2.1 k q.symm; omega, h0.1 k e, by rw [es]; exact l0 k e⟩
 have q2 : ∀ k, v2.ownBlock = some k → some k ≠ v0.ownBlock ∧ gO < k ∧ k < (wr.setCell ⟨gO, 2, none⟩ v2).heap.size := fun k e => ⟨fun q => by have := hlt k q.symm; have := h2.1 k e; omega, by have := h2.1 k e; omega, by rw [es]; exact l2 k e⟩
 exact ⟨blk_put hb 2 _ rfl, Kd.R_far (p := ⟨gO, 2, none⟩) (Kd.R_reok rfl h0 q0) (fun k hk => by show k ≠ gO; have := hk.2.1; omega) _, Kd.R_far (p := ⟨gO, 2, none⟩) (Kd.R_reok rfl h2 q2) (fun k hk => by show k ≠ gO; have := hk.2.1; omega) _, Kd.S_nil _ _ _ _ _, hB.setCell hw _, ⟨by rw [es]; exact blk_lt hb, Nat.le_refl _, hw⟩, blk_far (p := ⟨gO, 2, none⟩) br (by show gR ≠ gO; omega) _, hr⟩
/-- The struct is laid down anew, its trains' row grown. -/
theorem spec_l1copy.Cp.grow (h : spec_l1copy.Cp w wr gR gO n v0 u v2 R U N) {w1 : World} {u1 : Value} {U1 : List S35} (hg : wr.grownBy w1 u.ownBlock) (hb : Below w.heap.size w w1) (hs : Kd.S k35 35 w1 w.heap.size (fun k => n ≤ k) u1 U1) (z : Value) : spec_l1copy.Cp w (w1.setCell ⟨gO, 1, none⟩ u1) gR gO n v0 u1 v2 R U1 N := by
 have hn := h.hn
 have ho : ∀ k, u.ownBlock = some k → n ≤ k := fun k hk => (Kd.S_R h.s1).1 k hk
 have hne : ∀ k, k < n → some k ≠ u.ownBlock := fun k hk e => by have := ho k e.symm; omega
 have hb1 : w1.heap[gO]? = some (.cells #[v0, u, v2] 26 (0, 0)) := blk_grown h.bo hg (hne gO hn.1)
 refine ⟨blk_put hb1 1 _ rfl, ?_, ?_, Kd.S_far (p := ⟨gO, 1, none⟩) hs (fun k hk => by show k ≠ gO; omega) _, hb.setCell hn.2.2 _, ⟨hn.1, by have := hg.size; simpa using (by omega : n ≤ w1.heap.size), hn.2.2⟩, blk_far (p := ⟨gO, 1, none⟩) (blk_grown h.br hg (hne gR (by have := h.hr; omega))) (by show gR ≠ gO; have := h.hr; omega) _, h.hr⟩
 ·exact Kd.R_far (p := ⟨gO, 1, none⟩) (Kd.R_grown h.r0 hg (fun k hk => hne k hk.2.2)) (fun k hk => by show k ≠ gO; omega) _
 ·exact Kd.R_far (p := ⟨gO, 1, none⟩) (Kd.R_grown h.r2 hg (fun k hk => hne k hk.2.2)) (fun k hk => by show k ≠ gO; omega) _
end
theorem spec_l1copy.info35s : (Try.prog.info? 35).map (·.size) = some 3 := by kernel_rfl
set_option maxHeartbeats 1000000 in
set_option maxRecDepth 100000 in
theorem spec_l1copy.calls (k : Nat) (A0_0 : Option Addr) (c0_0 : Nat) (l0_0 : List Int) (A0_1 : Option Addr) (c0_1 : Nat) (l0_1 : List (S35)) (A0_2 : Option Addr) (c0_2 : Nat) (l0_2 : List Int) (r1 : List Int) (r2 : List (S35)) (r3 : List Int) (w : World) (hr0_0 : Kd.C (Kd.int .i64) w A0_0 l0_0.length l0_0) (hc0_0 : l0_0.length ≤ c0_0) (hr0_1 : Kd.C k35 w A0_1 l0_1.length l0_1) (hc0_1 : l0_1.length ≤ c0_1) (hr0_2 : Kd.C (Kd.int .i64) w A0_2 l0_2.length l0_2) (hc0_2 : l0_2.length ≤ c0_2) (h : spec_l1copy.f k l0_0 l0_1 l0_2 = some (r1, r2, r3)) :
  Calls Try.prog 56 #[.agg #[.slice A0_0 l0_0.length c0_0, .slice A0_1 l0_1.length c0_1, .slice A0_2 l0_2.length c0_2]] w fun e w' => ∃ v0_ v1_ v2_ : Value, e = .returned (.agg #[v0_, v1_, v2_]) ∧ Kd.R (Kd.int .i64) 3 w' w.heap.size (fun k_ => X_ k_ v2_) v0_ r1 ∧ Kd.S k35 35 w' w.heap.size (fun k_ => X_ k_ v0_ ∧ X_ k_ v2_) v1_ r2 ∧ Kd.R (Kd.int .i64) 3 w' w.heap.size (fun k_ => X_ k_ v0_) v2_ r3 ∧ Below w.heap.size w w' := by
 have HR0 := Aside0.mk hr0_0
 have HR1 := Aside0.mk hr0_1
 have HR2 := Aside0.mk hr0_2
 obtain ⟨he, hRl, hNl, hPl, hTl⟩ := spec_l1copy.tells_ hr0_1.2.1 h
 simp only [Prod.mk.injEq] at he
 obtain ⟨ha_, hb_, hc_⟩ := he
 replace ha_ := ha_.symm
 replace hb_ := hb_.symm
 replace hc_ := hc_.symm
 subst ha_ hb_ hc_
 have HP := Aside0.mk hPl
 clear h hr0_0 hr0_1 hr0_2 hPl
 have hu26 := Try.underlying26
 have hu35 := Try.underlying35
 have HBa := Aside0.mk ((((Below.refl w.heap.size w).alloc (Nat.le_refl _) (.cells #[.slice A0_0 l0_0.length c0_0, .slice A0_1 l0_1.length c0_1, .slice A0_2 l0_2.length c0_2] 26)).alloc (by simp) (.cells #[.slice none 0 0, .slice none 0 0, .slice none 0 0] 26)).alloc (by simp; omega) (.cells #[.slice none 0 0, .slice none 0 0, .slice none 0 0] 26))
 have Ba := Aside0.mk (blk_alloc (blk_alloc (heap_alloc_new w (.cells #[.slice A0_0 l0_0.length c0_0, .slice A0_1 l0_1.length c0_1, .slice A0_2 l0_2.length c0_2] 26)) (.cells #[.slice none 0 0, .slice none 0 0, .slice none 0 0] 26)) (.cells #[.slice none 0 0, .slice none 0 0, .slice none 0 0] 26))
 have Bb := Aside0.mk (blk_alloc (heap_alloc_new (w.alloc (.cells #[.slice A0_0 l0_0.length c0_0, .slice A0_1 l0_1.length c0_1, .slice A0_2 l0_2.length c0_2] 26)) (.cells #[.slice none 0 0, .slice none 0 0, .slice none 0 0] 26)) (.cells #[.slice none 0 0, .slice none 0 0, .slice none 0 0] 26))
 have Bc := Aside0.mk (heap_alloc_new ((w.alloc (.cells #[.slice A0_0 l0_0.length c0_0, .slice A0_1 l0_1.length c0_1, .slice A0_2 l0_2.length c0_2] 26)).alloc (.cells #[.slice none 0 0, .slice none 0 0, .slice none 0 0] 26)) (.cells #[.slice none 0 0, .slice none 0 0, .slice none 0 0] 26))
 have e1 : (w.alloc (.cells #[.slice A0_0 l0_0.length c0_0, .slice A0_1 l0_1.length c0_1, .slice A0_2 l0_2.length c0_2] 26)).heap.size = w.heap.size + 1 := by simp
 have e2 : ((w.alloc (.cells #[.slice A0_0 l0_0.length c0_0, .slice A0_1 l0_1.length c0_1, .slice A0_2 l0_2.length c0_2] 26)).alloc (.cells #[.slice none 0 0, .slice none 0 0, .slice none 0 0] 26)).heap.size = w.heap.size + 1 + 1 := by simp
 have e3 : (((w.alloc (.cells #[.slice A0_0 l0_0.length c0_0, .slice A0_1 l0_1.length c0_1, .slice A0_2 l0_2.length c0_2] 26)).alloc (.cells #[.slice none 0 0, .slice none 0 0, .slice none 0 0] 26)).alloc (.cells #[.slice none 0 0, .slice none 0 0, .slice none 0 0] 26)).heap.size = w.heap.size + 1 + 1 + 1 := by simp
 rw [e1] at Bb
 rw [e2] at Bc
 go_enter Try.func56, Try.ntmps56
 go_wp2_with (first
  | ((with_reducible refine gate_builtin (b := .append) (xs := #[.tmp 8, .tmp 10]) rfl ?_); at_builtin; refine Kd.R_append_rows (Kd.int .i64) (w0 := w) w.heap.size rfl (.tmp 8) (.tmp 10) 23 3 (.int .i64 0) 8 rfl Try.underlying23 info3 rfl (by decide) (by omega) (.slice none 0 0) ([] : List Int) l0_0 _ _ _ (fun k => w.heap.size + 1 + 1 < k) (fun _ => False) rfl rfl (Kd.R_nil _ _ _ _ _) (Kd.C_below HR0.out HBa.out) (fun _ _ h => h) (fun _ h => h.elim) (fun k hk => by omega) HBa.out HBa.out.size (by simp only [List.length_nil]; omega) ?_; intro v3 w3 ho hb hg _; rw [List.nil_append] at ho; obtain ⟨D0, d0, rfl⟩ := Kd.R_slice ho; have HO3 := Aside0.mk ho; have HB3 := Aside0.mk hb; have B1 := Aside0.mk (blk_grown Ba.out hg (by simp [Value.ownBlock])); have BN := Aside0.mk (blk_grown Bb.out hg (by simp [Value.ownBlock])); have BO := Aside0.mk (blk_grown Bc.out hg (by simp [Value.ownBlock])); have hs3 := hg.size; have x0 : w3.cell? ⟨w.heap.size + 1 + 1, 0, none⟩ = some (.slice none 0 0) := (blk_cell BO.out 0).trans rfl; have y0 := blk_frozen BO.out 0; clear ho hb hg Ba Bb Bc HBa)
  | ((with_reducible refine gate_store (t := 23) (p := 12) rfl ?_); refine store_event (t := 23) (p := 12) (v := .tmp 11) (w1 := w3.setCell ⟨w.heap.size + 1 + 1, 0, none⟩ (.slice D0 l0_0.length d0)) rfl rfl rfl ?hr ?_; (case hr => first | (go_simp; done) | (go_simp; rfl)); intro w4 hw4; have HO4 := Aside0.mk (show Kd.R (Kd.int .i64) 3 w4 w.heap.size (fun k => w.heap.size + 1 + 1 < k) (.slice D0 l0_0.length d0) l0_0 from by rw [hw4]; exact Kd.R_far (p := ⟨w.heap.size + 1 + 1, 0, none⟩) HO3.out (fun k hk => by show k ≠ w.heap.size + 1 + 1; omega) _); have B1 := Aside0.mk (show w4.heap[w.heap.size]? = some (.cells #[.slice A0_0 l0_0.length c0_0, .slice A0_1 l0_1.length c0_1, .slice A0_2 l0_2.length c0_2] 26 (0, 0)) from by rw [hw4]; exact blk_far (p := ⟨w.heap.size + 1 + 1, 0, none⟩) B1.out (by show w.heap.size ≠ w.heap.size + 1 + 1; omega) _); have BN := Aside0.mk (show w4.heap[w.heap.size + 1]? = some (.cells #[.slice none 0 0, .slice none 0 0, .slice none 0 0] 26 (0, 0)) from by rw [hw4]; exact blk_far (p := ⟨w.heap.size + 1 + 1, 0, none⟩) BN.out (by show w.heap.size + 1 ≠ w.heap.size + 1 + 1; omega) _); have BO := Aside0.mk (show w4.heap[w.heap.size + 1 + 1]? = some (.cells #[.slice D0 l0_0.length d0, .slice none 0 0, .slice none 0 0] 26 (0, 0)) from by rw [hw4]; exact blk_put BO.out 0 _ rfl); have HB4 := Aside0.mk (show Below w.heap.size w w4 from by rw [hw4]; exact HB3.out.setCell (show w.heap.size ≤ w.heap.size + 1 + 1 by omega) _); have hs4 : w4.heap.size = w3.heap.size := (by rw [hw4]; simp); have x2 : w4.cell? ⟨w.heap.size + 1 + 1, 2, none⟩ = some (.slice none 0 0) := (blk_cell BO.out 2).trans rfl; have z2 : w4.cell? ⟨w.heap.size, 2, none⟩ = some (.slice A0_2 l0_2.length c0_2) := (blk_cell B1.out 2).trans rfl; clear hw4 x0 y0 HO3 HB3)
  | ((with_reducible refine gate_builtin (b := .append) (xs := #[.tmp 14, .tmp 16]) rfl ?_); at_builtin; refine Kd.R_append_rows (Kd.int .i64) (w0 := w) w.heap.size rfl (.tmp 14) (.tmp 16) 23 3 (.int .i64 0) 8 rfl Try.underlying23 info3 rfl (by decide) (by omega) (.slice none 0 0) ([] : List Int) l0_2 _ _ _ (fun k => w4.heap.size ≤ k) (fun _ => False) rfl rfl (Kd.R_nil _ _ _ _ _) (Kd.C_below HR2.out HB4.out) (fun _ _ h => h) (fun _ h => h.elim) (fun k hk => hk) HB4.out HB4.out.size (by simp only [List.length_nil]; omega) ?_; intro v5 w5 ho hb hg _; rw [List.nil_append] at ho; obtain ⟨D2, d2, rfl⟩ := Kd.R_slice ho; have HO5 := Aside0.mk ho; have HB5 := Aside0.mk hb; have HO4b := Aside0.mk (Kd.R_grown HO4.out hg (fun k _ => by simp [Value.ownBlock])); have hlt4 := Aside0.mk (Kd.R_lt HO4.out); have B1 := Aside0.mk (blk_grown B1.out hg (by simp [Value.ownBlock])); have BN := Aside0.mk (blk_grown BN.out hg (by simp [Value.ownBlock])); have BO := Aside0.mk (blk_grown BO.out hg (by simp [Value.ownBlock])); have hs5 := hg.size; have x2 : w5.cell? ⟨w.heap.size + 1 + 1, 2, none⟩ = some (.slice none 0 0) := (blk_cell BO.out 2).trans rfl; have y2 := blk_frozen BO.out 2; clear ho hb hg HO4 HB4 z2)
  | ((with_reducible refine gate_store (t := 23) (p := 18) rfl ?_); refine store_event (t := 23) (p := 18) (v := .tmp 17) (w1 := w5.setCell ⟨w.heap.size + 1 + 1, 2, none⟩ (.slice D2 l0_2.length d2)) rfl rfl rfl ?hr ?_; (case hr => first | (go_simp; done) | (go_simp; rfl)); intro w6 hw6; have CP := Aside0.mk (show spec_l1copy.Cp w w6 (w.heap.size + 1) (w.heap.size + 1 + 1) w6.heap.size (.slice D0 l0_0.length d0) (.slice none 0 0) (.slice D2 l0_2.length d2) l0_0 [] l0_2 from by rw [hw6]; exact spec_l1copy.Cp.start HO4b.out HO5.out (fun k hk => by have := hlt4.out k hk; omega) (by omega) BO.out HB5.out (by omega) BN.out ⟨by omega, by omega⟩); have B1 := Aside0.mk (show w6.heap[w.heap.size]? = some (.cells #[.slice A0_0 l0_0.length c0_0, .slice A0_1 l0_1.length c0_1, .slice A0_2 l0_2.length c0_2] 26 (0, 0)) from by rw [hw6]; exact blk_far (p := ⟨w.heap.size + 1 + 1, 2, none⟩) B1.out (by show w.heap.size ≠ w.heap.size + 1 + 1; omega) _); have z1 : w6.cell? ⟨w.heap.size, 1, none⟩ = some (.slice A0_1 l0_1.length c0_1) := (blk_cell B1.out 1).trans rfl; clear hw6 x2 y2 HO4b HO5 HB5 BO hlt4))
 generalize hn : w6.heap.size = n at *
 have HN := Aside0.mk hn
 clear hn
 clear B1 z1
 go_loopw [22] (fun x22 wr => ∃ (i : Nat) (u : Value), i ≤ l0_1.length ∧ x22 = .int .i64 i ∧ Aside0 (spec_l1copy.Cp w wr (w.heap.size + 1) (w.heap.size + 1 + 1) n (.slice D0 l0_0.length d0) u (.slice D2 l0_2.length d2) l0_0 (l0_1.take i) l0_2)) (fun x22 _ => l0_1.length - (intOf x22).toNat)
 case atStart => exact ⟨0, _, Nat.zero_le _, rfl, CP⟩
 case round =>
  clear CP
  obtain ⟨i, u, hi, rfl, CP⟩ := hrel
  by_cases hlt : i < l0_1.length
  ·have d23 : decide ((i : Int) < (l0_1.length : Int)) = true := decide_eq_true (by omega)
   have p24 : (0 : Int) ≤ (i : Int) := by omega
   have q24 : (i : Int) < (l0_1.length : Int) := by omega
   obtain ⟨ad, Ap, cp, e, hx0, hx1, hx2, hl, hC⟩ := at_T35 HR1.out (i : Int) p24 q24
   subst e
   have et : rd_T35 l0_1 (i : Int) = l0_1[i] := by unfold rd_T35; simp [List.getD, hlt]
   have hpl := HP.out l0_1[i] (List.getElem_mem hlt)
   have HTK := Aside0.mk (List.take_succ_eq_append_getElem hlt)
   rw [et] at hx0 hx1 hx2 hl hC
   rw [Int.toNat_natCast] at hx0 hx1 hx2
   generalize l0_1[i] = t at *
   replace hx0 := (CP.out.hB.cell (World.block_lt_of_cell? w _ hx0)).trans hx0
   replace hx1 := (CP.out.hB.cell (World.block_lt_of_cell? w _ hx1)).trans hx1
   replace hx2 := (CP.out.hB.cell (World.block_lt_of_cell? w _ hx2)).trans hx2
   have HC := Aside0.mk (Kd.C_below hC CP.out.hB)
   have hn := CP.out.hn
   have hnr := hn.2.1
   clear hC et hn
   have BT := Aside0.mk (heap_alloc_new wr (.cells #[.int .i64 0, .slice none 0 0, .int .i64 0] 35))
   have es : (wr.alloc (.cells #[.int .i64 0, .slice none 0 0, .int .i64 0] 35)).heap.size = wr.heap.size + 1 := by simp
   have HT5 := Aside0.mk (show (l0_1.take i).length + 1 ≤ 3518437208883 from by rw [List.length_take]; omega)
   go_wp2_with (first
    | ((with_reducible refine gate_store (t := 35) (p := 5) rfl ?_); (try simp only [Act.put, List.setIfInBounds_toArray, List.set_cons_zero, List.set_cons_succ]); refine spec_l1copy.row_wr_ rfl 35 (.tmp 5) (.tmp 25) rfl rfl wr.heap.size rfl (c' := #[.int .i64 t.f0, .slice Ap t.f1.length cp, .int .i64 t.f2]) rfl BT.out spec_l1copy.info35s rfl (by simp [Value.oneCell']) ?_; intro w7 h7 g7; have B7 := Aside0.mk h7; have b7 : Below wr.heap.size wr w7 := ((Below.refl _ _).alloc (Nat.le_refl _) _).grown g7 (by rw [es]; omega) (fun k hk => by injection hk with hk; omega); have HB7 := Aside0.mk b7; have s7 : wr.heap.size < w7.heap.size := blk_lt h7; have y0 : w7.cell? ⟨wr.heap.size, 0, none⟩ = some (.int .i64 t.f0) := (blk_cell h7 0).trans rfl; have y1 : w7.cell? ⟨wr.heap.size, 1, none⟩ = some (.slice Ap t.f1.length cp) := (blk_cell h7 1).trans rfl; have y2 : w7.cell? ⟨wr.heap.size, 2, none⟩ = some (.int .i64 t.f2) := (blk_cell h7 2).trans rfl; have BU := Aside0.mk (heap_alloc_new w7 (.cells #[.int .i64 0, .slice none 0 0, .int .i64 0] 35)); have es7 : (w7.alloc (.cells #[.int .i64 0, .slice none 0 0, .int .i64 0] 35)).heap.size = w7.heap.size + 1 := (by simp); clear h7 g7 b7 hx0 hx1 hx2 BT es)
    | ((with_reducible refine gate_store (t := 35) (p := 6) rfl ?_); (try simp only [Act.put, List.setIfInBounds_toArray, List.set_cons_zero, List.set_cons_succ]); refine spec_l1copy.row_wr_ rfl 35 (.tmp 6) (.tmp 26) rfl rfl w7.heap.size rfl (c' := #[.int .i64 t.f0, .slice Ap t.f1.length cp, .int .i64 t.f2]) rfl BU.out spec_l1copy.info35s rfl (by simp [Value.oneCell']) ?_; intro w8 h8 g8; have B8 := Aside0.mk h8; have b78 : Below w7.heap.size w7 w8 := ((Below.refl _ _).alloc (Nat.le_refl _) _).grown g8 (by rw [es7]; omega) (fun k hk => by injection hk with hk; omega); have HB8 := Aside0.mk (below_step HB7.out b78); have B7 := Aside0.mk (blk_below B7.out b78); have s8 : w7.heap.size < w8.heap.size := blk_lt h8; have y1 : w8.cell? ⟨wr.heap.size, 1, none⟩ = some (.slice Ap t.f1.length cp) := (blk_cell B7.out 1).trans rfl; clear h8 g8 b78 y0 y2 BU es7 HB7)
    | ((with_reducible refine gate_dst (N := 27) rfl ?_); refine Kd.R_lit (w0 := wr) (Kd.int .i64) wr.heap.size 3 ?hg (N := 27) ?hd (xs := ([] : List Int)) (inner := []) (ok := fun k => w8.heap.size ≤ k) (okp := fun _ => False) ?hr ?hp (fun _ hk => hk.elim) (Nat.le_refl _) HB8.out (by omega) (by simp) ?_; (case hd => rfl); (case hg => rfl); (case hr => first | (go_simp; done) | (go_simp; rfl)); (case hp => exact (Reps.none _ _)); intro v9 w9 r9 b9 g9 _; have R9 := Aside0.mk r9; have HB9 := Aside0.mk b9; have B8 := Aside0.mk (blk_grown B8.out g9 (by simp)); have B7 := Aside0.mk (blk_grown B7.out g9 (by simp)); have s9 := g9.size; have y1 : w9.cell? ⟨wr.heap.size, 1, none⟩ = some (.slice Ap t.f1.length cp) := (blk_cell B7.out 1).trans rfl; clear r9 b9 g9 HB8 B7)
    | ((with_reducible refine gate_builtin (b := .append) (xs := #[.tmp 27, .tmp 29]) rfl ?_); at_builtin; refine Kd.R_append_rows (Kd.int .i64) (w0 := wr) wr.heap.size rfl (.tmp 27) (.tmp 29) 23 3 (.int .i64 0) 8 rfl Try.underlying23 info3 rfl (by decide) (by omega) v9 ([] : List Int) t.f1 _ _ _ (fun k => w8.heap.size ≤ k) (fun _ => False) rfl rfl R9.out (Kd.C_below HC.out HB9.out) (fun _ _ h => h) (fun _ h => h.elim) (fun k hk => by omega) HB9.out HB9.out.size (by simp only [List.length_nil]; omega) ?_; intro v10 w10 r10 b10 g10 _; rw [List.nil_append] at r10; obtain ⟨D3, d3, rfl⟩ := Kd.R_slice r10; have R10 := Aside0.mk r10; have HB10 := Aside0.mk b10; have B8 := Aside0.mk (blk_grown B8.out g10 (fun e => by have := R9.out.1 _ e.symm; omega)); have s10 := g10.size; have y1 : w10.cell? ⟨w7.heap.size, 1, none⟩ = some (.slice Ap t.f1.length cp) := (blk_cell B8.out 1).trans rfl; have f1 := blk_frozen B8.out 1; clear r10 b10 g10 HB9 R9)
    | ((with_reducible refine gate_store (t := 23) (p := 31) rfl ?_); refine store_event (t := 23) (p := 31) (v := .tmp 30) (w1 := w10.setCell ⟨w7.heap.size, 1, none⟩ (.slice D3 t.f1.length d3)) rfl rfl rfl ?hr ?_; (case hr => first | (go_simp; done) | (go_simp; rfl)); intro w11 hw11; have B11 := Aside0.mk (show w11.heap[w7.heap.size]? = some (.cells #[.int .i64 t.f0, .slice D3 t.f1.length d3, .int .i64 t.f2] 35 (0, 0)) from by rw [hw11]; exact blk_put B8.out 1 _ rfl); have HB11 := Aside0.mk (show Below wr.heap.size wr w11 from by rw [hw11]; exact HB10.out.setCell (show wr.heap.size ≤ w7.heap.size by omega) _); have R11 := Aside0.mk (show Kd.R (Kd.int .i64) 3 w11 wr.heap.size (fun k => w8.heap.size ≤ k) (.slice D3 t.f1.length d3) t.f1 from by rw [hw11]; exact Kd.R_far (p := ⟨w7.heap.size, 1, none⟩) R10.out (fun k hk => by show k ≠ w7.heap.size; omega) _); have S11 := Aside0.mk (show w11.heap.size = w10.heap.size from by rw [hw11]; simp); have CP11 := Aside0.mk (CP.out.below HB11.out); have hb0 := CP11.out.bo; have HLT := Aside0.mk (Kd.R_lt (Kd.S_R CP.out.s1)); have y0 : w11.cell? ⟨w7.heap.size, 0, none⟩ = some (.int .i64 t.f0) := (blk_cell B11.out 0).trans rfl; have y1 : w11.cell? ⟨w7.heap.size, 1, none⟩ = some (.slice D3 t.f1.length d3) := (blk_cell B11.out 1).trans rfl; have y2 : w11.cell? ⟨w7.heap.size, 2, none⟩ = some (.int .i64 t.f2) := (blk_cell B11.out 2).trans rfl; have x1 : w11.cell? ⟨w.heap.size + 1 + 1, 1, none⟩ = some u := (blk_cell hb0 1).trans rfl; clear hw11 hb0 f1 B8 HB10 R10)
    | ((with_reducible refine gate_builtin (b := .append) (xs := #[.tmp 33, .tmp 35]) rfl ?_); at_builtin; refine Kd.S_append k35 (w0 := w) w.heap.size rfl (.tmp 33) (.tmp 35) 24 35 (.agg #[(.int .i64 0), (.slice none 0 0), (.int .i64 0)]) 40 rfl Try.underlying24 info35 rfl (by decide) (by omega) u (l0_1.take i) t [.int .i64 t.f0, .slice D3 t.f1.length d3, .int .i64 t.f2] (fun k => n ≤ k) (fun k => w8.heap.size ≤ k) rfl rfl (k35_mkM _ _ _ t (Kd.R_lower R11.out CP.out.hB.size)) (fun k hk => ⟨by omega, fun e => by have := HLT.out k e.symm; omega⟩) (fun k hk => by have := S11.out; omega) (Kd.S_mono (Kd.S_below (Kd.S_bound CP.out.s1) HB11.out) (fun k hk => ⟨hk.1, fun q => by have := hk.2.2.1; omega⟩)) CP11.out.hB CP11.out.hB.size (by have := HT5.out; omega) ?_; intro v12 w12 r12 b12 g12 _; obtain ⟨D4, d4, rfl⟩ := Kd.S_slice r12; have CQ := Aside0.mk (CP11.out.grow g12 b12 r12 (.int .i64 0)); have hbo := blk_grown CP11.out.bo g12 (fun e => by have := (Kd.S_R CP11.out.s1).1 _ e.symm; have := CP11.out.hn.1; omega); have x1 : w12.cell? ⟨w.heap.size + 1 + 1, 1, none⟩ = some u := (blk_cell hbo 1).trans rfl; have f1 := blk_frozen hbo 1; clear r12 b12 g12 hbo CP11 CP HB11 R11 B11 HLT y0 y1 y2))
   go_roundw
   case measure => simp [intOf]; omega
   case rel => exact ⟨i + 1, _, hlt, by go_num, ⟨by have h9 := CQ.out; rw [show (l0_1.take i ++ [t]).length = i + 1 from (by simp; omega)] at h9; rw [HTK.out]; exact h9⟩⟩
  ·have d23 : decide ((i : Int) < (l0_1.length : Int)) = false := decide_eq_false (by omega)
   have hie : i = l0_1.length := by omega
   subst hie
   have hq := CP.out
   rw [List.take_length] at hq
   obtain ⟨D1, d1, rfl⟩ := Kd.S_slice hq.s1
   have CQ := Aside0.mk hq
   have x0 : wr.cell? ⟨w.heap.size + 1 + 1, 0, none⟩ = some (.slice D0 l0_0.length d0) := (blk_cell hq.bo 0).trans rfl
   have x1 : wr.cell? ⟨w.heap.size + 1 + 1, 1, none⟩ = some (.slice D1 l0_1.length d1) := (blk_cell hq.bo 1).trans rfl
   have x2 : wr.cell? ⟨w.heap.size + 1 + 1, 2, none⟩ = some (.slice D2 l0_2.length d2) := (blk_cell hq.bo 2).trans rfl
   clear CP hq
   go_wp2_with (first
    | ((with_reducible refine gate_store (t := 26) (p := 2) rfl ?_); (try simp only [Act.put, List.setIfInBounds_toArray, List.set_cons_zero, List.set_cons_succ]); refine spec_l1copy.row_wr_ rfl 26 (.tmp 2) (.tmp 39) rfl rfl (w.heap.size + 1) rfl (c' := #[.slice D0 l0_0.length d0, .slice D1 l0_1.length d1, .slice D2 l0_2.length d2]) rfl CQ.out.br spec_l1copy.info26_ rfl (by simp [Value.oneCell']) ?_; intro wE hE gE; have BE := Aside0.mk hE; have GE := Aside0.mk gE; clear hE gE))
   refine bodyPost_ret (results_cell_row rfl _ _ (w.heap.size + 1) 26 #[.slice D0 l0_0.length d0, .slice D1 l0_1.length d1, .slice D2 l0_2.length d2] (0, 0) _ rfl BE.out hu26 rfl spec_l1copy.info26_) rfl ?_
   have h := CQ.out
   have hn := h.hn
   have hr := h.hr
   have ne : ∀ k, w.heap.size + 1 + 1 < k → k < wr.heap.size → wE.heap[k]? = wr.heap[k]? := fun k hk hl => GE.out.block k hl (fun e => by injection e with e; omega)
   refine ⟨_, _, _, rfl, Kd.R_mono (Kd.R_step h.r0 (fun k hk hl => ne k hk.2.1 hl)) (fun k hk => hk.1), Kd.S_mono (Kd.S_step h.s1 (fun k hk hl => ne k (by omega) hl)) (fun k hk => ⟨fun e => ?_, fun e => ?_⟩), Kd.R_mono (Kd.R_step h.r2 (fun k hk hl => ne k hk.2.1 hl)) (fun k hk => hk.1), h.hB.grown GE.out h.hB.size (fun k hk => by injection hk with hk; omega)⟩
   ·have := (h.r0.1 k e.symm).2.2; omega
   ·have := (h.r2.1 k e.symm).2.2; omega

end Go.Proofs.Ytpbclogjoangfaa.Q
