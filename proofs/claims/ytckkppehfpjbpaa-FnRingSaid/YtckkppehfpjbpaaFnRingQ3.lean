-- Written by programs of this session (wip/drv.py, wip/mkclaim.py) over the kit's print; not trusted: Lean checks it.
import Derived.Test.YtckkppehfpjbpaaFnRingQ0
import Derived.Test.YtckkppehfpjbpaaFnRingQ1
namespace Go.Proofs.Ytckkppehfpjbpaa.Q
open Go.RowKit Go.Proofs.YtckkppehfpjbpaaW.PrintWords Go.Proofs.YtckkppehfpjbpaaW.PrintLast Go.Proofs.YtckkppehfpjbpaaW.PrintMore
attribute [local go_sem] max2_int min2_int max_two min_two max_three min_three max_four min_four   -- for this text's walks alone
set_option linter.unusedVariables false
set_option linter.unusedSimpArgs false

/-! ### spec_l1can: function 52 -/
def spec_l1can.f (k : Nat) (l0_0 : List Int) (l0_1 : List (S40)) (l0_2 : List Int) (a1 : Int) : Option (Bool) := if 0 ≤ a1 then (if a1 < (l0_1.length : Int) then (if (((rd_T40 l0_1 a1).f1).length : Int) = 0 then (some true) else (if 0 < (((rd_T40 l0_1 a1).f1).length : Int) then ((spec_l1there.f k l0_0 l0_1 l0_2 (rd ((rd_T40 l0_1 a1).f1) 0)).bind fun t133 => (if 0 ≤ (rd ((rd_T40 l0_1 a1).f1) 0) then (if (rd ((rd_T40 l0_1 a1).f1) 0) < (l0_0.length : Int) then (some (decide (t133 < (rd l0_0 (rd ((rd_T40 l0_1 a1).f1) 0))))) else (none)) else (none))) else (none))) else (none)) else (none)
theorem spec_l1can.mono : ∀ a0 a1 a2 a3 k, LeO (spec_l1can.f k a0 a1 a2 a3) (spec_l1can.f (k + 1) a0 a1 a2 a3) := by
 intro a0 a1 a2 a3 k
 unfold spec_l1can.f
 repeat' with_reducible first | exact spec_l1there.mono _ _ _ _ _ | exact LeO.refl _ | exact LeO.none _ | refine LeO.ite ?_ ?_ | refine LeO.bind ?_ (fun _ => ?_)
def spec_l1can.T2 : Bool × List (List Nat × List Nat) := (true, [([], []), ([0], [0]), ([1], [1]), ([2], [2]), ([3], [3]), ([4], [4]), ([4], [4]), ([6, 4], [4, 6]), ([7, 4], [4, 7]), ([8, 4], [4, 8]), ([5, 9, 4, 4], [4, 5, 9]), ([4], [4]), ([11, 4], [4, 11]), ([4], [4]), ([13, 4], [4, 13]), ([14, 4], [4, 14]), ([15, 4], [4, 15]), ([12, 16, 4], [4, 12, 16]), ([17, 4], [4, 17]), ([10, 18, 4], [4, 10, 18]), ([4, 19], [4, 19]), ([20, 10, 0, 1, 2, 3, 4, 5, 6, 7, 8, 9, 10, 11, 12, 13, 14, 15, 16, 17, 18, 19, 20], [20])])
def spec_l1can.B2 : List Nat := [0, 1, 3, 7, 15, 31, 31, 95, 223, 479, 1023, 31, 2079, 31, 8223, 24607, 57375, 129055, 260127, 524287, 1048575, 2097151]
theorem spec_l1can.tab2 : rtab .any (opsOf Try.f52 2) = spec_l1can.T2 := by kernel_rfl
theorem spec_l1can.bits2 : waitsOk spec_l1can.T2.2 spec_l1can.B2 = true := by kernel_rfl
set_option maxHeartbeats 8000000 in
set_option maxRecDepth 100000 in
theorem spec_l1can.calls (k : Nat) (A0_0 : Option Addr) (c0_0 : Nat) (l0_0 : List Int) (A0_1 : Option Addr) (c0_1 : Nat) (l0_1 : List (S40)) (A0_2 : Option Addr) (c0_2 : Nat) (l0_2 : List Int) (a1 : Int) (r : Bool) (w : World) (hr0_0 : Kd.C (Kd.int .i64) w A0_0 l0_0.length l0_0) (hc0_0 : l0_0.length ≤ c0_0) (hr0_1 : Kd.C k40 w A0_1 l0_1.length l0_1) (hc0_1 : l0_1.length ≤ c0_1) (hr0_2 : Kd.C (Kd.int .i64) w A0_2 l0_2.length l0_2) (hc0_2 : l0_2.length ≤ c0_2) (h : spec_l1can.f k l0_0 l0_1 l0_2 a1 = some r) :
  Calls Try.prog 52 #[.agg #[.slice A0_0 l0_0.length c0_0, .slice A0_1 l0_1.length c0_1, .slice A0_2 l0_2.length c0_2], .int .i64 a1] w fun e w' => e = .returned (.bool r) ∧ Below w.heap.size w w' := by
 have hu30 := Try.underlying30
 have hu40 := Try.underlying40
 have HR0_0 := K_ hr0_0
 have HC0_0 := K_ hc0_0
 clear hr0_0 hc0_0
 have HR0_1 := K_ hr0_1
 have HC0_1 := K_ hc0_1
 clear hr0_1 hc0_1
 have HR0_2 := K_ hr0_2
 have HC0_2 := K_ hc0_2
 clear hr0_2 hc0_2
 have HB := K_ (Below.refl w.heap.size w)
 unfold spec_l1can.f at h
 have H := h
 clear h
 replace H := dn_ H
 obtain ⟨c3b0, H⟩ := H
 replace H := dn_ H
 obtain ⟨c4b0, H⟩ := H
 replace H := ps_ H
 rcases H with ⟨c5, H⟩ | ⟨c5, H⟩
 case inl =>
  have c5b0 := beq_iff_eq.mpr c5
  have c5b1 := bne_eq_false_iff_eq.mpr c5
  clear c5
  obtain rfl := Option.some.inj H
  go_enter Try.func52, Try.ntmps52
  try go_wp2_with (first | ((with_reducible refine gate_dst (N := 2) rfl ?_); refine box_event (by rfl) (N := 2) (by rfl) (cs := #[.slice A0_0 l0_0.length c0_0, .slice A0_1 l0_1.length c0_1, .slice A0_2 l0_2.length c0_2]) (t := 30) (by go_simp; try rfl) ?_; intro gb129 hg w6 hbox hb; have BK129 := K_ (hbox); have GW129 := ge_ hg HB.out; have GE129 := ge_ hg HB.out; replace HB := K_ (below_step HB.out hb); clear hb hbox hg; obtain ⟨hcz7_0, hcz7_1, hcz7_2, hfz7_0, hfz7_1, hfz7_2⟩ := blkf3_ BK129.out; have p130 : 0 ≤ (a1 : Int) := of_decide_eq_true (by assumption); have q130 : a1 < (l0_1.length : Int) := of_decide_eq_true (by assumption); obtain ⟨ad130, A130_1, c130_1, e130, hx130_0, hx130_1, hx130_2, hl130_1, hi130_1⟩ := at_T40 HR0_1.out a1 p130 q130; cases e130; replace hx130_0 := (HB.out.cell (World.block_lt_of_cell? w _ hx130_0)).trans hx130_0; replace hx130_1 := (HB.out.cell (World.block_lt_of_cell? w _ hx130_1)).trans hx130_1; replace hx130_2 := (HB.out.cell (World.block_lt_of_cell? w _ hx130_2)).trans hx130_2; have HR130_1 := K_ hi130_1; have HC130_1 := K_ hl130_1; clear hi130_1 hl130_1; replace p130 := eq_true p130; replace q130 := eq_true q130) | ((with_reducible refine gate_dst (N := 5) rfl ?_); refine box_event (by rfl) (N := 5) (by rfl) (cs := #[.int .i64 0, .slice none 0 0, .int .i64 0]) (t := 40) (by go_simp; try rfl) ?_; intro gb131 hg w8 hbox hb; have BK131 := K_ (hbox); have GW131 := ge_ hg HB.out; have GE131 := ge_ hg HB.out; have NB129_131 := nl_ hg BK129.out; have NB131_129 := ng_ hg BK129.out; replace BK129 := K_ (blk_below BK129.out hb); replace HB := K_ (below_step HB.out hb); clear hb hbox hg; have hnb9 := NB131_129.out; have hnc9 := NB129_131.out; obtain ⟨hcz10_0, hcz10_1, hcz10_2, hfz10_0, hfz10_1, hfz10_2⟩ := blkf3_ BK131.out))
  have n0_ : Aside0 ((((w8.setCell ⟨gb131, 0, none⟩ (.int .i64 ((rd_T40 l0_1 a1).f0))).setCell ⟨gb131, 1, none⟩ (.slice A130_1 ((rd_T40 l0_1 a1).f1).length c130_1)).setCell ⟨gb131, 2, none⟩ (.int .i64 ((rd_T40 l0_1 a1).f2))).heap[gb129]? = some (.cells #[.slice A0_0 l0_0.length c0_0, .slice (some ad130) l0_1.length c0_1, .slice A0_2 l0_2.length c0_2] 30 (0, 0))) := ⟨by refine blk_far ?_ NB129_131.out _; refine blk_far ?_ NB129_131.out _; refine blk_far ?_ NB129_131.out _; exact BK129.out⟩
  have n1_ : Aside0 ((((w8.setCell ⟨gb131, 0, none⟩ (.int .i64 ((rd_T40 l0_1 a1).f0))).setCell ⟨gb131, 1, none⟩ (.slice A130_1 ((rd_T40 l0_1 a1).f1).length c130_1)).setCell ⟨gb131, 2, none⟩ (.int .i64 ((rd_T40 l0_1 a1).f2))).heap[gb131]? = some (.cells #[.int .i64 ((rd_T40 l0_1 a1).f0), .slice A130_1 ((rd_T40 l0_1 a1).f1).length c130_1, .int .i64 ((rd_T40 l0_1 a1).f2)] 40 (0, 0))) := ⟨by refine blk_put (cs := #[.int .i64 ((rd_T40 l0_1 a1).f0), .slice A130_1 ((rd_T40 l0_1 a1).f1).length c130_1, .int .i64 0]) ?_ 2 _ rfl; refine blk_put (cs := #[.int .i64 ((rd_T40 l0_1 a1).f0), .slice none 0 0, .int .i64 0]) ?_ 1 _ rfl; refine blk_put (cs := #[.int .i64 0, .slice none 0 0, .int .i64 0]) ?_ 0 _ rfl; exact BK131.out⟩
  have n2_ : Aside0 (Below w.heap.size w (((w8.setCell ⟨gb131, 0, none⟩ (.int .i64 ((rd_T40 l0_1 a1).f0))).setCell ⟨gb131, 1, none⟩ (.slice A130_1 ((rd_T40 l0_1 a1).f1).length c130_1)).setCell ⟨gb131, 2, none⟩ (.int .i64 ((rd_T40 l0_1 a1).f2)))) := ⟨by repeat (first | exact HB.out | refine below_set ?_ GE129.out | refine below_set ?_ GE131.out)⟩
  clear BK129
  clear BK131
  clear HB
  generalize (((w8.setCell ⟨gb131, 0, none⟩ (.int .i64 ((rd_T40 l0_1 a1).f0))).setCell ⟨gb131, 1, none⟩ (.slice A130_1 ((rd_T40 l0_1 a1).f1).length c130_1)).setCell ⟨gb131, 2, none⟩ (.int .i64 ((rd_T40 l0_1 a1).f2))) = w11 at n0_ n1_ n2_ ⊢
  have BK129 := n0_
  have BK131 := n1_
  have HB := n2_
  clear n0_ n1_ n2_
  replace BK129 := K_ (blk_drew BK129.out)
  replace BK131 := K_ (blk_drew BK131.out)
  replace HB := K_ (below_drew1 HB.out)
  refine start_ (n := 22) (S := fun w' => w'.cell? ⟨gb131, 0, none⟩ = some (.int .i64 ((rd_T40 l0_1 a1).f0)) ∧ w'.cell? ⟨gb131, 1, none⟩ = some (.slice A130_1 ((rd_T40 l0_1 a1).f1).length c130_1) ∧ w'.cell? ⟨gb131, 2, none⟩ = some (.int .i64 ((rd_T40 l0_1 a1).f2))) (ds := []) #[ff, ff, ff, ff, ff, ff, ff, ff, ff, ff, ff, ff, ff, ff, ff, ff, ff, ff, ff, ff, ff, ff] (by kernel_rfl) rfl rfl ⟨(blk_cell BK131.out 0).trans rfl, (blk_cell BK131.out 1).trans rfl, (blk_cell BK131.out 2).trans rfl⟩ (fun hHeld => ?_); refine with_tabW spec_l1can.tab2 spec_l1can.bits2 (fun HT_ HW_ => ?_)
  generalize w11.drew = w12 at BK129 BK131 HB hHeld ⊢
  refine pq_ 0 11 (M_ 22 1) HT_ ?_
  refine tq_ 1 12 (M_ 22 3) HT_ HW_ hHeld ?_
  refine pq_ 2 13 (M_ 22 7) HT_ ?_
  refine pq_ 3 14 (M_ 22 15) HT_ ?_
  refine pq_ 4 15 (M_ 22 31) HT_ ?_
  refine pure_ (i := 5) (N := some 16) (v := undef) (a' := ?_) (M_ 22 63) rfl rfl (any_of HT_.out (by kernel_rfl)) (fun _ _ _ h => h) (Or.inr ⟨by rfl, rfl⟩) ?_ ?_
  rotate_left
  ·simp only [P_, i64_w, i32_w]
   rfl
  refine pure_ (i := 6) (N := some 17) (v := undef) (a' := ?_) (M_ 22 127) rfl rfl (any_of HT_.out (by kernel_rfl)) (fun _ _ _ h => h) (Or.inr ⟨by rfl, rfl⟩) ?_ ?_
  rotate_left
  ·simp only [P_, i64_w, i32_w]
   rfl
  refine pure_ (i := 7) (N := some 18) (v := undef) (a' := ?_) (M_ 22 255) rfl rfl (any_of HT_.out (by kernel_rfl)) (fun _ _ _ h => h) (Or.inr ⟨by rfl, rfl⟩) ?_ ?_
  rotate_left
  ·simp only [P_, i64_w, i32_w]
   rfl
  refine pure_ (i := 8) (N := some 19) (v := undef) (a' := ?_) (M_ 22 511) rfl rfl (any_of HT_.out (by kernel_rfl)) (fun _ _ _ h => h) (Or.inr ⟨by rfl, rfl⟩) ?_ ?_
  rotate_left
  ·simp only [P_, i64_w, i32_w]
   rfl
  refine pure_ (i := 9) (N := some 20) (v := undef) (a' := ?_) (M_ 22 1023) rfl rfl (any_of HT_.out (by kernel_rfl)) (fun _ _ _ h => h) (Or.inr ⟨by rfl, rfl⟩) ?_ ?_
  rotate_left
  ·simp only [P_, i64_w, i32_w]
   rfl
  refine pure_ (i := 10) (N := some 21) (v := undef) (a' := ?_) (M_ 22 2047) rfl rfl (any_of HT_.out (by kernel_rfl)) (fun _ _ _ h => h) (Or.inr ⟨by rfl, rfl⟩) ?_ ?_
  rotate_left
  ·simp only [P_, i64_w, i32_w]
   rfl
  refine pure_ (i := 11) (N := some 22) (v := undef) (a' := ?_) (M_ 22 4095) rfl rfl (any_of HT_.out (by kernel_rfl)) (fun _ _ _ h => h) (Or.inr ⟨by rfl, rfl⟩) ?_ ?_
  rotate_left
  ·simp only [P_, i64_w, i32_w]
   rfl
  refine pure_ (i := 12) (N := some 23) (v := undef) (a' := ?_) (M_ 22 8191) rfl rfl (any_of HT_.out (by kernel_rfl)) (fun _ _ _ h => h) (Or.inr ⟨by rfl, rfl⟩) ?_ ?_
  rotate_left
  ·simp only [P_, i64_w, i32_w]
   rfl
  refine pure_ (i := 13) (N := some 24) (v := undef) (a' := ?_) (M_ 22 16383) rfl rfl (any_of HT_.out (by kernel_rfl)) (fun _ _ _ h => h) (Or.inr ⟨by rfl, rfl⟩) ?_ ?_
  rotate_left
  ·simp only [P_, i64_w, i32_w]
   rfl
  refine pure_ (i := 14) (N := some 25) (v := undef) (a' := ?_) (M_ 22 32767) rfl rfl (any_of HT_.out (by kernel_rfl)) (fun _ _ _ h => h) (Or.inr ⟨by rfl, rfl⟩) ?_ ?_
  rotate_left
  ·simp only [P_, i64_w, i32_w]
   rfl
  refine pure_ (i := 15) (N := some 26) (v := undef) (a' := ?_) (M_ 22 65535) rfl rfl (any_of HT_.out (by kernel_rfl)) (fun _ _ _ h => h) (Or.inr ⟨by rfl, rfl⟩) ?_ ?_
  rotate_left
  ·simp only [P_, i64_w, i32_w]
   rfl
  refine pure_ (i := 16) (N := some 27) (v := undef) (a' := ?_) (M_ 22 131071) rfl rfl (any_of HT_.out (by kernel_rfl)) (fun _ _ _ h => h) (Or.inr ⟨by rfl, rfl⟩) ?_ ?_
  rotate_left
  ·simp only [P_, i64_w, i32_w]
   rfl
  refine pure_ (i := 17) (N := some 28) (v := undef) (a' := ?_) (M_ 22 262143) rfl rfl (any_of HT_.out (by kernel_rfl)) (fun _ _ _ h => h) (Or.inr ⟨by rfl, rfl⟩) ?_ ?_
  rotate_left
  ·simp only [P_, i64_w, i32_w]
   rfl
  refine pure_ (i := 18) (N := some 29) (v := undef) (a' := ?_) (M_ 22 524287) rfl rfl (any_of HT_.out (by kernel_rfl)) (fun _ _ _ h => h) (Or.inr ⟨by rfl, rfl⟩) ?_ ?_
  rotate_left
  ·simp only [P_, i64_w, i32_w]
   rfl
  refine pure_ (i := 19) (N := some 30) (v := undef) (a' := ?_) (M_ 22 1048575) rfl rfl (any_of HT_.out (by kernel_rfl)) (fun _ _ _ h => h) (Or.inr ⟨by rfl, rfl⟩) ?_ ?_
  rotate_left
  ·simp only [P_, i64_w, i32_w]
   rfl
  refine pq_ 20 31 (M_ 22 2097151) HT_ ?_
  refine pq_ 21 4 (M_ 22 4194303) HT_ ?_
  refine done_ (done_of HT_.out (by kernel_rfl)) ?_
  try go_wp2
  go_ret
  exact ⟨rfl, HB.out⟩
 have c5b0 := beq_eq_false_iff_ne.mpr c5
 have c5b1 := bne_iff_ne.mpr c5
 have c5b2 : ¬ (((rd_T40 l0_1 a1).f1) = []) := fun h_ => c5 (by rw [h_]; rfl)
 replace H := pn_ H
 obtain ⟨c13, H⟩ := H
 have c13b0 := decide_eq_true c13
 have c13b1 : decide (0 < ((rd_T40 l0_1 a1).f1).length) = true := decide_eq_true (by omega)
 clear c13
 replace H := Option.bind_eq_some_iff.mp H
 obtain ⟨t133, A140, H⟩ := H
 try dsimp only at H
 have A14 := K_ A140
 clear A140
 replace H := dn_ H
 obtain ⟨c15b0, H⟩ := H
 replace H := dn_ H
 obtain ⟨c16b0, H⟩ := H
 obtain rfl := Option.some.inj H
 go_enter Try.func52, Try.ntmps52
 try go_wp2_with (first | ((with_reducible refine gate_dst (N := 2) rfl ?_); refine box_event (by rfl) (N := 2) (by rfl) (cs := #[.slice A0_0 l0_0.length c0_0, .slice A0_1 l0_1.length c0_1, .slice A0_2 l0_2.length c0_2]) (t := 30) (by go_simp; try rfl) ?_; intro gb129 hg w17 hbox hb; have BK129 := K_ (hbox); have GW129 := ge_ hg HB.out; have GE129 := ge_ hg HB.out; replace HB := K_ (below_step HB.out hb); clear hb hbox hg; obtain ⟨hcz18_0, hcz18_1, hcz18_2, hfz18_0, hfz18_1, hfz18_2⟩ := blkf3_ BK129.out; have p130 : 0 ≤ (a1 : Int) := of_decide_eq_true (by assumption); have q130 : a1 < (l0_1.length : Int) := of_decide_eq_true (by assumption); obtain ⟨ad130, A130_1, c130_1, e130, hx130_0, hx130_1, hx130_2, hl130_1, hi130_1⟩ := at_T40 HR0_1.out a1 p130 q130; cases e130; replace hx130_0 := (HB.out.cell (World.block_lt_of_cell? w _ hx130_0)).trans hx130_0; replace hx130_1 := (HB.out.cell (World.block_lt_of_cell? w _ hx130_1)).trans hx130_1; replace hx130_2 := (HB.out.cell (World.block_lt_of_cell? w _ hx130_2)).trans hx130_2; have HR130_1 := K_ hi130_1; have HC130_1 := K_ hl130_1; clear hi130_1 hl130_1; replace p130 := eq_true p130; replace q130 := eq_true q130) | ((with_reducible refine gate_dst (N := 5) rfl ?_); refine box_event (by rfl) (N := 5) (by rfl) (cs := #[.int .i64 0, .slice none 0 0, .int .i64 0]) (t := 40) (by go_simp; try rfl) ?_; intro gb131 hg w19 hbox hb; have BK131 := K_ (hbox); have GW131 := ge_ hg HB.out; have GE131 := ge_ hg HB.out; have NB129_131 := nl_ hg BK129.out; have NB131_129 := ng_ hg BK129.out; replace BK129 := K_ (blk_below BK129.out hb); replace HB := K_ (below_step HB.out hb); clear hb hbox hg; have hnb20 := NB131_129.out; have hnc20 := NB129_131.out; obtain ⟨hcz21_0, hcz21_1, hcz21_2, hfz21_0, hfz21_1, hfz21_2⟩ := blkf3_ BK131.out))
 have n0_ : Aside0 ((((w19.setCell ⟨gb131, 0, none⟩ (.int .i64 ((rd_T40 l0_1 a1).f0))).setCell ⟨gb131, 1, none⟩ (.slice A130_1 ((rd_T40 l0_1 a1).f1).length c130_1)).setCell ⟨gb131, 2, none⟩ (.int .i64 ((rd_T40 l0_1 a1).f2))).heap[gb129]? = some (.cells #[.slice A0_0 l0_0.length c0_0, .slice (some ad130) l0_1.length c0_1, .slice A0_2 l0_2.length c0_2] 30 (0, 0))) := ⟨by refine blk_far ?_ NB129_131.out _; refine blk_far ?_ NB129_131.out _; refine blk_far ?_ NB129_131.out _; exact BK129.out⟩
 have n1_ : Aside0 ((((w19.setCell ⟨gb131, 0, none⟩ (.int .i64 ((rd_T40 l0_1 a1).f0))).setCell ⟨gb131, 1, none⟩ (.slice A130_1 ((rd_T40 l0_1 a1).f1).length c130_1)).setCell ⟨gb131, 2, none⟩ (.int .i64 ((rd_T40 l0_1 a1).f2))).heap[gb131]? = some (.cells #[.int .i64 ((rd_T40 l0_1 a1).f0), .slice A130_1 ((rd_T40 l0_1 a1).f1).length c130_1, .int .i64 ((rd_T40 l0_1 a1).f2)] 40 (0, 0))) := ⟨by refine blk_put (cs := #[.int .i64 ((rd_T40 l0_1 a1).f0), .slice A130_1 ((rd_T40 l0_1 a1).f1).length c130_1, .int .i64 0]) ?_ 2 _ rfl; refine blk_put (cs := #[.int .i64 ((rd_T40 l0_1 a1).f0), .slice none 0 0, .int .i64 0]) ?_ 1 _ rfl; refine blk_put (cs := #[.int .i64 0, .slice none 0 0, .int .i64 0]) ?_ 0 _ rfl; exact BK131.out⟩
 have n2_ : Aside0 (Below w.heap.size w (((w19.setCell ⟨gb131, 0, none⟩ (.int .i64 ((rd_T40 l0_1 a1).f0))).setCell ⟨gb131, 1, none⟩ (.slice A130_1 ((rd_T40 l0_1 a1).f1).length c130_1)).setCell ⟨gb131, 2, none⟩ (.int .i64 ((rd_T40 l0_1 a1).f2)))) := ⟨by repeat (first | exact HB.out | refine below_set ?_ GE129.out | refine below_set ?_ GE131.out)⟩
 clear BK129
 clear BK131
 clear HB
 generalize (((w19.setCell ⟨gb131, 0, none⟩ (.int .i64 ((rd_T40 l0_1 a1).f0))).setCell ⟨gb131, 1, none⟩ (.slice A130_1 ((rd_T40 l0_1 a1).f1).length c130_1)).setCell ⟨gb131, 2, none⟩ (.int .i64 ((rd_T40 l0_1 a1).f2))) = w22 at n0_ n1_ n2_ ⊢
 have BK129 := n0_
 have BK131 := n1_
 have HB := n2_
 clear n0_ n1_ n2_
 replace BK129 := K_ (blk_drew BK129.out)
 replace BK131 := K_ (blk_drew BK131.out)
 replace HB := K_ (below_drew1 HB.out)
 have p132 : 0 ≤ (0 : Int) := (by omega)
 have q132 : 0 < (((rd_T40 l0_1 a1).f1).length : Int) := of_decide_eq_true (by assumption)
 obtain ⟨ad132, e132, hx132_0⟩ := Kd.at_int HR130_1.out 0 p132 q132
 have hw132_0 := hx132_0
 (try rw [show ((0 : Int)).toNat = 0 from rfl] at hw132_0)
 (try rw [show 0 * 1 = 0 from rfl] at hw132_0)
 (try rw [Addr.add_zero'] at hw132_0)
 cases e132
 have qi132 : (0 < ((rd_T40 l0_1 a1).f1).length) = True := eq_true (by omega)
 (try rw [show ((0 : Int)).toNat = 0 from rfl] at hx132_0)
 (try rw [Addr.add_zero'] at hx132_0)
 replace hx132_0 := (HB.out.cell (World.block_lt_of_cell? w _ hx132_0)).trans hx132_0
 replace p132 := eq_true p132
 replace q132 := eq_true q132
 have p134 : 0 ≤ (0 : Int) := (by omega)
 have q134 : 0 < (((rd_T40 l0_1 a1).f1).length : Int) := of_decide_eq_true (by assumption)
 obtain ⟨ad134, e134, hx134_0⟩ := Kd.at_int HR130_1.out 0 p134 q134
 have hw134_0 := hx134_0
 (try rw [show ((0 : Int)).toNat = 0 from rfl] at hw134_0)
 (try rw [show 0 * 1 = 0 from rfl] at hw134_0)
 (try rw [Addr.add_zero'] at hw134_0)
 obtain rfl : ad132 = ad134 := (by injection e134)
 have qi134 : (0 < ((rd_T40 l0_1 a1).f1).length) = True := eq_true (by omega)
 (try rw [show ((0 : Int)).toNat = 0 from rfl] at hx134_0)
 (try rw [Addr.add_zero'] at hx134_0)
 replace hx134_0 := (HB.out.cell (World.block_lt_of_cell? w _ hx134_0)).trans hx134_0
 replace p134 := eq_true p134
 replace q134 := eq_true q134
 have p135 : 0 ≤ ((rd ((rd_T40 l0_1 a1).f1) 0) : Int) := of_decide_eq_true (by assumption)
 have q135 : (rd ((rd_T40 l0_1 a1).f1) 0) < (l0_0.length : Int) := of_decide_eq_true (by assumption)
 obtain ⟨ad135, e135, hx135_0⟩ := Kd.at_int HR0_0.out (rd ((rd_T40 l0_1 a1).f1) 0) p135 q135
 have hw135_0 := hx135_0
 cases e135
 replace hx135_0 := (HB.out.cell (World.block_lt_of_cell? w _ hx135_0)).trans hx135_0
 replace p135 := eq_true p135
 replace q135 := eq_true q135
 refine start_ (n := 22) (S := fun w' => w'.cell? ⟨gb131, 0, none⟩ = some (.int .i64 ((rd_T40 l0_1 a1).f0)) ∧ w'.cell? ⟨gb131, 1, none⟩ = some (.slice (some ad132) ((rd_T40 l0_1 a1).f1).length c130_1) ∧ w'.cell? ⟨gb131, 2, none⟩ = some (.int .i64 ((rd_T40 l0_1 a1).f2)) ∧ w'.cell? ⟨gb129, 0, none⟩ = some (.slice (some ad135) l0_0.length c0_0) ∧ w'.cell? ⟨gb129, 1, none⟩ = some (.slice (some ad130) l0_1.length c0_1) ∧ w'.cell? ⟨gb129, 2, none⟩ = some (.slice A0_2 l0_2.length c0_2) ∧ w'.cell? ad132 = some (.int .i64 (rd ((rd_T40 l0_1 a1).f1) 0)) ∧ w'.cell? ad132 = some (.int .i64 (rd ((rd_T40 l0_1 a1).f1) 0)) ∧ w'.cell? (ad135.add ((rd ((rd_T40 l0_1 a1).f1) 0)).toNat) = some (.int .i64 (rd l0_0 (rd ((rd_T40 l0_1 a1).f1) 0)))) (ds := []) #[ff, ff, ff, ff, ff, ff, ff, ff, ff, ff, ff, ff, ff, ff, ff, ff, ff, ff, ff, ff, ff, ff] (by kernel_rfl) rfl rfl ⟨(blk_cell BK131.out 0).trans rfl, (blk_cell BK131.out 1).trans rfl, (blk_cell BK131.out 2).trans rfl, (blk_cell BK129.out 0).trans rfl, (blk_cell BK129.out 1).trans rfl, (blk_cell BK129.out 2).trans rfl, ((HB.out.cell (World.block_lt_of_cell? w _ hw132_0)).trans hw132_0), ((HB.out.cell (World.block_lt_of_cell? w _ hw134_0)).trans hw134_0), ((HB.out.cell (World.block_lt_of_cell? w _ hw135_0)).trans hw135_0)⟩ (fun hHeld => ?_); refine with_tabW spec_l1can.tab2 spec_l1can.bits2 (fun HT_ HW_ => ?_)
 generalize w22.drew = w23 at BK129 BK131 HB hx132_0 hx134_0 hx135_0 hHeld ⊢
 refine pq_ 0 11 (M_ 22 1) HT_ ?_
 refine tq_ 1 12 (M_ 22 3) HT_ HW_ hHeld ?_
 refine pq_ 2 13 (M_ 22 7) HT_ ?_
 refine pq_ 3 14 (M_ 22 15) HT_ ?_
 refine pq_ 4 15 (M_ 22 31) HT_ ?_
 refine pq_ 6 17 (M_ 22 95) HT_ ?_
 refine pq_ 11 22 (M_ 22 2143) HT_ ?_
 refine pq_ 13 24 (M_ 22 10335) HT_ ?_
 refine tq_ 5 16 (M_ 22 10367) HT_ HW_ hHeld ?_
 refine tq_ 7 18 (M_ 22 10495) HT_ HW_ hHeld ?_
 refine pq_ 8 19 (M_ 22 10751) HT_ ?_
 refine tq_ 9 20 (M_ 22 11263) HT_ HW_ hHeld ?_
 refine tq_ 12 23 (M_ 22 15359) HT_ HW_ hHeld ?_
 refine tq_ 14 25 (M_ 22 31743) HT_ HW_ hHeld ?_
 refine pq_ 15 26 (M_ 22 64511) HT_ ?_
 refine tq_ 16 27 (M_ 22 130047) HT_ HW_ hHeld ?_
 refine pq_ 17 28 (M_ 22 261119) HT_ ?_
 refine tq_ 18 29 (M_ 22 523263) HT_ HW_ hHeld ?_
 refine one_ (i := 10) (N := some 21) (M_ 22 524287) rfl rfl (one_of HT_.out (by kernel_rfl)) (by decide) (fun K hK => ?_)
 refine goes_ Try.func39 (by kernel_rfl) rfl #[.agg #[.slice (some ad135) l0_0.length c0_0, .slice (some ad130) l0_1.length c0_1, .slice A0_2 l0_2.length c0_2], .int .i64 (rd ((rd_T40 l0_1 a1).f1) 0)] (by rfl) rfl rfl (by simp only [List.map_toArray, List.map_cons, List.map_nil]; try rfl) ?_
 with_reducible refine (spec_l1there.calls k _ _ l0_0 _ _ l0_1 _ _ l0_2 (rd ((rd_T40 l0_1 a1).f1) 0) t133 _ ?side1 ?side2 ?side3 ?side4 ?side5 ?side6 A14.out).mono ?_
 (case side1 => exact (Kd.C_below HR0_0.out HB.out))
 (case side2 => exact HC0_0.out)
 (case side3 => exact (Kd.C_below HR0_1.out HB.out))
 (case side4 => exact HC0_1.out)
 (case side5 => exact (Kd.C_below HR0_2.out HB.out))
 (case side6 => exact HC0_2.out)
 rintro e w24 ⟨rfl, hb⟩
 refine ⟨_, rfl, ?_⟩
 replace BK129 := K_ (blk_below BK129.out hb)
 replace BK131 := K_ (blk_below BK131.out hb)
 replace HB := K_ (below_step HB.out hb)
 clear hb
 skip
 skip
 skip
 refine hK.out _ _ ⟨(blk_cell BK131.out 0).trans rfl, (blk_cell BK131.out 1).trans rfl, (blk_cell BK131.out 2).trans rfl, (blk_cell BK129.out 0).trans rfl, (blk_cell BK129.out 1).trans rfl, (blk_cell BK129.out 2).trans rfl, ((HB.out.cell (World.block_lt_of_cell? w _ hw132_0)).trans hw132_0), ((HB.out.cell (World.block_lt_of_cell? w _ hw134_0)).trans hw134_0), ((HB.out.cell (World.block_lt_of_cell? w _ hw135_0)).trans hw135_0)⟩ (fun hHeld => ?_)
 clear hK K
 refine norm_ (a' := ?_) ?_ ?_
 rotate_left
 ·show Act.put _ (some 21) _ = _
  simp only [P_, i64_w, i32_w]
  rfl
 refine pq_ 19 30 (M_ 22 1048575) HT_ ?_
 refine pq_ 20 31 (M_ 22 2097151) HT_ ?_
 refine pq_ 21 4 (M_ 22 4194303) HT_ ?_
 refine done_ (done_of HT_.out (by kernel_rfl)) ?_
 try go_wp2
 go_ret
 exact ⟨rfl, HB.out⟩
end Go.Proofs.Ytckkppehfpjbpaa.Q
