-- Written by programs of this session (wip/drv.py, wip/mkclaim.py) over the kit's print; not trusted: Lean checks it.
import Derived.Test.YtkcocomehhlpmaaDoorFnSpoiltQ0
import Derived.Test.YtkcocomehhlpmaaDoorFnSpoiltQ2
namespace Go.Proofs.YtkcocomehhlpmaaDoor.Q
open Go.RowKit Go.Proofs.YtkcocomehhlpmaaDoorW.PrintWords Go.Proofs.YtkcocomehhlpmaaDoorW.PrintLast Go.Proofs.YtkcocomehhlpmaaDoorW.PrintMore
attribute [local go_sem] max2_int min2_int max_two min_two max_three min_three max_four min_four   -- for this text's walks alone
set_option linter.unusedVariables false
set_option linter.unusedSimpArgs false

/-! ### spec_l1can: function 22 -/
def spec_l1can.f (k : Nat) (l0_0 : List Int) (l0_1 : List (S48)) (l0_2 : List Int) (a1 : Int) : Option (Bool) := if 0 ≤ a1 then (if a1 < (l0_1.length : Int) then (if (((rd_T48 l0_1 a1).f1).length : Int) = 0 then (some true) else (if 0 < (((rd_T48 l0_1 a1).f1).length : Int) then ((spec_l1there.f k l0_0 l0_1 l0_2 (rd ((rd_T48 l0_1 a1).f1) 0)).bind fun t134 => (if 0 ≤ (rd ((rd_T48 l0_1 a1).f1) 0) then (if (rd ((rd_T48 l0_1 a1).f1) 0) < (l0_0.length : Int) then (some (decide (t134 < (rd l0_0 (rd ((rd_T48 l0_1 a1).f1) 0))))) else (none)) else (none))) else (none))) else (none)) else (none)
theorem spec_l1can.mono : ∀ a0 a1 a2 a3 k, LeO (spec_l1can.f k a0 a1 a2 a3) (spec_l1can.f (k + 1) a0 a1 a2 a3) := by
 intro a0 a1 a2 a3 k
 unfold spec_l1can.f
 repeat' with_reducible first | exact spec_l1there.mono _ _ _ _ _ | exact LeO.refl _ | exact LeO.none _ | refine LeO.ite ?_ ?_ | refine LeO.bind ?_ (fun _ => ?_)
def spec_l1can.T2 : Bool × List (List Nat × List Nat) := (true, [([], []), ([0], [0]), ([1], [1]), ([2], [2]), ([3], [3]), ([4], [4]), ([4], [4]), ([6, 4], [4, 6]), ([7, 4], [4, 7]), ([8, 4], [4, 8]), ([5, 9, 4, 4], [4, 5, 9]), ([4], [4]), ([11, 4], [4, 11]), ([4], [4]), ([13, 4], [4, 13]), ([14, 4], [4, 14]), ([15, 4], [4, 15]), ([12, 16, 4], [4, 12, 16]), ([17, 4], [4, 17]), ([10, 18, 4], [4, 10, 18]), ([4, 19], [4, 19]), ([20, 10, 0, 1, 2, 3, 4, 5, 6, 7, 8, 9, 10, 11, 12, 13, 14, 15, 16, 17, 18, 19, 20], [20])])
def spec_l1can.B2 : List Nat := [0, 1, 3, 7, 15, 31, 31, 95, 223, 479, 1023, 31, 2079, 31, 8223, 24607, 57375, 129055, 260127, 524287, 1048575, 2097151]
theorem spec_l1can.tab2 : rtab .any (opsOf Tryd.f22 2) = spec_l1can.T2 := by kernel_rfl
theorem spec_l1can.bits2 : waitsOk spec_l1can.T2.2 spec_l1can.B2 = true := by kernel_rfl
set_option maxHeartbeats 8000000 in
set_option maxRecDepth 100000 in
theorem spec_l1can.calls (k : Nat) (A0_0 : Option Addr) (c0_0 : Nat) (l0_0 : List Int) (A0_1 : Option Addr) (c0_1 : Nat) (l0_1 : List (S48)) (A0_2 : Option Addr) (c0_2 : Nat) (l0_2 : List Int) (a1 : Int) (r : Bool) (w : World) (hr0_0 : Kd.C (Kd.int .i64) w A0_0 l0_0.length l0_0) (hc0_0 : l0_0.length ≤ c0_0) (hr0_1 : Kd.C k48 w A0_1 l0_1.length l0_1) (hc0_1 : l0_1.length ≤ c0_1) (hr0_2 : Kd.C (Kd.int .i64) w A0_2 l0_2.length l0_2) (hc0_2 : l0_2.length ≤ c0_2) (h : spec_l1can.f k l0_0 l0_1 l0_2 a1 = some r) :
  Calls Tryd.prog 22 #[.agg #[.slice A0_0 l0_0.length c0_0, .slice A0_1 l0_1.length c0_1, .slice A0_2 l0_2.length c0_2], .int .i64 a1] w fun e w' => e = .returned (.bool r) ∧ Below w.heap.size w w' := by
 have hu30 := Tryd.underlying30
 have hu48 := Tryd.underlying48
 have HR0_0 := K_ hr0_0
 have HC0_0 := K_ hc0_0
 clear hr0_0 hc0_0
 have HR0_1 := K_ hr0_1
 have HC0_1 := K_ hc0_1
 clear hr0_1 hc0_1
 have HR0_2 := K_ hr0_2
 have HC0_2 := K_ hc0_2
 clear hr0_2 hc0_2
 have HB := K_ (Below.refl w.heap.size w)
 unfold spec_l1can.f at h
 have H := h
 clear h
 replace H := dn_ H
 obtain ⟨c3b0, H⟩ := H
 replace H := dn_ H
 obtain ⟨c4b0, H⟩ := H
 replace H := ps_ H
 rcases H with ⟨c5, H⟩ | ⟨c5, H⟩
 case inl =>
  have c5b0 := beq_iff_eq.mpr c5
  have c5b1 := bne_eq_false_iff_eq.mpr c5
  clear c5
  obtain rfl := Option.some.inj H
  go_enter Tryd.func22, Tryd.ntmps22
  try go_wp2_with (first | ((with_reducible refine gate_dst (N := 2) rfl ?_); refine box_event (by rfl) (N := 2) (by rfl) (cs := #[.slice A0_0 l0_0.length c0_0, .slice A0_1 l0_1.length c0_1, .slice A0_2 l0_2.length c0_2]) (t := 30) (by go_simp; try rfl) ?_; intro gb130 hg w6 hbox hb; have BK130 := K_ (hbox); have GW130 := ge_ hg HB.out; have GE130 := ge_ hg HB.out; replace HB := K_ (below_step HB.out hb); clear hb hbox hg; obtain ⟨hcz7_0, hcz7_1, hcz7_2, hfz7_0, hfz7_1, hfz7_2⟩ := blkf3_ BK130.out; have p131 : 0 ≤ (a1 : Int) := of_decide_eq_true (by assumption); have q131 : a1 < (l0_1.length : Int) := of_decide_eq_true (by assumption); obtain ⟨ad131, A131_1, c131_1, e131, hx131_0, hx131_1, hx131_2, hl131_1, hi131_1⟩ := at_T48 HR0_1.out a1 p131 q131; cases e131; replace hx131_0 := (HB.out.cell (World.block_lt_of_cell? w _ hx131_0)).trans hx131_0; replace hx131_1 := (HB.out.cell (World.block_lt_of_cell? w _ hx131_1)).trans hx131_1; replace hx131_2 := (HB.out.cell (World.block_lt_of_cell? w _ hx131_2)).trans hx131_2; have HR131_1 := K_ hi131_1; have HC131_1 := K_ hl131_1; clear hi131_1 hl131_1; replace p131 := eq_true p131; replace q131 := eq_true q131) | ((with_reducible refine gate_dst (N := 5) rfl ?_); refine box_event (by rfl) (N := 5) (by rfl) (cs := #[.int .i64 0, .slice none 0 0, .int .i64 0]) (t := 48) (by go_simp; try rfl) ?_; intro gb132 hg w8 hbox hb; have BK132 := K_ (hbox); have GW132 := ge_ hg HB.out; have GE132 := ge_ hg HB.out; have NB130_132 := nl_ hg BK130.out; have NB132_130 := ng_ hg BK130.out; replace BK130 := K_ (blk_below BK130.out hb); replace HB := K_ (below_step HB.out hb); clear hb hbox hg; have hnb9 := NB132_130.out; have hnc9 := NB130_132.out; obtain ⟨hcz10_0, hcz10_1, hcz10_2, hfz10_0, hfz10_1, hfz10_2⟩ := blkf3_ BK132.out))
  have n0_ : Aside0 ((((w8.setCell ⟨gb132, 0, none⟩ (.int .i64 ((rd_T48 l0_1 a1).f0))).setCell ⟨gb132, 1, none⟩ (.slice A131_1 ((rd_T48 l0_1 a1).f1).length c131_1)).setCell ⟨gb132, 2, none⟩ (.int .i64 ((rd_T48 l0_1 a1).f2))).heap[gb130]? = some (.cells #[.slice A0_0 l0_0.length c0_0, .slice (some ad131) l0_1.length c0_1, .slice A0_2 l0_2.length c0_2] 30 (0, 0))) := ⟨by refine blk_far ?_ NB130_132.out _; refine blk_far ?_ NB130_132.out _; refine blk_far ?_ NB130_132.out _; exact BK130.out⟩
  have n1_ : Aside0 ((((w8.setCell ⟨gb132, 0, none⟩ (.int .i64 ((rd_T48 l0_1 a1).f0))).setCell ⟨gb132, 1, none⟩ (.slice A131_1 ((rd_T48 l0_1 a1).f1).length c131_1)).setCell ⟨gb132, 2, none⟩ (.int .i64 ((rd_T48 l0_1 a1).f2))).heap[gb132]? = some (.cells #[.int .i64 ((rd_T48 l0_1 a1).f0), .slice A131_1 ((rd_T48 l0_1 a1).f1).length c131_1, .int .i64 ((rd_T48 l0_1 a1).f2)] 48 (0, 0))) := ⟨by refine blk_put (cs := #[.int .i64 ((rd_T48 l0_1 a1).f0), .slice A131_1 ((rd_T48 l0_1 a1).f1).length c131_1, .int .i64 0]) ?_ 2 _ rfl; refine blk_put (cs := #[.int .i64 ((rd_T48 l0_1 a1).f0), .slice none 0 0, .int .i64 0]) ?_ 1 _ rfl; refine blk_put (cs := #[.int .i64 0, .slice none 0 0, .int .i64 0]) ?_ 0 _ rfl; exact BK132.out⟩
  have n2_ : Aside0 (Below w.heap.size w (((w8.setCell ⟨gb132, 0, none⟩ (.int .i64 ((rd_T48 l0_1 a1).f0))).setCell ⟨gb132, 1, none⟩ (.slice A131_1 ((rd_T48 l0_1 a1).f1).length c131_1)).setCell ⟨gb132, 2, none⟩ (.int .i64 ((rd_T48 l0_1 a1).f2)))) := ⟨by repeat (first | exact HB.out | refine below_set ?_ GE130.out | refine below_set ?_ GE132.out)⟩
  clear BK130
  clear BK132
  clear HB
  generalize (((w8.setCell ⟨gb132, 0, none⟩ (.int .i64 ((rd_T48 l0_1 a1).f0))).setCell ⟨gb132, 1, none⟩ (.slice A131_1 ((rd_T48 l0_1 a1).f1).length c131_1)).setCell ⟨gb132, 2, none⟩ (.int .i64 ((rd_T48 l0_1 a1).f2))) = w11 at n0_ n1_ n2_ ⊢
  have BK130 := n0_
  have BK132 := n1_
  have HB := n2_
  clear n0_ n1_ n2_
  replace BK130 := K_ (blk_drew BK130.out)
  replace BK132 := K_ (blk_drew BK132.out)
  replace HB := K_ (below_drew1 HB.out)
  refine start_ (n := 22) (S := fun w' => w'.cell? ⟨gb132, 0, none⟩ = some (.int .i64 ((rd_T48 l0_1 a1).f0)) ∧ w'.cell? ⟨gb132, 1, none⟩ = some (.slice A131_1 ((rd_T48 l0_1 a1).f1).length c131_1) ∧ w'.cell? ⟨gb132, 2, none⟩ = some (.int .i64 ((rd_T48 l0_1 a1).f2))) (ds := []) #[ff, ff, ff, ff, ff, ff, ff, ff, ff, ff, ff, ff, ff, ff, ff, ff, ff, ff, ff, ff, ff, ff] (by kernel_rfl) rfl rfl ⟨(blk_cell BK132.out 0).trans rfl, (blk_cell BK132.out 1).trans rfl, (blk_cell BK132.out 2).trans rfl⟩ (fun hHeld => ?_); refine with_tabW spec_l1can.tab2 spec_l1can.bits2 (fun HT_ HW_ => ?_)
  generalize w11.drew = w12 at BK130 BK132 HB hHeld ⊢
  refine pure_ (i := 0) (N := some 11) (v := ?_) (a' := ?_) (M_ 22 1) rfl rfl (any_of HT_.out (by kernel_rfl)) (fun _ _ _ h => h) (Or.inl ⟨by rfl, ?_⟩) ?_ ?_
  rotate_left
  ·intro w'
   go_simp
   with_reducible rfl
  rotate_left
  ·simp only [P_, i64_w, i32_w]
   rfl
  refine take_ (i := 1) (N := some 12) (v := ?_) (a' := ?_) (M_ 22 3) rfl rfl (take_ofW HT_.out HW_.out (by kernel_rfl)) (fun _ _ _ h => h) (Or.inl ⟨by rfl, ?_⟩) hHeld ?_ ?_
  rotate_left
  ·rintro w' ⟨s0, s1, s2⟩
   go_simp
   with_reducible rfl
  rotate_left
  ·simp only [P_, i64_w, i32_w]
   rfl
  refine pure_ (i := 2) (N := some 13) (v := ?_) (a' := ?_) (M_ 22 7) rfl rfl (any_of HT_.out (by kernel_rfl)) (fun _ _ _ h => h) (Or.inl ⟨by rfl, ?_⟩) ?_ ?_
  rotate_left
  ·intro w'
   go_simp
   with_reducible rfl
  rotate_left
  ·simp only [P_, i64_w, i32_w]
   rfl
  refine pure_ (i := 3) (N := some 14) (v := ?_) (a' := ?_) (M_ 22 15) rfl rfl (any_of HT_.out (by kernel_rfl)) (fun _ _ _ h => h) (Or.inl ⟨by rfl, ?_⟩) ?_ ?_
  rotate_left
  ·intro w'
   go_simp
   with_reducible rfl
  rotate_left
  ·simp only [P_, i64_w, i32_w]
   rfl
  refine pure_ (i := 4) (N := some 15) (v := ?_) (a' := ?_) (M_ 22 31) rfl rfl (any_of HT_.out (by kernel_rfl)) (fun _ _ _ h => h) (Or.inl ⟨by rfl, ?_⟩) ?_ ?_
  rotate_left
  ·intro w'
   go_simp
   with_reducible rfl
  rotate_left
  ·simp only [P_, i64_w, i32_w]
   rfl
  refine pure_ (i := 5) (N := some 16) (v := undef) (a' := ?_) (M_ 22 63) rfl rfl (any_of HT_.out (by kernel_rfl)) (fun _ _ _ h => h) (Or.inr ⟨by rfl, rfl⟩) ?_ ?_
  rotate_left
  ·simp only [P_, i64_w, i32_w]
   rfl
  refine pure_ (i := 6) (N := some 17) (v := undef) (a' := ?_) (M_ 22 127) rfl rfl (any_of HT_.out (by kernel_rfl)) (fun _ _ _ h => h) (Or.inr ⟨by rfl, rfl⟩) ?_ ?_
  rotate_left
  ·simp only [P_, i64_w, i32_w]
   rfl
  refine pure_ (i := 7) (N := some 18) (v := undef) (a' := ?_) (M_ 22 255) rfl rfl (any_of HT_.out (by kernel_rfl)) (fun _ _ _ h => h) (Or.inr ⟨by rfl, rfl⟩) ?_ ?_
  rotate_left
  ·simp only [P_, i64_w, i32_w]
   rfl
  refine pure_ (i := 8) (N := some 19) (v := undef) (a' := ?_) (M_ 22 511) rfl rfl (any_of HT_.out (by kernel_rfl)) (fun _ _ _ h => h) (Or.inr ⟨by rfl, rfl⟩) ?_ ?_
  rotate_left
  ·simp only [P_, i64_w, i32_w]
   rfl
  refine pure_ (i := 9) (N := some 20) (v := undef) (a' := ?_) (M_ 22 1023) rfl rfl (any_of HT_.out (by kernel_rfl)) (fun _ _ _ h => h) (Or.inr ⟨by rfl, rfl⟩) ?_ ?_
  rotate_left
  ·simp only [P_, i64_w, i32_w]
   rfl
  refine pure_ (i := 10) (N := some 21) (v := undef) (a' := ?_) (M_ 22 2047) rfl rfl (any_of HT_.out (by kernel_rfl)) (fun _ _ _ h => h) (Or.inr ⟨by rfl, rfl⟩) ?_ ?_
  rotate_left
  ·simp only [P_, i64_w, i32_w]
   rfl
  refine pure_ (i := 11) (N := some 22) (v := undef) (a' := ?_) (M_ 22 4095) rfl rfl (any_of HT_.out (by kernel_rfl)) (fun _ _ _ h => h) (Or.inr ⟨by rfl, rfl⟩) ?_ ?_
  rotate_left
  ·simp only [P_, i64_w, i32_w]
   rfl
  refine pure_ (i := 12) (N := some 23) (v := undef) (a' := ?_) (M_ 22 8191) rfl rfl (any_of HT_.out (by kernel_rfl)) (fun _ _ _ h => h) (Or.inr ⟨by rfl, rfl⟩) ?_ ?_
  rotate_left
  ·simp only [P_, i64_w, i32_w]
   rfl
  refine pure_ (i := 13) (N := some 24) (v := undef) (a' := ?_) (M_ 22 16383) rfl rfl (any_of HT_.out (by kernel_rfl)) (fun _ _ _ h => h) (Or.inr ⟨by rfl, rfl⟩) ?_ ?_
  rotate_left
  ·simp only [P_, i64_w, i32_w]
   rfl
  refine pure_ (i := 14) (N := some 25) (v := undef) (a' := ?_) (M_ 22 32767) rfl rfl (any_of HT_.out (by kernel_rfl)) (fun _ _ _ h => h) (Or.inr ⟨by rfl, rfl⟩) ?_ ?_
  rotate_left
  ·simp only [P_, i64_w, i32_w]
   rfl
  refine pure_ (i := 15) (N := some 26) (v := undef) (a' := ?_) (M_ 22 65535) rfl rfl (any_of HT_.out (by kernel_rfl)) (fun _ _ _ h => h) (Or.inr ⟨by rfl, rfl⟩) ?_ ?_
  rotate_left
  ·simp only [P_, i64_w, i32_w]
   rfl
  refine pure_ (i := 16) (N := some 27) (v := undef) (a' := ?_) (M_ 22 131071) rfl rfl (any_of HT_.out (by kernel_rfl)) (fun _ _ _ h => h) (Or.inr ⟨by rfl, rfl⟩) ?_ ?_
  rotate_left
  ·simp only [P_, i64_w, i32_w]
   rfl
  refine pure_ (i := 17) (N := some 28) (v := undef) (a' := ?_) (M_ 22 262143) rfl rfl (any_of HT_.out (by kernel_rfl)) (fun _ _ _ h => h) (Or.inr ⟨by rfl, rfl⟩) ?_ ?_
  rotate_left
  ·simp only [P_, i64_w, i32_w]
   rfl
  refine pure_ (i := 18) (N := some 29) (v := undef) (a' := ?_) (M_ 22 524287) rfl rfl (any_of HT_.out (by kernel_rfl)) (fun _ _ _ h => h) (Or.inr ⟨by rfl, rfl⟩) ?_ ?_
  rotate_left
  ·simp only [P_, i64_w, i32_w]
   rfl
  refine pure_ (i := 19) (N := some 30) (v := undef) (a' := ?_) (M_ 22 1048575) rfl rfl (any_of HT_.out (by kernel_rfl)) (fun _ _ _ h => h) (Or.inr ⟨by rfl, rfl⟩) ?_ ?_
  rotate_left
  ·simp only [P_, i64_w, i32_w]
   rfl
  refine pure_ (i := 20) (N := some 31) (v := ?_) (a' := ?_) (M_ 22 2097151) rfl rfl (any_of HT_.out (by kernel_rfl)) (fun _ _ _ h => h) (Or.inl ⟨by rfl, ?_⟩) ?_ ?_
  rotate_left
  ·intro w'
   go_simp
   with_reducible rfl
  rotate_left
  ·simp only [P_, i64_w, i32_w]
   rfl
  refine pure_ (i := 21) (N := some 4) (v := ?_) (a' := ?_) (M_ 22 4194303) rfl rfl (any_of HT_.out (by kernel_rfl)) (fun _ _ _ h => h) (Or.inl ⟨by rfl, ?_⟩) ?_ ?_
  rotate_left
  ·intro w'
   go_simp
   with_reducible rfl
  rotate_left
  ·simp only [P_, i64_w, i32_w]
   rfl
  refine done_ (done_of HT_.out (by kernel_rfl)) ?_
  try go_wp2
  go_ret
  exact ⟨rfl, HB.out⟩
 have c5b0 := beq_eq_false_iff_ne.mpr c5
 have c5b1 := bne_iff_ne.mpr c5
 have c5b2 : ¬ (((rd_T48 l0_1 a1).f1) = []) := fun h_ => c5 (by rw [h_]; rfl)
 replace H := pn_ H
 obtain ⟨c13, H⟩ := H
 have c13b0 := decide_eq_true c13
 have c13b1 : decide (0 < ((rd_T48 l0_1 a1).f1).length) = true := decide_eq_true (by omega)
 clear c13
 replace H := Option.bind_eq_some_iff.mp H
 obtain ⟨t134, A140, H⟩ := H
 try dsimp only at H
 have A14 := K_ A140
 clear A140
 replace H := dn_ H
 obtain ⟨c15b0, H⟩ := H
 replace H := dn_ H
 obtain ⟨c16b0, H⟩ := H
 obtain rfl := Option.some.inj H
 go_enter Tryd.func22, Tryd.ntmps22
 try go_wp2_with (first | ((with_reducible refine gate_dst (N := 2) rfl ?_); refine box_event (by rfl) (N := 2) (by rfl) (cs := #[.slice A0_0 l0_0.length c0_0, .slice A0_1 l0_1.length c0_1, .slice A0_2 l0_2.length c0_2]) (t := 30) (by go_simp; try rfl) ?_; intro gb130 hg w17 hbox hb; have BK130 := K_ (hbox); have GW130 := ge_ hg HB.out; have GE130 := ge_ hg HB.out; replace HB := K_ (below_step HB.out hb); clear hb hbox hg; obtain ⟨hcz18_0, hcz18_1, hcz18_2, hfz18_0, hfz18_1, hfz18_2⟩ := blkf3_ BK130.out; have p131 : 0 ≤ (a1 : Int) := of_decide_eq_true (by assumption); have q131 : a1 < (l0_1.length : Int) := of_decide_eq_true (by assumption); obtain ⟨ad131, A131_1, c131_1, e131, hx131_0, hx131_1, hx131_2, hl131_1, hi131_1⟩ := at_T48 HR0_1.out a1 p131 q131; cases e131; replace hx131_0 := (HB.out.cell (World.block_lt_of_cell? w _ hx131_0)).trans hx131_0; replace hx131_1 := (HB.out.cell (World.block_lt_of_cell? w _ hx131_1)).trans hx131_1; replace hx131_2 := (HB.out.cell (World.block_lt_of_cell? w _ hx131_2)).trans hx131_2; have HR131_1 := K_ hi131_1; have HC131_1 := K_ hl131_1; clear hi131_1 hl131_1; replace p131 := eq_true p131; replace q131 := eq_true q131) | ((with_reducible refine gate_dst (N := 5) rfl ?_); refine box_event (by rfl) (N := 5) (by rfl) (cs := #[.int .i64 0, .slice none 0 0, .int .i64 0]) (t := 48) (by go_simp; try rfl) ?_; intro gb132 hg w19 hbox hb; have BK132 := K_ (hbox); have GW132 := ge_ hg HB.out; have GE132 := ge_ hg HB.out; have NB130_132 := nl_ hg BK130.out; have NB132_130 := ng_ hg BK130.out; replace BK130 := K_ (blk_below BK130.out hb); replace HB := K_ (below_step HB.out hb); clear hb hbox hg; have hnb20 := NB132_130.out; have hnc20 := NB130_132.out; obtain ⟨hcz21_0, hcz21_1, hcz21_2, hfz21_0, hfz21_1, hfz21_2⟩ := blkf3_ BK132.out))
 have n0_ : Aside0 ((((w19.setCell ⟨gb132, 0, none⟩ (.int .i64 ((rd_T48 l0_1 a1).f0))).setCell ⟨gb132, 1, none⟩ (.slice A131_1 ((rd_T48 l0_1 a1).f1).length c131_1)).setCell ⟨gb132, 2, none⟩ (.int .i64 ((rd_T48 l0_1 a1).f2))).heap[gb130]? = some (.cells #[.slice A0_0 l0_0.length c0_0, .slice (some ad131) l0_1.length c0_1, .slice A0_2 l0_2.length c0_2] 30 (0, 0))) := ⟨by refine blk_far ?_ NB130_132.out _; refine blk_far ?_ NB130_132.out _; refine blk_far ?_ NB130_132.out _; exact BK130.out⟩
 have n1_ : Aside0 ((((w19.setCell ⟨gb132, 0, none⟩ (.int .i64 ((rd_T48 l0_1 a1).f0))).setCell ⟨gb132, 1, none⟩ (.slice A131_1 ((rd_T48 l0_1 a1).f1).length c131_1)).setCell ⟨gb132, 2, none⟩ (.int .i64 ((rd_T48 l0_1 a1).f2))).heap[gb132]? = some (.cells #[.int .i64 ((rd_T48 l0_1 a1).f0), .slice A131_1 ((rd_T48 l0_1 a1).f1).length c131_1, .int .i64 ((rd_T48 l0_1 a1).f2)] 48 (0, 0))) := ⟨by refine blk_put (cs := #[.int .i64 ((rd_T48 l0_1 a1).f0), .slice A131_1 ((rd_T48 l0_1 a1).f1).length c131_1, .int .i64 0]) ?_ 2 _ rfl; refine blk_put (cs := #[.int .i64 ((rd_T48 l0_1 a1).f0), .slice none 0 0, .int .i64 0]) ?_ 1 _ rfl; refine blk_put (cs := #[.int .i64 0, .slice none 0 0, .int .i64 0]) ?_ 0 _ rfl; exact BK132.out⟩
 have n2_ : Aside0 (Below w.heap.size w (((w19.setCell ⟨gb132, 0, none⟩ (.int .i64 ((rd_T48 l0_1 a1).f0))).setCell ⟨gb132, 1, none⟩ (.slice A131_1 ((rd_T48 l0_1 a1).f1).length c131_1)).setCell ⟨gb132, 2, none⟩ (.int .i64 ((rd_T48 l0_1 a1).f2)))) := ⟨by repeat (first | exact HB.out | refine below_set ?_ GE130.out | refine below_set ?_ GE132.out)⟩
 clear BK130
 clear BK132
 clear HB
 generalize (((w19.setCell ⟨gb132, 0, none⟩ (.int .i64 ((rd_T48 l0_1 a1).f0))).setCell ⟨gb132, 1, none⟩ (.slice A131_1 ((rd_T48 l0_1 a1).f1).length c131_1)).setCell ⟨gb132, 2, none⟩ (.int .i64 ((rd_T48 l0_1 a1).f2))) = w22 at n0_ n1_ n2_ ⊢
 have BK130 := n0_
 have BK132 := n1_
 have HB := n2_
 clear n0_ n1_ n2_
 replace BK130 := K_ (blk_drew BK130.out)
 replace BK132 := K_ (blk_drew BK132.out)
 replace HB := K_ (below_drew1 HB.out)
 have p133 : 0 ≤ (0 : Int) := (by omega)
 have q133 : 0 < (((rd_T48 l0_1 a1).f1).length : Int) := of_decide_eq_true (by assumption)
 obtain ⟨ad133, e133, hx133_0⟩ := Kd.at_int HR131_1.out 0 p133 q133
 have hw133_0 := hx133_0
 (try rw [show ((0 : Int)).toNat = 0 from rfl] at hw133_0)
 (try rw [show 0 * 1 = 0 from rfl] at hw133_0)
 (try rw [Addr.add_zero'] at hw133_0)
 cases e133
 have qi133 : (0 < ((rd_T48 l0_1 a1).f1).length) = True := eq_true (by omega)
 (try rw [show ((0 : Int)).toNat = 0 from rfl] at hx133_0)
 (try rw [Addr.add_zero'] at hx133_0)
 replace hx133_0 := (HB.out.cell (World.block_lt_of_cell? w _ hx133_0)).trans hx133_0
 replace p133 := eq_true p133
 replace q133 := eq_true q133
 have p135 : 0 ≤ (0 : Int) := (by omega)
 have q135 : 0 < (((rd_T48 l0_1 a1).f1).length : Int) := of_decide_eq_true (by assumption)
 obtain ⟨ad135, e135, hx135_0⟩ := Kd.at_int HR131_1.out 0 p135 q135
 have hw135_0 := hx135_0
 (try rw [show ((0 : Int)).toNat = 0 from rfl] at hw135_0)
 (try rw [show 0 * 1 = 0 from rfl] at hw135_0)
 (try rw [Addr.add_zero'] at hw135_0)
 obtain rfl : ad133 = ad135 := (by injection e135)
 have qi135 : (0 < ((rd_T48 l0_1 a1).f1).length) = True := eq_true (by omega)
 (try rw [show ((0 : Int)).toNat = 0 from rfl] at hx135_0)
 (try rw [Addr.add_zero'] at hx135_0)
 replace hx135_0 := (HB.out.cell (World.block_lt_of_cell? w _ hx135_0)).trans hx135_0
 replace p135 := eq_true p135
 replace q135 := eq_true q135
 have p136 : 0 ≤ ((rd ((rd_T48 l0_1 a1).f1) 0) : Int) := of_decide_eq_true (by assumption)
 have q136 : (rd ((rd_T48 l0_1 a1).f1) 0) < (l0_0.length : Int) := of_decide_eq_true (by assumption)
 obtain ⟨ad136, e136, hx136_0⟩ := Kd.at_int HR0_0.out (rd ((rd_T48 l0_1 a1).f1) 0) p136 q136
 have hw136_0 := hx136_0
 cases e136
 replace hx136_0 := (HB.out.cell (World.block_lt_of_cell? w _ hx136_0)).trans hx136_0
 replace p136 := eq_true p136
 replace q136 := eq_true q136
 refine start_ (n := 22) (S := fun w' => w'.cell? ⟨gb132, 0, none⟩ = some (.int .i64 ((rd_T48 l0_1 a1).f0)) ∧ w'.cell? ⟨gb132, 1, none⟩ = some (.slice (some ad133) ((rd_T48 l0_1 a1).f1).length c131_1) ∧ w'.cell? ⟨gb132, 2, none⟩ = some (.int .i64 ((rd_T48 l0_1 a1).f2)) ∧ w'.cell? ⟨gb130, 0, none⟩ = some (.slice (some ad136) l0_0.length c0_0) ∧ w'.cell? ⟨gb130, 1, none⟩ = some (.slice (some ad131) l0_1.length c0_1) ∧ w'.cell? ⟨gb130, 2, none⟩ = some (.slice A0_2 l0_2.length c0_2) ∧ w'.cell? ad133 = some (.int .i64 (rd ((rd_T48 l0_1 a1).f1) 0)) ∧ w'.cell? ad133 = some (.int .i64 (rd ((rd_T48 l0_1 a1).f1) 0)) ∧ w'.cell? (ad136.add ((rd ((rd_T48 l0_1 a1).f1) 0)).toNat) = some (.int .i64 (rd l0_0 (rd ((rd_T48 l0_1 a1).f1) 0)))) (ds := []) #[ff, ff, ff, ff, ff, ff, ff, ff, ff, ff, ff, ff, ff, ff, ff, ff, ff, ff, ff, ff, ff, ff] (by kernel_rfl) rfl rfl ⟨(blk_cell BK132.out 0).trans rfl, (blk_cell BK132.out 1).trans rfl, (blk_cell BK132.out 2).trans rfl, (blk_cell BK130.out 0).trans rfl, (blk_cell BK130.out 1).trans rfl, (blk_cell BK130.out 2).trans rfl, ((HB.out.cell (World.block_lt_of_cell? w _ hw133_0)).trans hw133_0), ((HB.out.cell (World.block_lt_of_cell? w _ hw135_0)).trans hw135_0), ((HB.out.cell (World.block_lt_of_cell? w _ hw136_0)).trans hw136_0)⟩ (fun hHeld => ?_); refine with_tabW spec_l1can.tab2 spec_l1can.bits2 (fun HT_ HW_ => ?_)
 generalize w22.drew = w23 at BK130 BK132 HB hx133_0 hx135_0 hx136_0 hHeld ⊢
 refine pure_ (i := 0) (N := some 11) (v := ?_) (a' := ?_) (M_ 22 1) rfl rfl (any_of HT_.out (by kernel_rfl)) (fun _ _ _ h => h) (Or.inl ⟨by rfl, ?_⟩) ?_ ?_
 rotate_left
 ·intro w'
  go_simp
  with_reducible rfl
 rotate_left
 ·simp only [P_, i64_w, i32_w]
  rfl
 refine take_ (i := 1) (N := some 12) (v := ?_) (a' := ?_) (M_ 22 3) rfl rfl (take_ofW HT_.out HW_.out (by kernel_rfl)) (fun _ _ _ h => h) (Or.inl ⟨by rfl, ?_⟩) hHeld ?_ ?_
 rotate_left
 ·rintro w' ⟨s0, s1, s2, s3, s4, s5, s6, s7, s8⟩
  go_simp
  with_reducible rfl
 rotate_left
 ·simp only [P_, i64_w, i32_w]
  rfl
 refine pure_ (i := 2) (N := some 13) (v := ?_) (a' := ?_) (M_ 22 7) rfl rfl (any_of HT_.out (by kernel_rfl)) (fun _ _ _ h => h) (Or.inl ⟨by rfl, ?_⟩) ?_ ?_
 rotate_left
 ·intro w'
  go_simp
  with_reducible rfl
 rotate_left
 ·simp only [P_, i64_w, i32_w]
  rfl
 refine pure_ (i := 3) (N := some 14) (v := ?_) (a' := ?_) (M_ 22 15) rfl rfl (any_of HT_.out (by kernel_rfl)) (fun _ _ _ h => h) (Or.inl ⟨by rfl, ?_⟩) ?_ ?_
 rotate_left
 ·intro w'
  go_simp
  with_reducible rfl
 rotate_left
 ·simp only [P_, i64_w, i32_w]
  rfl
 refine pure_ (i := 4) (N := some 15) (v := ?_) (a' := ?_) (M_ 22 31) rfl rfl (any_of HT_.out (by kernel_rfl)) (fun _ _ _ h => h) (Or.inl ⟨by rfl, ?_⟩) ?_ ?_
 rotate_left
 ·intro w'
  go_simp
  with_reducible rfl
 rotate_left
 ·simp only [P_, i64_w, i32_w]
  rfl
 refine pure_ (i := 6) (N := some 17) (v := ?_) (a' := ?_) (M_ 22 95) rfl rfl (any_of HT_.out (by kernel_rfl)) (fun _ _ _ h => h) (Or.inl ⟨by rfl, ?_⟩) ?_ ?_
 rotate_left
 ·intro w'
  go_simp
  with_reducible rfl
 rotate_left
 ·simp only [P_, i64_w, i32_w]
  rfl
 refine pure_ (i := 11) (N := some 22) (v := ?_) (a' := ?_) (M_ 22 2143) rfl rfl (any_of HT_.out (by kernel_rfl)) (fun _ _ _ h => h) (Or.inl ⟨by rfl, ?_⟩) ?_ ?_
 rotate_left
 ·intro w'
  go_simp
  with_reducible rfl
 rotate_left
 ·simp only [P_, i64_w, i32_w]
  rfl
 refine pure_ (i := 13) (N := some 24) (v := ?_) (a' := ?_) (M_ 22 10335) rfl rfl (any_of HT_.out (by kernel_rfl)) (fun _ _ _ h => h) (Or.inl ⟨by rfl, ?_⟩) ?_ ?_
 rotate_left
 ·intro w'
  go_simp
  with_reducible rfl
 rotate_left
 ·simp only [P_, i64_w, i32_w]
  rfl
 refine take_ (i := 5) (N := some 16) (v := ?_) (a' := ?_) (M_ 22 10367) rfl rfl (take_ofW HT_.out HW_.out (by kernel_rfl)) (fun _ _ _ h => h) (Or.inl ⟨by rfl, ?_⟩) hHeld ?_ ?_
 rotate_left
 ·rintro w' ⟨s0, s1, s2, s3, s4, s5, s6, s7, s8⟩
  go_simp
  with_reducible rfl
 rotate_left
 ·simp only [P_, i64_w, i32_w]
  rfl
 refine take_ (i := 7) (N := some 18) (v := ?_) (a' := ?_) (M_ 22 10495) rfl rfl (take_ofW HT_.out HW_.out (by kernel_rfl)) (fun _ _ _ h => h) (Or.inl ⟨by rfl, ?_⟩) hHeld ?_ ?_
 rotate_left
 ·rintro w' ⟨s0, s1, s2, s3, s4, s5, s6, s7, s8⟩
  go_simp
  with_reducible rfl
 rotate_left
 ·simp only [P_, i64_w, i32_w]
  rfl
 refine pure_ (i := 8) (N := some 19) (v := ?_) (a' := ?_) (M_ 22 10751) rfl rfl (any_of HT_.out (by kernel_rfl)) (fun _ _ _ h => h) (Or.inl ⟨by rfl, ?_⟩) ?_ ?_
 rotate_left
 ·intro w'
  go_simp
  with_reducible rfl
 rotate_left
 ·simp only [P_, i64_w, i32_w]
  rfl
 refine take_ (i := 9) (N := some 20) (v := ?_) (a' := ?_) (M_ 22 11263) rfl rfl (take_ofW HT_.out HW_.out (by kernel_rfl)) (fun _ _ _ h => h) (Or.inl ⟨by rfl, ?_⟩) hHeld ?_ ?_
 rotate_left
 ·rintro w' ⟨s0, s1, s2, s3, s4, s5, s6, s7, s8⟩
  go_simp
  with_reducible rfl
 rotate_left
 ·simp only [P_, i64_w, i32_w]
  rfl
 refine take_ (i := 12) (N := some 23) (v := ?_) (a' := ?_) (M_ 22 15359) rfl rfl (take_ofW HT_.out HW_.out (by kernel_rfl)) (fun _ _ _ h => h) (Or.inl ⟨by rfl, ?_⟩) hHeld ?_ ?_
 rotate_left
 ·rintro w' ⟨s0, s1, s2, s3, s4, s5, s6, s7, s8⟩
  go_simp
  with_reducible rfl
 rotate_left
 ·simp only [P_, i64_w, i32_w]
  rfl
 refine take_ (i := 14) (N := some 25) (v := ?_) (a' := ?_) (M_ 22 31743) rfl rfl (take_ofW HT_.out HW_.out (by kernel_rfl)) (fun _ _ _ h => h) (Or.inl ⟨by rfl, ?_⟩) hHeld ?_ ?_
 rotate_left
 ·rintro w' ⟨s0, s1, s2, s3, s4, s5, s6, s7, s8⟩
  go_simp
  with_reducible rfl
 rotate_left
 ·simp only [P_, i64_w, i32_w]
  rfl
 refine pure_ (i := 15) (N := some 26) (v := ?_) (a' := ?_) (M_ 22 64511) rfl rfl (any_of HT_.out (by kernel_rfl)) (fun _ _ _ h => h) (Or.inl ⟨by rfl, ?_⟩) ?_ ?_
 rotate_left
 ·intro w'
  go_simp
  with_reducible rfl
 rotate_left
 ·simp only [P_, i64_w, i32_w]
  rfl
 refine take_ (i := 16) (N := some 27) (v := ?_) (a' := ?_) (M_ 22 130047) rfl rfl (take_ofW HT_.out HW_.out (by kernel_rfl)) (fun _ _ _ h => h) (Or.inl ⟨by rfl, ?_⟩) hHeld ?_ ?_
 rotate_left
 ·rintro w' ⟨s0, s1, s2, s3, s4, s5, s6, s7, s8⟩
  go_simp
  with_reducible rfl
 rotate_left
 ·simp only [P_, i64_w, i32_w]
  rfl
 refine pure_ (i := 17) (N := some 28) (v := ?_) (a' := ?_) (M_ 22 261119) rfl rfl (any_of HT_.out (by kernel_rfl)) (fun _ _ _ h => h) (Or.inl ⟨by rfl, ?_⟩) ?_ ?_
 rotate_left
 ·intro w'
  go_simp
  with_reducible rfl
 rotate_left
 ·simp only [P_, i64_w, i32_w]
  rfl
 refine take_ (i := 18) (N := some 29) (v := ?_) (a' := ?_) (M_ 22 523263) rfl rfl (take_ofW HT_.out HW_.out (by kernel_rfl)) (fun _ _ _ h => h) (Or.inl ⟨by rfl, ?_⟩) hHeld ?_ ?_
 rotate_left
 ·rintro w' ⟨s0, s1, s2, s3, s4, s5, s6, s7, s8⟩
  go_simp
  with_reducible rfl
 rotate_left
 ·simp only [P_, i64_w, i32_w]
  rfl
 refine one_ (i := 10) (N := some 21) (M_ 22 524287) rfl rfl (one_of HT_.out (by kernel_rfl)) (by decide) (fun K hK => ?_)
 refine goes_ Tryd.func38 (by kernel_rfl) rfl #[.agg #[.slice (some ad136) l0_0.length c0_0, .slice (some ad131) l0_1.length c0_1, .slice A0_2 l0_2.length c0_2], .int .i64 (rd ((rd_T48 l0_1 a1).f1) 0)] (by rfl) rfl rfl (by simp only [List.map_toArray, List.map_cons, List.map_nil]; try rfl) ?_
 with_reducible refine (spec_l1there.calls k _ _ l0_0 _ _ l0_1 _ _ l0_2 (rd ((rd_T48 l0_1 a1).f1) 0) t134 _ ?side1 ?side2 ?side3 ?side4 ?side5 ?side6 A14.out).mono ?_
 (case side1 => exact (Kd.C_below HR0_0.out HB.out))
 (case side2 => exact HC0_0.out)
 (case side3 => exact (Kd.C_below HR0_1.out HB.out))
 (case side4 => exact HC0_1.out)
 (case side5 => exact (Kd.C_below HR0_2.out HB.out))
 (case side6 => exact HC0_2.out)
 rintro e w24 ⟨rfl, hb⟩
 refine ⟨_, rfl, ?_⟩
 replace BK130 := K_ (blk_below BK130.out hb)
 replace BK132 := K_ (blk_below BK132.out hb)
 replace HB := K_ (below_step HB.out hb)
 clear hb
 skip
 skip
 skip
 refine hK.out _ _ ⟨(blk_cell BK132.out 0).trans rfl, (blk_cell BK132.out 1).trans rfl, (blk_cell BK132.out 2).trans rfl, (blk_cell BK130.out 0).trans rfl, (blk_cell BK130.out 1).trans rfl, (blk_cell BK130.out 2).trans rfl, ((HB.out.cell (World.block_lt_of_cell? w _ hw133_0)).trans hw133_0), ((HB.out.cell (World.block_lt_of_cell? w _ hw135_0)).trans hw135_0), ((HB.out.cell (World.block_lt_of_cell? w _ hw136_0)).trans hw136_0)⟩ (fun hHeld => ?_)
 clear hK K
 refine norm_ (a' := ?_) ?_ ?_
 rotate_left
 ·show Act.put _ (some 21) _ = _
  simp only [P_, i64_w, i32_w]
  rfl
 refine pure_ (i := 19) (N := some 30) (v := ?_) (a' := ?_) (M_ 22 1048575) rfl rfl (any_of HT_.out (by kernel_rfl)) (fun _ _ _ h => h) (Or.inl ⟨by rfl, ?_⟩) ?_ ?_
 rotate_left
 ·intro w'
  go_simp
  with_reducible rfl
 rotate_left
 ·simp only [P_, i64_w, i32_w]
  rfl
 refine pure_ (i := 20) (N := some 31) (v := ?_) (a' := ?_) (M_ 22 2097151) rfl rfl (any_of HT_.out (by kernel_rfl)) (fun _ _ _ h => h) (Or.inl ⟨by rfl, ?_⟩) ?_ ?_
 rotate_left
 ·intro w'
  go_simp
  with_reducible rfl
 rotate_left
 ·simp only [P_, i64_w, i32_w]
  rfl
 refine pure_ (i := 21) (N := some 4) (v := ?_) (a' := ?_) (M_ 22 4194303) rfl rfl (any_of HT_.out (by kernel_rfl)) (fun _ _ _ h => h) (Or.inl ⟨by rfl, ?_⟩) ?_ ?_
 rotate_left
 ·intro w'
  go_simp
  with_reducible rfl
 rotate_left
 ·simp only [P_, i64_w, i32_w]
  rfl
 refine done_ (done_of HT_.out (by kernel_rfl)) ?_
 try go_wp2
 go_ret
 exact ⟨rfl, HB.out⟩


end Go.Proofs.YtkcocomehhlpmaaDoor.Q
