-- Written by programs of this session (wip/drv.py, wip/mkclaim.py) over the kit's print; not trusted: Lean checks it.
import Derived.Test.YtpbclogjoangfaaFnEasierQ0
import Derived.Test.YtpbclogjoangfaaFnEasierQ2
namespace Go.Proofs.Ytpbclogjoangfaa.Q
open Go.RowKit Go.Proofs.YtpbclogjoangfaaW.PrintWords Go.Proofs.YtpbclogjoangfaaW.PrintLast Go.Proofs.YtpbclogjoangfaaW.PrintMore
attribute [local go_sem] max2_int min2_int max_two min_two max_three min_three max_four min_four   -- for this text's walks alone
set_option linter.unusedVariables false
set_option linter.unusedSimpArgs false

/-! ### spec_l1step: function 59 -/
def spec_l1step.f (k : Nat) (l0_0 : List Int) (l0_1 : List (S35)) (l0_2 : List Int) (a1 : Int) : Option (List Int × (List (S35)) × List Int) := (spec_l1copy.f k l0_0 l0_1 l0_2).bind fun bt269 => (if 0 ≤ a1 then (if a1 < (bt269.2.1.length : Int) then (if (((rd_T35 bt269.2.1 a1).f1).length : Int) > 0 then (if 0 < (((rd_T35 bt269.2.1 a1).f1).length : Int) then ((some (bt269.2.1.set (a1 : Int).toNat (⟨rd ((rd_T35 bt269.2.1 a1).f1) 0, (rd_T35 bt269.2.1 a1).f1, (rd_T35 bt269.2.1 a1).f2⟩ : S35) : List (S35))).bind fun y282 => (if 1 ≤ (((rd_T35 y282 a1).f1).length : Int) then (some (bt269.1, (y282.set (a1 : Int).toNat (⟨(rd_T35 y282 a1).f0, (((rd_T35 y282 a1).f1).drop 1), (rd_T35 y282 a1).f2⟩ : S35)), bt269.2.2)) else (none))) else (none)) else (if a1 ≤ (bt269.2.1.length : Int) then (if 0 ≤ (wrap64 (a1 + 1)) then (if (wrap64 (a1 + 1)) ≤ (bt269.2.1.length : Int) then (if a1 ≤ (bt269.2.2.length : Int) then (if (wrap64 (a1 + 1)) ≤ (bt269.2.2.length : Int) then (some (bt269.1, (bt269.2.1.eraseIdx (a1 : Int).toNat), (bt269.2.2.eraseIdx (a1 : Int).toNat))) else (none)) else (none)) else (none)) else (none)) else (none))) else (none)) else (none))
theorem spec_l1step.mono : ∀ a0 a1 a2 a3 k, LeO (spec_l1step.f k a0 a1 a2 a3) (spec_l1step.f (k + 1) a0 a1 a2 a3) := by
 intro a0 a1 a2 a3 k
 unfold spec_l1step.f
 repeat' with_reducible first | exact spec_l1copy.mono _ _ _ _ | exact LeO.refl _ | exact LeO.none _ | refine LeO.ite ?_ ?_ | refine LeO.bind ?_ (fun _ => ?_)
def spec_l1step.T3 : Bool × List (List Nat × List Nat) := (true, [([], []), ([0], [0]), ([], []), ([], []), ([3], [3]), ([], []), ([4, 5], [4, 5]), ([6], [6]), ([7], [7]), ([8], [8]), ([9], [9]), ([1, 2, 0, 1, 2, 3, 4, 5, 6, 7, 8, 9, 10], [1, 2]), ([11, 0, 1, 2, 3, 4, 5, 6, 7, 8, 9, 10], [11]), ([12, 10, 0, 1, 2, 3, 4, 5, 6, 7, 8, 9, 10], [10, 12])])
def spec_l1step.B3 : List Nat := [0, 1, 0, 0, 8, 0, 56, 120, 248, 504, 1016, 2047, 4095, 8191]
theorem spec_l1step.tab3 : rtab .any (opsOf Try.f59 3) = spec_l1step.T3 := by kernel_rfl
theorem spec_l1step.bits3 : waitsOk spec_l1step.T3.2 spec_l1step.B3 = true := by kernel_rfl
def spec_l1step.T4 : Bool × List (List Nat × List Nat) := (true, [([], []), ([0], [0]), ([], []), ([], []), ([3], [3]), ([], []), ([4, 5], [4, 5]), ([6], [6]), ([7], [7]), ([8], [8]), ([1, 2, 0, 1, 2, 3, 4, 5, 6, 7, 8, 9], [1, 2]), ([10, 0, 1, 2, 3, 4, 5, 6, 7, 8, 9], [10]), ([11, 9, 0, 1, 2, 3, 4, 5, 6, 7, 8, 9], [9, 11])])
def spec_l1step.B4 : List Nat := [0, 1, 0, 0, 8, 0, 56, 120, 248, 504, 1023, 2047, 4095]
theorem spec_l1step.tab4 : rtab .any (opsOf Try.f59 4) = spec_l1step.T4 := by kernel_rfl
theorem spec_l1step.bits4 : waitsOk spec_l1step.T4.2 spec_l1step.B4 = true := by kernel_rfl
def spec_l1step.T6 : Bool × List (List Nat × List Nat) := (true, [([], []), ([0], [0]), ([], []), ([1, 2], [1, 2]), ([], []), ([4], [4]), ([], []), ([6], [6]), ([5, 7], [5, 7]), ([3, 8], [3, 8]), ([0, 1, 2, 3, 4, 5, 6, 7, 8, 9], []), ([10, 9, 9, 0, 1, 2, 3, 4, 5, 6, 7, 8, 9], [9, 10])])
def spec_l1step.B6 : List Nat := [0, 1, 0, 7, 0, 16, 0, 64, 240, 511, 1023, 2047]
theorem spec_l1step.tab6 : rtab .any (opsOf Try.f59 6) = spec_l1step.T6 := by kernel_rfl
theorem spec_l1step.bits6 : waitsOk spec_l1step.T6.2 spec_l1step.B6 = true := by kernel_rfl
def spec_l1step.T7 : Bool × List (List Nat × List Nat) := (true, [([], []), ([0], [0]), ([], []), ([1, 2], [1, 2]), ([], []), ([4], [4]), ([], []), ([6], [6]), ([5, 7], [5, 7]), ([3, 8], [3, 8]), ([0, 1, 2, 3, 4, 5, 6, 7, 8, 9], []), ([10, 9, 9, 0, 1, 2, 3, 4, 5, 6, 7, 8, 9], [9, 10])])
def spec_l1step.B7 : List Nat := [0, 1, 0, 7, 0, 16, 0, 64, 240, 511, 1023, 2047]
theorem spec_l1step.tab7 : rtab .any (opsOf Try.f59 7) = spec_l1step.T7 := by kernel_rfl
theorem spec_l1step.bits7 : waitsOk spec_l1step.T7.2 spec_l1step.B7 = true := by kernel_rfl
set_option maxHeartbeats 8000000 in
set_option maxRecDepth 100000 in
theorem spec_l1step.calls (k : Nat) (A0_0 : Option Addr) (c0_0 : Nat) (l0_0 : List Int) (A0_1 : Option Addr) (c0_1 : Nat) (l0_1 : List (S35)) (A0_2 : Option Addr) (c0_2 : Nat) (l0_2 : List Int) (a1 : Int) (r1 : List Int) (r2 : List (S35)) (r3 : List Int) (w : World) (hr0_0 : Kd.C (Kd.int .i64) w A0_0 l0_0.length l0_0) (hc0_0 : l0_0.length ≤ c0_0) (hr0_1 : Kd.C k35 w A0_1 l0_1.length l0_1) (hc0_1 : l0_1.length ≤ c0_1) (hr0_2 : Kd.C (Kd.int .i64) w A0_2 l0_2.length l0_2) (hc0_2 : l0_2.length ≤ c0_2) (h : spec_l1step.f k l0_0 l0_1 l0_2 a1 = some (r1, r2, r3)) :
  Calls Try.prog 59 #[.agg #[.slice A0_0 l0_0.length c0_0, .slice A0_1 l0_1.length c0_1, .slice A0_2 l0_2.length c0_2], .int .i64 a1] w fun e w' => ∃ v0_ v1_ v2_ : Value, e = .returned (.agg #[v0_, v1_, v2_]) ∧ Kd.R (Kd.int .i64) 3 w' w.heap.size (fun k_ => (w.heap.size ≤ k_) ∧ some k_ ≠ (v2_ : Value).ownBlock) v0_ r1 ∧ Kd.N k35 35 w' w.heap.size (fun k_ => (w.heap.size ≤ k_) ∧ some k_ ≠ (v0_ : Value).ownBlock ∧ some k_ ≠ (v2_ : Value).ownBlock) v1_ r2 ∧ Kd.R (Kd.int .i64) 3 w' w.heap.size (fun k_ => (w.heap.size ≤ k_) ∧ some k_ ≠ (v0_ : Value).ownBlock) v2_ r3 ∧ Below w.heap.size w w' := by
 have hu26 := Try.underlying26
 have HR0_0 := K_ hr0_0
 have HC0_0 := K_ hc0_0
 clear hr0_0 hc0_0
 have HR0_1 := K_ hr0_1
 have HC0_1 := K_ hc0_1
 clear hr0_1 hc0_1
 have HR0_2 := K_ hr0_2
 have HC0_2 := K_ hc0_2
 clear hr0_2 hc0_2
 have HB := K_ (Below.refl w.heap.size w)
 unfold spec_l1step.f at h
 have H := h
 clear h
 replace H := Option.bind_eq_some_iff.mp H
 obtain ⟨⟨t269, t272, t275⟩, A30, H⟩ := H
 try dsimp only at H
 have A3 := K_ A30
 clear A30
 replace H := dn_ H
 obtain ⟨c4b0, H⟩ := H
 replace H := dn_ H
 obtain ⟨c5b0, H⟩ := H
 by_cases c6 : (((rd_T35 t272 a1).f1).length : Int) > 0
 case pos =>
  rw [if_pos c6] at H
  have c6b0 := decide_eq_true c6
  have c6b1 : decide (0 < ((rd_T35 t272 a1).f1).length) = true := decide_eq_true (by omega)
  clear c6
  replace H := pn_ H
  obtain ⟨c7, H⟩ := H
  have c7b0 := decide_eq_true c7
  have c7b1 : decide (0 < ((rd_T35 t272 a1).f1).length) = true := decide_eq_true (by omega)
  clear c7
  replace H := nm_ H
  obtain ⟨y282, Ny282, H⟩ := H
  replace H := pn_ H
  obtain ⟨c9, H⟩ := H
  have c9b0 := eq_true c9
  have c9b1 := decide_eq_true c9
  clear c9
  obtain ⟨y284, hy284⟩ : ∃ y_ : List Int, y_ = (((rd_T35 y282 a1).f1).drop 1) := ⟨_, rfl⟩
  rw [← hy284] at H
  have Ny284 := K_ hy284
  clear hy284
  obtain ⟨y289, hy289⟩ : ∃ y_ : List (S35), y_ = (y282.set (a1 : Int).toNat (⟨(rd_T35 y282 a1).f0, y284, (rd_T35 y282 a1).f2⟩ : S35)) := ⟨_, rfl⟩
  rw [← hy289] at H
  have Ny289 := K_ hy289
  clear hy289
  simp only [Option.some.injEq, Prod.mk.injEq] at H
  obtain ⟨rfl, rfl, rfl⟩ := H
  go_enter Try.func59, Try.ntmps59
  try go_wp2_with (first | ((with_reducible refine gate_dst (N := 2) rfl ?_); refine box_event ?hg (N := 2) ?hd (cs := #[.slice A0_0 l0_0.length c0_0, .slice A0_1 l0_1.length c0_1, .slice A0_2 l0_2.length c0_2]) (t := 26) ?hr ?_; (case hd => rfl); (case hg => rfl); (case hr => go_simp; try rfl); intro gb267 hg w11 hbox hb; have BK267 := K_ (hbox); have GW267 := ge_ hg HB.out; have GE267 := ge_ hg HB.out; replace HB := K_ (below_step HB.out hb); clear hb hbox hg) | ((with_reducible refine gate_dst (N := 4) rfl ?_); refine box_event ?hg (N := 4) ?hd (cs := #[.slice none 0 0, .slice none 0 0, .slice none 0 0]) (t := 26) ?hr ?_; (case hd => rfl); (case hg => rfl); (case hr => go_simp; try rfl); intro gb268 hg w12 hbox hb; have BK268 := K_ (hbox); have GW268 := ge_ hg HB.out; have GE268 := ge_ hg HB.out; have NB267_268 := nl_ hg BK267.out; have NB268_267 := ng_ hg BK267.out; replace BK267 := K_ (blk_below BK267.out hb); replace HB := K_ (below_step HB.out hb); clear hb hbox hg; have hnb13 := NB267_268.out; have hnc13 := NB268_267.out; obtain ⟨hcz14_0, hcz14_1, hcz14_2, hfz14_0, hfz14_1, hfz14_2⟩ := blkf3_ BK267.out) | ((with_reducible refine gate_callee (f := 56) rfl ?_); refine goesL_ (some 7) rfl rfl Try.func56 (by kernel_rfl) rfl #[.agg #[.slice A0_0 l0_0.length c0_0, .slice A0_1 l0_1.length c0_1, .slice A0_2 l0_2.length c0_2]] rfl (by simp only [List.map_toArray, List.map_cons, List.map_nil]; try rfl) ?_; (with_reducible refine (spec_l1copy.calls k _ _ l0_0 _ _ l0_1 _ _ l0_2 t269 t272 t275 _ ?side1 ?side2 ?side3 ?side4 ?side5 ?side6 A3.out).mono ?_); (case side1 => exact (Kd.C_below HR0_0.out HB.out)); (case side2 => exact HC0_0.out); (case side3 => exact (Kd.C_below HR0_1.out HB.out)); (case side4 => exact HC0_1.out); (case side5 => exact (Kd.C_below HR0_2.out HB.out)); (case side6 => exact HC0_2.out); rintro e w15 ⟨v270, v273, v276, rfl, ho0, ho1, ho2, hb⟩; refine ⟨_, rfl, ?_⟩; have HO271 := K_ (Kd.R_lower (Kd.R_newM (M := fun k_ => (w.heap.size ≤ k_)) ho0 (below_size HB.out) (fun k_ h_ => h_)) (below_size HB.out)); have HO274 := K_ (Kd.N_lower (Kd.N_mono (ok' := fun k_ => (w.heap.size ≤ k_) ∧ some k_ ≠ (v270 : Value).ownBlock ∧ some k_ ≠ (v276 : Value).ownBlock ∧ k_ ≠ gb267 ∧ k_ ≠ gb268) (Kd.S_N (Kd.S_bound ho1)) (fun k_ hk_ => ⟨(Nat.le_trans (below_size HB.out) hk_.2.1), hk_.1.1, hk_.1.2, (Kd.freshB BK267.out k_ hk_.2.1), (Kd.freshB BK268.out k_ hk_.2.1)⟩)) (below_size HB.out)); have HO277 := K_ (Kd.R_lower (Kd.R_newM (M := fun k_ => (w.heap.size ≤ k_)) ho2 (below_size HB.out) (fun k_ h_ => h_)) (below_size HB.out)); replace BK267 := K_ (blk_below BK267.out hb); replace BK268 := K_ (blk_below BK268.out hb); replace HB := K_ (below_step HB.out hb); clear hb ho0 ho1 ho2) | ((with_reducible refine gate_dst (N := 5) rfl ?_); refine box_event ?hg (N := 5) ?hd (cs := #[.slice none 0 0, .slice none 0 0, .slice none 0 0]) (t := 26) ?hr ?_; (case hd => rfl); (case hg => rfl); (case hr => go_simp; try rfl); intro gb278 hg w16 hbox hb; have BK278 := K_ (hbox); have GW278 := ge_ hg HB.out; have GE278 := ge_ hg HB.out; have NB267_278 := nl_ hg BK267.out; have NB278_267 := ng_ hg BK267.out; have NB268_278 := nl_ hg BK268.out; have NB278_268 := ng_ hg BK268.out; replace HO271 := K_ (Kd.R_below HO271.out hb); replace HO274 := K_ (Kd.N_below (Kd.N_elderB HO274.out gb278 (Nat.le_of_eq hg.symm)) hb); replace HO277 := K_ (Kd.R_below HO277.out hb); replace BK267 := K_ (blk_below BK267.out hb); replace BK268 := K_ (blk_below BK268.out hb); replace HB := K_ (below_step HB.out hb); clear hb hbox hg; obtain ⟨Ao17, co17, eo17⟩ := Kd.R_slice HO271.out; subst eo17; have hnb18 := NB278_267.out; have hnc18 := NB267_278.out; have hnb19 := NB278_268.out; have hnc19 := NB268_278.out; obtain ⟨hcz20_0, hcz20_1, hcz20_2, hfz20_0, hfz20_1, hfz20_2⟩ := blkf3_ BK278.out; obtain ⟨Ao21, co21, eo21⟩ := Kd.N_slice HO274.out; subst eo21; obtain ⟨Ao22, co22, eo22⟩ := Kd.R_slice HO277.out; subst eo22) | ((with_reducible refine gate_store (t := 26) (p := 5) rfl ?_); refine store_event (t := 26) (p := 5) (v := ?vo_w23) (w1 := (((w16.setCell ⟨gb278, 0, none⟩ (.slice Ao17 t269.length co17)).setCell ⟨gb278, 1, none⟩ (.slice Ao21 t272.length co21)).setCell ⟨gb278, 2, none⟩ (.slice Ao22 t275.length co22))) ?hg ?ho ?hn ?hr ?_; (case ho => rfl); (case hg => rfl); (case hn => rfl); (case hr => go_simp; try rfl); intro w23 hw; have n0_ : Aside0 (Kd.R (Kd.int .i64) 3 w23 w.heap.size (fun k_ => (w.heap.size ≤ k_) ∧ some k_ ≠ (.slice Ao22 t275.length co22 : Value).ownBlock) (.slice Ao17 t269.length co17) t269) := ⟨(by rw [hw]; exact (by exact Kd.R_mono (Kd.R_far (p := ⟨gb278, 2, none⟩) (Kd.R_far (p := ⟨gb278, 1, none⟩) (Kd.R_far (p := ⟨gb278, 0, none⟩) (Kd.R_types HO271.out BK278.out (by decide)) (fun _ hk => hk.2) (.slice Ao17 t269.length co17)) (fun _ hk => hk.2) (.slice Ao21 t272.length co21)) (fun _ hk => hk.2) (.slice Ao22 t275.length co22)) (fun _ hk => ⟨hk.1.1, hk.1.2⟩)))⟩; have n1_ : Aside0 (Kd.N k35 35 w23 w.heap.size (fun k_ => (w.heap.size ≤ k_) ∧ some k_ ≠ (.slice Ao17 t269.length co17 : Value).ownBlock ∧ some k_ ≠ (.slice Ao22 t275.length co22 : Value).ownBlock ∧ k_ ≠ gb267 ∧ k_ ≠ gb268 ∧ k_ ≠ gb278) (.slice Ao21 t272.length co21) t272) := ⟨(by rw [hw]; exact (by exact Kd.N_mono (Kd.N_far (p := ⟨gb278, 2, none⟩) (Kd.N_far (p := ⟨gb278, 1, none⟩) (Kd.N_far (p := ⟨gb278, 0, none⟩) (Kd.N_mono HO274.out (fun k_ hk => (⟨hk, hk.2⟩ : _ ∧ k_ ≠ gb278))) (fun _ hk => hk.2) (.slice Ao17 t269.length co17)) (fun _ hk => hk.2) (.slice Ao21 t272.length co21)) (fun _ hk => hk.2) (.slice Ao22 t275.length co22)) (fun _ hk => ⟨hk.1.1.1, ⟨hk.1.1.2.1, ⟨hk.1.1.2.2.1, ⟨hk.1.1.2.2.2.1, ⟨hk.1.1.2.2.2.2, hk.1.2⟩⟩⟩⟩⟩)))⟩; have n2_ : Aside0 (Kd.R (Kd.int .i64) 3 w23 w.heap.size (fun k_ => (w.heap.size ≤ k_) ∧ some k_ ≠ (.slice Ao17 t269.length co17 : Value).ownBlock) (.slice Ao22 t275.length co22) t275) := ⟨(by rw [hw]; exact (by exact Kd.R_mono (Kd.R_far (p := ⟨gb278, 2, none⟩) (Kd.R_far (p := ⟨gb278, 1, none⟩) (Kd.R_far (p := ⟨gb278, 0, none⟩) (Kd.R_types HO277.out BK278.out (by decide)) (fun _ hk => hk.2) (.slice Ao17 t269.length co17)) (fun _ hk => hk.2) (.slice Ao21 t272.length co21)) (fun _ hk => hk.2) (.slice Ao22 t275.length co22)) (fun _ hk => ⟨hk.1.1, hk.1.2⟩)))⟩; have n3_ : Aside0 (w23.heap[gb267]? = some (.cells #[.slice A0_0 l0_0.length c0_0, .slice A0_1 l0_1.length c0_1, .slice A0_2 l0_2.length c0_2] 26 (0, 0))) := ⟨(by rw [hw]; exact (by refine blk_far ?_ NB267_278.out _; refine blk_far ?_ NB267_278.out _; refine blk_far ?_ NB267_278.out _; exact BK267.out))⟩; have n4_ : Aside0 (w23.heap[gb268]? = some (.cells #[.slice none 0 0, .slice none 0 0, .slice none 0 0] 26 (0, 0))) := ⟨(by rw [hw]; exact (by refine blk_far ?_ NB268_278.out _; refine blk_far ?_ NB268_278.out _; refine blk_far ?_ NB268_278.out _; exact BK268.out))⟩; have n5_ : Aside0 (w23.heap[gb278]? = some (.cells #[.slice Ao17 t269.length co17, .slice Ao21 t272.length co21, .slice Ao22 t275.length co22] 26 (0, 0))) := ⟨(by rw [hw]; exact (by refine blk_put (cs := #[.slice Ao17 t269.length co17, .slice Ao21 t272.length co21, .slice none 0 0]) ?_ 2 _ rfl; refine blk_put (cs := #[.slice Ao17 t269.length co17, .slice none 0 0, .slice none 0 0]) ?_ 1 _ rfl; refine blk_put (cs := #[.slice none 0 0, .slice none 0 0, .slice none 0 0]) ?_ 0 _ rfl; exact BK278.out))⟩; have n6_ : Aside0 (Below w.heap.size w w23) := ⟨(by rw [hw]; exact (by repeat (first | exact HB.out | refine below_set ?_ GE267.out | refine below_set ?_ GE268.out | refine below_set ?_ GE278.out)))⟩; clear hw; clear HO271; clear HO274; clear HO277; clear BK267; clear BK268; clear BK278; clear HB; have HO271 := n0_; have HO274 := n1_; have HO277 := n2_; have BK267 := n3_; have BK268 := n4_; have BK278 := n5_; have HB := n6_; clear n0_ n1_ n2_ n3_ n4_ n5_ n6_; obtain ⟨hcz24_0, hcz24_1, hcz24_2, hfz24_0, hfz24_1, hfz24_2⟩ := blkf3_ BK278.out; have p279 : 0 ≤ (a1 : Int) := of_decide_eq_true (by assumption); have q279 : a1 < (t272.length : Int) := of_decide_eq_true (by assumption); obtain ⟨ad279, A279_1, c279_1, e279, hx279_0, hx279_1, hx279_2, hl279_1, hi279_1⟩ := at_T35 (Kd.N_reads' HO274.out).2.2 a1 p279 q279; cases e279; obtain ⟨ce279, hce279, hMe279, hcc279⟩ := Kd.N_get HO274.out z35 a1 p279 (by first | exact q279 | exact of_decide_eq_true (by assumption) | (have e_ := (Kd.N_reads' HO274.out).1; omega)); obtain ⟨ua279_1, uc279_1, rfl, ul279_1, ge279_1⟩ := k35_openF hMe279; have hv279_1 := hcc279 1 _ rfl; rw [add_field _ _ 1 (by omega)] at hv279_1; replace hv279_1 := Option.some.inj (hv279_1.symm.trans hx279_1); injection hv279_1 with hva_ hvn_ hvc_; rw [hva_] at ge279_1; rw [hvc_] at ul279_1; have HL279_1 := K_ (show Kd.V (Kd.int .i64) 3 _ w.heap.size _ _ ((rd_T35 t272 a1).f1) from Kd.V_mk ul279_1 ge279_1); clear hva_ hvn_ hvc_ ge279_1 ul279_1; clear hcc279 hce279; have HR279_1 := K_ hi279_1; have HC279_1 := K_ hl279_1; clear hi279_1 hl279_1; replace p279 := eq_true p279; replace q279 := eq_true q279))
  have n0_ := K_ (Kd.R_drew HO271.out)
  have n1_ := K_ (Kd.N_drew HO274.out)
  have n2_ := K_ (Kd.R_drew HO277.out)
  have n3_ := K_ (Kd.V_drew HL279_1.out)
  have n4_ := K_ (blk_drew BK267.out)
  have n5_ := K_ (blk_drew BK268.out)
  have n6_ := K_ (blk_drew BK278.out)
  have n7_ := K_ (Kd.C_drew HR279_1.out)
  have n8_ := K_ (below_drew1 HB.out)
  clear HO271
  clear HO274
  clear HO277
  clear HL279_1
  clear BK267
  clear BK268
  clear BK278
  clear HR279_1
  clear HB
  have HO271 := n0_
  have HO274 := n1_
  have HO277 := n2_
  have HL279_1 := n3_
  have BK267 := n4_
  have BK268 := n5_
  have BK278 := n6_
  have HR279_1 := n7_
  have HB := n8_
  clear n0_ n1_ n2_ n3_ n4_ n5_ n6_ n7_ n8_
  have p280 : 0 ≤ (a1 : Int) := of_decide_eq_true (by assumption)
  have q280 : a1 < (t272.length : Int) := of_decide_eq_true (by assumption)
  obtain ⟨ad280, A280_1, c280_1, e280, hx280_0, hx280_1, hx280_2, hl280_1, hi280_1⟩ := at_T35 (Kd.N_reads' HO274.out).2.2 a1 p280 q280
  obtain rfl : ad279 = ad280 := (by injection e280)
  obtain ⟨ce280, hce280, hMe280, hcc280⟩ := Kd.N_get HO274.out z35 a1 p280 (by first | exact q280 | exact of_decide_eq_true (by assumption) | (have e_ := (Kd.N_reads' HO274.out).1; omega))
  obtain ⟨ua280_1, uc280_1, rfl, ul280_1, ge280_1⟩ := k35_openF hMe280
  have hv280_1 := hcc280 1 _ rfl
  rw [add_field _ _ 1 (by omega)] at hv280_1
  replace hv280_1 := Option.some.inj (hv280_1.symm.trans hx280_1)
  injection hv280_1 with hva_ hvn_ hvc_
  rw [hva_] at ge280_1
  rw [hvc_] at ul280_1
  have HL280_1 := K_ (show Kd.V (Kd.int .i64) 3 _ w.heap.size _ _ ((rd_T35 t272 a1).f1) from Kd.V_mk ul280_1 ge280_1)
  clear hva_ hvn_ hvc_ ge280_1 ul280_1
  clear hcc280 hce280
  have HR280_1 := K_ hi280_1
  have HC280_1 := K_ hl280_1
  clear hi280_1 hl280_1
  replace p280 := eq_true p280
  replace q280 := eq_true q280
  have p281 : 0 ≤ (0 : Int) := (by omega)
  have q281 : 0 < (((rd_T35 t272 a1).f1).length : Int) := of_decide_eq_true (by assumption)
  obtain ⟨ad281, e281, hx281_0⟩ := Kd.at_int (by repeat (first | (with_reducible exact HR280_1.out) | (with_reducible refine Kd.C_alloc ?_ _) | (with_reducible refine Kd.C_drewN ?_ _) | (with_reducible refine Kd.C_drew ?_) | exact HR280_1.out)) 0 p281 q281
  cases e281
  have qi281 : (0 < ((rd_T35 t272 a1).f1).length) = True := eq_true (by omega)
  (try rw [show ((0 : Int)).toNat = 0 from rfl] at hx281_0)
  (try rw [Addr.add_zero'] at hx281_0)
  replace p281 := eq_true p281
  replace q281 := eq_true q281
  have p8 : 0 ≤ (a1 : Int) := of_decide_eq_true (by assumption)
  have q8 : (a1 : Int) < ((t272.length : Int) : Int) := of_decide_eq_true (by assumption)
  obtain ⟨go8, co8, eo8, gb8, gl8, cl8, HG8⟩ := Kd.N_form HO274.out (by omega)
  (first | cases eo8 | (injection eo8 with ea_ en_ ec_; (first | subst ea_ | (injection ea_ with ea_; subst ea_)); subst ec_; clear en_))
  have GB8 := K_ gb8
  have GG8 := K_ HG8
  clear gb8 gl8 HG8
  (first | simp only [add_plain] at hx279_0 | skip)
  (first | simp only [add_plain] at hx279_1 | skip)
  (first | simp only [add_plain] at hx279_2 | skip)
  (first | simp only [add_plain] at hx280_0 | skip)
  (first | simp only [add_plain] at hx280_1 | skip)
  (first | simp only [add_plain] at hx280_2 | skip)
  obtain ⟨ce8, hcl8, hM8, hcc8, hfr8⟩ := Kd.N_elem HO274.out z35 (a1 : Int) p8 q8
  obtain ⟨ua8_1, uc8_1, rfl, ul8_1, ge8_1⟩ := k35_openF hM8
  have hx8_0 : World.cell? _ ⟨go8, (a1 : Int).toNat * 3, none⟩ = some (.int .i64 ((rd_T35 t272 a1).f0)) := hcc8 0 _ rfl
  have hx8_1 : World.cell? _ ⟨go8, (a1 : Int).toNat * 3 + 1, none⟩ = some (.slice ua8_1 ((rd_T35 t272 a1).f1).length uc8_1) := hcc8 1 _ rfl
  have hx8_2 : World.cell? _ ⟨go8, (a1 : Int).toNat * 3 + 2, none⟩ = some (.int .i64 ((rd_T35 t272 a1).f2)) := hcc8 2 _ rfl
  have hf8_0 : World.frozen? _ ⟨go8, (a1 : Int).toNat * 3, none⟩ = false := hfr8 0
  have hf8_1 : World.frozen? _ ⟨go8, (a1 : Int).toNat * 3 + 1, none⟩ = false := hfr8 1
  have hf8_2 : World.frozen? _ ⟨go8, (a1 : Int).toNat * 3 + 2, none⟩ = false := hfr8 2
  clear hcl8 hcc8 hfr8 hM8
  replace p8 := eq_true p8
  replace q8 := eq_true q8
  have HX26 := K_ (show Kd.N k35 35 _ w.heap.size (fun k_ => (w.heap.size ≤ k_) ∧ some k_ ≠ (.slice Ao17 t269.length co17 : Value).ownBlock ∧ some k_ ≠ (.slice Ao22 t275.length co22 : Value).ownBlock ∧ k_ ≠ gb267 ∧ k_ ≠ gb268 ∧ k_ ≠ gb278) (.slice (some ⟨go8, 0, none⟩) t272.length co21) t272 from (Kd.N_mono (HO274.out) (fun k_ hk => ⟨hk.1, ⟨hk.2.1, ⟨hk.2.2.1, ⟨hk.2.2.2.1, ⟨hk.2.2.2.2.1, hk.2.2.2.2.2⟩⟩⟩⟩⟩)))
  obtain ⟨ce26, hcl26, hM26, hcc26, hfr26⟩ := Kd.N_elem HX26.out z35 (a1 : Int) (of_decide_eq_true (by assumption)) (by have h_ : (a1 : Int) < ((t272.length : Int) : Int) := of_decide_eq_true (by assumption); first | exact h_ | (have e_ := (Kd.N_reads' HO274.out).1; omega) | simpa using h_)
  obtain ⟨ua26_1, uc26_1, rfl, ul26_1, ge26_1⟩ := k35_openF hM26
  have HP26 := (Kd.N_seg HX26.out (a1 : Int) (of_decide_eq_true (by assumption)) (by have h_ : (a1 : Int) < ((t272.length : Int) : Int) := of_decide_eq_true (by assumption); first | exact h_ | (have e_ := (Kd.N_reads' HO274.out).1; omega) | simpa using h_) (seg := [.int .i64 (rd ((rd_T35 t272 a1).f1) 0)]) (j := 0) hcl26 hcc26 (show 1 ≤ 3 from by decide) (x' := (⟨rd ((rd_T35 t272 a1).f1) 0, (rd_T35 t272 a1).f1, (rd_T35 t272 a1).f2⟩ : S35)) (k35_mkF _ _ (⟨rd ((rd_T35 t272 a1).f1) 0, (rd_T35 t272 a1).f1, (rd_T35 t272 a1).f2⟩ : S35) ul26_1 ge26_1) (fun _ hk => hk)).1
  rw [← Ny282.out] at HP26
  have HQ26 := K_ HP26
  clear hcl26 hcc26 hfr26 hM26 HP26
  refine start_ (n := 14) (S := fun w' => w'.cell? ⟨gb278, 0, none⟩ = some (.slice Ao17 t269.length co17) ∧ w'.cell? ⟨gb278, 1, none⟩ = some (.slice (some ⟨go8, 0, none⟩) t272.length co21) ∧ w'.cell? ⟨gb278, 2, none⟩ = some (.slice Ao22 t275.length co22) ∧ w'.cell? ⟨go8, ((a1).toNat * 3), none⟩ = some (.int .i64 ((rd_T35 t272 a1).f0)) ∧ w'.cell? ⟨go8, ((a1).toNat * 3) + 1, none⟩ = some (.slice (some ad281) ((rd_T35 t272 a1).f1).length c280_1) ∧ w'.cell? ⟨go8, ((a1).toNat * 3) + 2, none⟩ = some (.int .i64 ((rd_T35 t272 a1).f2)) ∧ w'.cell? ad281 = some (.int .i64 (rd ((rd_T35 t272 a1).f1) 0))) (ds := [13]) #[ff, ff, ff, ff, ff, ff, ff, ff, ff, ff, ff, ff, ff, ff] (by kernel_rfl) rfl rfl ⟨(blk_cell BK278.out 0).trans rfl, (blk_cell BK278.out 1).trans rfl, (blk_cell BK278.out 2).trans rfl, hx280_0, hx280_1, hx280_2, hx281_0⟩ (fun hHeld => ?_); refine with_tabW spec_l1step.tab3 spec_l1step.bits3 (fun HT_ HW_ => ?_)
  generalize w23.drew = w25 at HO271 HO274 HO277 HL279_1 BK267 BK268 BK278 HR279_1 HB GG8 HL280_1 HQ26 HR280_1 hf8_0 hf8_1 hf8_2 hx279_0 hx279_1 hx279_2 hx280_0 hx280_1 hx280_2 hx281_0 hx8_0 hx8_1 hx8_2 hHeld ⊢
  refine pure_ (i := 0) (N := some 16) (v := ?_) (a' := ?_) (M_ 14 1) rfl rfl (any_of HT_.out (by kernel_rfl)) (fun _ _ _ h => h) (Or.inl ⟨by rfl, ?_⟩) ?_ ?_
  rotate_left
  ·intro w'
   go_simp
   with_reducible rfl
  rotate_left
  ·simp only [P_, i64_w, i32_w]
   rfl
  refine pure_ (i := 2) (N := some 18) (v := ?_) (a' := ?_) (M_ 14 5) rfl rfl (any_of HT_.out (by kernel_rfl)) (fun _ _ _ h => h) (Or.inl ⟨by rfl, ?_⟩) ?_ ?_
  rotate_left
  ·intro w'
   go_simp
   with_reducible rfl
  rotate_left
  ·simp only [P_, i64_w, i32_w]
   rfl
  refine pure_ (i := 3) (N := some 19) (v := ?_) (a' := ?_) (M_ 14 13) rfl rfl (any_of HT_.out (by kernel_rfl)) (fun _ _ _ h => h) (Or.inl ⟨by rfl, ?_⟩) ?_ ?_
  rotate_left
  ·intro w'
   go_simp
   with_reducible rfl
  rotate_left
  ·simp only [P_, i64_w, i32_w]
   rfl
  refine pure_ (i := 5) (N := some 21) (v := ?_) (a' := ?_) (M_ 14 45) rfl rfl (any_of HT_.out (by kernel_rfl)) (fun _ _ _ h => h) (Or.inl ⟨by rfl, ?_⟩) ?_ ?_
  rotate_left
  ·intro w'
   go_simp
   with_reducible rfl
  rotate_left
  ·simp only [P_, i64_w, i32_w]
   rfl
  refine take_ (i := 1) (N := some 17) (v := ?_) (a' := ?_) (M_ 14 47) rfl rfl (take_ofW HT_.out HW_.out (by kernel_rfl)) (fun _ _ _ h => h) (Or.inl ⟨by rfl, ?_⟩) hHeld ?_ ?_
  rotate_left
  ·rintro w' ⟨s0, s1, s2, s3, s4, s5, s6⟩
   go_simp
   with_reducible rfl
  rotate_left
  ·simp only [P_, i64_w, i32_w]
   rfl
  refine take_ (i := 4) (N := some 20) (v := ?_) (a' := ?_) (M_ 14 63) rfl rfl (take_ofW HT_.out HW_.out (by kernel_rfl)) (fun _ _ _ h => h) (Or.inl ⟨by rfl, ?_⟩) hHeld ?_ ?_
  rotate_left
  ·rintro w' ⟨s0, s1, s2, s3, s4, s5, s6⟩
   go_simp
   with_reducible rfl
  rotate_left
  ·simp only [P_, i64_w, i32_w]
   rfl
  refine pure_ (i := 6) (N := some 22) (v := ?_) (a' := ?_) (M_ 14 127) rfl rfl (any_of HT_.out (by kernel_rfl)) (fun _ _ _ h => h) (Or.inl ⟨by rfl, ?_⟩) ?_ ?_
  rotate_left
  ·intro w'
   go_simp
   with_reducible rfl
  rotate_left
  ·simp only [P_, i64_w, i32_w]
   rfl
  refine pure_ (i := 7) (N := some 23) (v := ?_) (a' := ?_) (M_ 14 255) rfl rfl (any_of HT_.out (by kernel_rfl)) (fun _ _ _ h => h) (Or.inl ⟨by rfl, ?_⟩) ?_ ?_
  rotate_left
  ·intro w'
   go_simp
   with_reducible rfl
  rotate_left
  ·simp only [P_, i64_w, i32_w]
   rfl
  refine take_ (i := 8) (N := some 24) (v := ?_) (a' := ?_) (M_ 14 511) rfl rfl (take_ofW HT_.out HW_.out (by kernel_rfl)) (fun _ _ _ h => h) (Or.inl ⟨by rfl, ?_⟩) hHeld ?_ ?_
  rotate_left
  ·rintro w' ⟨s0, s1, s2, s3, s4, s5, s6⟩
   go_simp
   with_reducible rfl
  rotate_left
  ·simp only [P_, i64_w, i32_w]
   rfl
  refine pure_ (i := 9) (N := some 25) (v := ?_) (a' := ?_) (M_ 14 1023) rfl rfl (any_of HT_.out (by kernel_rfl)) (fun _ _ _ h => h) (Or.inl ⟨by rfl, ?_⟩) ?_ ?_
  rotate_left
  ·intro w'
   go_simp
   with_reducible rfl
  rotate_left
  ·simp only [P_, i64_w, i32_w]
   rfl
  refine take_ (i := 10) (N := some 26) (v := ?_) (a' := ?_) (M_ 14 2047) rfl rfl (take_ofW HT_.out HW_.out (by kernel_rfl)) (fun _ _ _ h => h) (Or.inl ⟨by rfl, ?_⟩) hHeld ?_ ?_
  rotate_left
  ·rintro w' ⟨s0, s1, s2, s3, s4, s5, s6⟩
   go_simp
   with_reducible rfl
  rotate_left
  ·simp only [P_, i64_w, i32_w]
   rfl
  refine pure_ (i := 11) (N := some 27) (v := ?_) (a' := ?_) (M_ 14 4095) rfl rfl (any_of HT_.out (by kernel_rfl)) (fun _ _ _ h => h) (Or.inl ⟨by rfl, ?_⟩) ?_ ?_
  rotate_left
  ·intro w'
   go_simp
   with_reducible rfl
  rotate_left
  ·simp only [P_, i64_w, i32_w]
   rfl
  refine pure_ (i := 12) (N := some 28) (v := ?_) (a' := ?_) (M_ 14 8191) rfl rfl (any_of HT_.out (by kernel_rfl)) (fun _ _ _ h => h) (Or.inl ⟨by rfl, ?_⟩) ?_ ?_
  rotate_left
  ·intro w'
   go_simp
   with_reducible rfl
  rotate_left
  ·simp only [P_, i64_w, i32_w]
   rfl
  refine last_ (i := 13) (N := none) (M_ 14 16383) rfl rfl (one_of HT_.out (by kernel_rfl)) (by decide) (fun K hK => ?_)
  refine skip_ (w1 := ?_) (by rfl) rfl ?_ ?_
  rotate_left
  ·go_simp
   rfl
  refine hK.out _ _ ?_
  clear hK K
  refine done_ (done_of HT_.out (by kernel_rfl)) ?_
  have n0_ : Aside0 (Kd.R (Kd.int .i64) 3 (w25.setCell ⟨go8, (a1 : Int).toNat * 3, none⟩ (.int .i64 (rd ((rd_T35 t272 a1).f1) 0))) w.heap.size (fun k_ => (w.heap.size ≤ k_) ∧ some k_ ≠ (.slice Ao22 t275.length co22 : Value).ownBlock) (.slice Ao17 t269.length co17) t269) := ⟨by first | exact Kd.R_mono (Kd.R_far (p := ⟨go8, (a1 : Int).toNat * 3, none⟩) (Kd.R_types HO271.out GG8.out (by decide)) (fun _ hk => hk.2) (.int .i64 (rd ((rd_T35 t272 a1).f1) 0))) (fun _ hk => ⟨hk.1.1, hk.1.2⟩) | exact Kd.R_mono (Kd.R_far (p := ⟨go8, (a1 : Int).toNat * 3, none⟩) (Kd.R_mono (Kd.R_apart' HO271.out (Kd.N_typed HO274.out) (by decide)) (fun k_ hk => (⟨hk.1, fun e_ => hk.2 (by rw [e_]; rfl)⟩ : _ ∧ k_ ≠ go8))) (fun _ hk => hk.2) (.int .i64 (rd ((rd_T35 t272 a1).f1) 0))) (fun _ hk => ⟨hk.1.1, hk.1.2⟩)⟩
  have n1_ : Aside0 (Kd.N k35 35 (w25.setCell ⟨go8, (a1 : Int).toNat * 3, none⟩ (.int .i64 (rd ((rd_T35 t272 a1).f1) 0))) w.heap.size (fun k_ => (w.heap.size ≤ k_) ∧ some k_ ≠ (.slice Ao17 t269.length co17 : Value).ownBlock ∧ some k_ ≠ (.slice Ao22 t275.length co22 : Value).ownBlock ∧ k_ ≠ gb267 ∧ k_ ≠ gb268 ∧ k_ ≠ gb278) (.slice (some ⟨go8, 0, none⟩) t272.length co21) y282) := ⟨HQ26.out⟩
  have n2_ : Aside0 (Kd.R (Kd.int .i64) 3 (w25.setCell ⟨go8, (a1 : Int).toNat * 3, none⟩ (.int .i64 (rd ((rd_T35 t272 a1).f1) 0))) w.heap.size (fun k_ => (w.heap.size ≤ k_) ∧ some k_ ≠ (.slice Ao17 t269.length co17 : Value).ownBlock) (.slice Ao22 t275.length co22) t275) := ⟨by first | exact Kd.R_mono (Kd.R_far (p := ⟨go8, (a1 : Int).toNat * 3, none⟩) (Kd.R_types HO277.out GG8.out (by decide)) (fun _ hk => hk.2) (.int .i64 (rd ((rd_T35 t272 a1).f1) 0))) (fun _ hk => ⟨hk.1.1, hk.1.2⟩) | exact Kd.R_mono (Kd.R_far (p := ⟨go8, (a1 : Int).toNat * 3, none⟩) (Kd.R_mono (Kd.R_apart' HO277.out (Kd.N_typed HO274.out) (by decide)) (fun k_ hk => (⟨hk.1, fun e_ => hk.2 (by rw [e_]; rfl)⟩ : _ ∧ k_ ≠ go8))) (fun _ hk => hk.2) (.int .i64 (rd ((rd_T35 t272 a1).f1) 0))) (fun _ hk => ⟨hk.1.1, hk.1.2⟩)⟩
  have n3_ : Aside0 (Kd.V (Kd.int .i64) 3 (w25.setCell ⟨go8, (a1 : Int).toNat * 3, none⟩ (.int .i64 (rd ((rd_T35 t272 a1).f1) 0))) w.heap.size (fun k_ => (w.heap.size ≤ k_) ∧ some k_ ≠ (.slice Ao17 t269.length co17 : Value).ownBlock ∧ some k_ ≠ (.slice (some ⟨go8, 0, none⟩) t272.length co21 : Value).ownBlock ∧ some k_ ≠ (.slice Ao22 t275.length co22 : Value).ownBlock ∧ k_ ≠ gb267 ∧ k_ ≠ gb268 ∧ k_ ≠ gb278) (.slice A279_1 ((rd_T35 t272 a1).f1).length c279_1) ((rd_T35 t272 a1).f1)) := ⟨by exact Kd.V_mono (Kd.V_far (p := ⟨go8, (a1 : Int).toNat * 3, none⟩) (Kd.V_mono HL279_1.out (fun k_ hk => (⟨hk, fun e_ => hk.2 (by rw [e_]; rfl)⟩ : _ ∧ k_ ≠ go8))) (fun _ hk => hk.2) (.int .i64 (rd ((rd_T35 t272 a1).f1) 0))) (fun _ hk => ⟨hk.1.1.1, ⟨hk.1.1.2.1, ⟨hk.1.2, ⟨hk.1.1.2.2.1, ⟨hk.1.1.2.2.2.1, ⟨hk.1.1.2.2.2.2.1, hk.1.1.2.2.2.2.2⟩⟩⟩⟩⟩⟩)⟩
  have n4_ : Aside0 (Kd.V (Kd.int .i64) 3 (w25.setCell ⟨go8, (a1 : Int).toNat * 3, none⟩ (.int .i64 (rd ((rd_T35 t272 a1).f1) 0))) w.heap.size (fun k_ => (w.heap.size ≤ k_) ∧ some k_ ≠ (.slice Ao17 t269.length co17 : Value).ownBlock ∧ some k_ ≠ (.slice (some ⟨go8, 0, none⟩) t272.length co21 : Value).ownBlock ∧ some k_ ≠ (.slice Ao22 t275.length co22 : Value).ownBlock ∧ k_ ≠ gb267 ∧ k_ ≠ gb268 ∧ k_ ≠ gb278) (.slice (some ad281) ((rd_T35 t272 a1).f1).length c280_1) ((rd_T35 t272 a1).f1)) := ⟨by exact Kd.V_mono (Kd.V_far (p := ⟨go8, (a1 : Int).toNat * 3, none⟩) (Kd.V_mono HL280_1.out (fun k_ hk => (⟨hk, fun e_ => hk.2 (by rw [e_]; rfl)⟩ : _ ∧ k_ ≠ go8))) (fun _ hk => hk.2) (.int .i64 (rd ((rd_T35 t272 a1).f1) 0))) (fun _ hk => ⟨hk.1.1.1, ⟨hk.1.1.2.1, ⟨hk.1.2, ⟨hk.1.1.2.2.1, ⟨hk.1.1.2.2.2.1, ⟨hk.1.1.2.2.2.2.1, hk.1.1.2.2.2.2.2⟩⟩⟩⟩⟩⟩)⟩
  have n5_ : Aside0 ((w25.setCell ⟨go8, (a1 : Int).toNat * 3, none⟩ (.int .i64 (rd ((rd_T35 t272 a1).f1) 0))).heap[gb267]? = some (.cells #[.slice A0_0 l0_0.length c0_0, .slice A0_1 l0_1.length c0_1, .slice A0_2 l0_2.length c0_2] 26 (0, 0))) := ⟨by refine blk_far ?_ (by have h_ := Kd.N_away HO274.out (fun _ hk => hk.2.2.2.1); intro e_; exact h_ (by rw [e_]; rfl)) _; exact BK267.out⟩
  have n6_ : Aside0 ((w25.setCell ⟨go8, (a1 : Int).toNat * 3, none⟩ (.int .i64 (rd ((rd_T35 t272 a1).f1) 0))).heap[gb268]? = some (.cells #[.slice none 0 0, .slice none 0 0, .slice none 0 0] 26 (0, 0))) := ⟨by refine blk_far ?_ (by have h_ := Kd.N_away HO274.out (fun _ hk => hk.2.2.2.2.1); intro e_; exact h_ (by rw [e_]; rfl)) _; exact BK268.out⟩
  have n7_ : Aside0 ((w25.setCell ⟨go8, (a1 : Int).toNat * 3, none⟩ (.int .i64 (rd ((rd_T35 t272 a1).f1) 0))).heap[gb278]? = some (.cells #[.slice Ao17 t269.length co17, .slice (some ⟨go8, 0, none⟩) t272.length co21, .slice Ao22 t275.length co22] 26 (0, 0))) := ⟨by refine blk_far ?_ (by have h_ := Kd.N_away HO274.out (fun _ hk => hk.2.2.2.2.2); intro e_; exact h_ (by rw [e_]; rfl)) _; exact BK278.out⟩
  have n8_ : Aside0 (Below w.heap.size w (w25.setCell ⟨go8, (a1 : Int).toNat * 3, none⟩ (.int .i64 (rd ((rd_T35 t272 a1).f1) 0)))) := ⟨by repeat (first | exact HB.out | refine below_set ?_ GB8.out | refine below_set ?_ GE267.out | refine below_set ?_ GE268.out | refine below_set ?_ GE278.out)⟩
  clear HO271
  clear HO274
  clear HO277
  clear HL279_1
  clear HL280_1
  clear BK267
  clear BK268
  clear BK278
  clear HB
  generalize (w25.setCell ⟨go8, (a1 : Int).toNat * 3, none⟩ (.int .i64 (rd ((rd_T35 t272 a1).f1) 0))) = w27 at n0_ n1_ n2_ n3_ n4_ n5_ n6_ n7_ n8_ ⊢
  have HO271 := n0_
  have HO274 := n1_
  have HO277 := n2_
  have HL279_1 := n3_
  have HL280_1 := n4_
  have BK267 := n5_
  have BK268 := n6_
  have BK278 := n7_
  have HB := n8_
  clear n0_ n1_ n2_ n3_ n4_ n5_ n6_ n7_ n8_
  try go_wp2
  have n0_ := K_ (Kd.R_drew HO271.out)
  have n1_ := K_ (Kd.N_drew HO274.out)
  have n2_ := K_ (Kd.R_drew HO277.out)
  have n3_ := K_ (Kd.V_drew HL279_1.out)
  have n4_ := K_ (Kd.V_drew HL280_1.out)
  have n5_ := K_ (blk_drew BK267.out)
  have n6_ := K_ (blk_drew BK268.out)
  have n7_ := K_ (blk_drew BK278.out)
  have n8_ := K_ (below_drew1 HB.out)
  clear HO271
  clear HO274
  clear HO277
  clear HL279_1
  clear HL280_1
  clear BK267
  clear BK268
  clear BK278
  clear HB
  have HO271 := n0_
  have HO274 := n1_
  have HO277 := n2_
  have HL279_1 := n3_
  have HL280_1 := n4_
  have BK267 := n5_
  have BK268 := n6_
  have BK278 := n7_
  have HB := n8_
  clear n0_ n1_ n2_ n3_ n4_ n5_ n6_ n7_ n8_
  have p283 : 0 ≤ (a1 : Int) := of_decide_eq_true (by assumption)
  have q283 : a1 < (y282.length : Int) := (by have h_ : (a1 : Int) < ((t272.length : Int) : Int) := of_decide_eq_true (by assumption); first | (have e_ := (Kd.N_reads' HO274.out).1; omega) | simpa only [Ny282.out, List.length_set] using h_)
  have ql283 : ((a1 : Int) < ((t272.length : Int) : Int)) = True := eq_true (of_decide_eq_true (by assumption))
  obtain ⟨ad283, A283_1, c283_1, e283, hx283_0, hx283_1, hx283_2, hl283_1, hi283_1⟩ := at_T35 (Kd.N_reads' HO274.out).2.2 a1 p283 q283
  obtain rfl : (⟨go8, 0, none⟩ : Addr) = ad283 := (by injection e283)
  obtain ⟨ce283, hce283, hMe283, hcc283⟩ := Kd.N_get HO274.out z35 a1 p283 (by first | exact q283 | exact of_decide_eq_true (by assumption) | (have e_ := (Kd.N_reads' HO274.out).1; omega))
  obtain ⟨ua283_1, uc283_1, rfl, ul283_1, ge283_1⟩ := k35_openF hMe283
  have hv283_1 := hcc283 1 _ rfl
  rw [add_field _ _ 1 (by omega)] at hv283_1
  replace hv283_1 := Option.some.inj (hv283_1.symm.trans hx283_1)
  injection hv283_1 with hva_ hvn_ hvc_
  rw [hva_] at ge283_1
  rw [hvc_] at ul283_1
  have HL283_1 := K_ (show Kd.V (Kd.int .i64) 3 _ w.heap.size _ _ ((rd_T35 y282 a1).f1) from Kd.V_mk ul283_1 ge283_1)
  clear hva_ hvn_ hvc_ ge283_1 ul283_1
  clear hcc283 hce283
  (first | simp only [add_plain] at hx283_0 | simp only [add_at] at hx283_0 | simp only [Addr.add, Nat.zero_add] at hx283_0 | skip)
  (first | simp only [add_plain] at hx283_1 | simp only [add_at] at hx283_1 | simp only [Addr.add, Nat.zero_add] at hx283_1 | skip)
  (first | simp only [add_plain] at hx283_2 | simp only [add_at] at hx283_2 | simp only [Addr.add, Nat.zero_add] at hx283_2 | skip)
  have HR283_1 := K_ hi283_1
  have HC283_1 := K_ hl283_1
  clear hi283_1 hl283_1
  replace p283 := eq_true p283
  replace q283 := eq_true q283
  have q29 : (1 : Int) ≤ ((((rd_T35 y282 a1).f1).length : Int) : Int) := of_decide_eq_true (by assumption)
  obtain ⟨i029, hi029, _, hsz29, _⟩ := info_parts info3
  have hroom29 : ((rd_T35 y282 a1).f1).length ≤ c283_1 := HC283_1.out
  have hC29 : Kd.F (Kd.int .i64) _ _ A283_1 ((rd_T35 y282 a1).f1).length ((rd_T35 y282 a1).f1) := (Kd.V_at (base := w.heap.size) HL283_1.out).2.2
  have hcut29 := cut_from (P := Try.prog) 23 3 .i64 Try.underlying23 hi029 1 hsz29 A283_1 ((rd_T35 y282 a1).f1).length c283_1 1 (by omega) q29
  have hr29 := Kd.F_cut (m := (1 : Int).toNat) (c := c283_1) hC29 (by omega) hroom29
  obtain ⟨A29, hA29⟩ : ∃ A1, A1 = (if c283_1 = (1 : Int).toNat then A283_1 else (A283_1 : Option Addr).map (·.add ((1 : Int).toNat * 1))) := ⟨_, rfl⟩
  obtain ⟨c29, hc29⟩ : ∃ c1, c1 = c283_1 - (1 : Int).toNat := ⟨_, rfl⟩
  have hy29 : y284.length = ((rd_T35 y282 a1).f1).length - (1 : Int).toNat := (by rw [Ny284.out, List.length_drop] <;> omega)
  rw [show ((rd_T35 y282 a1).f1).drop (1 : Int).toNat = y284 from Ny284.out.symm] at hr29
  replace hr29 : Kd.F (Kd.int .i64) _ _ A29 y284.length y284 := (by rw [hA29]; exact hr29)
  rw [← hy29, ← hA29, ← hc29] at hcut29
  have HO288 := K_ (show Kd.V (Kd.int .i64) 3 _ w.heap.size _ (.slice A29 y284.length c29) y284 from Kd.V_mk (by rw [hy29, hc29]; exact Nat.sub_le_sub_right hroom29 _) hr29)
  have HC288 := K_ (show y284.length ≤ c29 from by rw [hy29, hc29]; exact Nat.sub_le_sub_right hroom29 _)
  clear hr29 hC29 hroom29 hi029 hsz29 hc29
  have KY29 := K_ hy29
  have KA29 := K_ hA29
  clear hy29 hA29
  replace q29 := eq_true q29
  have p10 : 0 ≤ (a1 : Int) := of_decide_eq_true (by assumption)
  have q10 : (a1 : Int) < ((t272.length : Int) : Int) := of_decide_eq_true (by assumption)
  obtain ⟨ce10, hcl10, hM10, hcc10, hfr10⟩ := Kd.N_elem HO274.out z35 (a1 : Int) p10 q10
  obtain ⟨ua10_1, uc10_1, rfl, ul10_1, ge10_1⟩ := k35_openF hM10
  have hx10_0 : World.cell? _ ⟨go8, (a1 : Int).toNat * 3, none⟩ = some (.int .i64 ((rd_T35 y282 a1).f0)) := hcc10 0 _ rfl
  have hx10_1 : World.cell? _ ⟨go8, (a1 : Int).toNat * 3 + 1, none⟩ = some (.slice ua10_1 ((rd_T35 y282 a1).f1).length uc10_1) := hcc10 1 _ rfl
  have hx10_2 : World.cell? _ ⟨go8, (a1 : Int).toNat * 3 + 2, none⟩ = some (.int .i64 ((rd_T35 y282 a1).f2)) := hcc10 2 _ rfl
  have hf10_0 : World.frozen? _ ⟨go8, (a1 : Int).toNat * 3, none⟩ = false := hfr10 0
  have hf10_1 : World.frozen? _ ⟨go8, (a1 : Int).toNat * 3 + 1, none⟩ = false := hfr10 1
  have hf10_2 : World.frozen? _ ⟨go8, (a1 : Int).toNat * 3 + 2, none⟩ = false := hfr10 2
  clear hcl10 hcc10 hfr10 hM10
  replace p10 := eq_true p10
  replace q10 := eq_true q10
  have HX30 := K_ (show Kd.N k35 35 _ w.heap.size (fun k_ => (w.heap.size ≤ k_) ∧ some k_ ≠ (.slice Ao17 t269.length co17 : Value).ownBlock ∧ some k_ ≠ (.slice Ao22 t275.length co22 : Value).ownBlock ∧ k_ ≠ gb267 ∧ k_ ≠ gb268 ∧ k_ ≠ gb278) (.slice (some ⟨go8, 0, none⟩) t272.length co21) y282 from (Kd.N_mono (HO274.out) (fun k_ hk => ⟨hk.1, ⟨hk.2.1, ⟨hk.2.2.1, ⟨hk.2.2.2.1, ⟨hk.2.2.2.2.1, hk.2.2.2.2.2⟩⟩⟩⟩⟩)))
  obtain ⟨ce30, hcl30, hM30, hcc30, hfr30⟩ := Kd.N_elem HX30.out z35 (a1 : Int) (of_decide_eq_true (by assumption)) (by have h_ : (a1 : Int) < ((t272.length : Int) : Int) := of_decide_eq_true (by assumption); first | exact h_ | (have e_ := (Kd.N_reads' HO274.out).1; omega) | simpa using h_)
  obtain ⟨ua30_1, uc30_1, rfl, ul30_1, ge30_1⟩ := k35_openF hM30
  have HP30 := (Kd.N_seg HX30.out (a1 : Int) (of_decide_eq_true (by assumption)) (by have h_ : (a1 : Int) < ((t272.length : Int) : Int) := of_decide_eq_true (by assumption); first | exact h_ | (have e_ := (Kd.N_reads' HO274.out).1; omega) | simpa using h_) (seg := [.slice A29 y284.length c29]) (j := 1) hcl30 hcc30 (show 2 ≤ 3 from by decide) (x' := (⟨(rd_T35 y282 a1).f0, y284, (rd_T35 y282 a1).f2⟩ : S35)) (k35_mkF _ _ (⟨(rd_T35 y282 a1).f0, y284, (rd_T35 y282 a1).f2⟩ : S35) (Kd.V_reads' (Kd.V_mono (ok' := (fun k_ => ((fun k_ => (w.heap.size ≤ k_) ∧ some k_ ≠ (.slice Ao17 t269.length co17 : Value).ownBlock ∧ some k_ ≠ (.slice Ao22 t275.length co22 : Value).ownBlock ∧ k_ ≠ gb267 ∧ k_ ≠ gb268 ∧ k_ ≠ gb278)) k_ ∧ k_ ≠ go8)) (HO288.out) (fun k_ hk => ⟨⟨hk.1.1, ⟨hk.1.2.1, ⟨hk.1.2.2.1, ⟨hk.1.2.2.2.1, ⟨hk.1.2.2.2.2.1, hk.1.2.2.2.2.2⟩⟩⟩⟩⟩, fun e_ => (hk.2) (by rw [e_]; rfl)⟩))).2.1 (Kd.V_F (Kd.V_mono (ok' := (fun k_ => ((fun k_ => (w.heap.size ≤ k_) ∧ some k_ ≠ (.slice Ao17 t269.length co17 : Value).ownBlock ∧ some k_ ≠ (.slice Ao22 t275.length co22 : Value).ownBlock ∧ k_ ≠ gb267 ∧ k_ ≠ gb268 ∧ k_ ≠ gb278)) k_ ∧ k_ ≠ go8)) (HO288.out) (fun k_ hk => ⟨⟨hk.1.1, ⟨hk.1.2.1, ⟨hk.1.2.2.1, ⟨hk.1.2.2.2.1, ⟨hk.1.2.2.2.2.1, hk.1.2.2.2.2.2⟩⟩⟩⟩⟩, fun e_ => (hk.2) (by rw [e_]; rfl)⟩)))) (fun _ hk => hk)).1
  rw [← Ny289.out] at HP30
  have HQ30 := K_ HP30
  clear hcl30 hcc30 hfr30 hM30 HP30
  refine start_ (n := 13) (S := fun w' => w'.cell? ⟨gb278, 0, none⟩ = some (.slice Ao17 t269.length co17) ∧ w'.cell? ⟨gb278, 1, none⟩ = some (.slice (some ⟨go8, 0, none⟩) t272.length co21) ∧ w'.cell? ⟨gb278, 2, none⟩ = some (.slice Ao22 t275.length co22) ∧ w'.cell? ⟨go8, (a1).toNat * 3, none⟩ = some (.int .i64 ((rd_T35 y282 a1).f0)) ∧ w'.cell? ⟨go8, (a1).toNat * 3 + 1, none⟩ = some (.slice A283_1 ((rd_T35 y282 a1).f1).length c283_1) ∧ w'.cell? ⟨go8, (a1).toNat * 3 + 2, none⟩ = some (.int .i64 ((rd_T35 y282 a1).f2))) (ds := [12]) #[ff, ff, ff, ff, ff, ff, ff, ff, ff, ff, ff, ff, ff] (by kernel_rfl) rfl rfl ⟨(blk_cell BK278.out 0).trans rfl, (blk_cell BK278.out 1).trans rfl, (blk_cell BK278.out 2).trans rfl, hx283_0, hx283_1, hx283_2⟩ (fun hHeld => ?_); refine with_tabW spec_l1step.tab4 spec_l1step.bits4 (fun HT_ HW_ => ?_)
  generalize w27.drew = w28 at HO271 HO274 HO277 HL279_1 HL280_1 BK267 BK268 BK278 HB HL283_1 HO288 HQ30 HR283_1 hf10_0 hf10_1 hf10_2 hx10_0 hx10_1 hx10_2 hx283_0 hx283_1 hx283_2 hHeld ⊢
  refine pure_ (i := 0) (N := some 29) (v := ?_) (a' := ?_) (M_ 13 1) rfl rfl (any_of HT_.out (by kernel_rfl)) (fun _ _ _ h => h) (Or.inl ⟨by rfl, ?_⟩) ?_ ?_
  rotate_left
  ·intro w'
   go_simp
   with_reducible rfl
  rotate_left
  ·simp only [P_, i64_w, i32_w]
   rfl
  refine pure_ (i := 2) (N := some 31) (v := ?_) (a' := ?_) (M_ 13 5) rfl rfl (any_of HT_.out (by kernel_rfl)) (fun _ _ _ h => h) (Or.inl ⟨by rfl, ?_⟩) ?_ ?_
  rotate_left
  ·intro w'
   go_simp
   with_reducible rfl
  rotate_left
  ·simp only [P_, i64_w, i32_w]
   rfl
  refine pure_ (i := 3) (N := some 32) (v := ?_) (a' := ?_) (M_ 13 13) rfl rfl (any_of HT_.out (by kernel_rfl)) (fun _ _ _ h => h) (Or.inl ⟨by rfl, ?_⟩) ?_ ?_
  rotate_left
  ·intro w'
   go_simp
   with_reducible rfl
  rotate_left
  ·simp only [P_, i64_w, i32_w]
   rfl
  refine pure_ (i := 5) (N := some 34) (v := ?_) (a' := ?_) (M_ 13 45) rfl rfl (any_of HT_.out (by kernel_rfl)) (fun _ _ _ h => h) (Or.inl ⟨by rfl, ?_⟩) ?_ ?_
  rotate_left
  ·intro w'
   go_simp
   with_reducible rfl
  rotate_left
  ·simp only [P_, i64_w, i32_w]
   rfl
  refine take_ (i := 1) (N := some 30) (v := ?_) (a' := ?_) (M_ 13 47) rfl rfl (take_ofW HT_.out HW_.out (by kernel_rfl)) (fun _ _ _ h => h) (Or.inl ⟨by rfl, ?_⟩) hHeld ?_ ?_
  rotate_left
  ·rintro w' ⟨s0, s1, s2, s3, s4, s5⟩
   go_simp
   with_reducible rfl
  rotate_left
  ·simp only [P_, i64_w, i32_w]
   rfl
  refine take_ (i := 4) (N := some 33) (v := ?_) (a' := ?_) (M_ 13 63) rfl rfl (take_ofW HT_.out HW_.out (by kernel_rfl)) (fun _ _ _ h => h) (Or.inl ⟨by rfl, ?_⟩) hHeld ?_ ?_
  rotate_left
  ·rintro w' ⟨s0, s1, s2, s3, s4, s5⟩
   go_simp
   with_reducible rfl
  rotate_left
  ·simp only [P_, i64_w, i32_w]
   rfl
  refine pure_ (i := 6) (N := some 35) (v := ?_) (a' := ?_) (M_ 13 127) rfl rfl (any_of HT_.out (by kernel_rfl)) (fun _ _ _ h => h) (Or.inl ⟨by rfl, ?_⟩) ?_ ?_
  rotate_left
  ·intro w'
   go_simp
   with_reducible rfl
  rotate_left
  ·simp only [P_, i64_w, i32_w]
   rfl
  refine pure_ (i := 7) (N := some 36) (v := ?_) (a' := ?_) (M_ 13 255) rfl rfl (any_of HT_.out (by kernel_rfl)) (fun _ _ _ h => h) (Or.inl ⟨by rfl, ?_⟩) ?_ ?_
  rotate_left
  ·intro w'
   go_simp
   with_reducible rfl
  rotate_left
  ·simp only [P_, i64_w, i32_w]
   rfl
  refine take_ (i := 8) (N := some 37) (v := ?_) (a' := ?_) (M_ 13 511) rfl rfl (take_ofW HT_.out HW_.out (by kernel_rfl)) (fun _ _ _ h => h) (Or.inl ⟨by rfl, ?_⟩) hHeld ?_ ?_
  rotate_left
  ·rintro w' ⟨s0, s1, s2, s3, s4, s5⟩
   go_simp
   with_reducible rfl
  rotate_left
  ·simp only [P_, i64_w, i32_w]
   rfl
  refine pure_ (i := 9) (N := some 38) (v := ?_) (a' := ?_) (M_ 13 1023) rfl rfl (any_of HT_.out (by kernel_rfl)) (fun _ _ _ h => h) (Or.inl ⟨by rfl, ?_⟩) ?_ ?_
  rotate_left
  ·intro w'
   go_simp
   with_reducible rfl
  rotate_left
  ·simp only [P_, i64_w, i32_w]
   rfl
  refine pure_ (i := 10) (N := some 39) (v := ?_) (a' := ?_) (M_ 13 2047) rfl rfl (any_of HT_.out (by kernel_rfl)) (fun _ _ _ h => h) (Or.inl ⟨by rfl, ?_⟩) ?_ ?_
  rotate_left
  ·intro w'
   go_simp
   with_reducible rfl
  rotate_left
  ·simp only [P_, i64_w, i32_w]
   rfl
  refine pure_ (i := 11) (N := some 40) (v := ?_) (a' := ?_) (M_ 13 4095) rfl rfl (any_of HT_.out (by kernel_rfl)) (fun _ _ _ h => h) (Or.inl ⟨by rfl, ?_⟩) ?_ ?_
  rotate_left
  ·intro w'
   go_simp
   with_reducible rfl
  rotate_left
  ·simp only [P_, i64_w, i32_w]
   rfl
  refine last_ (i := 12) (N := none) (M_ 13 8191) rfl rfl (one_of HT_.out (by kernel_rfl)) (by decide) (fun K hK => ?_)
  refine skip_ (w1 := ?_) (by rfl) rfl ?_ ?_
  rotate_left
  ·go_simp
   rfl
  refine hK.out _ _ ?_
  clear hK K
  refine done_ (done_of HT_.out (by kernel_rfl)) ?_
  have n0_ : Aside0 (Kd.R (Kd.int .i64) 3 (w28.setCell ⟨go8, (a1 : Int).toNat * 3 + 1, none⟩ (.slice A29 y284.length c29)) w.heap.size (fun k_ => (w.heap.size ≤ k_) ∧ some k_ ≠ (.slice Ao22 t275.length co22 : Value).ownBlock) (.slice Ao17 t269.length co17) t269) := ⟨by first | exact Kd.R_mono (Kd.R_far (p := ⟨go8, (a1 : Int).toNat * 3 + 1, none⟩) (Kd.R_types HO271.out GG8.out (by decide)) (fun _ hk => hk.2) (.slice A29 y284.length c29)) (fun _ hk => ⟨hk.1.1, hk.1.2⟩) | exact Kd.R_mono (Kd.R_far (p := ⟨go8, (a1 : Int).toNat * 3 + 1, none⟩) (Kd.R_mono (Kd.R_apart' HO271.out (Kd.N_typed HO274.out) (by decide)) (fun k_ hk => (⟨hk.1, fun e_ => hk.2 (by rw [e_]; rfl)⟩ : _ ∧ k_ ≠ go8))) (fun _ hk => hk.2) (.slice A29 y284.length c29)) (fun _ hk => ⟨hk.1.1, hk.1.2⟩)⟩
  have n1_ : Aside0 (Kd.N k35 35 (w28.setCell ⟨go8, (a1 : Int).toNat * 3 + 1, none⟩ (.slice A29 y284.length c29)) w.heap.size (fun k_ => (w.heap.size ≤ k_) ∧ some k_ ≠ (.slice Ao17 t269.length co17 : Value).ownBlock ∧ some k_ ≠ (.slice Ao22 t275.length co22 : Value).ownBlock ∧ k_ ≠ gb267 ∧ k_ ≠ gb268 ∧ k_ ≠ gb278) (.slice (some ⟨go8, 0, none⟩) t272.length co21) y289) := ⟨HQ30.out⟩
  have n2_ : Aside0 (Kd.R (Kd.int .i64) 3 (w28.setCell ⟨go8, (a1 : Int).toNat * 3 + 1, none⟩ (.slice A29 y284.length c29)) w.heap.size (fun k_ => (w.heap.size ≤ k_) ∧ some k_ ≠ (.slice Ao17 t269.length co17 : Value).ownBlock) (.slice Ao22 t275.length co22) t275) := ⟨by first | exact Kd.R_mono (Kd.R_far (p := ⟨go8, (a1 : Int).toNat * 3 + 1, none⟩) (Kd.R_types HO277.out GG8.out (by decide)) (fun _ hk => hk.2) (.slice A29 y284.length c29)) (fun _ hk => ⟨hk.1.1, hk.1.2⟩) | exact Kd.R_mono (Kd.R_far (p := ⟨go8, (a1 : Int).toNat * 3 + 1, none⟩) (Kd.R_mono (Kd.R_apart' HO277.out (Kd.N_typed HO274.out) (by decide)) (fun k_ hk => (⟨hk.1, fun e_ => hk.2 (by rw [e_]; rfl)⟩ : _ ∧ k_ ≠ go8))) (fun _ hk => hk.2) (.slice A29 y284.length c29)) (fun _ hk => ⟨hk.1.1, hk.1.2⟩)⟩
  have n3_ : Aside0 (Kd.V (Kd.int .i64) 3 (w28.setCell ⟨go8, (a1 : Int).toNat * 3 + 1, none⟩ (.slice A29 y284.length c29)) w.heap.size (fun k_ => (w.heap.size ≤ k_) ∧ some k_ ≠ (.slice Ao17 t269.length co17 : Value).ownBlock ∧ some k_ ≠ (.slice (some ⟨go8, 0, none⟩) t272.length co21 : Value).ownBlock ∧ some k_ ≠ (.slice Ao22 t275.length co22 : Value).ownBlock ∧ k_ ≠ gb267 ∧ k_ ≠ gb268 ∧ k_ ≠ gb278) (.slice A279_1 ((rd_T35 t272 a1).f1).length c279_1) ((rd_T35 t272 a1).f1)) := ⟨by exact Kd.V_mono (Kd.V_far (p := ⟨go8, (a1 : Int).toNat * 3 + 1, none⟩) (Kd.V_mono HL279_1.out (fun k_ hk => (⟨hk, fun e_ => hk.2.2.1 (by rw [e_]; rfl)⟩ : _ ∧ k_ ≠ go8))) (fun _ hk => hk.2) (.slice A29 y284.length c29)) (fun _ hk => ⟨hk.1.1, ⟨hk.1.2.1, ⟨hk.1.2.2.1, ⟨hk.1.2.2.2.1, ⟨hk.1.2.2.2.2.1, ⟨hk.1.2.2.2.2.2.1, hk.1.2.2.2.2.2.2⟩⟩⟩⟩⟩⟩)⟩
  have n4_ : Aside0 (Kd.V (Kd.int .i64) 3 (w28.setCell ⟨go8, (a1 : Int).toNat * 3 + 1, none⟩ (.slice A29 y284.length c29)) w.heap.size (fun k_ => (w.heap.size ≤ k_) ∧ some k_ ≠ (.slice Ao17 t269.length co17 : Value).ownBlock ∧ some k_ ≠ (.slice (some ⟨go8, 0, none⟩) t272.length co21 : Value).ownBlock ∧ some k_ ≠ (.slice Ao22 t275.length co22 : Value).ownBlock ∧ k_ ≠ gb267 ∧ k_ ≠ gb268 ∧ k_ ≠ gb278) (.slice (some ad281) ((rd_T35 t272 a1).f1).length c280_1) ((rd_T35 t272 a1).f1)) := ⟨by exact Kd.V_mono (Kd.V_far (p := ⟨go8, (a1 : Int).toNat * 3 + 1, none⟩) (Kd.V_mono HL280_1.out (fun k_ hk => (⟨hk, fun e_ => hk.2.2.1 (by rw [e_]; rfl)⟩ : _ ∧ k_ ≠ go8))) (fun _ hk => hk.2) (.slice A29 y284.length c29)) (fun _ hk => ⟨hk.1.1, ⟨hk.1.2.1, ⟨hk.1.2.2.1, ⟨hk.1.2.2.2.1, ⟨hk.1.2.2.2.2.1, ⟨hk.1.2.2.2.2.2.1, hk.1.2.2.2.2.2.2⟩⟩⟩⟩⟩⟩)⟩
  have n5_ : Aside0 (Kd.V (Kd.int .i64) 3 (w28.setCell ⟨go8, (a1 : Int).toNat * 3 + 1, none⟩ (.slice A29 y284.length c29)) w.heap.size (fun k_ => (w.heap.size ≤ k_) ∧ some k_ ≠ (.slice Ao17 t269.length co17 : Value).ownBlock ∧ some k_ ≠ (.slice (some ⟨go8, 0, none⟩) t272.length co21 : Value).ownBlock ∧ some k_ ≠ (.slice Ao22 t275.length co22 : Value).ownBlock ∧ k_ ≠ gb267 ∧ k_ ≠ gb268 ∧ k_ ≠ gb278) (.slice A283_1 ((rd_T35 y282 a1).f1).length c283_1) ((rd_T35 y282 a1).f1)) := ⟨by exact Kd.V_mono (Kd.V_far (p := ⟨go8, (a1 : Int).toNat * 3 + 1, none⟩) (Kd.V_mono HL283_1.out (fun k_ hk => (⟨hk, fun e_ => hk.2 (by rw [e_]; rfl)⟩ : _ ∧ k_ ≠ go8))) (fun _ hk => hk.2) (.slice A29 y284.length c29)) (fun _ hk => ⟨hk.1.1.1, ⟨hk.1.1.2.1, ⟨hk.1.2, ⟨hk.1.1.2.2.1, ⟨hk.1.1.2.2.2.1, ⟨hk.1.1.2.2.2.2.1, hk.1.1.2.2.2.2.2⟩⟩⟩⟩⟩⟩)⟩
  have n6_ : Aside0 (Kd.V (Kd.int .i64) 3 (w28.setCell ⟨go8, (a1 : Int).toNat * 3 + 1, none⟩ (.slice A29 y284.length c29)) w.heap.size (fun k_ => (w.heap.size ≤ k_) ∧ some k_ ≠ (.slice Ao17 t269.length co17 : Value).ownBlock ∧ some k_ ≠ (.slice (some ⟨go8, 0, none⟩) t272.length co21 : Value).ownBlock ∧ some k_ ≠ (.slice Ao22 t275.length co22 : Value).ownBlock ∧ k_ ≠ gb267 ∧ k_ ≠ gb268 ∧ k_ ≠ gb278) (.slice A29 y284.length c29) y284) := ⟨by exact Kd.V_mono (Kd.V_far (p := ⟨go8, (a1 : Int).toNat * 3 + 1, none⟩) (Kd.V_mono HO288.out (fun k_ hk => (⟨hk, fun e_ => hk.2 (by rw [e_]; rfl)⟩ : _ ∧ k_ ≠ go8))) (fun _ hk => hk.2) (.slice A29 y284.length c29)) (fun _ hk => ⟨hk.1.1.1, ⟨hk.1.1.2.1, ⟨hk.1.2, ⟨hk.1.1.2.2.1, ⟨hk.1.1.2.2.2.1, ⟨hk.1.1.2.2.2.2.1, hk.1.1.2.2.2.2.2⟩⟩⟩⟩⟩⟩)⟩
  have n7_ : Aside0 ((w28.setCell ⟨go8, (a1 : Int).toNat * 3 + 1, none⟩ (.slice A29 y284.length c29)).heap[gb267]? = some (.cells #[.slice A0_0 l0_0.length c0_0, .slice A0_1 l0_1.length c0_1, .slice A0_2 l0_2.length c0_2] 26 (0, 0))) := ⟨by refine blk_far ?_ (by have h_ := Kd.N_away HO274.out (fun _ hk => hk.2.2.2.1); intro e_; exact h_ (by rw [e_]; rfl)) _; exact BK267.out⟩
  have n8_ : Aside0 ((w28.setCell ⟨go8, (a1 : Int).toNat * 3 + 1, none⟩ (.slice A29 y284.length c29)).heap[gb268]? = some (.cells #[.slice none 0 0, .slice none 0 0, .slice none 0 0] 26 (0, 0))) := ⟨by refine blk_far ?_ (by have h_ := Kd.N_away HO274.out (fun _ hk => hk.2.2.2.2.1); intro e_; exact h_ (by rw [e_]; rfl)) _; exact BK268.out⟩
  have n9_ : Aside0 ((w28.setCell ⟨go8, (a1 : Int).toNat * 3 + 1, none⟩ (.slice A29 y284.length c29)).heap[gb278]? = some (.cells #[.slice Ao17 t269.length co17, .slice (some ⟨go8, 0, none⟩) t272.length co21, .slice Ao22 t275.length co22] 26 (0, 0))) := ⟨by refine blk_far ?_ (by have h_ := Kd.N_away HO274.out (fun _ hk => hk.2.2.2.2.2); intro e_; exact h_ (by rw [e_]; rfl)) _; exact BK278.out⟩
  have n10_ : Aside0 (Below w.heap.size w (w28.setCell ⟨go8, (a1 : Int).toNat * 3 + 1, none⟩ (.slice A29 y284.length c29))) := ⟨by repeat (first | exact HB.out | refine below_set ?_ GB8.out | refine below_set ?_ GE267.out | refine below_set ?_ GE268.out | refine below_set ?_ GE278.out)⟩
  clear HO271
  clear HO274
  clear HO277
  clear HL279_1
  clear HL280_1
  clear HL283_1
  clear HO288
  clear BK267
  clear BK268
  clear BK278
  clear HB
  generalize (w28.setCell ⟨go8, (a1 : Int).toNat * 3 + 1, none⟩ (.slice A29 y284.length c29)) = w31 at n0_ n1_ n2_ n3_ n4_ n5_ n6_ n7_ n8_ n9_ n10_ ⊢
  have HO271 := n0_
  have HO274 := n1_
  have HO277 := n2_
  have HL279_1 := n3_
  have HL280_1 := n4_
  have HL283_1 := n5_
  have HO288 := n6_
  have BK267 := n7_
  have BK268 := n8_
  have BK278 := n9_
  have HB := n10_
  clear n0_ n1_ n2_ n3_ n4_ n5_ n6_ n7_ n8_ n9_ n10_
  obtain ⟨hcz32_0, hcz32_1, hcz32_2, hfz32_0, hfz32_1, hfz32_2⟩ := blkf3_ BK278.out
  obtain ⟨hcz33_0, hcz33_1, hcz33_2, hfz33_0, hfz33_1, hfz33_2⟩ := blkf3_ BK268.out
  try go_wp2
  refine bodyPost_ret (results_cell_row rfl _ _ gb268 26 #[.slice Ao17 t269.length co17, .slice (some ⟨go8, 0, none⟩) t272.length co21, .slice Ao22 t275.length co22] (0, 0) _ rfl (by refine blk_put (cs := #[.slice Ao17 t269.length co17, .slice (some ⟨go8, 0, none⟩) t272.length co21, .slice none 0 0]) ?_ 2 _ rfl; refine blk_put (cs := #[.slice Ao17 t269.length co17, .slice none 0 0, .slice none 0 0]) ?_ 1 _ rfl; refine blk_put (cs := #[.slice none 0 0, .slice none 0 0, .slice none 0 0]) ?_ 0 _ rfl; exact BK268.out) Try.underlying26 rfl (by kernel_rfl)) rfl ?_
  exact ⟨_, _, _, rfl, by exact Kd.R_mono (Kd.R_far (p := ⟨gb268, 2, none⟩) (Kd.R_far (p := ⟨gb268, 1, none⟩) (Kd.R_far (p := ⟨gb268, 0, none⟩) (Kd.R_types HO271.out BK268.out (by decide)) (fun _ hk => hk.2) (.slice Ao17 t269.length co17)) (fun _ hk => hk.2) (.slice (some ⟨go8, 0, none⟩) t272.length co21)) (fun _ hk => hk.2) (.slice Ao22 t275.length co22)) (fun _ hk => ⟨hk.1.1, hk.1.2⟩), by exact Kd.N_mono (Kd.N_far (p := ⟨gb268, 2, none⟩) (Kd.N_far (p := ⟨gb268, 1, none⟩) (Kd.N_far (p := ⟨gb268, 0, none⟩) (Kd.N_mono HO274.out (fun k_ hk => (⟨hk, hk.2.2.2.2.1⟩ : _ ∧ k_ ≠ gb268))) (fun _ hk => hk.2) (.slice Ao17 t269.length co17)) (fun _ hk => hk.2) (.slice (some ⟨go8, 0, none⟩) t272.length co21)) (fun _ hk => hk.2) (.slice Ao22 t275.length co22)) (fun _ hk => ⟨hk.1.1, ⟨hk.1.2.1, hk.1.2.2.1⟩⟩), by exact Kd.R_mono (Kd.R_far (p := ⟨gb268, 2, none⟩) (Kd.R_far (p := ⟨gb268, 1, none⟩) (Kd.R_far (p := ⟨gb268, 0, none⟩) (Kd.R_types HO277.out BK268.out (by decide)) (fun _ hk => hk.2) (.slice Ao17 t269.length co17)) (fun _ hk => hk.2) (.slice (some ⟨go8, 0, none⟩) t272.length co21)) (fun _ hk => hk.2) (.slice Ao22 t275.length co22)) (fun _ hk => ⟨hk.1.1, hk.1.2⟩), by repeat (first | exact HB.out | refine below_set ?_ GE267.out | refine below_set ?_ GE268.out | refine below_set ?_ GE278.out)⟩
 rw [if_neg c6] at H
 have c6b0 := decide_eq_false c6
 have c6b1 : decide (0 < ((rd_T35 t272 a1).f1).length) = false := decide_eq_false (by omega)
 clear c6
 have c34b0 := eq_true (of_decide_eq_true (by assumption) : 0 ≤ a1)
 replace H := pn_ H
 obtain ⟨c35, H⟩ := H
 have c35b0 := eq_true c35
 have c35b1 := decide_eq_true c35
 clear c35
 obtain ⟨y290, hy290⟩ : ∃ y_ : List (S35), y_ = (t272.take (a1 : Int).toNat) := ⟨_, rfl⟩
 replace H : (if 0 ≤ (wrap64 (a1 + 1)) then (if (wrap64 (a1 + 1)) ≤ (t272.length : Int) then (if a1 ≤ (t275.length : Int) then (if (wrap64 (a1 + 1)) ≤ (t275.length : Int) then (some (t269, (t272.eraseIdx (a1 : Int).toNat), (t275.eraseIdx (a1 : Int).toNat))) else (none)) else (none)) else (none)) else (none)) = some (r1, r2, r3) := by first | (rw [hy290]; with_reducible exact H) | (have H2_ := (Option.bind_some _ _).symm.trans H; rw [hy290]; with_reducible exact H2_) | (have H2_ := (Option.bind_some _ _).symm.trans H; with_reducible exact H2_) | with_reducible exact H | (rw [hy290]; exact H) | exact H
 have Ny290 := K_ hy290
 clear hy290
 obtain ⟨ji36, hji36⟩ : ∃ j_ : Int, (wrap64 (a1 + 1)) = j_ := ⟨_, rfl⟩
 replace H : (if 0 ≤ (ji36) then (if (ji36) ≤ (t272.length : Int) then (if a1 ≤ (t275.length : Int) then (if (ji36) ≤ (t275.length : Int) then (some (t269, (t272.eraseIdx (a1 : Int).toNat), (t275.eraseIdx (a1 : Int).toNat))) else (none)) else (none)) else (none)) else (none)) = some (r1, r2, r3) := by first | (rw [hji36] at H; exact H) | (simp only [hji36] at H ⊢; exact H)
 (try rw [hji36] at A3)
 have hji36w : (IntKind.i64.wrap (a1 + 1)) = ji36 := (i64_w _).trans hji36
 replace H := pn_ H
 obtain ⟨c37, H⟩ := H
 have c37b0 := eq_true c37
 have c37b1 := decide_eq_true c37
 clear c37
 replace H := pn_ H
 obtain ⟨c38, H⟩ := H
 have c38b0 := eq_true c38
 have c38b1 := decide_eq_true c38
 clear c38
 obtain ⟨y295, hy295⟩ : ∃ y_ : List (S35), y_ = (t272.drop ((ji36) : Int).toNat) := ⟨_, rfl⟩
 replace H : (if a1 ≤ (t275.length : Int) then (if (ji36) ≤ (t275.length : Int) then (some (t269, (t272.eraseIdx (a1 : Int).toNat), (t275.eraseIdx (a1 : Int).toNat))) else (none)) else (none)) = some (r1, r2, r3) := by first | (rw [hy295]; with_reducible exact H) | (have H2_ := (Option.bind_some _ _).symm.trans H; rw [hy295]; with_reducible exact H2_) | (have H2_ := (Option.bind_some _ _).symm.trans H; with_reducible exact H2_) | with_reducible exact H | (rw [hy295]; exact H) | exact H
 have Ny295 := K_ hy295
 clear hy295
 obtain ⟨y300, hy300⟩ : ∃ y_ : List (S35), y_ = (t272.eraseIdx (a1 : Int).toNat) := ⟨_, rfl⟩
 rw [← hy300] at H
 have Ny300 := K_ hy300
 clear hy300
 have c39b0 := eq_true (of_decide_eq_true (by assumption) : 0 ≤ a1)
 replace H := pn_ H
 obtain ⟨c40, H⟩ := H
 have c40b0 := eq_true c40
 have c40b1 := decide_eq_true c40
 clear c40
 obtain ⟨y303, hy303⟩ : ∃ y_ : List Int, y_ = (t275.take (a1 : Int).toNat) := ⟨_, rfl⟩
 replace H : (if (ji36) ≤ (t275.length : Int) then (some (t269, y300, (t275.eraseIdx (a1 : Int).toNat))) else (none)) = some (r1, r2, r3) := by first | (rw [hy303]; with_reducible exact H) | (have H2_ := (Option.bind_some _ _).symm.trans H; rw [hy303]; with_reducible exact H2_) | (have H2_ := (Option.bind_some _ _).symm.trans H; with_reducible exact H2_) | with_reducible exact H | (rw [hy303]; exact H) | exact H
 have Ny303 := K_ hy303
 clear hy303
 have c41b0 := eq_true (of_decide_eq_true (by assumption) : 0 ≤ (ji36))
 replace H := pn_ H
 obtain ⟨c42, H⟩ := H
 have c42b0 := eq_true c42
 have c42b1 := decide_eq_true c42
 clear c42
 obtain ⟨y308, hy308⟩ : ∃ y_ : List Int, y_ = (t275.drop ((ji36) : Int).toNat) := ⟨_, rfl⟩
 replace H : (some (t269, y300, (t275.eraseIdx (a1 : Int).toNat))) = some (r1, r2, r3) := by first | (rw [hy308]; with_reducible exact H) | (have H2_ := (Option.bind_some _ _).symm.trans H; rw [hy308]; with_reducible exact H2_) | (have H2_ := (Option.bind_some _ _).symm.trans H; with_reducible exact H2_) | with_reducible exact H | (rw [hy308]; exact H) | exact H
 have Ny308 := K_ hy308
 clear hy308
 obtain ⟨y313, hy313⟩ : ∃ y_ : List Int, y_ = (t275.eraseIdx (a1 : Int).toNat) := ⟨_, rfl⟩
 rw [← hy313] at H
 have Ny313 := K_ hy313
 clear hy313
 simp only [Option.some.injEq, Prod.mk.injEq] at H
 obtain ⟨rfl, rfl, rfl⟩ := H
 go_enter Try.func59, Try.ntmps59
 try go_wp2_with (first | ((with_reducible refine gate_dst (N := 2) rfl ?_); refine box_event ?hg (N := 2) ?hd (cs := #[.slice A0_0 l0_0.length c0_0, .slice A0_1 l0_1.length c0_1, .slice A0_2 l0_2.length c0_2]) (t := 26) ?hr ?_; (case hd => rfl); (case hg => rfl); (case hr => go_simp; try rfl); intro gb267 hg w43 hbox hb; have BK267 := K_ (hbox); have GW267 := ge_ hg HB.out; have GE267 := ge_ hg HB.out; replace HB := K_ (below_step HB.out hb); clear hb hbox hg) | ((with_reducible refine gate_dst (N := 4) rfl ?_); refine box_event ?hg (N := 4) ?hd (cs := #[.slice none 0 0, .slice none 0 0, .slice none 0 0]) (t := 26) ?hr ?_; (case hd => rfl); (case hg => rfl); (case hr => go_simp; try rfl); intro gb268 hg w44 hbox hb; have BK268 := K_ (hbox); have GW268 := ge_ hg HB.out; have GE268 := ge_ hg HB.out; have NB267_268 := nl_ hg BK267.out; have NB268_267 := ng_ hg BK267.out; replace BK267 := K_ (blk_below BK267.out hb); replace HB := K_ (below_step HB.out hb); clear hb hbox hg; have hnb45 := NB267_268.out; have hnc45 := NB268_267.out; obtain ⟨hcz46_0, hcz46_1, hcz46_2, hfz46_0, hfz46_1, hfz46_2⟩ := blkf3_ BK267.out) | ((with_reducible refine gate_callee (f := 56) rfl ?_); refine goesL_ (some 7) rfl rfl Try.func56 (by kernel_rfl) rfl #[.agg #[.slice A0_0 l0_0.length c0_0, .slice A0_1 l0_1.length c0_1, .slice A0_2 l0_2.length c0_2]] rfl (by simp only [List.map_toArray, List.map_cons, List.map_nil]; try rfl) ?_; (with_reducible refine (spec_l1copy.calls k _ _ l0_0 _ _ l0_1 _ _ l0_2 t269 t272 t275 _ ?side1 ?side2 ?side3 ?side4 ?side5 ?side6 A3.out).mono ?_); (case side1 => exact (Kd.C_below HR0_0.out HB.out)); (case side2 => exact HC0_0.out); (case side3 => exact (Kd.C_below HR0_1.out HB.out)); (case side4 => exact HC0_1.out); (case side5 => exact (Kd.C_below HR0_2.out HB.out)); (case side6 => exact HC0_2.out); rintro e w47 ⟨v270, v273, v276, rfl, ho0, ho1, ho2, hb⟩; refine ⟨_, rfl, ?_⟩; have HO271 := K_ (Kd.R_lower (Kd.R_newM (M := fun k_ => (w.heap.size ≤ k_)) ho0 (below_size HB.out) (fun k_ h_ => h_)) (below_size HB.out)); have HO274 := K_ (Kd.N_lower (Kd.N_mono (ok' := fun k_ => (w.heap.size ≤ k_) ∧ some k_ ≠ (v270 : Value).ownBlock ∧ some k_ ≠ (v276 : Value).ownBlock ∧ k_ ≠ gb267 ∧ k_ ≠ gb268) (Kd.S_N (Kd.S_bound ho1)) (fun k_ hk_ => ⟨(Nat.le_trans (below_size HB.out) hk_.2.1), hk_.1.1, hk_.1.2, (Kd.freshB BK267.out k_ hk_.2.1), (Kd.freshB BK268.out k_ hk_.2.1)⟩)) (below_size HB.out)); have HO277 := K_ (Kd.R_lower (Kd.R_newM (M := fun k_ => (w.heap.size ≤ k_)) ho2 (below_size HB.out) (fun k_ h_ => h_)) (below_size HB.out)); replace BK267 := K_ (blk_below BK267.out hb); replace BK268 := K_ (blk_below BK268.out hb); replace HB := K_ (below_step HB.out hb); clear hb ho0 ho1 ho2) | ((with_reducible refine gate_dst (N := 5) rfl ?_); refine box_event ?hg (N := 5) ?hd (cs := #[.slice none 0 0, .slice none 0 0, .slice none 0 0]) (t := 26) ?hr ?_; (case hd => rfl); (case hg => rfl); (case hr => go_simp; try rfl); intro gb278 hg w48 hbox hb; have BK278 := K_ (hbox); have GW278 := ge_ hg HB.out; have GE278 := ge_ hg HB.out; have NB267_278 := nl_ hg BK267.out; have NB278_267 := ng_ hg BK267.out; have NB268_278 := nl_ hg BK268.out; have NB278_268 := ng_ hg BK268.out; replace HO271 := K_ (Kd.R_below HO271.out hb); replace HO274 := K_ (Kd.N_below (Kd.N_elderB HO274.out gb278 (Nat.le_of_eq hg.symm)) hb); replace HO277 := K_ (Kd.R_below HO277.out hb); replace BK267 := K_ (blk_below BK267.out hb); replace BK268 := K_ (blk_below BK268.out hb); replace HB := K_ (below_step HB.out hb); clear hb hbox hg; obtain ⟨Ao49, co49, eo49⟩ := Kd.R_slice HO271.out; subst eo49; have hnb50 := NB278_267.out; have hnc50 := NB267_278.out; have hnb51 := NB278_268.out; have hnc51 := NB268_278.out; obtain ⟨hcz52_0, hcz52_1, hcz52_2, hfz52_0, hfz52_1, hfz52_2⟩ := blkf3_ BK278.out; obtain ⟨Ao53, co53, eo53⟩ := Kd.N_slice HO274.out; subst eo53; obtain ⟨Ao54, co54, eo54⟩ := Kd.R_slice HO277.out; subst eo54) | ((with_reducible refine gate_store (t := 26) (p := 5) rfl ?_); refine store_event (t := 26) (p := 5) (v := ?vo_w55) (w1 := (((w48.setCell ⟨gb278, 0, none⟩ (.slice Ao49 t269.length co49)).setCell ⟨gb278, 1, none⟩ (.slice Ao53 t272.length co53)).setCell ⟨gb278, 2, none⟩ (.slice Ao54 t275.length co54))) ?hg ?ho ?hn ?hr ?_; (case ho => rfl); (case hg => rfl); (case hn => rfl); (case hr => go_simp; try rfl); intro w55 hw; have n0_ : Aside0 (Kd.R (Kd.int .i64) 3 w55 w.heap.size (fun k_ => (w.heap.size ≤ k_) ∧ some k_ ≠ (.slice Ao54 t275.length co54 : Value).ownBlock) (.slice Ao49 t269.length co49) t269) := ⟨(by rw [hw]; exact (by exact Kd.R_mono (Kd.R_far (p := ⟨gb278, 2, none⟩) (Kd.R_far (p := ⟨gb278, 1, none⟩) (Kd.R_far (p := ⟨gb278, 0, none⟩) (Kd.R_types HO271.out BK278.out (by decide)) (fun _ hk => hk.2) (.slice Ao49 t269.length co49)) (fun _ hk => hk.2) (.slice Ao53 t272.length co53)) (fun _ hk => hk.2) (.slice Ao54 t275.length co54)) (fun _ hk => ⟨hk.1.1, hk.1.2⟩)))⟩; have n1_ : Aside0 (Kd.N k35 35 w55 w.heap.size (fun k_ => (w.heap.size ≤ k_) ∧ some k_ ≠ (.slice Ao49 t269.length co49 : Value).ownBlock ∧ some k_ ≠ (.slice Ao54 t275.length co54 : Value).ownBlock ∧ k_ ≠ gb267 ∧ k_ ≠ gb268 ∧ k_ ≠ gb278) (.slice Ao53 t272.length co53) t272) := ⟨(by rw [hw]; exact (by exact Kd.N_mono (Kd.N_far (p := ⟨gb278, 2, none⟩) (Kd.N_far (p := ⟨gb278, 1, none⟩) (Kd.N_far (p := ⟨gb278, 0, none⟩) (Kd.N_mono HO274.out (fun k_ hk => (⟨hk, hk.2⟩ : _ ∧ k_ ≠ gb278))) (fun _ hk => hk.2) (.slice Ao49 t269.length co49)) (fun _ hk => hk.2) (.slice Ao53 t272.length co53)) (fun _ hk => hk.2) (.slice Ao54 t275.length co54)) (fun _ hk => ⟨hk.1.1.1, ⟨hk.1.1.2.1, ⟨hk.1.1.2.2.1, ⟨hk.1.1.2.2.2.1, ⟨hk.1.1.2.2.2.2, hk.1.2⟩⟩⟩⟩⟩)))⟩; have n2_ : Aside0 (Kd.R (Kd.int .i64) 3 w55 w.heap.size (fun k_ => (w.heap.size ≤ k_) ∧ some k_ ≠ (.slice Ao49 t269.length co49 : Value).ownBlock) (.slice Ao54 t275.length co54) t275) := ⟨(by rw [hw]; exact (by exact Kd.R_mono (Kd.R_far (p := ⟨gb278, 2, none⟩) (Kd.R_far (p := ⟨gb278, 1, none⟩) (Kd.R_far (p := ⟨gb278, 0, none⟩) (Kd.R_types HO277.out BK278.out (by decide)) (fun _ hk => hk.2) (.slice Ao49 t269.length co49)) (fun _ hk => hk.2) (.slice Ao53 t272.length co53)) (fun _ hk => hk.2) (.slice Ao54 t275.length co54)) (fun _ hk => ⟨hk.1.1, hk.1.2⟩)))⟩; have n3_ : Aside0 (w55.heap[gb267]? = some (.cells #[.slice A0_0 l0_0.length c0_0, .slice A0_1 l0_1.length c0_1, .slice A0_2 l0_2.length c0_2] 26 (0, 0))) := ⟨(by rw [hw]; exact (by refine blk_far ?_ NB267_278.out _; refine blk_far ?_ NB267_278.out _; refine blk_far ?_ NB267_278.out _; exact BK267.out))⟩; have n4_ : Aside0 (w55.heap[gb268]? = some (.cells #[.slice none 0 0, .slice none 0 0, .slice none 0 0] 26 (0, 0))) := ⟨(by rw [hw]; exact (by refine blk_far ?_ NB268_278.out _; refine blk_far ?_ NB268_278.out _; refine blk_far ?_ NB268_278.out _; exact BK268.out))⟩; have n5_ : Aside0 (w55.heap[gb278]? = some (.cells #[.slice Ao49 t269.length co49, .slice Ao53 t272.length co53, .slice Ao54 t275.length co54] 26 (0, 0))) := ⟨(by rw [hw]; exact (by refine blk_put (cs := #[.slice Ao49 t269.length co49, .slice Ao53 t272.length co53, .slice none 0 0]) ?_ 2 _ rfl; refine blk_put (cs := #[.slice Ao49 t269.length co49, .slice none 0 0, .slice none 0 0]) ?_ 1 _ rfl; refine blk_put (cs := #[.slice none 0 0, .slice none 0 0, .slice none 0 0]) ?_ 0 _ rfl; exact BK278.out))⟩; have n6_ : Aside0 (Below w.heap.size w w55) := ⟨(by rw [hw]; exact (by repeat (first | exact HB.out | refine below_set ?_ GE267.out | refine below_set ?_ GE268.out | refine below_set ?_ GE278.out)))⟩; clear hw; clear HO271; clear HO274; clear HO277; clear BK267; clear BK268; clear BK278; clear HB; have HO271 := n0_; have HO274 := n1_; have HO277 := n2_; have BK267 := n3_; have BK268 := n4_; have BK278 := n5_; have HB := n6_; clear n0_ n1_ n2_ n3_ n4_ n5_ n6_; obtain ⟨hcz56_0, hcz56_1, hcz56_2, hfz56_0, hfz56_1, hfz56_2⟩ := blkf3_ BK278.out; have p279 : 0 ≤ (a1 : Int) := of_decide_eq_true (by assumption); have q279 : a1 < (t272.length : Int) := of_decide_eq_true (by assumption); obtain ⟨ad279, A279_1, c279_1, e279, hx279_0, hx279_1, hx279_2, hl279_1, hi279_1⟩ := at_T35 (Kd.N_reads' HO274.out).2.2 a1 p279 q279; cases e279; obtain ⟨ce279, hce279, hMe279, hcc279⟩ := Kd.N_get HO274.out z35 a1 p279 (by first | exact q279 | exact of_decide_eq_true (by assumption) | (have e_ := (Kd.N_reads' HO274.out).1; omega)); obtain ⟨ua279_1, uc279_1, rfl, ul279_1, ge279_1⟩ := k35_openF hMe279; have hv279_1 := hcc279 1 _ rfl; rw [add_field _ _ 1 (by omega)] at hv279_1; replace hv279_1 := Option.some.inj (hv279_1.symm.trans hx279_1); injection hv279_1 with hva_ hvn_ hvc_; rw [hva_] at ge279_1; rw [hvc_] at ul279_1; have HL279_1 := K_ (show Kd.V (Kd.int .i64) 3 _ w.heap.size _ _ ((rd_T35 t272 a1).f1) from Kd.V_mk ul279_1 ge279_1); clear hva_ hvn_ hvc_ ge279_1 ul279_1; clear hcc279 hce279; have HR279_1 := K_ hi279_1; have HC279_1 := K_ hl279_1; clear hi279_1 hl279_1; replace p279 := eq_true p279; replace q279 := eq_true q279))
 have n0_ := K_ (Kd.R_drew HO271.out)
 have n1_ := K_ (Kd.N_drew HO274.out)
 have n2_ := K_ (Kd.R_drew HO277.out)
 have n3_ := K_ (Kd.V_drew HL279_1.out)
 have n4_ := K_ (blk_drew BK267.out)
 have n5_ := K_ (blk_drew BK268.out)
 have n6_ := K_ (blk_drew BK278.out)
 have n7_ := K_ (Kd.C_drew HR279_1.out)
 have n8_ := K_ (below_drew1 HB.out)
 clear HO271
 clear HO274
 clear HO277
 clear HL279_1
 clear BK267
 clear BK268
 clear BK278
 clear HR279_1
 clear HB
 have HO271 := n0_
 have HO274 := n1_
 have HO277 := n2_
 have HL279_1 := n3_
 have BK267 := n4_
 have BK268 := n5_
 have BK278 := n6_
 have HR279_1 := n7_
 have HB := n8_
 clear n0_ n1_ n2_ n3_ n4_ n5_ n6_ n7_ n8_
 have q58 : (a1 : Int) ≤ ((t272.length : Int) : Int) := of_decide_eq_true (by assumption)
 obtain ⟨i058, hi058, _, hsz58, _⟩ := info_parts info35
 have hroom58 : t272.length ≤ co53 := (Kd.N_reads' HO274.out).2.1
 have hC58 : Kd.F k35 _ _ (some ad279) t272.length t272 := (Kd.V_at (base := w.heap.size) (Kd.N_V HO274.out)).2.2
 have hcut58 := cut_to (P := Try.prog) 24 35 .i64 Try.underlying24 hi058 (some ad279) t272.length co53 a1 (of_decide_eq_true (by assumption)) q58 hroom58
 have hr58 := Kd.F_take (m := (a1 : Int).toNat) hC58 (by omega)
 have hy58 : y290.length = (a1 : Int).toNat := (by rw [Ny290.out, List.length_take]; omega)
 rw [← Ny290.out] at hr58
 rw [← hy58] at hcut58
 have HO294 := K_ (show Kd.V k35 35 _ w.heap.size _ (.slice (some ad279) y290.length co53) y290 from Kd.V_mk (by omega) hr58)
 have HC294 := K_ (show y290.length ≤ co53 from by omega)
 clear hr58 hC58 hroom58 hi058 hsz58
 have KY58 := K_ hy58
 clear hy58
 replace q58 := eq_true q58
 have q59 : ((ji36) : Int) ≤ ((t272.length : Int) : Int) := of_decide_eq_true (by assumption)
 obtain ⟨i059, hi059, _, hsz59, _⟩ := info_parts info35
 have hroom59 : t272.length ≤ co53 := (Kd.N_reads' HO274.out).2.1
 have hC59 : Kd.F k35 _ _ (some ad279) t272.length t272 := (Kd.V_at (base := w.heap.size) (Kd.N_V HO274.out)).2.2
 have q059 : (0 : Int) ≤ ((ji36) : Int) := of_decide_eq_true (by assumption)
 have hcut59 := cut_from (P := Try.prog) 24 35 .i64 Try.underlying24 hi059 3 hsz59 (some ad279) t272.length co53 (ji36) q059 q59
 have hr59 := Kd.F_cut (m := ((ji36) : Int).toNat) (c := co53) hC59 (by omega) hroom59
 obtain ⟨A59, hA59⟩ : ∃ A1, A1 = (if co53 = ((ji36) : Int).toNat then (some ad279) else ((some ad279) : Option Addr).map (·.add (((ji36) : Int).toNat * 3))) := ⟨_, rfl⟩
 obtain ⟨c59, hc59⟩ : ∃ c1, c1 = co53 - ((ji36) : Int).toNat := ⟨_, rfl⟩
 have hy59 : y295.length = t272.length - ((ji36) : Int).toNat := (by rw [Ny295.out, List.length_drop] <;> omega)
 rw [show (t272).drop ((ji36) : Int).toNat = y295 from Ny295.out.symm] at hr59
 replace hr59 : Kd.F k35 _ _ A59 y295.length y295 := (by rw [hA59]; exact hr59)
 rw [← hy59, ← hA59, ← hc59] at hcut59
 have HO299 := K_ (show Kd.V k35 35 _ w.heap.size _ (.slice A59 y295.length c59) y295 from Kd.V_mk (by rw [hy59, hc59]; exact Nat.sub_le_sub_right hroom59 _) hr59)
 have HC299 := K_ (show y295.length ≤ c59 from by rw [hy59, hc59]; exact Nat.sub_le_sub_right hroom59 _)
 clear hr59 hC59 hroom59 hi059 hsz59 hc59
 have KY59 := K_ hy59
 have KA59 := K_ hA59
 clear hy59 hA59
 replace q59 := eq_true q59
 obtain ⟨go61, co61, eo61, gb61, gl61, cl61, HG61⟩ := Kd.N_form HO274.out (by have hj_ : 0 ≤ (a1 : Int) := of_decide_eq_true (by assumption); have hl_ : (ji36 : Int) ≤ (t272.length : Int) := of_decide_eq_true (by assumption); have hh_ : (a1 : Int) ≤ (t272.length : Int) := of_decide_eq_true (by assumption); rw [← hji36] at hl_; unfold wrap64 at hl_; omega)
 (first | cases eo61 | (injection eo61 with ea_ en_ ec_; (first | subst ea_ | (injection ea_ with ea_; subst ea_)); subst ec_; clear en_))
 have GB61 := K_ gb61
 have GG61 := K_ HG61
 clear gb61 gl61 HG61
 (first | simp only [add_plain] at hx279_0 | skip)
 (first | simp only [add_plain] at hx279_1 | skip)
 (first | simp only [add_plain] at hx279_2 | skip)
 refine start_ (n := 12) (S := fun w' => w'.cell? ⟨gb278, 0, none⟩ = some (.slice Ao49 t269.length co49) ∧ w'.cell? ⟨gb278, 1, none⟩ = some (.slice (some ⟨go61, 0, none⟩) t272.length co53) ∧ w'.cell? ⟨gb278, 2, none⟩ = some (.slice Ao54 t275.length co54)) (ds := [11]) #[ff, ff, ff, ff, ff, ff, ff, ff, ff, ff, ff, ff] (by kernel_rfl) rfl rfl ⟨(blk_cell BK278.out 0).trans rfl, (blk_cell BK278.out 1).trans rfl, (blk_cell BK278.out 2).trans rfl⟩ (fun hHeld => ?_); refine with_tabW spec_l1step.tab6 spec_l1step.bits6 (fun HT_ HW_ => ?_)
 generalize w55.drew = w57 at HO271 HO274 HO277 HL279_1 BK267 BK268 BK278 HR279_1 HB GG61 HO294 HO299 hx279_0 hx279_1 hx279_2 hHeld ⊢
 refine pure_ (i := 0) (N := some 42) (v := ?_) (a' := ?_) (M_ 12 1) rfl rfl (any_of HT_.out (by kernel_rfl)) (fun _ _ _ h => h) (Or.inl ⟨by rfl, ?_⟩) ?_ ?_
 rotate_left
 ·intro w'
  go_simp
  with_reducible rfl
 rotate_left
 ·simp only [P_, i64_w, i32_w]
  rfl
 refine pure_ (i := 2) (N := some 44) (v := ?_) (a' := ?_) (M_ 12 5) rfl rfl (any_of HT_.out (by kernel_rfl)) (fun _ _ _ h => h) (Or.inl ⟨by rfl, ?_⟩) ?_ ?_
 rotate_left
 ·intro w'
  go_simp
  with_reducible rfl
 rotate_left
 ·simp only [P_, i64_w, i32_w]
  rfl
 refine pure_ (i := 4) (N := some 46) (v := ?_) (a' := ?_) (M_ 12 21) rfl rfl (any_of HT_.out (by kernel_rfl)) (fun _ _ _ h => h) (Or.inl ⟨by rfl, ?_⟩) ?_ ?_
 rotate_left
 ·intro w'
  go_simp
  with_reducible rfl
 rotate_left
 ·simp only [P_, i64_w, i32_w]
  rfl
 refine pure_ (i := 6) (N := some 48) (v := ?_) (a' := ?_) (M_ 12 85) rfl rfl (any_of HT_.out (by kernel_rfl)) (fun _ _ _ h => h) (Or.inl ⟨by rfl, ?_⟩) ?_ ?_
 rotate_left
 ·intro w'
  go_simp
  with_reducible rfl
 rotate_left
 ·simp only [P_, i64_w, i32_w]
  rfl
 refine pure_ (i := 7) (N := some 49) (v := ?_) (a' := ?_) (M_ 12 213) rfl rfl (any_of HT_.out (by kernel_rfl)) (fun _ _ _ h => h) (Or.inl ⟨by rfl, ?_⟩) ?_ ?_
 rotate_left
 ·intro w'
  go_simp
  with_reducible rfl
 rotate_left
 ·simp only [P_, i64_w, i32_w]
  rfl
 refine take_ (i := 1) (N := some 43) (v := ?_) (a' := ?_) (M_ 12 215) rfl rfl (take_ofW HT_.out HW_.out (by kernel_rfl)) (fun _ _ _ h => h) (Or.inl ⟨by rfl, ?_⟩) hHeld ?_ ?_
 rotate_left
 ·rintro w' ⟨s0, s1, s2⟩
  go_simp
  with_reducible rfl
 rotate_left
 ·simp only [P_, i64_w, i32_w]
  rfl
 refine pure_ (i := 3) (N := some 45) (v := ?_) (a' := ?_) (M_ 12 223) rfl rfl (any_of HT_.out (by kernel_rfl)) (fun _ _ _ h => h) (Or.inl ⟨by rfl, ?_⟩) ?_ ?_
 rotate_left
 ·intro w'
  go_simp
  with_reducible rfl
 rotate_left
 ·simp only [P_, i64_w, i32_w]
  rfl
 refine take_ (i := 5) (N := some 47) (v := ?_) (a' := ?_) (M_ 12 255) rfl rfl (take_ofW HT_.out HW_.out (by kernel_rfl)) (fun _ _ _ h => h) (Or.inl ⟨by rfl, ?_⟩) hHeld ?_ ?_
 rotate_left
 ·rintro w' ⟨s0, s1, s2⟩
  go_simp
  with_reducible rfl
 rotate_left
 ·simp only [P_, i64_w, i32_w]
  rfl
 refine pure_ (i := 8) (N := some 50) (v := ?_) (a' := ?_) (M_ 12 511) rfl rfl (any_of HT_.out (by kernel_rfl)) (fun _ _ _ h => h) (Or.inl ⟨by rfl, ?_⟩) ?_ ?_
 rotate_left
 ·intro w'
  go_simp
  with_reducible rfl
 rotate_left
 ·simp only [P_, i64_w, i32_w]
  rfl
 refine one_ (i := 9) (N := some 51) (M_ 12 1023) rfl rfl (one_of HT_.out (by kernel_rfl)) (by decide) (fun K hK => ?_)
 have hj_ : 0 ≤ (a1 : Int) := of_decide_eq_true (by assumption)
 have hl_ : (ji36 : Int) ≤ (t272.length : Int) := of_decide_eq_true (by assumption)
 have hh_ : (a1 : Int) ≤ (t272.length : Int) := of_decide_eq_true (by assumption)
 have hb_ := (Kd.N_reads' HO274.out).2.2.2.1
 have h0_ : (0 : Int) ≤ (ji36 : Int) := of_decide_eq_true (by assumption)
 have hy1_ := KY58.out
 have hk_ : (ji36 : Int).toNat = y290.length + 1 := (by have hw_ : (ji36 : Int) = a1 + 1 := (by have h00_ := h0_; rw [← hji36] at h00_ ⊢; unfold wrap64 at h00_ ⊢; omega); rw [hw_]; omega)
 refine Kd.N_delete_step k35 (w0 := w) w.heap.size (by rfl) (.tmp 45) (.tmp 50) 24 35 rfl Try.underlying24 (by kernel_rfl) (g := go61) (n := t272.length) (c := co53) (k := y290.length) rfl rfl ?hA ?hm HO274.out ?hk HB.out (below_size HB.out) ?_
 (case hA => have ha_ := KA59.out; rw [hk_] at ha_; exact ha_)
 (case hm => have ha_ := KY59.out; omega)
 (case hk => omega)
 intro w60 ho hb hg
 clear hj_ hl_ hh_ hb_ hk_ h0_
 rw [hy1_, ← Ny300.out] at ho
 clear hy1_
 have hn_ : t272.length - 1 = y300.length := (by have := (Kd.N_reads' ho).1; omega)
 rw [hn_] at ho ⊢
 clear hn_
 have n0_ := K_ (blk_grown BK267.out hg (Kd.N_ne HO274.out BK267.out (by decide)))
 have n1_ := K_ (blk_grown BK268.out hg (Kd.N_ne HO274.out BK268.out (by decide)))
 have n2_ := K_ (Kd.R_over' (v := (.slice (some ⟨go61, 0, none⟩) t272.length co53)) HO271.out (Kd.N_typed HO274.out) (by decide) hg)
 have n3_ := K_ (ho)
 have n4_ := K_ (Kd.R_over' (v := (.slice (some ⟨go61, 0, none⟩) t272.length co53)) HO277.out (Kd.N_typed HO274.out) (by decide) hg)
 have n5_ := K_ (blk_grown BK278.out hg (Kd.N_ne HO274.out BK278.out (by decide)))
 have n6_ := K_ (Kd.V_afterv (v := (.slice (some ⟨go61, 0, none⟩) t272.length co53)) (v1 := .slice (some ⟨go61, 0, none⟩) y300.length co53) (ok := (fun k_ => (w.heap.size ≤ k_) ∧ some k_ ≠ (.slice Ao49 t269.length co49 : Value).ownBlock ∧ some k_ ≠ (.slice Ao54 t275.length co54 : Value).ownBlock ∧ k_ ≠ gb267 ∧ k_ ≠ gb268 ∧ k_ ≠ gb278)) HL279_1.out hg (.inl rfl))
 have n7_ := K_ (hb)
 clear BK267
 clear BK268
 clear HO271
 clear HO274
 clear HO277
 clear BK278
 clear HL279_1
 clear HB
 have BK267 := n0_
 have BK268 := n1_
 have HO271 := n2_
 have HO274 := n3_
 have HO277 := n4_
 have BK278 := n5_
 have HL279_1 := n6_
 have HB := n7_
 clear n0_ n1_ n2_ n3_ n4_ n5_ n6_ n7_
 clear ho hb hg
 refine hK.out _ _ ⟨(blk_cell BK278.out 0).trans rfl, (blk_cell BK278.out 1).trans rfl, (blk_cell BK278.out 2).trans rfl⟩ (fun hHeld => ?_)
 clear hK K
 refine norm_ (a' := ?_) ?_ ?_
 rotate_left
 ·show Act.put _ (some 51) _ = _
  simp only [P_, i64_w, i32_w]
  rfl
 refine pure_ (i := 10) (N := some 52) (v := ?_) (a' := ?_) (M_ 12 2047) rfl rfl (any_of HT_.out (by kernel_rfl)) (fun _ _ _ h => h) (Or.inl ⟨by rfl, ?_⟩) ?_ ?_
 rotate_left
 ·intro w'
  go_simp
  with_reducible rfl
 rotate_left
 ·simp only [P_, i64_w, i32_w]
  rfl
 refine last_ (i := 11) (N := none) (M_ 12 4095) rfl rfl (one_of HT_.out (by kernel_rfl)) (by decide) (fun K hK => ?_)
 have hs62 : w60.cell? ⟨gb278, 1, none⟩ = some (.slice (some ⟨go61, 0, none⟩) t272.length co53) := (blk_cell BK278.out 1).trans rfl
 have hfs62 := blk_frozen BK278.out 1
 have hns62_0 := NB267_278.out
 have hns62_1 := NB268_278.out
 have hms62_0 := NB278_267.out
 have hms62_1 := NB278_268.out
 refine skip_ (w1 := ?_) (by rfl) rfl ?_ ?_
 rotate_left
 ·go_simp
  rfl
 refine hK.out _ _ ?_
 clear hK K
 refine done_ (done_of HT_.out (by kernel_rfl)) ?_
 try go_wp2
 have n0_ : Aside0 (Kd.R (Kd.int .i64) 3 (w60.setCell ⟨gb278, 1, none⟩ (.slice (some ⟨go61, 0, none⟩) y300.length co53)) w.heap.size (fun k_ => (w.heap.size ≤ k_) ∧ some k_ ≠ (.slice Ao54 t275.length co54 : Value).ownBlock) (.slice Ao49 t269.length co49) t269) := ⟨by exact Kd.R_mono (Kd.R_far (p := ⟨gb278, 1, none⟩) (Kd.R_types HO271.out BK278.out (by decide)) (fun _ hk => hk.2) (.slice (some ⟨go61, 0, none⟩) y300.length co53)) (fun _ hk => ⟨hk.1.1, hk.1.2⟩)⟩
 have n1_ : Aside0 (Kd.N k35 35 (w60.setCell ⟨gb278, 1, none⟩ (.slice (some ⟨go61, 0, none⟩) y300.length co53)) w.heap.size (fun k_ => (w.heap.size ≤ k_) ∧ some k_ ≠ (.slice Ao49 t269.length co49 : Value).ownBlock ∧ some k_ ≠ (.slice Ao54 t275.length co54 : Value).ownBlock ∧ k_ ≠ gb267 ∧ k_ ≠ gb268 ∧ k_ ≠ gb278) (.slice (some ⟨go61, 0, none⟩) y300.length co53) y300) := ⟨by exact Kd.N_mono (Kd.N_far (p := ⟨gb278, 1, none⟩) (Kd.N_mono HO274.out (fun k_ hk => (⟨hk, hk.2.2.2.2.2⟩ : _ ∧ k_ ≠ gb278))) (fun _ hk => hk.2) (.slice (some ⟨go61, 0, none⟩) y300.length co53)) (fun _ hk => ⟨hk.1.1, ⟨hk.1.2.1, ⟨hk.1.2.2.1, ⟨hk.1.2.2.2.1, ⟨hk.1.2.2.2.2.1, hk.1.2.2.2.2.2⟩⟩⟩⟩⟩)⟩
 have n2_ : Aside0 (Kd.R (Kd.int .i64) 3 (w60.setCell ⟨gb278, 1, none⟩ (.slice (some ⟨go61, 0, none⟩) y300.length co53)) w.heap.size (fun k_ => (w.heap.size ≤ k_) ∧ some k_ ≠ (.slice Ao49 t269.length co49 : Value).ownBlock) (.slice Ao54 t275.length co54) t275) := ⟨by exact Kd.R_mono (Kd.R_far (p := ⟨gb278, 1, none⟩) (Kd.R_types HO277.out BK278.out (by decide)) (fun _ hk => hk.2) (.slice (some ⟨go61, 0, none⟩) y300.length co53)) (fun _ hk => ⟨hk.1.1, hk.1.2⟩)⟩
 have n3_ : Aside0 (Kd.V (Kd.int .i64) 3 (w60.setCell ⟨gb278, 1, none⟩ (.slice (some ⟨go61, 0, none⟩) y300.length co53)) w.heap.size (fun k_ => (w.heap.size ≤ k_) ∧ some k_ ≠ (.slice Ao49 t269.length co49 : Value).ownBlock ∧ some k_ ≠ (.slice (some ⟨go61, 0, none⟩) y300.length co53 : Value).ownBlock ∧ some k_ ≠ (.slice Ao54 t275.length co54 : Value).ownBlock ∧ k_ ≠ gb267 ∧ k_ ≠ gb268 ∧ k_ ≠ gb278) (.slice A279_1 ((rd_T35 t272 a1).f1).length c279_1) ((rd_T35 t272 a1).f1)) := ⟨by exact Kd.V_mono (Kd.V_far (p := ⟨gb278, 1, none⟩) (Kd.V_mono HL279_1.out (fun k_ hk => (⟨hk, hk.1.2.2.2.2.2⟩ : _ ∧ k_ ≠ gb278))) (fun _ hk => hk.2) (.slice (some ⟨go61, 0, none⟩) y300.length co53)) (fun _ hk => ⟨hk.1.1.1, ⟨hk.1.1.2.1, ⟨hk.1.2, ⟨hk.1.1.2.2.1, ⟨hk.1.1.2.2.2.1, ⟨hk.1.1.2.2.2.2.1, hk.1.1.2.2.2.2.2⟩⟩⟩⟩⟩⟩)⟩
 have n4_ : Aside0 ((w60.setCell ⟨gb278, 1, none⟩ (.slice (some ⟨go61, 0, none⟩) y300.length co53)).heap[gb267]? = some (.cells #[.slice A0_0 l0_0.length c0_0, .slice A0_1 l0_1.length c0_1, .slice A0_2 l0_2.length c0_2] 26 (0, 0))) := ⟨by refine blk_far ?_ NB267_278.out _; exact BK267.out⟩
 have n5_ : Aside0 ((w60.setCell ⟨gb278, 1, none⟩ (.slice (some ⟨go61, 0, none⟩) y300.length co53)).heap[gb268]? = some (.cells #[.slice none 0 0, .slice none 0 0, .slice none 0 0] 26 (0, 0))) := ⟨by refine blk_far ?_ NB268_278.out _; exact BK268.out⟩
 have n6_ : Aside0 ((w60.setCell ⟨gb278, 1, none⟩ (.slice (some ⟨go61, 0, none⟩) y300.length co53)).heap[gb278]? = some (.cells #[.slice Ao49 t269.length co49, .slice (some ⟨go61, 0, none⟩) y300.length co53, .slice Ao54 t275.length co54] 26 (0, 0))) := ⟨by refine blk_put (cs := #[.slice Ao49 t269.length co49, .slice (some ⟨go61, 0, none⟩) t272.length co53, .slice Ao54 t275.length co54]) ?_ 1 _ rfl; exact BK278.out⟩
 have n7_ : Aside0 (Below w.heap.size w (w60.setCell ⟨gb278, 1, none⟩ (.slice (some ⟨go61, 0, none⟩) y300.length co53))) := ⟨by repeat (first | exact HB.out | refine below_set ?_ GE267.out | refine below_set ?_ GE268.out | refine below_set ?_ GE278.out)⟩
 clear HO271
 clear HO274
 clear HO277
 clear HL279_1
 clear BK267
 clear BK268
 clear BK278
 clear HB
 generalize (w60.setCell ⟨gb278, 1, none⟩ (.slice (some ⟨go61, 0, none⟩) y300.length co53)) = w63 at n0_ n1_ n2_ n3_ n4_ n5_ n6_ n7_ ⊢
 have HO271 := n0_
 have HO274 := n1_
 have HO277 := n2_
 have HL279_1 := n3_
 have BK267 := n4_
 have BK268 := n5_
 have BK278 := n6_
 have HB := n7_
 clear n0_ n1_ n2_ n3_ n4_ n5_ n6_ n7_
 have n0_ := K_ (Kd.R_drew HO271.out)
 have n1_ := K_ (Kd.N_drew HO274.out)
 have n2_ := K_ (Kd.R_drew HO277.out)
 have n3_ := K_ (Kd.V_drew HL279_1.out)
 have n4_ := K_ (blk_drew BK267.out)
 have n5_ := K_ (blk_drew BK268.out)
 have n6_ := K_ (blk_drew BK278.out)
 have n7_ := K_ (below_drew1 HB.out)
 clear HO271
 clear HO274
 clear HO277
 clear HL279_1
 clear BK267
 clear BK268
 clear BK278
 clear HB
 have HO271 := n0_
 have HO274 := n1_
 have HO277 := n2_
 have HL279_1 := n3_
 have BK267 := n4_
 have BK268 := n5_
 have BK278 := n6_
 have HB := n7_
 clear n0_ n1_ n2_ n3_ n4_ n5_ n6_ n7_
 have q65 : (a1 : Int) ≤ ((t275.length : Int) : Int) := of_decide_eq_true (by assumption)
 obtain ⟨i065, hi065, _, hsz65, _⟩ := info_parts info3
 have hroom65 : t275.length ≤ co54 := (Kd.R_reads' HO277.out).2.1
 have hC65 : Kd.F (Kd.int .i64) _ _ Ao54 t275.length t275 := (Kd.V_at (base := w.heap.size) (Kd.R_V (Kd.R_types (Kd.R_types (Kd.R_types (Kd.R_apart' (HO277.out) (Kd.N_typed HO274.out) (by decide)) BK267.out (by decide)) BK268.out (by decide)) BK278.out (by decide)))).2.2
 have hcut65 := cut_to (P := Try.prog) 23 3 .i64 Try.underlying23 hi065 Ao54 t275.length co54 a1 (of_decide_eq_true (by assumption)) q65 hroom65
 have hr65 := Kd.F_take (m := (a1 : Int).toNat) hC65 (by omega)
 have hy65 : y303.length = (a1 : Int).toNat := (by rw [Ny303.out, List.length_take]; omega)
 rw [← Ny303.out] at hr65
 rw [← hy65] at hcut65
 have HO307 := K_ (show Kd.V (Kd.int .i64) 3 _ w.heap.size _ (.slice Ao54 y303.length co54) y303 from Kd.V_mk (by omega) hr65)
 have HC307 := K_ (show y303.length ≤ co54 from by omega)
 clear hr65 hC65 hroom65 hi065 hsz65
 have KY65 := K_ hy65
 clear hy65
 replace q65 := eq_true q65
 have q66 : ((ji36) : Int) ≤ ((t275.length : Int) : Int) := of_decide_eq_true (by assumption)
 obtain ⟨i066, hi066, _, hsz66, _⟩ := info_parts info3
 have hroom66 : t275.length ≤ co54 := (Kd.R_reads' HO277.out).2.1
 have hC66 : Kd.F (Kd.int .i64) _ _ Ao54 t275.length t275 := (Kd.V_at (base := w.heap.size) (Kd.R_V (Kd.R_types (Kd.R_types (Kd.R_types (Kd.R_apart' (HO277.out) (Kd.N_typed HO274.out) (by decide)) BK267.out (by decide)) BK268.out (by decide)) BK278.out (by decide)))).2.2
 have q066 : (0 : Int) ≤ ((ji36) : Int) := of_decide_eq_true (by assumption)
 have hcut66 := cut_from (P := Try.prog) 23 3 .i64 Try.underlying23 hi066 1 hsz66 Ao54 t275.length co54 (ji36) q066 q66
 have hr66 := Kd.F_cut (m := ((ji36) : Int).toNat) (c := co54) hC66 (by omega) hroom66
 obtain ⟨A66, hA66⟩ : ∃ A1, A1 = (if co54 = ((ji36) : Int).toNat then Ao54 else (Ao54 : Option Addr).map (·.add (((ji36) : Int).toNat * 1))) := ⟨_, rfl⟩
 obtain ⟨c66, hc66⟩ : ∃ c1, c1 = co54 - ((ji36) : Int).toNat := ⟨_, rfl⟩
 have hy66 : y308.length = t275.length - ((ji36) : Int).toNat := (by rw [Ny308.out, List.length_drop] <;> omega)
 rw [show (t275).drop ((ji36) : Int).toNat = y308 from Ny308.out.symm] at hr66
 replace hr66 : Kd.F (Kd.int .i64) _ _ A66 y308.length y308 := (by rw [hA66]; exact hr66)
 rw [← hy66, ← hA66, ← hc66] at hcut66
 have HO312 := K_ (show Kd.V (Kd.int .i64) 3 _ w.heap.size _ (.slice A66 y308.length c66) y308 from Kd.V_mk (by rw [hy66, hc66]; exact Nat.sub_le_sub_right hroom66 _) hr66)
 have HC312 := K_ (show y308.length ≤ c66 from by rw [hy66, hc66]; exact Nat.sub_le_sub_right hroom66 _)
 clear hr66 hC66 hroom66 hi066 hsz66 hc66
 have KY66 := K_ hy66
 have KA66 := K_ hA66
 clear hy66 hA66
 replace q66 := eq_true q66
 obtain ⟨go68, co68, eo68, gb68, gl68, cl68, HG68⟩ := Kd.R_form HO277.out (by have hj_ : 0 ≤ (a1 : Int) := of_decide_eq_true (by assumption); have hl_ : (ji36 : Int) ≤ (t275.length : Int) := of_decide_eq_true (by assumption); have hh_ : (a1 : Int) ≤ (t275.length : Int) := of_decide_eq_true (by assumption); rw [← hji36] at hl_; unfold wrap64 at hl_; omega)
 (first | cases eo68 | (injection eo68 with ea_ en_ ec_; (first | subst ea_ | (injection ea_ with ea_; subst ea_)); subst ec_; clear en_))
 have GB68 := K_ gb68
 have GG68 := K_ HG68
 clear gb68 gl68 HG68
 refine start_ (n := 12) (S := fun w' => w'.cell? ⟨gb278, 0, none⟩ = some (.slice Ao49 t269.length co49) ∧ w'.cell? ⟨gb278, 1, none⟩ = some (.slice (some ⟨go61, 0, none⟩) y300.length co53) ∧ w'.cell? ⟨gb278, 2, none⟩ = some (.slice (some ⟨go68, 0, none⟩) t275.length co54)) (ds := [11]) #[ff, ff, ff, ff, ff, ff, ff, ff, ff, ff, ff, ff] (by kernel_rfl) rfl rfl ⟨(blk_cell BK278.out 0).trans rfl, (blk_cell BK278.out 1).trans rfl, (blk_cell BK278.out 2).trans rfl⟩ (fun hHeld => ?_); refine with_tabW spec_l1step.tab7 spec_l1step.bits7 (fun HT_ HW_ => ?_)
 generalize w63.drew = w64 at HO271 HO274 HO277 HL279_1 BK267 BK268 BK278 HB GG68 HO307 HO312 hHeld ⊢
 refine pure_ (i := 0) (N := some 53) (v := ?_) (a' := ?_) (M_ 12 1) rfl rfl (any_of HT_.out (by kernel_rfl)) (fun _ _ _ h => h) (Or.inl ⟨by rfl, ?_⟩) ?_ ?_
 rotate_left
 ·intro w'
  go_simp
  with_reducible rfl
 rotate_left
 ·simp only [P_, i64_w, i32_w]
  rfl
 refine pure_ (i := 2) (N := some 55) (v := ?_) (a' := ?_) (M_ 12 5) rfl rfl (any_of HT_.out (by kernel_rfl)) (fun _ _ _ h => h) (Or.inl ⟨by rfl, ?_⟩) ?_ ?_
 rotate_left
 ·intro w'
  go_simp
  with_reducible rfl
 rotate_left
 ·simp only [P_, i64_w, i32_w]
  rfl
 refine pure_ (i := 4) (N := some 57) (v := ?_) (a' := ?_) (M_ 12 21) rfl rfl (any_of HT_.out (by kernel_rfl)) (fun _ _ _ h => h) (Or.inl ⟨by rfl, ?_⟩) ?_ ?_
 rotate_left
 ·intro w'
  go_simp
  with_reducible rfl
 rotate_left
 ·simp only [P_, i64_w, i32_w]
  rfl
 refine pure_ (i := 6) (N := some 59) (v := ?_) (a' := ?_) (M_ 12 85) rfl rfl (any_of HT_.out (by kernel_rfl)) (fun _ _ _ h => h) (Or.inl ⟨by rfl, ?_⟩) ?_ ?_
 rotate_left
 ·intro w'
  go_simp
  with_reducible rfl
 rotate_left
 ·simp only [P_, i64_w, i32_w]
  rfl
 refine pure_ (i := 7) (N := some 60) (v := ?_) (a' := ?_) (M_ 12 213) rfl rfl (any_of HT_.out (by kernel_rfl)) (fun _ _ _ h => h) (Or.inl ⟨by rfl, ?_⟩) ?_ ?_
 rotate_left
 ·intro w'
  go_simp
  with_reducible rfl
 rotate_left
 ·simp only [P_, i64_w, i32_w]
  rfl
 refine take_ (i := 1) (N := some 54) (v := ?_) (a' := ?_) (M_ 12 215) rfl rfl (take_ofW HT_.out HW_.out (by kernel_rfl)) (fun _ _ _ h => h) (Or.inl ⟨by rfl, ?_⟩) hHeld ?_ ?_
 rotate_left
 ·rintro w' ⟨s0, s1, s2⟩
  go_simp
  with_reducible rfl
 rotate_left
 ·simp only [P_, i64_w, i32_w]
  rfl
 refine pure_ (i := 3) (N := some 56) (v := ?_) (a' := ?_) (M_ 12 223) rfl rfl (any_of HT_.out (by kernel_rfl)) (fun _ _ _ h => h) (Or.inl ⟨by rfl, ?_⟩) ?_ ?_
 rotate_left
 ·intro w'
  go_simp
  with_reducible rfl
 rotate_left
 ·simp only [P_, i64_w, i32_w]
  rfl
 refine take_ (i := 5) (N := some 58) (v := ?_) (a' := ?_) (M_ 12 255) rfl rfl (take_ofW HT_.out HW_.out (by kernel_rfl)) (fun _ _ _ h => h) (Or.inl ⟨by rfl, ?_⟩) hHeld ?_ ?_
 rotate_left
 ·rintro w' ⟨s0, s1, s2⟩
  go_simp
  with_reducible rfl
 rotate_left
 ·simp only [P_, i64_w, i32_w]
  rfl
 refine pure_ (i := 8) (N := some 61) (v := ?_) (a' := ?_) (M_ 12 511) rfl rfl (any_of HT_.out (by kernel_rfl)) (fun _ _ _ h => h) (Or.inl ⟨by rfl, ?_⟩) ?_ ?_
 rotate_left
 ·intro w'
  go_simp
  with_reducible rfl
 rotate_left
 ·simp only [P_, i64_w, i32_w]
  rfl
 refine one_ (i := 9) (N := some 62) (M_ 12 1023) rfl rfl (one_of HT_.out (by kernel_rfl)) (by decide) (fun K hK => ?_)
 have hj_ : 0 ≤ (a1 : Int) := of_decide_eq_true (by assumption)
 have hl_ : (ji36 : Int) ≤ (t275.length : Int) := of_decide_eq_true (by assumption)
 have hh_ : (a1 : Int) ≤ (t275.length : Int) := of_decide_eq_true (by assumption)
 have hb_ := (Kd.R_reads' HO277.out).2.2.2.1
 have h0_ : (0 : Int) ≤ (ji36 : Int) := of_decide_eq_true (by assumption)
 have hy1_ := KY65.out
 have hk_ : (ji36 : Int).toNat = y303.length + 1 := (by have hw_ : (ji36 : Int) = a1 + 1 := (by have h00_ := h0_; rw [← hji36] at h00_ ⊢; unfold wrap64 at h00_ ⊢; omega); rw [hw_]; omega)
 refine Kd.R_delete_step (Kd.int .i64) (w0 := w) w.heap.size (by rfl) (.tmp 56) (.tmp 61) 23 3 rfl Try.underlying23 (by kernel_rfl) (g := go68) (n := t275.length) (c := co54) (k := y303.length) rfl rfl ?hA ?hm HO277.out ?hk HB.out (below_size HB.out) ?_
 (case hA => have ha_ := KA66.out; rw [hk_] at ha_; exact ha_)
 (case hm => have ha_ := KY66.out; omega)
 (case hk => omega)
 intro w67 ho hb hg
 clear hj_ hl_ hh_ hb_ hk_ h0_
 rw [hy1_, ← Ny313.out] at ho
 clear hy1_
 have hn_ : t275.length - 1 = y313.length := (by have := (Kd.R_reads' ho).1; omega)
 rw [hn_] at ho ⊢
 clear hn_
 have n0_ := K_ (blk_grown BK267.out hg (Kd.R_ne HO277.out BK267.out (by decide)))
 have n1_ := K_ (blk_grown BK268.out hg (Kd.R_ne HO277.out BK268.out (by decide)))
 have n2_ := K_ (Kd.R_after (v := (.slice (some ⟨go68, 0, none⟩) t275.length co54)) (v1 := .slice (some ⟨go68, 0, none⟩) y313.length co54) (ok := (fun k_ => (w.heap.size ≤ k_))) HO271.out hg (.inl rfl))
 have n3_ := K_ (Kd.N_afterv (v := (.slice (some ⟨go68, 0, none⟩) t275.length co54)) (v1 := .slice (some ⟨go68, 0, none⟩) y313.length co54) (ok := (fun k_ => (w.heap.size ≤ k_) ∧ some k_ ≠ (.slice Ao49 t269.length co49 : Value).ownBlock ∧ k_ ≠ gb267 ∧ k_ ≠ gb268 ∧ k_ ≠ gb278)) (by exact Kd.N_mono HO274.out (fun _ hk => ⟨⟨hk.1, ⟨hk.2.1, ⟨hk.2.2.2.1, ⟨hk.2.2.2.2.1, hk.2.2.2.2.2⟩⟩⟩⟩, hk.2.2.1⟩)) hg (.inl rfl))
 have n4_ := K_ (ho)
 have n5_ := K_ (blk_grown BK278.out hg (Kd.R_ne HO277.out BK278.out (by decide)))
 have n6_ := K_ (Kd.V_afterv (v := (.slice (some ⟨go68, 0, none⟩) t275.length co54)) (v1 := .slice (some ⟨go68, 0, none⟩) y313.length co54) (ok := (fun k_ => (w.heap.size ≤ k_) ∧ some k_ ≠ (.slice Ao49 t269.length co49 : Value).ownBlock ∧ some k_ ≠ (.slice (some ⟨go61, 0, none⟩) y300.length co53 : Value).ownBlock ∧ k_ ≠ gb267 ∧ k_ ≠ gb268 ∧ k_ ≠ gb278)) (by exact Kd.V_mono HL279_1.out (fun _ hk => ⟨⟨hk.1, ⟨hk.2.1, ⟨hk.2.2.1, ⟨hk.2.2.2.2.1, ⟨hk.2.2.2.2.2.1, hk.2.2.2.2.2.2⟩⟩⟩⟩⟩, hk.2.2.2.1⟩)) hg (.inl rfl))
 have n7_ := K_ (hb)
 clear BK267
 clear BK268
 clear HO271
 clear HO274
 clear HO277
 clear BK278
 clear HL279_1
 clear HB
 have BK267 := n0_
 have BK268 := n1_
 have HO271 := n2_
 have HO274 := n3_
 have HO277 := n4_
 have BK278 := n5_
 have HL279_1 := n6_
 have HB := n7_
 clear n0_ n1_ n2_ n3_ n4_ n5_ n6_ n7_
 clear ho hb hg
 refine hK.out _ _ ⟨(blk_cell BK278.out 0).trans rfl, (blk_cell BK278.out 1).trans rfl, (blk_cell BK278.out 2).trans rfl⟩ (fun hHeld => ?_)
 clear hK K
 refine norm_ (a' := ?_) ?_ ?_
 rotate_left
 ·show Act.put _ (some 62) _ = _
  simp only [P_, i64_w, i32_w]
  rfl
 refine pure_ (i := 10) (N := some 63) (v := ?_) (a' := ?_) (M_ 12 2047) rfl rfl (any_of HT_.out (by kernel_rfl)) (fun _ _ _ h => h) (Or.inl ⟨by rfl, ?_⟩) ?_ ?_
 rotate_left
 ·intro w'
  go_simp
  with_reducible rfl
 rotate_left
 ·simp only [P_, i64_w, i32_w]
  rfl
 refine last_ (i := 11) (N := none) (M_ 12 4095) rfl rfl (one_of HT_.out (by kernel_rfl)) (by decide) (fun K hK => ?_)
 have hs69 : w67.cell? ⟨gb278, 2, none⟩ = some (.slice (some ⟨go68, 0, none⟩) t275.length co54) := (blk_cell BK278.out 2).trans rfl
 have hfs69 := blk_frozen BK278.out 2
 have hns69_0 := NB267_278.out
 have hns69_1 := NB268_278.out
 have hms69_0 := NB278_267.out
 have hms69_1 := NB278_268.out
 refine skip_ (w1 := ?_) (by rfl) rfl ?_ ?_
 rotate_left
 ·go_simp
  rfl
 refine hK.out _ _ ?_
 clear hK K
 refine done_ (done_of HT_.out (by kernel_rfl)) ?_
 obtain ⟨hcz70_0, hcz70_1, hcz70_2, hfz70_0, hfz70_1, hfz70_2⟩ := blkf3_ BK278.out
 obtain ⟨hcz71_0, hcz71_1, hcz71_2, hfz71_0, hfz71_1, hfz71_2⟩ := blkf3_ BK268.out
 try go_wp2
 refine bodyPost_ret (results_cell_row rfl _ _ gb268 26 #[.slice Ao49 t269.length co49, .slice (some ⟨go61, 0, none⟩) y300.length co53, .slice (some ⟨go68, 0, none⟩) y313.length co54] (0, 0) _ rfl (by refine blk_put (cs := #[.slice Ao49 t269.length co49, .slice (some ⟨go61, 0, none⟩) y300.length co53, .slice none 0 0]) ?_ 2 _ rfl; refine blk_put (cs := #[.slice Ao49 t269.length co49, .slice none 0 0, .slice none 0 0]) ?_ 1 _ rfl; refine blk_put (cs := #[.slice none 0 0, .slice none 0 0, .slice none 0 0]) ?_ 0 _ rfl; refine blk_far ?_ NB268_278.out _; exact BK268.out) Try.underlying26 rfl (by kernel_rfl)) rfl ?_
 exact ⟨_, _, _, rfl, by exact Kd.R_mono (Kd.R_far (p := ⟨gb268, 2, none⟩) (Kd.R_far (p := ⟨gb268, 1, none⟩) (Kd.R_far (p := ⟨gb268, 0, none⟩) (Kd.R_far (p := ⟨gb278, 2, none⟩) (Kd.R_types (Kd.R_types HO271.out BK278.out (by decide)) BK268.out (by decide)) (fun _ hk => hk.1.2) (.slice (some ⟨go68, 0, none⟩) y313.length co54)) (fun _ hk => hk.2) (.slice Ao49 t269.length co49)) (fun _ hk => hk.2) (.slice (some ⟨go61, 0, none⟩) y300.length co53)) (fun _ hk => hk.2) (.slice (some ⟨go68, 0, none⟩) y313.length co54)) (fun _ hk => ⟨hk.1.1.1, hk.1.1.2⟩), by exact Kd.N_mono (Kd.N_far (p := ⟨gb268, 2, none⟩) (Kd.N_far (p := ⟨gb268, 1, none⟩) (Kd.N_far (p := ⟨gb268, 0, none⟩) (Kd.N_far (p := ⟨gb278, 2, none⟩) (Kd.N_mono (Kd.N_mono HO274.out (fun k_ hk => (⟨hk, hk.1.2.2.2.2⟩ : _ ∧ k_ ≠ gb278))) (fun k_ hk => (⟨hk, hk.1.1.2.2.2.1⟩ : _ ∧ k_ ≠ gb268))) (fun _ hk => hk.1.2) (.slice (some ⟨go68, 0, none⟩) y313.length co54)) (fun _ hk => hk.2) (.slice Ao49 t269.length co49)) (fun _ hk => hk.2) (.slice (some ⟨go61, 0, none⟩) y300.length co53)) (fun _ hk => hk.2) (.slice (some ⟨go68, 0, none⟩) y313.length co54)) (fun _ hk => ⟨hk.1.1.1.1, ⟨hk.1.1.1.2.1, hk.1.1.2⟩⟩), by exact Kd.R_mono (Kd.R_far (p := ⟨gb268, 2, none⟩) (Kd.R_far (p := ⟨gb268, 1, none⟩) (Kd.R_far (p := ⟨gb268, 0, none⟩) (Kd.R_far (p := ⟨gb278, 2, none⟩) (Kd.R_types (Kd.R_types HO277.out BK278.out (by decide)) BK268.out (by decide)) (fun _ hk => hk.1.2) (.slice (some ⟨go68, 0, none⟩) y313.length co54)) (fun _ hk => hk.2) (.slice Ao49 t269.length co49)) (fun _ hk => hk.2) (.slice (some ⟨go61, 0, none⟩) y300.length co53)) (fun _ hk => hk.2) (.slice (some ⟨go68, 0, none⟩) y313.length co54)) (fun _ hk => ⟨hk.1.1.1, hk.1.1.2⟩), by repeat (first | exact HB.out | refine below_set ?_ GE267.out | refine below_set ?_ GE268.out | refine below_set ?_ GE278.out)⟩


/-! ### spec_l2weight: function 71 -/
def spec_l2weight.l0 : Nat → Int → List (S35) → Int → Int → Option (Int)
 | 0, _, _, _, _ => none
 | k + 1, x3, x7, x8, x9 => if x9 < x8 then (if 0 ≤ x9 then (if x9 < (x7.length : Int) then (spec_l2weight.l0 k (wrap64 (x3 + ((rd_T35 x7 x9).f2))) x7 x8 (wrap64 (x9 + 1))) else (none)) else (none)) else (some x3)
def spec_l2weight.f (k : Nat) (l0_0 : List Int) (l0_1 : List (S35)) (l0_2 : List Int) : Option (Int) := spec_l2weight.l0 k 0 l0_1 (l0_1.length : Int) 0
theorem spec_l2weight.mono_l : ∀ k, (∀ y0 y1 y2 y3, LeO (spec_l2weight.l0 k y0 y1 y2 y3) (spec_l2weight.l0 (k + 1) y0 y1 y2 y3))
 | 0 => fun _ _ _ _ r h => by simp [spec_l2weight.l0] at h
 | k + 1 => by
  have ih0 := spec_l2weight.mono_l k
  ·intro y0 y1 y2 y3
   unfold spec_l2weight.l0
   repeat' with_reducible first | exact ih0 _ _ _ _ | exact LeO.refl _ | exact LeO.none _ | refine LeO.ite ?_ ?_ | refine LeO.bind ?_ (fun _ => ?_)
theorem spec_l2weight.mono : ∀ a0 a1 a2 k, LeO (spec_l2weight.f k a0 a1 a2) (spec_l2weight.f (k + 1) a0 a1 a2) := by
 intro a0 a1 a2 k
 have ih0 := spec_l2weight.mono_l k
 unfold spec_l2weight.f
 repeat' with_reducible first | exact ih0 _ _ _ _ | exact LeO.refl _ | exact LeO.none _ | refine LeO.ite ?_ ?_ | refine LeO.bind ?_ (fun _ => ?_)
set_option maxHeartbeats 8000000 in
set_option maxRecDepth 100000 in
theorem spec_l2weight.calls (k : Nat) (A0_0 : Option Addr) (c0_0 : Nat) (l0_0 : List Int) (A0_1 : Option Addr) (c0_1 : Nat) (l0_1 : List (S35)) (A0_2 : Option Addr) (c0_2 : Nat) (l0_2 : List Int) (r : Int) (w : World) (hr0_0 : Kd.C (Kd.int .i64) w A0_0 l0_0.length l0_0) (hc0_0 : l0_0.length ≤ c0_0) (hr0_1 : Kd.C k35 w A0_1 l0_1.length l0_1) (hc0_1 : l0_1.length ≤ c0_1) (hr0_2 : Kd.C (Kd.int .i64) w A0_2 l0_2.length l0_2) (hc0_2 : l0_2.length ≤ c0_2) (h : spec_l2weight.f k l0_0 l0_1 l0_2 = some r) :
  Calls Try.prog 71 #[.agg #[.slice A0_0 l0_0.length c0_0, .slice A0_1 l0_1.length c0_1, .slice A0_2 l0_2.length c0_2]] w fun e w' => e = .returned (.int .i64 r) ∧ Below w.heap.size w w' := by
 have hu26 := Try.underlying26
 have hu35 := Try.underlying35
 have HR0_0 := K_ hr0_0
 have HC0_0 := K_ hc0_0
 clear hr0_0 hc0_0
 have HR0_1 := K_ hr0_1
 have HC0_1 := K_ hc0_1
 clear hr0_1 hc0_1
 have HR0_2 := K_ hr0_2
 have HC0_2 := K_ hc0_2
 clear hr0_2 hc0_2
 have HB := K_ (Below.refl w.heap.size w)
 unfold spec_l2weight.f at h
 have H := h
 clear h
 have H' := K_ H
 clear H
 go_enter Try.func71, Try.ntmps71
 go_wp2_with (first | ((with_reducible refine gate_dst (N := 1) rfl ?_); refine box_event ?hg (N := 1) ?hd (cs := #[.slice A0_0 l0_0.length c0_0, .slice A0_1 l0_1.length c0_1, .slice A0_2 l0_2.length c0_2]) (t := 26) ?hr ?_; (case hd => rfl); (case hg => rfl); (case hr => go_simp; try rfl); intro gb316 hg w2 hbox hb; have BK316 := K_ (hbox); have GW316 := ge_ hg HB.out; have GE316 := ge_ hg HB.out; replace HB := K_ (below_step HB.out hb); clear hb hbox hg; obtain ⟨hcz3_0, hcz3_1, hcz3_2, hfz3_0, hfz3_1, hfz3_2⟩ := blkf3_ BK316.out))
 go_loopg [3, 9] k (fun kq v3 v9 w' => ∃ (x3_1 : Int) (x9_1 : Int), v3 = .int .i64 x3_1 ∧ v9 = .int .i64 x9_1 ∧ Aside0 (spec_l2weight.l0 kq x3_1 l0_1 (l0_1.length : Int) x9_1 = some r) ∧ Aside0 (kq ≤ k) ∧ Aside0 (w'.heap[gb316]? = some (.cells #[(.slice A0_0 l0_0.length c0_0), (.slice A0_1 l0_1.length c0_1), (.slice A0_2 l0_2.length c0_2)] 26 (0, 0))) ∧ Aside0 (Below w.heap.size w w'))
 case atStart => exact ⟨(0), (0), rfl, rfl, H', ⟨Nat.le_refl _⟩, ⟨BK316.out⟩, ⟨HB.out⟩⟩
 case round =>
  clear H'
  clear hcz3_0 hcz3_1 hcz3_2 hfz3_0 hfz3_1 hfz3_2
  obtain ⟨x3_1, x9_1, rfl, rfl, HA, HK1, BK316, HB⟩ := hrel
  cases gk with
  | zero => exact absurd HA.out (by simp [spec_l2weight.l0])
  | succ k1 =>
   have H := HA.out
   clear HA
   simp only [spec_l2weight.l0] at H
   replace H := ds_ H
   rcases H with ⟨c4b0, H⟩ | ⟨c4b0, H⟩
   case inr =>
    obtain rfl := Option.some.inj H
    go_wp2
    go_ret
    exact ⟨rfl, HB.out⟩
   replace H := dn_ H
   obtain ⟨c5b0, H⟩ := H
   replace H := dn_ H
   obtain ⟨c6b0, H⟩ := H
   have H' := K_ H
   clear H
   have p317 : 0 ≤ (x9_1 : Int) := of_decide_eq_true (by assumption)
   have q317 : x9_1 < (l0_1.length : Int) := of_decide_eq_true (by assumption)
   obtain ⟨ad317, A317_1, c317_1, e317, hx317_0, hx317_1, hx317_2, hl317_1, hi317_1⟩ := at_T35 HR0_1.out x9_1 p317 q317
   cases e317
   replace hx317_0 := (HB.out.cell (World.block_lt_of_cell? w _ hx317_0)).trans hx317_0
   replace hx317_1 := (HB.out.cell (World.block_lt_of_cell? w _ hx317_1)).trans hx317_1
   replace hx317_2 := (HB.out.cell (World.block_lt_of_cell? w _ hx317_2)).trans hx317_2
   have HR317_1 := K_ hi317_1
   have HC317_1 := K_ hl317_1
   clear hi317_1 hl317_1
   replace p317 := eq_true p317
   replace q317 := eq_true q317
   go_wp2_with (first | ((with_reducible refine gate_dst (N := 5) rfl ?_); refine box_event ?hg (N := 5) ?hd (cs := #[.int .i64 0, .slice none 0 0, .int .i64 0]) (t := 35) ?hr ?_; (case hd => rfl); (case hg => rfl); (case hr => go_simp; try rfl); intro gb318 hg w7 hbox hb; have BK318 := K_ (hbox); have GW318 := ge_ hg HB.out; have GE318 := ge_ hg HB.out; have NB316_318 := nl_ hg BK316.out; have NB318_316 := ng_ hg BK316.out; replace BK316 := K_ (blk_below BK316.out hb); replace HB := K_ (below_step HB.out hb); clear hb hbox hg; have hnb8 := NB318_316.out; have hnc8 := NB316_318.out; obtain ⟨hcz9_0, hcz9_1, hcz9_2, hfz9_0, hfz9_1, hfz9_2⟩ := blkf3_ BK318.out))
   go_roundg k1
   case measure => have := HK1.out; omega
   case rel => exact ⟨(wrap64 (x3_1 + ((rd_T35 l0_1 x9_1).f2))), (wrap64 (x9_1 + 1)), rfl, rfl, H', ⟨by have := HK1.out; omega⟩, ⟨by refine blk_far ?_ NB316_318.out _; refine blk_far ?_ NB316_318.out _; refine blk_far ?_ NB316_318.out _; exact BK316.out⟩, ⟨by repeat (first | exact HB.out | refine below_set ?_ GE316.out | refine below_set ?_ GE318.out)⟩⟩


end Go.Proofs.Ytpbclogjoangfaa.Q
