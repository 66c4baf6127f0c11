-- Written by programs of this session (wip/drv.py, wip/mkclaim.py) over the kit's print; not trusted: Lean checks it.
import Derived.Test.YtpbclogjoangfaaFnNeverQ0
import Derived.Test.YtpbclogjoangfaaFnNeverQ6
namespace Go.Proofs.Ytpbclogjoangfaa.Q
open Go.RowKit Go.Proofs.YtpbclogjoangfaaW.PrintWords Go.Proofs.YtpbclogjoangfaaW.PrintLast Go.Proofs.YtpbclogjoangfaaW.PrintMore
attribute [local go_sem] max2_int min2_int max_two min_two max_three min_three max_four min_four   -- for this text's walks alone
set_option linter.unusedVariables false
set_option linter.unusedSimpArgs false

/-! ### impl_step: function 62 -/
def impl_step.f (k : Nat) (l0_0 : List Int) (l0_1 : List (S35)) (l0_2 : List Int) (a1 : Int) : Option (List Int × (List (S35)) × List Int) := (impl_copyState.f k l0_0 l0_1 l0_2).bind fun bt379 => (if 0 ≤ a1 then (if a1 < (bt379.2.1.length : Int) then (if (((rd_T35 bt379.2.1 a1).f1).length : Int) = 0 then (if a1 ≤ (bt379.2.1.length : Int) then (if 0 ≤ (wrap64 (a1 + 1)) then (if (wrap64 (a1 + 1)) ≤ (bt379.2.1.length : Int) then (if a1 ≤ (bt379.2.2.length : Int) then (if (wrap64 (a1 + 1)) ≤ (bt379.2.2.length : Int) then (some (bt379.1, (bt379.2.1.eraseIdx (a1 : Int).toNat), (bt379.2.2.eraseIdx (a1 : Int).toNat))) else (none)) else (none)) else (none)) else (none)) else (none)) else (if 0 < (((rd_T35 bt379.2.1 a1).f1).length : Int) then ((some (bt379.2.1.set (a1 : Int).toNat (⟨rd ((rd_T35 bt379.2.1 a1).f1) 0, (rd_T35 bt379.2.1 a1).f1, (rd_T35 bt379.2.1 a1).f2⟩ : S35) : List (S35))).bind fun y418 => (if 1 ≤ (((rd_T35 y418 a1).f1).length : Int) then ((some (((rd_T35 y418 a1).f1).drop 1 : List Int)).bind fun y420 => (if ([] : List Int).length + y420.length < 17592186044416 then (some (bt379.1, (y418.set (a1 : Int).toNat (⟨(rd_T35 y418 a1).f0, (([] : List Int) ++ y420), (rd_T35 y418 a1).f2⟩ : S35)), bt379.2.2)) else (none))) else (none))) else (none))) else (none)) else (none))
theorem impl_step.mono : ∀ a0 a1 a2 a3 k, LeO (impl_step.f k a0 a1 a2 a3) (impl_step.f (k + 1) a0 a1 a2 a3) := by
 intro a0 a1 a2 a3 k
 unfold impl_step.f
 repeat' with_reducible first | exact impl_copyState.mono _ _ _ _ | exact LeO.refl _ | exact LeO.none _ | refine LeO.ite ?_ ?_ | refine LeO.bind ?_ (fun _ => ?_)
def impl_step.T3 : Bool × List (List Nat × List Nat) := (true, [([], []), ([0], [0]), ([], []), ([1, 2], [1, 2]), ([], []), ([4], [4]), ([], []), ([6], [6]), ([5, 7], [5, 7]), ([3, 8], [3, 8]), ([0, 1, 2, 3, 4, 5, 6, 7, 8, 9], []), ([10, 9, 9, 0, 1, 2, 3, 4, 5, 6, 7, 8, 9], [9, 10])])
def impl_step.B3 : List Nat := [0, 1, 0, 7, 0, 16, 0, 64, 240, 511, 1023, 2047]
theorem impl_step.tab3 : rtab .any (opsOf Try.f62 3) = impl_step.T3 := by kernel_rfl
theorem impl_step.bits3 : waitsOk impl_step.T3.2 impl_step.B3 = true := by kernel_rfl
def impl_step.T4 : Bool × List (List Nat × List Nat) := (true, [([], []), ([0], [0]), ([], []), ([1, 2], [1, 2]), ([], []), ([4], [4]), ([], []), ([6], [6]), ([5, 7], [5, 7]), ([3, 8], [3, 8]), ([0, 1, 2, 3, 4, 5, 6, 7, 8, 9], []), ([10, 9, 9, 0, 1, 2, 3, 4, 5, 6, 7, 8, 9], [9, 10])])
def impl_step.B4 : List Nat := [0, 1, 0, 7, 0, 16, 0, 64, 240, 511, 1023, 2047]
theorem impl_step.tab4 : rtab .any (opsOf Try.f62 4) = impl_step.T4 := by kernel_rfl
theorem impl_step.bits4 : waitsOk impl_step.T4.2 impl_step.B4 = true := by kernel_rfl
def impl_step.T6 : Bool × List (List Nat × List Nat) := (true, [([], []), ([0], [0]), ([], []), ([], []), ([3], [3]), ([], []), ([4, 5], [4, 5]), ([6], [6]), ([7], [7]), ([8], [8]), ([9], [9]), ([1, 2, 0, 1, 2, 3, 4, 5, 6, 7, 8, 9, 10], [1, 2]), ([11, 0, 1, 2, 3, 4, 5, 6, 7, 8, 9, 10], [11]), ([12, 10, 0, 1, 2, 3, 4, 5, 6, 7, 8, 9, 10], [10, 12])])
def impl_step.B6 : List Nat := [0, 1, 0, 0, 8, 0, 56, 120, 248, 504, 1016, 2047, 4095, 8191]
theorem impl_step.tab6 : rtab .any (opsOf Try.f62 6) = impl_step.T6 := by kernel_rfl
theorem impl_step.bits6 : waitsOk impl_step.T6.2 impl_step.B6 = true := by kernel_rfl
def impl_step.T7 : Bool × List (List Nat × List Nat) := (true, [([], []), ([0], [0]), ([], []), ([], []), ([3], [3]), ([], []), ([4, 5], [4, 5]), ([6], [6]), ([7], [7]), ([8], [8]), ([9], [9]), ([1, 2, 0, 1, 2, 3, 4, 5, 6, 7, 8, 9, 10], [1, 2]), ([11, 0, 1, 2, 3, 4, 5, 6, 7, 8, 9, 10], [11]), ([12, 10, 10, 0, 1, 2, 3, 4, 5, 6, 7, 8, 9, 10], [10, 12])])
def impl_step.B7 : List Nat := [0, 1, 0, 0, 8, 0, 56, 120, 248, 504, 1016, 2047, 4095, 8191]
theorem impl_step.tab7 : rtab .any (opsOf Try.f62 7) = impl_step.T7 := by kernel_rfl
theorem impl_step.bits7 : waitsOk impl_step.T7.2 impl_step.B7 = true := by kernel_rfl
set_option maxHeartbeats 8000000 in
set_option maxRecDepth 100000 in
theorem impl_step.calls (k : Nat) (A0_0 : Option Addr) (c0_0 : Nat) (l0_0 : List Int) (A0_1 : Option Addr) (c0_1 : Nat) (l0_1 : List (S35)) (A0_2 : Option Addr) (c0_2 : Nat) (l0_2 : List Int) (a1 : Int) (r1 : List Int) (r2 : List (S35)) (r3 : List Int) (w : World) (hr0_0 : Kd.C (Kd.int .i64) w A0_0 l0_0.length l0_0) (hc0_0 : l0_0.length ≤ c0_0) (hr0_1 : Kd.C k35 w A0_1 l0_1.length l0_1) (hc0_1 : l0_1.length ≤ c0_1) (hr0_2 : Kd.C (Kd.int .i64) w A0_2 l0_2.length l0_2) (hc0_2 : l0_2.length ≤ c0_2) (h : impl_step.f k l0_0 l0_1 l0_2 a1 = some (r1, r2, r3)) :
  Calls Try.prog 62 #[.agg #[.slice A0_0 l0_0.length c0_0, .slice A0_1 l0_1.length c0_1, .slice A0_2 l0_2.length c0_2], .int .i64 a1] w fun e w' => ∃ v0_ v1_ v2_ : Value, e = .returned (.agg #[v0_, v1_, v2_]) ∧ Kd.R (Kd.int .i64) 3 w' w.heap.size (fun k_ => (w.heap.size ≤ k_) ∧ some k_ ≠ (v2_ : Value).ownBlock) v0_ r1 ∧ Kd.N k35 35 w' w.heap.size (fun k_ => (w.heap.size ≤ k_) ∧ some k_ ≠ (v0_ : Value).ownBlock ∧ some k_ ≠ (v2_ : Value).ownBlock) v1_ r2 ∧ Kd.R (Kd.int .i64) 3 w' w.heap.size (fun k_ => (w.heap.size ≤ k_) ∧ some k_ ≠ (v0_ : Value).ownBlock) v2_ r3 ∧ Below w.heap.size w w' := by
 have hu26 := Try.underlying26
 have HR0_0 := K_ hr0_0
 have HC0_0 := K_ hc0_0
 clear hr0_0 hc0_0
 have HR0_1 := K_ hr0_1
 have HC0_1 := K_ hc0_1
 clear hr0_1 hc0_1
 have HR0_2 := K_ hr0_2
 have HC0_2 := K_ hc0_2
 clear hr0_2 hc0_2
 have HB := K_ (Below.refl w.heap.size w)
 unfold impl_step.f at h
 have H := h
 clear h
 replace H := Option.bind_eq_some_iff.mp H
 obtain ⟨⟨t379, t382, t385⟩, A30, H⟩ := H
 try dsimp only at H
 have A3 := K_ A30
 clear A30
 replace H := dn_ H
 obtain ⟨c4b0, H⟩ := H
 replace H := dn_ H
 obtain ⟨c5b0, H⟩ := H
 by_cases c6 : (((rd_T35 t382 a1).f1).length : Int) = 0
 case pos =>
  rw [if_pos c6] at H
  have c6b0 := beq_iff_eq.mpr c6
  have c6b1 := bne_eq_false_iff_eq.mpr c6
  clear c6
  have c7b0 := eq_true (of_decide_eq_true (by assumption) : 0 ≤ a1)
  replace H := pn_ H
  obtain ⟨c8, H⟩ := H
  have c8b0 := eq_true c8
  have c8b1 := decide_eq_true c8
  clear c8
  obtain ⟨y390, hy390⟩ : ∃ y_ : List (S35), y_ = (t382.take (a1 : Int).toNat) := ⟨_, rfl⟩
  replace H : (if 0 ≤ (wrap64 (a1 + 1)) then (if (wrap64 (a1 + 1)) ≤ (t382.length : Int) then (if a1 ≤ (t385.length : Int) then (if (wrap64 (a1 + 1)) ≤ (t385.length : Int) then (some (t379, (t382.eraseIdx (a1 : Int).toNat), (t385.eraseIdx (a1 : Int).toNat))) else (none)) else (none)) else (none)) else (none)) = some (r1, r2, r3) := by first | (rw [hy390]; with_reducible exact H) | (have H2_ := (Option.bind_some _ _).symm.trans H; rw [hy390]; with_reducible exact H2_) | (have H2_ := (Option.bind_some _ _).symm.trans H; with_reducible exact H2_) | with_reducible exact H | (rw [hy390]; exact H) | exact H
  have Ny390 := K_ hy390
  clear hy390
  obtain ⟨ji9, hji9⟩ : ∃ j_ : Int, (wrap64 (a1 + 1)) = j_ := ⟨_, rfl⟩
  replace H : (if 0 ≤ (ji9) then (if (ji9) ≤ (t382.length : Int) then (if a1 ≤ (t385.length : Int) then (if (ji9) ≤ (t385.length : Int) then (some (t379, (t382.eraseIdx (a1 : Int).toNat), (t385.eraseIdx (a1 : Int).toNat))) else (none)) else (none)) else (none)) else (none)) = some (r1, r2, r3) := by first | (rw [hji9] at H; exact H) | (simp only [hji9] at H ⊢; exact H)
  (try rw [hji9] at A3)
  have hji9w : (IntKind.i64.wrap (a1 + 1)) = ji9 := (i64_w _).trans hji9
  replace H := pn_ H
  obtain ⟨c10, H⟩ := H
  have c10b0 := eq_true c10
  have c10b1 := decide_eq_true c10
  clear c10
  replace H := pn_ H
  obtain ⟨c11, H⟩ := H
  have c11b0 := eq_true c11
  have c11b1 := decide_eq_true c11
  clear c11
  obtain ⟨y395, hy395⟩ : ∃ y_ : List (S35), y_ = (t382.drop ((ji9) : Int).toNat) := ⟨_, rfl⟩
  replace H : (if a1 ≤ (t385.length : Int) then (if (ji9) ≤ (t385.length : Int) then (some (t379, (t382.eraseIdx (a1 : Int).toNat), (t385.eraseIdx (a1 : Int).toNat))) else (none)) else (none)) = some (r1, r2, r3) := by first | (rw [hy395]; with_reducible exact H) | (have H2_ := (Option.bind_some _ _).symm.trans H; rw [hy395]; with_reducible exact H2_) | (have H2_ := (Option.bind_some _ _).symm.trans H; with_reducible exact H2_) | with_reducible exact H | (rw [hy395]; exact H) | exact H
  have Ny395 := K_ hy395
  clear hy395
  obtain ⟨y400, hy400⟩ : ∃ y_ : List (S35), y_ = (t382.eraseIdx (a1 : Int).toNat) := ⟨_, rfl⟩
  rw [← hy400] at H
  have Ny400 := K_ hy400
  clear hy400
  have c12b0 := eq_true (of_decide_eq_true (by assumption) : 0 ≤ a1)
  replace H := pn_ H
  obtain ⟨c13, H⟩ := H
  have c13b0 := eq_true c13
  have c13b1 := decide_eq_true c13
  clear c13
  obtain ⟨y403, hy403⟩ : ∃ y_ : List Int, y_ = (t385.take (a1 : Int).toNat) := ⟨_, rfl⟩
  replace H : (if (ji9) ≤ (t385.length : Int) then (some (t379, y400, (t385.eraseIdx (a1 : Int).toNat))) else (none)) = some (r1, r2, r3) := by first | (rw [hy403]; with_reducible exact H) | (have H2_ := (Option.bind_some _ _).symm.trans H; rw [hy403]; with_reducible exact H2_) | (have H2_ := (Option.bind_some _ _).symm.trans H; with_reducible exact H2_) | with_reducible exact H | (rw [hy403]; exact H) | exact H
  have Ny403 := K_ hy403
  clear hy403
  have c14b0 := eq_true (of_decide_eq_true (by assumption) : 0 ≤ (ji9))
  replace H := pn_ H
  obtain ⟨c15, H⟩ := H
  have c15b0 := eq_true c15
  have c15b1 := decide_eq_true c15
  clear c15
  obtain ⟨y408, hy408⟩ : ∃ y_ : List Int, y_ = (t385.drop ((ji9) : Int).toNat) := ⟨_, rfl⟩
  replace H : (some (t379, y400, (t385.eraseIdx (a1 : Int).toNat))) = some (r1, r2, r3) := by first | (rw [hy408]; with_reducible exact H) | (have H2_ := (Option.bind_some _ _).symm.trans H; rw [hy408]; with_reducible exact H2_) | (have H2_ := (Option.bind_some _ _).symm.trans H; with_reducible exact H2_) | with_reducible exact H | (rw [hy408]; exact H) | exact H
  have Ny408 := K_ hy408
  clear hy408
  obtain ⟨y413, hy413⟩ : ∃ y_ : List Int, y_ = (t385.eraseIdx (a1 : Int).toNat) := ⟨_, rfl⟩
  rw [← hy413] at H
  have Ny413 := K_ hy413
  clear hy413
  simp only [Option.some.injEq, Prod.mk.injEq] at H
  obtain ⟨rfl, rfl, rfl⟩ := H
  go_enter Try.func62, Try.ntmps62
  try go_wp2_with (first | ((with_reducible refine gate_dst (N := 2) rfl ?_); refine box_event ?hg (N := 2) ?hd (cs := #[.slice A0_0 l0_0.length c0_0, .slice A0_1 l0_1.length c0_1, .slice A0_2 l0_2.length c0_2]) (t := 26) ?hr ?_; (case hd => rfl); (case hg => rfl); (case hr => go_simp; try rfl); intro gb377 hg w16 hbox hb; have BK377 := K_ (hbox); have GW377 := ge_ hg HB.out; have GE377 := ge_ hg HB.out; replace HB := K_ (below_step HB.out hb); clear hb hbox hg) | ((with_reducible refine gate_dst (N := 4) rfl ?_); refine box_event ?hg (N := 4) ?hd (cs := #[.slice none 0 0, .slice none 0 0, .slice none 0 0]) (t := 26) ?hr ?_; (case hd => rfl); (case hg => rfl); (case hr => go_simp; try rfl); intro gb378 hg w17 hbox hb; have BK378 := K_ (hbox); have GW378 := ge_ hg HB.out; have GE378 := ge_ hg HB.out; have NB377_378 := nl_ hg BK377.out; have NB378_377 := ng_ hg BK377.out; replace BK377 := K_ (blk_below BK377.out hb); replace HB := K_ (below_step HB.out hb); clear hb hbox hg; have hnb18 := NB377_378.out; have hnc18 := NB378_377.out; obtain ⟨hcz19_0, hcz19_1, hcz19_2, hfz19_0, hfz19_1, hfz19_2⟩ := blkf3_ BK377.out) | ((with_reducible refine gate_callee (f := 63) rfl ?_); refine goesL_ (some 7) rfl rfl Try.func63 (by kernel_rfl) rfl #[.agg #[.slice A0_0 l0_0.length c0_0, .slice A0_1 l0_1.length c0_1, .slice A0_2 l0_2.length c0_2]] rfl (by simp only [List.map_toArray, List.map_cons, List.map_nil]; try rfl) ?_; (with_reducible refine (impl_copyState.calls k _ _ l0_0 _ _ l0_1 _ _ l0_2 t379 t382 t385 _ ?side1 ?side2 ?side3 ?side4 ?side5 ?side6 A3.out).mono ?_); (case side1 => exact (Kd.C_below HR0_0.out HB.out)); (case side2 => exact HC0_0.out); (case side3 => exact (Kd.C_below HR0_1.out HB.out)); (case side4 => exact HC0_1.out); (case side5 => exact (Kd.C_below HR0_2.out HB.out)); (case side6 => exact HC0_2.out); rintro e w20 ⟨v380, v383, v386, rfl, ho0, ho1, ho2, hb⟩; refine ⟨_, rfl, ?_⟩; have HO381 := K_ (Kd.R_lower (Kd.R_newM (M := fun k_ => (w.heap.size ≤ k_)) ho0 (below_size HB.out) (fun k_ h_ => h_)) (below_size HB.out)); have HO384 := K_ (Kd.N_lower (Kd.N_mono (ok' := fun k_ => (w.heap.size ≤ k_) ∧ some k_ ≠ (v380 : Value).ownBlock ∧ some k_ ≠ (v386 : Value).ownBlock ∧ k_ ≠ gb377 ∧ k_ ≠ gb378) (Kd.S_N (Kd.S_bound ho1)) (fun k_ hk_ => ⟨(Nat.le_trans (below_size HB.out) hk_.2.1), hk_.1.1, hk_.1.2, (Kd.freshB BK377.out k_ hk_.2.1), (Kd.freshB BK378.out k_ hk_.2.1)⟩)) (below_size HB.out)); have HO387 := K_ (Kd.R_lower (Kd.R_newM (M := fun k_ => (w.heap.size ≤ k_)) ho2 (below_size HB.out) (fun k_ h_ => h_)) (below_size HB.out)); replace BK377 := K_ (blk_below BK377.out hb); replace BK378 := K_ (blk_below BK378.out hb); replace HB := K_ (below_step HB.out hb); clear hb ho0 ho1 ho2) | ((with_reducible refine gate_dst (N := 5) rfl ?_); refine box_event ?hg (N := 5) ?hd (cs := #[.slice none 0 0, .slice none 0 0, .slice none 0 0]) (t := 26) ?hr ?_; (case hd => rfl); (case hg => rfl); (case hr => go_simp; try rfl); intro gb388 hg w21 hbox hb; have BK388 := K_ (hbox); have GW388 := ge_ hg HB.out; have GE388 := ge_ hg HB.out; have NB377_388 := nl_ hg BK377.out; have NB388_377 := ng_ hg BK377.out; have NB378_388 := nl_ hg BK378.out; have NB388_378 := ng_ hg BK378.out; replace HO381 := K_ (Kd.R_below HO381.out hb); replace HO384 := K_ (Kd.N_below (Kd.N_elderB HO384.out gb388 (Nat.le_of_eq hg.symm)) hb); replace HO387 := K_ (Kd.R_below HO387.out hb); replace BK377 := K_ (blk_below BK377.out hb); replace BK378 := K_ (blk_below BK378.out hb); replace HB := K_ (below_step HB.out hb); clear hb hbox hg; obtain ⟨Ao22, co22, eo22⟩ := Kd.R_slice HO381.out; subst eo22; have hnb23 := NB388_377.out; have hnc23 := NB377_388.out; have hnb24 := NB388_378.out; have hnc24 := NB378_388.out; obtain ⟨hcz25_0, hcz25_1, hcz25_2, hfz25_0, hfz25_1, hfz25_2⟩ := blkf3_ BK388.out; obtain ⟨Ao26, co26, eo26⟩ := Kd.N_slice HO384.out; subst eo26; obtain ⟨Ao27, co27, eo27⟩ := Kd.R_slice HO387.out; subst eo27) | ((with_reducible refine gate_store (t := 26) (p := 5) rfl ?_); refine store_event (t := 26) (p := 5) (v := ?vo_w28) (w1 := (((w21.setCell ⟨gb388, 0, none⟩ (.slice Ao22 t379.length co22)).setCell ⟨gb388, 1, none⟩ (.slice Ao26 t382.length co26)).setCell ⟨gb388, 2, none⟩ (.slice Ao27 t385.length co27))) ?hg ?ho ?hn ?hr ?_; (case ho => rfl); (case hg => rfl); (case hn => rfl); (case hr => go_simp; try rfl); intro w28 hw; have n0_ : Aside0 (Kd.R (Kd.int .i64) 3 w28 w.heap.size (fun k_ => (w.heap.size ≤ k_) ∧ some k_ ≠ (.slice Ao27 t385.length co27 : Value).ownBlock) (.slice Ao22 t379.length co22) t379) := ⟨(by rw [hw]; exact (by exact Kd.R_mono (Kd.R_far (p := ⟨gb388, 2, none⟩) (Kd.R_far (p := ⟨gb388, 1, none⟩) (Kd.R_far (p := ⟨gb388, 0, none⟩) (Kd.R_types HO381.out BK388.out (by decide)) (fun _ hk => hk.2) (.slice Ao22 t379.length co22)) (fun _ hk => hk.2) (.slice Ao26 t382.length co26)) (fun _ hk => hk.2) (.slice Ao27 t385.length co27)) (fun _ hk => ⟨hk.1.1, hk.1.2⟩)))⟩; have n1_ : Aside0 (Kd.N k35 35 w28 w.heap.size (fun k_ => (w.heap.size ≤ k_) ∧ some k_ ≠ (.slice Ao22 t379.length co22 : Value).ownBlock ∧ some k_ ≠ (.slice Ao27 t385.length co27 : Value).ownBlock ∧ k_ ≠ gb377 ∧ k_ ≠ gb378 ∧ k_ ≠ gb388) (.slice Ao26 t382.length co26) t382) := ⟨(by rw [hw]; exact (by exact Kd.N_mono (Kd.N_far (p := ⟨gb388, 2, none⟩) (Kd.N_far (p := ⟨gb388, 1, none⟩) (Kd.N_far (p := ⟨gb388, 0, none⟩) (Kd.N_mono HO384.out (fun k_ hk => (⟨hk, hk.2⟩ : _ ∧ k_ ≠ gb388))) (fun _ hk => hk.2) (.slice Ao22 t379.length co22)) (fun _ hk => hk.2) (.slice Ao26 t382.length co26)) (fun _ hk => hk.2) (.slice Ao27 t385.length co27)) (fun _ hk => ⟨hk.1.1.1, ⟨hk.1.1.2.1, ⟨hk.1.1.2.2.1, ⟨hk.1.1.2.2.2.1, ⟨hk.1.1.2.2.2.2, hk.1.2⟩⟩⟩⟩⟩)))⟩; have n2_ : Aside0 (Kd.R (Kd.int .i64) 3 w28 w.heap.size (fun k_ => (w.heap.size ≤ k_) ∧ some k_ ≠ (.slice Ao22 t379.length co22 : Value).ownBlock) (.slice Ao27 t385.length co27) t385) := ⟨(by rw [hw]; exact (by exact Kd.R_mono (Kd.R_far (p := ⟨gb388, 2, none⟩) (Kd.R_far (p := ⟨gb388, 1, none⟩) (Kd.R_far (p := ⟨gb388, 0, none⟩) (Kd.R_types HO387.out BK388.out (by decide)) (fun _ hk => hk.2) (.slice Ao22 t379.length co22)) (fun _ hk => hk.2) (.slice Ao26 t382.length co26)) (fun _ hk => hk.2) (.slice Ao27 t385.length co27)) (fun _ hk => ⟨hk.1.1, hk.1.2⟩)))⟩; have n3_ : Aside0 (w28.heap[gb377]? = some (.cells #[.slice A0_0 l0_0.length c0_0, .slice A0_1 l0_1.length c0_1, .slice A0_2 l0_2.length c0_2] 26 (0, 0))) := ⟨(by rw [hw]; exact (by refine blk_far ?_ NB377_388.out _; refine blk_far ?_ NB377_388.out _; refine blk_far ?_ NB377_388.out _; exact BK377.out))⟩; have n4_ : Aside0 (w28.heap[gb378]? = some (.cells #[.slice none 0 0, .slice none 0 0, .slice none 0 0] 26 (0, 0))) := ⟨(by rw [hw]; exact (by refine blk_far ?_ NB378_388.out _; refine blk_far ?_ NB378_388.out _; refine blk_far ?_ NB378_388.out _; exact BK378.out))⟩; have n5_ : Aside0 (w28.heap[gb388]? = some (.cells #[.slice Ao22 t379.length co22, .slice Ao26 t382.length co26, .slice Ao27 t385.length co27] 26 (0, 0))) := ⟨(by rw [hw]; exact (by refine blk_put (cs := #[.slice Ao22 t379.length co22, .slice Ao26 t382.length co26, .slice none 0 0]) ?_ 2 _ rfl; refine blk_put (cs := #[.slice Ao22 t379.length co22, .slice none 0 0, .slice none 0 0]) ?_ 1 _ rfl; refine blk_put (cs := #[.slice none 0 0, .slice none 0 0, .slice none 0 0]) ?_ 0 _ rfl; exact BK388.out))⟩; have n6_ : Aside0 (Below w.heap.size w w28) := ⟨(by rw [hw]; exact (by repeat (first | exact HB.out | refine below_set ?_ GE377.out | refine below_set ?_ GE378.out | refine below_set ?_ GE388.out)))⟩; clear hw; clear HO381; clear HO384; clear HO387; clear BK377; clear BK378; clear BK388; clear HB; have HO381 := n0_; have HO384 := n1_; have HO387 := n2_; have BK377 := n3_; have BK378 := n4_; have BK388 := n5_; have HB := n6_; clear n0_ n1_ n2_ n3_ n4_ n5_ n6_; obtain ⟨hcz29_0, hcz29_1, hcz29_2, hfz29_0, hfz29_1, hfz29_2⟩ := blkf3_ BK388.out; have p389 : 0 ≤ (a1 : Int) := of_decide_eq_true (by assumption); have q389 : a1 < (t382.length : Int) := of_decide_eq_true (by assumption); obtain ⟨ad389, A389_1, c389_1, e389, hx389_0, hx389_1, hx389_2, hl389_1, hi389_1⟩ := at_T35 (Kd.N_reads' HO384.out).2.2 a1 p389 q389; cases e389; obtain ⟨ce389, hce389, hMe389, hcc389⟩ := Kd.N_get HO384.out z35 a1 p389 (by first | exact q389 | exact of_decide_eq_true (by assumption) | (have e_ := (Kd.N_reads' HO384.out).1; omega)); obtain ⟨ua389_1, uc389_1, rfl, ul389_1, ge389_1⟩ := k35_openF hMe389; have hv389_1 := hcc389 1 _ rfl; rw [add_field _ _ 1 (by omega)] at hv389_1; replace hv389_1 := Option.some.inj (hv389_1.symm.trans hx389_1); injection hv389_1 with hva_ hvn_ hvc_; rw [hva_] at ge389_1; rw [hvc_] at ul389_1; have HL389_1 := K_ (show Kd.V (Kd.int .i64) 3 _ w.heap.size _ _ ((rd_T35 t382 a1).f1) from Kd.V_mk ul389_1 ge389_1); clear hva_ hvn_ hvc_ ge389_1 ul389_1; clear hcc389 hce389; have HR389_1 := K_ hi389_1; have HC389_1 := K_ hl389_1; clear hi389_1 hl389_1; replace p389 := eq_true p389; replace q389 := eq_true q389))
  have n0_ := K_ (Kd.R_drew HO381.out)
  have n1_ := K_ (Kd.N_drew HO384.out)
  have n2_ := K_ (Kd.R_drew HO387.out)
  have n3_ := K_ (Kd.V_drew HL389_1.out)
  have n4_ := K_ (blk_drew BK377.out)
  have n5_ := K_ (blk_drew BK378.out)
  have n6_ := K_ (blk_drew BK388.out)
  have n7_ := K_ (Kd.C_drew HR389_1.out)
  have n8_ := K_ (below_drew1 HB.out)
  clear HO381
  clear HO384
  clear HO387
  clear HL389_1
  clear BK377
  clear BK378
  clear BK388
  clear HR389_1
  clear HB
  have HO381 := n0_
  have HO384 := n1_
  have HO387 := n2_
  have HL389_1 := n3_
  have BK377 := n4_
  have BK378 := n5_
  have BK388 := n6_
  have HR389_1 := n7_
  have HB := n8_
  clear n0_ n1_ n2_ n3_ n4_ n5_ n6_ n7_ n8_
  have q31 : (a1 : Int) ≤ ((t382.length : Int) : Int) := of_decide_eq_true (by assumption)
  obtain ⟨i031, hi031, _, hsz31, _⟩ := info_parts info35
  have hroom31 : t382.length ≤ co26 := (Kd.N_reads' HO384.out).2.1
  have hC31 : Kd.F k35 _ _ (some ad389) t382.length t382 := (Kd.V_at (base := w.heap.size) (Kd.N_V HO384.out)).2.2
  have hcut31 := cut_to (P := Try.prog) 24 35 .i64 Try.underlying24 hi031 (some ad389) t382.length co26 a1 (of_decide_eq_true (by assumption)) q31 hroom31
  have hr31 := Kd.F_take (m := (a1 : Int).toNat) hC31 (by omega)
  have hy31 : y390.length = (a1 : Int).toNat := (by rw [Ny390.out, List.length_take]; omega)
  rw [← Ny390.out] at hr31
  rw [← hy31] at hcut31
  have HO394 := K_ (show Kd.V k35 35 _ w.heap.size _ (.slice (some ad389) y390.length co26) y390 from Kd.V_mk (by omega) hr31)
  have HC394 := K_ (show y390.length ≤ co26 from by omega)
  clear hr31 hC31 hroom31 hi031 hsz31
  have KY31 := K_ hy31
  clear hy31
  replace q31 := eq_true q31
  have q32 : ((ji9) : Int) ≤ ((t382.length : Int) : Int) := of_decide_eq_true (by assumption)
  obtain ⟨i032, hi032, _, hsz32, _⟩ := info_parts info35
  have hroom32 : t382.length ≤ co26 := (Kd.N_reads' HO384.out).2.1
  have hC32 : Kd.F k35 _ _ (some ad389) t382.length t382 := (Kd.V_at (base := w.heap.size) (Kd.N_V HO384.out)).2.2
  have q032 : (0 : Int) ≤ ((ji9) : Int) := of_decide_eq_true (by assumption)
  have hcut32 := cut_from (P := Try.prog) 24 35 .i64 Try.underlying24 hi032 3 hsz32 (some ad389) t382.length co26 (ji9) q032 q32
  have hr32 := Kd.F_cut (m := ((ji9) : Int).toNat) (c := co26) hC32 (by omega) hroom32
  obtain ⟨A32, hA32⟩ : ∃ A1, A1 = (if co26 = ((ji9) : Int).toNat then (some ad389) else ((some ad389) : Option Addr).map (·.add (((ji9) : Int).toNat * 3))) := ⟨_, rfl⟩
  obtain ⟨c32, hc32⟩ : ∃ c1, c1 = co26 - ((ji9) : Int).toNat := ⟨_, rfl⟩
  have hy32 : y395.length = t382.length - ((ji9) : Int).toNat := (by rw [Ny395.out, List.length_drop] <;> omega)
  rw [show (t382).drop ((ji9) : Int).toNat = y395 from Ny395.out.symm] at hr32
  replace hr32 : Kd.F k35 _ _ A32 y395.length y395 := (by rw [hA32]; exact hr32)
  rw [← hy32, ← hA32, ← hc32] at hcut32
  have HO399 := K_ (show Kd.V k35 35 _ w.heap.size _ (.slice A32 y395.length c32) y395 from Kd.V_mk (by rw [hy32, hc32]; exact Nat.sub_le_sub_right hroom32 _) hr32)
  have HC399 := K_ (show y395.length ≤ c32 from by rw [hy32, hc32]; exact Nat.sub_le_sub_right hroom32 _)
  clear hr32 hC32 hroom32 hi032 hsz32 hc32
  have KY32 := K_ hy32
  have KA32 := K_ hA32
  clear hy32 hA32
  replace q32 := eq_true q32
  obtain ⟨go34, co34, eo34, gb34, gl34, cl34, HG34⟩ := Kd.N_form HO384.out (by have hj_ : 0 ≤ (a1 : Int) := of_decide_eq_true (by assumption); have hl_ : (ji9 : Int) ≤ (t382.length : Int) := of_decide_eq_true (by assumption); have hh_ : (a1 : Int) ≤ (t382.length : Int) := of_decide_eq_true (by assumption); rw [← hji9] at hl_; unfold wrap64 at hl_; omega)
  (first | cases eo34 | (injection eo34 with ea_ en_ ec_; (first | subst ea_ | (injection ea_ with ea_; subst ea_)); subst ec_; clear en_))
  have GB34 := K_ gb34
  have GG34 := K_ HG34
  clear gb34 gl34 HG34
  (first | simp only [add_plain] at hx389_0 | skip)
  (first | simp only [add_plain] at hx389_1 | skip)
  (first | simp only [add_plain] at hx389_2 | skip)
  refine start_ (n := 12) (S := fun w' => w'.cell? ⟨gb388, 0, none⟩ = some (.slice Ao22 t379.length co22) ∧ w'.cell? ⟨gb388, 1, none⟩ = some (.slice (some ⟨go34, 0, none⟩) t382.length co26) ∧ w'.cell? ⟨gb388, 2, none⟩ = some (.slice Ao27 t385.length co27)) (ds := [11]) #[ff, ff, ff, ff, ff, ff, ff, ff, ff, ff, ff, ff] (by kernel_rfl) rfl rfl ⟨(blk_cell BK388.out 0).trans rfl, (blk_cell BK388.out 1).trans rfl, (blk_cell BK388.out 2).trans rfl⟩ (fun hHeld => ?_); refine with_tabW impl_step.tab3 impl_step.bits3 (fun HT_ HW_ => ?_)
  generalize w28.drew = w30 at HO381 HO384 HO387 HL389_1 BK377 BK378 BK388 HR389_1 HB GG34 HO394 HO399 hx389_0 hx389_1 hx389_2 hHeld ⊢
  refine pure_ (i := 0) (N := some 16) (v := ?_) (a' := ?_) (M_ 12 1) rfl rfl (any_of HT_.out (by kernel_rfl)) (fun _ _ _ h => h) (Or.inl ⟨by rfl, ?_⟩) ?_ ?_
  rotate_left
  ·intro w'
   go_simp
   with_reducible rfl
  rotate_left
  ·simp only [P_, i64_w, i32_w]
   rfl
  refine pure_ (i := 2) (N := some 18) (v := ?_) (a' := ?_) (M_ 12 5) rfl rfl (any_of HT_.out (by kernel_rfl)) (fun _ _ _ h => h) (Or.inl ⟨by rfl, ?_⟩) ?_ ?_
  rotate_left
  ·intro w'
   go_simp
   with_reducible rfl
  rotate_left
  ·simp only [P_, i64_w, i32_w]
   rfl
  refine pure_ (i := 4) (N := some 20) (v := ?_) (a' := ?_) (M_ 12 21) rfl rfl (any_of HT_.out (by kernel_rfl)) (fun _ _ _ h => h) (Or.inl ⟨by rfl, ?_⟩) ?_ ?_
  rotate_left
  ·intro w'
   go_simp
   with_reducible rfl
  rotate_left
  ·simp only [P_, i64_w, i32_w]
   rfl
  refine pure_ (i := 6) (N := some 22) (v := ?_) (a' := ?_) (M_ 12 85) rfl rfl (any_of HT_.out (by kernel_rfl)) (fun _ _ _ h => h) (Or.inl ⟨by rfl, ?_⟩) ?_ ?_
  rotate_left
  ·intro w'
   go_simp
   with_reducible rfl
  rotate_left
  ·simp only [P_, i64_w, i32_w]
   rfl
  refine pure_ (i := 7) (N := some 23) (v := ?_) (a' := ?_) (M_ 12 213) rfl rfl (any_of HT_.out (by kernel_rfl)) (fun _ _ _ h => h) (Or.inl ⟨by rfl, ?_⟩) ?_ ?_
  rotate_left
  ·intro w'
   go_simp
   with_reducible rfl
  rotate_left
  ·simp only [P_, i64_w, i32_w]
   rfl
  refine take_ (i := 1) (N := some 17) (v := ?_) (a' := ?_) (M_ 12 215) rfl rfl (take_ofW HT_.out HW_.out (by kernel_rfl)) (fun _ _ _ h => h) (Or.inl ⟨by rfl, ?_⟩) hHeld ?_ ?_
  rotate_left
  ·rintro w' ⟨s0, s1, s2⟩
   go_simp
   with_reducible rfl
  rotate_left
  ·simp only [P_, i64_w, i32_w]
   rfl
  refine pure_ (i := 3) (N := some 19) (v := ?_) (a' := ?_) (M_ 12 223) rfl rfl (any_of HT_.out (by kernel_rfl)) (fun _ _ _ h => h) (Or.inl ⟨by rfl, ?_⟩) ?_ ?_
  rotate_left
  ·intro w'
   go_simp
   with_reducible rfl
  rotate_left
  ·simp only [P_, i64_w, i32_w]
   rfl
  refine take_ (i := 5) (N := some 21) (v := ?_) (a' := ?_) (M_ 12 255) rfl rfl (take_ofW HT_.out HW_.out (by kernel_rfl)) (fun _ _ _ h => h) (Or.inl ⟨by rfl, ?_⟩) hHeld ?_ ?_
  rotate_left
  ·rintro w' ⟨s0, s1, s2⟩
   go_simp
   with_reducible rfl
  rotate_left
  ·simp only [P_, i64_w, i32_w]
   rfl
  refine pure_ (i := 8) (N := some 24) (v := ?_) (a' := ?_) (M_ 12 511) rfl rfl (any_of HT_.out (by kernel_rfl)) (fun _ _ _ h => h) (Or.inl ⟨by rfl, ?_⟩) ?_ ?_
  rotate_left
  ·intro w'
   go_simp
   with_reducible rfl
  rotate_left
  ·simp only [P_, i64_w, i32_w]
   rfl
  refine one_ (i := 9) (N := some 25) (M_ 12 1023) rfl rfl (one_of HT_.out (by kernel_rfl)) (by decide) (fun K hK => ?_)
  have hj_ : 0 ≤ (a1 : Int) := of_decide_eq_true (by assumption)
  have hl_ : (ji9 : Int) ≤ (t382.length : Int) := of_decide_eq_true (by assumption)
  have hh_ : (a1 : Int) ≤ (t382.length : Int) := of_decide_eq_true (by assumption)
  have hb_ := (Kd.N_reads' HO384.out).2.2.2.1
  have h0_ : (0 : Int) ≤ (ji9 : Int) := of_decide_eq_true (by assumption)
  have hy1_ := KY31.out
  have hk_ : (ji9 : Int).toNat = y390.length + 1 := (by have hw_ : (ji9 : Int) = a1 + 1 := (by have h00_ := h0_; rw [← hji9] at h00_ ⊢; unfold wrap64 at h00_ ⊢; omega); rw [hw_]; omega)
  refine Kd.N_delete_step k35 (w0 := w) w.heap.size (by rfl) (.tmp 19) (.tmp 24) 24 35 rfl Try.underlying24 (by kernel_rfl) (g := go34) (n := t382.length) (c := co26) (k := y390.length) rfl rfl ?hA ?hm HO384.out ?hk HB.out (below_size HB.out) ?_
  (case hA => have ha_ := KA32.out; rw [hk_] at ha_; exact ha_)
  (case hm => have ha_ := KY32.out; omega)
  (case hk => omega)
  intro w33 ho hb hg
  clear hj_ hl_ hh_ hb_ hk_ h0_
  rw [hy1_, ← Ny400.out] at ho
  clear hy1_
  have hn_ : t382.length - 1 = y400.length := (by have := (Kd.N_reads' ho).1; omega)
  rw [hn_] at ho ⊢
  clear hn_
  have n0_ := K_ (blk_grown BK377.out hg (Kd.N_ne HO384.out BK377.out (by decide)))
  have n1_ := K_ (blk_grown BK378.out hg (Kd.N_ne HO384.out BK378.out (by decide)))
  have n2_ := K_ (Kd.R_over' (v := (.slice (some ⟨go34, 0, none⟩) t382.length co26)) HO381.out (Kd.N_typed HO384.out) (by decide) hg)
  have n3_ := K_ (ho)
  have n4_ := K_ (Kd.R_over' (v := (.slice (some ⟨go34, 0, none⟩) t382.length co26)) HO387.out (Kd.N_typed HO384.out) (by decide) hg)
  have n5_ := K_ (blk_grown BK388.out hg (Kd.N_ne HO384.out BK388.out (by decide)))
  have n6_ := K_ (Kd.V_afterv (v := (.slice (some ⟨go34, 0, none⟩) t382.length co26)) (v1 := .slice (some ⟨go34, 0, none⟩) y400.length co26) (ok := (fun k_ => (w.heap.size ≤ k_) ∧ some k_ ≠ (.slice Ao22 t379.length co22 : Value).ownBlock ∧ some k_ ≠ (.slice Ao27 t385.length co27 : Value).ownBlock ∧ k_ ≠ gb377 ∧ k_ ≠ gb378 ∧ k_ ≠ gb388)) HL389_1.out hg (.inl rfl))
  have n7_ := K_ (hb)
  clear BK377
  clear BK378
  clear HO381
  clear HO384
  clear HO387
  clear BK388
  clear HL389_1
  clear HB
  have BK377 := n0_
  have BK378 := n1_
  have HO381 := n2_
  have HO384 := n3_
  have HO387 := n4_
  have BK388 := n5_
  have HL389_1 := n6_
  have HB := n7_
  clear n0_ n1_ n2_ n3_ n4_ n5_ n6_ n7_
  clear ho hb hg
  refine hK.out _ _ ⟨(blk_cell BK388.out 0).trans rfl, (blk_cell BK388.out 1).trans rfl, (blk_cell BK388.out 2).trans rfl⟩ (fun hHeld => ?_)
  clear hK K
  refine norm_ (a' := ?_) ?_ ?_
  rotate_left
  ·show Act.put _ (some 25) _ = _
   simp only [P_, i64_w, i32_w]
   rfl
  refine pure_ (i := 10) (N := some 26) (v := ?_) (a' := ?_) (M_ 12 2047) rfl rfl (any_of HT_.out (by kernel_rfl)) (fun _ _ _ h => h) (Or.inl ⟨by rfl, ?_⟩) ?_ ?_
  rotate_left
  ·intro w'
   go_simp
   with_reducible rfl
  rotate_left
  ·simp only [P_, i64_w, i32_w]
   rfl
  refine last_ (i := 11) (N := none) (M_ 12 4095) rfl rfl (one_of HT_.out (by kernel_rfl)) (by decide) (fun K hK => ?_)
  have hs35 : w33.cell? ⟨gb388, 1, none⟩ = some (.slice (some ⟨go34, 0, none⟩) t382.length co26) := (blk_cell BK388.out 1).trans rfl
  have hfs35 := blk_frozen BK388.out 1
  have hns35_0 := NB377_388.out
  have hns35_1 := NB378_388.out
  have hms35_0 := NB388_377.out
  have hms35_1 := NB388_378.out
  refine skip_ (w1 := ?_) (by rfl) rfl ?_ ?_
  rotate_left
  ·go_simp
   rfl
  refine hK.out _ _ ?_
  clear hK K
  refine done_ (done_of HT_.out (by kernel_rfl)) ?_
  try go_wp2
  have n0_ : Aside0 (Kd.R (Kd.int .i64) 3 (w33.setCell ⟨gb388, 1, none⟩ (.slice (some ⟨go34, 0, none⟩) y400.length co26)) w.heap.size (fun k_ => (w.heap.size ≤ k_) ∧ some k_ ≠ (.slice Ao27 t385.length co27 : Value).ownBlock) (.slice Ao22 t379.length co22) t379) := ⟨by exact Kd.R_mono (Kd.R_far (p := ⟨gb388, 1, none⟩) (Kd.R_types HO381.out BK388.out (by decide)) (fun _ hk => hk.2) (.slice (some ⟨go34, 0, none⟩) y400.length co26)) (fun _ hk => ⟨hk.1.1, hk.1.2⟩)⟩
  have n1_ : Aside0 (Kd.N k35 35 (w33.setCell ⟨gb388, 1, none⟩ (.slice (some ⟨go34, 0, none⟩) y400.length co26)) w.heap.size (fun k_ => (w.heap.size ≤ k_) ∧ some k_ ≠ (.slice Ao22 t379.length co22 : Value).ownBlock ∧ some k_ ≠ (.slice Ao27 t385.length co27 : Value).ownBlock ∧ k_ ≠ gb377 ∧ k_ ≠ gb378 ∧ k_ ≠ gb388) (.slice (some ⟨go34, 0, none⟩) y400.length co26) y400) := ⟨by exact Kd.N_mono (Kd.N_far (p := ⟨gb388, 1, none⟩) (Kd.N_mono HO384.out (fun k_ hk => (⟨hk, hk.2.2.2.2.2⟩ : _ ∧ k_ ≠ gb388))) (fun _ hk => hk.2) (.slice (some ⟨go34, 0, none⟩) y400.length co26)) (fun _ hk => ⟨hk.1.1, ⟨hk.1.2.1, ⟨hk.1.2.2.1, ⟨hk.1.2.2.2.1, ⟨hk.1.2.2.2.2.1, hk.1.2.2.2.2.2⟩⟩⟩⟩⟩)⟩
  have n2_ : Aside0 (Kd.R (Kd.int .i64) 3 (w33.setCell ⟨gb388, 1, none⟩ (.slice (some ⟨go34, 0, none⟩) y400.length co26)) w.heap.size (fun k_ => (w.heap.size ≤ k_) ∧ some k_ ≠ (.slice Ao22 t379.length co22 : Value).ownBlock) (.slice Ao27 t385.length co27) t385) := ⟨by exact Kd.R_mono (Kd.R_far (p := ⟨gb388, 1, none⟩) (Kd.R_types HO387.out BK388.out (by decide)) (fun _ hk => hk.2) (.slice (some ⟨go34, 0, none⟩) y400.length co26)) (fun _ hk => ⟨hk.1.1, hk.1.2⟩)⟩
  have n3_ : Aside0 (Kd.V (Kd.int .i64) 3 (w33.setCell ⟨gb388, 1, none⟩ (.slice (some ⟨go34, 0, none⟩) y400.length co26)) w.heap.size (fun k_ => (w.heap.size ≤ k_) ∧ some k_ ≠ (.slice Ao22 t379.length co22 : Value).ownBlock ∧ some k_ ≠ (.slice (some ⟨go34, 0, none⟩) y400.length co26 : Value).ownBlock ∧ some k_ ≠ (.slice Ao27 t385.length co27 : Value).ownBlock ∧ k_ ≠ gb377 ∧ k_ ≠ gb378 ∧ k_ ≠ gb388) (.slice A389_1 ((rd_T35 t382 a1).f1).length c389_1) ((rd_T35 t382 a1).f1)) := ⟨by exact Kd.V_mono (Kd.V_far (p := ⟨gb388, 1, none⟩) (Kd.V_mono HL389_1.out (fun k_ hk => (⟨hk, hk.1.2.2.2.2.2⟩ : _ ∧ k_ ≠ gb388))) (fun _ hk => hk.2) (.slice (some ⟨go34, 0, none⟩) y400.length co26)) (fun _ hk => ⟨hk.1.1.1, ⟨hk.1.1.2.1, ⟨hk.1.2, ⟨hk.1.1.2.2.1, ⟨hk.1.1.2.2.2.1, ⟨hk.1.1.2.2.2.2.1, hk.1.1.2.2.2.2.2⟩⟩⟩⟩⟩⟩)⟩
  have n4_ : Aside0 ((w33.setCell ⟨gb388, 1, none⟩ (.slice (some ⟨go34, 0, none⟩) y400.length co26)).heap[gb377]? = some (.cells #[.slice A0_0 l0_0.length c0_0, .slice A0_1 l0_1.length c0_1, .slice A0_2 l0_2.length c0_2] 26 (0, 0))) := ⟨by refine blk_far ?_ NB377_388.out _; exact BK377.out⟩
  have n5_ : Aside0 ((w33.setCell ⟨gb388, 1, none⟩ (.slice (some ⟨go34, 0, none⟩) y400.length co26)).heap[gb378]? = some (.cells #[.slice none 0 0, .slice none 0 0, .slice none 0 0] 26 (0, 0))) := ⟨by refine blk_far ?_ NB378_388.out _; exact BK378.out⟩
  have n6_ : Aside0 ((w33.setCell ⟨gb388, 1, none⟩ (.slice (some ⟨go34, 0, none⟩) y400.length co26)).heap[gb388]? = some (.cells #[.slice Ao22 t379.length co22, .slice (some ⟨go34, 0, none⟩) y400.length co26, .slice Ao27 t385.length co27] 26 (0, 0))) := ⟨by refine blk_put (cs := #[.slice Ao22 t379.length co22, .slice (some ⟨go34, 0, none⟩) t382.length co26, .slice Ao27 t385.length co27]) ?_ 1 _ rfl; exact BK388.out⟩
  have n7_ : Aside0 (Below w.heap.size w (w33.setCell ⟨gb388, 1, none⟩ (.slice (some ⟨go34, 0, none⟩) y400.length co26))) := ⟨by repeat (first | exact HB.out | refine below_set ?_ GE377.out | refine below_set ?_ GE378.out | refine below_set ?_ GE388.out)⟩
  clear HO381
  clear HO384
  clear HO387
  clear HL389_1
  clear BK377
  clear BK378
  clear BK388
  clear HB
  generalize (w33.setCell ⟨gb388, 1, none⟩ (.slice (some ⟨go34, 0, none⟩) y400.length co26)) = w36 at n0_ n1_ n2_ n3_ n4_ n5_ n6_ n7_ ⊢
  have HO381 := n0_
  have HO384 := n1_
  have HO387 := n2_
  have HL389_1 := n3_
  have BK377 := n4_
  have BK378 := n5_
  have BK388 := n6_
  have HB := n7_
  clear n0_ n1_ n2_ n3_ n4_ n5_ n6_ n7_
  have n0_ := K_ (Kd.R_drew HO381.out)
  have n1_ := K_ (Kd.N_drew HO384.out)
  have n2_ := K_ (Kd.R_drew HO387.out)
  have n3_ := K_ (Kd.V_drew HL389_1.out)
  have n4_ := K_ (blk_drew BK377.out)
  have n5_ := K_ (blk_drew BK378.out)
  have n6_ := K_ (blk_drew BK388.out)
  have n7_ := K_ (below_drew1 HB.out)
  clear HO381
  clear HO384
  clear HO387
  clear HL389_1
  clear BK377
  clear BK378
  clear BK388
  clear HB
  have HO381 := n0_
  have HO384 := n1_
  have HO387 := n2_
  have HL389_1 := n3_
  have BK377 := n4_
  have BK378 := n5_
  have BK388 := n6_
  have HB := n7_
  clear n0_ n1_ n2_ n3_ n4_ n5_ n6_ n7_
  have q38 : (a1 : Int) ≤ ((t385.length : Int) : Int) := of_decide_eq_true (by assumption)
  obtain ⟨i038, hi038, _, hsz38, _⟩ := info_parts info3
  have hroom38 : t385.length ≤ co27 := (Kd.R_reads' HO387.out).2.1
  have hC38 : Kd.F (Kd.int .i64) _ _ Ao27 t385.length t385 := (Kd.V_at (base := w.heap.size) (Kd.R_V (Kd.R_types (Kd.R_types (Kd.R_types (Kd.R_apart' (HO387.out) (Kd.N_typed HO384.out) (by decide)) BK377.out (by decide)) BK378.out (by decide)) BK388.out (by decide)))).2.2
  have hcut38 := cut_to (P := Try.prog) 23 3 .i64 Try.underlying23 hi038 Ao27 t385.length co27 a1 (of_decide_eq_true (by assumption)) q38 hroom38
  have hr38 := Kd.F_take (m := (a1 : Int).toNat) hC38 (by omega)
  have hy38 : y403.length = (a1 : Int).toNat := (by rw [Ny403.out, List.length_take]; omega)
  rw [← Ny403.out] at hr38
  rw [← hy38] at hcut38
  have HO407 := K_ (show Kd.V (Kd.int .i64) 3 _ w.heap.size _ (.slice Ao27 y403.length co27) y403 from Kd.V_mk (by omega) hr38)
  have HC407 := K_ (show y403.length ≤ co27 from by omega)
  clear hr38 hC38 hroom38 hi038 hsz38
  have KY38 := K_ hy38
  clear hy38
  replace q38 := eq_true q38
  have q39 : ((ji9) : Int) ≤ ((t385.length : Int) : Int) := of_decide_eq_true (by assumption)
  obtain ⟨i039, hi039, _, hsz39, _⟩ := info_parts info3
  have hroom39 : t385.length ≤ co27 := (Kd.R_reads' HO387.out).2.1
  have hC39 : Kd.F (Kd.int .i64) _ _ Ao27 t385.length t385 := (Kd.V_at (base := w.heap.size) (Kd.R_V (Kd.R_types (Kd.R_types (Kd.R_types (Kd.R_apart' (HO387.out) (Kd.N_typed HO384.out) (by decide)) BK377.out (by decide)) BK378.out (by decide)) BK388.out (by decide)))).2.2
  have q039 : (0 : Int) ≤ ((ji9) : Int) := of_decide_eq_true (by assumption)
  have hcut39 := cut_from (P := Try.prog) 23 3 .i64 Try.underlying23 hi039 1 hsz39 Ao27 t385.length co27 (ji9) q039 q39
  have hr39 := Kd.F_cut (m := ((ji9) : Int).toNat) (c := co27) hC39 (by omega) hroom39
  obtain ⟨A39, hA39⟩ : ∃ A1, A1 = (if co27 = ((ji9) : Int).toNat then Ao27 else (Ao27 : Option Addr).map (·.add (((ji9) : Int).toNat * 1))) := ⟨_, rfl⟩
  obtain ⟨c39, hc39⟩ : ∃ c1, c1 = co27 - ((ji9) : Int).toNat := ⟨_, rfl⟩
  have hy39 : y408.length = t385.length - ((ji9) : Int).toNat := (by rw [Ny408.out, List.length_drop] <;> omega)
  rw [show (t385).drop ((ji9) : Int).toNat = y408 from Ny408.out.symm] at hr39
  replace hr39 : Kd.F (Kd.int .i64) _ _ A39 y408.length y408 := (by rw [hA39]; exact hr39)
  rw [← hy39, ← hA39, ← hc39] at hcut39
  have HO412 := K_ (show Kd.V (Kd.int .i64) 3 _ w.heap.size _ (.slice A39 y408.length c39) y408 from Kd.V_mk (by rw [hy39, hc39]; exact Nat.sub_le_sub_right hroom39 _) hr39)
  have HC412 := K_ (show y408.length ≤ c39 from by rw [hy39, hc39]; exact Nat.sub_le_sub_right hroom39 _)
  clear hr39 hC39 hroom39 hi039 hsz39 hc39
  have KY39 := K_ hy39
  have KA39 := K_ hA39
  clear hy39 hA39
  replace q39 := eq_true q39
  obtain ⟨go41, co41, eo41, gb41, gl41, cl41, HG41⟩ := Kd.R_form HO387.out (by have hj_ : 0 ≤ (a1 : Int) := of_decide_eq_true (by assumption); have hl_ : (ji9 : Int) ≤ (t385.length : Int) := of_decide_eq_true (by assumption); have hh_ : (a1 : Int) ≤ (t385.length : Int) := of_decide_eq_true (by assumption); rw [← hji9] at hl_; unfold wrap64 at hl_; omega)
  (first | cases eo41 | (injection eo41 with ea_ en_ ec_; (first | subst ea_ | (injection ea_ with ea_; subst ea_)); subst ec_; clear en_))
  have GB41 := K_ gb41
  have GG41 := K_ HG41
  clear gb41 gl41 HG41
  refine start_ (n := 12) (S := fun w' => w'.cell? ⟨gb388, 0, none⟩ = some (.slice Ao22 t379.length co22) ∧ w'.cell? ⟨gb388, 1, none⟩ = some (.slice (some ⟨go34, 0, none⟩) y400.length co26) ∧ w'.cell? ⟨gb388, 2, none⟩ = some (.slice (some ⟨go41, 0, none⟩) t385.length co27)) (ds := [11]) #[ff, ff, ff, ff, ff, ff, ff, ff, ff, ff, ff, ff] (by kernel_rfl) rfl rfl ⟨(blk_cell BK388.out 0).trans rfl, (blk_cell BK388.out 1).trans rfl, (blk_cell BK388.out 2).trans rfl⟩ (fun hHeld => ?_); refine with_tabW impl_step.tab4 impl_step.bits4 (fun HT_ HW_ => ?_)
  generalize w36.drew = w37 at HO381 HO384 HO387 HL389_1 BK377 BK378 BK388 HB GG41 HO407 HO412 hHeld ⊢
  refine pure_ (i := 0) (N := some 27) (v := ?_) (a' := ?_) (M_ 12 1) rfl rfl (any_of HT_.out (by kernel_rfl)) (fun _ _ _ h => h) (Or.inl ⟨by rfl, ?_⟩) ?_ ?_
  rotate_left
  ·intro w'
   go_simp
   with_reducible rfl
  rotate_left
  ·simp only [P_, i64_w, i32_w]
   rfl
  refine pure_ (i := 2) (N := some 29) (v := ?_) (a' := ?_) (M_ 12 5) rfl rfl (any_of HT_.out (by kernel_rfl)) (fun _ _ _ h => h) (Or.inl ⟨by rfl, ?_⟩) ?_ ?_
  rotate_left
  ·intro w'
   go_simp
   with_reducible rfl
  rotate_left
  ·simp only [P_, i64_w, i32_w]
   rfl
  refine pure_ (i := 4) (N := some 31) (v := ?_) (a' := ?_) (M_ 12 21) rfl rfl (any_of HT_.out (by kernel_rfl)) (fun _ _ _ h => h) (Or.inl ⟨by rfl, ?_⟩) ?_ ?_
  rotate_left
  ·intro w'
   go_simp
   with_reducible rfl
  rotate_left
  ·simp only [P_, i64_w, i32_w]
   rfl
  refine pure_ (i := 6) (N := some 33) (v := ?_) (a' := ?_) (M_ 12 85) rfl rfl (any_of HT_.out (by kernel_rfl)) (fun _ _ _ h => h) (Or.inl ⟨by rfl, ?_⟩) ?_ ?_
  rotate_left
  ·intro w'
   go_simp
   with_reducible rfl
  rotate_left
  ·simp only [P_, i64_w, i32_w]
   rfl
  refine pure_ (i := 7) (N := some 34) (v := ?_) (a' := ?_) (M_ 12 213) rfl rfl (any_of HT_.out (by kernel_rfl)) (fun _ _ _ h => h) (Or.inl ⟨by rfl, ?_⟩) ?_ ?_
  rotate_left
  ·intro w'
   go_simp
   with_reducible rfl
  rotate_left
  ·simp only [P_, i64_w, i32_w]
   rfl
  refine take_ (i := 1) (N := some 28) (v := ?_) (a' := ?_) (M_ 12 215) rfl rfl (take_ofW HT_.out HW_.out (by kernel_rfl)) (fun _ _ _ h => h) (Or.inl ⟨by rfl, ?_⟩) hHeld ?_ ?_
  rotate_left
  ·rintro w' ⟨s0, s1, s2⟩
   go_simp
   with_reducible rfl
  rotate_left
  ·simp only [P_, i64_w, i32_w]
   rfl
  refine pure_ (i := 3) (N := some 30) (v := ?_) (a' := ?_) (M_ 12 223) rfl rfl (any_of HT_.out (by kernel_rfl)) (fun _ _ _ h => h) (Or.inl ⟨by rfl, ?_⟩) ?_ ?_
  rotate_left
  ·intro w'
   go_simp
   with_reducible rfl
  rotate_left
  ·simp only [P_, i64_w, i32_w]
   rfl
  refine take_ (i := 5) (N := some 32) (v := ?_) (a' := ?_) (M_ 12 255) rfl rfl (take_ofW HT_.out HW_.out (by kernel_rfl)) (fun _ _ _ h => h) (Or.inl ⟨by rfl, ?_⟩) hHeld ?_ ?_
  rotate_left
  ·rintro w' ⟨s0, s1, s2⟩
   go_simp
   with_reducible rfl
  rotate_left
  ·simp only [P_, i64_w, i32_w]
   rfl
  refine pure_ (i := 8) (N := some 35) (v := ?_) (a' := ?_) (M_ 12 511) rfl rfl (any_of HT_.out (by kernel_rfl)) (fun _ _ _ h => h) (Or.inl ⟨by rfl, ?_⟩) ?_ ?_
  rotate_left
  ·intro w'
   go_simp
   with_reducible rfl
  rotate_left
  ·simp only [P_, i64_w, i32_w]
   rfl
  refine one_ (i := 9) (N := some 36) (M_ 12 1023) rfl rfl (one_of HT_.out (by kernel_rfl)) (by decide) (fun K hK => ?_)
  have hj_ : 0 ≤ (a1 : Int) := of_decide_eq_true (by assumption)
  have hl_ : (ji9 : Int) ≤ (t385.length : Int) := of_decide_eq_true (by assumption)
  have hh_ : (a1 : Int) ≤ (t385.length : Int) := of_decide_eq_true (by assumption)
  have hb_ := (Kd.R_reads' HO387.out).2.2.2.1
  have h0_ : (0 : Int) ≤ (ji9 : Int) := of_decide_eq_true (by assumption)
  have hy1_ := KY38.out
  have hk_ : (ji9 : Int).toNat = y403.length + 1 := (by have hw_ : (ji9 : Int) = a1 + 1 := (by have h00_ := h0_; rw [← hji9] at h00_ ⊢; unfold wrap64 at h00_ ⊢; omega); rw [hw_]; omega)
  refine Kd.R_delete_step (Kd.int .i64) (w0 := w) w.heap.size (by rfl) (.tmp 30) (.tmp 35) 23 3 rfl Try.underlying23 (by kernel_rfl) (g := go41) (n := t385.length) (c := co27) (k := y403.length) rfl rfl ?hA ?hm HO387.out ?hk HB.out (below_size HB.out) ?_
  (case hA => have ha_ := KA39.out; rw [hk_] at ha_; exact ha_)
  (case hm => have ha_ := KY39.out; omega)
  (case hk => omega)
  intro w40 ho hb hg
  clear hj_ hl_ hh_ hb_ hk_ h0_
  rw [hy1_, ← Ny413.out] at ho
  clear hy1_
  have hn_ : t385.length - 1 = y413.length := (by have := (Kd.R_reads' ho).1; omega)
  rw [hn_] at ho ⊢
  clear hn_
  have n0_ := K_ (blk_grown BK377.out hg (Kd.R_ne HO387.out BK377.out (by decide)))
  have n1_ := K_ (blk_grown BK378.out hg (Kd.R_ne HO387.out BK378.out (by decide)))
  have n2_ := K_ (Kd.R_after (v := (.slice (some ⟨go41, 0, none⟩) t385.length co27)) (v1 := .slice (some ⟨go41, 0, none⟩) y413.length co27) (ok := (fun k_ => (w.heap.size ≤ k_))) HO381.out hg (.inl rfl))
  have n3_ := K_ (Kd.N_afterv (v := (.slice (some ⟨go41, 0, none⟩) t385.length co27)) (v1 := .slice (some ⟨go41, 0, none⟩) y413.length co27) (ok := (fun k_ => (w.heap.size ≤ k_) ∧ some k_ ≠ (.slice Ao22 t379.length co22 : Value).ownBlock ∧ k_ ≠ gb377 ∧ k_ ≠ gb378 ∧ k_ ≠ gb388)) (by exact Kd.N_mono HO384.out (fun _ hk => ⟨⟨hk.1, ⟨hk.2.1, ⟨hk.2.2.2.1, ⟨hk.2.2.2.2.1, hk.2.2.2.2.2⟩⟩⟩⟩, hk.2.2.1⟩)) hg (.inl rfl))
  have n4_ := K_ (ho)
  have n5_ := K_ (blk_grown BK388.out hg (Kd.R_ne HO387.out BK388.out (by decide)))
  have n6_ := K_ (Kd.V_afterv (v := (.slice (some ⟨go41, 0, none⟩) t385.length co27)) (v1 := .slice (some ⟨go41, 0, none⟩) y413.length co27) (ok := (fun k_ => (w.heap.size ≤ k_) ∧ some k_ ≠ (.slice Ao22 t379.length co22 : Value).ownBlock ∧ some k_ ≠ (.slice (some ⟨go34, 0, none⟩) y400.length co26 : Value).ownBlock ∧ k_ ≠ gb377 ∧ k_ ≠ gb378 ∧ k_ ≠ gb388)) (by exact Kd.V_mono HL389_1.out (fun _ hk => ⟨⟨hk.1, ⟨hk.2.1, ⟨hk.2.2.1, ⟨hk.2.2.2.2.1, ⟨hk.2.2.2.2.2.1, hk.2.2.2.2.2.2⟩⟩⟩⟩⟩, hk.2.2.2.1⟩)) hg (.inl rfl))
  have n7_ := K_ (hb)
  clear BK377
  clear BK378
  clear HO381
  clear HO384
  clear HO387
  clear BK388
  clear HL389_1
  clear HB
  have BK377 := n0_
  have BK378 := n1_
  have HO381 := n2_
  have HO384 := n3_
  have HO387 := n4_
  have BK388 := n5_
  have HL389_1 := n6_
  have HB := n7_
  clear n0_ n1_ n2_ n3_ n4_ n5_ n6_ n7_
  clear ho hb hg
  refine hK.out _ _ ⟨(blk_cell BK388.out 0).trans rfl, (blk_cell BK388.out 1).trans rfl, (blk_cell BK388.out 2).trans rfl⟩ (fun hHeld => ?_)
  clear hK K
  refine norm_ (a' := ?_) ?_ ?_
  rotate_left
  ·show Act.put _ (some 36) _ = _
   simp only [P_, i64_w, i32_w]
   rfl
  refine pure_ (i := 10) (N := some 37) (v := ?_) (a' := ?_) (M_ 12 2047) rfl rfl (any_of HT_.out (by kernel_rfl)) (fun _ _ _ h => h) (Or.inl ⟨by rfl, ?_⟩) ?_ ?_
  rotate_left
  ·intro w'
   go_simp
   with_reducible rfl
  rotate_left
  ·simp only [P_, i64_w, i32_w]
   rfl
  refine last_ (i := 11) (N := none) (M_ 12 4095) rfl rfl (one_of HT_.out (by kernel_rfl)) (by decide) (fun K hK => ?_)
  have hs42 : w40.cell? ⟨gb388, 2, none⟩ = some (.slice (some ⟨go41, 0, none⟩) t385.length co27) := (blk_cell BK388.out 2).trans rfl
  have hfs42 := blk_frozen BK388.out 2
  have hns42_0 := NB377_388.out
  have hns42_1 := NB378_388.out
  have hms42_0 := NB388_377.out
  have hms42_1 := NB388_378.out
  refine skip_ (w1 := ?_) (by rfl) rfl ?_ ?_
  rotate_left
  ·go_simp
   rfl
  refine hK.out _ _ ?_
  clear hK K
  refine done_ (done_of HT_.out (by kernel_rfl)) ?_
  obtain ⟨hcz43_0, hcz43_1, hcz43_2, hfz43_0, hfz43_1, hfz43_2⟩ := blkf3_ BK388.out
  obtain ⟨hcz44_0, hcz44_1, hcz44_2, hfz44_0, hfz44_1, hfz44_2⟩ := blkf3_ BK378.out
  try go_wp2
  refine bodyPost_ret (results_cell_row rfl _ _ gb378 26 #[.slice Ao22 t379.length co22, .slice (some ⟨go34, 0, none⟩) y400.length co26, .slice (some ⟨go41, 0, none⟩) y413.length co27] (0, 0) _ rfl (by refine blk_put (cs := #[.slice Ao22 t379.length co22, .slice (some ⟨go34, 0, none⟩) y400.length co26, .slice none 0 0]) ?_ 2 _ rfl; refine blk_put (cs := #[.slice Ao22 t379.length co22, .slice none 0 0, .slice none 0 0]) ?_ 1 _ rfl; refine blk_put (cs := #[.slice none 0 0, .slice none 0 0, .slice none 0 0]) ?_ 0 _ rfl; refine blk_far ?_ NB378_388.out _; exact BK378.out) Try.underlying26 rfl (by kernel_rfl)) rfl ?_
  exact ⟨_, _, _, rfl, by exact Kd.R_mono (Kd.R_far (p := ⟨gb378, 2, none⟩) (Kd.R_far (p := ⟨gb378, 1, none⟩) (Kd.R_far (p := ⟨gb378, 0, none⟩) (Kd.R_far (p := ⟨gb388, 2, none⟩) (Kd.R_types (Kd.R_types HO381.out BK388.out (by decide)) BK378.out (by decide)) (fun _ hk => hk.1.2) (.slice (some ⟨go41, 0, none⟩) y413.length co27)) (fun _ hk => hk.2) (.slice Ao22 t379.length co22)) (fun _ hk => hk.2) (.slice (some ⟨go34, 0, none⟩) y400.length co26)) (fun _ hk => hk.2) (.slice (some ⟨go41, 0, none⟩) y413.length co27)) (fun _ hk => ⟨hk.1.1.1, hk.1.1.2⟩), by exact Kd.N_mono (Kd.N_far (p := ⟨gb378, 2, none⟩) (Kd.N_far (p := ⟨gb378, 1, none⟩) (Kd.N_far (p := ⟨gb378, 0, none⟩) (Kd.N_far (p := ⟨gb388, 2, none⟩) (Kd.N_mono (Kd.N_mono HO384.out (fun k_ hk => (⟨hk, hk.1.2.2.2.2⟩ : _ ∧ k_ ≠ gb388))) (fun k_ hk => (⟨hk, hk.1.1.2.2.2.1⟩ : _ ∧ k_ ≠ gb378))) (fun _ hk => hk.1.2) (.slice (some ⟨go41, 0, none⟩) y413.length co27)) (fun _ hk => hk.2) (.slice Ao22 t379.length co22)) (fun _ hk => hk.2) (.slice (some ⟨go34, 0, none⟩) y400.length co26)) (fun _ hk => hk.2) (.slice (some ⟨go41, 0, none⟩) y413.length co27)) (fun _ hk => ⟨hk.1.1.1.1, ⟨hk.1.1.1.2.1, hk.1.1.2⟩⟩), by exact Kd.R_mono (Kd.R_far (p := ⟨gb378, 2, none⟩) (Kd.R_far (p := ⟨gb378, 1, none⟩) (Kd.R_far (p := ⟨gb378, 0, none⟩) (Kd.R_far (p := ⟨gb388, 2, none⟩) (Kd.R_types (Kd.R_types HO387.out BK388.out (by decide)) BK378.out (by decide)) (fun _ hk => hk.1.2) (.slice (some ⟨go41, 0, none⟩) y413.length co27)) (fun _ hk => hk.2) (.slice Ao22 t379.length co22)) (fun _ hk => hk.2) (.slice (some ⟨go34, 0, none⟩) y400.length co26)) (fun _ hk => hk.2) (.slice (some ⟨go41, 0, none⟩) y413.length co27)) (fun _ hk => ⟨hk.1.1.1, hk.1.1.2⟩), by repeat (first | exact HB.out | refine below_set ?_ GE377.out | refine below_set ?_ GE378.out | refine below_set ?_ GE388.out)⟩
 rw [if_neg c6] at H
 have c6b0 := beq_eq_false_iff_ne.mpr c6
 have c6b1 := bne_iff_ne.mpr c6
 have c6b2 : ¬ (((rd_T35 t382 a1).f1) = []) := fun h_ => c6 (by rw [h_]; rfl)
 replace H := pn_ H
 obtain ⟨c45, H⟩ := H
 have c45b0 := decide_eq_true c45
 have c45b1 : decide (0 < ((rd_T35 t382 a1).f1).length) = true := decide_eq_true (by omega)
 clear c45
 replace H := nm_ H
 obtain ⟨y418, Ny418, H⟩ := H
 replace H := pn_ H
 obtain ⟨c47, H⟩ := H
 have c47b0 := eq_true c47
 have c47b1 := decide_eq_true c47
 clear c47
 replace H := nm_ H
 obtain ⟨y420, Ny420, H⟩ := H
 replace H := pn_ H
 obtain ⟨c48, H⟩ := H
 have LMc48 := K_ c48
 clear c48
 obtain ⟨y425, hy425⟩ : ∃ y_ : List Int, y_ = (([] : List Int) ++ y420) := ⟨_, rfl⟩
 rw [← hy425] at H
 have Ny425 := K_ hy425
 clear hy425
 obtain ⟨y428, hy428⟩ : ∃ y_ : List (S35), y_ = (y418.set (a1 : Int).toNat (⟨(rd_T35 y418 a1).f0, y425, (rd_T35 y418 a1).f2⟩ : S35)) := ⟨_, rfl⟩
 rw [← hy428] at H
 have Ny428 := K_ hy428
 clear hy428
 simp only [Option.some.injEq, Prod.mk.injEq] at H
 obtain ⟨rfl, rfl, rfl⟩ := H
 go_enter Try.func62, Try.ntmps62
 try go_wp2_with (first | ((with_reducible refine gate_dst (N := 2) rfl ?_); refine box_event ?hg (N := 2) ?hd (cs := #[.slice A0_0 l0_0.length c0_0, .slice A0_1 l0_1.length c0_1, .slice A0_2 l0_2.length c0_2]) (t := 26) ?hr ?_; (case hd => rfl); (case hg => rfl); (case hr => go_simp; try rfl); intro gb377 hg w50 hbox hb; have BK377 := K_ (hbox); have GW377 := ge_ hg HB.out; have GE377 := ge_ hg HB.out; replace HB := K_ (below_step HB.out hb); clear hb hbox hg) | ((with_reducible refine gate_dst (N := 4) rfl ?_); refine box_event ?hg (N := 4) ?hd (cs := #[.slice none 0 0, .slice none 0 0, .slice none 0 0]) (t := 26) ?hr ?_; (case hd => rfl); (case hg => rfl); (case hr => go_simp; try rfl); intro gb378 hg w51 hbox hb; have BK378 := K_ (hbox); have GW378 := ge_ hg HB.out; have GE378 := ge_ hg HB.out; have NB377_378 := nl_ hg BK377.out; have NB378_377 := ng_ hg BK377.out; replace BK377 := K_ (blk_below BK377.out hb); replace HB := K_ (below_step HB.out hb); clear hb hbox hg; have hnb52 := NB377_378.out; have hnc52 := NB378_377.out; obtain ⟨hcz53_0, hcz53_1, hcz53_2, hfz53_0, hfz53_1, hfz53_2⟩ := blkf3_ BK377.out) | ((with_reducible refine gate_callee (f := 63) rfl ?_); refine goesL_ (some 7) rfl rfl Try.func63 (by kernel_rfl) rfl #[.agg #[.slice A0_0 l0_0.length c0_0, .slice A0_1 l0_1.length c0_1, .slice A0_2 l0_2.length c0_2]] rfl (by simp only [List.map_toArray, List.map_cons, List.map_nil]; try rfl) ?_; (with_reducible refine (impl_copyState.calls k _ _ l0_0 _ _ l0_1 _ _ l0_2 t379 t382 t385 _ ?side1 ?side2 ?side3 ?side4 ?side5 ?side6 A3.out).mono ?_); (case side1 => exact (Kd.C_below HR0_0.out HB.out)); (case side2 => exact HC0_0.out); (case side3 => exact (Kd.C_below HR0_1.out HB.out)); (case side4 => exact HC0_1.out); (case side5 => exact (Kd.C_below HR0_2.out HB.out)); (case side6 => exact HC0_2.out); rintro e w54 ⟨v380, v383, v386, rfl, ho0, ho1, ho2, hb⟩; refine ⟨_, rfl, ?_⟩; have HO381 := K_ (Kd.R_lower (Kd.R_newM (M := fun k_ => (w.heap.size ≤ k_)) ho0 (below_size HB.out) (fun k_ h_ => h_)) (below_size HB.out)); have HO384 := K_ (Kd.N_lower (Kd.N_mono (ok' := fun k_ => (w.heap.size ≤ k_) ∧ some k_ ≠ (v380 : Value).ownBlock ∧ some k_ ≠ (v386 : Value).ownBlock ∧ k_ ≠ gb377 ∧ k_ ≠ gb378) (Kd.S_N (Kd.S_bound ho1)) (fun k_ hk_ => ⟨(Nat.le_trans (below_size HB.out) hk_.2.1), hk_.1.1, hk_.1.2, (Kd.freshB BK377.out k_ hk_.2.1), (Kd.freshB BK378.out k_ hk_.2.1)⟩)) (below_size HB.out)); have HO387 := K_ (Kd.R_lower (Kd.R_newM (M := fun k_ => (w.heap.size ≤ k_)) ho2 (below_size HB.out) (fun k_ h_ => h_)) (below_size HB.out)); replace BK377 := K_ (blk_below BK377.out hb); replace BK378 := K_ (blk_below BK378.out hb); replace HB := K_ (below_step HB.out hb); clear hb ho0 ho1 ho2) | ((with_reducible refine gate_dst (N := 5) rfl ?_); refine box_event ?hg (N := 5) ?hd (cs := #[.slice none 0 0, .slice none 0 0, .slice none 0 0]) (t := 26) ?hr ?_; (case hd => rfl); (case hg => rfl); (case hr => go_simp; try rfl); intro gb388 hg w55 hbox hb; have BK388 := K_ (hbox); have GW388 := ge_ hg HB.out; have GE388 := ge_ hg HB.out; have NB377_388 := nl_ hg BK377.out; have NB388_377 := ng_ hg BK377.out; have NB378_388 := nl_ hg BK378.out; have NB388_378 := ng_ hg BK378.out; replace HO381 := K_ (Kd.R_below HO381.out hb); replace HO384 := K_ (Kd.N_below (Kd.N_elderB HO384.out gb388 (Nat.le_of_eq hg.symm)) hb); replace HO387 := K_ (Kd.R_below HO387.out hb); replace BK377 := K_ (blk_below BK377.out hb); replace BK378 := K_ (blk_below BK378.out hb); replace HB := K_ (below_step HB.out hb); clear hb hbox hg; obtain ⟨Ao56, co56, eo56⟩ := Kd.R_slice HO381.out; subst eo56; have hnb57 := NB388_377.out; have hnc57 := NB377_388.out; have hnb58 := NB388_378.out; have hnc58 := NB378_388.out; obtain ⟨hcz59_0, hcz59_1, hcz59_2, hfz59_0, hfz59_1, hfz59_2⟩ := blkf3_ BK388.out; obtain ⟨Ao60, co60, eo60⟩ := Kd.N_slice HO384.out; subst eo60; obtain ⟨Ao61, co61, eo61⟩ := Kd.R_slice HO387.out; subst eo61) | ((with_reducible refine gate_store (t := 26) (p := 5) rfl ?_); refine store_event (t := 26) (p := 5) (v := ?vo_w62) (w1 := (((w55.setCell ⟨gb388, 0, none⟩ (.slice Ao56 t379.length co56)).setCell ⟨gb388, 1, none⟩ (.slice Ao60 t382.length co60)).setCell ⟨gb388, 2, none⟩ (.slice Ao61 t385.length co61))) ?hg ?ho ?hn ?hr ?_; (case ho => rfl); (case hg => rfl); (case hn => rfl); (case hr => go_simp; try rfl); intro w62 hw; have n0_ : Aside0 (Kd.R (Kd.int .i64) 3 w62 w.heap.size (fun k_ => (w.heap.size ≤ k_) ∧ some k_ ≠ (.slice Ao61 t385.length co61 : Value).ownBlock) (.slice Ao56 t379.length co56) t379) := ⟨(by rw [hw]; exact (by exact Kd.R_mono (Kd.R_far (p := ⟨gb388, 2, none⟩) (Kd.R_far (p := ⟨gb388, 1, none⟩) (Kd.R_far (p := ⟨gb388, 0, none⟩) (Kd.R_types HO381.out BK388.out (by decide)) (fun _ hk => hk.2) (.slice Ao56 t379.length co56)) (fun _ hk => hk.2) (.slice Ao60 t382.length co60)) (fun _ hk => hk.2) (.slice Ao61 t385.length co61)) (fun _ hk => ⟨hk.1.1, hk.1.2⟩)))⟩; have n1_ : Aside0 (Kd.N k35 35 w62 w.heap.size (fun k_ => (w.heap.size ≤ k_) ∧ some k_ ≠ (.slice Ao56 t379.length co56 : Value).ownBlock ∧ some k_ ≠ (.slice Ao61 t385.length co61 : Value).ownBlock ∧ k_ ≠ gb377 ∧ k_ ≠ gb378 ∧ k_ ≠ gb388) (.slice Ao60 t382.length co60) t382) := ⟨(by rw [hw]; exact (by exact Kd.N_mono (Kd.N_far (p := ⟨gb388, 2, none⟩) (Kd.N_far (p := ⟨gb388, 1, none⟩) (Kd.N_far (p := ⟨gb388, 0, none⟩) (Kd.N_mono HO384.out (fun k_ hk => (⟨hk, hk.2⟩ : _ ∧ k_ ≠ gb388))) (fun _ hk => hk.2) (.slice Ao56 t379.length co56)) (fun _ hk => hk.2) (.slice Ao60 t382.length co60)) (fun _ hk => hk.2) (.slice Ao61 t385.length co61)) (fun _ hk => ⟨hk.1.1.1, ⟨hk.1.1.2.1, ⟨hk.1.1.2.2.1, ⟨hk.1.1.2.2.2.1, ⟨hk.1.1.2.2.2.2, hk.1.2⟩⟩⟩⟩⟩)))⟩; have n2_ : Aside0 (Kd.R (Kd.int .i64) 3 w62 w.heap.size (fun k_ => (w.heap.size ≤ k_) ∧ some k_ ≠ (.slice Ao56 t379.length co56 : Value).ownBlock) (.slice Ao61 t385.length co61) t385) := ⟨(by rw [hw]; exact (by exact Kd.R_mono (Kd.R_far (p := ⟨gb388, 2, none⟩) (Kd.R_far (p := ⟨gb388, 1, none⟩) (Kd.R_far (p := ⟨gb388, 0, none⟩) (Kd.R_types HO387.out BK388.out (by decide)) (fun _ hk => hk.2) (.slice Ao56 t379.length co56)) (fun _ hk => hk.2) (.slice Ao60 t382.length co60)) (fun _ hk => hk.2) (.slice Ao61 t385.length co61)) (fun _ hk => ⟨hk.1.1, hk.1.2⟩)))⟩; have n3_ : Aside0 (w62.heap[gb377]? = some (.cells #[.slice A0_0 l0_0.length c0_0, .slice A0_1 l0_1.length c0_1, .slice A0_2 l0_2.length c0_2] 26 (0, 0))) := ⟨(by rw [hw]; exact (by refine blk_far ?_ NB377_388.out _; refine blk_far ?_ NB377_388.out _; refine blk_far ?_ NB377_388.out _; exact BK377.out))⟩; have n4_ : Aside0 (w62.heap[gb378]? = some (.cells #[.slice none 0 0, .slice none 0 0, .slice none 0 0] 26 (0, 0))) := ⟨(by rw [hw]; exact (by refine blk_far ?_ NB378_388.out _; refine blk_far ?_ NB378_388.out _; refine blk_far ?_ NB378_388.out _; exact BK378.out))⟩; have n5_ : Aside0 (w62.heap[gb388]? = some (.cells #[.slice Ao56 t379.length co56, .slice Ao60 t382.length co60, .slice Ao61 t385.length co61] 26 (0, 0))) := ⟨(by rw [hw]; exact (by refine blk_put (cs := #[.slice Ao56 t379.length co56, .slice Ao60 t382.length co60, .slice none 0 0]) ?_ 2 _ rfl; refine blk_put (cs := #[.slice Ao56 t379.length co56, .slice none 0 0, .slice none 0 0]) ?_ 1 _ rfl; refine blk_put (cs := #[.slice none 0 0, .slice none 0 0, .slice none 0 0]) ?_ 0 _ rfl; exact BK388.out))⟩; have n6_ : Aside0 (Below w.heap.size w w62) := ⟨(by rw [hw]; exact (by repeat (first | exact HB.out | refine below_set ?_ GE377.out | refine below_set ?_ GE378.out | refine below_set ?_ GE388.out)))⟩; clear hw; clear HO381; clear HO384; clear HO387; clear BK377; clear BK378; clear BK388; clear HB; have HO381 := n0_; have HO384 := n1_; have HO387 := n2_; have BK377 := n3_; have BK378 := n4_; have BK388 := n5_; have HB := n6_; clear n0_ n1_ n2_ n3_ n4_ n5_ n6_; obtain ⟨hcz63_0, hcz63_1, hcz63_2, hfz63_0, hfz63_1, hfz63_2⟩ := blkf3_ BK388.out; have p389 : 0 ≤ (a1 : Int) := of_decide_eq_true (by assumption); have q389 : a1 < (t382.length : Int) := of_decide_eq_true (by assumption); obtain ⟨ad389, A389_1, c389_1, e389, hx389_0, hx389_1, hx389_2, hl389_1, hi389_1⟩ := at_T35 (Kd.N_reads' HO384.out).2.2 a1 p389 q389; cases e389; obtain ⟨ce389, hce389, hMe389, hcc389⟩ := Kd.N_get HO384.out z35 a1 p389 (by first | exact q389 | exact of_decide_eq_true (by assumption) | (have e_ := (Kd.N_reads' HO384.out).1; omega)); obtain ⟨ua389_1, uc389_1, rfl, ul389_1, ge389_1⟩ := k35_openF hMe389; have hv389_1 := hcc389 1 _ rfl; rw [add_field _ _ 1 (by omega)] at hv389_1; replace hv389_1 := Option.some.inj (hv389_1.symm.trans hx389_1); injection hv389_1 with hva_ hvn_ hvc_; rw [hva_] at ge389_1; rw [hvc_] at ul389_1; have HL389_1 := K_ (show Kd.V (Kd.int .i64) 3 _ w.heap.size _ _ ((rd_T35 t382 a1).f1) from Kd.V_mk ul389_1 ge389_1); clear hva_ hvn_ hvc_ ge389_1 ul389_1; clear hcc389 hce389; have HR389_1 := K_ hi389_1; have HC389_1 := K_ hl389_1; clear hi389_1 hl389_1; replace p389 := eq_true p389; replace q389 := eq_true q389))
 have n0_ := K_ (Kd.R_drew HO381.out)
 have n1_ := K_ (Kd.N_drew HO384.out)
 have n2_ := K_ (Kd.R_drew HO387.out)
 have n3_ := K_ (Kd.V_drew HL389_1.out)
 have n4_ := K_ (blk_drew BK377.out)
 have n5_ := K_ (blk_drew BK378.out)
 have n6_ := K_ (blk_drew BK388.out)
 have n7_ := K_ (Kd.C_drew HR389_1.out)
 have n8_ := K_ (below_drew1 HB.out)
 clear HO381
 clear HO384
 clear HO387
 clear HL389_1
 clear BK377
 clear BK378
 clear BK388
 clear HR389_1
 clear HB
 have HO381 := n0_
 have HO384 := n1_
 have HO387 := n2_
 have HL389_1 := n3_
 have BK377 := n4_
 have BK378 := n5_
 have BK388 := n6_
 have HR389_1 := n7_
 have HB := n8_
 clear n0_ n1_ n2_ n3_ n4_ n5_ n6_ n7_ n8_
 have p416 : 0 ≤ (a1 : Int) := of_decide_eq_true (by assumption)
 have q416 : a1 < (t382.length : Int) := of_decide_eq_true (by assumption)
 obtain ⟨ad416, A416_1, c416_1, e416, hx416_0, hx416_1, hx416_2, hl416_1, hi416_1⟩ := at_T35 (Kd.N_reads' HO384.out).2.2 a1 p416 q416
 obtain rfl : ad389 = ad416 := (by injection e416)
 obtain ⟨ce416, hce416, hMe416, hcc416⟩ := Kd.N_get HO384.out z35 a1 p416 (by first | exact q416 | exact of_decide_eq_true (by assumption) | (have e_ := (Kd.N_reads' HO384.out).1; omega))
 obtain ⟨ua416_1, uc416_1, rfl, ul416_1, ge416_1⟩ := k35_openF hMe416
 have hv416_1 := hcc416 1 _ rfl
 rw [add_field _ _ 1 (by omega)] at hv416_1
 replace hv416_1 := Option.some.inj (hv416_1.symm.trans hx416_1)
 injection hv416_1 with hva_ hvn_ hvc_
 rw [hva_] at ge416_1
 rw [hvc_] at ul416_1
 have HL416_1 := K_ (show Kd.V (Kd.int .i64) 3 _ w.heap.size _ _ ((rd_T35 t382 a1).f1) from Kd.V_mk ul416_1 ge416_1)
 clear hva_ hvn_ hvc_ ge416_1 ul416_1
 clear hcc416 hce416
 have HR416_1 := K_ hi416_1
 have HC416_1 := K_ hl416_1
 clear hi416_1 hl416_1
 replace p416 := eq_true p416
 replace q416 := eq_true q416
 have p417 : 0 ≤ (0 : Int) := (by omega)
 have q417 : 0 < (((rd_T35 t382 a1).f1).length : Int) := of_decide_eq_true (by assumption)
 obtain ⟨ad417, e417, hx417_0⟩ := Kd.at_int (by repeat (first | (with_reducible exact HR416_1.out) | (with_reducible refine Kd.C_alloc ?_ _) | (with_reducible refine Kd.C_drewN ?_ _) | (with_reducible refine Kd.C_drew ?_) | exact HR416_1.out)) 0 p417 q417
 cases e417
 have qi417 : (0 < ((rd_T35 t382 a1).f1).length) = True := eq_true (by omega)
 (try rw [show ((0 : Int)).toNat = 0 from rfl] at hx417_0)
 (try rw [Addr.add_zero'] at hx417_0)
 replace p417 := eq_true p417
 replace q417 := eq_true q417
 have p46 : 0 ≤ (a1 : Int) := of_decide_eq_true (by assumption)
 have q46 : (a1 : Int) < ((t382.length : Int) : Int) := of_decide_eq_true (by assumption)
 obtain ⟨go46, co46, eo46, gb46, gl46, cl46, HG46⟩ := Kd.N_form HO384.out (by omega)
 (first | cases eo46 | (injection eo46 with ea_ en_ ec_; (first | subst ea_ | (injection ea_ with ea_; subst ea_)); subst ec_; clear en_))
 have GB46 := K_ gb46
 have GG46 := K_ HG46
 clear gb46 gl46 HG46
 (first | simp only [add_plain] at hx389_0 | skip)
 (first | simp only [add_plain] at hx389_1 | skip)
 (first | simp only [add_plain] at hx389_2 | skip)
 (first | simp only [add_plain] at hx416_0 | skip)
 (first | simp only [add_plain] at hx416_1 | skip)
 (first | simp only [add_plain] at hx416_2 | skip)
 obtain ⟨ce46, hcl46, hM46, hcc46, hfr46⟩ := Kd.N_elem HO384.out z35 (a1 : Int) p46 q46
 obtain ⟨ua46_1, uc46_1, rfl, ul46_1, ge46_1⟩ := k35_openF hM46
 have hx46_0 : World.cell? _ ⟨go46, (a1 : Int).toNat * 3, none⟩ = some (.int .i64 ((rd_T35 t382 a1).f0)) := hcc46 0 _ rfl
 have hx46_1 : World.cell? _ ⟨go46, (a1 : Int).toNat * 3 + 1, none⟩ = some (.slice ua46_1 ((rd_T35 t382 a1).f1).length uc46_1) := hcc46 1 _ rfl
 have hx46_2 : World.cell? _ ⟨go46, (a1 : Int).toNat * 3 + 2, none⟩ = some (.int .i64 ((rd_T35 t382 a1).f2)) := hcc46 2 _ rfl
 have hf46_0 : World.frozen? _ ⟨go46, (a1 : Int).toNat * 3, none⟩ = false := hfr46 0
 have hf46_1 : World.frozen? _ ⟨go46, (a1 : Int).toNat * 3 + 1, none⟩ = false := hfr46 1
 have hf46_2 : World.frozen? _ ⟨go46, (a1 : Int).toNat * 3 + 2, none⟩ = false := hfr46 2
 clear hcl46 hcc46 hfr46 hM46
 replace p46 := eq_true p46
 replace q46 := eq_true q46
 have HX65 := K_ (show Kd.N k35 35 _ w.heap.size (fun k_ => (w.heap.size ≤ k_) ∧ some k_ ≠ (.slice Ao56 t379.length co56 : Value).ownBlock ∧ some k_ ≠ (.slice Ao61 t385.length co61 : Value).ownBlock ∧ k_ ≠ gb377 ∧ k_ ≠ gb378 ∧ k_ ≠ gb388) (.slice (some ⟨go46, 0, none⟩) t382.length co60) t382 from (Kd.N_mono (HO384.out) (fun k_ hk => ⟨hk.1, ⟨hk.2.1, ⟨hk.2.2.1, ⟨hk.2.2.2.1, ⟨hk.2.2.2.2.1, hk.2.2.2.2.2⟩⟩⟩⟩⟩)))
 obtain ⟨ce65, hcl65, hM65, hcc65, hfr65⟩ := Kd.N_elem HX65.out z35 (a1 : Int) (of_decide_eq_true (by assumption)) (by have h_ : (a1 : Int) < ((t382.length : Int) : Int) := of_decide_eq_true (by assumption); first | exact h_ | (have e_ := (Kd.N_reads' HO384.out).1; omega) | simpa using h_)
 obtain ⟨ua65_1, uc65_1, rfl, ul65_1, ge65_1⟩ := k35_openF hM65
 have HP65 := (Kd.N_seg HX65.out (a1 : Int) (of_decide_eq_true (by assumption)) (by have h_ : (a1 : Int) < ((t382.length : Int) : Int) := of_decide_eq_true (by assumption); first | exact h_ | (have e_ := (Kd.N_reads' HO384.out).1; omega) | simpa using h_) (seg := [.int .i64 (rd ((rd_T35 t382 a1).f1) 0)]) (j := 0) hcl65 hcc65 (show 1 ≤ 3 from by decide) (x' := (⟨rd ((rd_T35 t382 a1).f1) 0, (rd_T35 t382 a1).f1, (rd_T35 t382 a1).f2⟩ : S35)) (k35_mkF _ _ (⟨rd ((rd_T35 t382 a1).f1) 0, (rd_T35 t382 a1).f1, (rd_T35 t382 a1).f2⟩ : S35) ul65_1 ge65_1) (fun _ hk => hk)).1
 rw [← Ny418.out] at HP65
 have HQ65 := K_ HP65
 clear hcl65 hcc65 hfr65 hM65 HP65
 refine start_ (n := 14) (S := fun w' => w'.cell? ⟨gb388, 0, none⟩ = some (.slice Ao56 t379.length co56) ∧ w'.cell? ⟨gb388, 1, none⟩ = some (.slice (some ⟨go46, 0, none⟩) t382.length co60) ∧ w'.cell? ⟨gb388, 2, none⟩ = some (.slice Ao61 t385.length co61) ∧ w'.cell? ⟨go46, ((a1).toNat * 3), none⟩ = some (.int .i64 ((rd_T35 t382 a1).f0)) ∧ w'.cell? ⟨go46, ((a1).toNat * 3) + 1, none⟩ = some (.slice (some ad417) ((rd_T35 t382 a1).f1).length c416_1) ∧ w'.cell? ⟨go46, ((a1).toNat * 3) + 2, none⟩ = some (.int .i64 ((rd_T35 t382 a1).f2)) ∧ w'.cell? ad417 = some (.int .i64 (rd ((rd_T35 t382 a1).f1) 0))) (ds := [13]) #[ff, ff, ff, ff, ff, ff, ff, ff, ff, ff, ff, ff, ff, ff] (by kernel_rfl) rfl rfl ⟨(blk_cell BK388.out 0).trans rfl, (blk_cell BK388.out 1).trans rfl, (blk_cell BK388.out 2).trans rfl, hx416_0, hx416_1, hx416_2, hx417_0⟩ (fun hHeld => ?_); refine with_tabW impl_step.tab6 impl_step.bits6 (fun HT_ HW_ => ?_)
 generalize w62.drew = w64 at HO381 HO384 HO387 HL389_1 BK377 BK378 BK388 HR389_1 HB GG46 HL416_1 HQ65 HR416_1 hf46_0 hf46_1 hf46_2 hx389_0 hx389_1 hx389_2 hx416_0 hx416_1 hx416_2 hx417_0 hx46_0 hx46_1 hx46_2 hHeld ⊢
 refine pure_ (i := 0) (N := some 39) (v := ?_) (a' := ?_) (M_ 14 1) rfl rfl (any_of HT_.out (by kernel_rfl)) (fun _ _ _ h => h) (Or.inl ⟨by rfl, ?_⟩) ?_ ?_
 rotate_left
 ·intro w'
  go_simp
  with_reducible rfl
 rotate_left
 ·simp only [P_, i64_w, i32_w]
  rfl
 refine pure_ (i := 2) (N := some 41) (v := ?_) (a' := ?_) (M_ 14 5) rfl rfl (any_of HT_.out (by kernel_rfl)) (fun _ _ _ h => h) (Or.inl ⟨by rfl, ?_⟩) ?_ ?_
 rotate_left
 ·intro w'
  go_simp
  with_reducible rfl
 rotate_left
 ·simp only [P_, i64_w, i32_w]
  rfl
 refine pure_ (i := 3) (N := some 42) (v := ?_) (a' := ?_) (M_ 14 13) rfl rfl (any_of HT_.out (by kernel_rfl)) (fun _ _ _ h => h) (Or.inl ⟨by rfl, ?_⟩) ?_ ?_
 rotate_left
 ·intro w'
  go_simp
  with_reducible rfl
 rotate_left
 ·simp only [P_, i64_w, i32_w]
  rfl
 refine pure_ (i := 5) (N := some 44) (v := ?_) (a' := ?_) (M_ 14 45) rfl rfl (any_of HT_.out (by kernel_rfl)) (fun _ _ _ h => h) (Or.inl ⟨by rfl, ?_⟩) ?_ ?_
 rotate_left
 ·intro w'
  go_simp
  with_reducible rfl
 rotate_left
 ·simp only [P_, i64_w, i32_w]
  rfl
 refine take_ (i := 1) (N := some 40) (v := ?_) (a' := ?_) (M_ 14 47) rfl rfl (take_ofW HT_.out HW_.out (by kernel_rfl)) (fun _ _ _ h => h) (Or.inl ⟨by rfl, ?_⟩) hHeld ?_ ?_
 rotate_left
 ·rintro w' ⟨s0, s1, s2, s3, s4, s5, s6⟩
  go_simp
  with_reducible rfl
 rotate_left
 ·simp only [P_, i64_w, i32_w]
  rfl
 refine take_ (i := 4) (N := some 43) (v := ?_) (a' := ?_) (M_ 14 63) rfl rfl (take_ofW HT_.out HW_.out (by kernel_rfl)) (fun _ _ _ h => h) (Or.inl ⟨by rfl, ?_⟩) hHeld ?_ ?_
 rotate_left
 ·rintro w' ⟨s0, s1, s2, s3, s4, s5, s6⟩
  go_simp
  with_reducible rfl
 rotate_left
 ·simp only [P_, i64_w, i32_w]
  rfl
 refine pure_ (i := 6) (N := some 45) (v := ?_) (a' := ?_) (M_ 14 127) rfl rfl (any_of HT_.out (by kernel_rfl)) (fun _ _ _ h => h) (Or.inl ⟨by rfl, ?_⟩) ?_ ?_
 rotate_left
 ·intro w'
  go_simp
  with_reducible rfl
 rotate_left
 ·simp only [P_, i64_w, i32_w]
  rfl
 refine pure_ (i := 7) (N := some 46) (v := ?_) (a' := ?_) (M_ 14 255) rfl rfl (any_of HT_.out (by kernel_rfl)) (fun _ _ _ h => h) (Or.inl ⟨by rfl, ?_⟩) ?_ ?_
 rotate_left
 ·intro w'
  go_simp
  with_reducible rfl
 rotate_left
 ·simp only [P_, i64_w, i32_w]
  rfl
 refine take_ (i := 8) (N := some 47) (v := ?_) (a' := ?_) (M_ 14 511) rfl rfl (take_ofW HT_.out HW_.out (by kernel_rfl)) (fun _ _ _ h => h) (Or.inl ⟨by rfl, ?_⟩) hHeld ?_ ?_
 rotate_left
 ·rintro w' ⟨s0, s1, s2, s3, s4, s5, s6⟩
  go_simp
  with_reducible rfl
 rotate_left
 ·simp only [P_, i64_w, i32_w]
  rfl
 refine pure_ (i := 9) (N := some 48) (v := ?_) (a' := ?_) (M_ 14 1023) rfl rfl (any_of HT_.out (by kernel_rfl)) (fun _ _ _ h => h) (Or.inl ⟨by rfl, ?_⟩) ?_ ?_
 rotate_left
 ·intro w'
  go_simp
  with_reducible rfl
 rotate_left
 ·simp only [P_, i64_w, i32_w]
  rfl
 refine take_ (i := 10) (N := some 49) (v := ?_) (a' := ?_) (M_ 14 2047) rfl rfl (take_ofW HT_.out HW_.out (by kernel_rfl)) (fun _ _ _ h => h) (Or.inl ⟨by rfl, ?_⟩) hHeld ?_ ?_
 rotate_left
 ·rintro w' ⟨s0, s1, s2, s3, s4, s5, s6⟩
  go_simp
  with_reducible rfl
 rotate_left
 ·simp only [P_, i64_w, i32_w]
  rfl
 refine pure_ (i := 11) (N := some 50) (v := ?_) (a' := ?_) (M_ 14 4095) rfl rfl (any_of HT_.out (by kernel_rfl)) (fun _ _ _ h => h) (Or.inl ⟨by rfl, ?_⟩) ?_ ?_
 rotate_left
 ·intro w'
  go_simp
  with_reducible rfl
 rotate_left
 ·simp only [P_, i64_w, i32_w]
  rfl
 refine pure_ (i := 12) (N := some 51) (v := ?_) (a' := ?_) (M_ 14 8191) rfl rfl (any_of HT_.out (by kernel_rfl)) (fun _ _ _ h => h) (Or.inl ⟨by rfl, ?_⟩) ?_ ?_
 rotate_left
 ·intro w'
  go_simp
  with_reducible rfl
 rotate_left
 ·simp only [P_, i64_w, i32_w]
  rfl
 refine last_ (i := 13) (N := none) (M_ 14 16383) rfl rfl (one_of HT_.out (by kernel_rfl)) (by decide) (fun K hK => ?_)
 refine skip_ (w1 := ?_) (by rfl) rfl ?_ ?_
 rotate_left
 ·go_simp
  rfl
 refine hK.out _ _ ?_
 clear hK K
 refine done_ (done_of HT_.out (by kernel_rfl)) ?_
 have n0_ : Aside0 (Kd.R (Kd.int .i64) 3 (w64.setCell ⟨go46, (a1 : Int).toNat * 3, none⟩ (.int .i64 (rd ((rd_T35 t382 a1).f1) 0))) w.heap.size (fun k_ => (w.heap.size ≤ k_) ∧ some k_ ≠ (.slice Ao61 t385.length co61 : Value).ownBlock) (.slice Ao56 t379.length co56) t379) := ⟨by exact Kd.R_mono (Kd.R_far (p := ⟨go46, (a1 : Int).toNat * 3, none⟩) (Kd.R_types HO381.out GG46.out (by decide)) (fun _ hk => hk.2) (.int .i64 (rd ((rd_T35 t382 a1).f1) 0))) (fun _ hk => ⟨hk.1.1, hk.1.2⟩)⟩
 have n1_ : Aside0 (Kd.N k35 35 (w64.setCell ⟨go46, (a1 : Int).toNat * 3, none⟩ (.int .i64 (rd ((rd_T35 t382 a1).f1) 0))) w.heap.size (fun k_ => (w.heap.size ≤ k_) ∧ some k_ ≠ (.slice Ao56 t379.length co56 : Value).ownBlock ∧ some k_ ≠ (.slice Ao61 t385.length co61 : Value).ownBlock ∧ k_ ≠ gb377 ∧ k_ ≠ gb378 ∧ k_ ≠ gb388) (.slice (some ⟨go46, 0, none⟩) t382.length co60) y418) := ⟨HQ65.out⟩
 have n2_ : Aside0 (Kd.R (Kd.int .i64) 3 (w64.setCell ⟨go46, (a1 : Int).toNat * 3, none⟩ (.int .i64 (rd ((rd_T35 t382 a1).f1) 0))) w.heap.size (fun k_ => (w.heap.size ≤ k_) ∧ some k_ ≠ (.slice Ao56 t379.length co56 : Value).ownBlock) (.slice Ao61 t385.length co61) t385) := ⟨by exact Kd.R_mono (Kd.R_far (p := ⟨go46, (a1 : Int).toNat * 3, none⟩) (Kd.R_types HO387.out GG46.out (by decide)) (fun _ hk => hk.2) (.int .i64 (rd ((rd_T35 t382 a1).f1) 0))) (fun _ hk => ⟨hk.1.1, hk.1.2⟩)⟩
 have n3_ : Aside0 (Kd.V (Kd.int .i64) 3 (w64.setCell ⟨go46, (a1 : Int).toNat * 3, none⟩ (.int .i64 (rd ((rd_T35 t382 a1).f1) 0))) w.heap.size (fun k_ => (w.heap.size ≤ k_) ∧ some k_ ≠ (.slice Ao56 t379.length co56 : Value).ownBlock ∧ some k_ ≠ (.slice (some ⟨go46, 0, none⟩) t382.length co60 : Value).ownBlock ∧ some k_ ≠ (.slice Ao61 t385.length co61 : Value).ownBlock ∧ k_ ≠ gb377 ∧ k_ ≠ gb378 ∧ k_ ≠ gb388) (.slice A389_1 ((rd_T35 t382 a1).f1).length c389_1) ((rd_T35 t382 a1).f1)) := ⟨by exact Kd.V_mono (Kd.V_far (p := ⟨go46, (a1 : Int).toNat * 3, none⟩) (Kd.V_mono HL389_1.out (fun k_ hk => (⟨hk, fun e_ => hk.2 (by rw [e_]; rfl)⟩ : _ ∧ k_ ≠ go46))) (fun _ hk => hk.2) (.int .i64 (rd ((rd_T35 t382 a1).f1) 0))) (fun _ hk => ⟨hk.1.1.1, ⟨hk.1.1.2.1, ⟨hk.1.2, ⟨hk.1.1.2.2.1, ⟨hk.1.1.2.2.2.1, ⟨hk.1.1.2.2.2.2.1, hk.1.1.2.2.2.2.2⟩⟩⟩⟩⟩⟩)⟩
 have n4_ : Aside0 (Kd.V (Kd.int .i64) 3 (w64.setCell ⟨go46, (a1 : Int).toNat * 3, none⟩ (.int .i64 (rd ((rd_T35 t382 a1).f1) 0))) w.heap.size (fun k_ => (w.heap.size ≤ k_) ∧ some k_ ≠ (.slice Ao56 t379.length co56 : Value).ownBlock ∧ some k_ ≠ (.slice (some ⟨go46, 0, none⟩) t382.length co60 : Value).ownBlock ∧ some k_ ≠ (.slice Ao61 t385.length co61 : Value).ownBlock ∧ k_ ≠ gb377 ∧ k_ ≠ gb378 ∧ k_ ≠ gb388) (.slice (some ad417) ((rd_T35 t382 a1).f1).length c416_1) ((rd_T35 t382 a1).f1)) := ⟨by exact Kd.V_mono (Kd.V_far (p := ⟨go46, (a1 : Int).toNat * 3, none⟩) (Kd.V_mono HL416_1.out (fun k_ hk => (⟨hk, fun e_ => hk.2 (by rw [e_]; rfl)⟩ : _ ∧ k_ ≠ go46))) (fun _ hk => hk.2) (.int .i64 (rd ((rd_T35 t382 a1).f1) 0))) (fun _ hk => ⟨hk.1.1.1, ⟨hk.1.1.2.1, ⟨hk.1.2, ⟨hk.1.1.2.2.1, ⟨hk.1.1.2.2.2.1, ⟨hk.1.1.2.2.2.2.1, hk.1.1.2.2.2.2.2⟩⟩⟩⟩⟩⟩)⟩
 have n5_ : Aside0 ((w64.setCell ⟨go46, (a1 : Int).toNat * 3, none⟩ (.int .i64 (rd ((rd_T35 t382 a1).f1) 0))).heap[gb377]? = some (.cells #[.slice A0_0 l0_0.length c0_0, .slice A0_1 l0_1.length c0_1, .slice A0_2 l0_2.length c0_2] 26 (0, 0))) := ⟨by refine blk_far ?_ (by have h_ := Kd.N_away HO384.out (fun _ hk => hk.2.2.2.1); intro e_; exact h_ (by rw [e_]; rfl)) _; exact BK377.out⟩
 have n6_ : Aside0 ((w64.setCell ⟨go46, (a1 : Int).toNat * 3, none⟩ (.int .i64 (rd ((rd_T35 t382 a1).f1) 0))).heap[gb378]? = some (.cells #[.slice none 0 0, .slice none 0 0, .slice none 0 0] 26 (0, 0))) := ⟨by refine blk_far ?_ (by have h_ := Kd.N_away HO384.out (fun _ hk => hk.2.2.2.2.1); intro e_; exact h_ (by rw [e_]; rfl)) _; exact BK378.out⟩
 have n7_ : Aside0 ((w64.setCell ⟨go46, (a1 : Int).toNat * 3, none⟩ (.int .i64 (rd ((rd_T35 t382 a1).f1) 0))).heap[gb388]? = some (.cells #[.slice Ao56 t379.length co56, .slice (some ⟨go46, 0, none⟩) t382.length co60, .slice Ao61 t385.length co61] 26 (0, 0))) := ⟨by refine blk_far ?_ (by have h_ := Kd.N_away HO384.out (fun _ hk => hk.2.2.2.2.2); intro e_; exact h_ (by rw [e_]; rfl)) _; exact BK388.out⟩
 have n8_ : Aside0 (Below w.heap.size w (w64.setCell ⟨go46, (a1 : Int).toNat * 3, none⟩ (.int .i64 (rd ((rd_T35 t382 a1).f1) 0)))) := ⟨by repeat (first | exact HB.out | refine below_set ?_ GB46.out | refine below_set ?_ GE377.out | refine below_set ?_ GE378.out | refine below_set ?_ GE388.out)⟩
 clear HO381
 clear HO384
 clear HO387
 clear HL389_1
 clear HL416_1
 clear BK377
 clear BK378
 clear BK388
 clear HB
 generalize (w64.setCell ⟨go46, (a1 : Int).toNat * 3, none⟩ (.int .i64 (rd ((rd_T35 t382 a1).f1) 0))) = w66 at n0_ n1_ n2_ n3_ n4_ n5_ n6_ n7_ n8_ ⊢
 have HO381 := n0_
 have HO384 := n1_
 have HO387 := n2_
 have HL389_1 := n3_
 have HL416_1 := n4_
 have BK377 := n5_
 have BK378 := n6_
 have BK388 := n7_
 have HB := n8_
 clear n0_ n1_ n2_ n3_ n4_ n5_ n6_ n7_ n8_
 try go_wp2
 have n0_ := K_ (Kd.R_drew HO381.out)
 have n1_ := K_ (Kd.N_drew HO384.out)
 have n2_ := K_ (Kd.R_drew HO387.out)
 have n3_ := K_ (Kd.V_drew HL389_1.out)
 have n4_ := K_ (Kd.V_drew HL416_1.out)
 have n5_ := K_ (blk_drew BK377.out)
 have n6_ := K_ (blk_drew BK378.out)
 have n7_ := K_ (blk_drew BK388.out)
 have n8_ := K_ (below_drew1 HB.out)
 clear HO381
 clear HO384
 clear HO387
 clear HL389_1
 clear HL416_1
 clear BK377
 clear BK378
 clear BK388
 clear HB
 have HO381 := n0_
 have HO384 := n1_
 have HO387 := n2_
 have HL389_1 := n3_
 have HL416_1 := n4_
 have BK377 := n5_
 have BK378 := n6_
 have BK388 := n7_
 have HB := n8_
 clear n0_ n1_ n2_ n3_ n4_ n5_ n6_ n7_ n8_
 have p419 : 0 ≤ (a1 : Int) := of_decide_eq_true (by assumption)
 have q419 : a1 < (y418.length : Int) := (by have h_ : (a1 : Int) < ((t382.length : Int) : Int) := of_decide_eq_true (by assumption); first | (have e_ := (Kd.N_reads' HO384.out).1; omega) | simpa only [Ny418.out, List.length_set] using h_)
 have ql419 : ((a1 : Int) < ((t382.length : Int) : Int)) = True := eq_true (of_decide_eq_true (by assumption))
 obtain ⟨ad419, A419_1, c419_1, e419, hx419_0, hx419_1, hx419_2, hl419_1, hi419_1⟩ := at_T35 (Kd.N_reads' HO384.out).2.2 a1 p419 q419
 obtain rfl : (⟨go46, 0, none⟩ : Addr) = ad419 := (by injection e419)
 obtain ⟨ce419, hce419, hMe419, hcc419⟩ := Kd.N_get HO384.out z35 a1 p419 (by first | exact q419 | exact of_decide_eq_true (by assumption) | (have e_ := (Kd.N_reads' HO384.out).1; omega))
 obtain ⟨ua419_1, uc419_1, rfl, ul419_1, ge419_1⟩ := k35_openF hMe419
 have hv419_1 := hcc419 1 _ rfl
 rw [add_field _ _ 1 (by omega)] at hv419_1
 replace hv419_1 := Option.some.inj (hv419_1.symm.trans hx419_1)
 injection hv419_1 with hva_ hvn_ hvc_
 rw [hva_] at ge419_1
 rw [hvc_] at ul419_1
 have HL419_1 := K_ (show Kd.V (Kd.int .i64) 3 _ w.heap.size _ _ ((rd_T35 y418 a1).f1) from Kd.V_mk ul419_1 ge419_1)
 clear hva_ hvn_ hvc_ ge419_1 ul419_1
 clear hcc419 hce419
 (first | simp only [add_plain] at hx419_0 | simp only [add_at] at hx419_0 | simp only [Addr.add, Nat.zero_add] at hx419_0 | skip)
 (first | simp only [add_plain] at hx419_1 | simp only [add_at] at hx419_1 | simp only [Addr.add, Nat.zero_add] at hx419_1 | skip)
 (first | simp only [add_plain] at hx419_2 | simp only [add_at] at hx419_2 | simp only [Addr.add, Nat.zero_add] at hx419_2 | skip)
 have HR419_1 := K_ hi419_1
 have HC419_1 := K_ hl419_1
 clear hi419_1 hl419_1
 replace p419 := eq_true p419
 replace q419 := eq_true q419
 have q68 : (1 : Int) ≤ ((((rd_T35 y418 a1).f1).length : Int) : Int) := of_decide_eq_true (by assumption)
 obtain ⟨i068, hi068, _, hsz68, _⟩ := info_parts info3
 have hroom68 : ((rd_T35 y418 a1).f1).length ≤ c419_1 := HC419_1.out
 have hC68 : Kd.F (Kd.int .i64) _ _ A419_1 ((rd_T35 y418 a1).f1).length ((rd_T35 y418 a1).f1) := (Kd.V_at (base := w.heap.size) HL419_1.out).2.2
 have hcut68 := cut_from (P := Try.prog) 23 3 .i64 Try.underlying23 hi068 1 hsz68 A419_1 ((rd_T35 y418 a1).f1).length c419_1 1 (by omega) q68
 have hr68 := Kd.F_cut (m := (1 : Int).toNat) (c := c419_1) hC68 (by omega) hroom68
 obtain ⟨A68, hA68⟩ : ∃ A1, A1 = (if c419_1 = (1 : Int).toNat then A419_1 else (A419_1 : Option Addr).map (·.add ((1 : Int).toNat * 1))) := ⟨_, rfl⟩
 obtain ⟨c68, hc68⟩ : ∃ c1, c1 = c419_1 - (1 : Int).toNat := ⟨_, rfl⟩
 have hy68 : y420.length = ((rd_T35 y418 a1).f1).length - (1 : Int).toNat := (by rw [Ny420.out, List.length_drop] <;> omega)
 rw [show ((rd_T35 y418 a1).f1).drop (1 : Int).toNat = y420 from Ny420.out.symm] at hr68
 replace hr68 : Kd.F (Kd.int .i64) _ _ A68 y420.length y420 := (by rw [hA68]; exact hr68)
 rw [← hy68, ← hA68, ← hc68] at hcut68
 have HO424 := K_ (show Kd.V (Kd.int .i64) 3 _ w.heap.size _ (.slice A68 y420.length c68) y420 from Kd.V_mk (by rw [hy68, hc68]; exact Nat.sub_le_sub_right hroom68 _) hr68)
 have HC424 := K_ (show y420.length ≤ c68 from by rw [hy68, hc68]; exact Nat.sub_le_sub_right hroom68 _)
 clear hr68 hC68 hroom68 hi068 hsz68 hc68
 have KY68 := K_ hy68
 have KA68 := K_ hA68
 clear hy68 hA68
 replace q68 := eq_true q68
 refine start_ (n := 14) (S := fun w' => w'.cell? ⟨gb388, 0, none⟩ = some (.slice Ao56 t379.length co56) ∧ w'.cell? ⟨gb388, 1, none⟩ = some (.slice (some ⟨go46, 0, none⟩) t382.length co60) ∧ w'.cell? ⟨gb388, 2, none⟩ = some (.slice Ao61 t385.length co61) ∧ w'.cell? ⟨go46, (a1).toNat * 3, none⟩ = some (.int .i64 ((rd_T35 y418 a1).f0)) ∧ w'.cell? ⟨go46, (a1).toNat * 3 + 1, none⟩ = some (.slice A419_1 ((rd_T35 y418 a1).f1).length c419_1) ∧ w'.cell? ⟨go46, (a1).toNat * 3 + 2, none⟩ = some (.int .i64 ((rd_T35 y418 a1).f2))) (ds := [13]) #[ff, ff, ff, ff, ff, ff, ff, ff, ff, ff, ff, ff, ff, ff] (by kernel_rfl) rfl rfl ⟨(blk_cell BK388.out 0).trans rfl, (blk_cell BK388.out 1).trans rfl, (blk_cell BK388.out 2).trans rfl, hx419_0, hx419_1, hx419_2⟩ (fun hHeld => ?_); refine with_tabW impl_step.tab7 impl_step.bits7 (fun HT_ HW_ => ?_)
 generalize w66.drew = w67 at HO381 HO384 HO387 HL389_1 HL416_1 BK377 BK378 BK388 HB HL419_1 HO424 HR419_1 hx419_0 hx419_1 hx419_2 hHeld ⊢
 refine pure_ (i := 0) (N := some 52) (v := ?_) (a' := ?_) (M_ 14 1) rfl rfl (any_of HT_.out (by kernel_rfl)) (fun _ _ _ h => h) (Or.inl ⟨by rfl, ?_⟩) ?_ ?_
 rotate_left
 ·intro w'
  go_simp
  with_reducible rfl
 rotate_left
 ·simp only [P_, i64_w, i32_w]
  rfl
 refine pure_ (i := 2) (N := some 54) (v := ?_) (a' := ?_) (M_ 14 5) rfl rfl (any_of HT_.out (by kernel_rfl)) (fun _ _ _ h => h) (Or.inl ⟨by rfl, ?_⟩) ?_ ?_
 rotate_left
 ·intro w'
  go_simp
  with_reducible rfl
 rotate_left
 ·simp only [P_, i64_w, i32_w]
  rfl
 refine pure_ (i := 3) (N := some 55) (v := ?_) (a' := ?_) (M_ 14 13) rfl rfl (any_of HT_.out (by kernel_rfl)) (fun _ _ _ h => h) (Or.inl ⟨by rfl, ?_⟩) ?_ ?_
 rotate_left
 ·intro w'
  go_simp
  with_reducible rfl
 rotate_left
 ·simp only [P_, i64_w, i32_w]
  rfl
 refine pure_ (i := 5) (N := some 57) (v := ?_) (a' := ?_) (M_ 14 45) rfl rfl (any_of HT_.out (by kernel_rfl)) (fun _ _ _ h => h) (Or.inl ⟨by rfl, ?_⟩) ?_ ?_
 rotate_left
 ·intro w'
  go_simp
  with_reducible rfl
 rotate_left
 ·simp only [P_, i64_w, i32_w]
  rfl
 refine take_ (i := 1) (N := some 53) (v := ?_) (a' := ?_) (M_ 14 47) rfl rfl (take_ofW HT_.out HW_.out (by kernel_rfl)) (fun _ _ _ h => h) (Or.inl ⟨by rfl, ?_⟩) hHeld ?_ ?_
 rotate_left
 ·rintro w' ⟨s0, s1, s2, s3, s4, s5⟩
  go_simp
  with_reducible rfl
 rotate_left
 ·simp only [P_, i64_w, i32_w]
  rfl
 refine take_ (i := 4) (N := some 56) (v := ?_) (a' := ?_) (M_ 14 63) rfl rfl (take_ofW HT_.out HW_.out (by kernel_rfl)) (fun _ _ _ h => h) (Or.inl ⟨by rfl, ?_⟩) hHeld ?_ ?_
 rotate_left
 ·rintro w' ⟨s0, s1, s2, s3, s4, s5⟩
  go_simp
  with_reducible rfl
 rotate_left
 ·simp only [P_, i64_w, i32_w]
  rfl
 refine pure_ (i := 6) (N := some 58) (v := ?_) (a' := ?_) (M_ 14 127) rfl rfl (any_of HT_.out (by kernel_rfl)) (fun _ _ _ h => h) (Or.inl ⟨by rfl, ?_⟩) ?_ ?_
 rotate_left
 ·intro w'
  go_simp
  with_reducible rfl
 rotate_left
 ·simp only [P_, i64_w, i32_w]
  rfl
 refine pure_ (i := 7) (N := some 59) (v := ?_) (a' := ?_) (M_ 14 255) rfl rfl (any_of HT_.out (by kernel_rfl)) (fun _ _ _ h => h) (Or.inl ⟨by rfl, ?_⟩) ?_ ?_
 rotate_left
 ·intro w'
  go_simp
  with_reducible rfl
 rotate_left
 ·simp only [P_, i64_w, i32_w]
  rfl
 refine take_ (i := 8) (N := some 60) (v := ?_) (a' := ?_) (M_ 14 511) rfl rfl (take_ofW HT_.out HW_.out (by kernel_rfl)) (fun _ _ _ h => h) (Or.inl ⟨by rfl, ?_⟩) hHeld ?_ ?_
 rotate_left
 ·rintro w' ⟨s0, s1, s2, s3, s4, s5⟩
  go_simp
  with_reducible rfl
 rotate_left
 ·simp only [P_, i64_w, i32_w]
  rfl
 refine pure_ (i := 9) (N := some 61) (v := ?_) (a' := ?_) (M_ 14 1023) rfl rfl (any_of HT_.out (by kernel_rfl)) (fun _ _ _ h => h) (Or.inl ⟨by rfl, ?_⟩) ?_ ?_
 rotate_left
 ·intro w'
  go_simp
  with_reducible rfl
 rotate_left
 ·simp only [P_, i64_w, i32_w]
  rfl
 refine one_ (i := 10) (N := some 62) (M_ 14 2047) rfl rfl (one_of HT_.out (by kernel_rfl)) (by decide) (fun K hK => ?_)
 refine Kd.R_append_rows_step (Kd.int .i64) (w0 := w) w.heap.size (by rfl) (.const (.slice none 0 0)) (.tmp 61) 23 3 (.int .i64 0) 8 rfl Try.underlying23 info3 rfl (by decide) (by omega) (.slice none 0 0) ([] : List Int) y420 _ _ _ (fun k_ => (w.heap.size ≤ k_) ∧ some k_ ≠ (.slice Ao56 t379.length co56 : Value).ownBlock ∧ some k_ ≠ (.slice Ao61 t385.length co61 : Value).ownBlock) (fun _ => False) rfl rfl ?aO ?aR (fun _ _ h => h) (fun _ h => h.elim) ?aF ?aB ?aS ?aL ?_
 (case aR => exact (Kd.V_reads' HO424.out).2.2)
 (case aB => exact HB.out)
 (case aF => exact (fun k_ hk => ⟨(Nat.le_trans (below_size HB.out) hk), Kd.fresh' (Kd.R_lt HO381.out) k_ hk, Kd.fresh' (Kd.R_lt HO387.out) k_ hk⟩))
 (case aO => exact ((Kd.R_nil _ _ _ _ (fun k_ => (w.heap.size ≤ k_) ∧ some k_ ≠ (.slice Ao56 t379.length co56 : Value).ownBlock ∧ some k_ ≠ (.slice Ao61 t385.length co61 : Value).ownBlock))))
 (case aS => exact (below_size HB.out))
 (case aL => have := LMc48.out; omega)
 intro v426 w69 ho hb hg hat
 rw [← Ny425.out] at ho
 obtain ⟨Az_v426, cz_v426, rfl⟩ := Kd.R_slice ho
 have hHN_ : w69.cell? ⟨gb388, 0, none⟩ = some (.slice Ao56 t379.length co56) ∧ w69.cell? ⟨gb388, 1, none⟩ = some (.slice (some ⟨go46, 0, none⟩) t382.length co60) ∧ w69.cell? ⟨gb388, 2, none⟩ = some (.slice Ao61 t385.length co61) ∧ w69.cell? ⟨go46, (a1).toNat * 3, none⟩ = some (.int .i64 ((rd_T35 y418 a1).f0)) ∧ w69.cell? ⟨go46, (a1).toNat * 3 + 1, none⟩ = some (.slice A419_1 ((rd_T35 y418 a1).f1).length c419_1) ∧ w69.cell? ⟨go46, (a1).toNat * 3 + 2, none⟩ = some (.int .i64 ((rd_T35 y418 a1).f2)) := ⟨(hg.cell_far (⟨gb388, 0, none⟩ : Addr) (blk_lt BK388.out) (by simp [Value.ownBlock])).trans hHeld.1, (hg.cell_far (⟨gb388, 1, none⟩ : Addr) (blk_lt BK388.out) (by simp [Value.ownBlock])).trans hHeld.2.1, (hg.cell_far (⟨gb388, 2, none⟩ : Addr) (blk_lt BK388.out) (by simp [Value.ownBlock])).trans hHeld.2.2.1, (hg.cell_far (⟨go46, (a1).toNat * 3, none⟩ : Addr) (Kd.N_lt HO384.out _ rfl) (by simp [Value.ownBlock])).trans hHeld.2.2.2.1, (hg.cell_far (⟨go46, (a1).toNat * 3 + 1, none⟩ : Addr) (Kd.N_lt HO384.out _ rfl) (by simp [Value.ownBlock])).trans hHeld.2.2.2.2.1, (hg.cell_far (⟨go46, (a1).toNat * 3 + 2, none⟩ : Addr) (Kd.N_lt HO384.out _ rfl) (by simp [Value.ownBlock])).trans hHeld.2.2.2.2.2⟩
 have n0_ := K_ (blk_grown BK377.out hg (by simp [Value.ownBlock]))
 have n1_ := K_ (blk_grown BK378.out hg (by simp [Value.ownBlock]))
 have n2_ := K_ (Kd.R_after (Kd.R_apart_nil HO381.out) hg hat)
 have n3_ := K_ (Kd.N_afterv (Kd.N_apart_nil HO384.out) hg hat)
 have n4_ := K_ (Kd.R_after (Kd.R_apart_nil HO387.out) hg hat)
 have n5_ := K_ (blk_grown BK388.out hg (by simp [Value.ownBlock]))
 have n6_ := K_ (Kd.V_afterv (Kd.V_apart_nil HL389_1.out) hg hat)
 have n7_ := K_ (Kd.V_afterv (Kd.V_apart_nil HL416_1.out) hg hat)
 have n8_ := K_ (Kd.V_afterv (Kd.V_apart_nil HL419_1.out) hg hat)
 have n9_ := K_ (Kd.V_afterv (Kd.V_apart_nil HO424.out) hg hat)
 have n10_ := K_ (hb)
 have n11_ := K_ (ho)
 clear BK377
 clear BK378
 clear HO381
 clear HO384
 clear HO387
 clear BK388
 clear HL389_1
 clear HL416_1
 clear HL419_1
 clear HO424
 clear HB
 have BK377 := n0_
 have BK378 := n1_
 have HO381 := n2_
 have HO384 := n3_
 have HO387 := n4_
 have BK388 := n5_
 have HL389_1 := n6_
 have HL416_1 := n7_
 have HL419_1 := n8_
 have HO424 := n9_
 have HB := n10_
 have HO427 := n11_
 clear n0_ n1_ n2_ n3_ n4_ n5_ n6_ n7_ n8_ n9_ n10_ n11_
 clear ho hb hg hat
 have p49 : 0 ≤ (a1 : Int) := of_decide_eq_true (by assumption)
 have q49 : (a1 : Int) < ((t382.length : Int) : Int) := of_decide_eq_true (by assumption)
 obtain ⟨ce49, hcl49, hM49, hcc49, hfr49⟩ := Kd.N_elem HO384.out z35 (a1 : Int) p49 q49
 obtain ⟨ua49_1, uc49_1, rfl, ul49_1, ge49_1⟩ := k35_openF hM49
 have hx49_0 : World.cell? _ ⟨go46, (a1 : Int).toNat * 3, none⟩ = some (.int .i64 ((rd_T35 y418 a1).f0)) := hcc49 0 _ rfl
 have hx49_1 : World.cell? _ ⟨go46, (a1 : Int).toNat * 3 + 1, none⟩ = some (.slice ua49_1 ((rd_T35 y418 a1).f1).length uc49_1) := hcc49 1 _ rfl
 have hx49_2 : World.cell? _ ⟨go46, (a1 : Int).toNat * 3 + 2, none⟩ = some (.int .i64 ((rd_T35 y418 a1).f2)) := hcc49 2 _ rfl
 have hf49_0 : World.frozen? _ ⟨go46, (a1 : Int).toNat * 3, none⟩ = false := hfr49 0
 have hf49_1 : World.frozen? _ ⟨go46, (a1 : Int).toNat * 3 + 1, none⟩ = false := hfr49 1
 have hf49_2 : World.frozen? _ ⟨go46, (a1 : Int).toNat * 3 + 2, none⟩ = false := hfr49 2
 clear hcl49 hcc49 hfr49 hM49
 replace p49 := eq_true p49
 replace q49 := eq_true q49
 have HX70 := K_ (show Kd.N k35 35 _ w.heap.size (fun k_ => (w.heap.size ≤ k_) ∧ some k_ ≠ (.slice Ao56 t379.length co56 : Value).ownBlock ∧ some k_ ≠ (.slice Ao61 t385.length co61 : Value).ownBlock ∧ some k_ ≠ ((.slice Az_v426 y425.length cz_v426 : Value) : Value).ownBlock ∧ k_ ≠ gb377 ∧ k_ ≠ gb378 ∧ k_ ≠ gb388) (.slice (some ⟨go46, 0, none⟩) t382.length co60) y418 from (Kd.N_mono (HO384.out) (fun k_ hk => ⟨hk.1.1, ⟨hk.1.2.1, ⟨hk.1.2.2.1, ⟨hk.2, ⟨hk.1.2.2.2.1, ⟨hk.1.2.2.2.2.1, hk.1.2.2.2.2.2⟩⟩⟩⟩⟩⟩)))
 replace HX70 := K_ (show Kd.N k35 35 _ w.heap.size (fun k_ => (w.heap.size ≤ k_) ∧ some k_ ≠ (.slice Ao56 t379.length co56 : Value).ownBlock ∧ some k_ ≠ (.slice Ao61 t385.length co61 : Value).ownBlock ∧ k_ ≠ gb377 ∧ k_ ≠ gb378 ∧ k_ ≠ gb388) (.slice (some ⟨go46, 0, none⟩) t382.length co60) y418 from Kd.N_mono HX70.out (fun k_ hk => ⟨hk.1, ⟨hk.2.1, ⟨hk.2.2.1, ⟨hk.2.2.2.2.1, ⟨hk.2.2.2.2.2.1, hk.2.2.2.2.2.2⟩⟩⟩⟩⟩))
 obtain ⟨ce70, hcl70, hM70, hcc70, hfr70⟩ := Kd.N_elem HX70.out z35 (a1 : Int) (of_decide_eq_true (by assumption)) (by have h_ : (a1 : Int) < ((t382.length : Int) : Int) := of_decide_eq_true (by assumption); first | exact h_ | (have e_ := (Kd.N_reads' HO384.out).1; omega) | simpa using h_)
 obtain ⟨ua70_1, uc70_1, rfl, ul70_1, ge70_1⟩ := k35_openF hM70
 have HP70 := (Kd.N_seg HX70.out (a1 : Int) (of_decide_eq_true (by assumption)) (by have h_ : (a1 : Int) < ((t382.length : Int) : Int) := of_decide_eq_true (by assumption); first | exact h_ | (have e_ := (Kd.N_reads' HO384.out).1; omega) | simpa using h_) (seg := [(.slice Az_v426 y425.length cz_v426 : Value)]) (j := 1) hcl70 hcc70 (show 2 ≤ 3 from by decide) (x' := (⟨(rd_T35 y418 a1).f0, y425, (rd_T35 y418 a1).f2⟩ : S35)) (k35_mkF _ _ (⟨(rd_T35 y418 a1).f0, y425, (rd_T35 y418 a1).f2⟩ : S35) (Kd.R_reads' (Kd.R_mono (ok' := (fun k_ => ((fun k_ => (w.heap.size ≤ k_) ∧ some k_ ≠ (.slice Ao56 t379.length co56 : Value).ownBlock ∧ some k_ ≠ (.slice Ao61 t385.length co61 : Value).ownBlock ∧ k_ ≠ gb377 ∧ k_ ≠ gb378 ∧ k_ ≠ gb388)) k_ ∧ k_ ≠ go46)) (Kd.R_types (Kd.R_types (Kd.R_types (Kd.R_apart' (HO427.out) (Kd.N_typed HO384.out) (by decide)) BK377.out (by decide)) BK378.out (by decide)) BK388.out (by decide)) (fun k_ hk => ⟨⟨hk.1.1.1.1.1, ⟨hk.1.1.1.1.2.1, ⟨hk.1.1.1.1.2.2, ⟨hk.1.1.2, ⟨hk.1.2, hk.2⟩⟩⟩⟩⟩, fun e_ => (hk.1.1.1.2) (by rw [e_]; rfl)⟩))).2.1 (Kd.R_F (Kd.R_mono (ok' := (fun k_ => ((fun k_ => (w.heap.size ≤ k_) ∧ some k_ ≠ (.slice Ao56 t379.length co56 : Value).ownBlock ∧ some k_ ≠ (.slice Ao61 t385.length co61 : Value).ownBlock ∧ k_ ≠ gb377 ∧ k_ ≠ gb378 ∧ k_ ≠ gb388)) k_ ∧ k_ ≠ go46)) (Kd.R_types (Kd.R_types (Kd.R_types (Kd.R_apart' (HO427.out) (Kd.N_typed HO384.out) (by decide)) BK377.out (by decide)) BK378.out (by decide)) BK388.out (by decide)) (fun k_ hk => ⟨⟨hk.1.1.1.1.1, ⟨hk.1.1.1.1.2.1, ⟨hk.1.1.1.1.2.2, ⟨hk.1.1.2, ⟨hk.1.2, hk.2⟩⟩⟩⟩⟩, fun e_ => (hk.1.1.1.2) (by rw [e_]; rfl)⟩)))) (fun _ hk => hk)).1
 rw [← Ny428.out] at HP70
 have HQ70 := K_ HP70
 clear hcl70 hcc70 hfr70 hM70 HP70
 refine hK.out _ _ hHN_ (fun hHeld => ?_)
 clear hK K
 refine norm_ (a' := ?_) ?_ ?_
 rotate_left
 ·show Act.put _ (some 62) _ = _
  simp only [P_, i64_w, i32_w]
  rfl
 refine pure_ (i := 11) (N := some 63) (v := ?_) (a' := ?_) (M_ 14 4095) rfl rfl (any_of HT_.out (by kernel_rfl)) (fun _ _ _ h => h) (Or.inl ⟨by rfl, ?_⟩) ?_ ?_
 rotate_left
 ·intro w'
  go_simp
  with_reducible rfl
 rotate_left
 ·simp only [P_, i64_w, i32_w]
  rfl
 refine pure_ (i := 12) (N := some 64) (v := ?_) (a' := ?_) (M_ 14 8191) rfl rfl (any_of HT_.out (by kernel_rfl)) (fun _ _ _ h => h) (Or.inl ⟨by rfl, ?_⟩) ?_ ?_
 rotate_left
 ·intro w'
  go_simp
  with_reducible rfl
 rotate_left
 ·simp only [P_, i64_w, i32_w]
  rfl
 refine last_ (i := 13) (N := none) (M_ 14 16383) rfl rfl (one_of HT_.out (by kernel_rfl)) (by decide) (fun K hK => ?_)
 refine skip_ (w1 := ?_) (by rfl) rfl ?_ ?_
 rotate_left
 ·go_simp
  rfl
 refine hK.out _ _ ?_
 clear hK K
 refine done_ (done_of HT_.out (by kernel_rfl)) ?_
 obtain ⟨clz_, GGz_⟩ := Kd.N_typed HO384.out go46 rfl
 have GG46 := K_ GGz_
 have n0_ : Aside0 (Kd.R (Kd.int .i64) 3 (w69.setCell ⟨go46, (a1 : Int).toNat * 3 + 1, none⟩ ((.slice Az_v426 y425.length cz_v426 : Value))) w.heap.size (fun k_ => (w.heap.size ≤ k_) ∧ some k_ ≠ (.slice Ao61 t385.length co61 : Value).ownBlock) (.slice Ao56 t379.length co56) t379) := ⟨by exact Kd.R_mono (Kd.R_far (p := ⟨go46, (a1 : Int).toNat * 3 + 1, none⟩) (Kd.R_types HO381.out GG46.out (by decide)) (fun _ hk => hk.2) ((.slice Az_v426 y425.length cz_v426 : Value))) (fun _ hk => ⟨hk.1.1.1, hk.1.1.2⟩)⟩
 have n1_ : Aside0 (Kd.N k35 35 (w69.setCell ⟨go46, (a1 : Int).toNat * 3 + 1, none⟩ ((.slice Az_v426 y425.length cz_v426 : Value))) w.heap.size (fun k_ => (w.heap.size ≤ k_) ∧ some k_ ≠ (.slice Ao56 t379.length co56 : Value).ownBlock ∧ some k_ ≠ (.slice Ao61 t385.length co61 : Value).ownBlock ∧ k_ ≠ gb377 ∧ k_ ≠ gb378 ∧ k_ ≠ gb388) (.slice (some ⟨go46, 0, none⟩) t382.length co60) y428) := ⟨HQ70.out⟩
 have n2_ : Aside0 (Kd.R (Kd.int .i64) 3 (w69.setCell ⟨go46, (a1 : Int).toNat * 3 + 1, none⟩ ((.slice Az_v426 y425.length cz_v426 : Value))) w.heap.size (fun k_ => (w.heap.size ≤ k_) ∧ some k_ ≠ (.slice Ao56 t379.length co56 : Value).ownBlock) (.slice Ao61 t385.length co61) t385) := ⟨by exact Kd.R_mono (Kd.R_far (p := ⟨go46, (a1 : Int).toNat * 3 + 1, none⟩) (Kd.R_types HO387.out GG46.out (by decide)) (fun _ hk => hk.2) ((.slice Az_v426 y425.length cz_v426 : Value))) (fun _ hk => ⟨hk.1.1.1, hk.1.1.2⟩)⟩
 have n3_ : Aside0 (Kd.V (Kd.int .i64) 3 (w69.setCell ⟨go46, (a1 : Int).toNat * 3 + 1, none⟩ ((.slice Az_v426 y425.length cz_v426 : Value))) w.heap.size (fun k_ => (w.heap.size ≤ k_) ∧ some k_ ≠ (.slice Ao56 t379.length co56 : Value).ownBlock ∧ some k_ ≠ (.slice (some ⟨go46, 0, none⟩) t382.length co60 : Value).ownBlock ∧ some k_ ≠ (.slice Ao61 t385.length co61 : Value).ownBlock ∧ k_ ≠ gb377 ∧ k_ ≠ gb378 ∧ k_ ≠ gb388) (.slice A389_1 ((rd_T35 t382 a1).f1).length c389_1) ((rd_T35 t382 a1).f1)) := ⟨by exact Kd.V_mono (Kd.V_far (p := ⟨go46, (a1 : Int).toNat * 3 + 1, none⟩) (Kd.V_mono HL389_1.out (fun k_ hk => (⟨hk, fun e_ => hk.1.2.2.1 (by rw [e_]; rfl)⟩ : _ ∧ k_ ≠ go46))) (fun _ hk => hk.2) ((.slice Az_v426 y425.length cz_v426 : Value))) (fun _ hk => ⟨hk.1.1.1, ⟨hk.1.1.2.1, ⟨hk.1.1.2.2.1, ⟨hk.1.1.2.2.2.1, ⟨hk.1.1.2.2.2.2.1, ⟨hk.1.1.2.2.2.2.2.1, hk.1.1.2.2.2.2.2.2⟩⟩⟩⟩⟩⟩)⟩
 have n4_ : Aside0 (Kd.V (Kd.int .i64) 3 (w69.setCell ⟨go46, (a1 : Int).toNat * 3 + 1, none⟩ ((.slice Az_v426 y425.length cz_v426 : Value))) w.heap.size (fun k_ => (w.heap.size ≤ k_) ∧ some k_ ≠ (.slice Ao56 t379.length co56 : Value).ownBlock ∧ some k_ ≠ (.slice (some ⟨go46, 0, none⟩) t382.length co60 : Value).ownBlock ∧ some k_ ≠ (.slice Ao61 t385.length co61 : Value).ownBlock ∧ k_ ≠ gb377 ∧ k_ ≠ gb378 ∧ k_ ≠ gb388) (.slice (some ad417) ((rd_T35 t382 a1).f1).length c416_1) ((rd_T35 t382 a1).f1)) := ⟨by exact Kd.V_mono (Kd.V_far (p := ⟨go46, (a1 : Int).toNat * 3 + 1, none⟩) (Kd.V_mono HL416_1.out (fun k_ hk => (⟨hk, fun e_ => hk.1.2.2.1 (by rw [e_]; rfl)⟩ : _ ∧ k_ ≠ go46))) (fun _ hk => hk.2) ((.slice Az_v426 y425.length cz_v426 : Value))) (fun _ hk => ⟨hk.1.1.1, ⟨hk.1.1.2.1, ⟨hk.1.1.2.2.1, ⟨hk.1.1.2.2.2.1, ⟨hk.1.1.2.2.2.2.1, ⟨hk.1.1.2.2.2.2.2.1, hk.1.1.2.2.2.2.2.2⟩⟩⟩⟩⟩⟩)⟩
 have n5_ : Aside0 (Kd.V (Kd.int .i64) 3 (w69.setCell ⟨go46, (a1 : Int).toNat * 3 + 1, none⟩ ((.slice Az_v426 y425.length cz_v426 : Value))) w.heap.size (fun k_ => (w.heap.size ≤ k_) ∧ some k_ ≠ (.slice Ao56 t379.length co56 : Value).ownBlock ∧ some k_ ≠ (.slice (some ⟨go46, 0, none⟩) t382.length co60 : Value).ownBlock ∧ some k_ ≠ (.slice Ao61 t385.length co61 : Value).ownBlock ∧ k_ ≠ gb377 ∧ k_ ≠ gb378 ∧ k_ ≠ gb388) (.slice A419_1 ((rd_T35 y418 a1).f1).length c419_1) ((rd_T35 y418 a1).f1)) := ⟨by exact Kd.V_mono (Kd.V_far (p := ⟨go46, (a1 : Int).toNat * 3 + 1, none⟩) (Kd.V_mono HL419_1.out (fun k_ hk => (⟨hk, fun e_ => hk.1.2 (by rw [e_]; rfl)⟩ : _ ∧ k_ ≠ go46))) (fun _ hk => hk.2) ((.slice Az_v426 y425.length cz_v426 : Value))) (fun _ hk => ⟨hk.1.1.1.1, ⟨hk.1.1.1.2.1, ⟨hk.1.1.2, ⟨hk.1.1.1.2.2.1, ⟨hk.1.1.1.2.2.2.1, ⟨hk.1.1.1.2.2.2.2.1, hk.1.1.1.2.2.2.2.2⟩⟩⟩⟩⟩⟩)⟩
 have n6_ : Aside0 (Kd.V (Kd.int .i64) 3 (w69.setCell ⟨go46, (a1 : Int).toNat * 3 + 1, none⟩ ((.slice Az_v426 y425.length cz_v426 : Value))) w.heap.size (fun k_ => (w.heap.size ≤ k_) ∧ some k_ ≠ (.slice Ao56 t379.length co56 : Value).ownBlock ∧ some k_ ≠ (.slice (some ⟨go46, 0, none⟩) t382.length co60 : Value).ownBlock ∧ some k_ ≠ (.slice Ao61 t385.length co61 : Value).ownBlock ∧ k_ ≠ gb377 ∧ k_ ≠ gb378 ∧ k_ ≠ gb388) (.slice A68 y420.length c68) y420) := ⟨by exact Kd.V_mono (Kd.V_far (p := ⟨go46, (a1 : Int).toNat * 3 + 1, none⟩) (Kd.V_mono HO424.out (fun k_ hk => (⟨hk, fun e_ => hk.1.2 (by rw [e_]; rfl)⟩ : _ ∧ k_ ≠ go46))) (fun _ hk => hk.2) ((.slice Az_v426 y425.length cz_v426 : Value))) (fun _ hk => ⟨hk.1.1.1.1, ⟨hk.1.1.1.2.1, ⟨hk.1.1.2, ⟨hk.1.1.1.2.2.1, ⟨hk.1.1.1.2.2.2.1, ⟨hk.1.1.1.2.2.2.2.1, hk.1.1.1.2.2.2.2.2⟩⟩⟩⟩⟩⟩)⟩
 have n7_ : Aside0 ((w69.setCell ⟨go46, (a1 : Int).toNat * 3 + 1, none⟩ ((.slice Az_v426 y425.length cz_v426 : Value))).heap[gb377]? = some (.cells #[.slice A0_0 l0_0.length c0_0, .slice A0_1 l0_1.length c0_1, .slice A0_2 l0_2.length c0_2] 26 (0, 0))) := ⟨by refine blk_far ?_ (by have h_ := Kd.N_away HX70.out (fun _ hk => hk.2.2.2.1); intro e_; exact h_ (by rw [e_]; rfl)) _; exact BK377.out⟩
 have n8_ : Aside0 ((w69.setCell ⟨go46, (a1 : Int).toNat * 3 + 1, none⟩ ((.slice Az_v426 y425.length cz_v426 : Value))).heap[gb378]? = some (.cells #[.slice none 0 0, .slice none 0 0, .slice none 0 0] 26 (0, 0))) := ⟨by refine blk_far ?_ (by have h_ := Kd.N_away HX70.out (fun _ hk => hk.2.2.2.2.1); intro e_; exact h_ (by rw [e_]; rfl)) _; exact BK378.out⟩
 have n9_ : Aside0 ((w69.setCell ⟨go46, (a1 : Int).toNat * 3 + 1, none⟩ ((.slice Az_v426 y425.length cz_v426 : Value))).heap[gb388]? = some (.cells #[.slice Ao56 t379.length co56, .slice (some ⟨go46, 0, none⟩) t382.length co60, .slice Ao61 t385.length co61] 26 (0, 0))) := ⟨by refine blk_far ?_ (by have h_ := Kd.N_away HX70.out (fun _ hk => hk.2.2.2.2.2); intro e_; exact h_ (by rw [e_]; rfl)) _; exact BK388.out⟩
 have n10_ : Aside0 (Below w.heap.size w (w69.setCell ⟨go46, (a1 : Int).toNat * 3 + 1, none⟩ ((.slice Az_v426 y425.length cz_v426 : Value)))) := ⟨by repeat (first | exact HB.out | refine below_set ?_ GB46.out | refine below_set ?_ GE377.out | refine below_set ?_ GE378.out | refine below_set ?_ GE388.out)⟩
 clear HO381
 clear HO384
 clear HO387
 clear HL389_1
 clear HL416_1
 clear HL419_1
 clear HO424
 clear BK377
 clear BK378
 clear BK388
 clear HB
 generalize (w69.setCell ⟨go46, (a1 : Int).toNat * 3 + 1, none⟩ ((.slice Az_v426 y425.length cz_v426 : Value))) = w71 at n0_ n1_ n2_ n3_ n4_ n5_ n6_ n7_ n8_ n9_ n10_ ⊢
 have HO381 := n0_
 have HO384 := n1_
 have HO387 := n2_
 have HL389_1 := n3_
 have HL416_1 := n4_
 have HL419_1 := n5_
 have HO424 := n6_
 have BK377 := n7_
 have BK378 := n8_
 have BK388 := n9_
 have HB := n10_
 clear n0_ n1_ n2_ n3_ n4_ n5_ n6_ n7_ n8_ n9_ n10_
 obtain ⟨hcz72_0, hcz72_1, hcz72_2, hfz72_0, hfz72_1, hfz72_2⟩ := blkf3_ BK388.out
 obtain ⟨hcz73_0, hcz73_1, hcz73_2, hfz73_0, hfz73_1, hfz73_2⟩ := blkf3_ BK378.out
 try go_wp2
 refine bodyPost_ret (results_cell_row rfl _ _ gb378 26 #[.slice Ao56 t379.length co56, .slice (some ⟨go46, 0, none⟩) t382.length co60, .slice Ao61 t385.length co61] (0, 0) _ rfl (by refine blk_put (cs := #[.slice Ao56 t379.length co56, .slice (some ⟨go46, 0, none⟩) t382.length co60, .slice none 0 0]) ?_ 2 _ rfl; refine blk_put (cs := #[.slice Ao56 t379.length co56, .slice none 0 0, .slice none 0 0]) ?_ 1 _ rfl; refine blk_put (cs := #[.slice none 0 0, .slice none 0 0, .slice none 0 0]) ?_ 0 _ rfl; exact BK378.out) Try.underlying26 rfl (by kernel_rfl)) rfl ?_
 exact ⟨_, _, _, rfl, by exact Kd.R_mono (Kd.R_far (p := ⟨gb378, 2, none⟩) (Kd.R_far (p := ⟨gb378, 1, none⟩) (Kd.R_far (p := ⟨gb378, 0, none⟩) (Kd.R_types HO381.out BK378.out (by decide)) (fun _ hk => hk.2) (.slice Ao56 t379.length co56)) (fun _ hk => hk.2) (.slice (some ⟨go46, 0, none⟩) t382.length co60)) (fun _ hk => hk.2) (.slice Ao61 t385.length co61)) (fun _ hk => ⟨hk.1.1, hk.1.2⟩), by exact Kd.N_mono (Kd.N_far (p := ⟨gb378, 2, none⟩) (Kd.N_far (p := ⟨gb378, 1, none⟩) (Kd.N_far (p := ⟨gb378, 0, none⟩) (Kd.N_mono HO384.out (fun k_ hk => (⟨hk, hk.2.2.2.2.1⟩ : _ ∧ k_ ≠ gb378))) (fun _ hk => hk.2) (.slice Ao56 t379.length co56)) (fun _ hk => hk.2) (.slice (some ⟨go46, 0, none⟩) t382.length co60)) (fun _ hk => hk.2) (.slice Ao61 t385.length co61)) (fun _ hk => ⟨hk.1.1, ⟨hk.1.2.1, hk.1.2.2.1⟩⟩), by exact Kd.R_mono (Kd.R_far (p := ⟨gb378, 2, none⟩) (Kd.R_far (p := ⟨gb378, 1, none⟩) (Kd.R_far (p := ⟨gb378, 0, none⟩) (Kd.R_types HO387.out BK378.out (by decide)) (fun _ hk => hk.2) (.slice Ao56 t379.length co56)) (fun _ hk => hk.2) (.slice (some ⟨go46, 0, none⟩) t382.length co60)) (fun _ hk => hk.2) (.slice Ao61 t385.length co61)) (fun _ hk => ⟨hk.1.1, hk.1.2⟩), by repeat (first | exact HB.out | refine below_set ?_ GE377.out | refine below_set ?_ GE378.out | refine below_set ?_ GE388.out)⟩


/-! ### laws_eqIntS: function 36 -/
def laws_eqIntS.l0 : Nat → List Int → List Int → Int → Option (Bool)
 | 0, _, _, _ => none
 | k + 1, x0, x1, x5 => if x5 < (x0.length : Int) then (if 0 ≤ x5 then (if x5 < (x1.length : Int) then (if (rd x0 x5) = (rd x1 x5) then (laws_eqIntS.l0 k x0 x1 (wrap64 (x5 + 1))) else (some false)) else (none)) else (none)) else (some true)
def laws_eqIntS.f (k : Nat) (l0 : List Int) (l1 : List Int) : Option (Bool) := if (l0.length : Int) = (l1.length : Int) then (laws_eqIntS.l0 k l0 l1 0) else (some false)
theorem laws_eqIntS.mono_l : ∀ k, (∀ y0 y1 y2, LeO (laws_eqIntS.l0 k y0 y1 y2) (laws_eqIntS.l0 (k + 1) y0 y1 y2))
 | 0 => fun _ _ _ r h => by simp [laws_eqIntS.l0] at h
 | k + 1 => by
  have ih0 := laws_eqIntS.mono_l k
  ·intro y0 y1 y2
   unfold laws_eqIntS.l0
   repeat' with_reducible first | exact ih0 _ _ _ | exact LeO.refl _ | exact LeO.none _ | refine LeO.ite ?_ ?_ | refine LeO.bind ?_ (fun _ => ?_)
theorem laws_eqIntS.mono : ∀ a0 a1 k, LeO (laws_eqIntS.f k a0 a1) (laws_eqIntS.f (k + 1) a0 a1) := by
 intro a0 a1 k
 have ih0 := laws_eqIntS.mono_l k
 unfold laws_eqIntS.f
 repeat' with_reducible first | exact ih0 _ _ _ | exact LeO.refl _ | exact LeO.none _ | refine LeO.ite ?_ ?_ | refine LeO.bind ?_ (fun _ => ?_)

/-! ### laws_eqTrain: function 90 -/
def laws_eqTrain.f (k : Nat) (a0_0 : Int) (l0_1 : List Int) (a0_2 : Int) (a1_0 : Int) (l1_1 : List Int) (a1_2 : Int) : Option (Bool) := if a0_0 = a1_0 then ((laws_eqIntS.f k l0_1 l1_1).bind fun t523 => (if t523 = true then (if a0_2 = a1_2 then (some true) else (some false)) else (some false))) else (some false)
theorem laws_eqTrain.mono : ∀ a0 a1 a2 a3 a4 a5 k, LeO (laws_eqTrain.f k a0 a1 a2 a3 a4 a5) (laws_eqTrain.f (k + 1) a0 a1 a2 a3 a4 a5) := by
 intro a0 a1 a2 a3 a4 a5 k
 unfold laws_eqTrain.f
 repeat' with_reducible first | exact laws_eqIntS.mono _ _ _ | exact LeO.refl _ | exact LeO.none _ | refine LeO.ite ?_ ?_ | refine LeO.bind ?_ (fun _ => ?_)

/-! ### laws_eqTrainS: function 75 -/
def laws_eqTrainS.l0 : Nat → List (S35) → List (S35) → Int → Option (Bool)
 | 0, _, _, _ => none
 | k + 1, x0, x1, x5 => if x5 < (x0.length : Int) then (if 0 ≤ x5 then (if x5 < (x1.length : Int) then ((laws_eqTrain.f k ((rd_T35 x0 x5).f0) ((rd_T35 x0 x5).f1) ((rd_T35 x0 x5).f2) ((rd_T35 x1 x5).f0) ((rd_T35 x1 x5).f1) ((rd_T35 x1 x5).f2)).bind fun t526 => (if t526 = true then (laws_eqTrainS.l0 k x0 x1 (wrap64 (x5 + 1))) else (some false))) else (none)) else (none)) else (some true)
def laws_eqTrainS.f (k : Nat) (l0 : List (S35)) (l1 : List (S35)) : Option (Bool) := if (l0.length : Int) = (l1.length : Int) then (laws_eqTrainS.l0 k l0 l1 0) else (some false)
theorem laws_eqTrainS.mono_l : ∀ k, (∀ y0 y1 y2, LeO (laws_eqTrainS.l0 k y0 y1 y2) (laws_eqTrainS.l0 (k + 1) y0 y1 y2))
 | 0 => fun _ _ _ r h => by simp [laws_eqTrainS.l0] at h
 | k + 1 => by
  have ih0 := laws_eqTrainS.mono_l k
  ·intro y0 y1 y2
   unfold laws_eqTrainS.l0
   repeat' with_reducible first | exact ih0 _ _ _ | exact laws_eqTrain.mono _ _ _ _ _ _ _ | exact LeO.refl _ | exact LeO.none _ | refine LeO.ite ?_ ?_ | refine LeO.bind ?_ (fun _ => ?_)
theorem laws_eqTrainS.mono : ∀ a0 a1 k, LeO (laws_eqTrainS.f k a0 a1) (laws_eqTrainS.f (k + 1) a0 a1) := by
 intro a0 a1 k
 have ih0 := laws_eqTrainS.mono_l k
 unfold laws_eqTrainS.f
 repeat' with_reducible first | exact ih0 _ _ _ | exact laws_eqTrain.mono _ _ _ _ _ _ _ | exact LeO.refl _ | exact LeO.none _ | refine LeO.ite ?_ ?_ | refine LeO.bind ?_ (fun _ => ?_)
def laws_eqTrainS.T6 : Bool × List (List Nat × List Nat) := (true, [([], []), ([], []), ([0, 1], [0, 1]), ([2], [2]), ([], []), ([], []), ([4, 5], [4, 5]), ([6], [6]), ([3, 7], [3, 7]), ([8], [8])])
def laws_eqTrainS.B6 : List Nat := [0, 0, 3, 7, 0, 0, 48, 112, 255, 511]
theorem laws_eqTrainS.tab6 : rtab .any (opsOf Try.f75 6) = laws_eqTrainS.T6 := by kernel_rfl
theorem laws_eqTrainS.bits6 : waitsOk laws_eqTrainS.T6.2 laws_eqTrainS.B6 = true := by kernel_rfl

/-! ### laws_eqState: function 31 -/
def laws_eqState.f (k : Nat) (l0_0 : List Int) (l0_1 : List (S35)) (l0_2 : List Int) (l1_0 : List Int) (l1_1 : List (S35)) (l1_2 : List Int) : Option (Bool) := (laws_eqIntS.f k l0_0 l1_0).bind fun t529 => (if t529 = true then ((laws_eqTrainS.f k l0_1 l1_1).bind fun t530 => (if t530 = true then ((laws_eqIntS.f k l0_2 l1_2).bind fun t531 => (if t531 = true then (some true) else (some false))) else (some false))) else (some false))
theorem laws_eqState.mono : ∀ a0 a1 a2 a3 a4 a5 k, LeO (laws_eqState.f k a0 a1 a2 a3 a4 a5) (laws_eqState.f (k + 1) a0 a1 a2 a3 a4 a5) := by
 intro a0 a1 a2 a3 a4 a5 k
 unfold laws_eqState.f
 repeat' with_reducible first | exact laws_eqIntS.mono _ _ _ | exact laws_eqTrainS.mono _ _ _ | exact LeO.refl _ | exact LeO.none _ | refine LeO.ite ?_ ?_ | refine LeO.bind ?_ (fun _ => ?_)

end Go.Proofs.Ytpbclogjoangfaa.Q
