-- Written by programs of this session (wip/drv.py, wip/mkclaim.py) over the kit's print; not trusted: Lean checks it.
import Derived.Test.YtkcocomehhlpmaaDoorFnSpoiltQ0
namespace Go.Proofs.YtkcocomehhlpmaaDoor.Q
open Go.RowKit Go.Proofs.YtkcocomehhlpmaaDoorW.PrintWords Go.Proofs.YtkcocomehhlpmaaDoorW.PrintLast Go.Proofs.YtkcocomehhlpmaaDoorW.PrintMore
attribute [local go_sem] max2_int min2_int max_two min_two max_three min_three max_four min_four   -- for this text's walks alone
set_option linter.unusedVariables false
set_option linter.unusedSimpArgs false

/-! ### impl_free: function 45 -/
def impl_free.l0 : Nat → Int → Int → List (S48) → Int → Int → Option (Int)
 | 0, _, _, _, _, _ => none
 | k + 1, x1, x5, x14, x15, x16 => if x16 < x15 then (if 0 ≤ x16 then (if x16 < (x14.length : Int) then (if ((rd_T48 x14 x16).f0) = x1 then (impl_free.l0 k x1 (wrap64 (x5 - 1)) x14 x15 (wrap64 (x16 + 1))) else (impl_free.l0 k x1 x5 x14 x15 (wrap64 (x16 + 1)))) else (none)) else (none)) else (some x5)
def impl_free.f (k : Nat) (l0_0 : List Int) (l0_1 : List (S48)) (l0_2 : List Int) (a1 : Int) : Option (Int) := if 0 ≤ a1 then (if a1 < (l0_0.length : Int) then (impl_free.l0 k a1 (rd l0_0 a1) l0_1 (l0_1.length : Int) 0) else (none)) else (none)
theorem impl_free.mono_l : ∀ k, (∀ y0 y1 y2 y3 y4, LeO (impl_free.l0 k y0 y1 y2 y3 y4) (impl_free.l0 (k + 1) y0 y1 y2 y3 y4))
 | 0 => fun _ _ _ _ _ r h => by simp [impl_free.l0] at h
 | k + 1 => by
  have ih0 := impl_free.mono_l k
  ·intro y0 y1 y2 y3 y4
   unfold impl_free.l0
   repeat' with_reducible first | exact ih0 _ _ _ _ _ | exact LeO.refl _ | exact LeO.none _ | refine LeO.ite ?_ ?_ | refine LeO.bind ?_ (fun _ => ?_)
theorem impl_free.mono : ∀ a0 a1 a2 a3 k, LeO (impl_free.f k a0 a1 a2 a3) (impl_free.f (k + 1) a0 a1 a2 a3) := by
 intro a0 a1 a2 a3 k
 have ih0 := impl_free.mono_l k
 unfold impl_free.f
 repeat' with_reducible first | exact ih0 _ _ _ _ _ | exact LeO.refl _ | exact LeO.none _ | refine LeO.ite ?_ ?_ | refine LeO.bind ?_ (fun _ => ?_)
set_option maxHeartbeats 8000000 in
set_option maxRecDepth 100000 in
theorem impl_free.calls (k : Nat) (A0_0 : Option Addr) (c0_0 : Nat) (l0_0 : List Int) (A0_1 : Option Addr) (c0_1 : Nat) (l0_1 : List (S48)) (A0_2 : Option Addr) (c0_2 : Nat) (l0_2 : List Int) (a1 : Int) (r : Int) (w : World) (hr0_0 : Kd.C (Kd.int .i64) w A0_0 l0_0.length l0_0) (hc0_0 : l0_0.length ≤ c0_0) (hr0_1 : Kd.C k48 w A0_1 l0_1.length l0_1) (hc0_1 : l0_1.length ≤ c0_1) (hr0_2 : Kd.C (Kd.int .i64) w A0_2 l0_2.length l0_2) (hc0_2 : l0_2.length ≤ c0_2) (h : impl_free.f k l0_0 l0_1 l0_2 a1 = some r) :
  Calls Tryd.prog 45 #[.agg #[.slice A0_0 l0_0.length c0_0, .slice A0_1 l0_1.length c0_1, .slice A0_2 l0_2.length c0_2], .int .i64 a1] w fun e w' => e = .returned (.int .i64 r) ∧ Below w.heap.size w w' := by
 have hu30 := Tryd.underlying30
 have hu48 := Tryd.underlying48
 have HR0_0 := K_ hr0_0
 have HC0_0 := K_ hc0_0
 clear hr0_0 hc0_0
 have HR0_1 := K_ hr0_1
 have HC0_1 := K_ hc0_1
 clear hr0_1 hc0_1
 have HR0_2 := K_ hr0_2
 have HC0_2 := K_ hc0_2
 clear hr0_2 hc0_2
 have HB := K_ (Below.refl w.heap.size w)
 unfold impl_free.f at h
 have H := h
 clear h
 replace H := dn_ H
 obtain ⟨c3b0, H⟩ := H
 replace H := dn_ H
 obtain ⟨c4b0, H⟩ := H
 have H' := K_ H
 clear H
 go_enter Tryd.func45, Tryd.ntmps45
 go_wp2_with (first | ((with_reducible refine gate_dst (N := 2) rfl ?_); refine box_event (by rfl) (N := 2) (by rfl) (cs := #[.slice A0_0 l0_0.length c0_0, .slice A0_1 l0_1.length c0_1, .slice A0_2 l0_2.length c0_2]) (t := 30) (by go_simp; try rfl) ?_; intro gb304 hg w5 hbox hb; have BK304 := K_ (hbox); have GW304 := ge_ hg HB.out; have GE304 := ge_ hg HB.out; replace HB := K_ (below_step HB.out hb); clear hb hbox hg; obtain ⟨hcz6_0, hcz6_1, hcz6_2, hfz6_0, hfz6_1, hfz6_2⟩ := blkf3_ BK304.out; have p305 : 0 ≤ (a1 : Int) := of_decide_eq_true (by assumption); have q305 : a1 < (l0_0.length : Int) := of_decide_eq_true (by assumption); obtain ⟨ad305, e305, hx305_0⟩ := Kd.at_int HR0_0.out a1 p305 q305; cases e305; replace hx305_0 := (HB.out.cell (World.block_lt_of_cell? w _ hx305_0)).trans hx305_0; replace p305 := eq_true p305; replace q305 := eq_true q305))
 go_loopg [5, 16] k (fun kq v5 v16 w' => ∃ (x5_1 : Int) (x16_1 : Int), v5 = .int .i64 x5_1 ∧ v16 = .int .i64 x16_1 ∧ Aside0 (impl_free.l0 kq a1 x5_1 l0_1 (l0_1.length : Int) x16_1 = some r) ∧ Aside0 (kq ≤ k) ∧ Aside0 (w'.heap[gb304]? = some (.cells #[(.slice (some ad305) l0_0.length c0_0), (.slice A0_1 l0_1.length c0_1), (.slice A0_2 l0_2.length c0_2)] 30 (0, 0))) ∧ Aside0 (Below w.heap.size w w'))
 case atStart => exact ⟨(rd l0_0 a1), (0), rfl, rfl, H', ⟨Nat.le_refl _⟩, ⟨BK304.out⟩, ⟨HB.out⟩⟩
 case round =>
  clear H'
  clear c4b0 hcz6_0 hcz6_1 hcz6_2 hfz6_0 hfz6_1 hfz6_2 hx305_0 p305 q305
  obtain ⟨x5_1, x16_1, rfl, rfl, HA, HK1, BK304, HB⟩ := hrel
  cases gk with
  | zero => exact absurd HA.out (by simp [impl_free.l0])
  | succ k1 =>
   have H := HA.out
   clear HA
   simp only [impl_free.l0] at H
   replace H := ds_ H
   rcases H with ⟨c7b0, H⟩ | ⟨c7b0, H⟩
   case inr =>
    obtain rfl := Option.some.inj H
    go_wp2
    go_ret
    exact ⟨rfl, HB.out⟩
   replace H := dn_ H
   obtain ⟨c8b0, H⟩ := H
   replace H := dn_ H
   obtain ⟨c9b0, H⟩ := H
   replace H := ps_ H
   rcases H with ⟨c10, H⟩ | ⟨c10, H⟩
   case inr =>
    have c10b0 := beq_eq_false_iff_ne.mpr c10
    have c10b1 := bne_iff_ne.mpr c10
    have H' := K_ H
    clear H
    have p306 : 0 ≤ (x16_1 : Int) := of_decide_eq_true (by assumption)
    have q306 : x16_1 < (l0_1.length : Int) := of_decide_eq_true (by assumption)
    obtain ⟨ad306, A306_1, c306_1, e306, hx306_0, hx306_1, hx306_2, hl306_1, hi306_1⟩ := at_T48 HR0_1.out x16_1 p306 q306
    cases e306
    replace hx306_0 := (HB.out.cell (World.block_lt_of_cell? w _ hx306_0)).trans hx306_0
    replace hx306_1 := (HB.out.cell (World.block_lt_of_cell? w _ hx306_1)).trans hx306_1
    replace hx306_2 := (HB.out.cell (World.block_lt_of_cell? w _ hx306_2)).trans hx306_2
    have HR306_1 := K_ hi306_1
    have HC306_1 := K_ hl306_1
    clear hi306_1 hl306_1
    replace p306 := eq_true p306
    replace q306 := eq_true q306
    go_wp2_with (first | ((with_reducible refine gate_dst (N := 7) rfl ?_); refine box_event (by rfl) (N := 7) (by rfl) (cs := #[.int .i64 0, .slice none 0 0, .int .i64 0]) (t := 48) (by go_simp; try rfl) ?_; intro gb307 hg w14 hbox hb; have BK307 := K_ (hbox); have GW307 := ge_ hg HB.out; have GE307 := ge_ hg HB.out; have NB304_307 := nl_ hg BK304.out; have NB307_304 := ng_ hg BK304.out; replace BK304 := K_ (blk_below BK304.out hb); replace HB := K_ (below_step HB.out hb); clear hb hbox hg; have hnb15 := NB307_304.out; have hnc15 := NB304_307.out; obtain ⟨hcz16_0, hcz16_1, hcz16_2, hfz16_0, hfz16_1, hfz16_2⟩ := blkf3_ BK307.out))
    go_roundg k1
    case measure => have := HK1.out; omega
    case rel => exact ⟨(x5_1), (wrap64 (x16_1 + 1)), rfl, rfl, H', ⟨by have := HK1.out; omega⟩, ⟨by refine blk_far ?_ NB304_307.out _; refine blk_far ?_ NB304_307.out _; refine blk_far ?_ NB304_307.out _; exact BK304.out⟩, ⟨by repeat (first | exact HB.out | refine below_set ?_ GE304.out | refine below_set ?_ GE307.out)⟩⟩
   have c10b0 := beq_iff_eq.mpr c10
   have c10b1 := bne_eq_false_iff_eq.mpr c10
   clear c10
   have H' := K_ H
   clear H
   have p306 : 0 ≤ (x16_1 : Int) := of_decide_eq_true (by assumption)
   have q306 : x16_1 < (l0_1.length : Int) := of_decide_eq_true (by assumption)
   obtain ⟨ad306, A306_1, c306_1, e306, hx306_0, hx306_1, hx306_2, hl306_1, hi306_1⟩ := at_T48 HR0_1.out x16_1 p306 q306
   cases e306
   replace hx306_0 := (HB.out.cell (World.block_lt_of_cell? w _ hx306_0)).trans hx306_0
   replace hx306_1 := (HB.out.cell (World.block_lt_of_cell? w _ hx306_1)).trans hx306_1
   replace hx306_2 := (HB.out.cell (World.block_lt_of_cell? w _ hx306_2)).trans hx306_2
   have HR306_1 := K_ hi306_1
   have HC306_1 := K_ hl306_1
   clear hi306_1 hl306_1
   replace p306 := eq_true p306
   replace q306 := eq_true q306
   go_wp2_with (first | ((with_reducible refine gate_dst (N := 7) rfl ?_); refine box_event (by rfl) (N := 7) (by rfl) (cs := #[.int .i64 0, .slice none 0 0, .int .i64 0]) (t := 48) (by go_simp; try rfl) ?_; intro gb307 hg w11 hbox hb; have BK307 := K_ (hbox); have GW307 := ge_ hg HB.out; have GE307 := ge_ hg HB.out; have NB304_307 := nl_ hg BK304.out; have NB307_304 := ng_ hg BK304.out; replace BK304 := K_ (blk_below BK304.out hb); replace HB := K_ (below_step HB.out hb); clear hb hbox hg; have hnb12 := NB307_304.out; have hnc12 := NB304_307.out; obtain ⟨hcz13_0, hcz13_1, hcz13_2, hfz13_0, hfz13_1, hfz13_2⟩ := blkf3_ BK307.out))
   go_roundg k1
   case measure => have := HK1.out; omega
   case rel => exact ⟨(wrap64 (x5_1 - 1)), (wrap64 (x16_1 + 1)), rfl, rfl, H', ⟨by have := HK1.out; omega⟩, ⟨by refine blk_far ?_ NB304_307.out _; refine blk_far ?_ NB304_307.out _; refine blk_far ?_ NB304_307.out _; exact BK304.out⟩, ⟨by repeat (first | exact HB.out | refine below_set ?_ GE304.out | refine below_set ?_ GE307.out)⟩⟩


/-! ### impl_can: function 30 -/
def impl_can.f (k : Nat) (l0_0 : List Int) (l0_1 : List (S48)) (l0_2 : List Int) (a1 : Int) : Option (Bool) := if 0 ≤ a1 then (if a1 < (l0_1.length : Int) then (if (((rd_T48 l0_1 a1).f1).length : Int) = 0 then (some true) else (if 0 < (((rd_T48 l0_1 a1).f1).length : Int) then ((impl_free.f k l0_0 l0_1 l0_2 (rd ((rd_T48 l0_1 a1).f1) 0)).bind fun t311 => (some (decide (t311 > 0)))) else (none))) else (none)) else (none)
theorem impl_can.mono : ∀ a0 a1 a2 a3 k, LeO (impl_can.f k a0 a1 a2 a3) (impl_can.f (k + 1) a0 a1 a2 a3) := by
 intro a0 a1 a2 a3 k
 unfold impl_can.f
 repeat' with_reducible first | exact impl_free.mono _ _ _ _ _ | exact LeO.refl _ | exact LeO.none _ | refine LeO.ite ?_ ?_ | refine LeO.bind ?_ (fun _ => ?_)
def impl_can.T2 : Bool × List (List Nat × List Nat) := (true, [([], []), ([0], [0]), ([1], [1]), ([2], [2]), ([3], [3]), ([3], [3]), ([5, 3], [3, 5]), ([6, 3], [3, 6]), ([4, 7, 3, 3], [3, 4, 7]), ([8, 3], [3, 8]), ([3, 9], [3, 9]), ([10, 8, 0, 1, 2, 3, 4, 5, 6, 7, 8, 9, 10], [10])])
def impl_can.B2 : List Nat := [0, 1, 3, 7, 15, 15, 47, 111, 255, 511, 1023, 2047]
theorem impl_can.tab2 : rtab .any (opsOf Tryd.f30 2) = impl_can.T2 := by kernel_rfl
theorem impl_can.bits2 : waitsOk impl_can.T2.2 impl_can.B2 = true := by kernel_rfl
set_option maxHeartbeats 8000000 in
set_option maxRecDepth 100000 in
theorem impl_can.calls (k : Nat) (A0_0 : Option Addr) (c0_0 : Nat) (l0_0 : List Int) (A0_1 : Option Addr) (c0_1 : Nat) (l0_1 : List (S48)) (A0_2 : Option Addr) (c0_2 : Nat) (l0_2 : List Int) (a1 : Int) (r : Bool) (w : World) (hr0_0 : Kd.C (Kd.int .i64) w A0_0 l0_0.length l0_0) (hc0_0 : l0_0.length ≤ c0_0) (hr0_1 : Kd.C k48 w A0_1 l0_1.length l0_1) (hc0_1 : l0_1.length ≤ c0_1) (hr0_2 : Kd.C (Kd.int .i64) w A0_2 l0_2.length l0_2) (hc0_2 : l0_2.length ≤ c0_2) (h : impl_can.f k l0_0 l0_1 l0_2 a1 = some r) :
  Calls Tryd.prog 30 #[.agg #[.slice A0_0 l0_0.length c0_0, .slice A0_1 l0_1.length c0_1, .slice A0_2 l0_2.length c0_2], .int .i64 a1] w fun e w' => e = .returned (.bool r) ∧ Below w.heap.size w w' := by
 have hu30 := Tryd.underlying30
 have HR0_0 := K_ hr0_0
 have HC0_0 := K_ hc0_0
 clear hr0_0 hc0_0
 have HR0_1 := K_ hr0_1
 have HC0_1 := K_ hc0_1
 clear hr0_1 hc0_1
 have HR0_2 := K_ hr0_2
 have HC0_2 := K_ hc0_2
 clear hr0_2 hc0_2
 have HB := K_ (Below.refl w.heap.size w)
 unfold impl_can.f at h
 have H := h
 clear h
 replace H := dn_ H
 obtain ⟨c3b0, H⟩ := H
 replace H := dn_ H
 obtain ⟨c4b0, H⟩ := H
 replace H := ps_ H
 rcases H with ⟨c5, H⟩ | ⟨c5, H⟩
 case inl =>
  have c5b0 := beq_iff_eq.mpr c5
  have c5b1 := bne_eq_false_iff_eq.mpr c5
  clear c5
  obtain rfl := Option.some.inj H
  go_enter Tryd.func30, Tryd.ntmps30
  try go_wp2_with (first | ((with_reducible refine gate_dst (N := 2) rfl ?_); refine box_event (by rfl) (N := 2) (by rfl) (cs := #[.slice A0_0 l0_0.length c0_0, .slice A0_1 l0_1.length c0_1, .slice A0_2 l0_2.length c0_2]) (t := 30) (by go_simp; try rfl) ?_; intro gb308 hg w6 hbox hb; have BK308 := K_ (hbox); have GW308 := ge_ hg HB.out; have GE308 := ge_ hg HB.out; replace HB := K_ (below_step HB.out hb); clear hb hbox hg; obtain ⟨hcz7_0, hcz7_1, hcz7_2, hfz7_0, hfz7_1, hfz7_2⟩ := blkf3_ BK308.out; have p309 : 0 ≤ (a1 : Int) := of_decide_eq_true (by assumption); have q309 : a1 < (l0_1.length : Int) := of_decide_eq_true (by assumption); obtain ⟨ad309, A309_1, c309_1, e309, hx309_0, hx309_1, hx309_2, hl309_1, hi309_1⟩ := at_T48 HR0_1.out a1 p309 q309; cases e309; replace hx309_0 := (HB.out.cell (World.block_lt_of_cell? w _ hx309_0)).trans hx309_0; replace hx309_1 := (HB.out.cell (World.block_lt_of_cell? w _ hx309_1)).trans hx309_1; replace hx309_2 := (HB.out.cell (World.block_lt_of_cell? w _ hx309_2)).trans hx309_2; have HR309_1 := K_ hi309_1; have HC309_1 := K_ hl309_1; clear hi309_1 hl309_1; replace p309 := eq_true p309; replace q309 := eq_true q309))
  replace BK308 := K_ (blk_drew BK308.out)
  replace HB := K_ (below_drew1 HB.out)
  refine start_ (n := 12) (S := fun w' => True) (ds := []) #[ff, ff, ff, ff, ff, ff, ff, ff, ff, ff, ff, ff] (by kernel_rfl) rfl rfl trivial (fun hHeld => ?_); refine with_tabW impl_can.tab2 impl_can.bits2 (fun HT_ HW_ => ?_)
  generalize w6.drew = w8 at BK308 HB hHeld ⊢
  refine pure_ (i := 0) (N := some 12) (v := ?_) (a' := ?_) (M_ 12 1) rfl rfl (any_of HT_.out (by kernel_rfl)) (fun _ _ _ h => h) (Or.inl ⟨by rfl, ?_⟩) ?_ ?_
  rotate_left
  ·intro w'
   go_simp
   with_reducible rfl
  rotate_left
  ·simp only [P_, i64_w, i32_w]
   rfl
  refine pure_ (i := 1) (N := some 13) (v := ?_) (a' := ?_) (M_ 12 3) rfl rfl (any_of HT_.out (by kernel_rfl)) (fun _ _ _ h => h) (Or.inl ⟨by rfl, ?_⟩) ?_ ?_
  rotate_left
  ·intro w'
   go_simp
   with_reducible rfl
  rotate_left
  ·simp only [P_, i64_w, i32_w]
   rfl
  refine pure_ (i := 2) (N := some 14) (v := ?_) (a' := ?_) (M_ 12 7) rfl rfl (any_of HT_.out (by kernel_rfl)) (fun _ _ _ h => h) (Or.inl ⟨by rfl, ?_⟩) ?_ ?_
  rotate_left
  ·intro w'
   go_simp
   with_reducible rfl
  rotate_left
  ·simp only [P_, i64_w, i32_w]
   rfl
  refine pure_ (i := 3) (N := some 15) (v := ?_) (a' := ?_) (M_ 12 15) rfl rfl (any_of HT_.out (by kernel_rfl)) (fun _ _ _ h => h) (Or.inl ⟨by rfl, ?_⟩) ?_ ?_
  rotate_left
  ·intro w'
   go_simp
   with_reducible rfl
  rotate_left
  ·simp only [P_, i64_w, i32_w]
   rfl
  refine pure_ (i := 4) (N := some 16) (v := undef) (a' := ?_) (M_ 12 31) rfl rfl (any_of HT_.out (by kernel_rfl)) (fun _ _ _ h => h) (Or.inr ⟨by rfl, rfl⟩) ?_ ?_
  rotate_left
  ·simp only [P_, i64_w, i32_w]
   rfl
  refine pure_ (i := 5) (N := some 17) (v := undef) (a' := ?_) (M_ 12 63) rfl rfl (any_of HT_.out (by kernel_rfl)) (fun _ _ _ h => h) (Or.inr ⟨by rfl, rfl⟩) ?_ ?_
  rotate_left
  ·simp only [P_, i64_w, i32_w]
   rfl
  refine pure_ (i := 6) (N := some 18) (v := undef) (a' := ?_) (M_ 12 127) rfl rfl (any_of HT_.out (by kernel_rfl)) (fun _ _ _ h => h) (Or.inr ⟨by rfl, rfl⟩) ?_ ?_
  rotate_left
  ·simp only [P_, i64_w, i32_w]
   rfl
  refine pure_ (i := 7) (N := some 19) (v := undef) (a' := ?_) (M_ 12 255) rfl rfl (any_of HT_.out (by kernel_rfl)) (fun _ _ _ h => h) (Or.inr ⟨by rfl, rfl⟩) ?_ ?_
  rotate_left
  ·simp only [P_, i64_w, i32_w]
   rfl
  refine pure_ (i := 8) (N := some 20) (v := undef) (a' := ?_) (M_ 12 511) rfl rfl (any_of HT_.out (by kernel_rfl)) (fun _ _ _ h => h) (Or.inr ⟨by rfl, rfl⟩) ?_ ?_
  rotate_left
  ·simp only [P_, i64_w, i32_w]
   rfl
  refine pure_ (i := 9) (N := some 21) (v := undef) (a' := ?_) (M_ 12 1023) rfl rfl (any_of HT_.out (by kernel_rfl)) (fun _ _ _ h => h) (Or.inr ⟨by rfl, rfl⟩) ?_ ?_
  rotate_left
  ·simp only [P_, i64_w, i32_w]
   rfl
  refine pure_ (i := 10) (N := some 22) (v := ?_) (a' := ?_) (M_ 12 2047) rfl rfl (any_of HT_.out (by kernel_rfl)) (fun _ _ _ h => h) (Or.inl ⟨by rfl, ?_⟩) ?_ ?_
  rotate_left
  ·intro w'
   go_simp
   with_reducible rfl
  rotate_left
  ·simp only [P_, i64_w, i32_w]
   rfl
  refine pure_ (i := 11) (N := some 4) (v := ?_) (a' := ?_) (M_ 12 4095) rfl rfl (any_of HT_.out (by kernel_rfl)) (fun _ _ _ h => h) (Or.inl ⟨by rfl, ?_⟩) ?_ ?_
  rotate_left
  ·intro w'
   go_simp
   with_reducible rfl
  rotate_left
  ·simp only [P_, i64_w, i32_w]
   rfl
  refine done_ (done_of HT_.out (by kernel_rfl)) ?_
  try go_wp2
  go_ret
  exact ⟨rfl, HB.out⟩
 have c5b0 := beq_eq_false_iff_ne.mpr c5
 have c5b1 := bne_iff_ne.mpr c5
 have c5b2 : ¬ (((rd_T48 l0_1 a1).f1) = []) := fun h_ => c5 (by rw [h_]; rfl)
 replace H := pn_ H
 obtain ⟨c9, H⟩ := H
 have c9b0 := decide_eq_true c9
 have c9b1 : decide (0 < ((rd_T48 l0_1 a1).f1).length) = true := decide_eq_true (by omega)
 clear c9
 replace H := Option.bind_eq_some_iff.mp H
 obtain ⟨t311, A100, H⟩ := H
 try dsimp only at H
 have A10 := K_ A100
 clear A100
 obtain rfl := Option.some.inj H
 go_enter Tryd.func30, Tryd.ntmps30
 try go_wp2_with (first | ((with_reducible refine gate_dst (N := 2) rfl ?_); refine box_event (by rfl) (N := 2) (by rfl) (cs := #[.slice A0_0 l0_0.length c0_0, .slice A0_1 l0_1.length c0_1, .slice A0_2 l0_2.length c0_2]) (t := 30) (by go_simp; try rfl) ?_; intro gb308 hg w11 hbox hb; have BK308 := K_ (hbox); have GW308 := ge_ hg HB.out; have GE308 := ge_ hg HB.out; replace HB := K_ (below_step HB.out hb); clear hb hbox hg; obtain ⟨hcz12_0, hcz12_1, hcz12_2, hfz12_0, hfz12_1, hfz12_2⟩ := blkf3_ BK308.out; have p309 : 0 ≤ (a1 : Int) := of_decide_eq_true (by assumption); have q309 : a1 < (l0_1.length : Int) := of_decide_eq_true (by assumption); obtain ⟨ad309, A309_1, c309_1, e309, hx309_0, hx309_1, hx309_2, hl309_1, hi309_1⟩ := at_T48 HR0_1.out a1 p309 q309; cases e309; replace hx309_0 := (HB.out.cell (World.block_lt_of_cell? w _ hx309_0)).trans hx309_0; replace hx309_1 := (HB.out.cell (World.block_lt_of_cell? w _ hx309_1)).trans hx309_1; replace hx309_2 := (HB.out.cell (World.block_lt_of_cell? w _ hx309_2)).trans hx309_2; have HR309_1 := K_ hi309_1; have HC309_1 := K_ hl309_1; clear hi309_1 hl309_1; replace p309 := eq_true p309; replace q309 := eq_true q309))
 replace BK308 := K_ (blk_drew BK308.out)
 replace HB := K_ (below_drew1 HB.out)
 have p310 : 0 ≤ (0 : Int) := (by omega)
 have q310 : 0 < (((rd_T48 l0_1 a1).f1).length : Int) := of_decide_eq_true (by assumption)
 obtain ⟨ad310, e310, hx310_0⟩ := Kd.at_int HR309_1.out 0 p310 q310
 have hw310_0 := hx310_0
 (try rw [show ((0 : Int)).toNat = 0 from rfl] at hw310_0)
 (try rw [show 0 * 1 = 0 from rfl] at hw310_0)
 (try rw [Addr.add_zero'] at hw310_0)
 cases e310
 have qi310 : (0 < ((rd_T48 l0_1 a1).f1).length) = True := eq_true (by omega)
 (try rw [show ((0 : Int)).toNat = 0 from rfl] at hx310_0)
 (try rw [Addr.add_zero'] at hx310_0)
 replace hx310_0 := (HB.out.cell (World.block_lt_of_cell? w _ hx310_0)).trans hx310_0
 replace p310 := eq_true p310
 replace q310 := eq_true q310
 refine start_ (n := 12) (S := fun w' => w'.cell? ⟨gb308, 0, none⟩ = some (.slice A0_0 l0_0.length c0_0) ∧ w'.cell? ⟨gb308, 1, none⟩ = some (.slice (some ad309) l0_1.length c0_1) ∧ w'.cell? ⟨gb308, 2, none⟩ = some (.slice A0_2 l0_2.length c0_2) ∧ w'.cell? ad310 = some (.int .i64 (rd ((rd_T48 l0_1 a1).f1) 0))) (ds := []) #[ff, ff, ff, ff, ff, ff, ff, ff, ff, ff, ff, ff] (by kernel_rfl) rfl rfl ⟨(blk_cell BK308.out 0).trans rfl, (blk_cell BK308.out 1).trans rfl, (blk_cell BK308.out 2).trans rfl, ((HB.out.cell (World.block_lt_of_cell? w _ hw310_0)).trans hw310_0)⟩ (fun hHeld => ?_); refine with_tabW impl_can.tab2 impl_can.bits2 (fun HT_ HW_ => ?_)
 generalize w11.drew = w13 at BK308 HB hx310_0 hHeld ⊢
 refine pure_ (i := 0) (N := some 12) (v := ?_) (a' := ?_) (M_ 12 1) rfl rfl (any_of HT_.out (by kernel_rfl)) (fun _ _ _ h => h) (Or.inl ⟨by rfl, ?_⟩) ?_ ?_
 rotate_left
 ·intro w'
  go_simp
  with_reducible rfl
 rotate_left
 ·simp only [P_, i64_w, i32_w]
  rfl
 refine pure_ (i := 1) (N := some 13) (v := ?_) (a' := ?_) (M_ 12 3) rfl rfl (any_of HT_.out (by kernel_rfl)) (fun _ _ _ h => h) (Or.inl ⟨by rfl, ?_⟩) ?_ ?_
 rotate_left
 ·intro w'
  go_simp
  with_reducible rfl
 rotate_left
 ·simp only [P_, i64_w, i32_w]
  rfl
 refine pure_ (i := 2) (N := some 14) (v := ?_) (a' := ?_) (M_ 12 7) rfl rfl (any_of HT_.out (by kernel_rfl)) (fun _ _ _ h => h) (Or.inl ⟨by rfl, ?_⟩) ?_ ?_
 rotate_left
 ·intro w'
  go_simp
  with_reducible rfl
 rotate_left
 ·simp only [P_, i64_w, i32_w]
  rfl
 refine pure_ (i := 3) (N := some 15) (v := ?_) (a' := ?_) (M_ 12 15) rfl rfl (any_of HT_.out (by kernel_rfl)) (fun _ _ _ h => h) (Or.inl ⟨by rfl, ?_⟩) ?_ ?_
 rotate_left
 ·intro w'
  go_simp
  with_reducible rfl
 rotate_left
 ·simp only [P_, i64_w, i32_w]
  rfl
 refine pure_ (i := 5) (N := some 17) (v := ?_) (a' := ?_) (M_ 12 47) rfl rfl (any_of HT_.out (by kernel_rfl)) (fun _ _ _ h => h) (Or.inl ⟨by rfl, ?_⟩) ?_ ?_
 rotate_left
 ·intro w'
  go_simp
  with_reducible rfl
 rotate_left
 ·simp only [P_, i64_w, i32_w]
  rfl
 refine pure_ (i := 6) (N := some 18) (v := ?_) (a' := ?_) (M_ 12 111) rfl rfl (any_of HT_.out (by kernel_rfl)) (fun _ _ _ h => h) (Or.inl ⟨by rfl, ?_⟩) ?_ ?_
 rotate_left
 ·intro w'
  go_simp
  with_reducible rfl
 rotate_left
 ·simp only [P_, i64_w, i32_w]
  rfl
 refine take_ (i := 4) (N := some 16) (v := ?_) (a' := ?_) (M_ 12 127) rfl rfl (take_ofW HT_.out HW_.out (by kernel_rfl)) (fun _ _ _ h => h) (Or.inl ⟨by rfl, ?_⟩) hHeld ?_ ?_
 rotate_left
 ·rintro w' ⟨s0, s1, s2, s3⟩
  go_simp
  with_reducible rfl
 rotate_left
 ·simp only [P_, i64_w, i32_w]
  rfl
 refine take_ (i := 7) (N := some 19) (v := ?_) (a' := ?_) (M_ 12 255) rfl rfl (take_ofW HT_.out HW_.out (by kernel_rfl)) (fun _ _ _ h => h) (Or.inl ⟨by rfl, ?_⟩) hHeld ?_ ?_
 rotate_left
 ·rintro w' ⟨s0, s1, s2, s3⟩
  go_simp
  with_reducible rfl
 rotate_left
 ·simp only [P_, i64_w, i32_w]
  rfl
 refine one_ (i := 8) (N := some 20) (M_ 12 511) rfl rfl (one_of HT_.out (by kernel_rfl)) (by decide) (fun K hK => ?_)
 refine goes_ Tryd.func45 (by kernel_rfl) rfl #[.agg #[.slice A0_0 l0_0.length c0_0, .slice (some ad309) l0_1.length c0_1, .slice A0_2 l0_2.length c0_2], .int .i64 (rd ((rd_T48 l0_1 a1).f1) 0)] (by rfl) rfl rfl (by simp only [List.map_toArray, List.map_cons, List.map_nil]; try rfl) ?_
 with_reducible refine (impl_free.calls k _ _ l0_0 _ _ l0_1 _ _ l0_2 (rd ((rd_T48 l0_1 a1).f1) 0) t311 _ ?side1 ?side2 ?side3 ?side4 ?side5 ?side6 A10.out).mono ?_
 (case side1 => exact (Kd.C_below HR0_0.out HB.out))
 (case side2 => exact HC0_0.out)
 (case side3 => exact (Kd.C_below HR0_1.out HB.out))
 (case side4 => exact HC0_1.out)
 (case side5 => exact (Kd.C_below HR0_2.out HB.out))
 (case side6 => exact HC0_2.out)
 rintro e w14 ⟨rfl, hb⟩
 refine ⟨_, rfl, ?_⟩
 replace BK308 := K_ (blk_below BK308.out hb)
 replace HB := K_ (below_step HB.out hb)
 clear hb
 skip
 skip
 skip
 refine hK.out _ _ ⟨(blk_cell BK308.out 0).trans rfl, (blk_cell BK308.out 1).trans rfl, (blk_cell BK308.out 2).trans rfl, ((HB.out.cell (World.block_lt_of_cell? w _ hw310_0)).trans hw310_0)⟩ (fun hHeld => ?_)
 clear hK K
 refine norm_ (a' := ?_) ?_ ?_
 rotate_left
 ·show Act.put _ (some 20) _ = _
  simp only [P_, i64_w, i32_w]
  rfl
 refine pure_ (i := 9) (N := some 21) (v := ?_) (a' := ?_) (M_ 12 1023) rfl rfl (any_of HT_.out (by kernel_rfl)) (fun _ _ _ h => h) (Or.inl ⟨by rfl, ?_⟩) ?_ ?_
 rotate_left
 ·intro w'
  go_simp
  with_reducible rfl
 rotate_left
 ·simp only [P_, i64_w, i32_w]
  rfl
 refine pure_ (i := 10) (N := some 22) (v := ?_) (a' := ?_) (M_ 12 2047) rfl rfl (any_of HT_.out (by kernel_rfl)) (fun _ _ _ h => h) (Or.inl ⟨by rfl, ?_⟩) ?_ ?_
 rotate_left
 ·intro w'
  go_simp
  with_reducible rfl
 rotate_left
 ·simp only [P_, i64_w, i32_w]
  rfl
 refine pure_ (i := 11) (N := some 4) (v := ?_) (a' := ?_) (M_ 12 4095) rfl rfl (any_of HT_.out (by kernel_rfl)) (fun _ _ _ h => h) (Or.inl ⟨by rfl, ?_⟩) ?_ ?_
 rotate_left
 ·intro w'
  go_simp
  with_reducible rfl
 rotate_left
 ·simp only [P_, i64_w, i32_w]
  rfl
 refine done_ (done_of HT_.out (by kernel_rfl)) ?_
 try go_wp2
 go_ret
 exact ⟨rfl, HB.out⟩


/-! ### impl_waits: function 29 -/
def impl_waits.l0 : Nat → Int → List Int → List (S48) → Int → Int → List Int → List (S48) → List Int → Option (List Int)
 | 0, _, _, _, _, _, _, _, _ => none
 | k + 1, x1, x5, x12, x13, x14, x313000, x313001, x313002 => if x14 < x13 then (if 0 ≤ x14 then (if x14 < (x12.length : Int) then (if 0 ≤ x1 then (if x1 < (x313001.length : Int) then (if 0 < (((rd_T48 x313001 x1).f1).length : Int) then (if ((rd_T48 x12 x14).f0) = (rd ((rd_T48 x313001 x1).f1) 0) then (if x5.length < 17592186044416 then (impl_waits.l0 k x1 (x5 ++ [x14]) x12 x13 (wrap64 (x14 + 1)) x313000 x313001 x313002) else (none)) else (impl_waits.l0 k x1 x5 x12 x13 (wrap64 (x14 + 1)) x313000 x313001 x313002)) else (none)) else (none)) else (none)) else (none)) else (none)) else (some x5)
def impl_waits.f (k : Nat) (l0_0 : List Int) (l0_1 : List (S48)) (l0_2 : List Int) (a1 : Int) : Option (List Int) := (impl_can.f k l0_0 l0_1 l0_2 a1).bind fun t313 => (if t313 = true then (some ([] : List Int)) else (impl_waits.l0 k a1 ([] : List Int) l0_1 (l0_1.length : Int) 0 l0_0 l0_1 l0_2))
theorem impl_waits.mono_l : ∀ k, (∀ y0 y1 y2 y3 y4 y5 y6 y7, LeO (impl_waits.l0 k y0 y1 y2 y3 y4 y5 y6 y7) (impl_waits.l0 (k + 1) y0 y1 y2 y3 y4 y5 y6 y7))
 | 0 => fun _ _ _ _ _ _ _ _ r h => by simp [impl_waits.l0] at h
 | k + 1 => by
  have ih0 := impl_waits.mono_l k
  ·intro y0 y1 y2 y3 y4 y5 y6 y7
   unfold impl_waits.l0
   repeat' with_reducible first | exact ih0 _ _ _ _ _ _ _ _ | exact impl_can.mono _ _ _ _ _ | exact LeO.refl _ | exact LeO.none _ | refine LeO.ite ?_ ?_ | refine LeO.bind ?_ (fun _ => ?_)
theorem impl_waits.mono : ∀ a0 a1 a2 a3 k, LeO (impl_waits.f k a0 a1 a2 a3) (impl_waits.f (k + 1) a0 a1 a2 a3) := by
 intro a0 a1 a2 a3 k
 have ih0 := impl_waits.mono_l k
 unfold impl_waits.f
 repeat' with_reducible first | exact ih0 _ _ _ _ _ _ _ _ | exact impl_can.mono _ _ _ _ _ | exact LeO.refl _ | exact LeO.none _ | refine LeO.ite ?_ ?_ | refine LeO.bind ?_ (fun _ => ?_)
set_option maxHeartbeats 8000000 in
set_option maxRecDepth 100000 in
theorem impl_waits.calls (k : Nat) (A0_0 : Option Addr) (c0_0 : Nat) (l0_0 : List Int) (A0_1 : Option Addr) (c0_1 : Nat) (l0_1 : List (S48)) (A0_2 : Option Addr) (c0_2 : Nat) (l0_2 : List Int) (a1 : Int) (r : List Int) (w : World) (hr0_0 : Kd.C (Kd.int .i64) w A0_0 l0_0.length l0_0) (hc0_0 : l0_0.length ≤ c0_0) (hr0_1 : Kd.C k48 w A0_1 l0_1.length l0_1) (hc0_1 : l0_1.length ≤ c0_1) (hr0_2 : Kd.C (Kd.int .i64) w A0_2 l0_2.length l0_2) (hc0_2 : l0_2.length ≤ c0_2) (h : impl_waits.f k l0_0 l0_1 l0_2 a1 = some r) :
  Calls Tryd.prog 29 #[.agg #[.slice A0_0 l0_0.length c0_0, .slice A0_1 l0_1.length c0_1, .slice A0_2 l0_2.length c0_2], .int .i64 a1] w fun e w' => ∃ v0_ : Value, e = .returned (v0_) ∧ Kd.R (Kd.int .i64) 3 w' w.heap.size (fun _ => True) v0_ r ∧ Below w.heap.size w w' := by
 have hu30 := Tryd.underlying30
 have hu48 := Tryd.underlying48
 have HR0_0 := K_ hr0_0
 have HC0_0 := K_ hc0_0
 clear hr0_0 hc0_0
 have HR0_1 := K_ hr0_1
 have HC0_1 := K_ hc0_1
 clear hr0_1 hc0_1
 have HR0_2 := K_ hr0_2
 have HC0_2 := K_ hc0_2
 clear hr0_2 hc0_2
 have HB := K_ (Below.refl w.heap.size w)
 unfold impl_waits.f at h
 have H := h
 clear h
 replace H := Option.bind_eq_some_iff.mp H
 obtain ⟨t313, A30, H⟩ := H
 try dsimp only at H
 have A3 := K_ A30
 clear A30
 by_cases c4 : t313 = true
 case pos =>
  subst c4
  rw [if_pos rfl] at H
  obtain rfl := Option.some.inj H
  go_enter Tryd.func29, Tryd.ntmps29
  go_wp2_with (first | ((with_reducible refine gate_dst (N := 2) rfl ?_); refine box_event (by rfl) (N := 2) (by rfl) (cs := #[.slice A0_0 l0_0.length c0_0, .slice A0_1 l0_1.length c0_1, .slice A0_2 l0_2.length c0_2]) (t := 30) (by go_simp; try rfl) ?_; intro gb312 hg w5 hbox hb; have BK312 := K_ (hbox); have GW312 := ge_ hg HB.out; have GE312 := ge_ hg HB.out; replace HB := K_ (below_step HB.out hb); clear hb hbox hg; obtain ⟨hcz6_0, hcz6_1, hcz6_2, hfz6_0, hfz6_1, hfz6_2⟩ := blkf3_ BK312.out) | (go_at_call 30; (with_reducible refine (impl_can.calls k _ _ l0_0 _ _ l0_1 _ _ l0_2 a1 true _ ?side1 ?side2 ?side3 ?side4 ?side5 ?side6 A3.out).mono ?_); (case side1 => exact (Kd.C_below HR0_0.out HB.out)); (case side2 => exact HC0_0.out); (case side3 => exact (Kd.C_below HR0_1.out HB.out)); (case side4 => exact HC0_1.out); (case side5 => exact (Kd.C_below HR0_2.out HB.out)); (case side6 => exact HC0_2.out); rintro e w7 ⟨rfl, hb⟩; replace BK312 := K_ (blk_below BK312.out hb); replace HB := K_ (below_step HB.out hb); clear hb))
  repeat (go_quiet (first | ((with_reducible refine gate_dst (N := 2) rfl ?_); refine box_event (by rfl) (N := 2) (by rfl) (cs := #[.slice A0_0 l0_0.length c0_0, .slice A0_1 l0_1.length c0_1, .slice A0_2 l0_2.length c0_2]) (t := 30) (by go_simp; try rfl) ?_; intro gb312 hg w5 hbox hb; have BK312 := K_ (hbox); have GW312 := ge_ hg HB.out; have GE312 := ge_ hg HB.out; replace HB := K_ (below_step HB.out hb); clear hb hbox hg; obtain ⟨hcz6_0, hcz6_1, hcz6_2, hfz6_0, hfz6_1, hfz6_2⟩ := blkf3_ BK312.out) | (go_at_call 30; (with_reducible refine (impl_can.calls k _ _ l0_0 _ _ l0_1 _ _ l0_2 a1 true _ ?side1 ?side2 ?side3 ?side4 ?side5 ?side6 A3.out).mono ?_); (case side1 => exact (Kd.C_below HR0_0.out HB.out)); (case side2 => exact HC0_0.out); (case side3 => exact (Kd.C_below HR0_1.out HB.out)); (case side4 => exact HC0_1.out); (case side5 => exact (Kd.C_below HR0_2.out HB.out)); (case side6 => exact HC0_2.out); rintro e w7 ⟨rfl, hb⟩; replace BK312 := K_ (blk_below BK312.out hb); replace HB := K_ (below_step HB.out hb); clear hb)); try go_wp2_with (first | ((with_reducible refine gate_dst (N := 2) rfl ?_); refine box_event (by rfl) (N := 2) (by rfl) (cs := #[.slice A0_0 l0_0.length c0_0, .slice A0_1 l0_1.length c0_1, .slice A0_2 l0_2.length c0_2]) (t := 30) (by go_simp; try rfl) ?_; intro gb312 hg w5 hbox hb; have BK312 := K_ (hbox); have GW312 := ge_ hg HB.out; have GE312 := ge_ hg HB.out; replace HB := K_ (below_step HB.out hb); clear hb hbox hg; obtain ⟨hcz6_0, hcz6_1, hcz6_2, hfz6_0, hfz6_1, hfz6_2⟩ := blkf3_ BK312.out) | (go_at_call 30; (with_reducible refine (impl_can.calls k _ _ l0_0 _ _ l0_1 _ _ l0_2 a1 true _ ?side1 ?side2 ?side3 ?side4 ?side5 ?side6 A3.out).mono ?_); (case side1 => exact (Kd.C_below HR0_0.out HB.out)); (case side2 => exact HC0_0.out); (case side3 => exact (Kd.C_below HR0_1.out HB.out)); (case side4 => exact HC0_1.out); (case side5 => exact (Kd.C_below HR0_2.out HB.out)); (case side6 => exact HC0_2.out); rintro e w7 ⟨rfl, hb⟩; replace BK312 := K_ (blk_below BK312.out hb); replace HB := K_ (below_step HB.out hb); clear hb)))
  go_ret
  exact ⟨_, rfl, Kd.R_nil _ _ _ _ _, HB.out⟩
 replace c4 := Bool.eq_false_iff.mpr c4
 subst c4
 rw [if_neg (show ¬ (false = true) by decide)] at H
 have H' := K_ H
 clear H
 go_enter Tryd.func29, Tryd.ntmps29
 go_wp2_with (first | ((with_reducible refine gate_dst (N := 2) rfl ?_); refine box_event (by rfl) (N := 2) (by rfl) (cs := #[.slice A0_0 l0_0.length c0_0, .slice A0_1 l0_1.length c0_1, .slice A0_2 l0_2.length c0_2]) (t := 30) (by go_simp; try rfl) ?_; intro gb312 hg w8 hbox hb; have BK312 := K_ (hbox); have GW312 := ge_ hg HB.out; have GE312 := ge_ hg HB.out; replace HB := K_ (below_step HB.out hb); clear hb hbox hg; obtain ⟨hcz9_0, hcz9_1, hcz9_2, hfz9_0, hfz9_1, hfz9_2⟩ := blkf3_ BK312.out) | (go_at_call 30; (with_reducible refine (impl_can.calls k _ _ l0_0 _ _ l0_1 _ _ l0_2 a1 false _ ?side1 ?side2 ?side3 ?side4 ?side5 ?side6 A3.out).mono ?_); (case side1 => exact (Kd.C_below HR0_0.out HB.out)); (case side2 => exact HC0_0.out); (case side3 => exact (Kd.C_below HR0_1.out HB.out)); (case side4 => exact HC0_1.out); (case side5 => exact (Kd.C_below HR0_2.out HB.out)); (case side6 => exact HC0_2.out); rintro e w10 ⟨rfl, hb⟩; replace BK312 := K_ (blk_below BK312.out hb); replace HB := K_ (below_step HB.out hb); clear hb; obtain ⟨hcz11_0, hcz11_1, hcz11_2, hfz11_0, hfz11_1, hfz11_2⟩ := blkf3_ BK312.out))
 repeat (go_quiet (first | ((with_reducible refine gate_dst (N := 2) rfl ?_); refine box_event (by rfl) (N := 2) (by rfl) (cs := #[.slice A0_0 l0_0.length c0_0, .slice A0_1 l0_1.length c0_1, .slice A0_2 l0_2.length c0_2]) (t := 30) (by go_simp; try rfl) ?_; intro gb312 hg w8 hbox hb; have BK312 := K_ (hbox); have GW312 := ge_ hg HB.out; have GE312 := ge_ hg HB.out; replace HB := K_ (below_step HB.out hb); clear hb hbox hg; obtain ⟨hcz9_0, hcz9_1, hcz9_2, hfz9_0, hfz9_1, hfz9_2⟩ := blkf3_ BK312.out) | (go_at_call 30; (with_reducible refine (impl_can.calls k _ _ l0_0 _ _ l0_1 _ _ l0_2 a1 false _ ?side1 ?side2 ?side3 ?side4 ?side5 ?side6 A3.out).mono ?_); (case side1 => exact (Kd.C_below HR0_0.out HB.out)); (case side2 => exact HC0_0.out); (case side3 => exact (Kd.C_below HR0_1.out HB.out)); (case side4 => exact HC0_1.out); (case side5 => exact (Kd.C_below HR0_2.out HB.out)); (case side6 => exact HC0_2.out); rintro e w10 ⟨rfl, hb⟩; replace BK312 := K_ (blk_below BK312.out hb); replace HB := K_ (below_step HB.out hb); clear hb; obtain ⟨hcz11_0, hcz11_1, hcz11_2, hfz11_0, hfz11_1, hfz11_2⟩ := blkf3_ BK312.out)); try go_wp2_with (first | ((with_reducible refine gate_dst (N := 2) rfl ?_); refine box_event (by rfl) (N := 2) (by rfl) (cs := #[.slice A0_0 l0_0.length c0_0, .slice A0_1 l0_1.length c0_1, .slice A0_2 l0_2.length c0_2]) (t := 30) (by go_simp; try rfl) ?_; intro gb312 hg w8 hbox hb; have BK312 := K_ (hbox); have GW312 := ge_ hg HB.out; have GE312 := ge_ hg HB.out; replace HB := K_ (below_step HB.out hb); clear hb hbox hg; obtain ⟨hcz9_0, hcz9_1, hcz9_2, hfz9_0, hfz9_1, hfz9_2⟩ := blkf3_ BK312.out) | (go_at_call 30; (with_reducible refine (impl_can.calls k _ _ l0_0 _ _ l0_1 _ _ l0_2 a1 false _ ?side1 ?side2 ?side3 ?side4 ?side5 ?side6 A3.out).mono ?_); (case side1 => exact (Kd.C_below HR0_0.out HB.out)); (case side2 => exact HC0_0.out); (case side3 => exact (Kd.C_below HR0_1.out HB.out)); (case side4 => exact HC0_1.out); (case side5 => exact (Kd.C_below HR0_2.out HB.out)); (case side6 => exact HC0_2.out); rintro e w10 ⟨rfl, hb⟩; replace BK312 := K_ (blk_below BK312.out hb); replace HB := K_ (below_step HB.out hb); clear hb; obtain ⟨hcz11_0, hcz11_1, hcz11_2, hfz11_0, hfz11_1, hfz11_2⟩ := blkf3_ BK312.out)))
 go_loopg [5, 14] k (fun kq v5 v14 w' => ∃ (x5_1 : List Int) (x14_1 : Int), v14 = .int .i64 x14_1 ∧ Aside0 (impl_waits.l0 kq a1 x5_1 l0_1 (l0_1.length : Int) x14_1 l0_0 l0_1 l0_2 = some r) ∧ Aside0 (kq ≤ k) ∧ Aside0 (Kd.R (Kd.int .i64) 3 w' w.heap.size (fun _ => True) v5 x5_1) ∧ Aside0 (w'.heap[gb312]? = some (.cells #[(.slice A0_0 l0_0.length c0_0), (.slice A0_1 l0_1.length c0_1), (.slice A0_2 l0_2.length c0_2)] 30 (0, 0))) ∧ Aside0 (Below w.heap.size w w'))
 case atStart => exact ⟨(([] : List Int)), (0), rfl, H', ⟨Nat.le_refl _⟩, ⟨Kd.R_nil _ _ _ _ _⟩, ⟨BK312.out⟩, ⟨HB.out⟩⟩
 case round =>
  clear H'
  clear hcz11_0 hcz11_1 hcz11_2 hcz9_0 hcz9_1 hcz9_2 hfz11_0 hfz11_1 hfz11_2 hfz9_0 hfz9_1 hfz9_2
  obtain ⟨x5_1, x14_1, rfl, HA, HK1, HO_5, BK312, HB⟩ := hrel
  cases gk with
  | zero => exact absurd HA.out (by simp [impl_waits.l0])
  | succ k1 =>
   have H := HA.out
   clear HA
   simp only [impl_waits.l0] at H
   replace H := ds_ H
   rcases H with ⟨c12b0, H⟩ | ⟨c12b0, H⟩
   case inr =>
    obtain rfl := Option.some.inj H
    go_wp2
    repeat (go_quiet (fail); try go_wp2)
    go_ret
    exact ⟨_, rfl, by exact HO_5.out, HB.out⟩
   replace H := dn_ H
   obtain ⟨c13b0, H⟩ := H
   replace H := dn_ H
   obtain ⟨c14b0, H⟩ := H
   replace H := dn_ H
   obtain ⟨c15b0, H⟩ := H
   replace H := dn_ H
   obtain ⟨c16b0, H⟩ := H
   replace H := pn_ H
   obtain ⟨c17, H⟩ := H
   have c17b0 := decide_eq_true c17
   have c17b1 : decide (0 < ((rd_T48 l0_1 a1).f1).length) = true := decide_eq_true (by omega)
   clear c17
   replace H := ps_ H
   rcases H with ⟨c18, H⟩ | ⟨c18, H⟩
   case inr =>
    have c18b0 := beq_eq_false_iff_ne.mpr c18
    have c18b1 := bne_iff_ne.mpr c18
    have H' := K_ H
    clear H
    have p314 : 0 ≤ (x14_1 : Int) := of_decide_eq_true (by assumption)
    have q314 : x14_1 < (l0_1.length : Int) := of_decide_eq_true (by assumption)
    obtain ⟨ad314, A314_1, c314_1, e314, hx314_0, hx314_1, hx314_2, hl314_1, hi314_1⟩ := at_T48 HR0_1.out x14_1 p314 q314
    cases e314
    replace hx314_0 := (HB.out.cell (World.block_lt_of_cell? w _ hx314_0)).trans hx314_0
    replace hx314_1 := (HB.out.cell (World.block_lt_of_cell? w _ hx314_1)).trans hx314_1
    replace hx314_2 := (HB.out.cell (World.block_lt_of_cell? w _ hx314_2)).trans hx314_2
    have HR314_1 := K_ hi314_1
    have HC314_1 := K_ hl314_1
    clear hi314_1 hl314_1
    replace p314 := eq_true p314
    replace q314 := eq_true q314
    go_wp2_with (first | ((with_reducible refine gate_dst (N := 7) rfl ?_); refine box_event (by rfl) (N := 7) (by rfl) (cs := #[.int .i64 0, .slice none 0 0, .int .i64 0]) (t := 48) (by go_simp; try rfl) ?_; intro gb315 hg w25 hbox hb; have BK315 := K_ (hbox); have GW315 := ge_ hg HB.out; have GE315 := ge_ hg HB.out; have NB312_315 := nl_ hg BK312.out; have NB315_312 := ng_ hg BK312.out; replace HO_5 := K_ (Kd.R_below HO_5.out hb); replace BK312 := K_ (blk_below BK312.out hb); replace HB := K_ (below_step HB.out hb); clear hb hbox hg; have hnb26 := NB315_312.out; have hnc26 := NB312_315.out; obtain ⟨hcz27_0, hcz27_1, hcz27_2, hfz27_0, hfz27_1, hfz27_2⟩ := blkf3_ BK315.out; obtain ⟨hcz28_0, hcz28_1, hcz28_2, hfz28_0, hfz28_1, hfz28_2⟩ := blkf3_ BK312.out; have p316 : 0 ≤ (a1 : Int) := of_decide_eq_true (by assumption); have q316 : a1 < (l0_1.length : Int) := of_decide_eq_true (by assumption); obtain ⟨ad316, A316_1, c316_1, e316, hx316_0, hx316_1, hx316_2, hl316_1, hi316_1⟩ := at_T48 HR0_1.out a1 p316 q316; obtain rfl : ad314 = ad316 := (by injection e316); have hn316_0 : ad314.block ≠ gb315 := Nat.ne_of_lt (Nat.lt_of_lt_of_le (by have := World.block_lt_of_cell? _ _ hx316_0; first | rwa [add_block] at this | exact this) GW315.out); have hn316_1 : ad314.block ≠ gb315 := Nat.ne_of_lt (Nat.lt_of_lt_of_le (by have := World.block_lt_of_cell? _ _ hx316_0; first | rwa [add_block] at this | exact this) GW315.out); have hn316_2 : ad314.block ≠ gb315 := Nat.ne_of_lt (Nat.lt_of_lt_of_le (by have := World.block_lt_of_cell? _ _ hx316_0; first | rwa [add_block] at this | exact this) GW315.out); replace hx316_0 := (HB.out.cell (World.block_lt_of_cell? w _ hx316_0)).trans hx316_0; replace hx316_1 := (HB.out.cell (World.block_lt_of_cell? w _ hx316_1)).trans hx316_1; replace hx316_2 := (HB.out.cell (World.block_lt_of_cell? w _ hx316_2)).trans hx316_2; have HR316_1 := K_ hi316_1; have HC316_1 := K_ hl316_1; clear hi316_1 hl316_1; replace hx316_0 := (cell_far (p := ⟨gb315, 0, none⟩) (by first | (rw [add_block]; exact hn316_0) | (show (Addr.add _ _).block ≠ _; rw [add_block]; exact hn316_0) | exact hn316_0) (.int .i64 ((rd_T48 l0_1 x14_1).f0))).trans hx316_0; replace hx316_1 := (cell_far (p := ⟨gb315, 0, none⟩) (by first | (rw [add_block]; exact hn316_0) | (show (Addr.add _ _).block ≠ _; rw [add_block]; exact hn316_0) | exact hn316_0) (.int .i64 ((rd_T48 l0_1 x14_1).f0))).trans hx316_1; replace hx316_2 := (cell_far (p := ⟨gb315, 0, none⟩) (by first | (rw [add_block]; exact hn316_0) | (show (Addr.add _ _).block ≠ _; rw [add_block]; exact hn316_0) | exact hn316_0) (.int .i64 ((rd_T48 l0_1 x14_1).f0))).trans hx316_2; replace hx316_0 := (cell_far (p := ⟨gb315, 1, none⟩) (by first | (rw [add_block]; exact hn316_1) | (show (Addr.add _ _).block ≠ _; rw [add_block]; exact hn316_1) | exact hn316_1) (.slice A314_1 ((rd_T48 l0_1 x14_1).f1).length c314_1)).trans hx316_0; replace hx316_1 := (cell_far (p := ⟨gb315, 1, none⟩) (by first | (rw [add_block]; exact hn316_1) | (show (Addr.add _ _).block ≠ _; rw [add_block]; exact hn316_1) | exact hn316_1) (.slice A314_1 ((rd_T48 l0_1 x14_1).f1).length c314_1)).trans hx316_1; replace hx316_2 := (cell_far (p := ⟨gb315, 1, none⟩) (by first | (rw [add_block]; exact hn316_1) | (show (Addr.add _ _).block ≠ _; rw [add_block]; exact hn316_1) | exact hn316_1) (.slice A314_1 ((rd_T48 l0_1 x14_1).f1).length c314_1)).trans hx316_2; replace hx316_0 := (cell_far (p := ⟨gb315, 2, none⟩) (by first | (rw [add_block]; exact hn316_2) | (show (Addr.add _ _).block ≠ _; rw [add_block]; exact hn316_2) | exact hn316_2) (.int .i64 ((rd_T48 l0_1 x14_1).f2))).trans hx316_0; replace hx316_1 := (cell_far (p := ⟨gb315, 2, none⟩) (by first | (rw [add_block]; exact hn316_2) | (show (Addr.add _ _).block ≠ _; rw [add_block]; exact hn316_2) | exact hn316_2) (.int .i64 ((rd_T48 l0_1 x14_1).f2))).trans hx316_1; replace hx316_2 := (cell_far (p := ⟨gb315, 2, none⟩) (by first | (rw [add_block]; exact hn316_2) | (show (Addr.add _ _).block ≠ _; rw [add_block]; exact hn316_2) | exact hn316_2) (.int .i64 ((rd_T48 l0_1 x14_1).f2))).trans hx316_2; (try have hy316_0 := fun (n_ : Nat) => (show (((((w25.drewN n_).setCell ⟨gb315, 0, none⟩ (.int .i64 ((rd_T48 l0_1 x14_1).f0))).setCell ⟨gb315, 1, none⟩ (.slice A314_1 ((rd_T48 l0_1 x14_1).f1).length c314_1)).setCell ⟨gb315, 2, none⟩ (.int .i64 ((rd_T48 l0_1 x14_1).f2)))).cell? _ = some _ from hx316_0)); (try have hy316_1 := fun (n_ : Nat) => (show (((((w25.drewN n_).setCell ⟨gb315, 0, none⟩ (.int .i64 ((rd_T48 l0_1 x14_1).f0))).setCell ⟨gb315, 1, none⟩ (.slice A314_1 ((rd_T48 l0_1 x14_1).f1).length c314_1)).setCell ⟨gb315, 2, none⟩ (.int .i64 ((rd_T48 l0_1 x14_1).f2)))).cell? _ = some _ from hx316_1)); (try have hy316_2 := fun (n_ : Nat) => (show (((((w25.drewN n_).setCell ⟨gb315, 0, none⟩ (.int .i64 ((rd_T48 l0_1 x14_1).f0))).setCell ⟨gb315, 1, none⟩ (.slice A314_1 ((rd_T48 l0_1 x14_1).f1).length c314_1)).setCell ⟨gb315, 2, none⟩ (.int .i64 ((rd_T48 l0_1 x14_1).f2)))).cell? _ = some _ from hx316_2)); clear hn316_0; clear hn316_1; clear hn316_2; replace p316 := eq_true p316; replace q316 := eq_true q316; have p317 : 0 ≤ (0 : Int) := (by omega); have q317 : 0 < (((rd_T48 l0_1 a1).f1).length : Int) := of_decide_eq_true (by assumption); obtain ⟨ad317, e317, hx317_0⟩ := Kd.at_int HR316_1.out 0 p317 q317; cases e317; have qi317 : (0 < ((rd_T48 l0_1 a1).f1).length) = True := eq_true (by omega); (try rw [show ((0 : Int)).toNat = 0 from rfl] at hx317_0); (try rw [Addr.add_zero'] at hx317_0); have hn317_0 : ad317.block ≠ gb315 := Nat.ne_of_lt (Nat.lt_of_lt_of_le (by have := World.block_lt_of_cell? _ _ hx317_0; first | rwa [add_block] at this | exact this) GW315.out); have hn317_1 : ad317.block ≠ gb315 := Nat.ne_of_lt (Nat.lt_of_lt_of_le (by have := World.block_lt_of_cell? _ _ hx317_0; first | rwa [add_block] at this | exact this) GW315.out); have hn317_2 : ad317.block ≠ gb315 := Nat.ne_of_lt (Nat.lt_of_lt_of_le (by have := World.block_lt_of_cell? _ _ hx317_0; first | rwa [add_block] at this | exact this) GW315.out); replace hx317_0 := (HB.out.cell (World.block_lt_of_cell? w _ hx317_0)).trans hx317_0; replace hx317_0 := (cell_far (p := ⟨gb315, 0, none⟩) (by first | (rw [add_block]; exact hn317_0) | (show (Addr.add _ _).block ≠ _; rw [add_block]; exact hn317_0) | exact hn317_0) (.int .i64 ((rd_T48 l0_1 x14_1).f0))).trans hx317_0; replace hx317_0 := (cell_far (p := ⟨gb315, 1, none⟩) (by first | (rw [add_block]; exact hn317_1) | (show (Addr.add _ _).block ≠ _; rw [add_block]; exact hn317_1) | exact hn317_1) (.slice A314_1 ((rd_T48 l0_1 x14_1).f1).length c314_1)).trans hx317_0; replace hx317_0 := (cell_far (p := ⟨gb315, 2, none⟩) (by first | (rw [add_block]; exact hn317_2) | (show (Addr.add _ _).block ≠ _; rw [add_block]; exact hn317_2) | exact hn317_2) (.int .i64 ((rd_T48 l0_1 x14_1).f2))).trans hx317_0; (try have hy317_0 := fun (n_ : Nat) => (show (((((w25.drewN n_).setCell ⟨gb315, 0, none⟩ (.int .i64 ((rd_T48 l0_1 x14_1).f0))).setCell ⟨gb315, 1, none⟩ (.slice A314_1 ((rd_T48 l0_1 x14_1).f1).length c314_1)).setCell ⟨gb315, 2, none⟩ (.int .i64 ((rd_T48 l0_1 x14_1).f2)))).cell? _ = some _ from hx317_0)); clear hn317_0; clear hn317_1; clear hn317_2; replace p317 := eq_true p317; replace q317 := eq_true q317))
    repeat (go_quiet (first | ((with_reducible refine gate_dst (N := 7) rfl ?_); refine box_event (by rfl) (N := 7) (by rfl) (cs := #[.int .i64 0, .slice none 0 0, .int .i64 0]) (t := 48) (by go_simp; try rfl) ?_; intro gb315 hg w25 hbox hb; have BK315 := K_ (hbox); have GW315 := ge_ hg HB.out; have GE315 := ge_ hg HB.out; have NB312_315 := nl_ hg BK312.out; have NB315_312 := ng_ hg BK312.out; replace HO_5 := K_ (Kd.R_below HO_5.out hb); replace BK312 := K_ (blk_below BK312.out hb); replace HB := K_ (below_step HB.out hb); clear hb hbox hg; have hnb26 := NB315_312.out; have hnc26 := NB312_315.out; obtain ⟨hcz27_0, hcz27_1, hcz27_2, hfz27_0, hfz27_1, hfz27_2⟩ := blkf3_ BK315.out; obtain ⟨hcz28_0, hcz28_1, hcz28_2, hfz28_0, hfz28_1, hfz28_2⟩ := blkf3_ BK312.out; have p316 : 0 ≤ (a1 : Int) := of_decide_eq_true (by assumption); have q316 : a1 < (l0_1.length : Int) := of_decide_eq_true (by assumption); obtain ⟨ad316, A316_1, c316_1, e316, hx316_0, hx316_1, hx316_2, hl316_1, hi316_1⟩ := at_T48 HR0_1.out a1 p316 q316; obtain rfl : ad314 = ad316 := (by injection e316); have hn316_0 : ad314.block ≠ gb315 := Nat.ne_of_lt (Nat.lt_of_lt_of_le (by have := World.block_lt_of_cell? _ _ hx316_0; first | rwa [add_block] at this | exact this) GW315.out); have hn316_1 : ad314.block ≠ gb315 := Nat.ne_of_lt (Nat.lt_of_lt_of_le (by have := World.block_lt_of_cell? _ _ hx316_0; first | rwa [add_block] at this | exact this) GW315.out); have hn316_2 : ad314.block ≠ gb315 := Nat.ne_of_lt (Nat.lt_of_lt_of_le (by have := World.block_lt_of_cell? _ _ hx316_0; first | rwa [add_block] at this | exact this) GW315.out); replace hx316_0 := (HB.out.cell (World.block_lt_of_cell? w _ hx316_0)).trans hx316_0; replace hx316_1 := (HB.out.cell (World.block_lt_of_cell? w _ hx316_1)).trans hx316_1; replace hx316_2 := (HB.out.cell (World.block_lt_of_cell? w _ hx316_2)).trans hx316_2; have HR316_1 := K_ hi316_1; have HC316_1 := K_ hl316_1; clear hi316_1 hl316_1; replace hx316_0 := (cell_far (p := ⟨gb315, 0, none⟩) (by first | (rw [add_block]; exact hn316_0) | (show (Addr.add _ _).block ≠ _; rw [add_block]; exact hn316_0) | exact hn316_0) (.int .i64 ((rd_T48 l0_1 x14_1).f0))).trans hx316_0; replace hx316_1 := (cell_far (p := ⟨gb315, 0, none⟩) (by first | (rw [add_block]; exact hn316_0) | (show (Addr.add _ _).block ≠ _; rw [add_block]; exact hn316_0) | exact hn316_0) (.int .i64 ((rd_T48 l0_1 x14_1).f0))).trans hx316_1; replace hx316_2 := (cell_far (p := ⟨gb315, 0, none⟩) (by first | (rw [add_block]; exact hn316_0) | (show (Addr.add _ _).block ≠ _; rw [add_block]; exact hn316_0) | exact hn316_0) (.int .i64 ((rd_T48 l0_1 x14_1).f0))).trans hx316_2; replace hx316_0 := (cell_far (p := ⟨gb315, 1, none⟩) (by first | (rw [add_block]; exact hn316_1) | (show (Addr.add _ _).block ≠ _; rw [add_block]; exact hn316_1) | exact hn316_1) (.slice A314_1 ((rd_T48 l0_1 x14_1).f1).length c314_1)).trans hx316_0; replace hx316_1 := (cell_far (p := ⟨gb315, 1, none⟩) (by first | (rw [add_block]; exact hn316_1) | (show (Addr.add _ _).block ≠ _; rw [add_block]; exact hn316_1) | exact hn316_1) (.slice A314_1 ((rd_T48 l0_1 x14_1).f1).length c314_1)).trans hx316_1; replace hx316_2 := (cell_far (p := ⟨gb315, 1, none⟩) (by first | (rw [add_block]; exact hn316_1) | (show (Addr.add _ _).block ≠ _; rw [add_block]; exact hn316_1) | exact hn316_1) (.slice A314_1 ((rd_T48 l0_1 x14_1).f1).length c314_1)).trans hx316_2; replace hx316_0 := (cell_far (p := ⟨gb315, 2, none⟩) (by first | (rw [add_block]; exact hn316_2) | (show (Addr.add _ _).block ≠ _; rw [add_block]; exact hn316_2) | exact hn316_2) (.int .i64 ((rd_T48 l0_1 x14_1).f2))).trans hx316_0; replace hx316_1 := (cell_far (p := ⟨gb315, 2, none⟩) (by first | (rw [add_block]; exact hn316_2) | (show (Addr.add _ _).block ≠ _; rw [add_block]; exact hn316_2) | exact hn316_2) (.int .i64 ((rd_T48 l0_1 x14_1).f2))).trans hx316_1; replace hx316_2 := (cell_far (p := ⟨gb315, 2, none⟩) (by first | (rw [add_block]; exact hn316_2) | (show (Addr.add _ _).block ≠ _; rw [add_block]; exact hn316_2) | exact hn316_2) (.int .i64 ((rd_T48 l0_1 x14_1).f2))).trans hx316_2; (try have hy316_0 := fun (n_ : Nat) => (show (((((w25.drewN n_).setCell ⟨gb315, 0, none⟩ (.int .i64 ((rd_T48 l0_1 x14_1).f0))).setCell ⟨gb315, 1, none⟩ (.slice A314_1 ((rd_T48 l0_1 x14_1).f1).length c314_1)).setCell ⟨gb315, 2, none⟩ (.int .i64 ((rd_T48 l0_1 x14_1).f2)))).cell? _ = some _ from hx316_0)); (try have hy316_1 := fun (n_ : Nat) => (show (((((w25.drewN n_).setCell ⟨gb315, 0, none⟩ (.int .i64 ((rd_T48 l0_1 x14_1).f0))).setCell ⟨gb315, 1, none⟩ (.slice A314_1 ((rd_T48 l0_1 x14_1).f1).length c314_1)).setCell ⟨gb315, 2, none⟩ (.int .i64 ((rd_T48 l0_1 x14_1).f2)))).cell? _ = some _ from hx316_1)); (try have hy316_2 := fun (n_ : Nat) => (show (((((w25.drewN n_).setCell ⟨gb315, 0, none⟩ (.int .i64 ((rd_T48 l0_1 x14_1).f0))).setCell ⟨gb315, 1, none⟩ (.slice A314_1 ((rd_T48 l0_1 x14_1).f1).length c314_1)).setCell ⟨gb315, 2, none⟩ (.int .i64 ((rd_T48 l0_1 x14_1).f2)))).cell? _ = some _ from hx316_2)); clear hn316_0; clear hn316_1; clear hn316_2; replace p316 := eq_true p316; replace q316 := eq_true q316; have p317 : 0 ≤ (0 : Int) := (by omega); have q317 : 0 < (((rd_T48 l0_1 a1).f1).length : Int) := of_decide_eq_true (by assumption); obtain ⟨ad317, e317, hx317_0⟩ := Kd.at_int HR316_1.out 0 p317 q317; cases e317; have qi317 : (0 < ((rd_T48 l0_1 a1).f1).length) = True := eq_true (by omega); (try rw [show ((0 : Int)).toNat = 0 from rfl] at hx317_0); (try rw [Addr.add_zero'] at hx317_0); have hn317_0 : ad317.block ≠ gb315 := Nat.ne_of_lt (Nat.lt_of_lt_of_le (by have := World.block_lt_of_cell? _ _ hx317_0; first | rwa [add_block] at this | exact this) GW315.out); have hn317_1 : ad317.block ≠ gb315 := Nat.ne_of_lt (Nat.lt_of_lt_of_le (by have := World.block_lt_of_cell? _ _ hx317_0; first | rwa [add_block] at this | exact this) GW315.out); have hn317_2 : ad317.block ≠ gb315 := Nat.ne_of_lt (Nat.lt_of_lt_of_le (by have := World.block_lt_of_cell? _ _ hx317_0; first | rwa [add_block] at this | exact this) GW315.out); replace hx317_0 := (HB.out.cell (World.block_lt_of_cell? w _ hx317_0)).trans hx317_0; replace hx317_0 := (cell_far (p := ⟨gb315, 0, none⟩) (by first | (rw [add_block]; exact hn317_0) | (show (Addr.add _ _).block ≠ _; rw [add_block]; exact hn317_0) | exact hn317_0) (.int .i64 ((rd_T48 l0_1 x14_1).f0))).trans hx317_0; replace hx317_0 := (cell_far (p := ⟨gb315, 1, none⟩) (by first | (rw [add_block]; exact hn317_1) | (show (Addr.add _ _).block ≠ _; rw [add_block]; exact hn317_1) | exact hn317_1) (.slice A314_1 ((rd_T48 l0_1 x14_1).f1).length c314_1)).trans hx317_0; replace hx317_0 := (cell_far (p := ⟨gb315, 2, none⟩) (by first | (rw [add_block]; exact hn317_2) | (show (Addr.add _ _).block ≠ _; rw [add_block]; exact hn317_2) | exact hn317_2) (.int .i64 ((rd_T48 l0_1 x14_1).f2))).trans hx317_0; (try have hy317_0 := fun (n_ : Nat) => (show (((((w25.drewN n_).setCell ⟨gb315, 0, none⟩ (.int .i64 ((rd_T48 l0_1 x14_1).f0))).setCell ⟨gb315, 1, none⟩ (.slice A314_1 ((rd_T48 l0_1 x14_1).f1).length c314_1)).setCell ⟨gb315, 2, none⟩ (.int .i64 ((rd_T48 l0_1 x14_1).f2)))).cell? _ = some _ from hx317_0)); clear hn317_0; clear hn317_1; clear hn317_2; replace p317 := eq_true p317; replace q317 := eq_true q317)); try go_wp2_with (first | ((with_reducible refine gate_dst (N := 7) rfl ?_); refine box_event (by rfl) (N := 7) (by rfl) (cs := #[.int .i64 0, .slice none 0 0, .int .i64 0]) (t := 48) (by go_simp; try rfl) ?_; intro gb315 hg w25 hbox hb; have BK315 := K_ (hbox); have GW315 := ge_ hg HB.out; have GE315 := ge_ hg HB.out; have NB312_315 := nl_ hg BK312.out; have NB315_312 := ng_ hg BK312.out; replace HO_5 := K_ (Kd.R_below HO_5.out hb); replace BK312 := K_ (blk_below BK312.out hb); replace HB := K_ (below_step HB.out hb); clear hb hbox hg; have hnb26 := NB315_312.out; have hnc26 := NB312_315.out; obtain ⟨hcz27_0, hcz27_1, hcz27_2, hfz27_0, hfz27_1, hfz27_2⟩ := blkf3_ BK315.out; obtain ⟨hcz28_0, hcz28_1, hcz28_2, hfz28_0, hfz28_1, hfz28_2⟩ := blkf3_ BK312.out; have p316 : 0 ≤ (a1 : Int) := of_decide_eq_true (by assumption); have q316 : a1 < (l0_1.length : Int) := of_decide_eq_true (by assumption); obtain ⟨ad316, A316_1, c316_1, e316, hx316_0, hx316_1, hx316_2, hl316_1, hi316_1⟩ := at_T48 HR0_1.out a1 p316 q316; obtain rfl : ad314 = ad316 := (by injection e316); have hn316_0 : ad314.block ≠ gb315 := Nat.ne_of_lt (Nat.lt_of_lt_of_le (by have := World.block_lt_of_cell? _ _ hx316_0; first | rwa [add_block] at this | exact this) GW315.out); have hn316_1 : ad314.block ≠ gb315 := Nat.ne_of_lt (Nat.lt_of_lt_of_le (by have := World.block_lt_of_cell? _ _ hx316_0; first | rwa [add_block] at this | exact this) GW315.out); have hn316_2 : ad314.block ≠ gb315 := Nat.ne_of_lt (Nat.lt_of_lt_of_le (by have := World.block_lt_of_cell? _ _ hx316_0; first | rwa [add_block] at this | exact this) GW315.out); replace hx316_0 := (HB.out.cell (World.block_lt_of_cell? w _ hx316_0)).trans hx316_0; replace hx316_1 := (HB.out.cell (World.block_lt_of_cell? w _ hx316_1)).trans hx316_1; replace hx316_2 := (HB.out.cell (World.block_lt_of_cell? w _ hx316_2)).trans hx316_2; have HR316_1 := K_ hi316_1; have HC316_1 := K_ hl316_1; clear hi316_1 hl316_1; replace hx316_0 := (cell_far (p := ⟨gb315, 0, none⟩) (by first | (rw [add_block]; exact hn316_0) | (show (Addr.add _ _).block ≠ _; rw [add_block]; exact hn316_0) | exact hn316_0) (.int .i64 ((rd_T48 l0_1 x14_1).f0))).trans hx316_0; replace hx316_1 := (cell_far (p := ⟨gb315, 0, none⟩) (by first | (rw [add_block]; exact hn316_0) | (show (Addr.add _ _).block ≠ _; rw [add_block]; exact hn316_0) | exact hn316_0) (.int .i64 ((rd_T48 l0_1 x14_1).f0))).trans hx316_1; replace hx316_2 := (cell_far (p := ⟨gb315, 0, none⟩) (by first | (rw [add_block]; exact hn316_0) | (show (Addr.add _ _).block ≠ _; rw [add_block]; exact hn316_0) | exact hn316_0) (.int .i64 ((rd_T48 l0_1 x14_1).f0))).trans hx316_2; replace hx316_0 := (cell_far (p := ⟨gb315, 1, none⟩) (by first | (rw [add_block]; exact hn316_1) | (show (Addr.add _ _).block ≠ _; rw [add_block]; exact hn316_1) | exact hn316_1) (.slice A314_1 ((rd_T48 l0_1 x14_1).f1).length c314_1)).trans hx316_0; replace hx316_1 := (cell_far (p := ⟨gb315, 1, none⟩) (by first | (rw [add_block]; exact hn316_1) | (show (Addr.add _ _).block ≠ _; rw [add_block]; exact hn316_1) | exact hn316_1) (.slice A314_1 ((rd_T48 l0_1 x14_1).f1).length c314_1)).trans hx316_1; replace hx316_2 := (cell_far (p := ⟨gb315, 1, none⟩) (by first | (rw [add_block]; exact hn316_1) | (show (Addr.add _ _).block ≠ _; rw [add_block]; exact hn316_1) | exact hn316_1) (.slice A314_1 ((rd_T48 l0_1 x14_1).f1).length c314_1)).trans hx316_2; replace hx316_0 := (cell_far (p := ⟨gb315, 2, none⟩) (by first | (rw [add_block]; exact hn316_2) | (show (Addr.add _ _).block ≠ _; rw [add_block]; exact hn316_2) | exact hn316_2) (.int .i64 ((rd_T48 l0_1 x14_1).f2))).trans hx316_0; replace hx316_1 := (cell_far (p := ⟨gb315, 2, none⟩) (by first | (rw [add_block]; exact hn316_2) | (show (Addr.add _ _).block ≠ _; rw [add_block]; exact hn316_2) | exact hn316_2) (.int .i64 ((rd_T48 l0_1 x14_1).f2))).trans hx316_1; replace hx316_2 := (cell_far (p := ⟨gb315, 2, none⟩) (by first | (rw [add_block]; exact hn316_2) | (show (Addr.add _ _).block ≠ _; rw [add_block]; exact hn316_2) | exact hn316_2) (.int .i64 ((rd_T48 l0_1 x14_1).f2))).trans hx316_2; (try have hy316_0 := fun (n_ : Nat) => (show (((((w25.drewN n_).setCell ⟨gb315, 0, none⟩ (.int .i64 ((rd_T48 l0_1 x14_1).f0))).setCell ⟨gb315, 1, none⟩ (.slice A314_1 ((rd_T48 l0_1 x14_1).f1).length c314_1)).setCell ⟨gb315, 2, none⟩ (.int .i64 ((rd_T48 l0_1 x14_1).f2)))).cell? _ = some _ from hx316_0)); (try have hy316_1 := fun (n_ : Nat) => (show (((((w25.drewN n_).setCell ⟨gb315, 0, none⟩ (.int .i64 ((rd_T48 l0_1 x14_1).f0))).setCell ⟨gb315, 1, none⟩ (.slice A314_1 ((rd_T48 l0_1 x14_1).f1).length c314_1)).setCell ⟨gb315, 2, none⟩ (.int .i64 ((rd_T48 l0_1 x14_1).f2)))).cell? _ = some _ from hx316_1)); (try have hy316_2 := fun (n_ : Nat) => (show (((((w25.drewN n_).setCell ⟨gb315, 0, none⟩ (.int .i64 ((rd_T48 l0_1 x14_1).f0))).setCell ⟨gb315, 1, none⟩ (.slice A314_1 ((rd_T48 l0_1 x14_1).f1).length c314_1)).setCell ⟨gb315, 2, none⟩ (.int .i64 ((rd_T48 l0_1 x14_1).f2)))).cell? _ = some _ from hx316_2)); clear hn316_0; clear hn316_1; clear hn316_2; replace p316 := eq_true p316; replace q316 := eq_true q316; have p317 : 0 ≤ (0 : Int) := (by omega); have q317 : 0 < (((rd_T48 l0_1 a1).f1).length : Int) := of_decide_eq_true (by assumption); obtain ⟨ad317, e317, hx317_0⟩ := Kd.at_int HR316_1.out 0 p317 q317; cases e317; have qi317 : (0 < ((rd_T48 l0_1 a1).f1).length) = True := eq_true (by omega); (try rw [show ((0 : Int)).toNat = 0 from rfl] at hx317_0); (try rw [Addr.add_zero'] at hx317_0); have hn317_0 : ad317.block ≠ gb315 := Nat.ne_of_lt (Nat.lt_of_lt_of_le (by have := World.block_lt_of_cell? _ _ hx317_0; first | rwa [add_block] at this | exact this) GW315.out); have hn317_1 : ad317.block ≠ gb315 := Nat.ne_of_lt (Nat.lt_of_lt_of_le (by have := World.block_lt_of_cell? _ _ hx317_0; first | rwa [add_block] at this | exact this) GW315.out); have hn317_2 : ad317.block ≠ gb315 := Nat.ne_of_lt (Nat.lt_of_lt_of_le (by have := World.block_lt_of_cell? _ _ hx317_0; first | rwa [add_block] at this | exact this) GW315.out); replace hx317_0 := (HB.out.cell (World.block_lt_of_cell? w _ hx317_0)).trans hx317_0; replace hx317_0 := (cell_far (p := ⟨gb315, 0, none⟩) (by first | (rw [add_block]; exact hn317_0) | (show (Addr.add _ _).block ≠ _; rw [add_block]; exact hn317_0) | exact hn317_0) (.int .i64 ((rd_T48 l0_1 x14_1).f0))).trans hx317_0; replace hx317_0 := (cell_far (p := ⟨gb315, 1, none⟩) (by first | (rw [add_block]; exact hn317_1) | (show (Addr.add _ _).block ≠ _; rw [add_block]; exact hn317_1) | exact hn317_1) (.slice A314_1 ((rd_T48 l0_1 x14_1).f1).length c314_1)).trans hx317_0; replace hx317_0 := (cell_far (p := ⟨gb315, 2, none⟩) (by first | (rw [add_block]; exact hn317_2) | (show (Addr.add _ _).block ≠ _; rw [add_block]; exact hn317_2) | exact hn317_2) (.int .i64 ((rd_T48 l0_1 x14_1).f2))).trans hx317_0; (try have hy317_0 := fun (n_ : Nat) => (show (((((w25.drewN n_).setCell ⟨gb315, 0, none⟩ (.int .i64 ((rd_T48 l0_1 x14_1).f0))).setCell ⟨gb315, 1, none⟩ (.slice A314_1 ((rd_T48 l0_1 x14_1).f1).length c314_1)).setCell ⟨gb315, 2, none⟩ (.int .i64 ((rd_T48 l0_1 x14_1).f2)))).cell? _ = some _ from hx317_0)); clear hn317_0; clear hn317_1; clear hn317_2; replace p317 := eq_true p317; replace q317 := eq_true q317)))
    go_roundg k1
    case measure => have := HK1.out; omega
    case rel => exact ⟨(x5_1), (wrap64 (x14_1 + 1)), (by first | rfl | (simp; done) | (simp [*]; done)), H', ⟨by have := HK1.out; omega⟩, ⟨by (with_reducible repeat (first | apply Kd.R_alloc | apply Kd.R_drewN | apply Kd.R_drew)); exact Kd.R_mono (Kd.R_far (p := ⟨gb315, 2, none⟩) (Kd.R_far (p := ⟨gb315, 1, none⟩) (Kd.R_far (p := ⟨gb315, 0, none⟩) (Kd.R_types HO_5.out BK315.out (by decide)) (fun _ hk => hk.2) (.int .i64 ((rd_T48 l0_1 x14_1).f0))) (fun _ hk => hk.2) (.slice A314_1 ((rd_T48 l0_1 x14_1).f1).length c314_1)) (fun _ hk => hk.2) (.int .i64 ((rd_T48 l0_1 x14_1).f2))) (fun _ hk => trivial)⟩, ⟨by (with_reducible repeat (first | refine blk_drewN ?_ _ | refine blk_drew ?_ | refine blk_alloc ?_ _)); refine blk_far ?_ NB312_315.out _; refine blk_far ?_ NB312_315.out _; refine blk_far ?_ NB312_315.out _; exact BK312.out⟩, ⟨by repeat (first | (with_reducible first | exact HB.out | apply below_alloc | apply pw_below_drewN | apply below_drew1 | refine below_set ?_ GE312.out | refine below_set ?_ GE315.out) | exact HB.out)⟩⟩
   have c18b0 := beq_iff_eq.mpr c18
   have c18b1 := bne_eq_false_iff_eq.mpr c18
   clear c18
   replace H := pn_ H
   obtain ⟨c19, H⟩ := H
   have LMc19 := K_ c19
   clear c19
   obtain ⟨y318, hy318⟩ : ∃ y_ : List Int, y_ = (x5_1 ++ [x14_1]) := ⟨_, rfl⟩
   rw [← hy318] at H
   have Ny318 := K_ hy318
   clear hy318
   have H' := K_ H
   clear H
   have p314 : 0 ≤ (x14_1 : Int) := of_decide_eq_true (by assumption)
   have q314 : x14_1 < (l0_1.length : Int) := of_decide_eq_true (by assumption)
   obtain ⟨ad314, A314_1, c314_1, e314, hx314_0, hx314_1, hx314_2, hl314_1, hi314_1⟩ := at_T48 HR0_1.out x14_1 p314 q314
   cases e314
   replace hx314_0 := (HB.out.cell (World.block_lt_of_cell? w _ hx314_0)).trans hx314_0
   replace hx314_1 := (HB.out.cell (World.block_lt_of_cell? w _ hx314_1)).trans hx314_1
   replace hx314_2 := (HB.out.cell (World.block_lt_of_cell? w _ hx314_2)).trans hx314_2
   have HR314_1 := K_ hi314_1
   have HC314_1 := K_ hl314_1
   clear hi314_1 hl314_1
   replace p314 := eq_true p314
   replace q314 := eq_true q314
   go_wp2_with (first | ((with_reducible refine gate_dst (N := 7) rfl ?_); refine box_event (by rfl) (N := 7) (by rfl) (cs := #[.int .i64 0, .slice none 0 0, .int .i64 0]) (t := 48) (by go_simp; try rfl) ?_; intro gb315 hg w20 hbox hb; have BK315 := K_ (hbox); have GW315 := ge_ hg HB.out; have GE315 := ge_ hg HB.out; have NB312_315 := nl_ hg BK312.out; have NB315_312 := ng_ hg BK312.out; replace HO_5 := K_ (Kd.R_below HO_5.out hb); replace BK312 := K_ (blk_below BK312.out hb); replace HB := K_ (below_step HB.out hb); clear hb hbox hg; have hnb21 := NB315_312.out; have hnc21 := NB312_315.out; obtain ⟨hcz22_0, hcz22_1, hcz22_2, hfz22_0, hfz22_1, hfz22_2⟩ := blkf3_ BK315.out; obtain ⟨hcz23_0, hcz23_1, hcz23_2, hfz23_0, hfz23_1, hfz23_2⟩ := blkf3_ BK312.out; have p316 : 0 ≤ (a1 : Int) := of_decide_eq_true (by assumption); have q316 : a1 < (l0_1.length : Int) := of_decide_eq_true (by assumption); obtain ⟨ad316, A316_1, c316_1, e316, hx316_0, hx316_1, hx316_2, hl316_1, hi316_1⟩ := at_T48 HR0_1.out a1 p316 q316; obtain rfl : ad314 = ad316 := (by injection e316); have hn316_0 : ad314.block ≠ gb315 := Nat.ne_of_lt (Nat.lt_of_lt_of_le (by have := World.block_lt_of_cell? _ _ hx316_0; first | rwa [add_block] at this | exact this) GW315.out); have hn316_1 : ad314.block ≠ gb315 := Nat.ne_of_lt (Nat.lt_of_lt_of_le (by have := World.block_lt_of_cell? _ _ hx316_0; first | rwa [add_block] at this | exact this) GW315.out); have hn316_2 : ad314.block ≠ gb315 := Nat.ne_of_lt (Nat.lt_of_lt_of_le (by have := World.block_lt_of_cell? _ _ hx316_0; first | rwa [add_block] at this | exact this) GW315.out); replace hx316_0 := (HB.out.cell (World.block_lt_of_cell? w _ hx316_0)).trans hx316_0; replace hx316_1 := (HB.out.cell (World.block_lt_of_cell? w _ hx316_1)).trans hx316_1; replace hx316_2 := (HB.out.cell (World.block_lt_of_cell? w _ hx316_2)).trans hx316_2; have HR316_1 := K_ hi316_1; have HC316_1 := K_ hl316_1; clear hi316_1 hl316_1; replace hx316_0 := (cell_far (p := ⟨gb315, 0, none⟩) (by first | (rw [add_block]; exact hn316_0) | (show (Addr.add _ _).block ≠ _; rw [add_block]; exact hn316_0) | exact hn316_0) (.int .i64 ((rd_T48 l0_1 x14_1).f0))).trans hx316_0; replace hx316_1 := (cell_far (p := ⟨gb315, 0, none⟩) (by first | (rw [add_block]; exact hn316_0) | (show (Addr.add _ _).block ≠ _; rw [add_block]; exact hn316_0) | exact hn316_0) (.int .i64 ((rd_T48 l0_1 x14_1).f0))).trans hx316_1; replace hx316_2 := (cell_far (p := ⟨gb315, 0, none⟩) (by first | (rw [add_block]; exact hn316_0) | (show (Addr.add _ _).block ≠ _; rw [add_block]; exact hn316_0) | exact hn316_0) (.int .i64 ((rd_T48 l0_1 x14_1).f0))).trans hx316_2; replace hx316_0 := (cell_far (p := ⟨gb315, 1, none⟩) (by first | (rw [add_block]; exact hn316_1) | (show (Addr.add _ _).block ≠ _; rw [add_block]; exact hn316_1) | exact hn316_1) (.slice A314_1 ((rd_T48 l0_1 x14_1).f1).length c314_1)).trans hx316_0; replace hx316_1 := (cell_far (p := ⟨gb315, 1, none⟩) (by first | (rw [add_block]; exact hn316_1) | (show (Addr.add _ _).block ≠ _; rw [add_block]; exact hn316_1) | exact hn316_1) (.slice A314_1 ((rd_T48 l0_1 x14_1).f1).length c314_1)).trans hx316_1; replace hx316_2 := (cell_far (p := ⟨gb315, 1, none⟩) (by first | (rw [add_block]; exact hn316_1) | (show (Addr.add _ _).block ≠ _; rw [add_block]; exact hn316_1) | exact hn316_1) (.slice A314_1 ((rd_T48 l0_1 x14_1).f1).length c314_1)).trans hx316_2; replace hx316_0 := (cell_far (p := ⟨gb315, 2, none⟩) (by first | (rw [add_block]; exact hn316_2) | (show (Addr.add _ _).block ≠ _; rw [add_block]; exact hn316_2) | exact hn316_2) (.int .i64 ((rd_T48 l0_1 x14_1).f2))).trans hx316_0; replace hx316_1 := (cell_far (p := ⟨gb315, 2, none⟩) (by first | (rw [add_block]; exact hn316_2) | (show (Addr.add _ _).block ≠ _; rw [add_block]; exact hn316_2) | exact hn316_2) (.int .i64 ((rd_T48 l0_1 x14_1).f2))).trans hx316_1; replace hx316_2 := (cell_far (p := ⟨gb315, 2, none⟩) (by first | (rw [add_block]; exact hn316_2) | (show (Addr.add _ _).block ≠ _; rw [add_block]; exact hn316_2) | exact hn316_2) (.int .i64 ((rd_T48 l0_1 x14_1).f2))).trans hx316_2; (try have hy316_0 := fun (n_ : Nat) => (show (((((w20.drewN n_).setCell ⟨gb315, 0, none⟩ (.int .i64 ((rd_T48 l0_1 x14_1).f0))).setCell ⟨gb315, 1, none⟩ (.slice A314_1 ((rd_T48 l0_1 x14_1).f1).length c314_1)).setCell ⟨gb315, 2, none⟩ (.int .i64 ((rd_T48 l0_1 x14_1).f2)))).cell? _ = some _ from hx316_0)); (try have hy316_1 := fun (n_ : Nat) => (show (((((w20.drewN n_).setCell ⟨gb315, 0, none⟩ (.int .i64 ((rd_T48 l0_1 x14_1).f0))).setCell ⟨gb315, 1, none⟩ (.slice A314_1 ((rd_T48 l0_1 x14_1).f1).length c314_1)).setCell ⟨gb315, 2, none⟩ (.int .i64 ((rd_T48 l0_1 x14_1).f2)))).cell? _ = some _ from hx316_1)); (try have hy316_2 := fun (n_ : Nat) => (show (((((w20.drewN n_).setCell ⟨gb315, 0, none⟩ (.int .i64 ((rd_T48 l0_1 x14_1).f0))).setCell ⟨gb315, 1, none⟩ (.slice A314_1 ((rd_T48 l0_1 x14_1).f1).length c314_1)).setCell ⟨gb315, 2, none⟩ (.int .i64 ((rd_T48 l0_1 x14_1).f2)))).cell? _ = some _ from hx316_2)); clear hn316_0; clear hn316_1; clear hn316_2; replace p316 := eq_true p316; replace q316 := eq_true q316; have p317 : 0 ≤ (0 : Int) := (by omega); have q317 : 0 < (((rd_T48 l0_1 a1).f1).length : Int) := of_decide_eq_true (by assumption); obtain ⟨ad317, e317, hx317_0⟩ := Kd.at_int HR316_1.out 0 p317 q317; cases e317; have qi317 : (0 < ((rd_T48 l0_1 a1).f1).length) = True := eq_true (by omega); (try rw [show ((0 : Int)).toNat = 0 from rfl] at hx317_0); (try rw [Addr.add_zero'] at hx317_0); have hn317_0 : ad317.block ≠ gb315 := Nat.ne_of_lt (Nat.lt_of_lt_of_le (by have := World.block_lt_of_cell? _ _ hx317_0; first | rwa [add_block] at this | exact this) GW315.out); have hn317_1 : ad317.block ≠ gb315 := Nat.ne_of_lt (Nat.lt_of_lt_of_le (by have := World.block_lt_of_cell? _ _ hx317_0; first | rwa [add_block] at this | exact this) GW315.out); have hn317_2 : ad317.block ≠ gb315 := Nat.ne_of_lt (Nat.lt_of_lt_of_le (by have := World.block_lt_of_cell? _ _ hx317_0; first | rwa [add_block] at this | exact this) GW315.out); replace hx317_0 := (HB.out.cell (World.block_lt_of_cell? w _ hx317_0)).trans hx317_0; replace hx317_0 := (cell_far (p := ⟨gb315, 0, none⟩) (by first | (rw [add_block]; exact hn317_0) | (show (Addr.add _ _).block ≠ _; rw [add_block]; exact hn317_0) | exact hn317_0) (.int .i64 ((rd_T48 l0_1 x14_1).f0))).trans hx317_0; replace hx317_0 := (cell_far (p := ⟨gb315, 1, none⟩) (by first | (rw [add_block]; exact hn317_1) | (show (Addr.add _ _).block ≠ _; rw [add_block]; exact hn317_1) | exact hn317_1) (.slice A314_1 ((rd_T48 l0_1 x14_1).f1).length c314_1)).trans hx317_0; replace hx317_0 := (cell_far (p := ⟨gb315, 2, none⟩) (by first | (rw [add_block]; exact hn317_2) | (show (Addr.add _ _).block ≠ _; rw [add_block]; exact hn317_2) | exact hn317_2) (.int .i64 ((rd_T48 l0_1 x14_1).f2))).trans hx317_0; (try have hy317_0 := fun (n_ : Nat) => (show (((((w20.drewN n_).setCell ⟨gb315, 0, none⟩ (.int .i64 ((rd_T48 l0_1 x14_1).f0))).setCell ⟨gb315, 1, none⟩ (.slice A314_1 ((rd_T48 l0_1 x14_1).f1).length c314_1)).setCell ⟨gb315, 2, none⟩ (.int .i64 ((rd_T48 l0_1 x14_1).f2)))).cell? _ = some _ from hx317_0)); clear hn317_0; clear hn317_1; clear hn317_2; replace p317 := eq_true p317; replace q317 := eq_true q317) | ((with_reducible refine gate_builtin (b := .append) (xs := #[.tmp 30, .tmp 32]) rfl ?_); at_builtin; refine Kd.R_append (Kd.int .i64) (w0 := w) w.heap.size rfl (.tmp 30) (.tmp 32) 22 3 (.int .i64 0) 8 rfl Tryd.underlying22 info3 rfl (by decide) (by omega) u5 x5_1 x14_1 [.int .i64 x14_1] (fun _ => True) (fun _ => False) rfl (by first | (go_simp; done) | (go_simp; rfl)) ?aP (fun _ hk => hk.elim) ?aF ?aO ?aB ?aS ?aL ?_; (case aP => exact rfl); (case aB => exact HB.out); (case aF => exact (fun _ _ => trivial)); (case aO => exact (by exact Kd.R_mono (Kd.R_far (p := ⟨gb315, 2, none⟩) (Kd.R_far (p := ⟨gb315, 1, none⟩) (Kd.R_far (p := ⟨gb315, 0, none⟩) (Kd.R_types HO_5.out BK315.out (by decide)) (fun _ hk => hk.2) (.int .i64 ((rd_T48 l0_1 x14_1).f0))) (fun _ hk => hk.2) (.slice A314_1 ((rd_T48 l0_1 x14_1).f1).length c314_1)) (fun _ hk => hk.2) (.int .i64 ((rd_T48 l0_1 x14_1).f2))) (fun _ hk => trivial))); (case aS => exact (below_size HB.out)); (case aL => have := LMc19.out; omega); intro v319 w24 ho hb hg hat; rw [← Ny318.out] at ho; have HO320 := K_ (ho); replace BK312 := K_ (blk_grown (g := gb312) (o := .cells #[.slice A0_0 l0_0.length c0_0, .slice (some ad314) l0_1.length c0_1, .slice A0_2 l0_2.length c0_2] 30 (0, 0)) (by refine blk_far ?_ NB312_315.out _; refine blk_far ?_ NB312_315.out _; refine blk_far ?_ NB312_315.out _; exact BK312.out) hg (Kd.R_ne HO_5.out BK312.out (by decide))); replace BK315 := K_ (blk_grown (g := gb315) (o := .cells #[.int .i64 ((rd_T48 l0_1 x14_1).f0), .slice A314_1 ((rd_T48 l0_1 x14_1).f1).length c314_1, .int .i64 ((rd_T48 l0_1 x14_1).f2)] 48 (0, 0)) (by refine blk_put (cs := #[.int .i64 ((rd_T48 l0_1 x14_1).f0), .slice A314_1 ((rd_T48 l0_1 x14_1).f1).length c314_1, .int .i64 0]) ?_ 2 _ rfl; refine blk_put (cs := #[.int .i64 ((rd_T48 l0_1 x14_1).f0), .slice none 0 0, .int .i64 0]) ?_ 1 _ rfl; refine blk_put (cs := #[.int .i64 0, .slice none 0 0, .int .i64 0]) ?_ 0 _ rfl; exact BK315.out) hg (Kd.R_ne HO_5.out BK315.out (by decide))); replace HB := K_ (hb); clear HO_5; clear ho hb hg hat))
   repeat (go_quiet (first | ((with_reducible refine gate_dst (N := 7) rfl ?_); refine box_event ?hg (N := 7) ?hd (cs := #[.int .i64 0, .slice none 0 0, .int .i64 0]) (t := 48) ?hr ?_; (case hd => rfl); (case hg => rfl); (case hr => go_simp; try rfl); intro gb315 hg w20 hbox hb; have n0_ := K_ (Kd.R_below HO_5.out hb); have n1_ := K_ (blk_below BK312.out hb); have n2_ := K_ (below_step HB.out hb); have n3_ := K_ (hbox); have n4_ := ge_ hg HB.out; have n5_ := ge_ hg HB.out; have n6_ := nl_ hg BK312.out; have n7_ := ng_ hg BK312.out; clear HO_5; clear BK312; clear HB; have HO_5 := n0_; have BK312 := n1_; have HB := n2_; have BK315 := n3_; have GW315 := n4_; have GE315 := n5_; have NB312_315 := n6_; have NB315_312 := n7_; clear n0_ n1_ n2_ n3_ n4_ n5_ n6_ n7_; clear hb hbox hg; have hnb21 := NB315_312.out; have hnc21 := NB312_315.out; obtain ⟨hcz22_0, hcz22_1, hcz22_2, hfz22_0, hfz22_1, hfz22_2⟩ := blkf3_ BK315.out; obtain ⟨hcz23_0, hcz23_1, hcz23_2, hfz23_0, hfz23_1, hfz23_2⟩ := blkf3_ BK312.out; have p316 : 0 ≤ (a1 : Int) := of_decide_eq_true (by assumption); have q316 : a1 < (l0_1.length : Int) := of_decide_eq_true (by assumption); obtain ⟨ad316, A316_1, c316_1, e316, hx316_0, hx316_1, hx316_2, hl316_1, hi316_1⟩ := at_T48 HR0_1.out a1 p316 q316; obtain rfl : ad314 = ad316 := (by injection e316); have hn316_0 : ad314.block ≠ gb315 := Nat.ne_of_lt (Nat.lt_of_lt_of_le (by have := World.block_lt_of_cell? _ _ hx316_0; first | rwa [add_block] at this | exact this) GW315.out); have hn316_1 : ad314.block ≠ gb315 := Nat.ne_of_lt (Nat.lt_of_lt_of_le (by have := World.block_lt_of_cell? _ _ hx316_0; first | rwa [add_block] at this | exact this) GW315.out); have hn316_2 : ad314.block ≠ gb315 := Nat.ne_of_lt (Nat.lt_of_lt_of_le (by have := World.block_lt_of_cell? _ _ hx316_0; first | rwa [add_block] at this | exact this) GW315.out); replace hx316_0 := (HB.out.cell (World.block_lt_of_cell? w _ hx316_0)).trans hx316_0; replace hx316_1 := (HB.out.cell (World.block_lt_of_cell? w _ hx316_1)).trans hx316_1; replace hx316_2 := (HB.out.cell (World.block_lt_of_cell? w _ hx316_2)).trans hx316_2; have HR316_1 := K_ hi316_1; have HC316_1 := K_ hl316_1; clear hi316_1 hl316_1; replace hx316_0 := (cell_far (p := ⟨gb315, 0, none⟩) (by first | (rw [add_block]; exact hn316_0) | (show (Addr.add _ _).block ≠ _; rw [add_block]; exact hn316_0) | exact hn316_0) (.int .i64 ((rd_T48 l0_1 x14_1).f0))).trans hx316_0; replace hx316_1 := (cell_far (p := ⟨gb315, 0, none⟩) (by first | (rw [add_block]; exact hn316_0) | (show (Addr.add _ _).block ≠ _; rw [add_block]; exact hn316_0) | exact hn316_0) (.int .i64 ((rd_T48 l0_1 x14_1).f0))).trans hx316_1; replace hx316_2 := (cell_far (p := ⟨gb315, 0, none⟩) (by first | (rw [add_block]; exact hn316_0) | (show (Addr.add _ _).block ≠ _; rw [add_block]; exact hn316_0) | exact hn316_0) (.int .i64 ((rd_T48 l0_1 x14_1).f0))).trans hx316_2; replace hx316_0 := (cell_far (p := ⟨gb315, 1, none⟩) (by first | (rw [add_block]; exact hn316_1) | (show (Addr.add _ _).block ≠ _; rw [add_block]; exact hn316_1) | exact hn316_1) (.slice A314_1 ((rd_T48 l0_1 x14_1).f1).length c314_1)).trans hx316_0; replace hx316_1 := (cell_far (p := ⟨gb315, 1, none⟩) (by first | (rw [add_block]; exact hn316_1) | (show (Addr.add _ _).block ≠ _; rw [add_block]; exact hn316_1) | exact hn316_1) (.slice A314_1 ((rd_T48 l0_1 x14_1).f1).length c314_1)).trans hx316_1; replace hx316_2 := (cell_far (p := ⟨gb315, 1, none⟩) (by first | (rw [add_block]; exact hn316_1) | (show (Addr.add _ _).block ≠ _; rw [add_block]; exact hn316_1) | exact hn316_1) (.slice A314_1 ((rd_T48 l0_1 x14_1).f1).length c314_1)).trans hx316_2; replace hx316_0 := (cell_far (p := ⟨gb315, 2, none⟩) (by first | (rw [add_block]; exact hn316_2) | (show (Addr.add _ _).block ≠ _; rw [add_block]; exact hn316_2) | exact hn316_2) (.int .i64 ((rd_T48 l0_1 x14_1).f2))).trans hx316_0; replace hx316_1 := (cell_far (p := ⟨gb315, 2, none⟩) (by first | (rw [add_block]; exact hn316_2) | (show (Addr.add _ _).block ≠ _; rw [add_block]; exact hn316_2) | exact hn316_2) (.int .i64 ((rd_T48 l0_1 x14_1).f2))).trans hx316_1; replace hx316_2 := (cell_far (p := ⟨gb315, 2, none⟩) (by first | (rw [add_block]; exact hn316_2) | (show (Addr.add _ _).block ≠ _; rw [add_block]; exact hn316_2) | exact hn316_2) (.int .i64 ((rd_T48 l0_1 x14_1).f2))).trans hx316_2; (try have hy316_0 := fun (n_ : Nat) => (show (((((w20.drewN n_).setCell ⟨gb315, 0, none⟩ (.int .i64 ((rd_T48 l0_1 x14_1).f0))).setCell ⟨gb315, 1, none⟩ (.slice A314_1 ((rd_T48 l0_1 x14_1).f1).length c314_1)).setCell ⟨gb315, 2, none⟩ (.int .i64 ((rd_T48 l0_1 x14_1).f2)))).cell? _ = some _ from hx316_0)); (try have hy316_1 := fun (n_ : Nat) => (show (((((w20.drewN n_).setCell ⟨gb315, 0, none⟩ (.int .i64 ((rd_T48 l0_1 x14_1).f0))).setCell ⟨gb315, 1, none⟩ (.slice A314_1 ((rd_T48 l0_1 x14_1).f1).length c314_1)).setCell ⟨gb315, 2, none⟩ (.int .i64 ((rd_T48 l0_1 x14_1).f2)))).cell? _ = some _ from hx316_1)); (try have hy316_2 := fun (n_ : Nat) => (show (((((w20.drewN n_).setCell ⟨gb315, 0, none⟩ (.int .i64 ((rd_T48 l0_1 x14_1).f0))).setCell ⟨gb315, 1, none⟩ (.slice A314_1 ((rd_T48 l0_1 x14_1).f1).length c314_1)).setCell ⟨gb315, 2, none⟩ (.int .i64 ((rd_T48 l0_1 x14_1).f2)))).cell? _ = some _ from hx316_2)); clear hn316_0; clear hn316_1; clear hn316_2; replace p316 := eq_true p316; replace q316 := eq_true q316; have p317 : 0 ≤ (0 : Int) := (by omega); have q317 : 0 < (((rd_T48 l0_1 a1).f1).length : Int) := of_decide_eq_true (by assumption); obtain ⟨ad317, e317, hx317_0⟩ := Kd.at_int HR316_1.out 0 p317 q317; cases e317; have qi317 : (0 < ((rd_T48 l0_1 a1).f1).length) = True := eq_true (by omega); (try rw [show ((0 : Int)).toNat = 0 from rfl] at hx317_0); (try rw [Addr.add_zero'] at hx317_0); have hn317_0 : ad317.block ≠ gb315 := Nat.ne_of_lt (Nat.lt_of_lt_of_le (by have := World.block_lt_of_cell? _ _ hx317_0; first | rwa [add_block] at this | exact this) GW315.out); have hn317_1 : ad317.block ≠ gb315 := Nat.ne_of_lt (Nat.lt_of_lt_of_le (by have := World.block_lt_of_cell? _ _ hx317_0; first | rwa [add_block] at this | exact this) GW315.out); have hn317_2 : ad317.block ≠ gb315 := Nat.ne_of_lt (Nat.lt_of_lt_of_le (by have := World.block_lt_of_cell? _ _ hx317_0; first | rwa [add_block] at this | exact this) GW315.out); replace hx317_0 := (HB.out.cell (World.block_lt_of_cell? w _ hx317_0)).trans hx317_0; replace hx317_0 := (cell_far (p := ⟨gb315, 0, none⟩) (by first | (rw [add_block]; exact hn317_0) | (show (Addr.add _ _).block ≠ _; rw [add_block]; exact hn317_0) | exact hn317_0) (.int .i64 ((rd_T48 l0_1 x14_1).f0))).trans hx317_0; replace hx317_0 := (cell_far (p := ⟨gb315, 1, none⟩) (by first | (rw [add_block]; exact hn317_1) | (show (Addr.add _ _).block ≠ _; rw [add_block]; exact hn317_1) | exact hn317_1) (.slice A314_1 ((rd_T48 l0_1 x14_1).f1).length c314_1)).trans hx317_0; replace hx317_0 := (cell_far (p := ⟨gb315, 2, none⟩) (by first | (rw [add_block]; exact hn317_2) | (show (Addr.add _ _).block ≠ _; rw [add_block]; exact hn317_2) | exact hn317_2) (.int .i64 ((rd_T48 l0_1 x14_1).f2))).trans hx317_0; (try have hy317_0 := fun (n_ : Nat) => (show (((((w20.drewN n_).setCell ⟨gb315, 0, none⟩ (.int .i64 ((rd_T48 l0_1 x14_1).f0))).setCell ⟨gb315, 1, none⟩ (.slice A314_1 ((rd_T48 l0_1 x14_1).f1).length c314_1)).setCell ⟨gb315, 2, none⟩ (.int .i64 ((rd_T48 l0_1 x14_1).f2)))).cell? _ = some _ from hx317_0)); clear hn317_0; clear hn317_1; clear hn317_2; replace p317 := eq_true p317; replace q317 := eq_true q317) | ((with_reducible refine gate_builtin (b := .append) (xs := #[.tmp 30, .tmp 32]) rfl ?_); at_builtin; refine Kd.R_append (Kd.int .i64) (w0 := w) w.heap.size rfl (.tmp 30) (.tmp 32) 22 3 (.int .i64 0) 8 rfl Tryd.underlying22 info3 rfl (by decide) (by omega) u5 x5_1 x14_1 [.int .i64 x14_1] (fun _ => True) (fun _ => False) rfl (by first | (go_simp; done) | (go_simp; rfl)) ?aP (fun _ hk => hk.elim) ?aF ?aO ?aB ?aS ?aL ?_; (case aP => exact rfl); (case aB => exact HB.out); (case aF => exact (fun _ _ => trivial)); (case aO => exact (by exact Kd.R_mono (Kd.R_far (p := ⟨gb315, 2, none⟩) (Kd.R_far (p := ⟨gb315, 1, none⟩) (Kd.R_far (p := ⟨gb315, 0, none⟩) (Kd.R_types HO_5.out BK315.out (by decide)) (fun _ hk => hk.2) (.int .i64 ((rd_T48 l0_1 x14_1).f0))) (fun _ hk => hk.2) (.slice A314_1 ((rd_T48 l0_1 x14_1).f1).length c314_1)) (fun _ hk => hk.2) (.int .i64 ((rd_T48 l0_1 x14_1).f2))) (fun _ hk => trivial))); (case aS => exact (below_size HB.out)); (case aL => have := LMc19.out; omega); intro v319 w24 ho hb hg hat; rw [← Ny318.out] at ho; have n0_ := K_ (blk_grown (g := gb312) (o := .cells #[.slice A0_0 l0_0.length c0_0, .slice (some ad314) l0_1.length c0_1, .slice A0_2 l0_2.length c0_2] 30 (0, 0)) (by refine blk_far ?_ NB312_315.out _; refine blk_far ?_ NB312_315.out _; refine blk_far ?_ NB312_315.out _; exact BK312.out) hg (Kd.R_ne HO_5.out BK312.out (by decide))); have n1_ := K_ (blk_grown (g := gb315) (o := .cells #[.int .i64 ((rd_T48 l0_1 x14_1).f0), .slice A314_1 ((rd_T48 l0_1 x14_1).f1).length c314_1, .int .i64 ((rd_T48 l0_1 x14_1).f2)] 48 (0, 0)) (by refine blk_put (cs := #[.int .i64 ((rd_T48 l0_1 x14_1).f0), .slice A314_1 ((rd_T48 l0_1 x14_1).f1).length c314_1, .int .i64 0]) ?_ 2 _ rfl; refine blk_put (cs := #[.int .i64 ((rd_T48 l0_1 x14_1).f0), .slice none 0 0, .int .i64 0]) ?_ 1 _ rfl; refine blk_put (cs := #[.int .i64 0, .slice none 0 0, .int .i64 0]) ?_ 0 _ rfl; exact BK315.out) hg (Kd.R_ne HO_5.out BK315.out (by decide))); have n2_ := K_ (hb); have n3_ := K_ (ho); clear BK312; clear BK315; clear HB; clear HO_5; have BK312 := n0_; have BK315 := n1_; have HB := n2_; have HO320 := n3_; clear n0_ n1_ n2_ n3_; clear ho hb hg hat)); try go_wp2_with (first | ((with_reducible refine gate_dst (N := 7) rfl ?_); refine box_event ?hg (N := 7) ?hd (cs := #[.int .i64 0, .slice none 0 0, .int .i64 0]) (t := 48) ?hr ?_; (case hd => rfl); (case hg => rfl); (case hr => go_simp; try rfl); intro gb315 hg w20 hbox hb; have n0_ := K_ (Kd.R_below HO_5.out hb); have n1_ := K_ (blk_below BK312.out hb); have n2_ := K_ (below_step HB.out hb); have n3_ := K_ (hbox); have n4_ := ge_ hg HB.out; have n5_ := ge_ hg HB.out; have n6_ := nl_ hg BK312.out; have n7_ := ng_ hg BK312.out; clear HO_5; clear BK312; clear HB; have HO_5 := n0_; have BK312 := n1_; have HB := n2_; have BK315 := n3_; have GW315 := n4_; have GE315 := n5_; have NB312_315 := n6_; have NB315_312 := n7_; clear n0_ n1_ n2_ n3_ n4_ n5_ n6_ n7_; clear hb hbox hg; have hnb21 := NB315_312.out; have hnc21 := NB312_315.out; obtain ⟨hcz22_0, hcz22_1, hcz22_2, hfz22_0, hfz22_1, hfz22_2⟩ := blkf3_ BK315.out; obtain ⟨hcz23_0, hcz23_1, hcz23_2, hfz23_0, hfz23_1, hfz23_2⟩ := blkf3_ BK312.out; have p316 : 0 ≤ (a1 : Int) := of_decide_eq_true (by assumption); have q316 : a1 < (l0_1.length : Int) := of_decide_eq_true (by assumption); obtain ⟨ad316, A316_1, c316_1, e316, hx316_0, hx316_1, hx316_2, hl316_1, hi316_1⟩ := at_T48 HR0_1.out a1 p316 q316; obtain rfl : ad314 = ad316 := (by injection e316); have hn316_0 : ad314.block ≠ gb315 := Nat.ne_of_lt (Nat.lt_of_lt_of_le (by have := World.block_lt_of_cell? _ _ hx316_0; first | rwa [add_block] at this | exact this) GW315.out); have hn316_1 : ad314.block ≠ gb315 := Nat.ne_of_lt (Nat.lt_of_lt_of_le (by have := World.block_lt_of_cell? _ _ hx316_0; first | rwa [add_block] at this | exact this) GW315.out); have hn316_2 : ad314.block ≠ gb315 := Nat.ne_of_lt (Nat.lt_of_lt_of_le (by have := World.block_lt_of_cell? _ _ hx316_0; first | rwa [add_block] at this | exact this) GW315.out); replace hx316_0 := (HB.out.cell (World.block_lt_of_cell? w _ hx316_0)).trans hx316_0; replace hx316_1 := (HB.out.cell (World.block_lt_of_cell? w _ hx316_1)).trans hx316_1; replace hx316_2 := (HB.out.cell (World.block_lt_of_cell? w _ hx316_2)).trans hx316_2; have HR316_1 := K_ hi316_1; have HC316_1 := K_ hl316_1; clear hi316_1 hl316_1; replace hx316_0 := (cell_far (p := ⟨gb315, 0, none⟩) (by first | (rw [add_block]; exact hn316_0) | (show (Addr.add _ _).block ≠ _; rw [add_block]; exact hn316_0) | exact hn316_0) (.int .i64 ((rd_T48 l0_1 x14_1).f0))).trans hx316_0; replace hx316_1 := (cell_far (p := ⟨gb315, 0, none⟩) (by first | (rw [add_block]; exact hn316_0) | (show (Addr.add _ _).block ≠ _; rw [add_block]; exact hn316_0) | exact hn316_0) (.int .i64 ((rd_T48 l0_1 x14_1).f0))).trans hx316_1; replace hx316_2 := (cell_far (p := ⟨gb315, 0, none⟩) (by first | (rw [add_block]; exact hn316_0) | (show (Addr.add _ _).block ≠ _; rw [add_block]; exact hn316_0) | exact hn316_0) (.int .i64 ((rd_T48 l0_1 x14_1).f0))).trans hx316_2; replace hx316_0 := (cell_far (p := ⟨gb315, 1, none⟩) (by first | (rw [add_block]; exact hn316_1) | (show (Addr.add _ _).block ≠ _; rw [add_block]; exact hn316_1) | exact hn316_1) (.slice A314_1 ((rd_T48 l0_1 x14_1).f1).length c314_1)).trans hx316_0; replace hx316_1 := (cell_far (p := ⟨gb315, 1, none⟩) (by first | (rw [add_block]; exact hn316_1) | (show (Addr.add _ _).block ≠ _; rw [add_block]; exact hn316_1) | exact hn316_1) (.slice A314_1 ((rd_T48 l0_1 x14_1).f1).length c314_1)).trans hx316_1; replace hx316_2 := (cell_far (p := ⟨gb315, 1, none⟩) (by first | (rw [add_block]; exact hn316_1) | (show (Addr.add _ _).block ≠ _; rw [add_block]; exact hn316_1) | exact hn316_1) (.slice A314_1 ((rd_T48 l0_1 x14_1).f1).length c314_1)).trans hx316_2; replace hx316_0 := (cell_far (p := ⟨gb315, 2, none⟩) (by first | (rw [add_block]; exact hn316_2) | (show (Addr.add _ _).block ≠ _; rw [add_block]; exact hn316_2) | exact hn316_2) (.int .i64 ((rd_T48 l0_1 x14_1).f2))).trans hx316_0; replace hx316_1 := (cell_far (p := ⟨gb315, 2, none⟩) (by first | (rw [add_block]; exact hn316_2) | (show (Addr.add _ _).block ≠ _; rw [add_block]; exact hn316_2) | exact hn316_2) (.int .i64 ((rd_T48 l0_1 x14_1).f2))).trans hx316_1; replace hx316_2 := (cell_far (p := ⟨gb315, 2, none⟩) (by first | (rw [add_block]; exact hn316_2) | (show (Addr.add _ _).block ≠ _; rw [add_block]; exact hn316_2) | exact hn316_2) (.int .i64 ((rd_T48 l0_1 x14_1).f2))).trans hx316_2; (try have hy316_0 := fun (n_ : Nat) => (show (((((w20.drewN n_).setCell ⟨gb315, 0, none⟩ (.int .i64 ((rd_T48 l0_1 x14_1).f0))).setCell ⟨gb315, 1, none⟩ (.slice A314_1 ((rd_T48 l0_1 x14_1).f1).length c314_1)).setCell ⟨gb315, 2, none⟩ (.int .i64 ((rd_T48 l0_1 x14_1).f2)))).cell? _ = some _ from hx316_0)); (try have hy316_1 := fun (n_ : Nat) => (show (((((w20.drewN n_).setCell ⟨gb315, 0, none⟩ (.int .i64 ((rd_T48 l0_1 x14_1).f0))).setCell ⟨gb315, 1, none⟩ (.slice A314_1 ((rd_T48 l0_1 x14_1).f1).length c314_1)).setCell ⟨gb315, 2, none⟩ (.int .i64 ((rd_T48 l0_1 x14_1).f2)))).cell? _ = some _ from hx316_1)); (try have hy316_2 := fun (n_ : Nat) => (show (((((w20.drewN n_).setCell ⟨gb315, 0, none⟩ (.int .i64 ((rd_T48 l0_1 x14_1).f0))).setCell ⟨gb315, 1, none⟩ (.slice A314_1 ((rd_T48 l0_1 x14_1).f1).length c314_1)).setCell ⟨gb315, 2, none⟩ (.int .i64 ((rd_T48 l0_1 x14_1).f2)))).cell? _ = some _ from hx316_2)); clear hn316_0; clear hn316_1; clear hn316_2; replace p316 := eq_true p316; replace q316 := eq_true q316; have p317 : 0 ≤ (0 : Int) := (by omega); have q317 : 0 < (((rd_T48 l0_1 a1).f1).length : Int) := of_decide_eq_true (by assumption); obtain ⟨ad317, e317, hx317_0⟩ := Kd.at_int HR316_1.out 0 p317 q317; cases e317; have qi317 : (0 < ((rd_T48 l0_1 a1).f1).length) = True := eq_true (by omega); (try rw [show ((0 : Int)).toNat = 0 from rfl] at hx317_0); (try rw [Addr.add_zero'] at hx317_0); have hn317_0 : ad317.block ≠ gb315 := Nat.ne_of_lt (Nat.lt_of_lt_of_le (by have := World.block_lt_of_cell? _ _ hx317_0; first | rwa [add_block] at this | exact this) GW315.out); have hn317_1 : ad317.block ≠ gb315 := Nat.ne_of_lt (Nat.lt_of_lt_of_le (by have := World.block_lt_of_cell? _ _ hx317_0; first | rwa [add_block] at this | exact this) GW315.out); have hn317_2 : ad317.block ≠ gb315 := Nat.ne_of_lt (Nat.lt_of_lt_of_le (by have := World.block_lt_of_cell? _ _ hx317_0; first | rwa [add_block] at this | exact this) GW315.out); replace hx317_0 := (HB.out.cell (World.block_lt_of_cell? w _ hx317_0)).trans hx317_0; replace hx317_0 := (cell_far (p := ⟨gb315, 0, none⟩) (by first | (rw [add_block]; exact hn317_0) | (show (Addr.add _ _).block ≠ _; rw [add_block]; exact hn317_0) | exact hn317_0) (.int .i64 ((rd_T48 l0_1 x14_1).f0))).trans hx317_0; replace hx317_0 := (cell_far (p := ⟨gb315, 1, none⟩) (by first | (rw [add_block]; exact hn317_1) | (show (Addr.add _ _).block ≠ _; rw [add_block]; exact hn317_1) | exact hn317_1) (.slice A314_1 ((rd_T48 l0_1 x14_1).f1).length c314_1)).trans hx317_0; replace hx317_0 := (cell_far (p := ⟨gb315, 2, none⟩) (by first | (rw [add_block]; exact hn317_2) | (show (Addr.add _ _).block ≠ _; rw [add_block]; exact hn317_2) | exact hn317_2) (.int .i64 ((rd_T48 l0_1 x14_1).f2))).trans hx317_0; (try have hy317_0 := fun (n_ : Nat) => (show (((((w20.drewN n_).setCell ⟨gb315, 0, none⟩ (.int .i64 ((rd_T48 l0_1 x14_1).f0))).setCell ⟨gb315, 1, none⟩ (.slice A314_1 ((rd_T48 l0_1 x14_1).f1).length c314_1)).setCell ⟨gb315, 2, none⟩ (.int .i64 ((rd_T48 l0_1 x14_1).f2)))).cell? _ = some _ from hx317_0)); clear hn317_0; clear hn317_1; clear hn317_2; replace p317 := eq_true p317; replace q317 := eq_true q317) | ((with_reducible refine gate_builtin (b := .append) (xs := #[.tmp 30, .tmp 32]) rfl ?_); at_builtin; refine Kd.R_append (Kd.int .i64) (w0 := w) w.heap.size rfl (.tmp 30) (.tmp 32) 22 3 (.int .i64 0) 8 rfl Tryd.underlying22 info3 rfl (by decide) (by omega) u5 x5_1 x14_1 [.int .i64 x14_1] (fun _ => True) (fun _ => False) rfl (by first | (go_simp; done) | (go_simp; rfl)) ?aP (fun _ hk => hk.elim) ?aF ?aO ?aB ?aS ?aL ?_; (case aP => exact rfl); (case aB => exact (by repeat (first | (with_reducible first | exact HB.out | apply below_alloc | apply pw_below_drewN | apply below_drew1 | refine below_set ?_ GE312.out | refine below_set ?_ GE315.out) | exact HB.out))); (case aF => exact (fun _ _ => trivial)); (case aO => exact (by (with_reducible repeat (first | apply Kd.R_alloc | apply Kd.R_drewN | apply Kd.R_drew)); exact Kd.R_mono (Kd.R_far (p := ⟨gb315, 2, none⟩) (Kd.R_far (p := ⟨gb315, 1, none⟩) (Kd.R_far (p := ⟨gb315, 0, none⟩) (Kd.R_types HO_5.out BK315.out (by decide)) (fun _ hk => hk.2) (.int .i64 ((rd_T48 l0_1 x14_1).f0))) (fun _ hk => hk.2) (.slice A314_1 ((rd_T48 l0_1 x14_1).f1).length c314_1)) (fun _ hk => hk.2) (.int .i64 ((rd_T48 l0_1 x14_1).f2))) (fun _ hk => trivial))); (case aS => exact (below_size (by repeat (first | (with_reducible first | exact HB.out | apply below_alloc | apply pw_below_drewN | apply below_drew1 | refine below_set ?_ GE312.out | refine below_set ?_ GE315.out) | exact HB.out)))); (case aL => have := LMc19.out; omega); intro v319 w24 ho hb hg hat; rw [← Ny318.out] at ho; have n0_ := K_ (blk_grown (g := gb312) (o := .cells #[.slice A0_0 l0_0.length c0_0, .slice (some ad314) l0_1.length c0_1, .slice A0_2 l0_2.length c0_2] 30 (0, 0)) (by (with_reducible repeat (first | refine blk_drewN ?_ _ | refine blk_drew ?_ | refine blk_alloc ?_ _)); refine blk_far ?_ NB312_315.out _; refine blk_far ?_ NB312_315.out _; refine blk_far ?_ NB312_315.out _; exact BK312.out) hg (Kd.R_ne HO_5.out BK312.out (by decide))); have n1_ := K_ (blk_grown (g := gb315) (o := .cells #[.int .i64 ((rd_T48 l0_1 x14_1).f0), .slice A314_1 ((rd_T48 l0_1 x14_1).f1).length c314_1, .int .i64 ((rd_T48 l0_1 x14_1).f2)] 48 (0, 0)) (by (with_reducible repeat (first | refine blk_drewN ?_ _ | refine blk_drew ?_ | refine blk_alloc ?_ _)); refine blk_put (cs := #[.int .i64 ((rd_T48 l0_1 x14_1).f0), .slice A314_1 ((rd_T48 l0_1 x14_1).f1).length c314_1, .int .i64 0]) ?_ 2 _ rfl; refine blk_put (cs := #[.int .i64 ((rd_T48 l0_1 x14_1).f0), .slice none 0 0, .int .i64 0]) ?_ 1 _ rfl; refine blk_put (cs := #[.int .i64 0, .slice none 0 0, .int .i64 0]) ?_ 0 _ rfl; exact BK315.out) hg (Kd.R_ne HO_5.out BK315.out (by decide))); have n2_ := K_ (hb); have n3_ := K_ (ho); clear BK312; clear BK315; clear HB; clear HO_5; have BK312 := n0_; have BK315 := n1_; have HB := n2_; have HO320 := n3_; clear n0_ n1_ n2_ n3_; clear ho hb hg hat)))
   go_roundg k1
   case measure => have := HK1.out; omega
   case rel => exact ⟨(y318), (wrap64 (x14_1 + 1)), rfl, H', ⟨by have := HK1.out; omega⟩, ⟨HO320.out⟩, ⟨BK312.out⟩, ⟨HB.out⟩⟩

-- NOT PRINTED: function 31 (strings_Builder_String)

-- NOT PRINTED: function 8 (impl_Shown)


/-! ### spec_l5Cur_next: function 54 -/
def spec_l5Cur_next.f (s0_0 : List Int) (s0_1 : Int) (s0_2 : Int) : Option (Int × Int × Int) := if s0_1 < (s0_0.length : Int) then (if 0 ≤ s0_1 then (some (wrap64 (rd s0_0 s0_1), wrap64 (s0_1 + 1), IntKind.u64.wrap ((IntKind.u64.wrap ((IntKind.u64.wrap (s0_2 * 6364136223846793005)) + (IntKind.u64.wrap (rd s0_0 s0_1)))) + 1442695040888963407))) else (none)) else (some (wrap64 (Go.bits .and .u64 ((IntKind.u64.wrap ((IntKind.u64.wrap (s0_2 * 6364136223846793005)) + 1442695040888963407)) / 1099511627776) 255), wrap64 (s0_1 + 1), IntKind.u64.wrap ((IntKind.u64.wrap (s0_2 * 6364136223846793005)) + 1442695040888963407)))
set_option maxHeartbeats 8000000 in
set_option maxRecDepth 100000 in
theorem spec_l5Cur_next.calls (g : Nat) (s0_0 : List Int) (s0_1 : Int) (s0_2 : Int) (r1 : Int) (r2 : Int) (r3 : Int) (w0 w : World) (hI : IsS67 w0 w g s0_0 s0_1 s0_2) (hB : Below w0.heap.size w0 w) (h : spec_l5Cur_next.f s0_0 s0_1 s0_2 = some (r1, r2, r3)) :
  Calls Tryd.prog 54 #[.pointer (some ⟨g, 0, none⟩)] w fun e w' => e = .returned (.int .i64 r1) ∧ IsS67 w0 w' g s0_0 r2 r3 ∧ Below w0.heap.size w0 w' ∧ KeepBut w w' g none := by
 have HI0 := K_ hI
 have HK := K_ (KeepBut.refl w g none)
 have HL := K_ hB.size
 clear hI
 have HW0 := K_ hB.size
 have HB := K_ hB
 clear hB
 unfold spec_l5Cur_next.f at h
 have H := h
 clear h
 replace H := ds_ H
 rcases H with ⟨c2b0, H⟩ | ⟨c2b0, H⟩
 case inr =>
  simp only [Option.some.injEq, Prod.mk.injEq] at H
  obtain ⟨rfl, rfl, rfl⟩ := H
  obtain ⟨ASz5_0, cSz5_0, HGz5, hgz5, HSz5_0⟩ := HI0.out
  have hcz5_0 := cellS67_0 HGz5
  have hcz5_1 := cellS67_1 HGz5
  have hcz5_2 := cellS67_2 HGz5
  have hfz5_1 := blk_frozen HGz5 1
  have hfz5_2 := blk_frozen HGz5 2
  clear HGz5 hgz5
  go_enter Tryd.func54, Tryd.ntmps54
  go_wp2
  repeat (go_quiet (fail); try go_wp2)
  go_ret
  exact ⟨by first | rfl | (simp [errW_none, errW_some] <;> rfl) | (simp [*, errW_none, errW_some] <;> rfl), by repeat (first | (with_reducible first | exact HI0.out | apply IsS67.alloc | apply IsS67.drewN | apply IsS67.drew | apply IsS67.set_1 | apply IsS67.set_2) | exact HI0.out), by repeat (first | (with_reducible first | exact HB.out | apply below_alloc | apply pw_below_drewN | apply below_drew1 | refine below_set ?_ (IsS67.ge HI0.out)) | exact HB.out), by repeat (first | (with_reducible first | exact HK.out | apply KeepBut.set_ | apply keep_drewN | apply keep_drew | apply keep_alloc) | exact HK.out)⟩
 replace H := dn_ H
 obtain ⟨c3b0, H⟩ := H
 simp only [Option.some.injEq, Prod.mk.injEq] at H
 obtain ⟨rfl, rfl, rfl⟩ := H
 obtain ⟨ASz4_0, cSz4_0, HGz4, hgz4, HSz4_0⟩ := HI0.out
 have hcz4_0 := cellS67_0 HGz4
 have hcz4_1 := cellS67_1 HGz4
 have hcz4_2 := cellS67_2 HGz4
 have hfz4_1 := blk_frozen HGz4 1
 have hfz4_2 := blk_frozen HGz4 2
 clear HGz4 hgz4
 have p347 : 0 ≤ (s0_1 : Int) := of_decide_eq_true (by assumption)
 have q347 : s0_1 < (s0_0.length : Int) := of_decide_eq_true (by assumption)
 obtain ⟨ad347, e347, hx347_0⟩ := Kd.at_int HSz4_0 s0_1 p347 q347
 cases e347
 replace hx347_0 := pw_cell_below HB.out hx347_0
 replace p347 := eq_true p347
 replace q347 := eq_true q347
 go_enter Tryd.func54, Tryd.ntmps54
 go_wp2
 repeat (go_quiet (fail); try go_wp2)
 go_ret
 exact ⟨by first | rfl | (simp [errW_none, errW_some] <;> rfl) | (simp [*, errW_none, errW_some] <;> rfl), by repeat (first | (with_reducible first | exact HI0.out | apply IsS67.alloc | apply IsS67.drewN | apply IsS67.drew | apply IsS67.set_1 | apply IsS67.set_2) | exact HI0.out), by repeat (first | (with_reducible first | exact HB.out | apply below_alloc | apply pw_below_drewN | apply below_drew1 | refine below_set ?_ (IsS67.ge HI0.out)) | exact HB.out), by repeat (first | (with_reducible first | exact HK.out | apply KeepBut.set_ | apply keep_drewN | apply keep_drew | apply keep_alloc) | exact HK.out)⟩


end Go.Proofs.YtkcocomehhlpmaaDoor.Q
