-- Written by programs of this session (wip/drv.py, wip/mkclaim.py) over the kit's print; not trusted: Lean checks it.
import Derived.Test.YtkcocomehhlpmaaDoorFnSpoiltQ0
import Derived.Test.YtkcocomehhlpmaaDoorFnSpoiltQ2
namespace Go.Proofs.YtkcocomehhlpmaaDoor.Q
open Go.RowKit Go.Proofs.YtkcocomehhlpmaaDoorW.PrintWords Go.Proofs.YtkcocomehhlpmaaDoorW.PrintLast Go.Proofs.YtkcocomehhlpmaaDoorW.PrintMore
attribute [local go_sem] max2_int min2_int max_two min_two max_three min_three max_four min_four   -- for this text's walks alone
set_option linter.unusedVariables false
set_option linter.unusedSimpArgs false

/-! ### spec_l5Cur_state: function 34 -/
mutual
def spec_l5Cur_state.l0 : Nat → Int → Int → List Int → Int → Int → List Int → Option (List Int × (List (S48)) × List Int × Int × Int)
 | 0, _, _, _, _, _, _ => none
 | k + 1, x4, x5, x1000, x1001, x1002, x356000 => if x5 < x4 then ((spec_l5Cur_pick.f x1000 x1001 x1002 5).bind fun bt359 => (if x356000.length < 17592186044416 then (spec_l5Cur_state.l0 k x4 (wrap64 (x5 + 1)) x1000 bt359.2.1 bt359.2.2 (x356000 ++ [wrap64 (1 + (wrap64 (Int.tdiv bt359.1 4)))])) else (none))) else ((spec_l5Cur_pick.f x1000 x1001 x1002 4).bind fun bt365 => ((spec_l5Cur_pick.f x1000 bt365.2.1 bt365.2.2 3).bind fun bt368 => ((spec_l5Cur_pick.f x1000 bt368.2.1 bt368.2.2 5).bind fun bt371 => (spec_l5Cur_state.l1 k x4 bt365.1 bt368.1 (wrap64 (1 + bt371.1)) x1000 bt371.2.1 bt371.2.2 x356000 ([] : List (S48)) ([] : List Int)))))
def spec_l5Cur_state.l1 : Nat → Int → Int → Int → Int → List Int → Int → Int → List Int → List (S48) → List Int → Option (List Int × (List (S48)) × List Int × Int × Int)
 | 0, _, _, _, _, _, _, _, _, _, _ => none
 | k + 1, x4, x6, x7, x8, x1000, x1001, x1002, x356000, x356001, x356002 => if x8 > 0 then ((spec_l5Cur_pick.f x1000 x1001 x1002 x4).bind fun bt374 => ((spec_l5Cur_pick.f x1000 bt374.2.1 bt374.2.2 5).bind fun bt377 => ((spec_l1there.f k x356000 x356001 x356002 bt374.1).bind fun t381 => (if 0 ≤ bt374.1 then (if bt374.1 < (x356000.length : Int) then (if t381 ≥ (rd x356000 bt374.1) then (spec_l5Cur_state.l1 k x4 x6 x7 (wrap64 (x8 - 1)) x1000 bt377.2.1 bt377.2.2 x356000 x356001 x356002) else ((spec_l5Cur_pick.f x1000 bt377.2.1 bt377.2.2 2).bind fun bt383 => ((spec_l5Cur_pick.f x1000 bt383.2.1 bt383.2.2 6).bind fun bt386 => (spec_l5Cur_state.l2 k x4 x6 x7 x8 (wrap64 (1 + (wrap64 (bt383.1 * (wrap64 (x4 - 2)))))) bt374.1 bt386.1 x1000 bt386.2.1 bt386.2.2 x356000 x356001 x356002 bt374.1 ([] : List Int) (wrap64 (1 + bt377.1)))))) else (none)) else (none))))) else (some (x356000, x356001, x356002, x1001, x1002))
def spec_l5Cur_state.l2 : Nat → Int → Int → Int → Int → Int → Int → Int → List Int → Int → Int → List Int → List (S48) → List Int → Int → List Int → Int → Option (List Int × (List (S48)) × List Int × Int × Int)
 | 0, _, _, _, _, _, _, _, _, _, _, _, _, _, _, _, _ => none
 | k + 1, x4, x6, x7, x8, x10, x11, x12, x1000, x1001, x1002, x356000, x356001, x356002, x381000, x381001, x381002 => if x12 > 0 then (if x4 = 0 then (none) else (if x7 = 0 then ((spec_l5Cur_pick.f x1000 x1001 x1002 (wrap64 (x4 - 1))).bind fun bt389 => (if x381001.length < 17592186044416 then (spec_l5Cur_state.l2 k x4 x6 x7 x8 x10 (Int.tmod (wrap64 ((wrap64 (x11 + 1)) + bt389.1)) x4) (wrap64 (x12 - 1)) x1000 bt389.2.1 bt389.2.2 x356000 x356001 x356002 x381000 (x381001 ++ [Int.tmod (wrap64 ((wrap64 (x11 + 1)) + bt389.1)) x4]) x381002) else (none))) else (if x381001.length < 17592186044416 then (spec_l5Cur_state.l2 k x4 x6 x7 x8 x10 (Int.tmod (wrap64 (x11 + x10)) x4) (wrap64 (x12 - 1)) x1000 x1001 x1002 x356000 x356001 x356002 x381000 (x381001 ++ [Int.tmod (wrap64 (x11 + x10)) x4]) x381002) else (none)))) else (if x356001.length < 3518437208883 then (if x356002.length < 17592186044416 then ((spec_l5Cur_pick.f x1000 x1001 x1002 3).bind fun bt404 => (spec_l5Cur_state.l1 k x4 (wrap64 (x6 + (wrap64 (1 + bt404.1)))) x7 (wrap64 (x8 - 1)) x1000 bt404.2.1 bt404.2.2 x356000 (x356001 ++ [(⟨x381000, x381001, x381002⟩ : S48)]) (x356002 ++ [x6]))) else (none)) else (none))
end
def spec_l5Cur_state.f (k : Nat) (s0_0 : List Int) (s0_1 : Int) (s0_2 : Int) : Option (List Int × (List (S48)) × List Int × Int × Int) := (spec_l5Cur_pick.f s0_0 s0_1 s0_2 6).bind fun bt356 => (spec_l5Cur_state.l0 k (wrap64 (3 + bt356.1)) 0 s0_0 bt356.2.1 bt356.2.2 ([] : List Int))
theorem spec_l5Cur_state.mono_l : ∀ k, (∀ y0 y1 y2 y3 y4 y5, LeO (spec_l5Cur_state.l0 k y0 y1 y2 y3 y4 y5) (spec_l5Cur_state.l0 (k + 1) y0 y1 y2 y3 y4 y5)) ∧ (∀ y0 y1 y2 y3 y4 y5 y6 y7 y8 y9, LeO (spec_l5Cur_state.l1 k y0 y1 y2 y3 y4 y5 y6 y7 y8 y9) (spec_l5Cur_state.l1 (k + 1) y0 y1 y2 y3 y4 y5 y6 y7 y8 y9)) ∧ (∀ y0 y1 y2 y3 y4 y5 y6 y7 y8 y9 y10 y11 y12 y13 y14 y15, LeO (spec_l5Cur_state.l2 k y0 y1 y2 y3 y4 y5 y6 y7 y8 y9 y10 y11 y12 y13 y14 y15) (spec_l5Cur_state.l2 (k + 1) y0 y1 y2 y3 y4 y5 y6 y7 y8 y9 y10 y11 y12 y13 y14 y15))
 | 0 => ⟨fun _ _ _ _ _ _ r h => by simp [spec_l5Cur_state.l0] at h, fun _ _ _ _ _ _ _ _ _ _ r h => by simp [spec_l5Cur_state.l1] at h, fun _ _ _ _ _ _ _ _ _ _ _ _ _ _ _ _ r h => by simp [spec_l5Cur_state.l2] at h⟩
 | k + 1 => by
  obtain ⟨ih0, ih1, ih2⟩ := spec_l5Cur_state.mono_l k
  refine ⟨?_, ?_, ?_⟩
  ·intro y0 y1 y2 y3 y4 y5
   unfold spec_l5Cur_state.l0
   repeat' with_reducible first | exact ih0 _ _ _ _ _ _ | exact ih1 _ _ _ _ _ _ _ _ _ _ | exact ih2 _ _ _ _ _ _ _ _ _ _ _ _ _ _ _ _ | exact spec_l1there.mono _ _ _ _ _ | exact LeO.refl _ | exact LeO.none _ | refine LeO.ite ?_ ?_ | refine LeO.bind ?_ (fun _ => ?_)
  ·intro y0 y1 y2 y3 y4 y5 y6 y7 y8 y9
   unfold spec_l5Cur_state.l1
   repeat' with_reducible first | exact ih0 _ _ _ _ _ _ | exact ih1 _ _ _ _ _ _ _ _ _ _ | exact ih2 _ _ _ _ _ _ _ _ _ _ _ _ _ _ _ _ | exact spec_l1there.mono _ _ _ _ _ | exact LeO.refl _ | exact LeO.none _ | refine LeO.ite ?_ ?_ | refine LeO.bind ?_ (fun _ => ?_)
  ·intro y0 y1 y2 y3 y4 y5 y6 y7 y8 y9 y10 y11 y12 y13 y14 y15
   unfold spec_l5Cur_state.l2
   repeat' with_reducible first | exact ih0 _ _ _ _ _ _ | exact ih1 _ _ _ _ _ _ _ _ _ _ | exact ih2 _ _ _ _ _ _ _ _ _ _ _ _ _ _ _ _ | exact spec_l1there.mono _ _ _ _ _ | exact LeO.refl _ | exact LeO.none _ | refine LeO.ite ?_ ?_ | refine LeO.bind ?_ (fun _ => ?_)
theorem spec_l5Cur_state.mono : ∀ a0 a1 a2 k, LeO (spec_l5Cur_state.f k a0 a1 a2) (spec_l5Cur_state.f (k + 1) a0 a1 a2) := by
 intro a0 a1 a2 k
 obtain ⟨ih0, ih1, ih2⟩ := spec_l5Cur_state.mono_l k
 unfold spec_l5Cur_state.f
 repeat' with_reducible first | exact ih0 _ _ _ _ _ _ | exact ih1 _ _ _ _ _ _ _ _ _ _ | exact ih2 _ _ _ _ _ _ _ _ _ _ _ _ _ _ _ _ | exact spec_l1there.mono _ _ _ _ _ | exact LeO.refl _ | exact LeO.none _ | refine LeO.ite ?_ ?_ | refine LeO.bind ?_ (fun _ => ?_)
def spec_l5Cur_state.T6 : Bool × List (List Nat × List Nat) := (true, [([], []), ([0], [0]), ([], []), ([2], [2]), ([3], [3]), ([4], [4]), ([5], [5]), ([1, 6, 3], [1, 6]), ([0, 1, 2, 3, 4, 5, 6, 7], []), ([8, 7, 7, 0, 1, 2, 3, 4, 5, 6, 7], [7, 8])])
def spec_l5Cur_state.B6 : List Nat := [0, 1, 0, 4, 12, 28, 60, 127, 255, 511]
theorem spec_l5Cur_state.tab6 : rtab .any (opsOf Tryd.f34 6) = spec_l5Cur_state.T6 := by kernel_rfl
theorem spec_l5Cur_state.bits6 : waitsOk spec_l5Cur_state.T6.2 spec_l5Cur_state.B6 = true := by kernel_rfl
def spec_l5Cur_state.T13 : Bool × List (List Nat × List Nat) := (true, [([], []), ([], []), ([1], [1]), ([0, 2], [0, 2]), ([], []), ([4], [4]), ([], []), ([6], [6]), ([5, 7], [5, 7]), ([8], [8]), ([3, 9], [3, 9])])
def spec_l5Cur_state.B13 : List Nat := [0, 0, 2, 7, 0, 16, 0, 64, 240, 496, 1023]
theorem spec_l5Cur_state.tab13 : rtab .any (opsOf Tryd.f34 13) = spec_l5Cur_state.T13 := by kernel_rfl
theorem spec_l5Cur_state.bits13 : waitsOk spec_l5Cur_state.T13.2 spec_l5Cur_state.B13 = true := by kernel_rfl
set_option maxHeartbeats 8000000 in
set_option maxRecDepth 100000 in
theorem spec_l5Cur_state.calls (k : Nat) (g : Nat) (s0_0 : List Int) (s0_1 : Int) (s0_2 : Int) (r1 : List Int) (r2 : List (S48)) (r3 : List Int) (r4 : Int) (r5 : Int) (w0 w : World) (hI : IsS67 w0 w g s0_0 s0_1 s0_2) (hB : Below w0.heap.size w0 w) (h : spec_l5Cur_state.f k s0_0 s0_1 s0_2 = some (r1, r2, r3, r4, r5)) :
  Calls Tryd.prog 34 #[.pointer (some ⟨g, 0, none⟩)] w fun e w' => ∃ v0_ v1_ v2_ : Value, e = .returned (.agg #[v0_, v1_, v2_]) ∧ Kd.R (Kd.int .i64) 3 w' w.heap.size (fun k_ => X_ k_ v2_) v0_ r1 ∧ Kd.S k48 48 w' w.heap.size (fun k_ => X_ k_ v0_ ∧ X_ k_ v2_) v1_ r2 ∧ Kd.R (Kd.int .i64) 3 w' w.heap.size (fun k_ => X_ k_ v0_) v2_ r3 ∧ IsS67 w0 w' g s0_0 r4 r5 ∧ Below w0.heap.size w0 w' ∧ KeepBut w w' g none := by
 have hu30 := Tryd.underlying30
 have hu48 := Tryd.underlying48
 have HI0 := K_ hI
 have HK := K_ (KeepBut.refl w g none)
 have HL := K_ hB.size
 clear hI
 have HW0 := K_ hB.size
 have HB := K_ hB
 clear hB
 unfold spec_l5Cur_state.f at h
 have H := h
 clear h
 replace H := Option.bind_eq_some_iff.mp H
 obtain ⟨⟨t356, t357, t358⟩, A20, H⟩ := H
 try dsimp only at H
 have A2 := K_ A20
 clear A20
 have H' := K_ H
 clear H
 go_enter Tryd.func34, Tryd.ntmps34
 go_wp2_with (first | ((with_reducible refine gate_dst (N := 2) rfl ?_); refine box_event (by rfl) (N := 2) (by rfl) (cs := #[.slice none 0 0, .slice none 0 0, .slice none 0 0]) (t := 30) (by go_simp; try rfl) ?_; intro gb354 hg w3 hbox hb; have BK354 := K_ (hbox); have GW354 := K_ ((by rw [hg]; exact (keep_size (w := w) (g := g) (row := none) (by repeat (first | (with_reducible first | exact HK.out | apply KeepBut.set_ | apply keep_drewN | apply keep_drew | apply keep_alloc) | exact HK.out))) : w.heap.size ≤ gb354)); have GE354 := K_ ((Nat.le_trans HW0.out (by rw [hg]; exact (keep_size (w := w) (g := g) (row := none) (by repeat (first | (with_reducible first | exact HK.out | apply KeepBut.set_ | apply keep_drewN | apply keep_drew | apply keep_alloc) | exact HK.out))) : w.heap.size ≤ gb354) : w0.heap.size ≤ gb354)); have NB0_354 := K_ ((by rw [hg]; exact Nat.ne_of_lt (IsS67.lt (show IsS67 w0 _ g s0_0 s0_1 s0_2 from by repeat (first | (with_reducible first | exact HI0.out | apply IsS67.alloc | apply IsS67.drewN | apply IsS67.drew | apply IsS67.set_1 | apply IsS67.set_2) | exact HI0.out))) : g ≠ gb354)); have NB354_0 := K_ ((by rw [hg]; exact Nat.ne_of_gt (IsS67.lt (show IsS67 w0 _ g s0_0 s0_1 s0_2 from by repeat (first | (with_reducible first | exact HI0.out | apply IsS67.alloc | apply IsS67.drewN | apply IsS67.drew | apply IsS67.set_1 | apply IsS67.set_2) | exact HI0.out))) : gb354 ≠ g)); replace HK := K_ (KeepBut.trans (by repeat (first | (with_reducible first | exact HK.out | apply KeepBut.set_ | apply keep_drewN | apply keep_drew | apply keep_alloc) | exact HK.out)) (KeepBut.of_below hb g none) (.inl rfl)); replace HB := K_ (below_step (by repeat (first | (with_reducible first | exact HB.out | refine below_set ?_ (IsS67.ge HI0.out)) | exact HB.out)) hb); replace HI0 := K_ (IsS67.below (by repeat (first | (with_reducible first | exact HI0.out | apply IsS67.alloc | apply IsS67.drewN | apply IsS67.drew | apply IsS67.set_1 | apply IsS67.set_2) | exact HI0.out)) hb); clear hb hbox hg) | ((with_reducible refine gate_dst (N := 3) rfl ?_); refine box_event (by rfl) (N := 3) (by rfl) (cs := #[.slice none 0 0, .slice none 0 0, .slice none 0 0]) (t := 30) (by go_simp; try rfl) ?_; intro gb355 hg w4 hbox hb; have BK355 := K_ (hbox); have GW355 := K_ ((by rw [hg]; exact (keep_size (w := w) (g := g) (row := none) (by repeat (first | (with_reducible first | exact HK.out | apply KeepBut.set_ | apply keep_drewN | apply keep_drew | apply keep_alloc | refine keep_far ?_ GW354.out _) | exact HK.out))) : w.heap.size ≤ gb355)); have GE355 := K_ ((Nat.le_trans HW0.out (by rw [hg]; exact (keep_size (w := w) (g := g) (row := none) (by repeat (first | (with_reducible first | exact HK.out | apply KeepBut.set_ | apply keep_drewN | apply keep_drew | apply keep_alloc | refine keep_far ?_ GW354.out _) | exact HK.out))) : w.heap.size ≤ gb355) : w0.heap.size ≤ gb355)); have NB354_355 := nl_ hg BK354.out; have NB355_354 := ng_ hg BK354.out; have NB0_355 := K_ ((by rw [hg]; exact Nat.ne_of_lt (IsS67.lt (show IsS67 w0 _ g s0_0 s0_1 s0_2 from by repeat (first | (with_reducible first | exact HI0.out | apply IsS67.alloc | apply IsS67.drewN | apply IsS67.drew | apply IsS67.set_1 | apply IsS67.set_2 | refine IsS67.far ?_ NB0_354.out _) | exact HI0.out))) : g ≠ gb355)); have NB355_0 := K_ ((by rw [hg]; exact Nat.ne_of_gt (IsS67.lt (show IsS67 w0 _ g s0_0 s0_1 s0_2 from by repeat (first | (with_reducible first | exact HI0.out | apply IsS67.alloc | apply IsS67.drewN | apply IsS67.drew | apply IsS67.set_1 | apply IsS67.set_2 | refine IsS67.far ?_ NB0_354.out _) | exact HI0.out))) : gb355 ≠ g)); replace BK354 := K_ (blk_below BK354.out hb); replace HK := K_ (KeepBut.trans (by repeat (first | (with_reducible first | exact HK.out | apply KeepBut.set_ | apply keep_drewN | apply keep_drew | apply keep_alloc | refine keep_far ?_ GW354.out _) | exact HK.out)) (KeepBut.of_below hb g none) (.inl rfl)); replace HB := K_ (below_step (by repeat (first | (with_reducible first | exact HB.out | refine below_set ?_ (IsS67.ge HI0.out) | refine below_set ?_ GE354.out) | exact HB.out)) hb); replace HI0 := K_ (IsS67.below (by repeat (first | (with_reducible first | exact HI0.out | apply IsS67.alloc | apply IsS67.drewN | apply IsS67.drew | apply IsS67.set_1 | apply IsS67.set_2 | refine IsS67.far ?_ NB0_354.out _) | exact HI0.out)) hb); clear hb hbox hg) | ((with_reducible refine gate_callee (f := 35) rfl ?_); refine goesL_ (some 15) rfl rfl Tryd.func35 (by kernel_rfl) rfl #[.pointer (some ⟨g, 0, none⟩), .int .i64 6] rfl (by simp only [List.map_toArray, List.map_cons, List.map_nil]; try rfl) ?_; (with_reducible refine (spec_l5Cur_pick.calls g s0_0 s0_1 s0_2 6 t356 t357 t358 w0 _ ?side1 ?side2 A2.out).mono ?_); (case side1 => repeat (first | (with_reducible first | exact HI0.out | apply IsS67.alloc | apply IsS67.drewN | apply IsS67.drew | apply IsS67.set_1 | apply IsS67.set_2 | refine IsS67.far ?_ NB0_354.out _ | refine IsS67.far ?_ NB0_355.out _) | exact HI0.out)); (case side2 => repeat (first | (with_reducible first | exact HB.out | refine below_set ?_ (IsS67.ge HI0.out) | refine below_set ?_ GE354.out | refine below_set ?_ GE355.out) | exact HB.out)); rintro e w5 ⟨rfl, hi, hb, hk⟩; refine ⟨_, rfl, ?_⟩; replace BK354 := K_ (KeepBut.blk hk (g' := gb354) (o := .cells #[.slice none 0 0, .slice none 0 0, .slice none 0 0] 30 (0, 0)) BK354.out NB354_0.out (by simp)); replace BK355 := K_ (KeepBut.blk hk (g' := gb355) (o := .cells #[.slice none 0 0, .slice none 0 0, .slice none 0 0] 30 (0, 0)) BK355.out NB355_0.out (by simp)); replace HK := K_ (KeepBut.trans (by repeat (first | (with_reducible first | exact HK.out | apply KeepBut.set_ | apply keep_drewN | apply keep_drew | apply keep_alloc | refine keep_far ?_ GW354.out _ | refine keep_far ?_ GW355.out _) | exact HK.out)) hk (.inl rfl)); replace HB := K_ (hb); replace HI0 := K_ (hi); clear hb hk hi))
 go_loopg [5] k (fun kq v5 w' => ∃ (x5_1 : Int) (x1001_1 : Int) (x1002_1 : Int) (x356000_1 : List Int) (u356000 : Value), v5 = .int .i64 x5_1 ∧ Aside0 (spec_l5Cur_state.l0 kq (wrap64 (3 + t356)) x5_1 s0_0 x1001_1 x1002_1 x356000_1 = some (r1, r2, r3, r4, r5)) ∧ Aside0 (kq ≤ k) ∧ Aside0 (Kd.R (Kd.int .i64) 3 w' w.heap.size (fun _ => True) u356000 x356000_1) ∧ Aside0 (w'.heap[gb354]? = some (.cells #[(.slice none 0 0), (.slice none 0 0), (.slice none 0 0)] 30 (0, 0))) ∧ Aside0 (w'.heap[gb355]? = some (.cells #[u356000, (.slice none 0 0), (.slice none 0 0)] 30 (0, 0))) ∧ Aside0 (IsS67 w0 w' g s0_0 x1001_1 x1002_1) ∧ Aside0 (KeepBut w w' g none) ∧ Aside0 (Below w0.heap.size w0 w'))
 case atStart => exact ⟨(0), (t357), (t358), (([] : List Int)), (.slice none 0 0), rfl, H', ⟨Nat.le_refl _⟩, ⟨Kd.R_nil _ _ _ _ _⟩, ⟨BK354.out⟩, ⟨BK355.out⟩, ⟨by repeat (first | (with_reducible first | exact HI0.out | apply IsS67.alloc | apply IsS67.drewN | apply IsS67.drew | apply IsS67.set_1 | apply IsS67.set_2 | refine IsS67.far ?_ NB0_354.out _ | refine IsS67.far ?_ NB0_355.out _) | exact HI0.out)⟩, ⟨by repeat (first | (with_reducible first | exact HK.out | apply KeepBut.set_ | apply keep_drewN | apply keep_drew | apply keep_alloc | refine keep_far ?_ GW354.out _ | refine keep_far ?_ GW355.out _) | exact HK.out)⟩, ⟨by repeat (first | (with_reducible first | exact HB.out | refine below_set ?_ (IsS67.ge HI0.out) | refine below_set ?_ GE354.out | refine below_set ?_ GE355.out) | exact HB.out)⟩⟩
 case round =>
  clear H'
  skip
  obtain ⟨x5_1, x1001_1, x1002_1, x356000_1, u356000, rfl, HA, HK1, HO_356000, BK354, BK355, HI0, HK, HB⟩ := hrel
  cases gk with
  | zero => exact absurd HA.out (by simp [spec_l5Cur_state.l0])
  | succ k1 =>
   have H := HA.out
   clear HA
   simp only [spec_l5Cur_state.l0] at H
   by_cases c6 : x5_1 < (wrap64 (3 + t356))
   case pos =>
    rw [if_pos c6] at H
    have c6b0 := decide_eq_true c6
    clear c6
    replace H := Option.bind_eq_some_iff.mp H
    obtain ⟨⟨t359, t360, t361⟩, A70, H⟩ := H
    try dsimp only at H
    have A7 := K_ A70
    clear A70
    replace H := pn_ H
    obtain ⟨c8, H⟩ := H
    have LMc8 := K_ c8
    clear c8
    obtain ⟨y362, hy362⟩ : ∃ y_ : List Int, y_ = (x356000_1 ++ [wrap64 (1 + (wrap64 (Int.tdiv t359 4)))]) := ⟨_, rfl⟩
    rw [← hy362] at H
    have Ny362 := K_ hy362
    clear hy362
    have H' := K_ H
    clear H
    try go_wp2
    replace HO_356000 := K_ (Kd.R_drew HO_356000.out)
    replace BK354 := K_ (blk_drew BK354.out)
    replace BK355 := K_ (blk_drew BK355.out)
    replace HI0 := K_ (IsS67.drew HI0.out)
    replace HK := K_ (keep_drew HK.out)
    replace HB := K_ (below_drew1 HB.out)
    refine start_ (n := 10) (S := fun w' => w'.cell? ⟨gb355, 0, none⟩ = some (u356000) ∧ w'.cell? ⟨gb355, 1, none⟩ = some (.slice none 0 0) ∧ w'.cell? ⟨gb355, 2, none⟩ = some (.slice none 0 0)) (ds := [9]) #[ff, ff, ff, ff, ff, ff, ff, ff, ff, ff] (by kernel_rfl) rfl rfl ⟨(blk_cell BK355.out 0).trans rfl, (blk_cell BK355.out 1).trans rfl, (blk_cell BK355.out 2).trans rfl⟩ (fun hHeld => ?_); refine with_tabW spec_l5Cur_state.tab6 spec_l5Cur_state.bits6 (fun HT_ HW_ => ?_)
    generalize wr.drew = w9 at HO_356000 BK354 BK355 HI0 HK HB hHeld ⊢
    refine pure_ (i := 0) (N := some 22) (v := ?_) (a' := ?_) (M_ 10 1) rfl rfl (any_of HT_.out (by kernel_rfl)) (fun _ _ _ h => h) (Or.inl ⟨by rfl, ?_⟩) ?_ ?_
    rotate_left
    ·intro w'
     go_simp
     with_reducible rfl
    rotate_left
    ·simp only [P_, i64_w, i32_w]
     rfl
    refine pure_ (i := 2) (N := some 24) (v := ?_) (a' := ?_) (M_ 10 5) rfl rfl (any_of HT_.out (by kernel_rfl)) (fun _ _ _ h => h) (Or.inl ⟨by rfl, ?_⟩) ?_ ?_
    rotate_left
    ·intro w'
     go_simp
     with_reducible rfl
    rotate_left
    ·simp only [P_, i64_w, i32_w]
     rfl
    refine take_ (i := 1) (N := some 23) (v := ?_) (a' := ?_) (M_ 10 7) rfl rfl (take_ofW HT_.out HW_.out (by kernel_rfl)) (fun _ _ _ h => h) (Or.inl ⟨by rfl, ?_⟩) hHeld ?_ ?_
    rotate_left
    ·rintro w' ⟨s0, s1, s2⟩
     go_simp
     with_reducible rfl
    rotate_left
    ·simp only [P_, i64_w, i32_w]
     rfl
    refine one_ (i := 3) (N := some 25) (M_ 10 15) rfl rfl (one_of HT_.out (by kernel_rfl)) (by decide) (fun K hK => ?_)
    refine goes_ Tryd.func35 (by kernel_rfl) rfl #[.pointer (some ⟨g, 0, none⟩), .int .i64 5] (by rfl) rfl rfl (by simp only [List.map_toArray, List.map_cons, List.map_nil]; try rfl) ?_
    with_reducible refine (spec_l5Cur_pick.calls g s0_0 x1001_1 x1002_1 5 t359 t360 t361 w0 _ ?side1 ?side2 A7.out).mono ?_
    (case side1 => repeat (first | (with_reducible first | exact HI0.out | apply IsS67.alloc | apply IsS67.drewN | apply IsS67.drew | apply IsS67.set_1 | apply IsS67.set_2 | refine IsS67.far ?_ NB0_354.out _ | refine IsS67.far ?_ NB0_355.out _) | exact HI0.out))
    (case side2 => repeat (first | (with_reducible first | exact HB.out | refine below_set ?_ (IsS67.ge HI0.out) | refine below_set ?_ GE354.out | refine below_set ?_ GE355.out) | exact HB.out))
    rintro e w10 ⟨rfl, hi, hb, hk⟩
    refine ⟨_, rfl, ?_⟩
    replace HO_356000 := K_ (Kd.R_mono (Kd.R_keep (IsS67.apart (show IsS67 w0 _ g s0_0 x1001_1 x1002_1 from by repeat (first | (with_reducible first | exact HI0.out | apply IsS67.alloc | apply IsS67.drewN | apply IsS67.drew | apply IsS67.set_1 | apply IsS67.set_2 | refine IsS67.far ?_ NB0_354.out _ | refine IsS67.far ?_ NB0_355.out _) | exact HI0.out)) HO_356000.out (by decide)) hk (fun _ h => h.2)) (fun _ h => h.1))
    replace BK354 := K_ (KeepBut.blk hk (g' := gb354) (o := .cells #[.slice none 0 0, .slice none 0 0, .slice none 0 0] 30 (0, 0)) BK354.out NB354_0.out (by simp))
    replace BK355 := K_ (KeepBut.blk hk (g' := gb355) (o := .cells #[u356000, .slice none 0 0, .slice none 0 0] 30 (0, 0)) BK355.out NB355_0.out (by simp))
    replace HK := K_ (KeepBut.trans (by repeat (first | (with_reducible first | exact HK.out | apply KeepBut.set_ | apply keep_drewN | apply keep_drew | apply keep_alloc | refine keep_far ?_ GW354.out _ | refine keep_far ?_ GW355.out _) | exact HK.out)) hk (.inl rfl))
    replace HB := K_ (hb)
    replace HI0 := K_ (hi)
    clear hb
    (try clear hb2)
    clear hk
    clear hi
    refine hK.out _ _ ⟨(blk_cell BK355.out 0).trans rfl, (blk_cell BK355.out 1).trans rfl, (blk_cell BK355.out 2).trans rfl⟩ (fun hHeld => ?_)
    clear hK K
    refine norm_ (a' := ?_) ?_ ?_
    rotate_left
    ·show Act.put _ (some 25) _ = _
     simp only [P_, i64_w, i32_w]
     rfl
    refine pure_ (i := 4) (N := some 26) (v := ?_) (a' := ?_) (M_ 10 31) rfl rfl (any_of HT_.out (by kernel_rfl)) (fun _ _ _ h => h) (Or.inl ⟨by rfl, ?_⟩) ?_ ?_
    rotate_left
    ·intro w'
     go_simp
     with_reducible rfl
    rotate_left
    ·simp only [P_, i64_w, i32_w]
     rfl
    refine pure_ (i := 5) (N := some 27) (v := ?_) (a' := ?_) (M_ 10 63) rfl rfl (any_of HT_.out (by kernel_rfl)) (fun _ _ _ h => h) (Or.inl ⟨by rfl, ?_⟩) ?_ ?_
    rotate_left
    ·intro w'
     go_simp
     with_reducible rfl
    rotate_left
    ·simp only [P_, i64_w, i32_w]
     rfl
    refine one_ (i := 6) (N := some 28) (M_ 10 127) rfl rfl (one_of HT_.out (by kernel_rfl)) (by decide) (fun K hK => ?_)
    refine value_ (w1 := ?_) (v := ?_) (by rfl) rfl ?_ ?_
    rotate_left 2
    ·go_simp
     constructor
     ·rfl
     ·rfl
    refine hK.out _ _ ⟨(blk_cell (blk_alloc BK355.out _) 0).trans rfl, (blk_cell (blk_alloc BK355.out _) 1).trans rfl, (blk_cell (blk_alloc BK355.out _) 2).trans rfl⟩ (fun hHeld => ?_)
    clear hK K
    refine norm_ (a' := ?_) ?_ ?_
    rotate_left
    ·show Act.put _ (some 28) _ = _
     simp only [P_, i64_w, i32_w]
     rfl
    refine one_ (i := 7) (N := some 29) (M_ 10 255) rfl rfl (one_of HT_.out (by kernel_rfl)) (by decide) (fun K hK => ?_)
    refine Kd.R_append_step (Kd.int .i64) w.heap.size (by rfl) (.tmp 23) (.tmp 28) 22 3 (.int .i64 0) 8 rfl Tryd.underlying22 info3 rfl (by decide) (by omega) u356000 x356000_1 (wrap64 (1 + (wrap64 (Int.tdiv t359 4)))) [.int .i64 (wrap64 (1 + (wrap64 (Int.tdiv t359 4))))] (fun _ => True) (fun _ => False) rfl rfl ?aP (fun _ hk => hk.elim) ?aF ?aO (Below.refl _ _) ?aS ?aL ?_
    (case aP => exact rfl)
    (case aF => exact (fun _ _ => trivial))
    (case aO => exact HO_356000.out)
    (case aS => exact (keep_size (w := w) (g := g) (row := none) (by repeat (first | (with_reducible first | exact HK.out | apply KeepBut.set_ | apply keep_drewN | apply keep_drew | apply keep_alloc | refine keep_far ?_ GW354.out _ | refine keep_far ?_ GW355.out _) | exact HK.out))))
    (case aL => have := LMc8.out; omega)
    intro v363 w11 ho hb hg hat
    rw [← Ny362.out] at ho
    have HO364 := K_ (ho)
    replace BK354 := K_ (blk_grown BK354.out hg (Kd.R_ne HO_356000.out BK354.out (by decide)))
    replace BK355 := K_ (blk_grown BK355.out hg (Kd.R_ne HO_356000.out BK355.out (by decide)))
    replace HB := K_ (below_weaken (by repeat (first | (with_reducible first | exact HB.out | refine below_set ?_ (IsS67.ge HI0.out) | refine below_set ?_ GE354.out | refine below_set ?_ GE355.out) | exact HB.out)) HL.out hb)
    replace HI0 := K_ (IsS67.grown (by first | (with_reducible exact HI0.out) | (with_reducible exact IsS67.far HI0.out NB0_354.out _) | (with_reducible exact IsS67.far HI0.out NB0_355.out _) | (with_reducible exact IsS67.far HI0.out NB0_380.out _) | exact IsS67.far HI0.out NB0_354.out _ | exact IsS67.far HI0.out NB0_355.out _ | exact IsS67.far HI0.out NB0_380.out _) hg (IsS67.own_ne HI0.out HO_356000.out (by decide)))
    replace HK := K_ (KeepBut.trans (by repeat (first | (with_reducible first | exact HK.out | apply KeepBut.set_ | apply keep_drewN | apply keep_drew | apply keep_alloc | refine keep_far ?_ GW354.out _ | refine keep_far ?_ GW355.out _) | exact HK.out)) (KeepBut.of_grown hg g) (Kd.R_base2 HO_356000.out))
    clear HO_356000
    clear ho hb hg hat
    obtain ⟨Ao12, co12, eo12⟩ := Kd.R_slice HO364.out
    (first | subst eo12 | (injection eo12 with f1_ f2_ f3_; have f4_ := f1_.symm; have f5_ := f3_.symm; clear f1_ f2_ f3_; subst f4_; subst f5_))
    refine hK.out _ _ ⟨(blk_cell BK355.out 0).trans rfl, (blk_cell BK355.out 1).trans rfl, (blk_cell BK355.out 2).trans rfl⟩ (fun hHeld => ?_)
    clear hK K
    refine norm_ (a' := ?_) ?_ ?_
    rotate_left
    ·show Act.put _ (some 29) _ = _
     simp only [P_, i64_w, i32_w]
     rfl
    refine pure_ (i := 8) (N := some 30) (v := ?_) (a' := ?_) (M_ 10 511) rfl rfl (any_of HT_.out (by kernel_rfl)) (fun _ _ _ h => h) (Or.inl ⟨by rfl, ?_⟩) ?_ ?_
    rotate_left
    ·intro w'
     go_simp
     with_reducible rfl
    rotate_left
    ·simp only [P_, i64_w, i32_w]
     rfl
    refine last_ (i := 9) (N := none) (M_ 10 1023) rfl rfl (one_of HT_.out (by kernel_rfl)) (by decide) (fun K hK => ?_)
    have hs13 : w11.cell? ⟨gb355, 0, none⟩ = some (u356000) := (blk_cell BK355.out 0).trans rfl
    have hfs13 := blk_frozen BK355.out 0
    have hns13_0 := NB354_355.out
    have hms13_0 := NB355_354.out
    refine skip_ (w1 := ?_) (by rfl) rfl ?_ ?_
    rotate_left
    ·go_simp
     rfl
    refine hK.out _ _ ?_
    clear hK K
    refine done_ (done_of HT_.out (by kernel_rfl)) ?_
    try go_wp2
    go_roundg k1
    case measure => have := HK1.out; omega
    case rel => exact ⟨(wrap64 (x5_1 + 1)), (t360), (t361), (y362), (.slice Ao12 y362.length co12), rfl, H', ⟨by have := HK1.out; omega⟩, ⟨by exact Kd.R_mono (Kd.R_far (p := ⟨gb355, 0, none⟩) (Kd.R_types HO364.out BK355.out (by decide)) (fun _ hk => hk.2) (.slice Ao12 y362.length co12)) (fun _ hk => trivial)⟩, ⟨by refine blk_far ?_ NB354_355.out _; exact BK354.out⟩, ⟨by refine blk_put (cs := #[u356000, .slice none 0 0, .slice none 0 0]) ?_ 0 _ rfl; exact BK355.out⟩, ⟨by repeat (first | (with_reducible first | exact HI0.out | apply IsS67.alloc | apply IsS67.drewN | apply IsS67.drew | apply IsS67.set_1 | apply IsS67.set_2 | refine IsS67.far ?_ NB0_354.out _ | refine IsS67.far ?_ NB0_355.out _) | exact HI0.out)⟩, ⟨by repeat (first | (with_reducible first | exact HK.out | apply KeepBut.set_ | apply keep_drewN | apply keep_drew | apply keep_alloc | refine keep_far ?_ GW354.out _ | refine keep_far ?_ GW355.out _) | exact HK.out)⟩, ⟨by repeat (first | (with_reducible first | exact HB.out | refine below_set ?_ (IsS67.ge HI0.out) | refine below_set ?_ GE354.out | refine below_set ?_ GE355.out) | exact HB.out)⟩⟩
   rw [if_neg c6] at H
   have c6b0 := decide_eq_false c6
   clear c6
   replace H := Option.bind_eq_some_iff.mp H
   obtain ⟨⟨t365, t366, t367⟩, A140, H⟩ := H
   try dsimp only at H
   have A14 := K_ A140
   clear A140
   replace H := Option.bind_eq_some_iff.mp H
   obtain ⟨⟨t368, t369, t370⟩, A150, H⟩ := H
   try dsimp only at H
   have A15 := K_ A150
   clear A150
   replace H := Option.bind_eq_some_iff.mp H
   obtain ⟨⟨t371, t372, t373⟩, A160, H⟩ := H
   try dsimp only at H
   have A16 := K_ A160
   clear A160
   have H' := K_ H
   clear H
   go_wp2_with (first | ((with_reducible refine gate_callee (f := 35) rfl ?_); refine goesL_ (some 32) rfl rfl Tryd.func35 (by kernel_rfl) rfl #[.pointer (some ⟨g, 0, none⟩), .int .i64 4] rfl (by simp only [List.map_toArray, List.map_cons, List.map_nil]; try rfl) ?_; (with_reducible refine (spec_l5Cur_pick.calls g s0_0 x1001_1 x1002_1 4 t365 t366 t367 w0 _ ?side1 ?side2 A14.out).mono ?_); (case side1 => repeat (first | (with_reducible first | exact HI0.out | apply IsS67.alloc | apply IsS67.drewN | apply IsS67.drew | apply IsS67.set_1 | apply IsS67.set_2 | refine IsS67.far ?_ NB0_354.out _ | refine IsS67.far ?_ NB0_355.out _) | exact HI0.out)); (case side2 => repeat (first | (with_reducible first | exact HB.out | refine below_set ?_ (IsS67.ge HI0.out) | refine below_set ?_ GE354.out | refine below_set ?_ GE355.out) | exact HB.out)); rintro e w17 ⟨rfl, hi, hb, hk⟩; refine ⟨_, rfl, ?_⟩; replace HO_356000 := K_ (Kd.R_mono (Kd.R_keep (IsS67.apart (show IsS67 w0 _ g s0_0 x1001_1 x1002_1 from by repeat (first | (with_reducible first | exact HI0.out | apply IsS67.alloc | apply IsS67.drewN | apply IsS67.drew | apply IsS67.set_1 | apply IsS67.set_2 | refine IsS67.far ?_ NB0_354.out _ | refine IsS67.far ?_ NB0_355.out _) | exact HI0.out)) HO_356000.out (by decide)) hk (fun _ h => h.2)) (fun _ h => h.1)); replace BK354 := K_ (KeepBut.blk hk (g' := gb354) (o := .cells #[.slice none 0 0, .slice none 0 0, .slice none 0 0] 30 (0, 0)) BK354.out NB354_0.out (by simp)); replace BK355 := K_ (KeepBut.blk hk (g' := gb355) (o := .cells #[u356000, .slice none 0 0, .slice none 0 0] 30 (0, 0)) BK355.out NB355_0.out (by simp)); replace HK := K_ (KeepBut.trans (by repeat (first | (with_reducible first | exact HK.out | apply KeepBut.set_ | apply keep_drewN | apply keep_drew | apply keep_alloc | refine keep_far ?_ GW354.out _ | refine keep_far ?_ GW355.out _) | exact HK.out)) hk (.inl rfl)); replace HB := K_ (hb); replace HI0 := K_ (hi); clear hb hk hi) | ((with_reducible refine gate_callee (f := 35) rfl ?_); refine goesL_ (some 34) rfl rfl Tryd.func35 (by kernel_rfl) rfl #[.pointer (some ⟨g, 0, none⟩), .int .i64 3] rfl (by simp only [List.map_toArray, List.map_cons, List.map_nil]; try rfl) ?_; (with_reducible refine (spec_l5Cur_pick.calls g s0_0 t366 t367 3 t368 t369 t370 w0 _ ?side1 ?side2 A15.out).mono ?_); (case side1 => repeat (first | (with_reducible first | exact HI0.out | apply IsS67.alloc | apply IsS67.drewN | apply IsS67.drew | apply IsS67.set_1 | apply IsS67.set_2 | refine IsS67.far ?_ NB0_354.out _ | refine IsS67.far ?_ NB0_355.out _) | exact HI0.out)); (case side2 => repeat (first | (with_reducible first | exact HB.out | refine below_set ?_ (IsS67.ge HI0.out) | refine below_set ?_ GE354.out | refine below_set ?_ GE355.out) | exact HB.out)); rintro e w18 ⟨rfl, hi, hb, hk⟩; refine ⟨_, rfl, ?_⟩; replace HO_356000 := K_ (Kd.R_mono (Kd.R_keep (IsS67.apart (show IsS67 w0 _ g s0_0 t366 t367 from by repeat (first | (with_reducible first | exact HI0.out | apply IsS67.alloc | apply IsS67.drewN | apply IsS67.drew | apply IsS67.set_1 | apply IsS67.set_2 | refine IsS67.far ?_ NB0_354.out _ | refine IsS67.far ?_ NB0_355.out _) | exact HI0.out)) HO_356000.out (by decide)) hk (fun _ h => h.2)) (fun _ h => h.1)); replace BK354 := K_ (KeepBut.blk hk (g' := gb354) (o := .cells #[.slice none 0 0, .slice none 0 0, .slice none 0 0] 30 (0, 0)) BK354.out NB354_0.out (by simp)); replace BK355 := K_ (KeepBut.blk hk (g' := gb355) (o := .cells #[u356000, .slice none 0 0, .slice none 0 0] 30 (0, 0)) BK355.out NB355_0.out (by simp)); replace HK := K_ (KeepBut.trans (by repeat (first | (with_reducible first | exact HK.out | apply KeepBut.set_ | apply keep_drewN | apply keep_drew | apply keep_alloc | refine keep_far ?_ GW354.out _ | refine keep_far ?_ GW355.out _) | exact HK.out)) hk (.inl rfl)); replace HB := K_ (hb); replace HI0 := K_ (hi); clear hb hk hi) | ((with_reducible refine gate_callee (f := 35) rfl ?_); refine goesL_ (some 36) rfl rfl Tryd.func35 (by kernel_rfl) rfl #[.pointer (some ⟨g, 0, none⟩), .int .i64 5] rfl (by simp only [List.map_toArray, List.map_cons, List.map_nil]; try rfl) ?_; (with_reducible refine (spec_l5Cur_pick.calls g s0_0 t369 t370 5 t371 t372 t373 w0 _ ?side1 ?side2 A16.out).mono ?_); (case side1 => repeat (first | (with_reducible first | exact HI0.out | apply IsS67.alloc | apply IsS67.drewN | apply IsS67.drew | apply IsS67.set_1 | apply IsS67.set_2 | refine IsS67.far ?_ NB0_354.out _ | refine IsS67.far ?_ NB0_355.out _) | exact HI0.out)); (case side2 => repeat (first | (with_reducible first | exact HB.out | refine below_set ?_ (IsS67.ge HI0.out) | refine below_set ?_ GE354.out | refine below_set ?_ GE355.out) | exact HB.out)); rintro e w19 ⟨rfl, hi, hb, hk⟩; refine ⟨_, rfl, ?_⟩; replace HO_356000 := K_ (Kd.R_mono (Kd.R_keep (IsS67.apart (show IsS67 w0 _ g s0_0 t369 t370 from by repeat (first | (with_reducible first | exact HI0.out | apply IsS67.alloc | apply IsS67.drewN | apply IsS67.drew | apply IsS67.set_1 | apply IsS67.set_2 | refine IsS67.far ?_ NB0_354.out _ | refine IsS67.far ?_ NB0_355.out _) | exact HI0.out)) HO_356000.out (by decide)) hk (fun _ h => h.2)) (fun _ h => h.1)); replace BK354 := K_ (KeepBut.blk hk (g' := gb354) (o := .cells #[.slice none 0 0, .slice none 0 0, .slice none 0 0] 30 (0, 0)) BK354.out NB354_0.out (by simp)); replace BK355 := K_ (KeepBut.blk hk (g' := gb355) (o := .cells #[u356000, .slice none 0 0, .slice none 0 0] 30 (0, 0)) BK355.out NB355_0.out (by simp)); replace HK := K_ (KeepBut.trans (by repeat (first | (with_reducible first | exact HK.out | apply KeepBut.set_ | apply keep_drewN | apply keep_drew | apply keep_alloc | refine keep_far ?_ GW354.out _ | refine keep_far ?_ GW355.out _) | exact HK.out)) hk (.inl rfl)); replace HB := K_ (hb); replace HI0 := K_ (hi); clear hb hk hi))
   go_loopg [6, 8] k1 (fun kq v6 v8 w' => ∃ (x6_2 : Int) (x8_2 : Int) (x1001_2 : Int) (x1002_2 : Int) (x356001_2 : List (S48)) (x356002_2 : List Int) (u356001 : Value) (u356002 : Value), v6 = .int .i64 x6_2 ∧ v8 = .int .i64 x8_2 ∧ Aside0 (spec_l5Cur_state.l1 kq (wrap64 (3 + t356)) x6_2 t368 x8_2 s0_0 x1001_2 x1002_2 x356000_1 x356001_2 x356002_2 = some (r1, r2, r3, r4, r5)) ∧ Aside0 (kq ≤ k1) ∧ Aside0 (Kd.R (Kd.int .i64) 3 w' w.heap.size (fun k_ => X_ k_ u356002) u356000 x356000_1) ∧ Aside0 (Kd.S k48 48 w' w.heap.size (fun k_ => X_ k_ u356000 ∧ X_ k_ u356002) u356001 x356001_2) ∧ Aside0 (Kd.R (Kd.int .i64) 3 w' w.heap.size (fun k_ => X_ k_ u356000) u356002 x356002_2) ∧ Aside0 (w'.heap[gb354]? = some (.cells #[(.slice none 0 0), (.slice none 0 0), (.slice none 0 0)] 30 (0, 0))) ∧ Aside0 (w'.heap[gb355]? = some (.cells #[u356000, u356001, u356002] 30 (0, 0))) ∧ Aside0 (IsS67 w0 w' g s0_0 x1001_2 x1002_2) ∧ Aside0 (KeepBut w w' g none) ∧ Aside0 (Below w0.heap.size w0 w'))
   case atStart => exact ⟨(t365), (wrap64 (1 + t371)), (t372), (t373), (([] : List (S48))), (([] : List Int)), (.slice none 0 0), (.slice none 0 0), rfl, rfl, H', ⟨Nat.le_refl _⟩, ⟨by exact Kd.R_mono HO_356000.out (fun _ hk => (by simp [Value.ownBlock]))⟩, ⟨Kd.S_nil _ _ _ _ _⟩, ⟨Kd.R_nil _ _ _ _ _⟩, ⟨BK354.out⟩, ⟨BK355.out⟩, ⟨by repeat (first | (with_reducible first | exact HI0.out | apply IsS67.alloc | apply IsS67.drewN | apply IsS67.drew | apply IsS67.set_1 | apply IsS67.set_2 | refine IsS67.far ?_ NB0_354.out _ | refine IsS67.far ?_ NB0_355.out _) | exact HI0.out)⟩, ⟨by repeat (first | (with_reducible first | exact HK.out | apply KeepBut.set_ | apply keep_drewN | apply keep_drew | apply keep_alloc | refine keep_far ?_ GW354.out _ | refine keep_far ?_ GW355.out _) | exact HK.out)⟩, ⟨by repeat (first | (with_reducible first | exact HB.out | refine below_set ?_ (IsS67.ge HI0.out) | refine below_set ?_ GE354.out | refine below_set ?_ GE355.out) | exact HB.out)⟩⟩
   case round =>
    clear H'
    clear c6b0
    obtain ⟨x6_2, x8_2, x1001_2, x1002_2, x356001_2, x356002_2, u356001, u356002, rfl, rfl, HA, HK2, HO_356000, HO_356001, HO_356002, BK354, BK355, HI0, HK, HB⟩ := hrel
    cases gk with
    | zero => exact absurd HA.out (by simp [spec_l5Cur_state.l1])
    | succ k2 =>
     have H := HA.out
     clear HA
     simp only [spec_l5Cur_state.l1] at H
     replace H := ps_ H
     rcases H with ⟨c20, H⟩ | ⟨c20, H⟩
     case inr =>
      have c20b0 := decide_eq_false c20
      clear c20
      simp only [Option.some.injEq, Prod.mk.injEq] at H
      obtain ⟨rfl, rfl, rfl, rfl, rfl⟩ := H
      have hnb97 := NB355_354.out
      have hnc97 := NB354_355.out
      have hnb98 := NB355_0.out
      have hnc98 := NB0_355.out
      obtain ⟨hcz99_0, hcz99_1, hcz99_2, hfz99_0, hfz99_1, hfz99_2⟩ := blkf3_ BK355.out
      obtain ⟨Ao100, co100, eo100⟩ := Kd.R_slice HO_356000.out
      subst eo100
      have hnb101 := NB354_0.out
      have hnc101 := NB0_354.out
      obtain ⟨hcz102_0, hcz102_1, hcz102_2, hfz102_0, hfz102_1, hfz102_2⟩ := blkf3_ BK354.out
      obtain ⟨Ao103, co103, eo103⟩ := Kd.S_slice HO_356001.out
      subst eo103
      obtain ⟨Ao104, co104, eo104⟩ := Kd.R_slice HO_356002.out
      subst eo104
      go_wp2
      refine bodyPost_ret (results_cell_row rfl _ _ gb354 30 #[.slice Ao100 x356000_1.length co100, .slice Ao103 x356001_2.length co103, .slice Ao104 x356002_2.length co104] (0, 0) _ rfl (by refine blk_put (cs := #[.slice Ao100 x356000_1.length co100, .slice Ao103 x356001_2.length co103, .slice none 0 0]) ?_ 2 _ rfl; refine blk_put (cs := #[.slice Ao100 x356000_1.length co100, .slice none 0 0, .slice none 0 0]) ?_ 1 _ rfl; refine blk_put (cs := #[.slice none 0 0, .slice none 0 0, .slice none 0 0]) ?_ 0 _ rfl; exact BK354.out) Tryd.underlying30 rfl (by kernel_rfl)) rfl ?_
      exact ⟨_, _, _, rfl, by exact Kd.R_mono (Kd.R_far (p := ⟨gb354, 2, none⟩) (Kd.R_far (p := ⟨gb354, 1, none⟩) (Kd.R_far (p := ⟨gb354, 0, none⟩) (Kd.R_types HO_356000.out BK354.out (by decide)) (fun _ hk => hk.2) (.slice Ao100 x356000_1.length co100)) (fun _ hk => hk.2) (.slice Ao103 x356001_2.length co103)) (fun _ hk => hk.2) (.slice Ao104 x356002_2.length co104)) (fun _ hk => hk.1), by exact Kd.S_mono (Kd.S_far (p := ⟨gb354, 2, none⟩) (Kd.S_far (p := ⟨gb354, 1, none⟩) (Kd.S_far (p := ⟨gb354, 0, none⟩) (Kd.S_types HO_356001.out BK354.out (by decide)) (fun _ hk => hk.2) (.slice Ao100 x356000_1.length co100)) (fun _ hk => hk.2) (.slice Ao103 x356001_2.length co103)) (fun _ hk => hk.2) (.slice Ao104 x356002_2.length co104)) (fun _ hk => ⟨hk.1.1, hk.1.2⟩), by exact Kd.R_mono (Kd.R_far (p := ⟨gb354, 2, none⟩) (Kd.R_far (p := ⟨gb354, 1, none⟩) (Kd.R_far (p := ⟨gb354, 0, none⟩) (Kd.R_types HO_356002.out BK354.out (by decide)) (fun _ hk => hk.2) (.slice Ao100 x356000_1.length co100)) (fun _ hk => hk.2) (.slice Ao103 x356001_2.length co103)) (fun _ hk => hk.2) (.slice Ao104 x356002_2.length co104)) (fun _ hk => hk.1), by repeat (first | (with_reducible first | exact HI0.out | apply IsS67.alloc | apply IsS67.drewN | apply IsS67.drew | apply IsS67.set_1 | apply IsS67.set_2 | refine IsS67.far ?_ NB0_354.out _ | refine IsS67.far ?_ NB0_355.out _) | exact HI0.out), by repeat (first | (with_reducible first | exact HB.out | refine below_set ?_ (IsS67.ge HI0.out) | refine below_set ?_ GE354.out | refine below_set ?_ GE355.out) | exact HB.out), by repeat (first | (with_reducible first | exact HK.out | apply KeepBut.set_ | apply keep_drewN | apply keep_drew | apply keep_alloc | refine keep_far ?_ GW354.out _ | refine keep_far ?_ GW355.out _) | exact HK.out)⟩
     have c20b0 := decide_eq_true c20
     clear c20
     replace H := Option.bind_eq_some_iff.mp H
     obtain ⟨⟨t374, t375, t376⟩, A210, H⟩ := H
     try dsimp only at H
     have A21 := K_ A210
     clear A210
     replace H := Option.bind_eq_some_iff.mp H
     obtain ⟨⟨t377, t378, t379⟩, A220, H⟩ := H
     try dsimp only at H
     have A22 := K_ A220
     clear A220
     replace H := Option.bind_eq_some_iff.mp H
     obtain ⟨t381, A230, H⟩ := H
     try dsimp only at H
     have A23 := K_ A230
     clear A230
     replace H := dn_ H
     obtain ⟨c24b0, H⟩ := H
     replace H := dn_ H
     obtain ⟨c25b0, H⟩ := H
     replace H := ps_ H
     rcases H with ⟨c26, H⟩ | ⟨c26, H⟩
     case inl =>
      have c26b0 := decide_eq_true c26
      clear c26
      have H' := K_ H
      clear H
      try go_wp2_with (first | ((with_reducible refine gate_callee (f := 35) rfl ?_); refine goesL_ (some 44) rfl rfl Tryd.func35 (by kernel_rfl) rfl #[.pointer (some ⟨g, 0, none⟩), .int .i64 (wrap64 (3 + t356))] rfl (by simp only [List.map_toArray, List.map_cons, List.map_nil]; try rfl) ?_; (with_reducible refine (spec_l5Cur_pick.calls g s0_0 x1001_2 x1002_2 (wrap64 (3 + t356)) t374 t375 t376 w0 _ ?side1 ?side2 A21.out).mono ?_); (case side1 => repeat (first | (with_reducible first | exact HI0.out | apply IsS67.alloc | apply IsS67.drewN | apply IsS67.drew | apply IsS67.set_1 | apply IsS67.set_2 | refine IsS67.far ?_ NB0_354.out _ | refine IsS67.far ?_ NB0_355.out _) | exact HI0.out)); (case side2 => repeat (first | (with_reducible first | exact HB.out | refine below_set ?_ (IsS67.ge HI0.out) | refine below_set ?_ GE354.out | refine below_set ?_ GE355.out) | exact HB.out)); rintro e w27 ⟨rfl, hi, hb, hk⟩; refine ⟨_, rfl, ?_⟩; replace HO_356000 := K_ (Kd.R_mono (Kd.R_keep (IsS67.apart (show IsS67 w0 _ g s0_0 x1001_2 x1002_2 from by repeat (first | (with_reducible first | exact HI0.out | apply IsS67.alloc | apply IsS67.drewN | apply IsS67.drew | apply IsS67.set_1 | apply IsS67.set_2 | refine IsS67.far ?_ NB0_354.out _ | refine IsS67.far ?_ NB0_355.out _) | exact HI0.out)) HO_356000.out (by decide)) hk (fun _ h => h.2)) (fun _ h => h.1)); replace HO_356001 := K_ (Kd.S_mono (Kd.S_keep (IsS67.apartS (show IsS67 w0 _ g s0_0 x1001_2 x1002_2 from by repeat (first | (with_reducible first | exact HI0.out | apply IsS67.alloc | apply IsS67.drewN | apply IsS67.drew | apply IsS67.set_1 | apply IsS67.set_2 | refine IsS67.far ?_ NB0_354.out _ | refine IsS67.far ?_ NB0_355.out _) | exact HI0.out)) HO_356001.out (by decide)) hk (fun _ h => h.2)) (fun _ h => h.1)); replace HO_356002 := K_ (Kd.R_mono (Kd.R_keep (IsS67.apart (show IsS67 w0 _ g s0_0 x1001_2 x1002_2 from by repeat (first | (with_reducible first | exact HI0.out | apply IsS67.alloc | apply IsS67.drewN | apply IsS67.drew | apply IsS67.set_1 | apply IsS67.set_2 | refine IsS67.far ?_ NB0_354.out _ | refine IsS67.far ?_ NB0_355.out _) | exact HI0.out)) HO_356002.out (by decide)) hk (fun _ h => h.2)) (fun _ h => h.1)); replace BK354 := K_ (KeepBut.blk hk (g' := gb354) (o := .cells #[.slice none 0 0, .slice none 0 0, .slice none 0 0] 30 (0, 0)) BK354.out NB354_0.out (by simp)); replace BK355 := K_ (KeepBut.blk hk (g' := gb355) (o := .cells #[u356000, u356001, u356002] 30 (0, 0)) BK355.out NB355_0.out (by simp)); replace HK := K_ (KeepBut.trans (by repeat (first | (with_reducible first | exact HK.out | apply KeepBut.set_ | apply keep_drewN | apply keep_drew | apply keep_alloc | refine keep_far ?_ GW354.out _ | refine keep_far ?_ GW355.out _) | exact HK.out)) hk (.inl rfl)); replace HB := K_ (hb); replace HI0 := K_ (hi); clear hb hk hi) | ((with_reducible refine gate_callee (f := 35) rfl ?_); refine goesL_ (some 46) rfl rfl Tryd.func35 (by kernel_rfl) rfl #[.pointer (some ⟨g, 0, none⟩), .int .i64 5] rfl (by simp only [List.map_toArray, List.map_cons, List.map_nil]; try rfl) ?_; (with_reducible refine (spec_l5Cur_pick.calls g s0_0 t375 t376 5 t377 t378 t379 w0 _ ?side1 ?side2 A22.out).mono ?_); (case side1 => repeat (first | (with_reducible first | exact HI0.out | apply IsS67.alloc | apply IsS67.drewN | apply IsS67.drew | apply IsS67.set_1 | apply IsS67.set_2 | refine IsS67.far ?_ NB0_354.out _ | refine IsS67.far ?_ NB0_355.out _) | exact HI0.out)); (case side2 => repeat (first | (with_reducible first | exact HB.out | refine below_set ?_ (IsS67.ge HI0.out) | refine below_set ?_ GE354.out | refine below_set ?_ GE355.out) | exact HB.out)); rintro e w28 ⟨rfl, hi, hb, hk⟩; refine ⟨_, rfl, ?_⟩; replace HO_356000 := K_ (Kd.R_mono (Kd.R_keep (IsS67.apart (show IsS67 w0 _ g s0_0 t375 t376 from by repeat (first | (with_reducible first | exact HI0.out | apply IsS67.alloc | apply IsS67.drewN | apply IsS67.drew | apply IsS67.set_1 | apply IsS67.set_2 | refine IsS67.far ?_ NB0_354.out _ | refine IsS67.far ?_ NB0_355.out _) | exact HI0.out)) HO_356000.out (by decide)) hk (fun _ h => h.2)) (fun _ h => h.1)); replace HO_356001 := K_ (Kd.S_mono (Kd.S_keep (IsS67.apartS (show IsS67 w0 _ g s0_0 t375 t376 from by repeat (first | (with_reducible first | exact HI0.out | apply IsS67.alloc | apply IsS67.drewN | apply IsS67.drew | apply IsS67.set_1 | apply IsS67.set_2 | refine IsS67.far ?_ NB0_354.out _ | refine IsS67.far ?_ NB0_355.out _) | exact HI0.out)) HO_356001.out (by decide)) hk (fun _ h => h.2)) (fun _ h => h.1)); replace HO_356002 := K_ (Kd.R_mono (Kd.R_keep (IsS67.apart (show IsS67 w0 _ g s0_0 t375 t376 from by repeat (first | (with_reducible first | exact HI0.out | apply IsS67.alloc | apply IsS67.drewN | apply IsS67.drew | apply IsS67.set_1 | apply IsS67.set_2 | refine IsS67.far ?_ NB0_354.out _ | refine IsS67.far ?_ NB0_355.out _) | exact HI0.out)) HO_356002.out (by decide)) hk (fun _ h => h.2)) (fun _ h => h.1)); replace BK354 := K_ (KeepBut.blk hk (g' := gb354) (o := .cells #[.slice none 0 0, .slice none 0 0, .slice none 0 0] 30 (0, 0)) BK354.out NB354_0.out (by simp)); replace BK355 := K_ (KeepBut.blk hk (g' := gb355) (o := .cells #[u356000, u356001, u356002] 30 (0, 0)) BK355.out NB355_0.out (by simp)); replace HK := K_ (KeepBut.trans (by repeat (first | (with_reducible first | exact HK.out | apply KeepBut.set_ | apply keep_drewN | apply keep_drew | apply keep_alloc | refine keep_far ?_ GW354.out _ | refine keep_far ?_ GW355.out _) | exact HK.out)) hk (.inl rfl)); replace HB := K_ (hb); replace HI0 := K_ (hi); clear hb hk hi) | ((with_reducible refine gate_dst (N := 9) rfl ?_); refine box_event (by rfl) (N := 9) (by rfl) (cs := #[.int .i64 0, .slice none 0 0, .int .i64 0]) (t := 48) (by go_simp; try rfl) ?_; intro gb380 hg w29 hbox hb; have BK380 := K_ (hbox); have GW380 := K_ ((by rw [hg]; exact (keep_size (w := w) (g := g) (row := none) (by repeat (first | (with_reducible first | exact HK.out | apply KeepBut.set_ | apply keep_drewN | apply keep_drew | apply keep_alloc | refine keep_far ?_ GW354.out _ | refine keep_far ?_ GW355.out _) | exact HK.out))) : w.heap.size ≤ gb380)); have GE380 := K_ ((Nat.le_trans HW0.out (by rw [hg]; exact (keep_size (w := w) (g := g) (row := none) (by repeat (first | (with_reducible first | exact HK.out | apply KeepBut.set_ | apply keep_drewN | apply keep_drew | apply keep_alloc | refine keep_far ?_ GW354.out _ | refine keep_far ?_ GW355.out _) | exact HK.out))) : w.heap.size ≤ gb380) : w0.heap.size ≤ gb380)); have NB354_380 := nl_ hg BK354.out; have NB380_354 := ng_ hg BK354.out; have NB355_380 := nl_ hg BK355.out; have NB380_355 := ng_ hg BK355.out; have NB0_380 := K_ ((by rw [hg]; exact Nat.ne_of_lt (IsS67.lt (show IsS67 w0 _ g s0_0 t378 t379 from by repeat (first | (with_reducible first | exact HI0.out | apply IsS67.alloc | apply IsS67.drewN | apply IsS67.drew | apply IsS67.set_1 | apply IsS67.set_2 | refine IsS67.far ?_ NB0_354.out _ | refine IsS67.far ?_ NB0_355.out _) | exact HI0.out))) : g ≠ gb380)); have NB380_0 := K_ ((by rw [hg]; exact Nat.ne_of_gt (IsS67.lt (show IsS67 w0 _ g s0_0 t378 t379 from by repeat (first | (with_reducible first | exact HI0.out | apply IsS67.alloc | apply IsS67.drewN | apply IsS67.drew | apply IsS67.set_1 | apply IsS67.set_2 | refine IsS67.far ?_ NB0_354.out _ | refine IsS67.far ?_ NB0_355.out _) | exact HI0.out))) : gb380 ≠ g)); replace HO_356000 := K_ (Kd.R_below HO_356000.out hb); replace HO_356001 := K_ (Kd.S_below (Kd.S_elderB HO_356001.out gb380 (Nat.le_of_eq hg.symm)) hb); replace HO_356002 := K_ (Kd.R_below HO_356002.out hb); replace BK354 := K_ (blk_below BK354.out hb); replace BK355 := K_ (blk_below BK355.out hb); replace HK := K_ (KeepBut.trans (by repeat (first | (with_reducible first | exact HK.out | apply KeepBut.set_ | apply keep_drewN | apply keep_drew | apply keep_alloc | refine keep_far ?_ GW354.out _ | refine keep_far ?_ GW355.out _) | exact HK.out)) (KeepBut.of_below hb g none) (.inl rfl)); replace HB := K_ (below_step (by repeat (first | (with_reducible first | exact HB.out | refine below_set ?_ (IsS67.ge HI0.out) | refine below_set ?_ GE354.out | refine below_set ?_ GE355.out) | exact HB.out)) hb); replace HI0 := K_ (IsS67.below (by repeat (first | (with_reducible first | exact HI0.out | apply IsS67.alloc | apply IsS67.drewN | apply IsS67.drew | apply IsS67.set_1 | apply IsS67.set_2 | refine IsS67.far ?_ NB0_354.out _ | refine IsS67.far ?_ NB0_355.out _) | exact HI0.out)) hb); clear hb hbox hg; have hnb30 := NB380_354.out; have hnc30 := NB354_380.out; have hnb31 := NB380_355.out; have hnc31 := NB355_380.out; have hnb32 := NB380_0.out; have hnc32 := NB0_380.out; obtain ⟨hcz33_0, hcz33_1, hcz33_2, hfz33_0, hfz33_1, hfz33_2⟩ := blkf3_ BK380.out))
      have n0_ : Aside0 (Kd.R (Kd.int .i64) 3 (((w29.setCell ⟨gb380, 0, none⟩ (.int .i64 t374)).setCell ⟨gb380, 1, none⟩ (.slice none 0 0)).setCell ⟨gb380, 2, none⟩ (.int .i64 (wrap64 (1 + t377)))) w.heap.size (fun k_ => X_ k_ u356002) u356000 x356000_1) := ⟨by exact Kd.R_mono (Kd.R_far (p := ⟨gb380, 2, none⟩) (Kd.R_far (p := ⟨gb380, 1, none⟩) (Kd.R_far (p := ⟨gb380, 0, none⟩) (Kd.R_types HO_356000.out BK380.out (by decide)) (fun _ hk => hk.2) (.int .i64 t374)) (fun _ hk => hk.2) (.slice none 0 0)) (fun _ hk => hk.2) (.int .i64 (wrap64 (1 + t377)))) (fun _ hk => hk.1)⟩
      have n1_ : Aside0 (Kd.S k48 48 (((w29.setCell ⟨gb380, 0, none⟩ (.int .i64 t374)).setCell ⟨gb380, 1, none⟩ (.slice none 0 0)).setCell ⟨gb380, 2, none⟩ (.int .i64 (wrap64 (1 + t377)))) w.heap.size (fun k_ => X_ k_ u356000 ∧ X_ k_ u356002 ∧ k_ ≠ gb380) u356001 x356001_2) := ⟨by exact Kd.S_mono (Kd.S_far (p := ⟨gb380, 2, none⟩) (Kd.S_far (p := ⟨gb380, 1, none⟩) (Kd.S_far (p := ⟨gb380, 0, none⟩) (Kd.S_mono HO_356001.out (fun k_ hk => (⟨hk, hk.2⟩ : _ ∧ k_ ≠ gb380))) (fun _ hk => hk.2) (.int .i64 t374)) (fun _ hk => hk.2) (.slice none 0 0)) (fun _ hk => hk.2) (.int .i64 (wrap64 (1 + t377)))) (fun _ hk => ⟨hk.1.1.1, ⟨hk.1.1.2, hk.1.2⟩⟩)⟩
      have n2_ : Aside0 (Kd.R (Kd.int .i64) 3 (((w29.setCell ⟨gb380, 0, none⟩ (.int .i64 t374)).setCell ⟨gb380, 1, none⟩ (.slice none 0 0)).setCell ⟨gb380, 2, none⟩ (.int .i64 (wrap64 (1 + t377)))) w.heap.size (fun k_ => X_ k_ u356000) u356002 x356002_2) := ⟨by exact Kd.R_mono (Kd.R_far (p := ⟨gb380, 2, none⟩) (Kd.R_far (p := ⟨gb380, 1, none⟩) (Kd.R_far (p := ⟨gb380, 0, none⟩) (Kd.R_types HO_356002.out BK380.out (by decide)) (fun _ hk => hk.2) (.int .i64 t374)) (fun _ hk => hk.2) (.slice none 0 0)) (fun _ hk => hk.2) (.int .i64 (wrap64 (1 + t377)))) (fun _ hk => hk.1)⟩
      have n3_ : Aside0 ((((w29.setCell ⟨gb380, 0, none⟩ (.int .i64 t374)).setCell ⟨gb380, 1, none⟩ (.slice none 0 0)).setCell ⟨gb380, 2, none⟩ (.int .i64 (wrap64 (1 + t377)))).heap[gb354]? = some (.cells #[.slice none 0 0, .slice none 0 0, .slice none 0 0] 30 (0, 0))) := ⟨by refine blk_far ?_ NB354_380.out _; refine blk_far ?_ NB354_380.out _; refine blk_far ?_ NB354_380.out _; exact BK354.out⟩
      have n4_ : Aside0 ((((w29.setCell ⟨gb380, 0, none⟩ (.int .i64 t374)).setCell ⟨gb380, 1, none⟩ (.slice none 0 0)).setCell ⟨gb380, 2, none⟩ (.int .i64 (wrap64 (1 + t377)))).heap[gb355]? = some (.cells #[u356000, u356001, u356002] 30 (0, 0))) := ⟨by refine blk_far ?_ NB355_380.out _; refine blk_far ?_ NB355_380.out _; refine blk_far ?_ NB355_380.out _; exact BK355.out⟩
      have n5_ : Aside0 ((((w29.setCell ⟨gb380, 0, none⟩ (.int .i64 t374)).setCell ⟨gb380, 1, none⟩ (.slice none 0 0)).setCell ⟨gb380, 2, none⟩ (.int .i64 (wrap64 (1 + t377)))).heap[gb380]? = some (.cells #[.int .i64 t374, .slice none 0 0, .int .i64 (wrap64 (1 + t377))] 48 (0, 0))) := ⟨by refine blk_put (cs := #[.int .i64 t374, .slice none 0 0, .int .i64 0]) ?_ 2 _ rfl; refine blk_put (cs := #[.int .i64 t374, .slice none 0 0, .int .i64 0]) ?_ 1 _ rfl; refine blk_put (cs := #[.int .i64 0, .slice none 0 0, .int .i64 0]) ?_ 0 _ rfl; exact BK380.out⟩
      have n6_ : Aside0 (IsS67 w0 (((w29.setCell ⟨gb380, 0, none⟩ (.int .i64 t374)).setCell ⟨gb380, 1, none⟩ (.slice none 0 0)).setCell ⟨gb380, 2, none⟩ (.int .i64 (wrap64 (1 + t377)))) g s0_0 t378 t379) := ⟨by repeat (first | (with_reducible first | exact HI0.out | apply IsS67.alloc | apply IsS67.drewN | apply IsS67.drew | apply IsS67.set_1 | apply IsS67.set_2 | refine IsS67.far ?_ NB0_354.out _ | refine IsS67.far ?_ NB0_355.out _ | refine IsS67.far ?_ NB0_380.out _) | exact HI0.out)⟩
      have n7_ : Aside0 (KeepBut w (((w29.setCell ⟨gb380, 0, none⟩ (.int .i64 t374)).setCell ⟨gb380, 1, none⟩ (.slice none 0 0)).setCell ⟨gb380, 2, none⟩ (.int .i64 (wrap64 (1 + t377)))) g none) := ⟨by repeat (first | (with_reducible first | exact HK.out | apply KeepBut.set_ | apply keep_drewN | apply keep_drew | apply keep_alloc | refine keep_far ?_ GW354.out _ | refine keep_far ?_ GW355.out _ | refine keep_far ?_ GW380.out _) | exact HK.out)⟩
      have n8_ : Aside0 (Below w0.heap.size w0 (((w29.setCell ⟨gb380, 0, none⟩ (.int .i64 t374)).setCell ⟨gb380, 1, none⟩ (.slice none 0 0)).setCell ⟨gb380, 2, none⟩ (.int .i64 (wrap64 (1 + t377))))) := ⟨by repeat (first | (with_reducible first | exact HB.out | refine below_set ?_ (IsS67.ge HI0.out) | refine below_set ?_ GE354.out | refine below_set ?_ GE355.out | refine below_set ?_ GE380.out) | exact HB.out)⟩
      clear HO_356000
      clear HO_356001
      clear HO_356002
      clear BK354
      clear BK355
      clear BK380
      clear HI0
      clear HK
      clear HB
      generalize (((w29.setCell ⟨gb380, 0, none⟩ (.int .i64 t374)).setCell ⟨gb380, 1, none⟩ (.slice none 0 0)).setCell ⟨gb380, 2, none⟩ (.int .i64 (wrap64 (1 + t377)))) = w34 at n0_ n1_ n2_ n3_ n4_ n5_ n6_ n7_ n8_ ⊢
      have HO_356000 := n0_
      have HO_356001 := n1_
      have HO_356002 := n2_
      have BK354 := n3_
      have BK355 := n4_
      have BK380 := n5_
      have HI0 := n6_
      have HK := n7_
      have HB := n8_
      clear n0_ n1_ n2_ n3_ n4_ n5_ n6_ n7_ n8_
      replace HO_356000 := K_ (Kd.R_drew HO_356000.out)
      replace HO_356001 := K_ (Kd.S_drew HO_356001.out)
      replace HO_356002 := K_ (Kd.R_drew HO_356002.out)
      replace BK354 := K_ (blk_drew BK354.out)
      replace BK355 := K_ (blk_drew BK355.out)
      replace BK380 := K_ (blk_drew BK380.out)
      replace HI0 := K_ (IsS67.drew HI0.out)
      replace HK := K_ (keep_drew HK.out)
      replace HB := K_ (below_drew1 HB.out)
      obtain ⟨Ao36, co36, eo36⟩ := Kd.R_slice HO_356000.out
      (first | subst eo36 | (injection eo36 with f1_ f2_ f3_; have f4_ := f1_.symm; have f5_ := f3_.symm; clear f1_ f2_ f3_; subst f4_; subst f5_))
      have p382 : 0 ≤ (t374 : Int) := of_decide_eq_true (by assumption)
      have q382 : t374 < (x356000_1.length : Int) := of_decide_eq_true (by assumption)
      obtain ⟨ad382, e382, hx382_0⟩ := Kd.at_int (Kd.R_reads' HO_356000.out).2.2 t374 p382 q382
      cases e382
      replace p382 := eq_true p382
      replace q382 := eq_true q382
      obtain ⟨Ao37, co37, eo37⟩ := Kd.S_slice HO_356001.out
      (first | subst eo37 | (injection eo37 with f1_ f2_ f3_; have f4_ := f1_.symm; have f5_ := f3_.symm; clear f1_ f2_ f3_; subst f4_; subst f5_))
      obtain ⟨Ao38, co38, eo38⟩ := Kd.R_slice HO_356002.out
      (first | subst eo38 | (injection eo38 with f1_ f2_ f3_; have f4_ := f1_.symm; have f5_ := f3_.symm; clear f1_ f2_ f3_; subst f4_; subst f5_))
      refine start_ (n := 11) (S := fun w' => w'.cell? ⟨gb355, 0, none⟩ = some (.slice (some ad382) x356000_1.length co36) ∧ w'.cell? ⟨gb355, 1, none⟩ = some (.slice Ao37 x356001_2.length co37) ∧ w'.cell? ⟨gb355, 2, none⟩ = some (.slice Ao38 x356002_2.length co38) ∧ w'.cell? ⟨gb380, 0, none⟩ = some (.int .i64 t374) ∧ w'.cell? ⟨gb380, 1, none⟩ = some (.slice none 0 0) ∧ w'.cell? ⟨gb380, 2, none⟩ = some (.int .i64 (wrap64 (1 + t377))) ∧ w'.cell? (ad382.add (t374).toNat) = some (.int .i64 (rd x356000_1 t374))) (ds := []) #[ff, ff, ff, ff, ff, ff, ff, ff, ff, ff, ff] (by kernel_rfl) rfl rfl ⟨(blk_cell BK355.out 0).trans rfl, (blk_cell BK355.out 1).trans rfl, (blk_cell BK355.out 2).trans rfl, (blk_cell BK380.out 0).trans rfl, (blk_cell BK380.out 1).trans rfl, (blk_cell BK380.out 2).trans rfl, hx382_0⟩ (fun hHeld => ?_); refine with_tabW spec_l5Cur_state.tab13 spec_l5Cur_state.bits13 (fun HT_ HW_ => ?_)
      generalize w34.drew = w35 at HO_356000 HO_356001 HO_356002 BK354 BK355 BK380 HI0 HK HB hx382_0 hHeld ⊢
      refine pure_ (i := 1) (N := some 50) (v := ?_) (a' := ?_) (M_ 11 2) rfl rfl (any_of HT_.out (by kernel_rfl)) (fun _ _ _ h => h) (Or.inl ⟨by rfl, ?_⟩) ?_ ?_
      rotate_left
      ·intro w'
       go_simp
       with_reducible rfl
      rotate_left
      ·simp only [P_, i64_w, i32_w]
       rfl
      refine pure_ (i := 4) (N := some 53) (v := ?_) (a' := ?_) (M_ 11 18) rfl rfl (any_of HT_.out (by kernel_rfl)) (fun _ _ _ h => h) (Or.inl ⟨by rfl, ?_⟩) ?_ ?_
      rotate_left
      ·intro w'
       go_simp
       with_reducible rfl
      rotate_left
      ·simp only [P_, i64_w, i32_w]
       rfl
      refine pure_ (i := 6) (N := some 55) (v := ?_) (a' := ?_) (M_ 11 82) rfl rfl (any_of HT_.out (by kernel_rfl)) (fun _ _ _ h => h) (Or.inl ⟨by rfl, ?_⟩) ?_ ?_
      rotate_left
      ·intro w'
       go_simp
       with_reducible rfl
      rotate_left
      ·simp only [P_, i64_w, i32_w]
       rfl
      refine take_ (i := 0) (N := some 49) (v := ?_) (a' := ?_) (M_ 11 83) rfl rfl (take_ofW HT_.out HW_.out (by kernel_rfl)) (fun _ _ _ h => h) (Or.inl ⟨by rfl, ?_⟩) hHeld ?_ ?_
      rotate_left
      ·rintro w' ⟨s0, s1, s2, s3, s4, s5, s6⟩
       go_simp
       with_reducible rfl
      rotate_left
      ·simp only [P_, i64_w, i32_w]
       rfl
      refine take_ (i := 2) (N := some 51) (v := ?_) (a' := ?_) (M_ 11 87) rfl rfl (take_ofW HT_.out HW_.out (by kernel_rfl)) (fun _ _ _ h => h) (Or.inl ⟨by rfl, ?_⟩) hHeld ?_ ?_
      rotate_left
      ·rintro w' ⟨s0, s1, s2, s3, s4, s5, s6⟩
       go_simp
       with_reducible rfl
      rotate_left
      ·simp only [P_, i64_w, i32_w]
       rfl
      refine take_ (i := 5) (N := some 54) (v := ?_) (a' := ?_) (M_ 11 119) rfl rfl (take_ofW HT_.out HW_.out (by kernel_rfl)) (fun _ _ _ h => h) (Or.inl ⟨by rfl, ?_⟩) hHeld ?_ ?_
      rotate_left
      ·rintro w' ⟨s0, s1, s2, s3, s4, s5, s6⟩
       go_simp
       with_reducible rfl
      rotate_left
      ·simp only [P_, i64_w, i32_w]
       rfl
      refine take_ (i := 7) (N := some 56) (v := ?_) (a' := ?_) (M_ 11 247) rfl rfl (take_ofW HT_.out HW_.out (by kernel_rfl)) (fun _ _ _ h => h) (Or.inl ⟨by rfl, ?_⟩) hHeld ?_ ?_
      rotate_left
      ·rintro w' ⟨s0, s1, s2, s3, s4, s5, s6⟩
       go_simp
       with_reducible rfl
      rotate_left
      ·simp only [P_, i64_w, i32_w]
       rfl
      refine pure_ (i := 8) (N := some 57) (v := ?_) (a' := ?_) (M_ 11 503) rfl rfl (any_of HT_.out (by kernel_rfl)) (fun _ _ _ h => h) (Or.inl ⟨by rfl, ?_⟩) ?_ ?_
      rotate_left
      ·intro w'
       go_simp
       with_reducible rfl
      rotate_left
      ·simp only [P_, i64_w, i32_w]
       rfl
      refine take_ (i := 9) (N := some 58) (v := ?_) (a' := ?_) (M_ 11 1015) rfl rfl (take_ofW HT_.out HW_.out (by kernel_rfl)) (fun _ _ _ h => h) (Or.inl ⟨by rfl, ?_⟩) hHeld ?_ ?_
      rotate_left
      ·rintro w' ⟨s0, s1, s2, s3, s4, s5, s6⟩
       go_simp
       with_reducible rfl
      rotate_left
      ·simp only [P_, i64_w, i32_w]
       rfl
      refine one_ (i := 3) (N := some 52) (M_ 11 1023) rfl rfl (one_of HT_.out (by kernel_rfl)) (by decide) (fun K hK => ?_)
      refine goes_ Tryd.func38 (by kernel_rfl) rfl #[.agg #[.slice (some ad382) x356000_1.length co36, .slice Ao37 x356001_2.length co37, .slice Ao38 x356002_2.length co38], .int .i64 t374] (by rfl) rfl rfl (by simp only [List.map_toArray, List.map_cons, List.map_nil]; try rfl) ?_
      with_reducible refine (spec_l1there.calls k2 _ _ x356000_1 _ _ x356001_2 _ _ x356002_2 t374 t381 _ ?side1 ?side2 ?side3 ?side4 ?side5 ?side6 A23.out).mono ?_
      (case side1 => exact (Kd.R_reads' HO_356000.out).2.2)
      (case side2 => exact (Kd.R_reads' HO_356000.out).2.1)
      (case side3 => exact (Kd.S_reads' HO_356001.out).2.2)
      (case side4 => exact (Kd.S_reads' HO_356001.out).2.1)
      (case side5 => exact (Kd.R_reads' HO_356002.out).2.2)
      (case side6 => exact (Kd.R_reads' HO_356002.out).2.1)
      rintro e w39 ⟨rfl, hb⟩
      have HS6_ := (hb.cell (World.block_lt_of_cell? _ _ (hHeld.2.2.2.2.2.2))).trans (hHeld.2.2.2.2.2.2)
      refine ⟨_, rfl, ?_⟩
      replace HO_356000 := K_ (Kd.R_below HO_356000.out hb)
      replace HO_356001 := K_ (Kd.S_below HO_356001.out hb)
      replace HO_356002 := K_ (Kd.R_below HO_356002.out hb)
      replace BK354 := K_ (blk_below BK354.out hb)
      replace BK355 := K_ (blk_below BK355.out hb)
      replace BK380 := K_ (blk_below BK380.out hb)
      replace HK := K_ (KeepBut.trans (by repeat (first | (with_reducible first | exact HK.out | apply KeepBut.set_ | apply keep_drewN | apply keep_drew | apply keep_alloc | refine keep_far ?_ GW354.out _ | refine keep_far ?_ GW355.out _ | refine keep_far ?_ GW380.out _) | exact HK.out)) (KeepBut.of_below hb g none) (.inl rfl))
      replace HB := K_ (below_step (by repeat (first | (with_reducible first | exact HB.out | refine below_set ?_ (IsS67.ge HI0.out) | refine below_set ?_ GE354.out | refine below_set ?_ GE355.out | refine below_set ?_ GE380.out) | exact HB.out)) hb)
      replace HI0 := K_ (IsS67.below (by repeat (first | (with_reducible first | exact HI0.out | apply IsS67.alloc | apply IsS67.drewN | apply IsS67.drew | apply IsS67.set_1 | apply IsS67.set_2 | refine IsS67.far ?_ NB0_354.out _ | refine IsS67.far ?_ NB0_355.out _ | refine IsS67.far ?_ NB0_380.out _) | exact HI0.out)) hb)
      clear hb
      skip
      (try clear hk)
      skip
      refine hK.out _ _ ⟨(blk_cell BK355.out 0).trans rfl, (blk_cell BK355.out 1).trans rfl, (blk_cell BK355.out 2).trans rfl, (blk_cell BK380.out 0).trans rfl, (blk_cell BK380.out 1).trans rfl, (blk_cell BK380.out 2).trans rfl, HS6_⟩ (fun hHeld => ?_)
      clear hK K
      refine norm_ (a' := ?_) ?_ ?_
      rotate_left
      ·show Act.put _ (some 52) _ = _
       simp only [P_, i64_w, i32_w]
       rfl
      refine pure_ (i := 10) (N := some 59) (v := ?_) (a' := ?_) (M_ 11 2047) rfl rfl (any_of HT_.out (by kernel_rfl)) (fun _ _ _ h => h) (Or.inl ⟨by rfl, ?_⟩) ?_ ?_
      rotate_left
      ·intro w'
       go_simp
       with_reducible rfl
      rotate_left
      ·simp only [P_, i64_w, i32_w]
       rfl
      refine done_ (done_of HT_.out (by kernel_rfl)) ?_
      try go_wp2
      go_roundg k2
      case measure => have := HK1.out; have := HK2.out; omega
      case rel => exact ⟨(x6_2), (wrap64 (x8_2 - 1)), (t378), (t379), (x356001_2), (x356002_2), (.slice Ao37 x356001_2.length co37), (.slice Ao38 x356002_2.length co38), rfl, rfl, H', ⟨by have := HK1.out; have := HK2.out; omega⟩, ⟨HO_356000.out⟩, ⟨by exact Kd.S_mono HO_356001.out (fun _ hk => ⟨hk.1, hk.2.1⟩)⟩, ⟨HO_356002.out⟩, ⟨BK354.out⟩, ⟨BK355.out⟩, ⟨by repeat (first | (with_reducible first | exact HI0.out | apply IsS67.alloc | apply IsS67.drewN | apply IsS67.drew | apply IsS67.set_1 | apply IsS67.set_2 | refine IsS67.far ?_ NB0_354.out _ | refine IsS67.far ?_ NB0_355.out _ | refine IsS67.far ?_ NB0_380.out _) | exact HI0.out)⟩, ⟨by repeat (first | (with_reducible first | exact HK.out | apply KeepBut.set_ | apply keep_drewN | apply keep_drew | apply keep_alloc | refine keep_far ?_ GW354.out _ | refine keep_far ?_ GW355.out _ | refine keep_far ?_ GW380.out _) | exact HK.out)⟩, ⟨by repeat (first | (with_reducible first | exact HB.out | refine below_set ?_ (IsS67.ge HI0.out) | refine below_set ?_ GE354.out | refine below_set ?_ GE355.out | refine below_set ?_ GE380.out) | exact HB.out)⟩⟩
     have c26b0 := decide_eq_false c26
     clear c26
     replace H := Option.bind_eq_some_iff.mp H
     obtain ⟨⟨t383, t384, t385⟩, A400, H⟩ := H
     try dsimp only at H
     have A40 := K_ A400
     clear A400
     replace H := Option.bind_eq_some_iff.mp H
     obtain ⟨⟨t386, t387, t388⟩, A410, H⟩ := H
     try dsimp only at H
     have A41 := K_ A410
     clear A410
     have H' := K_ H
     clear H
     try go_wp2_with (first | ((with_reducible refine gate_callee (f := 35) rfl ?_); refine goesL_ (some 44) rfl rfl Tryd.func35 (by kernel_rfl) rfl #[.pointer (some ⟨g, 0, none⟩), .int .i64 (wrap64 (3 + t356))] rfl (by simp only [List.map_toArray, List.map_cons, List.map_nil]; try rfl) ?_; (with_reducible refine (spec_l5Cur_pick.calls g s0_0 x1001_2 x1002_2 (wrap64 (3 + t356)) t374 t375 t376 w0 _ ?side1 ?side2 A21.out).mono ?_); (case side1 => repeat (first | (with_reducible first | exact HI0.out | apply IsS67.alloc | apply IsS67.drewN | apply IsS67.drew | apply IsS67.set_1 | apply IsS67.set_2 | refine IsS67.far ?_ NB0_354.out _ | refine IsS67.far ?_ NB0_355.out _) | exact HI0.out)); (case side2 => repeat (first | (with_reducible first | exact HB.out | refine below_set ?_ (IsS67.ge HI0.out) | refine below_set ?_ GE354.out | refine below_set ?_ GE355.out) | exact HB.out)); rintro e w42 ⟨rfl, hi, hb, hk⟩; refine ⟨_, rfl, ?_⟩; replace HO_356000 := K_ (Kd.R_mono (Kd.R_keep (IsS67.apart (show IsS67 w0 _ g s0_0 x1001_2 x1002_2 from by repeat (first | (with_reducible first | exact HI0.out | apply IsS67.alloc | apply IsS67.drewN | apply IsS67.drew | apply IsS67.set_1 | apply IsS67.set_2 | refine IsS67.far ?_ NB0_354.out _ | refine IsS67.far ?_ NB0_355.out _) | exact HI0.out)) HO_356000.out (by decide)) hk (fun _ h => h.2)) (fun _ h => h.1)); replace HO_356001 := K_ (Kd.S_mono (Kd.S_keep (IsS67.apartS (show IsS67 w0 _ g s0_0 x1001_2 x1002_2 from by repeat (first | (with_reducible first | exact HI0.out | apply IsS67.alloc | apply IsS67.drewN | apply IsS67.drew | apply IsS67.set_1 | apply IsS67.set_2 | refine IsS67.far ?_ NB0_354.out _ | refine IsS67.far ?_ NB0_355.out _) | exact HI0.out)) HO_356001.out (by decide)) hk (fun _ h => h.2)) (fun _ h => h.1)); replace HO_356002 := K_ (Kd.R_mono (Kd.R_keep (IsS67.apart (show IsS67 w0 _ g s0_0 x1001_2 x1002_2 from by repeat (first | (with_reducible first | exact HI0.out | apply IsS67.alloc | apply IsS67.drewN | apply IsS67.drew | apply IsS67.set_1 | apply IsS67.set_2 | refine IsS67.far ?_ NB0_354.out _ | refine IsS67.far ?_ NB0_355.out _) | exact HI0.out)) HO_356002.out (by decide)) hk (fun _ h => h.2)) (fun _ h => h.1)); replace BK354 := K_ (KeepBut.blk hk (g' := gb354) (o := .cells #[.slice none 0 0, .slice none 0 0, .slice none 0 0] 30 (0, 0)) BK354.out NB354_0.out (by simp)); replace BK355 := K_ (KeepBut.blk hk (g' := gb355) (o := .cells #[u356000, u356001, u356002] 30 (0, 0)) BK355.out NB355_0.out (by simp)); replace HK := K_ (KeepBut.trans (by repeat (first | (with_reducible first | exact HK.out | apply KeepBut.set_ | apply keep_drewN | apply keep_drew | apply keep_alloc | refine keep_far ?_ GW354.out _ | refine keep_far ?_ GW355.out _) | exact HK.out)) hk (.inl rfl)); replace HB := K_ (hb); replace HI0 := K_ (hi); clear hb hk hi) | ((with_reducible refine gate_callee (f := 35) rfl ?_); refine goesL_ (some 46) rfl rfl Tryd.func35 (by kernel_rfl) rfl #[.pointer (some ⟨g, 0, none⟩), .int .i64 5] rfl (by simp only [List.map_toArray, List.map_cons, List.map_nil]; try rfl) ?_; (with_reducible refine (spec_l5Cur_pick.calls g s0_0 t375 t376 5 t377 t378 t379 w0 _ ?side1 ?side2 A22.out).mono ?_); (case side1 => repeat (first | (with_reducible first | exact HI0.out | apply IsS67.alloc | apply IsS67.drewN | apply IsS67.drew | apply IsS67.set_1 | apply IsS67.set_2 | refine IsS67.far ?_ NB0_354.out _ | refine IsS67.far ?_ NB0_355.out _) | exact HI0.out)); (case side2 => repeat (first | (with_reducible first | exact HB.out | refine below_set ?_ (IsS67.ge HI0.out) | refine below_set ?_ GE354.out | refine below_set ?_ GE355.out) | exact HB.out)); rintro e w43 ⟨rfl, hi, hb, hk⟩; refine ⟨_, rfl, ?_⟩; replace HO_356000 := K_ (Kd.R_mono (Kd.R_keep (IsS67.apart (show IsS67 w0 _ g s0_0 t375 t376 from by repeat (first | (with_reducible first | exact HI0.out | apply IsS67.alloc | apply IsS67.drewN | apply IsS67.drew | apply IsS67.set_1 | apply IsS67.set_2 | refine IsS67.far ?_ NB0_354.out _ | refine IsS67.far ?_ NB0_355.out _) | exact HI0.out)) HO_356000.out (by decide)) hk (fun _ h => h.2)) (fun _ h => h.1)); replace HO_356001 := K_ (Kd.S_mono (Kd.S_keep (IsS67.apartS (show IsS67 w0 _ g s0_0 t375 t376 from by repeat (first | (with_reducible first | exact HI0.out | apply IsS67.alloc | apply IsS67.drewN | apply IsS67.drew | apply IsS67.set_1 | apply IsS67.set_2 | refine IsS67.far ?_ NB0_354.out _ | refine IsS67.far ?_ NB0_355.out _) | exact HI0.out)) HO_356001.out (by decide)) hk (fun _ h => h.2)) (fun _ h => h.1)); replace HO_356002 := K_ (Kd.R_mono (Kd.R_keep (IsS67.apart (show IsS67 w0 _ g s0_0 t375 t376 from by repeat (first | (with_reducible first | exact HI0.out | apply IsS67.alloc | apply IsS67.drewN | apply IsS67.drew | apply IsS67.set_1 | apply IsS67.set_2 | refine IsS67.far ?_ NB0_354.out _ | refine IsS67.far ?_ NB0_355.out _) | exact HI0.out)) HO_356002.out (by decide)) hk (fun _ h => h.2)) (fun _ h => h.1)); replace BK354 := K_ (KeepBut.blk hk (g' := gb354) (o := .cells #[.slice none 0 0, .slice none 0 0, .slice none 0 0] 30 (0, 0)) BK354.out NB354_0.out (by simp)); replace BK355 := K_ (KeepBut.blk hk (g' := gb355) (o := .cells #[u356000, u356001, u356002] 30 (0, 0)) BK355.out NB355_0.out (by simp)); replace HK := K_ (KeepBut.trans (by repeat (first | (with_reducible first | exact HK.out | apply KeepBut.set_ | apply keep_drewN | apply keep_drew | apply keep_alloc | refine keep_far ?_ GW354.out _ | refine keep_far ?_ GW355.out _) | exact HK.out)) hk (.inl rfl)); replace HB := K_ (hb); replace HI0 := K_ (hi); clear hb hk hi) | ((with_reducible refine gate_dst (N := 9) rfl ?_); refine box_event (by rfl) (N := 9) (by rfl) (cs := #[.int .i64 0, .slice none 0 0, .int .i64 0]) (t := 48) (by go_simp; try rfl) ?_; intro gb380 hg w44 hbox hb; have BK380 := K_ (hbox); have GW380 := K_ ((by rw [hg]; exact (keep_size (w := w) (g := g) (row := none) (by repeat (first | (with_reducible first | exact HK.out | apply KeepBut.set_ | apply keep_drewN | apply keep_drew | apply keep_alloc | refine keep_far ?_ GW354.out _ | refine keep_far ?_ GW355.out _) | exact HK.out))) : w.heap.size ≤ gb380)); have GE380 := K_ ((Nat.le_trans HW0.out (by rw [hg]; exact (keep_size (w := w) (g := g) (row := none) (by repeat (first | (with_reducible first | exact HK.out | apply KeepBut.set_ | apply keep_drewN | apply keep_drew | apply keep_alloc | refine keep_far ?_ GW354.out _ | refine keep_far ?_ GW355.out _) | exact HK.out))) : w.heap.size ≤ gb380) : w0.heap.size ≤ gb380)); have NB354_380 := nl_ hg BK354.out; have NB380_354 := ng_ hg BK354.out; have NB355_380 := nl_ hg BK355.out; have NB380_355 := ng_ hg BK355.out; have NB0_380 := K_ ((by rw [hg]; exact Nat.ne_of_lt (IsS67.lt (show IsS67 w0 _ g s0_0 t378 t379 from by repeat (first | (with_reducible first | exact HI0.out | apply IsS67.alloc | apply IsS67.drewN | apply IsS67.drew | apply IsS67.set_1 | apply IsS67.set_2 | refine IsS67.far ?_ NB0_354.out _ | refine IsS67.far ?_ NB0_355.out _) | exact HI0.out))) : g ≠ gb380)); have NB380_0 := K_ ((by rw [hg]; exact Nat.ne_of_gt (IsS67.lt (show IsS67 w0 _ g s0_0 t378 t379 from by repeat (first | (with_reducible first | exact HI0.out | apply IsS67.alloc | apply IsS67.drewN | apply IsS67.drew | apply IsS67.set_1 | apply IsS67.set_2 | refine IsS67.far ?_ NB0_354.out _ | refine IsS67.far ?_ NB0_355.out _) | exact HI0.out))) : gb380 ≠ g)); replace HO_356000 := K_ (Kd.R_below HO_356000.out hb); replace HO_356001 := K_ (Kd.S_below (Kd.S_elderB HO_356001.out gb380 (Nat.le_of_eq hg.symm)) hb); replace HO_356002 := K_ (Kd.R_below HO_356002.out hb); replace BK354 := K_ (blk_below BK354.out hb); replace BK355 := K_ (blk_below BK355.out hb); replace HK := K_ (KeepBut.trans (by repeat (first | (with_reducible first | exact HK.out | apply KeepBut.set_ | apply keep_drewN | apply keep_drew | apply keep_alloc | refine keep_far ?_ GW354.out _ | refine keep_far ?_ GW355.out _) | exact HK.out)) (KeepBut.of_below hb g none) (.inl rfl)); replace HB := K_ (below_step (by repeat (first | (with_reducible first | exact HB.out | refine below_set ?_ (IsS67.ge HI0.out) | refine below_set ?_ GE354.out | refine below_set ?_ GE355.out) | exact HB.out)) hb); replace HI0 := K_ (IsS67.below (by repeat (first | (with_reducible first | exact HI0.out | apply IsS67.alloc | apply IsS67.drewN | apply IsS67.drew | apply IsS67.set_1 | apply IsS67.set_2 | refine IsS67.far ?_ NB0_354.out _ | refine IsS67.far ?_ NB0_355.out _) | exact HI0.out)) hb); clear hb hbox hg; have hnb45 := NB380_354.out; have hnc45 := NB354_380.out; have hnb46 := NB380_355.out; have hnc46 := NB355_380.out; have hnb47 := NB380_0.out; have hnc47 := NB0_380.out; obtain ⟨hcz48_0, hcz48_1, hcz48_2, hfz48_0, hfz48_1, hfz48_2⟩ := blkf3_ BK380.out))
     have n0_ : Aside0 (Kd.R (Kd.int .i64) 3 (((w44.setCell ⟨gb380, 0, none⟩ (.int .i64 t374)).setCell ⟨gb380, 1, none⟩ (.slice none 0 0)).setCell ⟨gb380, 2, none⟩ (.int .i64 (wrap64 (1 + t377)))) w.heap.size (fun k_ => X_ k_ u356002) u356000 x356000_1) := ⟨by exact Kd.R_mono (Kd.R_far (p := ⟨gb380, 2, none⟩) (Kd.R_far (p := ⟨gb380, 1, none⟩) (Kd.R_far (p := ⟨gb380, 0, none⟩) (Kd.R_types HO_356000.out BK380.out (by decide)) (fun _ hk => hk.2) (.int .i64 t374)) (fun _ hk => hk.2) (.slice none 0 0)) (fun _ hk => hk.2) (.int .i64 (wrap64 (1 + t377)))) (fun _ hk => hk.1)⟩
     have n1_ : Aside0 (Kd.S k48 48 (((w44.setCell ⟨gb380, 0, none⟩ (.int .i64 t374)).setCell ⟨gb380, 1, none⟩ (.slice none 0 0)).setCell ⟨gb380, 2, none⟩ (.int .i64 (wrap64 (1 + t377)))) w.heap.size (fun k_ => X_ k_ u356000 ∧ X_ k_ u356002 ∧ k_ ≠ gb380) u356001 x356001_2) := ⟨by exact Kd.S_mono (Kd.S_far (p := ⟨gb380, 2, none⟩) (Kd.S_far (p := ⟨gb380, 1, none⟩) (Kd.S_far (p := ⟨gb380, 0, none⟩) (Kd.S_mono HO_356001.out (fun k_ hk => (⟨hk, hk.2⟩ : _ ∧ k_ ≠ gb380))) (fun _ hk => hk.2) (.int .i64 t374)) (fun _ hk => hk.2) (.slice none 0 0)) (fun _ hk => hk.2) (.int .i64 (wrap64 (1 + t377)))) (fun _ hk => ⟨hk.1.1.1, ⟨hk.1.1.2, hk.1.2⟩⟩)⟩
     have n2_ : Aside0 (Kd.R (Kd.int .i64) 3 (((w44.setCell ⟨gb380, 0, none⟩ (.int .i64 t374)).setCell ⟨gb380, 1, none⟩ (.slice none 0 0)).setCell ⟨gb380, 2, none⟩ (.int .i64 (wrap64 (1 + t377)))) w.heap.size (fun k_ => X_ k_ u356000) u356002 x356002_2) := ⟨by exact Kd.R_mono (Kd.R_far (p := ⟨gb380, 2, none⟩) (Kd.R_far (p := ⟨gb380, 1, none⟩) (Kd.R_far (p := ⟨gb380, 0, none⟩) (Kd.R_types HO_356002.out BK380.out (by decide)) (fun _ hk => hk.2) (.int .i64 t374)) (fun _ hk => hk.2) (.slice none 0 0)) (fun _ hk => hk.2) (.int .i64 (wrap64 (1 + t377)))) (fun _ hk => hk.1)⟩
     have n3_ : Aside0 ((((w44.setCell ⟨gb380, 0, none⟩ (.int .i64 t374)).setCell ⟨gb380, 1, none⟩ (.slice none 0 0)).setCell ⟨gb380, 2, none⟩ (.int .i64 (wrap64 (1 + t377)))).heap[gb354]? = some (.cells #[.slice none 0 0, .slice none 0 0, .slice none 0 0] 30 (0, 0))) := ⟨by refine blk_far ?_ NB354_380.out _; refine blk_far ?_ NB354_380.out _; refine blk_far ?_ NB354_380.out _; exact BK354.out⟩
     have n4_ : Aside0 ((((w44.setCell ⟨gb380, 0, none⟩ (.int .i64 t374)).setCell ⟨gb380, 1, none⟩ (.slice none 0 0)).setCell ⟨gb380, 2, none⟩ (.int .i64 (wrap64 (1 + t377)))).heap[gb355]? = some (.cells #[u356000, u356001, u356002] 30 (0, 0))) := ⟨by refine blk_far ?_ NB355_380.out _; refine blk_far ?_ NB355_380.out _; refine blk_far ?_ NB355_380.out _; exact BK355.out⟩
     have n5_ : Aside0 ((((w44.setCell ⟨gb380, 0, none⟩ (.int .i64 t374)).setCell ⟨gb380, 1, none⟩ (.slice none 0 0)).setCell ⟨gb380, 2, none⟩ (.int .i64 (wrap64 (1 + t377)))).heap[gb380]? = some (.cells #[.int .i64 t374, .slice none 0 0, .int .i64 (wrap64 (1 + t377))] 48 (0, 0))) := ⟨by refine blk_put (cs := #[.int .i64 t374, .slice none 0 0, .int .i64 0]) ?_ 2 _ rfl; refine blk_put (cs := #[.int .i64 t374, .slice none 0 0, .int .i64 0]) ?_ 1 _ rfl; refine blk_put (cs := #[.int .i64 0, .slice none 0 0, .int .i64 0]) ?_ 0 _ rfl; exact BK380.out⟩
     have n6_ : Aside0 (IsS67 w0 (((w44.setCell ⟨gb380, 0, none⟩ (.int .i64 t374)).setCell ⟨gb380, 1, none⟩ (.slice none 0 0)).setCell ⟨gb380, 2, none⟩ (.int .i64 (wrap64 (1 + t377)))) g s0_0 t378 t379) := ⟨by repeat (first | (with_reducible first | exact HI0.out | apply IsS67.alloc | apply IsS67.drewN | apply IsS67.drew | apply IsS67.set_1 | apply IsS67.set_2 | refine IsS67.far ?_ NB0_354.out _ | refine IsS67.far ?_ NB0_355.out _ | refine IsS67.far ?_ NB0_380.out _) | exact HI0.out)⟩
     have n7_ : Aside0 (KeepBut w (((w44.setCell ⟨gb380, 0, none⟩ (.int .i64 t374)).setCell ⟨gb380, 1, none⟩ (.slice none 0 0)).setCell ⟨gb380, 2, none⟩ (.int .i64 (wrap64 (1 + t377)))) g none) := ⟨by repeat (first | (with_reducible first | exact HK.out | apply KeepBut.set_ | apply keep_drewN | apply keep_drew | apply keep_alloc | refine keep_far ?_ GW354.out _ | refine keep_far ?_ GW355.out _ | refine keep_far ?_ GW380.out _) | exact HK.out)⟩
     have n8_ : Aside0 (Below w0.heap.size w0 (((w44.setCell ⟨gb380, 0, none⟩ (.int .i64 t374)).setCell ⟨gb380, 1, none⟩ (.slice none 0 0)).setCell ⟨gb380, 2, none⟩ (.int .i64 (wrap64 (1 + t377))))) := ⟨by repeat (first | (with_reducible first | exact HB.out | refine below_set ?_ (IsS67.ge HI0.out) | refine below_set ?_ GE354.out | refine below_set ?_ GE355.out | refine below_set ?_ GE380.out) | exact HB.out)⟩
     clear HO_356000
     clear HO_356001
     clear HO_356002
     clear BK354
     clear BK355
     clear BK380
     clear HI0
     clear HK
     clear HB
     generalize (((w44.setCell ⟨gb380, 0, none⟩ (.int .i64 t374)).setCell ⟨gb380, 1, none⟩ (.slice none 0 0)).setCell ⟨gb380, 2, none⟩ (.int .i64 (wrap64 (1 + t377)))) = w49 at n0_ n1_ n2_ n3_ n4_ n5_ n6_ n7_ n8_ ⊢
     have HO_356000 := n0_
     have HO_356001 := n1_
     have HO_356002 := n2_
     have BK354 := n3_
     have BK355 := n4_
     have BK380 := n5_
     have HI0 := n6_
     have HK := n7_
     have HB := n8_
     clear n0_ n1_ n2_ n3_ n4_ n5_ n6_ n7_ n8_
     replace HO_356000 := K_ (Kd.R_drew HO_356000.out)
     replace HO_356001 := K_ (Kd.S_drew HO_356001.out)
     replace HO_356002 := K_ (Kd.R_drew HO_356002.out)
     replace BK354 := K_ (blk_drew BK354.out)
     replace BK355 := K_ (blk_drew BK355.out)
     replace BK380 := K_ (blk_drew BK380.out)
     replace HI0 := K_ (IsS67.drew HI0.out)
     replace HK := K_ (keep_drew HK.out)
     replace HB := K_ (below_drew1 HB.out)
     obtain ⟨Ao51, co51, eo51⟩ := Kd.R_slice HO_356000.out
     (first | subst eo51 | (injection eo51 with f1_ f2_ f3_; have f4_ := f1_.symm; have f5_ := f3_.symm; clear f1_ f2_ f3_; subst f4_; subst f5_))
     have p382 : 0 ≤ (t374 : Int) := of_decide_eq_true (by assumption)
     have q382 : t374 < (x356000_1.length : Int) := of_decide_eq_true (by assumption)
     obtain ⟨ad382, e382, hx382_0⟩ := Kd.at_int (Kd.R_reads' HO_356000.out).2.2 t374 p382 q382
     cases e382
     replace p382 := eq_true p382
     replace q382 := eq_true q382
     obtain ⟨Ao52, co52, eo52⟩ := Kd.S_slice HO_356001.out
     (first | subst eo52 | (injection eo52 with f1_ f2_ f3_; have f4_ := f1_.symm; have f5_ := f3_.symm; clear f1_ f2_ f3_; subst f4_; subst f5_))
     obtain ⟨Ao53, co53, eo53⟩ := Kd.R_slice HO_356002.out
     (first | subst eo53 | (injection eo53 with f1_ f2_ f3_; have f4_ := f1_.symm; have f5_ := f3_.symm; clear f1_ f2_ f3_; subst f4_; subst f5_))
     refine start_ (n := 11) (S := fun w' => w'.cell? ⟨gb355, 0, none⟩ = some (.slice (some ad382) x356000_1.length co51) ∧ w'.cell? ⟨gb355, 1, none⟩ = some (.slice Ao52 x356001_2.length co52) ∧ w'.cell? ⟨gb355, 2, none⟩ = some (.slice Ao53 x356002_2.length co53) ∧ w'.cell? ⟨gb380, 0, none⟩ = some (.int .i64 t374) ∧ w'.cell? ⟨gb380, 1, none⟩ = some (.slice none 0 0) ∧ w'.cell? ⟨gb380, 2, none⟩ = some (.int .i64 (wrap64 (1 + t377))) ∧ w'.cell? (ad382.add (t374).toNat) = some (.int .i64 (rd x356000_1 t374))) (ds := []) #[ff, ff, ff, ff, ff, ff, ff, ff, ff, ff, ff] (by kernel_rfl) rfl rfl ⟨(blk_cell BK355.out 0).trans rfl, (blk_cell BK355.out 1).trans rfl, (blk_cell BK355.out 2).trans rfl, (blk_cell BK380.out 0).trans rfl, (blk_cell BK380.out 1).trans rfl, (blk_cell BK380.out 2).trans rfl, hx382_0⟩ (fun hHeld => ?_); refine with_tabW spec_l5Cur_state.tab13 spec_l5Cur_state.bits13 (fun HT_ HW_ => ?_)
     generalize w49.drew = w50 at HO_356000 HO_356001 HO_356002 BK354 BK355 BK380 HI0 HK HB hx382_0 hHeld ⊢
     refine pure_ (i := 1) (N := some 50) (v := ?_) (a' := ?_) (M_ 11 2) rfl rfl (any_of HT_.out (by kernel_rfl)) (fun _ _ _ h => h) (Or.inl ⟨by rfl, ?_⟩) ?_ ?_
     rotate_left
     ·intro w'
      go_simp
      with_reducible rfl
     rotate_left
     ·simp only [P_, i64_w, i32_w]
      rfl
     refine pure_ (i := 4) (N := some 53) (v := ?_) (a' := ?_) (M_ 11 18) rfl rfl (any_of HT_.out (by kernel_rfl)) (fun _ _ _ h => h) (Or.inl ⟨by rfl, ?_⟩) ?_ ?_
     rotate_left
     ·intro w'
      go_simp
      with_reducible rfl
     rotate_left
     ·simp only [P_, i64_w, i32_w]
      rfl
     refine pure_ (i := 6) (N := some 55) (v := ?_) (a' := ?_) (M_ 11 82) rfl rfl (any_of HT_.out (by kernel_rfl)) (fun _ _ _ h => h) (Or.inl ⟨by rfl, ?_⟩) ?_ ?_
     rotate_left
     ·intro w'
      go_simp
      with_reducible rfl
     rotate_left
     ·simp only [P_, i64_w, i32_w]
      rfl
     refine take_ (i := 0) (N := some 49) (v := ?_) (a' := ?_) (M_ 11 83) rfl rfl (take_ofW HT_.out HW_.out (by kernel_rfl)) (fun _ _ _ h => h) (Or.inl ⟨by rfl, ?_⟩) hHeld ?_ ?_
     rotate_left
     ·rintro w' ⟨s0, s1, s2, s3, s4, s5, s6⟩
      go_simp
      with_reducible rfl
     rotate_left
     ·simp only [P_, i64_w, i32_w]
      rfl
     refine take_ (i := 2) (N := some 51) (v := ?_) (a' := ?_) (M_ 11 87) rfl rfl (take_ofW HT_.out HW_.out (by kernel_rfl)) (fun _ _ _ h => h) (Or.inl ⟨by rfl, ?_⟩) hHeld ?_ ?_
     rotate_left
     ·rintro w' ⟨s0, s1, s2, s3, s4, s5, s6⟩
      go_simp
      with_reducible rfl
     rotate_left
     ·simp only [P_, i64_w, i32_w]
      rfl
     refine take_ (i := 5) (N := some 54) (v := ?_) (a' := ?_) (M_ 11 119) rfl rfl (take_ofW HT_.out HW_.out (by kernel_rfl)) (fun _ _ _ h => h) (Or.inl ⟨by rfl, ?_⟩) hHeld ?_ ?_
     rotate_left
     ·rintro w' ⟨s0, s1, s2, s3, s4, s5, s6⟩
      go_simp
      with_reducible rfl
     rotate_left
     ·simp only [P_, i64_w, i32_w]
      rfl
     refine take_ (i := 7) (N := some 56) (v := ?_) (a' := ?_) (M_ 11 247) rfl rfl (take_ofW HT_.out HW_.out (by kernel_rfl)) (fun _ _ _ h => h) (Or.inl ⟨by rfl, ?_⟩) hHeld ?_ ?_
     rotate_left
     ·rintro w' ⟨s0, s1, s2, s3, s4, s5, s6⟩
      go_simp
      with_reducible rfl
     rotate_left
     ·simp only [P_, i64_w, i32_w]
      rfl
     refine pure_ (i := 8) (N := some 57) (v := ?_) (a' := ?_) (M_ 11 503) rfl rfl (any_of HT_.out (by kernel_rfl)) (fun _ _ _ h => h) (Or.inl ⟨by rfl, ?_⟩) ?_ ?_
     rotate_left
     ·intro w'
      go_simp
      with_reducible rfl
     rotate_left
     ·simp only [P_, i64_w, i32_w]
      rfl
     refine take_ (i := 9) (N := some 58) (v := ?_) (a' := ?_) (M_ 11 1015) rfl rfl (take_ofW HT_.out HW_.out (by kernel_rfl)) (fun _ _ _ h => h) (Or.inl ⟨by rfl, ?_⟩) hHeld ?_ ?_
     rotate_left
     ·rintro w' ⟨s0, s1, s2, s3, s4, s5, s6⟩
      go_simp
      with_reducible rfl
     rotate_left
     ·simp only [P_, i64_w, i32_w]
      rfl
     refine one_ (i := 3) (N := some 52) (M_ 11 1023) rfl rfl (one_of HT_.out (by kernel_rfl)) (by decide) (fun K hK => ?_)
     refine goes_ Tryd.func38 (by kernel_rfl) rfl #[.agg #[.slice (some ad382) x356000_1.length co51, .slice Ao52 x356001_2.length co52, .slice Ao53 x356002_2.length co53], .int .i64 t374] (by rfl) rfl rfl (by simp only [List.map_toArray, List.map_cons, List.map_nil]; try rfl) ?_
     with_reducible refine (spec_l1there.calls k2 _ _ x356000_1 _ _ x356001_2 _ _ x356002_2 t374 t381 _ ?side1 ?side2 ?side3 ?side4 ?side5 ?side6 A23.out).mono ?_
     (case side1 => exact (Kd.R_reads' HO_356000.out).2.2)
     (case side2 => exact (Kd.R_reads' HO_356000.out).2.1)
     (case side3 => exact (Kd.S_reads' HO_356001.out).2.2)
     (case side4 => exact (Kd.S_reads' HO_356001.out).2.1)
     (case side5 => exact (Kd.R_reads' HO_356002.out).2.2)
     (case side6 => exact (Kd.R_reads' HO_356002.out).2.1)
     rintro e w54 ⟨rfl, hb⟩
     have HS6_ := (hb.cell (World.block_lt_of_cell? _ _ (hHeld.2.2.2.2.2.2))).trans (hHeld.2.2.2.2.2.2)
     refine ⟨_, rfl, ?_⟩
     replace HO_356000 := K_ (Kd.R_below HO_356000.out hb)
     replace HO_356001 := K_ (Kd.S_below HO_356001.out hb)
     replace HO_356002 := K_ (Kd.R_below HO_356002.out hb)
     replace BK354 := K_ (blk_below BK354.out hb)
     replace BK355 := K_ (blk_below BK355.out hb)
     replace BK380 := K_ (blk_below BK380.out hb)
     replace HK := K_ (KeepBut.trans (by repeat (first | (with_reducible first | exact HK.out | apply KeepBut.set_ | apply keep_drewN | apply keep_drew | apply keep_alloc | refine keep_far ?_ GW354.out _ | refine keep_far ?_ GW355.out _ | refine keep_far ?_ GW380.out _) | exact HK.out)) (KeepBut.of_below hb g none) (.inl rfl))
     replace HB := K_ (below_step (by repeat (first | (with_reducible first | exact HB.out | refine below_set ?_ (IsS67.ge HI0.out) | refine below_set ?_ GE354.out | refine below_set ?_ GE355.out | refine below_set ?_ GE380.out) | exact HB.out)) hb)
     replace HI0 := K_ (IsS67.below (by repeat (first | (with_reducible first | exact HI0.out | apply IsS67.alloc | apply IsS67.drewN | apply IsS67.drew | apply IsS67.set_1 | apply IsS67.set_2 | refine IsS67.far ?_ NB0_354.out _ | refine IsS67.far ?_ NB0_355.out _ | refine IsS67.far ?_ NB0_380.out _) | exact HI0.out)) hb)
     clear hb
     skip
     (try clear hk)
     skip
     refine hK.out _ _ ⟨(blk_cell BK355.out 0).trans rfl, (blk_cell BK355.out 1).trans rfl, (blk_cell BK355.out 2).trans rfl, (blk_cell BK380.out 0).trans rfl, (blk_cell BK380.out 1).trans rfl, (blk_cell BK380.out 2).trans rfl, HS6_⟩ (fun hHeld => ?_)
     clear hK K
     refine norm_ (a' := ?_) ?_ ?_
     rotate_left
     ·show Act.put _ (some 52) _ = _
      simp only [P_, i64_w, i32_w]
      rfl
     refine pure_ (i := 10) (N := some 59) (v := ?_) (a' := ?_) (M_ 11 2047) rfl rfl (any_of HT_.out (by kernel_rfl)) (fun _ _ _ h => h) (Or.inl ⟨by rfl, ?_⟩) ?_ ?_
     rotate_left
     ·intro w'
      go_simp
      with_reducible rfl
     rotate_left
     ·simp only [P_, i64_w, i32_w]
      rfl
     refine done_ (done_of HT_.out (by kernel_rfl)) ?_
     try go_wp2_with (first | ((with_reducible refine gate_callee (f := 35) rfl ?_); refine goesL_ (some 61) rfl rfl Tryd.func35 (by kernel_rfl) rfl #[.pointer (some ⟨g, 0, none⟩), .int .i64 2] rfl (by simp only [List.map_toArray, List.map_cons, List.map_nil]; try rfl) ?_; (with_reducible refine (spec_l5Cur_pick.calls g s0_0 t378 t379 2 t383 t384 t385 w0 _ ?side1 ?side2 A40.out).mono ?_); (case side1 => repeat (first | (with_reducible first | exact HI0.out | apply IsS67.alloc | apply IsS67.drewN | apply IsS67.drew | apply IsS67.set_1 | apply IsS67.set_2 | refine IsS67.far ?_ NB0_354.out _ | refine IsS67.far ?_ NB0_355.out _ | refine IsS67.far ?_ NB0_380.out _) | exact HI0.out)); (case side2 => repeat (first | (with_reducible first | exact HB.out | refine below_set ?_ (IsS67.ge HI0.out) | refine below_set ?_ GE354.out | refine below_set ?_ GE355.out | refine below_set ?_ GE380.out) | exact HB.out)); rintro e w55 ⟨rfl, hi, hb, hk⟩; refine ⟨_, rfl, ?_⟩; replace HO_356000 := K_ (Kd.R_mono (Kd.R_keep (IsS67.apart (show IsS67 w0 _ g s0_0 t378 t379 from by repeat (first | (with_reducible first | exact HI0.out | apply IsS67.alloc | apply IsS67.drewN | apply IsS67.drew | apply IsS67.set_1 | apply IsS67.set_2 | refine IsS67.far ?_ NB0_354.out _ | refine IsS67.far ?_ NB0_355.out _ | refine IsS67.far ?_ NB0_380.out _) | exact HI0.out)) HO_356000.out (by decide)) hk (fun _ h => h.2)) (fun _ h => h.1)); replace HO_356001 := K_ (Kd.S_mono (Kd.S_keep (IsS67.apartS (show IsS67 w0 _ g s0_0 t378 t379 from by repeat (first | (with_reducible first | exact HI0.out | apply IsS67.alloc | apply IsS67.drewN | apply IsS67.drew | apply IsS67.set_1 | apply IsS67.set_2 | refine IsS67.far ?_ NB0_354.out _ | refine IsS67.far ?_ NB0_355.out _ | refine IsS67.far ?_ NB0_380.out _) | exact HI0.out)) HO_356001.out (by decide)) hk (fun _ h => h.2)) (fun _ h => h.1)); replace HO_356002 := K_ (Kd.R_mono (Kd.R_keep (IsS67.apart (show IsS67 w0 _ g s0_0 t378 t379 from by repeat (first | (with_reducible first | exact HI0.out | apply IsS67.alloc | apply IsS67.drewN | apply IsS67.drew | apply IsS67.set_1 | apply IsS67.set_2 | refine IsS67.far ?_ NB0_354.out _ | refine IsS67.far ?_ NB0_355.out _ | refine IsS67.far ?_ NB0_380.out _) | exact HI0.out)) HO_356002.out (by decide)) hk (fun _ h => h.2)) (fun _ h => h.1)); replace BK354 := K_ (KeepBut.blk hk (g' := gb354) (o := .cells #[.slice none 0 0, .slice none 0 0, .slice none 0 0] 30 (0, 0)) BK354.out NB354_0.out (by simp)); replace BK355 := K_ (KeepBut.blk hk (g' := gb355) (o := .cells #[.slice (some ad382) x356000_1.length co51, .slice Ao52 x356001_2.length co52, .slice Ao53 x356002_2.length co53] 30 (0, 0)) BK355.out NB355_0.out (by simp)); replace BK380 := K_ (KeepBut.blk hk (g' := gb380) (o := .cells #[.int .i64 t374, .slice none 0 0, .int .i64 (wrap64 (1 + t377))] 48 (0, 0)) BK380.out NB380_0.out (by simp)); replace HK := K_ (KeepBut.trans (by repeat (first | (with_reducible first | exact HK.out | apply KeepBut.set_ | apply keep_drewN | apply keep_drew | apply keep_alloc | refine keep_far ?_ GW354.out _ | refine keep_far ?_ GW355.out _ | refine keep_far ?_ GW380.out _) | exact HK.out)) hk (.inl rfl)); replace HB := K_ (hb); replace HI0 := K_ (hi); clear hb hk hi; obtain ⟨hcz56_0, hcz56_1, hcz56_2, hfz56_0, hfz56_1, hfz56_2⟩ := blkf3_ BK380.out) | ((with_reducible refine gate_callee (f := 35) rfl ?_); refine goesL_ (some 69) rfl rfl Tryd.func35 (by kernel_rfl) rfl #[.pointer (some ⟨g, 0, none⟩), .int .i64 6] rfl (by simp only [List.map_toArray, List.map_cons, List.map_nil]; try rfl) ?_; (with_reducible refine (spec_l5Cur_pick.calls g s0_0 t384 t385 6 t386 t387 t388 w0 _ ?side1 ?side2 A41.out).mono ?_); (case side1 => repeat (first | (with_reducible first | exact HI0.out | apply IsS67.alloc | apply IsS67.drewN | apply IsS67.drew | apply IsS67.set_1 | apply IsS67.set_2 | refine IsS67.far ?_ NB0_354.out _ | refine IsS67.far ?_ NB0_355.out _ | refine IsS67.far ?_ NB0_380.out _) | exact HI0.out)); (case side2 => repeat (first | (with_reducible first | exact HB.out | refine below_set ?_ (IsS67.ge HI0.out) | refine below_set ?_ GE354.out | refine below_set ?_ GE355.out | refine below_set ?_ GE380.out) | exact HB.out)); rintro e w57 ⟨rfl, hi, hb, hk⟩; refine ⟨_, rfl, ?_⟩; replace HO_356000 := K_ (Kd.R_mono (Kd.R_keep (IsS67.apart (show IsS67 w0 _ g s0_0 t384 t385 from by repeat (first | (with_reducible first | exact HI0.out | apply IsS67.alloc | apply IsS67.drewN | apply IsS67.drew | apply IsS67.set_1 | apply IsS67.set_2 | refine IsS67.far ?_ NB0_354.out _ | refine IsS67.far ?_ NB0_355.out _ | refine IsS67.far ?_ NB0_380.out _) | exact HI0.out)) HO_356000.out (by decide)) hk (fun _ h => h.2)) (fun _ h => h.1)); replace HO_356001 := K_ (Kd.S_mono (Kd.S_keep (IsS67.apartS (show IsS67 w0 _ g s0_0 t384 t385 from by repeat (first | (with_reducible first | exact HI0.out | apply IsS67.alloc | apply IsS67.drewN | apply IsS67.drew | apply IsS67.set_1 | apply IsS67.set_2 | refine IsS67.far ?_ NB0_354.out _ | refine IsS67.far ?_ NB0_355.out _ | refine IsS67.far ?_ NB0_380.out _) | exact HI0.out)) HO_356001.out (by decide)) hk (fun _ h => h.2)) (fun _ h => h.1)); replace HO_356002 := K_ (Kd.R_mono (Kd.R_keep (IsS67.apart (show IsS67 w0 _ g s0_0 t384 t385 from by repeat (first | (with_reducible first | exact HI0.out | apply IsS67.alloc | apply IsS67.drewN | apply IsS67.drew | apply IsS67.set_1 | apply IsS67.set_2 | refine IsS67.far ?_ NB0_354.out _ | refine IsS67.far ?_ NB0_355.out _ | refine IsS67.far ?_ NB0_380.out _) | exact HI0.out)) HO_356002.out (by decide)) hk (fun _ h => h.2)) (fun _ h => h.1)); replace BK354 := K_ (KeepBut.blk hk (g' := gb354) (o := .cells #[.slice none 0 0, .slice none 0 0, .slice none 0 0] 30 (0, 0)) BK354.out NB354_0.out (by simp)); replace BK355 := K_ (KeepBut.blk hk (g' := gb355) (o := .cells #[.slice (some ad382) x356000_1.length co51, .slice Ao52 x356001_2.length co52, .slice Ao53 x356002_2.length co53] 30 (0, 0)) BK355.out NB355_0.out (by simp)); replace BK380 := K_ (KeepBut.blk hk (g' := gb380) (o := .cells #[.int .i64 t374, .slice none 0 0, .int .i64 (wrap64 (1 + t377))] 48 (0, 0)) BK380.out NB380_0.out (by simp)); replace HK := K_ (KeepBut.trans (by repeat (first | (with_reducible first | exact HK.out | apply KeepBut.set_ | apply keep_drewN | apply keep_drew | apply keep_alloc | refine keep_far ?_ GW354.out _ | refine keep_far ?_ GW355.out _ | refine keep_far ?_ GW380.out _) | exact HK.out)) hk (.inl rfl)); replace HB := K_ (hb); replace HI0 := K_ (hi); clear hb hk hi))
     go_loopg [11, 12] k2 (fun kq v11 v12 w' => ∃ (x11_3 : Int) (x12_3 : Int) (x1001_3 : Int) (x1002_3 : Int) (x381001_3 : List Int) (u381001 : Value), v11 = .int .i64 x11_3 ∧ v12 = .int .i64 x12_3 ∧ Aside0 (spec_l5Cur_state.l2 kq (wrap64 (3 + t356)) x6_2 t368 x8_2 (wrap64 (1 + (wrap64 (t383 * (wrap64 ((wrap64 (3 + t356)) - 2)))))) x11_3 x12_3 s0_0 x1001_3 x1002_3 x356000_1 x356001_2 x356002_2 t374 x381001_3 (wrap64 (1 + t377)) = some (r1, r2, r3, r4, r5)) ∧ Aside0 (kq ≤ k2) ∧ Aside0 (Kd.R (Kd.int .i64) 3 w' w.heap.size (fun k_ => some k_ ≠ ((.slice Ao53 x356002_2.length co53) : Value).ownBlock ∧ X_ k_ u381001) (.slice (some ad382) x356000_1.length co51) x356000_1) ∧ Aside0 (Kd.S k48 48 w' w.heap.size (fun k_ => some k_ ≠ ((.slice (some ad382) x356000_1.length co51) : Value).ownBlock ∧ some k_ ≠ ((.slice Ao53 x356002_2.length co53) : Value).ownBlock ∧ X_ k_ u381001 ∧ k_ ≠ gb380) (.slice Ao52 x356001_2.length co52) x356001_2) ∧ Aside0 (Kd.R (Kd.int .i64) 3 w' w.heap.size (fun k_ => some k_ ≠ ((.slice (some ad382) x356000_1.length co51) : Value).ownBlock ∧ X_ k_ u381001) (.slice Ao53 x356002_2.length co53) x356002_2) ∧ Aside0 (Kd.R (Kd.int .i64) 3 w' w.heap.size (fun k_ => some k_ ≠ ((.slice (some ad382) x356000_1.length co51) : Value).ownBlock ∧ some k_ ≠ ((.slice Ao53 x356002_2.length co53) : Value).ownBlock) u381001 x381001_3) ∧ Aside0 (w'.heap[gb354]? = some (.cells #[(.slice none 0 0), (.slice none 0 0), (.slice none 0 0)] 30 (0, 0))) ∧ Aside0 (w'.heap[gb355]? = some (.cells #[(.slice (some ad382) x356000_1.length co51), (.slice Ao52 x356001_2.length co52), (.slice Ao53 x356002_2.length co53)] 30 (0, 0))) ∧ Aside0 (w'.heap[gb380]? = some (.cells #[.int .i64 t374, u381001, .int .i64 (wrap64 (1 + t377))] 48 (0, 0))) ∧ Aside0 (IsS67 w0 w' g s0_0 x1001_3 x1002_3) ∧ Aside0 (KeepBut w w' g none) ∧ Aside0 (Below w0.heap.size w0 w'))
     case atStart => exact ⟨(t374), (t386), (t387), (t388), (([] : List Int)), (.slice none 0 0), rfl, rfl, H', ⟨Nat.le_refl _⟩, ⟨by exact Kd.R_mono HO_356000.out (fun _ hk => ⟨hk, (by simp [Value.ownBlock])⟩)⟩, ⟨by exact Kd.S_mono HO_356001.out (fun _ hk => ⟨hk.1, ⟨hk.2.1, ⟨(by simp [Value.ownBlock]), hk.2.2⟩⟩⟩)⟩, ⟨by exact Kd.R_mono HO_356002.out (fun _ hk => ⟨hk, (by simp [Value.ownBlock])⟩)⟩, ⟨Kd.R_nil _ _ _ _ _⟩, ⟨BK354.out⟩, ⟨BK355.out⟩, ⟨BK380.out⟩, ⟨by repeat (first | (with_reducible first | exact HI0.out | apply IsS67.alloc | apply IsS67.drewN | apply IsS67.drew | apply IsS67.set_1 | apply IsS67.set_2 | refine IsS67.far ?_ NB0_354.out _ | refine IsS67.far ?_ NB0_355.out _ | refine IsS67.far ?_ NB0_380.out _) | exact HI0.out)⟩, ⟨by repeat (first | (with_reducible first | exact HK.out | apply KeepBut.set_ | apply keep_drewN | apply keep_drew | apply keep_alloc | refine keep_far ?_ GW354.out _ | refine keep_far ?_ GW355.out _ | refine keep_far ?_ GW380.out _) | exact HK.out)⟩, ⟨by repeat (first | (with_reducible first | exact HB.out | refine below_set ?_ (IsS67.ge HI0.out) | refine below_set ?_ GE354.out | refine below_set ?_ GE355.out | refine below_set ?_ GE380.out) | exact HB.out)⟩⟩
     case round =>
      clear H'
      clear hcz56_0 hcz56_1 hcz56_2 hfz56_0 hfz56_1 hfz56_2
      obtain ⟨x11_3, x12_3, x1001_3, x1002_3, x381001_3, u381001, rfl, rfl, HA, HK3, HO_356000, HO_356001, HO_356002, HO_381001, BK354, BK355, BK380, HI0, HK, HB⟩ := hrel
      cases gk with
      | zero => exact absurd HA.out (by simp [spec_l5Cur_state.l2])
      | succ k3 =>
       have H := HA.out
       clear HA
       simp only [spec_l5Cur_state.l2] at H
       by_cases c58 : x12_3 > 0
       case neg =>
        rw [if_neg c58] at H
        have c58b0 := decide_eq_false c58
        clear c58
        replace H := pn_ H
        obtain ⟨c79, H⟩ := H
        have LMc79 := K_ c79
        clear c79
        obtain ⟨y398, hy398⟩ : ∃ y_ : List (S48), y_ = (x356001_2 ++ [(⟨t374, x381001_3, (wrap64 (1 + t377))⟩ : S48)]) := ⟨_, rfl⟩
        rw [← hy398] at H
        have Ny398 := K_ hy398
        clear hy398
        replace H := pn_ H
        obtain ⟨c80, H⟩ := H
        have LMc80 := K_ c80
        clear c80
        obtain ⟨y401, hy401⟩ : ∃ y_ : List Int, y_ = (x356002_2 ++ [x6_2]) := ⟨_, rfl⟩
        rw [← hy401] at H
        have Ny401 := K_ hy401
        clear hy401
        replace H := Option.bind_eq_some_iff.mp H
        obtain ⟨⟨t404, t405, t406⟩, A810, H⟩ := H
        try dsimp only at H
        have A81 := K_ A810
        clear A810
        have H' := K_ H
        clear H
        have hnb82 := NB355_354.out
        have hnc82 := NB354_355.out
        have hnb83 := NB355_380.out
        have hnc83 := NB380_355.out
        have hnb84 := NB355_0.out
        have hnc84 := NB0_355.out
        obtain ⟨hcz85_0, hcz85_1, hcz85_2, hfz85_0, hfz85_1, hfz85_2⟩ := blkf3_ BK355.out
        have hnb86 := NB380_354.out
        have hnc86 := NB354_380.out
        have hnb87 := NB380_0.out
        have hnc87 := NB0_380.out
        obtain ⟨hcz88_0, hcz88_1, hcz88_2, hfz88_0, hfz88_1, hfz88_2⟩ := blkf3_ BK380.out
        obtain ⟨Ao90, co90, eo90⟩ := Kd.R_slice HO_381001.out
        subst eo90
        go_wp2_with (first | ((with_reducible refine gate_builtin (b := .append) (xs := #[.tmp 98, .tmp 100]) rfl ?_); at_builtin; refine Kd.S_append k48 w.heap.size rfl (.tmp 98) (.tmp 100) 28 48 (.agg #[(.int .i64 0), (.slice none 0 0), (.int .i64 0)]) 40 rfl Tryd.underlying28 info48 rfl (by decide) (by omega) (.slice Ao52 x356001_2.length co52) x356001_2 (⟨t374, x381001_3, (wrap64 (1 + t377))⟩ : S48) [.int .i64 t374, .slice Ao90 x381001_3.length co90, .int .i64 (wrap64 (1 + t377))] (fun k_ => X_ k_ (.slice (some ad382) x356000_1.length co51) ∧ X_ k_ (.slice Ao53 x356002_2.length co53) ∧ k_ ≠ gb380) (fun k_ => some k_ = (.slice Ao90 x381001_3.length co90 : Value).ownBlock) rfl rfl ?aP (fun k_ hk_ => ((Kd.R_mono (ok' := fun k_ => ((fun k_ => X_ k_ (.slice (some ad382) x356000_1.length co51) ∧ X_ k_ (.slice Ao53 x356002_2.length co53) ∧ k_ ≠ gb380)) k_ ∧ X_ k_ (.slice Ao52 x356001_2.length co52)) (Kd.R_types (Kd.R_apart' (HO_381001.out) (Kd.S_typed HO_356001.out) (by decide)) BK380.out (by decide)) (fun k_ hk => ⟨⟨hk.1.1.1, ⟨hk.1.1.2, hk.2⟩⟩, hk.1.2⟩))).1 k_ hk_.symm) ?aF ?aO (Below.refl _ _) ?aS ?aL ?_; (case aP => exact k48_mkM _ _ _ (⟨t374, x381001_3, (wrap64 (1 + t377))⟩ : S48) (Kd.R_mono (Kd.R_tight rfl (Kd.R_mono (ok' := fun k_ => ((fun k_ => X_ k_ (.slice (some ad382) x356000_1.length co51) ∧ X_ k_ (.slice Ao53 x356002_2.length co53) ∧ k_ ≠ gb380)) k_ ∧ X_ k_ (.slice Ao52 x356001_2.length co52)) (Kd.R_types (Kd.R_apart' (HO_381001.out) (Kd.S_typed HO_356001.out) (by decide)) BK380.out (by decide)) (fun k_ hk => ⟨⟨hk.1.1.1, ⟨hk.1.1.2, hk.2⟩⟩, hk.1.2⟩))) (fun _ h_ => h_))); (case aF => exact (fun k_ hk => ⟨Kd.fresh' (Kd.R_lt HO_356000.out) k_ hk, Kd.fresh' (Kd.R_lt HO_356002.out) k_ hk, Kd.freshB BK380.out k_ hk⟩)); (case aO => exact (by exact Kd.S_mono HO_356001.out (fun k_ hk => ⟨⟨hk.1, ⟨hk.2.1, hk.2.2.2⟩⟩, fun e_ => hk.2.2.1 e_⟩))); (case aS => exact (keep_size (w := w) (g := g) (row := none) (by repeat (first | (with_reducible first | exact HK.out | apply KeepBut.set_ | apply keep_drewN | apply keep_drew | apply keep_alloc | refine keep_far ?_ GW354.out _ | refine keep_far ?_ GW355.out _ | refine keep_far ?_ GW380.out _) | exact HK.out)))); (case aL => have := LMc79.out; omega); intro v399 w89 ho hb hg hat; rw [← Ny398.out] at ho; have HO400 := K_ (ho); replace HO_356000 := K_ (Kd.R_over' HO_356000.out (Kd.S_typed HO_356001.out) (by decide) hg); replace HO_356002 := K_ (Kd.R_over' HO_356002.out (Kd.S_typed HO_356001.out) (by decide) hg); replace BK354 := K_ (blk_grown BK354.out hg (Kd.S_ne HO_356001.out BK354.out (by decide))); replace BK355 := K_ (blk_grown BK355.out hg (Kd.S_ne HO_356001.out BK355.out (by decide))); replace BK380 := K_ (blk_grown BK380.out hg (Kd.S_away HO_356001.out (fun _ hk => hk.2.2.2))); replace HB := K_ (below_weaken (by repeat (first | (with_reducible first | exact HB.out | refine below_set ?_ (IsS67.ge HI0.out) | refine below_set ?_ GE354.out | refine below_set ?_ GE355.out | refine below_set ?_ GE380.out) | exact HB.out)) HL.out hb); replace HI0 := K_ (IsS67.grown (by first | (with_reducible exact HI0.out) | (with_reducible exact IsS67.far HI0.out NB0_354.out _) | (with_reducible exact IsS67.far HI0.out NB0_355.out _) | (with_reducible exact IsS67.far HI0.out NB0_380.out _) | exact IsS67.far HI0.out NB0_354.out _ | exact IsS67.far HI0.out NB0_355.out _ | exact IsS67.far HI0.out NB0_380.out _) hg (IsS67.own_neS HI0.out HO_356001.out (by decide))); replace HK := K_ (KeepBut.trans (by repeat (first | (with_reducible first | exact HK.out | apply KeepBut.set_ | apply keep_drewN | apply keep_drew | apply keep_alloc | refine keep_far ?_ GW354.out _ | refine keep_far ?_ GW355.out _ | refine keep_far ?_ GW380.out _) | exact HK.out)) (KeepBut.of_grown hg g) (Kd.S_base2 HO_356001.out)); clear HO_356001 HO_381001; clear ho hb hg hat; obtain ⟨Ao91, co91, eo91⟩ := Kd.S_slice HO400.out; subst eo91; obtain ⟨hcz92_0, hcz92_1, hcz92_2, hfz92_0, hfz92_1, hfz92_2⟩ := blkf3_ BK355.out) | ((with_reducible refine gate_builtin (b := .append) (xs := #[.tmp 104, .tmp 106]) rfl ?_); at_builtin; refine Kd.R_append (Kd.int .i64) w.heap.size rfl (.tmp 104) (.tmp 106) 22 3 (.int .i64 0) 8 rfl Tryd.underlying22 info3 rfl (by decide) (by omega) (.slice Ao53 x356002_2.length co53) x356002_2 x6_2 [.int .i64 x6_2] (fun k_ => X_ k_ (.slice (some ad382) x356000_1.length co51)) (fun _ => False) rfl (by first | (go_simp; done) | (go_simp; rfl)) ?aP (fun _ hk => hk.elim) ?aF ?aO (Below.refl _ _) ?aS ?aL ?_; (case aP => exact rfl); (case aF => exact (fun k_ hk => Kd.fresh' (Kd.R_lt (by exact (Kd.R_mono (Kd.R_far (p := ⟨gb355, 1, none⟩) (Kd.R_types HO_356000.out BK355.out (by decide)) (fun _ hk => hk.2) (.slice Ao91 y398.length co91)) (fun _ h_ => h_.1)))) k_ hk)); (case aO => exact (by exact Kd.R_mono (Kd.R_far (p := ⟨gb355, 1, none⟩) (Kd.R_types HO_356002.out BK355.out (by decide)) (fun _ hk => hk.2) (.slice Ao91 y398.length co91)) (fun _ hk => hk.1.1))); (case aS => exact (keep_size (w := w) (g := g) (row := none) (by repeat (first | (with_reducible first | exact HK.out | apply KeepBut.set_ | apply keep_drewN | apply keep_drew | apply keep_alloc | refine keep_far ?_ GW354.out _ | refine keep_far ?_ GW355.out _ | refine keep_far ?_ GW380.out _) | exact HK.out)))); (case aL => have := LMc80.out; omega); intro v402 w93 ho hb hg hat; rw [← Ny401.out] at ho; have HO403 := K_ (ho); replace HO_356000 := K_ (Kd.R_after (ok := (fun _ => True)) (by exact Kd.R_mono (Kd.R_far (p := ⟨gb355, 1, none⟩) (Kd.R_types HO_356000.out BK355.out (by decide)) (fun _ hk => hk.2) (.slice Ao91 y398.length co91)) (fun _ hk => ⟨trivial, hk.1.1⟩)) hg hat); replace BK354 := K_ (blk_grown (g := gb354) (o := .cells #[.slice none 0 0, .slice none 0 0, .slice none 0 0] 30 (0, 0)) (by refine blk_far ?_ NB354_355.out _; exact BK354.out) hg (Kd.R_ne HO_356002.out BK354.out (by decide))); replace BK380 := K_ (blk_grown (g := gb380) (o := .cells #[.int .i64 t374, .slice Ao90 x381001_3.length co90, .int .i64 (wrap64 (1 + t377))] 48 (0, 0)) (by refine blk_far ?_ NB380_355.out _; exact BK380.out) hg (Kd.R_ne HO_356002.out BK380.out (by decide))); replace HO400 := K_ (Kd.S_after (ok := (fun k_ => X_ k_ (.slice (some ad382) x356000_1.length co51) ∧ k_ ≠ gb380)) (by exact Kd.S_mono (Kd.S_far (p := ⟨gb355, 1, none⟩) (Kd.S_types HO400.out BK355.out (by decide)) (fun _ hk => hk.2) (.slice Ao91 y398.length co91)) (fun _ hk => ⟨⟨hk.1.1, hk.1.2.2⟩, hk.1.2.1⟩)) hg hat); replace BK355 := K_ (blk_grown (g := gb355) (o := .cells #[.slice (some ad382) x356000_1.length co51, .slice Ao91 y398.length co91, .slice Ao53 x356002_2.length co53] 30 (0, 0)) (by refine blk_put (cs := #[.slice (some ad382) x356000_1.length co51, .slice Ao52 x356001_2.length co52, .slice Ao53 x356002_2.length co53]) ?_ 1 _ rfl; exact BK355.out) hg (Kd.R_ne HO_356002.out BK355.out (by decide))); replace HB := K_ (below_weaken (by repeat (first | (with_reducible first | exact HB.out | refine below_set ?_ (IsS67.ge HI0.out) | refine below_set ?_ GE354.out | refine below_set ?_ GE355.out | refine below_set ?_ GE380.out) | exact HB.out)) HL.out hb); replace HI0 := K_ (IsS67.grown (by first | (with_reducible exact HI0.out) | (with_reducible exact IsS67.far HI0.out NB0_354.out _) | (with_reducible exact IsS67.far HI0.out NB0_355.out _) | (with_reducible exact IsS67.far HI0.out NB0_380.out _) | exact IsS67.far HI0.out NB0_354.out _ | exact IsS67.far HI0.out NB0_355.out _ | exact IsS67.far HI0.out NB0_380.out _) hg (IsS67.own_ne HI0.out HO_356002.out (by decide))); replace HK := K_ (KeepBut.trans (by repeat (first | (with_reducible first | exact HK.out | apply KeepBut.set_ | apply keep_drewN | apply keep_drew | apply keep_alloc | refine keep_far ?_ GW354.out _ | refine keep_far ?_ GW355.out _ | refine keep_far ?_ GW380.out _) | exact HK.out)) (KeepBut.of_grown hg g) (Kd.R_base2 HO_356002.out)); clear HO_356002; clear ho hb hg hat; obtain ⟨Ao94, co94, eo94⟩ := Kd.R_slice HO403.out; subst eo94; obtain ⟨hcz95_0, hcz95_1, hcz95_2, hfz95_0, hfz95_1, hfz95_2⟩ := blkf3_ BK355.out) | ((with_reducible refine gate_callee (f := 35) rfl ?_); refine goesL_ (some 111) rfl rfl Tryd.func35 (by kernel_rfl) rfl #[.pointer (some ⟨g, 0, none⟩), .int .i64 3] rfl (by simp only [List.map_toArray, List.map_cons, List.map_nil]; try rfl) ?_; (with_reducible refine (spec_l5Cur_pick.calls g s0_0 x1001_3 x1002_3 3 t404 t405 t406 w0 _ ?side1 ?side2 A81.out).mono ?_); (case side1 => repeat (first | (with_reducible first | exact HI0.out | apply IsS67.alloc | apply IsS67.drewN | apply IsS67.drew | apply IsS67.set_1 | apply IsS67.set_2 | refine IsS67.far ?_ NB0_354.out _ | refine IsS67.far ?_ NB0_355.out _ | refine IsS67.far ?_ NB0_380.out _) | exact HI0.out)); (case side2 => repeat (first | (with_reducible first | exact HB.out | refine below_set ?_ (IsS67.ge HI0.out) | refine below_set ?_ GE354.out | refine below_set ?_ GE355.out | refine below_set ?_ GE380.out) | exact HB.out)); rintro e w96 ⟨rfl, hi, hb, hk⟩; refine ⟨_, rfl, ?_⟩; replace HO_356000 := K_ (Kd.R_mono (Kd.R_keep (IsS67.apart (show IsS67 w0 _ g s0_0 x1001_3 x1002_3 from by repeat (first | (with_reducible first | exact HI0.out | apply IsS67.alloc | apply IsS67.drewN | apply IsS67.drew | apply IsS67.set_1 | apply IsS67.set_2 | refine IsS67.far ?_ NB0_354.out _ | refine IsS67.far ?_ NB0_355.out _ | refine IsS67.far ?_ NB0_380.out _) | exact HI0.out)) (by exact (Kd.R_mono (Kd.R_far (p := ⟨gb355, 2, none⟩) (Kd.R_types HO_356000.out BK355.out (by decide)) (fun _ hk => hk.2) (.slice Ao94 y401.length co94)) (fun _ h_ => h_.1))) (by decide)) hk (fun _ h => h.2)) (fun _ h => h.1)); replace BK354 := K_ (KeepBut.blk hk (g' := gb354) (o := .cells #[.slice none 0 0, .slice none 0 0, .slice none 0 0] 30 (0, 0)) (by refine blk_far ?_ NB354_355.out _; exact BK354.out) NB354_0.out (by simp)); replace BK380 := K_ (KeepBut.blk hk (g' := gb380) (o := .cells #[.int .i64 t374, .slice Ao90 x381001_3.length co90, .int .i64 (wrap64 (1 + t377))] 48 (0, 0)) (by refine blk_far ?_ NB380_355.out _; exact BK380.out) NB380_0.out (by simp)); replace HO400 := K_ (Kd.S_mono (Kd.S_keep (IsS67.apartS (show IsS67 w0 _ g s0_0 x1001_3 x1002_3 from by repeat (first | (with_reducible first | exact HI0.out | apply IsS67.alloc | apply IsS67.drewN | apply IsS67.drew | apply IsS67.set_1 | apply IsS67.set_2 | refine IsS67.far ?_ NB0_354.out _ | refine IsS67.far ?_ NB0_355.out _ | refine IsS67.far ?_ NB0_380.out _) | exact HI0.out)) (by exact (Kd.S_mono (Kd.S_far (p := ⟨gb355, 2, none⟩) (Kd.S_types HO400.out BK355.out (by decide)) (fun _ hk => hk.2) (.slice Ao94 y401.length co94)) (fun _ h_ => h_.1))) (by decide)) hk (fun _ h => h.2)) (fun _ h => h.1)); replace HO403 := K_ (Kd.R_mono (Kd.R_keep (IsS67.apart (show IsS67 w0 _ g s0_0 x1001_3 x1002_3 from by repeat (first | (with_reducible first | exact HI0.out | apply IsS67.alloc | apply IsS67.drewN | apply IsS67.drew | apply IsS67.set_1 | apply IsS67.set_2 | refine IsS67.far ?_ NB0_354.out _ | refine IsS67.far ?_ NB0_355.out _ | refine IsS67.far ?_ NB0_380.out _) | exact HI0.out)) (by exact (Kd.R_mono (Kd.R_far (p := ⟨gb355, 2, none⟩) (Kd.R_types HO403.out BK355.out (by decide)) (fun _ hk => hk.2) (.slice Ao94 y401.length co94)) (fun _ h_ => h_.1))) (by decide)) hk (fun _ h => h.2)) (fun _ h => h.1)); replace BK355 := K_ (KeepBut.blk hk (g' := gb355) (o := .cells #[.slice (some ad382) x356000_1.length co51, .slice Ao91 y398.length co91, .slice Ao94 y401.length co94] 30 (0, 0)) (by refine blk_put (cs := #[.slice (some ad382) x356000_1.length co51, .slice Ao91 y398.length co91, .slice Ao53 x356002_2.length co53]) ?_ 2 _ rfl; exact BK355.out) NB355_0.out (by simp)); replace HK := K_ (KeepBut.trans (by repeat (first | (with_reducible first | exact HK.out | apply KeepBut.set_ | apply keep_drewN | apply keep_drew | apply keep_alloc | refine keep_far ?_ GW354.out _ | refine keep_far ?_ GW355.out _ | refine keep_far ?_ GW380.out _) | exact HK.out)) hk (.inl rfl)); replace HB := K_ (hb); replace HI0 := K_ (hi); clear hb hk hi))
        go_roundg k3
        case measure => have := HK1.out; have := HK2.out; have := HK3.out; omega
        case rel => exact ⟨(wrap64 (x6_2 + (wrap64 (1 + t404)))), (wrap64 (x8_2 - 1)), (t405), (t406), (y398), (y401), (.slice Ao91 y398.length co91), (.slice Ao94 y401.length co94), rfl, rfl, H', ⟨by have := HK1.out; have := HK2.out; have := HK3.out; omega⟩, ⟨by exact Kd.R_mono HO_356000.out (fun _ hk => hk.2)⟩, ⟨by exact Kd.S_mono HO400.out (fun _ hk => ⟨hk.1.1, hk.2⟩)⟩, ⟨HO403.out⟩, ⟨BK354.out⟩, ⟨BK355.out⟩, ⟨by repeat (first | (with_reducible first | exact HI0.out | apply IsS67.alloc | apply IsS67.drewN | apply IsS67.drew | apply IsS67.set_1 | apply IsS67.set_2 | refine IsS67.far ?_ NB0_354.out _ | refine IsS67.far ?_ NB0_355.out _ | refine IsS67.far ?_ NB0_380.out _) | exact HI0.out)⟩, ⟨by repeat (first | (with_reducible first | exact HK.out | apply KeepBut.set_ | apply keep_drewN | apply keep_drew | apply keep_alloc | refine keep_far ?_ GW354.out _ | refine keep_far ?_ GW355.out _ | refine keep_far ?_ GW380.out _) | exact HK.out)⟩, ⟨by repeat (first | (with_reducible first | exact HB.out | refine below_set ?_ (IsS67.ge HI0.out) | refine below_set ?_ GE354.out | refine below_set ?_ GE355.out | refine below_set ?_ GE380.out) | exact HB.out)⟩⟩
       rw [if_pos c58] at H
       have c58b0 := decide_eq_true c58
       clear c58
       replace H := nn_ H
       obtain ⟨c59, H⟩ := H
       have c59b0 := beq_eq_false_iff_ne.mpr c59
       have c59b1 := bne_iff_ne.mpr c59
       by_cases c60 : t368 = 0
       case pos =>
        rw [if_pos c60] at H
        have c60b0 := beq_iff_eq.mpr c60
        have c60b1 := bne_eq_false_iff_eq.mpr c60
        clear c60
        replace H := Option.bind_eq_some_iff.mp H
        obtain ⟨⟨t389, t390, t391⟩, A610, H⟩ := H
        try dsimp only at H
        have A61 := K_ A610
        clear A610
        replace H := pn_ H
        obtain ⟨c62, H⟩ := H
        have LMc62 := K_ c62
        clear c62
        obtain ⟨y392, hy392⟩ : ∃ y_ : List Int, y_ = (x381001_3 ++ [Int.tmod (wrap64 ((wrap64 (x11_3 + 1)) + t389)) (wrap64 (3 + t356))]) := ⟨_, rfl⟩
        rw [← hy392] at H
        have Ny392 := K_ hy392
        clear hy392
        have H' := K_ H
        clear H
        go_wp2_with (first | ((with_reducible refine gate_callee (f := 35) rfl ?_); refine goesL_ (some 86) rfl rfl Tryd.func35 (by kernel_rfl) rfl #[.pointer (some ⟨g, 0, none⟩), .int .i64 (wrap64 ((wrap64 (3 + t356)) - 1))] rfl (by simp only [List.map_toArray, List.map_cons, List.map_nil]; try rfl) ?_; (with_reducible refine (spec_l5Cur_pick.calls g s0_0 x1001_3 x1002_3 (wrap64 ((wrap64 (3 + t356)) - 1)) t389 t390 t391 w0 _ ?side1 ?side2 A61.out).mono ?_); (case side1 => repeat (first | (with_reducible first | exact HI0.out | apply IsS67.alloc | apply IsS67.drewN | apply IsS67.drew | apply IsS67.set_1 | apply IsS67.set_2 | refine IsS67.far ?_ NB0_354.out _ | refine IsS67.far ?_ NB0_355.out _ | refine IsS67.far ?_ NB0_380.out _) | exact HI0.out)); (case side2 => repeat (first | (with_reducible first | exact HB.out | refine below_set ?_ (IsS67.ge HI0.out) | refine below_set ?_ GE354.out | refine below_set ?_ GE355.out | refine below_set ?_ GE380.out) | exact HB.out)); rintro e w63 ⟨rfl, hi, hb, hk⟩; refine ⟨_, rfl, ?_⟩; replace HO_356000 := K_ (Kd.R_mono (Kd.R_keep (IsS67.apart (show IsS67 w0 _ g s0_0 x1001_3 x1002_3 from by repeat (first | (with_reducible first | exact HI0.out | apply IsS67.alloc | apply IsS67.drewN | apply IsS67.drew | apply IsS67.set_1 | apply IsS67.set_2 | refine IsS67.far ?_ NB0_354.out _ | refine IsS67.far ?_ NB0_355.out _ | refine IsS67.far ?_ NB0_380.out _) | exact HI0.out)) HO_356000.out (by decide)) hk (fun _ h => h.2)) (fun _ h => h.1)); replace HO_356001 := K_ (Kd.S_mono (Kd.S_keep (IsS67.apartS (show IsS67 w0 _ g s0_0 x1001_3 x1002_3 from by repeat (first | (with_reducible first | exact HI0.out | apply IsS67.alloc | apply IsS67.drewN | apply IsS67.drew | apply IsS67.set_1 | apply IsS67.set_2 | refine IsS67.far ?_ NB0_354.out _ | refine IsS67.far ?_ NB0_355.out _ | refine IsS67.far ?_ NB0_380.out _) | exact HI0.out)) HO_356001.out (by decide)) hk (fun _ h => h.2)) (fun _ h => h.1)); replace HO_356002 := K_ (Kd.R_mono (Kd.R_keep (IsS67.apart (show IsS67 w0 _ g s0_0 x1001_3 x1002_3 from by repeat (first | (with_reducible first | exact HI0.out | apply IsS67.alloc | apply IsS67.drewN | apply IsS67.drew | apply IsS67.set_1 | apply IsS67.set_2 | refine IsS67.far ?_ NB0_354.out _ | refine IsS67.far ?_ NB0_355.out _ | refine IsS67.far ?_ NB0_380.out _) | exact HI0.out)) HO_356002.out (by decide)) hk (fun _ h => h.2)) (fun _ h => h.1)); replace HO_381001 := K_ (Kd.R_mono (Kd.R_keep (IsS67.apart (show IsS67 w0 _ g s0_0 x1001_3 x1002_3 from by repeat (first | (with_reducible first | exact HI0.out | apply IsS67.alloc | apply IsS67.drewN | apply IsS67.drew | apply IsS67.set_1 | apply IsS67.set_2 | refine IsS67.far ?_ NB0_354.out _ | refine IsS67.far ?_ NB0_355.out _ | refine IsS67.far ?_ NB0_380.out _) | exact HI0.out)) HO_381001.out (by decide)) hk (fun _ h => h.2)) (fun _ h => h.1)); replace BK354 := K_ (KeepBut.blk hk (g' := gb354) (o := .cells #[.slice none 0 0, .slice none 0 0, .slice none 0 0] 30 (0, 0)) BK354.out NB354_0.out (by simp)); replace BK355 := K_ (KeepBut.blk hk (g' := gb355) (o := .cells #[.slice (some ad382) x356000_1.length co51, .slice Ao52 x356001_2.length co52, .slice Ao53 x356002_2.length co53] 30 (0, 0)) BK355.out NB355_0.out (by simp)); replace BK380 := K_ (KeepBut.blk hk (g' := gb380) (o := .cells #[.int .i64 t374, u381001, .int .i64 (wrap64 (1 + t377))] 48 (0, 0)) BK380.out NB380_0.out (by simp)); replace HK := K_ (KeepBut.trans (by repeat (first | (with_reducible first | exact HK.out | apply KeepBut.set_ | apply keep_drewN | apply keep_drew | apply keep_alloc | refine keep_far ?_ GW354.out _ | refine keep_far ?_ GW355.out _ | refine keep_far ?_ GW380.out _) | exact HK.out)) hk (.inl rfl)); replace HB := K_ (hb); replace HI0 := K_ (hi); clear hb hk hi; have hnb64 := NB380_354.out; have hnc64 := NB354_380.out; have hnb65 := NB380_355.out; have hnc65 := NB355_380.out; have hnb66 := NB380_0.out; have hnc66 := NB0_380.out; obtain ⟨hcz67_0, hcz67_1, hcz67_2, hfz67_0, hfz67_1, hfz67_2⟩ := blkf3_ BK380.out) | ((with_reducible refine gate_builtin (b := .append) (xs := #[.tmp 91, .tmp 93]) rfl ?_); at_builtin; refine Kd.R_append (Kd.int .i64) w.heap.size rfl (.tmp 91) (.tmp 93) 22 3 (.int .i64 0) 8 rfl Tryd.underlying22 info3 rfl (by decide) (by omega) u381001 x381001_3 (Int.tmod (wrap64 ((wrap64 (x11_3 + 1)) + t389)) (wrap64 (3 + t356))) [.int .i64 (Int.tmod (wrap64 ((wrap64 (x11_3 + 1)) + t389)) (wrap64 (3 + t356)))] (fun k_ => X_ k_ (.slice (some ad382) x356000_1.length co51) ∧ X_ k_ (.slice Ao53 x356002_2.length co53)) (fun _ => False) rfl rfl ?aP (fun _ hk => hk.elim) ?aF ?aO (Below.refl _ _) ?aS ?aL ?_; (case aP => exact rfl); (case aF => exact (fun k_ hk => ⟨Kd.fresh' (Kd.R_lt HO_356000.out) k_ hk, Kd.fresh' (Kd.R_lt HO_356002.out) k_ hk⟩)); (case aO => exact HO_381001.out); (case aS => exact (keep_size (w := w) (g := g) (row := none) (by repeat (first | (with_reducible first | exact HK.out | apply KeepBut.set_ | apply keep_drewN | apply keep_drew | apply keep_alloc | refine keep_far ?_ GW354.out _ | refine keep_far ?_ GW355.out _ | refine keep_far ?_ GW380.out _) | exact HK.out)))); (case aL => have := LMc62.out; omega); intro v393 w68 ho hb hg hat; rw [← Ny392.out] at ho; have HO394 := K_ (ho); replace HO_356000 := K_ (Kd.R_after (ok := (fun k_ => X_ k_ (.slice Ao53 x356002_2.length co53))) HO_356000.out hg hat); replace HO_356001 := K_ (Kd.S_after (ok := (fun k_ => X_ k_ (.slice (some ad382) x356000_1.length co51) ∧ X_ k_ (.slice Ao53 x356002_2.length co53) ∧ k_ ≠ gb380)) (by exact Kd.S_mono HO_356001.out (fun _ hk => ⟨⟨hk.1, ⟨hk.2.1, hk.2.2.2⟩⟩, hk.2.2.1⟩)) hg hat); replace HO_356002 := K_ (Kd.R_after (ok := (fun k_ => X_ k_ (.slice (some ad382) x356000_1.length co51))) HO_356002.out hg hat); replace BK354 := K_ (blk_grown BK354.out hg (Kd.R_ne HO_381001.out BK354.out (by decide))); replace BK355 := K_ (blk_grown BK355.out hg (Kd.R_ne HO_381001.out BK355.out (by decide))); replace BK380 := K_ (blk_grown BK380.out hg (Kd.R_ne HO_381001.out BK380.out (by decide))); replace HB := K_ (below_weaken (by repeat (first | (with_reducible first | exact HB.out | refine below_set ?_ (IsS67.ge HI0.out) | refine below_set ?_ GE354.out | refine below_set ?_ GE355.out | refine below_set ?_ GE380.out) | exact HB.out)) HL.out hb); replace HI0 := K_ (IsS67.grown (by first | (with_reducible exact HI0.out) | (with_reducible exact IsS67.far HI0.out NB0_354.out _) | (with_reducible exact IsS67.far HI0.out NB0_355.out _) | (with_reducible exact IsS67.far HI0.out NB0_380.out _) | exact IsS67.far HI0.out NB0_354.out _ | exact IsS67.far HI0.out NB0_355.out _ | exact IsS67.far HI0.out NB0_380.out _) hg (IsS67.own_ne HI0.out HO_381001.out (by decide))); replace HK := K_ (KeepBut.trans (by repeat (first | (with_reducible first | exact HK.out | apply KeepBut.set_ | apply keep_drewN | apply keep_drew | apply keep_alloc | refine keep_far ?_ GW354.out _ | refine keep_far ?_ GW355.out _ | refine keep_far ?_ GW380.out _) | exact HK.out)) (KeepBut.of_grown hg g) (Kd.R_base2 HO_381001.out)); clear HO_381001; clear ho hb hg hat; obtain ⟨Ao69, co69, eo69⟩ := Kd.R_slice HO394.out; subst eo69; obtain ⟨hcz70_0, hcz70_1, hcz70_2, hfz70_0, hfz70_1, hfz70_2⟩ := blkf3_ BK380.out))
        go_roundg k3
        case measure => have := HK1.out; have := HK2.out; have := HK3.out; omega
        case rel => exact ⟨(Int.tmod (wrap64 ((wrap64 (x11_3 + 1)) + t389)) (wrap64 (3 + t356))), (wrap64 (x12_3 - 1)), (t390), (t391), (y392), (.slice Ao69 y392.length co69), rfl, rfl, H', ⟨by have := HK1.out; have := HK2.out; have := HK3.out; omega⟩, ⟨by exact Kd.R_mono (Kd.R_far (p := ⟨gb380, 1, none⟩) (Kd.R_types HO_356000.out BK380.out (by decide)) (fun _ hk => hk.2) (.slice Ao69 y392.length co69)) (fun _ hk => ⟨hk.1.1, hk.1.2⟩)⟩, ⟨by exact Kd.S_mono (Kd.S_far (p := ⟨gb380, 1, none⟩) (Kd.S_mono HO_356001.out (fun k_ hk => (⟨hk, hk.1.2.2⟩ : _ ∧ k_ ≠ gb380))) (fun _ hk => hk.2) (.slice Ao69 y392.length co69)) (fun _ hk => ⟨hk.1.1.1, ⟨hk.1.1.2.1, ⟨hk.1.2, hk.1.1.2.2⟩⟩⟩)⟩, ⟨by exact Kd.R_mono (Kd.R_far (p := ⟨gb380, 1, none⟩) (Kd.R_types HO_356002.out BK380.out (by decide)) (fun _ hk => hk.2) (.slice Ao69 y392.length co69)) (fun _ hk => ⟨hk.1.1, hk.1.2⟩)⟩, ⟨by exact Kd.R_mono (Kd.R_far (p := ⟨gb380, 1, none⟩) (Kd.R_types HO394.out BK380.out (by decide)) (fun _ hk => hk.2) (.slice Ao69 y392.length co69)) (fun _ hk => ⟨hk.1.1, hk.1.2⟩)⟩, ⟨by refine blk_far ?_ NB354_380.out _; exact BK354.out⟩, ⟨by refine blk_far ?_ NB355_380.out _; exact BK355.out⟩, ⟨by refine blk_put (cs := #[.int .i64 t374, u381001, .int .i64 (wrap64 (1 + t377))]) ?_ 1 _ rfl; exact BK380.out⟩, ⟨by repeat (first | (with_reducible first | exact HI0.out | apply IsS67.alloc | apply IsS67.drewN | apply IsS67.drew | apply IsS67.set_1 | apply IsS67.set_2 | refine IsS67.far ?_ NB0_354.out _ | refine IsS67.far ?_ NB0_355.out _ | refine IsS67.far ?_ NB0_380.out _) | exact HI0.out)⟩, ⟨by repeat (first | (with_reducible first | exact HK.out | apply KeepBut.set_ | apply keep_drewN | apply keep_drew | apply keep_alloc | refine keep_far ?_ GW354.out _ | refine keep_far ?_ GW355.out _ | refine keep_far ?_ GW380.out _) | exact HK.out)⟩, ⟨by repeat (first | (with_reducible first | exact HB.out | refine below_set ?_ (IsS67.ge HI0.out) | refine below_set ?_ GE354.out | refine below_set ?_ GE355.out | refine below_set ?_ GE380.out) | exact HB.out)⟩⟩
       rw [if_neg c60] at H
       have c60b0 := beq_eq_false_iff_ne.mpr c60
       have c60b1 := bne_iff_ne.mpr c60
       replace H := pn_ H
       obtain ⟨c71, H⟩ := H
       have LMc71 := K_ c71
       clear c71
       obtain ⟨y395, hy395⟩ : ∃ y_ : List Int, y_ = (x381001_3 ++ [Int.tmod (wrap64 (x11_3 + (wrap64 (1 + (wrap64 (t383 * (wrap64 ((wrap64 (3 + t356)) - 2)))))))) (wrap64 (3 + t356))]) := ⟨_, rfl⟩
       rw [← hy395] at H
       have Ny395 := K_ hy395
       clear hy395
       have H' := K_ H
       clear H
       have hnb72 := NB380_354.out
       have hnc72 := NB354_380.out
       have hnb73 := NB380_355.out
       have hnc73 := NB355_380.out
       have hnb74 := NB380_0.out
       have hnc74 := NB0_380.out
       obtain ⟨hcz75_0, hcz75_1, hcz75_2, hfz75_0, hfz75_1, hfz75_2⟩ := blkf3_ BK380.out
       go_wp2_with (first | ((with_reducible refine gate_builtin (b := .append) (xs := #[.tmp 91, .tmp 93]) rfl ?_); at_builtin; refine Kd.R_append (Kd.int .i64) w.heap.size rfl (.tmp 91) (.tmp 93) 22 3 (.int .i64 0) 8 rfl Tryd.underlying22 info3 rfl (by decide) (by omega) u381001 x381001_3 (Int.tmod (wrap64 (x11_3 + (wrap64 (1 + (wrap64 (t383 * (wrap64 ((wrap64 (3 + t356)) - 2)))))))) (wrap64 (3 + t356))) [.int .i64 (Int.tmod (wrap64 (x11_3 + (wrap64 (1 + (wrap64 (t383 * (wrap64 ((wrap64 (3 + t356)) - 2)))))))) (wrap64 (3 + t356)))] (fun k_ => X_ k_ (.slice (some ad382) x356000_1.length co51) ∧ X_ k_ (.slice Ao53 x356002_2.length co53)) (fun _ => False) rfl rfl ?aP (fun _ hk => hk.elim) ?aF ?aO (Below.refl _ _) ?aS ?aL ?_; (case aP => exact rfl); (case aF => exact (fun k_ hk => ⟨Kd.fresh' (Kd.R_lt HO_356000.out) k_ hk, Kd.fresh' (Kd.R_lt HO_356002.out) k_ hk⟩)); (case aO => exact HO_381001.out); (case aS => exact (keep_size (w := w) (g := g) (row := none) (by repeat (first | (with_reducible first | exact HK.out | apply KeepBut.set_ | apply keep_drewN | apply keep_drew | apply keep_alloc | refine keep_far ?_ GW354.out _ | refine keep_far ?_ GW355.out _ | refine keep_far ?_ GW380.out _) | exact HK.out)))); (case aL => have := LMc71.out; omega); intro v396 w76 ho hb hg hat; rw [← Ny395.out] at ho; have HO397 := K_ (ho); replace HO_356000 := K_ (Kd.R_after (ok := (fun k_ => X_ k_ (.slice Ao53 x356002_2.length co53))) HO_356000.out hg hat); replace HO_356001 := K_ (Kd.S_after (ok := (fun k_ => X_ k_ (.slice (some ad382) x356000_1.length co51) ∧ X_ k_ (.slice Ao53 x356002_2.length co53) ∧ k_ ≠ gb380)) (by exact Kd.S_mono HO_356001.out (fun _ hk => ⟨⟨hk.1, ⟨hk.2.1, hk.2.2.2⟩⟩, hk.2.2.1⟩)) hg hat); replace HO_356002 := K_ (Kd.R_after (ok := (fun k_ => X_ k_ (.slice (some ad382) x356000_1.length co51))) HO_356002.out hg hat); replace BK354 := K_ (blk_grown BK354.out hg (Kd.R_ne HO_381001.out BK354.out (by decide))); replace BK355 := K_ (blk_grown BK355.out hg (Kd.R_ne HO_381001.out BK355.out (by decide))); replace BK380 := K_ (blk_grown BK380.out hg (Kd.R_ne HO_381001.out BK380.out (by decide))); replace HB := K_ (below_weaken (by repeat (first | (with_reducible first | exact HB.out | refine below_set ?_ (IsS67.ge HI0.out) | refine below_set ?_ GE354.out | refine below_set ?_ GE355.out | refine below_set ?_ GE380.out) | exact HB.out)) HL.out hb); replace HI0 := K_ (IsS67.grown (by first | (with_reducible exact HI0.out) | (with_reducible exact IsS67.far HI0.out NB0_354.out _) | (with_reducible exact IsS67.far HI0.out NB0_355.out _) | (with_reducible exact IsS67.far HI0.out NB0_380.out _) | exact IsS67.far HI0.out NB0_354.out _ | exact IsS67.far HI0.out NB0_355.out _ | exact IsS67.far HI0.out NB0_380.out _) hg (IsS67.own_ne HI0.out HO_381001.out (by decide))); replace HK := K_ (KeepBut.trans (by repeat (first | (with_reducible first | exact HK.out | apply KeepBut.set_ | apply keep_drewN | apply keep_drew | apply keep_alloc | refine keep_far ?_ GW354.out _ | refine keep_far ?_ GW355.out _ | refine keep_far ?_ GW380.out _) | exact HK.out)) (KeepBut.of_grown hg g) (Kd.R_base2 HO_381001.out)); clear HO_381001; clear ho hb hg hat; obtain ⟨Ao77, co77, eo77⟩ := Kd.R_slice HO397.out; subst eo77; obtain ⟨hcz78_0, hcz78_1, hcz78_2, hfz78_0, hfz78_1, hfz78_2⟩ := blkf3_ BK380.out))
       go_roundg k3
       case measure => have := HK1.out; have := HK2.out; have := HK3.out; omega
       case rel => exact ⟨(Int.tmod (wrap64 (x11_3 + (wrap64 (1 + (wrap64 (t383 * (wrap64 ((wrap64 (3 + t356)) - 2)))))))) (wrap64 (3 + t356))), (wrap64 (x12_3 - 1)), (x1001_3), (x1002_3), (y395), (.slice Ao77 y395.length co77), rfl, rfl, H', ⟨by have := HK1.out; have := HK2.out; have := HK3.out; omega⟩, ⟨by exact Kd.R_mono (Kd.R_far (p := ⟨gb380, 1, none⟩) (Kd.R_types HO_356000.out BK380.out (by decide)) (fun _ hk => hk.2) (.slice Ao77 y395.length co77)) (fun _ hk => ⟨hk.1.1, hk.1.2⟩)⟩, ⟨by exact Kd.S_mono (Kd.S_far (p := ⟨gb380, 1, none⟩) (Kd.S_mono HO_356001.out (fun k_ hk => (⟨hk, hk.1.2.2⟩ : _ ∧ k_ ≠ gb380))) (fun _ hk => hk.2) (.slice Ao77 y395.length co77)) (fun _ hk => ⟨hk.1.1.1, ⟨hk.1.1.2.1, ⟨hk.1.2, hk.1.1.2.2⟩⟩⟩)⟩, ⟨by exact Kd.R_mono (Kd.R_far (p := ⟨gb380, 1, none⟩) (Kd.R_types HO_356002.out BK380.out (by decide)) (fun _ hk => hk.2) (.slice Ao77 y395.length co77)) (fun _ hk => ⟨hk.1.1, hk.1.2⟩)⟩, ⟨by exact Kd.R_mono (Kd.R_far (p := ⟨gb380, 1, none⟩) (Kd.R_types HO397.out BK380.out (by decide)) (fun _ hk => hk.2) (.slice Ao77 y395.length co77)) (fun _ hk => ⟨hk.1.1, hk.1.2⟩)⟩, ⟨by refine blk_far ?_ NB354_380.out _; exact BK354.out⟩, ⟨by refine blk_far ?_ NB355_380.out _; exact BK355.out⟩, ⟨by refine blk_put (cs := #[.int .i64 t374, u381001, .int .i64 (wrap64 (1 + t377))]) ?_ 1 _ rfl; exact BK380.out⟩, ⟨by repeat (first | (with_reducible first | exact HI0.out | apply IsS67.alloc | apply IsS67.drewN | apply IsS67.drew | apply IsS67.set_1 | apply IsS67.set_2 | refine IsS67.far ?_ NB0_354.out _ | refine IsS67.far ?_ NB0_355.out _ | refine IsS67.far ?_ NB0_380.out _) | exact HI0.out)⟩, ⟨by repeat (first | (with_reducible first | exact HK.out | apply KeepBut.set_ | apply keep_drewN | apply keep_drew | apply keep_alloc | refine keep_far ?_ GW354.out _ | refine keep_far ?_ GW355.out _ | refine keep_far ?_ GW380.out _) | exact HK.out)⟩, ⟨by repeat (first | (with_reducible first | exact HB.out | refine below_set ?_ (IsS67.ge HI0.out) | refine below_set ?_ GE354.out | refine below_set ?_ GE355.out | refine below_set ?_ GE380.out) | exact HB.out)⟩⟩


end Go.Proofs.YtkcocomehhlpmaaDoor.Q
