-- Written by programs of this session (wip/drv.py, wip/mkclaim.py) over the kit's print; not trusted: Lean checks it.
import Derived.Test.YtckkppehfpjbpaaFnRingQ0
import Derived.Test.YtckkppehfpjbpaaFnRingQ1
namespace Go.Proofs.Ytckkppehfpjbpaa.Q
open Go.RowKit Go.Proofs.YtckkppehfpjbpaaW.PrintWords Go.Proofs.YtckkppehfpjbpaaW.PrintLast Go.Proofs.YtckkppehfpjbpaaW.PrintMore
attribute [local go_sem] max2_int min2_int max_two min_two max_three min_three max_four min_four   -- for this text's walks alone
set_option linter.unusedVariables false
set_option linter.unusedSimpArgs false

/-! ### spec_l5Cur_state: function 45 -/
mutual
def spec_l5Cur_state.l0 : Nat → Int → Int → List Int → Int → Int → List Int → Option (List Int × (List (S40)) × List Int × Int × Int)
 | 0, _, _, _, _, _, _ => none
 | k + 1, x4, x5, x1000, x1001, x1002, x304000 => if x5 < x4 then ((spec_l5Cur_pick.f x1000 x1001 x1002 5).bind fun bt307 => (if x304000.length < 17592186044416 then (spec_l5Cur_state.l0 k x4 (wrap64 (x5 + 1)) x1000 bt307.2.1 bt307.2.2 (x304000 ++ [wrap64 (1 + (wrap64 (Int.tdiv bt307.1 4)))])) else (none))) else ((spec_l5Cur_pick.f x1000 x1001 x1002 4).bind fun bt313 => ((spec_l5Cur_pick.f x1000 bt313.2.1 bt313.2.2 3).bind fun bt316 => ((spec_l5Cur_pick.f x1000 bt316.2.1 bt316.2.2 5).bind fun bt319 => (spec_l5Cur_state.l1 k x4 bt313.1 bt316.1 (wrap64 (1 + bt319.1)) x1000 bt319.2.1 bt319.2.2 x304000 ([] : List (S40)) ([] : List Int)))))
def spec_l5Cur_state.l1 : Nat → Int → Int → Int → Int → List Int → Int → Int → List Int → List (S40) → List Int → Option (List Int × (List (S40)) × List Int × Int × Int)
 | 0, _, _, _, _, _, _, _, _, _, _ => none
 | k + 1, x4, x6, x7, x8, x1000, x1001, x1002, x304000, x304001, x304002 => if x8 > 0 then ((spec_l5Cur_pick.f x1000 x1001 x1002 x4).bind fun bt322 => ((spec_l5Cur_pick.f x1000 bt322.2.1 bt322.2.2 5).bind fun bt325 => ((spec_l1there.f k x304000 x304001 x304002 bt322.1).bind fun t329 => (if 0 ≤ bt322.1 then (if bt322.1 < (x304000.length : Int) then (if t329 ≥ (rd x304000 bt322.1) then (spec_l5Cur_state.l1 k x4 x6 x7 (wrap64 (x8 - 1)) x1000 bt325.2.1 bt325.2.2 x304000 x304001 x304002) else ((spec_l5Cur_pick.f x1000 bt325.2.1 bt325.2.2 2).bind fun bt331 => ((spec_l5Cur_pick.f x1000 bt331.2.1 bt331.2.2 6).bind fun bt334 => (spec_l5Cur_state.l2 k x4 x6 x7 x8 (wrap64 (1 + (wrap64 (bt331.1 * (wrap64 (x4 - 2)))))) bt322.1 bt334.1 x1000 bt334.2.1 bt334.2.2 x304000 x304001 x304002 bt322.1 ([] : List Int) (wrap64 (1 + bt325.1)))))) else (none)) else (none))))) else (some (x304000, x304001, x304002, x1001, x1002))
def spec_l5Cur_state.l2 : Nat → Int → Int → Int → Int → Int → Int → Int → List Int → Int → Int → List Int → List (S40) → List Int → Int → List Int → Int → Option (List Int × (List (S40)) × List Int × Int × Int)
 | 0, _, _, _, _, _, _, _, _, _, _, _, _, _, _, _, _ => none
 | k + 1, x4, x6, x7, x8, x10, x11, x12, x1000, x1001, x1002, x304000, x304001, x304002, x329000, x329001, x329002 => if x12 > 0 then (if x4 = 0 then (none) else (if x7 = 0 then ((spec_l5Cur_pick.f x1000 x1001 x1002 (wrap64 (x4 - 1))).bind fun bt337 => (if x329001.length < 17592186044416 then (spec_l5Cur_state.l2 k x4 x6 x7 x8 x10 (Int.tmod (wrap64 ((wrap64 (x11 + 1)) + bt337.1)) x4) (wrap64 (x12 - 1)) x1000 bt337.2.1 bt337.2.2 x304000 x304001 x304002 x329000 (x329001 ++ [Int.tmod (wrap64 ((wrap64 (x11 + 1)) + bt337.1)) x4]) x329002) else (none))) else (if x329001.length < 17592186044416 then (spec_l5Cur_state.l2 k x4 x6 x7 x8 x10 (Int.tmod (wrap64 (x11 + x10)) x4) (wrap64 (x12 - 1)) x1000 x1001 x1002 x304000 x304001 x304002 x329000 (x329001 ++ [Int.tmod (wrap64 (x11 + x10)) x4]) x329002) else (none)))) else (if x304001.length < 3518437208883 then (if x304002.length < 17592186044416 then ((spec_l5Cur_pick.f x1000 x1001 x1002 3).bind fun bt352 => (spec_l5Cur_state.l1 k x4 (wrap64 (x6 + (wrap64 (1 + bt352.1)))) x7 (wrap64 (x8 - 1)) x1000 bt352.2.1 bt352.2.2 x304000 (x304001 ++ [(⟨x329000, x329001, x329002⟩ : S40)]) (x304002 ++ [x6]))) else (none)) else (none))
end
def spec_l5Cur_state.f (k : Nat) (s0_0 : List Int) (s0_1 : Int) (s0_2 : Int) : Option (List Int × (List (S40)) × List Int × Int × Int) := (spec_l5Cur_pick.f s0_0 s0_1 s0_2 6).bind fun bt304 => (spec_l5Cur_state.l0 k (wrap64 (3 + bt304.1)) 0 s0_0 bt304.2.1 bt304.2.2 ([] : List Int))
theorem spec_l5Cur_state.mono_l : ∀ k, (∀ y0 y1 y2 y3 y4 y5, LeO (spec_l5Cur_state.l0 k y0 y1 y2 y3 y4 y5) (spec_l5Cur_state.l0 (k + 1) y0 y1 y2 y3 y4 y5)) ∧ (∀ y0 y1 y2 y3 y4 y5 y6 y7 y8 y9, LeO (spec_l5Cur_state.l1 k y0 y1 y2 y3 y4 y5 y6 y7 y8 y9) (spec_l5Cur_state.l1 (k + 1) y0 y1 y2 y3 y4 y5 y6 y7 y8 y9)) ∧ (∀ y0 y1 y2 y3 y4 y5 y6 y7 y8 y9 y10 y11 y12 y13 y14 y15, LeO (spec_l5Cur_state.l2 k y0 y1 y2 y3 y4 y5 y6 y7 y8 y9 y10 y11 y12 y13 y14 y15) (spec_l5Cur_state.l2 (k + 1) y0 y1 y2 y3 y4 y5 y6 y7 y8 y9 y10 y11 y12 y13 y14 y15))
 | 0 => ⟨fun _ _ _ _ _ _ r h => by simp [spec_l5Cur_state.l0] at h, fun _ _ _ _ _ _ _ _ _ _ r h => by simp [spec_l5Cur_state.l1] at h, fun _ _ _ _ _ _ _ _ _ _ _ _ _ _ _ _ r h => by simp [spec_l5Cur_state.l2] at h⟩
 | k + 1 => by
  obtain ⟨ih0, ih1, ih2⟩ := spec_l5Cur_state.mono_l k
  refine ⟨?_, ?_, ?_⟩
  ·intro y0 y1 y2 y3 y4 y5
   unfold spec_l5Cur_state.l0
   repeat' with_reducible first | exact ih0 _ _ _ _ _ _ | exact ih1 _ _ _ _ _ _ _ _ _ _ | exact ih2 _ _ _ _ _ _ _ _ _ _ _ _ _ _ _ _ | exact spec_l1there.mono _ _ _ _ _ | exact LeO.refl _ | exact LeO.none _ | refine LeO.ite ?_ ?_ | refine LeO.bind ?_ (fun _ => ?_)
  ·intro y0 y1 y2 y3 y4 y5 y6 y7 y8 y9
   unfold spec_l5Cur_state.l1
   repeat' with_reducible first | exact ih0 _ _ _ _ _ _ | exact ih1 _ _ _ _ _ _ _ _ _ _ | exact ih2 _ _ _ _ _ _ _ _ _ _ _ _ _ _ _ _ | exact spec_l1there.mono _ _ _ _ _ | exact LeO.refl _ | exact LeO.none _ | refine LeO.ite ?_ ?_ | refine LeO.bind ?_ (fun _ => ?_)
  ·intro y0 y1 y2 y3 y4 y5 y6 y7 y8 y9 y10 y11 y12 y13 y14 y15
   unfold spec_l5Cur_state.l2
   repeat' with_reducible first | exact ih0 _ _ _ _ _ _ | exact ih1 _ _ _ _ _ _ _ _ _ _ | exact ih2 _ _ _ _ _ _ _ _ _ _ _ _ _ _ _ _ | exact spec_l1there.mono _ _ _ _ _ | exact LeO.refl _ | exact LeO.none _ | refine LeO.ite ?_ ?_ | refine LeO.bind ?_ (fun _ => ?_)
theorem spec_l5Cur_state.mono : ∀ a0 a1 a2 k, LeO (spec_l5Cur_state.f k a0 a1 a2) (spec_l5Cur_state.f (k + 1) a0 a1 a2) := by
 intro a0 a1 a2 k
 obtain ⟨ih0, ih1, ih2⟩ := spec_l5Cur_state.mono_l k
 unfold spec_l5Cur_state.f
 repeat' with_reducible first | exact ih0 _ _ _ _ _ _ | exact ih1 _ _ _ _ _ _ _ _ _ _ | exact ih2 _ _ _ _ _ _ _ _ _ _ _ _ _ _ _ _ | exact spec_l1there.mono _ _ _ _ _ | exact LeO.refl _ | exact LeO.none _ | refine LeO.ite ?_ ?_ | refine LeO.bind ?_ (fun _ => ?_)
def spec_l5Cur_state.T6 : Bool × List (List Nat × List Nat) := (true, [([], []), ([0], [0]), ([], []), ([2], [2]), ([3], [3]), ([4], [4]), ([5], [5]), ([1, 6, 3], [1, 6]), ([0, 1, 2, 3, 4, 5, 6, 7], []), ([8, 7, 7, 0, 1, 2, 3, 4, 5, 6, 7], [7, 8])])
def spec_l5Cur_state.B6 : List Nat := [0, 1, 0, 4, 12, 28, 60, 127, 255, 511]
theorem spec_l5Cur_state.tab6 : rtab .any (opsOf Try.f45 6) = spec_l5Cur_state.T6 := by kernel_rfl
theorem spec_l5Cur_state.bits6 : waitsOk spec_l5Cur_state.T6.2 spec_l5Cur_state.B6 = true := by kernel_rfl
def spec_l5Cur_state.T13 : Bool × List (List Nat × List Nat) := (true, [([], []), ([], []), ([1], [1]), ([0, 2], [0, 2]), ([], []), ([4], [4]), ([], []), ([6], [6]), ([5, 7], [5, 7]), ([8], [8]), ([3, 9], [3, 9])])
def spec_l5Cur_state.B13 : List Nat := [0, 0, 2, 7, 0, 16, 0, 64, 240, 496, 1023]
theorem spec_l5Cur_state.tab13 : rtab .any (opsOf Try.f45 13) = spec_l5Cur_state.T13 := by kernel_rfl
theorem spec_l5Cur_state.bits13 : waitsOk spec_l5Cur_state.T13.2 spec_l5Cur_state.B13 = true := by kernel_rfl
set_option maxHeartbeats 8000000 in
set_option maxRecDepth 100000 in
theorem spec_l5Cur_state.calls (k : Nat) (g : Nat) (s0_0 : List Int) (s0_1 : Int) (s0_2 : Int) (r1 : List Int) (r2 : List (S40)) (r3 : List Int) (r4 : Int) (r5 : Int) (w0 w : World) (hI : IsS58 w0 w g s0_0 s0_1 s0_2) (hB : Below w0.heap.size w0 w) (h : spec_l5Cur_state.f k s0_0 s0_1 s0_2 = some (r1, r2, r3, r4, r5)) :
  Calls Try.prog 45 #[.pointer (some ⟨g, 0, none⟩)] w fun e w' => ∃ v0_ v1_ v2_ : Value, e = .returned (.agg #[v0_, v1_, v2_]) ∧ Kd.R (Kd.int .i64) 3 w' w.heap.size (fun k_ => X_ k_ v2_) v0_ r1 ∧ Kd.S k40 40 w' w.heap.size (fun k_ => X_ k_ v0_ ∧ X_ k_ v2_) v1_ r2 ∧ Kd.R (Kd.int .i64) 3 w' w.heap.size (fun k_ => X_ k_ v0_) v2_ r3 ∧ IsS58 w0 w' g s0_0 r4 r5 ∧ Below w0.heap.size w0 w' ∧ KeepBut w w' g none := by
 have hu30 := Try.underlying30
 have hu40 := Try.underlying40
 have HI0 := K_ hI
 have HK := K_ (KeepBut.refl w g none)
 have HL := K_ hB.size
 clear hI
 have HW0 := K_ hB.size
 have HB := K_ hB
 clear hB
 unfold spec_l5Cur_state.f at h
 have H := h
 clear h
 replace H := Option.bind_eq_some_iff.mp H
 obtain ⟨⟨t304, t305, t306⟩, A20, H⟩ := H
 try dsimp only at H
 have A2 := K_ A20
 clear A20
 have H' := K_ H
 clear H
 go_enter Try.func45, Try.ntmps45
 go_wp2_with (first | ((with_reducible refine gate_dst (N := 2) rfl ?_); refine box_event (by rfl) (N := 2) (by rfl) (cs := #[.slice none 0 0, .slice none 0 0, .slice none 0 0]) (t := 30) (by go_simp; try rfl) ?_; intro gb302 hg w3 hbox hb; have BK302 := K_ (hbox); have GW302 := K_ ((by rw [hg]; exact (keep_size (w := w) (g := g) (row := none) (by repeat (first | (with_reducible first | exact HK.out | apply KeepBut.set_ | apply keep_drewN | apply keep_drew | apply keep_alloc) | exact HK.out))) : w.heap.size ≤ gb302)); have GE302 := K_ ((Nat.le_trans HW0.out (by rw [hg]; exact (keep_size (w := w) (g := g) (row := none) (by repeat (first | (with_reducible first | exact HK.out | apply KeepBut.set_ | apply keep_drewN | apply keep_drew | apply keep_alloc) | exact HK.out))) : w.heap.size ≤ gb302) : w0.heap.size ≤ gb302)); have NB0_302 := K_ ((by rw [hg]; exact Nat.ne_of_lt (IsS58.lt (show IsS58 w0 _ g s0_0 s0_1 s0_2 from by repeat (first | (with_reducible first | exact HI0.out | apply IsS58.alloc | apply IsS58.drewN | apply IsS58.drew | apply IsS58.set_1 | apply IsS58.set_2) | exact HI0.out))) : g ≠ gb302)); have NB302_0 := K_ ((by rw [hg]; exact Nat.ne_of_gt (IsS58.lt (show IsS58 w0 _ g s0_0 s0_1 s0_2 from by repeat (first | (with_reducible first | exact HI0.out | apply IsS58.alloc | apply IsS58.drewN | apply IsS58.drew | apply IsS58.set_1 | apply IsS58.set_2) | exact HI0.out))) : gb302 ≠ g)); replace HK := K_ (KeepBut.trans (by repeat (first | (with_reducible first | exact HK.out | apply KeepBut.set_ | apply keep_drewN | apply keep_drew | apply keep_alloc) | exact HK.out)) (KeepBut.of_below hb g none) (.inl rfl)); replace HB := K_ (below_step (by repeat (first | (with_reducible first | exact HB.out | refine below_set ?_ (IsS58.ge HI0.out)) | exact HB.out)) hb); replace HI0 := K_ (IsS58.below (by repeat (first | (with_reducible first | exact HI0.out | apply IsS58.alloc | apply IsS58.drewN | apply IsS58.drew | apply IsS58.set_1 | apply IsS58.set_2) | exact HI0.out)) hb); clear hb hbox hg) | ((with_reducible refine gate_dst (N := 3) rfl ?_); refine box_event (by rfl) (N := 3) (by rfl) (cs := #[.slice none 0 0, .slice none 0 0, .slice none 0 0]) (t := 30) (by go_simp; try rfl) ?_; intro gb303 hg w4 hbox hb; have BK303 := K_ (hbox); have GW303 := K_ ((by rw [hg]; exact (keep_size (w := w) (g := g) (row := none) (by repeat (first | (with_reducible first | exact HK.out | apply KeepBut.set_ | apply keep_drewN | apply keep_drew | apply keep_alloc | refine keep_far ?_ GW302.out _) | exact HK.out))) : w.heap.size ≤ gb303)); have GE303 := K_ ((Nat.le_trans HW0.out (by rw [hg]; exact (keep_size (w := w) (g := g) (row := none) (by repeat (first | (with_reducible first | exact HK.out | apply KeepBut.set_ | apply keep_drewN | apply keep_drew | apply keep_alloc | refine keep_far ?_ GW302.out _) | exact HK.out))) : w.heap.size ≤ gb303) : w0.heap.size ≤ gb303)); have NB302_303 := nl_ hg BK302.out; have NB303_302 := ng_ hg BK302.out; have NB0_303 := K_ ((by rw [hg]; exact Nat.ne_of_lt (IsS58.lt (show IsS58 w0 _ g s0_0 s0_1 s0_2 from by repeat (first | (with_reducible first | exact HI0.out | apply IsS58.alloc | apply IsS58.drewN | apply IsS58.drew | apply IsS58.set_1 | apply IsS58.set_2 | refine IsS58.far ?_ NB0_302.out _) | exact HI0.out))) : g ≠ gb303)); have NB303_0 := K_ ((by rw [hg]; exact Nat.ne_of_gt (IsS58.lt (show IsS58 w0 _ g s0_0 s0_1 s0_2 from by repeat (first | (with_reducible first | exact HI0.out | apply IsS58.alloc | apply IsS58.drewN | apply IsS58.drew | apply IsS58.set_1 | apply IsS58.set_2 | refine IsS58.far ?_ NB0_302.out _) | exact HI0.out))) : gb303 ≠ g)); replace BK302 := K_ (blk_below BK302.out hb); replace HK := K_ (KeepBut.trans (by repeat (first | (with_reducible first | exact HK.out | apply KeepBut.set_ | apply keep_drewN | apply keep_drew | apply keep_alloc | refine keep_far ?_ GW302.out _) | exact HK.out)) (KeepBut.of_below hb g none) (.inl rfl)); replace HB := K_ (below_step (by repeat (first | (with_reducible first | exact HB.out | refine below_set ?_ (IsS58.ge HI0.out) | refine below_set ?_ GE302.out) | exact HB.out)) hb); replace HI0 := K_ (IsS58.below (by repeat (first | (with_reducible first | exact HI0.out | apply IsS58.alloc | apply IsS58.drewN | apply IsS58.drew | apply IsS58.set_1 | apply IsS58.set_2 | refine IsS58.far ?_ NB0_302.out _) | exact HI0.out)) hb); clear hb hbox hg) | ((with_reducible refine gate_callee (f := 46) rfl ?_); refine goesL_ (some 15) rfl rfl Try.func46 (by kernel_rfl) rfl #[.pointer (some ⟨g, 0, none⟩), .int .i64 6] rfl (by simp only [List.map_toArray, List.map_cons, List.map_nil]; try rfl) ?_; (with_reducible refine (spec_l5Cur_pick.calls g s0_0 s0_1 s0_2 6 t304 t305 t306 w0 _ ?side1 ?side2 A2.out).mono ?_); (case side1 => repeat (first | (with_reducible first | exact HI0.out | apply IsS58.alloc | apply IsS58.drewN | apply IsS58.drew | apply IsS58.set_1 | apply IsS58.set_2 | refine IsS58.far ?_ NB0_302.out _ | refine IsS58.far ?_ NB0_303.out _) | exact HI0.out)); (case side2 => repeat (first | (with_reducible first | exact HB.out | refine below_set ?_ (IsS58.ge HI0.out) | refine below_set ?_ GE302.out | refine below_set ?_ GE303.out) | exact HB.out)); rintro e w5 ⟨rfl, hi, hb, hk⟩; refine ⟨_, rfl, ?_⟩; replace BK302 := K_ (KeepBut.blk hk (g' := gb302) (o := .cells #[.slice none 0 0, .slice none 0 0, .slice none 0 0] 30 (0, 0)) BK302.out NB302_0.out (by simp)); replace BK303 := K_ (KeepBut.blk hk (g' := gb303) (o := .cells #[.slice none 0 0, .slice none 0 0, .slice none 0 0] 30 (0, 0)) BK303.out NB303_0.out (by simp)); replace HK := K_ (KeepBut.trans (by repeat (first | (with_reducible first | exact HK.out | apply KeepBut.set_ | apply keep_drewN | apply keep_drew | apply keep_alloc | refine keep_far ?_ GW302.out _ | refine keep_far ?_ GW303.out _) | exact HK.out)) hk (.inl rfl)); replace HB := K_ (hb); replace HI0 := K_ (hi); clear hb hk hi))
 go_loopg [5] k (fun kq v5 w' => ∃ (x5_1 : Int) (x1001_1 : Int) (x1002_1 : Int) (x304000_1 : List Int) (u304000 : Value), v5 = .int .i64 x5_1 ∧ Aside0 (spec_l5Cur_state.l0 kq (wrap64 (3 + t304)) x5_1 s0_0 x1001_1 x1002_1 x304000_1 = some (r1, r2, r3, r4, r5)) ∧ Aside0 (kq ≤ k) ∧ Aside0 (Kd.R (Kd.int .i64) 3 w' w.heap.size (fun _ => True) u304000 x304000_1) ∧ Aside0 (w'.heap[gb302]? = some (.cells #[(.slice none 0 0), (.slice none 0 0), (.slice none 0 0)] 30 (0, 0))) ∧ Aside0 (w'.heap[gb303]? = some (.cells #[u304000, (.slice none 0 0), (.slice none 0 0)] 30 (0, 0))) ∧ Aside0 (IsS58 w0 w' g s0_0 x1001_1 x1002_1) ∧ Aside0 (KeepBut w w' g none) ∧ Aside0 (Below w0.heap.size w0 w'))
 case atStart => exact ⟨(0), (t305), (t306), (([] : List Int)), (.slice none 0 0), rfl, H', ⟨Nat.le_refl _⟩, ⟨Kd.R_nil _ _ _ _ _⟩, ⟨BK302.out⟩, ⟨BK303.out⟩, ⟨by repeat (first | (with_reducible first | exact HI0.out | apply IsS58.alloc | apply IsS58.drewN | apply IsS58.drew | apply IsS58.set_1 | apply IsS58.set_2 | refine IsS58.far ?_ NB0_302.out _ | refine IsS58.far ?_ NB0_303.out _) | exact HI0.out)⟩, ⟨by repeat (first | (with_reducible first | exact HK.out | apply KeepBut.set_ | apply keep_drewN | apply keep_drew | apply keep_alloc | refine keep_far ?_ GW302.out _ | refine keep_far ?_ GW303.out _) | exact HK.out)⟩, ⟨by repeat (first | (with_reducible first | exact HB.out | refine below_set ?_ (IsS58.ge HI0.out) | refine below_set ?_ GE302.out | refine below_set ?_ GE303.out) | exact HB.out)⟩⟩
 case round =>
  clear H'
  skip
  obtain ⟨x5_1, x1001_1, x1002_1, x304000_1, u304000, rfl, HA, HK1, HO_304000, BK302, BK303, HI0, HK, HB⟩ := hrel
  cases gk with
  | zero => exact absurd HA.out (by simp [spec_l5Cur_state.l0])
  | succ k1 =>
   have H := HA.out
   clear HA
   simp only [spec_l5Cur_state.l0] at H
   by_cases c6 : x5_1 < (wrap64 (3 + t304))
   case pos =>
    rw [if_pos c6] at H
    have c6b0 := decide_eq_true c6
    clear c6
    replace H := Option.bind_eq_some_iff.mp H
    obtain ⟨⟨t307, t308, t309⟩, A70, H⟩ := H
    try dsimp only at H
    have A7 := K_ A70
    clear A70
    replace H := pn_ H
    obtain ⟨c8, H⟩ := H
    have LMc8 := K_ c8
    clear c8
    obtain ⟨y310, hy310⟩ : ∃ y_ : List Int, y_ = (x304000_1 ++ [wrap64 (1 + (wrap64 (Int.tdiv t307 4)))]) := ⟨_, rfl⟩
    rw [← hy310] at H
    have Ny310 := K_ hy310
    clear hy310
    have H' := K_ H
    clear H
    try go_wp2
    replace HO_304000 := K_ (Kd.R_drew HO_304000.out)
    replace BK302 := K_ (blk_drew BK302.out)
    replace BK303 := K_ (blk_drew BK303.out)
    replace HI0 := K_ (IsS58.drew HI0.out)
    replace HK := K_ (keep_drew HK.out)
    replace HB := K_ (below_drew1 HB.out)
    refine start_ (n := 10) (S := fun w' => w'.cell? ⟨gb303, 0, none⟩ = some (u304000) ∧ w'.cell? ⟨gb303, 1, none⟩ = some (.slice none 0 0) ∧ w'.cell? ⟨gb303, 2, none⟩ = some (.slice none 0 0)) (ds := [9]) #[ff, ff, ff, ff, ff, ff, ff, ff, ff, ff] (by kernel_rfl) rfl rfl ⟨(blk_cell BK303.out 0).trans rfl, (blk_cell BK303.out 1).trans rfl, (blk_cell BK303.out 2).trans rfl⟩ (fun hHeld => ?_); refine with_tabW spec_l5Cur_state.tab6 spec_l5Cur_state.bits6 (fun HT_ HW_ => ?_)
    generalize wr.drew = w9 at HO_304000 BK302 BK303 HI0 HK HB hHeld ⊢
    refine pq_ 0 22 (M_ 10 1) HT_ ?_
    refine pq_ 2 24 (M_ 10 5) HT_ ?_
    refine tq_ 1 23 (M_ 10 7) HT_ HW_ hHeld ?_
    refine one_ (i := 3) (N := some 25) (M_ 10 15) rfl rfl (one_of HT_.out (by kernel_rfl)) (by decide) (fun K hK => ?_)
    refine goes_ Try.func46 (by kernel_rfl) rfl #[.pointer (some ⟨g, 0, none⟩), .int .i64 5] (by rfl) rfl rfl (by simp only [List.map_toArray, List.map_cons, List.map_nil]; try rfl) ?_
    with_reducible refine (spec_l5Cur_pick.calls g s0_0 x1001_1 x1002_1 5 t307 t308 t309 w0 _ ?side1 ?side2 A7.out).mono ?_
    (case side1 => repeat (first | (with_reducible first | exact HI0.out | apply IsS58.alloc | apply IsS58.drewN | apply IsS58.drew | apply IsS58.set_1 | apply IsS58.set_2 | refine IsS58.far ?_ NB0_302.out _ | refine IsS58.far ?_ NB0_303.out _) | exact HI0.out))
    (case side2 => repeat (first | (with_reducible first | exact HB.out | refine below_set ?_ (IsS58.ge HI0.out) | refine below_set ?_ GE302.out | refine below_set ?_ GE303.out) | exact HB.out))
    rintro e w10 ⟨rfl, hi, hb, hk⟩
    refine ⟨_, rfl, ?_⟩
    replace HO_304000 := K_ (Kd.R_mono (Kd.R_keep (IsS58.apart (show IsS58 w0 _ g s0_0 x1001_1 x1002_1 from by repeat (first | (with_reducible first | exact HI0.out | apply IsS58.alloc | apply IsS58.drewN | apply IsS58.drew | apply IsS58.set_1 | apply IsS58.set_2 | refine IsS58.far ?_ NB0_302.out _ | refine IsS58.far ?_ NB0_303.out _) | exact HI0.out)) HO_304000.out (by decide)) hk (fun _ h => h.2)) (fun _ h => h.1))
    replace BK302 := K_ (KeepBut.blk hk (g' := gb302) (o := .cells #[.slice none 0 0, .slice none 0 0, .slice none 0 0] 30 (0, 0)) BK302.out NB302_0.out (by simp))
    replace BK303 := K_ (KeepBut.blk hk (g' := gb303) (o := .cells #[u304000, .slice none 0 0, .slice none 0 0] 30 (0, 0)) BK303.out NB303_0.out (by simp))
    replace HK := K_ (KeepBut.trans (by repeat (first | (with_reducible first | exact HK.out | apply KeepBut.set_ | apply keep_drewN | apply keep_drew | apply keep_alloc | refine keep_far ?_ GW302.out _ | refine keep_far ?_ GW303.out _) | exact HK.out)) hk (.inl rfl))
    replace HB := K_ (hb)
    replace HI0 := K_ (hi)
    clear hb
    (try clear hb2)
    clear hk
    clear hi
    refine hK.out _ _ ⟨(blk_cell BK303.out 0).trans rfl, (blk_cell BK303.out 1).trans rfl, (blk_cell BK303.out 2).trans rfl⟩ (fun hHeld => ?_)
    clear hK K
    refine norm_ (a' := ?_) ?_ ?_
    rotate_left
    ·show Act.put _ (some 25) _ = _
     simp only [P_, i64_w, i32_w]
     rfl
    refine pq_ 4 26 (M_ 10 31) HT_ ?_
    refine pq_ 5 27 (M_ 10 63) HT_ ?_
    refine one_ (i := 6) (N := some 28) (M_ 10 127) rfl rfl (one_of HT_.out (by kernel_rfl)) (by decide) (fun K hK => ?_)
    refine value_ (w1 := ?_) (v := ?_) (by rfl) rfl ?_ ?_
    rotate_left 2
    ·go_simp
     constructor
     ·rfl
     ·rfl
    refine hK.out _ _ ⟨(blk_cell (blk_alloc BK303.out _) 0).trans rfl, (blk_cell (blk_alloc BK303.out _) 1).trans rfl, (blk_cell (blk_alloc BK303.out _) 2).trans rfl⟩ (fun hHeld => ?_)
    clear hK K
    refine norm_ (a' := ?_) ?_ ?_
    rotate_left
    ·show Act.put _ (some 28) _ = _
     simp only [P_, i64_w, i32_w]
     rfl
    refine one_ (i := 7) (N := some 29) (M_ 10 255) rfl rfl (one_of HT_.out (by kernel_rfl)) (by decide) (fun K hK => ?_)
    refine Kd.R_append_step (Kd.int .i64) w.heap.size (by rfl) (.tmp 23) (.tmp 28) 22 3 (.int .i64 0) 8 rfl Try.underlying22 info3 rfl (by decide) (by omega) u304000 x304000_1 (wrap64 (1 + (wrap64 (Int.tdiv t307 4)))) [.int .i64 (wrap64 (1 + (wrap64 (Int.tdiv t307 4))))] (fun _ => True) (fun _ => False) rfl rfl ?aP (fun _ hk => hk.elim) ?aF ?aO (Below.refl _ _) ?aS ?aL ?_
    (case aP => exact rfl)
    (case aF => exact (fun _ _ => trivial))
    (case aO => exact HO_304000.out)
    (case aS => exact (keep_size (w := w) (g := g) (row := none) (by repeat (first | (with_reducible first | exact HK.out | apply KeepBut.set_ | apply keep_drewN | apply keep_drew | apply keep_alloc | refine keep_far ?_ GW302.out _ | refine keep_far ?_ GW303.out _) | exact HK.out))))
    (case aL => have := LMc8.out; omega)
    intro v311 w11 ho hb hg hat
    rw [← Ny310.out] at ho
    have HO312 := K_ (ho)
    replace BK302 := K_ (blk_grown BK302.out hg (Kd.R_ne HO_304000.out BK302.out (by decide)))
    replace BK303 := K_ (blk_grown BK303.out hg (Kd.R_ne HO_304000.out BK303.out (by decide)))
    replace HB := K_ (below_weaken (by repeat (first | (with_reducible first | exact HB.out | refine below_set ?_ (IsS58.ge HI0.out) | refine below_set ?_ GE302.out | refine below_set ?_ GE303.out) | exact HB.out)) HL.out hb)
    replace HI0 := K_ (IsS58.grown (by first | (with_reducible exact HI0.out) | (with_reducible exact IsS58.far HI0.out NB0_302.out _) | (with_reducible exact IsS58.far HI0.out NB0_303.out _) | (with_reducible exact IsS58.far HI0.out NB0_328.out _) | exact IsS58.far HI0.out NB0_302.out _ | exact IsS58.far HI0.out NB0_303.out _ | exact IsS58.far HI0.out NB0_328.out _) hg (IsS58.own_ne HI0.out HO_304000.out (by decide)))
    replace HK := K_ (KeepBut.trans (by repeat (first | (with_reducible first | exact HK.out | apply KeepBut.set_ | apply keep_drewN | apply keep_drew | apply keep_alloc | refine keep_far ?_ GW302.out _ | refine keep_far ?_ GW303.out _) | exact HK.out)) (KeepBut.of_grown hg g) (Kd.R_base2 HO_304000.out))
    clear HO_304000
    clear ho hb hg hat
    obtain ⟨Ao12, co12, eo12⟩ := Kd.R_slice HO312.out
    (first | subst eo12 | (injection eo12 with f1_ f2_ f3_; have f4_ := f1_.symm; have f5_ := f3_.symm; clear f1_ f2_ f3_; subst f4_; subst f5_))
    refine hK.out _ _ ⟨(blk_cell BK303.out 0).trans rfl, (blk_cell BK303.out 1).trans rfl, (blk_cell BK303.out 2).trans rfl⟩ (fun hHeld => ?_)
    clear hK K
    refine norm_ (a' := ?_) ?_ ?_
    rotate_left
    ·show Act.put _ (some 29) _ = _
     simp only [P_, i64_w, i32_w]
     rfl
    refine pq_ 8 30 (M_ 10 511) HT_ ?_
    refine last_ (i := 9) (N := none) (M_ 10 1023) rfl rfl (one_of HT_.out (by kernel_rfl)) (by decide) (fun K hK => ?_)
    have hs13 : w11.cell? ⟨gb303, 0, none⟩ = some (u304000) := (blk_cell BK303.out 0).trans rfl
    have hfs13 := blk_frozen BK303.out 0
    have hns13_0 := NB302_303.out
    have hms13_0 := NB303_302.out
    refine skip_ (w1 := ?_) (by rfl) rfl ?_ ?_
    rotate_left
    ·go_simp
     rfl
    refine hK.out _ _ ?_
    clear hK K
    refine done_ (done_of HT_.out (by kernel_rfl)) ?_
    try go_wp2
    go_roundg k1
    case measure => have := HK1.out; omega
    case rel => exact ⟨(wrap64 (x5_1 + 1)), (t308), (t309), (y310), (.slice Ao12 y310.length co12), rfl, H', ⟨by have := HK1.out; omega⟩, ⟨by exact Kd.R_mono (Kd.R_far (p := ⟨gb303, 0, none⟩) (Kd.R_types HO312.out BK303.out (by decide)) (fun _ hk => hk.2) (.slice Ao12 y310.length co12)) (fun _ hk => trivial)⟩, ⟨by refine blk_far ?_ NB302_303.out _; exact BK302.out⟩, ⟨by refine blk_put (cs := #[u304000, .slice none 0 0, .slice none 0 0]) ?_ 0 _ rfl; exact BK303.out⟩, ⟨by repeat (first | (with_reducible first | exact HI0.out | apply IsS58.alloc | apply IsS58.drewN | apply IsS58.drew | apply IsS58.set_1 | apply IsS58.set_2 | refine IsS58.far ?_ NB0_302.out _ | refine IsS58.far ?_ NB0_303.out _) | exact HI0.out)⟩, ⟨by repeat (first | (with_reducible first | exact HK.out | apply KeepBut.set_ | apply keep_drewN | apply keep_drew | apply keep_alloc | refine keep_far ?_ GW302.out _ | refine keep_far ?_ GW303.out _) | exact HK.out)⟩, ⟨by repeat (first | (with_reducible first | exact HB.out | refine below_set ?_ (IsS58.ge HI0.out) | refine below_set ?_ GE302.out | refine below_set ?_ GE303.out) | exact HB.out)⟩⟩
   rw [if_neg c6] at H
   have c6b0 := decide_eq_false c6
   clear c6
   replace H := Option.bind_eq_some_iff.mp H
   obtain ⟨⟨t313, t314, t315⟩, A140, H⟩ := H
   try dsimp only at H
   have A14 := K_ A140
   clear A140
   replace H := Option.bind_eq_some_iff.mp H
   obtain ⟨⟨t316, t317, t318⟩, A150, H⟩ := H
   try dsimp only at H
   have A15 := K_ A150
   clear A150
   replace H := Option.bind_eq_some_iff.mp H
   obtain ⟨⟨t319, t320, t321⟩, A160, H⟩ := H
   try dsimp only at H
   have A16 := K_ A160
   clear A160
   have H' := K_ H
   clear H
   go_wp2_with (first | ((with_reducible refine gate_callee (f := 46) rfl ?_); refine goesL_ (some 32) rfl rfl Try.func46 (by kernel_rfl) rfl #[.pointer (some ⟨g, 0, none⟩), .int .i64 4] rfl (by simp only [List.map_toArray, List.map_cons, List.map_nil]; try rfl) ?_; (with_reducible refine (spec_l5Cur_pick.calls g s0_0 x1001_1 x1002_1 4 t313 t314 t315 w0 _ ?side1 ?side2 A14.out).mono ?_); (case side1 => repeat (first | (with_reducible first | exact HI0.out | apply IsS58.alloc | apply IsS58.drewN | apply IsS58.drew | apply IsS58.set_1 | apply IsS58.set_2 | refine IsS58.far ?_ NB0_302.out _ | refine IsS58.far ?_ NB0_303.out _) | exact HI0.out)); (case side2 => repeat (first | (with_reducible first | exact HB.out | refine below_set ?_ (IsS58.ge HI0.out) | refine below_set ?_ GE302.out | refine below_set ?_ GE303.out) | exact HB.out)); rintro e w17 ⟨rfl, hi, hb, hk⟩; refine ⟨_, rfl, ?_⟩; replace HO_304000 := K_ (Kd.R_mono (Kd.R_keep (IsS58.apart (show IsS58 w0 _ g s0_0 x1001_1 x1002_1 from by repeat (first | (with_reducible first | exact HI0.out | apply IsS58.alloc | apply IsS58.drewN | apply IsS58.drew | apply IsS58.set_1 | apply IsS58.set_2 | refine IsS58.far ?_ NB0_302.out _ | refine IsS58.far ?_ NB0_303.out _) | exact HI0.out)) HO_304000.out (by decide)) hk (fun _ h => h.2)) (fun _ h => h.1)); replace BK302 := K_ (KeepBut.blk hk (g' := gb302) (o := .cells #[.slice none 0 0, .slice none 0 0, .slice none 0 0] 30 (0, 0)) BK302.out NB302_0.out (by simp)); replace BK303 := K_ (KeepBut.blk hk (g' := gb303) (o := .cells #[u304000, .slice none 0 0, .slice none 0 0] 30 (0, 0)) BK303.out NB303_0.out (by simp)); replace HK := K_ (KeepBut.trans (by repeat (first | (with_reducible first | exact HK.out | apply KeepBut.set_ | apply keep_drewN | apply keep_drew | apply keep_alloc | refine keep_far ?_ GW302.out _ | refine keep_far ?_ GW303.out _) | exact HK.out)) hk (.inl rfl)); replace HB := K_ (hb); replace HI0 := K_ (hi); clear hb hk hi) | ((with_reducible refine gate_callee (f := 46) rfl ?_); refine goesL_ (some 34) rfl rfl Try.func46 (by kernel_rfl) rfl #[.pointer (some ⟨g, 0, none⟩), .int .i64 3] rfl (by simp only [List.map_toArray, List.map_cons, List.map_nil]; try rfl) ?_; (with_reducible refine (spec_l5Cur_pick.calls g s0_0 t314 t315 3 t316 t317 t318 w0 _ ?side1 ?side2 A15.out).mono ?_); (case side1 => repeat (first | (with_reducible first | exact HI0.out | apply IsS58.alloc | apply IsS58.drewN | apply IsS58.drew | apply IsS58.set_1 | apply IsS58.set_2 | refine IsS58.far ?_ NB0_302.out _ | refine IsS58.far ?_ NB0_303.out _) | exact HI0.out)); (case side2 => repeat (first | (with_reducible first | exact HB.out | refine below_set ?_ (IsS58.ge HI0.out) | refine below_set ?_ GE302.out | refine below_set ?_ GE303.out) | exact HB.out)); rintro e w18 ⟨rfl, hi, hb, hk⟩; refine ⟨_, rfl, ?_⟩; replace HO_304000 := K_ (Kd.R_mono (Kd.R_keep (IsS58.apart (show IsS58 w0 _ g s0_0 t314 t315 from by repeat (first | (with_reducible first | exact HI0.out | apply IsS58.alloc | apply IsS58.drewN | apply IsS58.drew | apply IsS58.set_1 | apply IsS58.set_2 | refine IsS58.far ?_ NB0_302.out _ | refine IsS58.far ?_ NB0_303.out _) | exact HI0.out)) HO_304000.out (by decide)) hk (fun _ h => h.2)) (fun _ h => h.1)); replace BK302 := K_ (KeepBut.blk hk (g' := gb302) (o := .cells #[.slice none 0 0, .slice none 0 0, .slice none 0 0] 30 (0, 0)) BK302.out NB302_0.out (by simp)); replace BK303 := K_ (KeepBut.blk hk (g' := gb303) (o := .cells #[u304000, .slice none 0 0, .slice none 0 0] 30 (0, 0)) BK303.out NB303_0.out (by simp)); replace HK := K_ (KeepBut.trans (by repeat (first | (with_reducible first | exact HK.out | apply KeepBut.set_ | apply keep_drewN | apply keep_drew | apply keep_alloc | refine keep_far ?_ GW302.out _ | refine keep_far ?_ GW303.out _) | exact HK.out)) hk (.inl rfl)); replace HB := K_ (hb); replace HI0 := K_ (hi); clear hb hk hi) | ((with_reducible refine gate_callee (f := 46) rfl ?_); refine goesL_ (some 36) rfl rfl Try.func46 (by kernel_rfl) rfl #[.pointer (some ⟨g, 0, none⟩), .int .i64 5] rfl (by simp only [List.map_toArray, List.map_cons, List.map_nil]; try rfl) ?_; (with_reducible refine (spec_l5Cur_pick.calls g s0_0 t317 t318 5 t319 t320 t321 w0 _ ?side1 ?side2 A16.out).mono ?_); (case side1 => repeat (first | (with_reducible first | exact HI0.out | apply IsS58.alloc | apply IsS58.drewN | apply IsS58.drew | apply IsS58.set_1 | apply IsS58.set_2 | refine IsS58.far ?_ NB0_302.out _ | refine IsS58.far ?_ NB0_303.out _) | exact HI0.out)); (case side2 => repeat (first | (with_reducible first | exact HB.out | refine below_set ?_ (IsS58.ge HI0.out) | refine below_set ?_ GE302.out | refine below_set ?_ GE303.out) | exact HB.out)); rintro e w19 ⟨rfl, hi, hb, hk⟩; refine ⟨_, rfl, ?_⟩; replace HO_304000 := K_ (Kd.R_mono (Kd.R_keep (IsS58.apart (show IsS58 w0 _ g s0_0 t317 t318 from by repeat (first | (with_reducible first | exact HI0.out | apply IsS58.alloc | apply IsS58.drewN | apply IsS58.drew | apply IsS58.set_1 | apply IsS58.set_2 | refine IsS58.far ?_ NB0_302.out _ | refine IsS58.far ?_ NB0_303.out _) | exact HI0.out)) HO_304000.out (by decide)) hk (fun _ h => h.2)) (fun _ h => h.1)); replace BK302 := K_ (KeepBut.blk hk (g' := gb302) (o := .cells #[.slice none 0 0, .slice none 0 0, .slice none 0 0] 30 (0, 0)) BK302.out NB302_0.out (by simp)); replace BK303 := K_ (KeepBut.blk hk (g' := gb303) (o := .cells #[u304000, .slice none 0 0, .slice none 0 0] 30 (0, 0)) BK303.out NB303_0.out (by simp)); replace HK := K_ (KeepBut.trans (by repeat (first | (with_reducible first | exact HK.out | apply KeepBut.set_ | apply keep_drewN | apply keep_drew | apply keep_alloc | refine keep_far ?_ GW302.out _ | refine keep_far ?_ GW303.out _) | exact HK.out)) hk (.inl rfl)); replace HB := K_ (hb); replace HI0 := K_ (hi); clear hb hk hi))
   go_loopg [6, 8] k1 (fun kq v6 v8 w' => ∃ (x6_2 : Int) (x8_2 : Int) (x1001_2 : Int) (x1002_2 : Int) (x304001_2 : List (S40)) (x304002_2 : List Int) (u304001 : Value) (u304002 : Value), v6 = .int .i64 x6_2 ∧ v8 = .int .i64 x8_2 ∧ Aside0 (spec_l5Cur_state.l1 kq (wrap64 (3 + t304)) x6_2 t316 x8_2 s0_0 x1001_2 x1002_2 x304000_1 x304001_2 x304002_2 = some (r1, r2, r3, r4, r5)) ∧ Aside0 (kq ≤ k1) ∧ Aside0 (Kd.R (Kd.int .i64) 3 w' w.heap.size (fun k_ => X_ k_ u304002) u304000 x304000_1) ∧ Aside0 (Kd.S k40 40 w' w.heap.size (fun k_ => X_ k_ u304000 ∧ X_ k_ u304002) u304001 x304001_2) ∧ Aside0 (Kd.R (Kd.int .i64) 3 w' w.heap.size (fun k_ => X_ k_ u304000) u304002 x304002_2) ∧ Aside0 (w'.heap[gb302]? = some (.cells #[(.slice none 0 0), (.slice none 0 0), (.slice none 0 0)] 30 (0, 0))) ∧ Aside0 (w'.heap[gb303]? = some (.cells #[u304000, u304001, u304002] 30 (0, 0))) ∧ Aside0 (IsS58 w0 w' g s0_0 x1001_2 x1002_2) ∧ Aside0 (KeepBut w w' g none) ∧ Aside0 (Below w0.heap.size w0 w'))
   case atStart => exact ⟨(t313), (wrap64 (1 + t319)), (t320), (t321), (([] : List (S40))), (([] : List Int)), (.slice none 0 0), (.slice none 0 0), rfl, rfl, H', ⟨Nat.le_refl _⟩, ⟨by exact Kd.R_mono HO_304000.out (fun _ hk => (by simp [Value.ownBlock]))⟩, ⟨Kd.S_nil _ _ _ _ _⟩, ⟨Kd.R_nil _ _ _ _ _⟩, ⟨BK302.out⟩, ⟨BK303.out⟩, ⟨by repeat (first | (with_reducible first | exact HI0.out | apply IsS58.alloc | apply IsS58.drewN | apply IsS58.drew | apply IsS58.set_1 | apply IsS58.set_2 | refine IsS58.far ?_ NB0_302.out _ | refine IsS58.far ?_ NB0_303.out _) | exact HI0.out)⟩, ⟨by repeat (first | (with_reducible first | exact HK.out | apply KeepBut.set_ | apply keep_drewN | apply keep_drew | apply keep_alloc | refine keep_far ?_ GW302.out _ | refine keep_far ?_ GW303.out _) | exact HK.out)⟩, ⟨by repeat (first | (with_reducible first | exact HB.out | refine below_set ?_ (IsS58.ge HI0.out) | refine below_set ?_ GE302.out | refine below_set ?_ GE303.out) | exact HB.out)⟩⟩
   case round =>
    clear H'
    clear c6b0
    obtain ⟨x6_2, x8_2, x1001_2, x1002_2, x304001_2, x304002_2, u304001, u304002, rfl, rfl, HA, HK2, HO_304000, HO_304001, HO_304002, BK302, BK303, HI0, HK, HB⟩ := hrel
    cases gk with
    | zero => exact absurd HA.out (by simp [spec_l5Cur_state.l1])
    | succ k2 =>
     have H := HA.out
     clear HA
     simp only [spec_l5Cur_state.l1] at H
     replace H := ps_ H
     rcases H with ⟨c20, H⟩ | ⟨c20, H⟩
     case inr =>
      have c20b0 := decide_eq_false c20
      clear c20
      simp only [Option.some.injEq, Prod.mk.injEq] at H
      obtain ⟨rfl, rfl, rfl, rfl, rfl⟩ := H
      have hnb97 := NB303_302.out
      have hnc97 := NB302_303.out
      have hnb98 := NB303_0.out
      have hnc98 := NB0_303.out
      obtain ⟨hcz99_0, hcz99_1, hcz99_2, hfz99_0, hfz99_1, hfz99_2⟩ := blkf3_ BK303.out
      obtain ⟨Ao100, co100, eo100⟩ := Kd.R_slice HO_304000.out
      subst eo100
      have hnb101 := NB302_0.out
      have hnc101 := NB0_302.out
      obtain ⟨hcz102_0, hcz102_1, hcz102_2, hfz102_0, hfz102_1, hfz102_2⟩ := blkf3_ BK302.out
      obtain ⟨Ao103, co103, eo103⟩ := Kd.S_slice HO_304001.out
      subst eo103
      obtain ⟨Ao104, co104, eo104⟩ := Kd.R_slice HO_304002.out
      subst eo104
      go_wp2
      refine bodyPost_ret (results_cell_row rfl _ _ gb302 30 #[.slice Ao100 x304000_1.length co100, .slice Ao103 x304001_2.length co103, .slice Ao104 x304002_2.length co104] (0, 0) _ rfl (by refine blk_put (cs := #[.slice Ao100 x304000_1.length co100, .slice Ao103 x304001_2.length co103, .slice none 0 0]) ?_ 2 _ rfl; refine blk_put (cs := #[.slice Ao100 x304000_1.length co100, .slice none 0 0, .slice none 0 0]) ?_ 1 _ rfl; refine blk_put (cs := #[.slice none 0 0, .slice none 0 0, .slice none 0 0]) ?_ 0 _ rfl; exact BK302.out) Try.underlying30 rfl (by kernel_rfl)) rfl ?_
      exact ⟨_, _, _, rfl, by exact Kd.R_mono (Kd.R_far (p := ⟨gb302, 2, none⟩) (Kd.R_far (p := ⟨gb302, 1, none⟩) (Kd.R_far (p := ⟨gb302, 0, none⟩) (Kd.R_types HO_304000.out BK302.out (by decide)) (fun _ hk => hk.2) (.slice Ao100 x304000_1.length co100)) (fun _ hk => hk.2) (.slice Ao103 x304001_2.length co103)) (fun _ hk => hk.2) (.slice Ao104 x304002_2.length co104)) (fun _ hk => hk.1), by exact Kd.S_mono (Kd.S_far (p := ⟨gb302, 2, none⟩) (Kd.S_far (p := ⟨gb302, 1, none⟩) (Kd.S_far (p := ⟨gb302, 0, none⟩) (Kd.S_types HO_304001.out BK302.out (by decide)) (fun _ hk => hk.2) (.slice Ao100 x304000_1.length co100)) (fun _ hk => hk.2) (.slice Ao103 x304001_2.length co103)) (fun _ hk => hk.2) (.slice Ao104 x304002_2.length co104)) (fun _ hk => ⟨hk.1.1, hk.1.2⟩), by exact Kd.R_mono (Kd.R_far (p := ⟨gb302, 2, none⟩) (Kd.R_far (p := ⟨gb302, 1, none⟩) (Kd.R_far (p := ⟨gb302, 0, none⟩) (Kd.R_types HO_304002.out BK302.out (by decide)) (fun _ hk => hk.2) (.slice Ao100 x304000_1.length co100)) (fun _ hk => hk.2) (.slice Ao103 x304001_2.length co103)) (fun _ hk => hk.2) (.slice Ao104 x304002_2.length co104)) (fun _ hk => hk.1), by repeat (first | (with_reducible first | exact HI0.out | apply IsS58.alloc | apply IsS58.drewN | apply IsS58.drew | apply IsS58.set_1 | apply IsS58.set_2 | refine IsS58.far ?_ NB0_302.out _ | refine IsS58.far ?_ NB0_303.out _) | exact HI0.out), by repeat (first | (with_reducible first | exact HB.out | refine below_set ?_ (IsS58.ge HI0.out) | refine below_set ?_ GE302.out | refine below_set ?_ GE303.out) | exact HB.out), by repeat (first | (with_reducible first | exact HK.out | apply KeepBut.set_ | apply keep_drewN | apply keep_drew | apply keep_alloc | refine keep_far ?_ GW302.out _ | refine keep_far ?_ GW303.out _) | exact HK.out)⟩
     have c20b0 := decide_eq_true c20
     clear c20
     replace H := Option.bind_eq_some_iff.mp H
     obtain ⟨⟨t322, t323, t324⟩, A210, H⟩ := H
     try dsimp only at H
     have A21 := K_ A210
     clear A210
     replace H := Option.bind_eq_some_iff.mp H
     obtain ⟨⟨t325, t326, t327⟩, A220, H⟩ := H
     try dsimp only at H
     have A22 := K_ A220
     clear A220
     replace H := Option.bind_eq_some_iff.mp H
     obtain ⟨t329, A230, H⟩ := H
     try dsimp only at H
     have A23 := K_ A230
     clear A230
     replace H := dn_ H
     obtain ⟨c24b0, H⟩ := H
     replace H := dn_ H
     obtain ⟨c25b0, H⟩ := H
     replace H := ps_ H
     rcases H with ⟨c26, H⟩ | ⟨c26, H⟩
     case inl =>
      have c26b0 := decide_eq_true c26
      clear c26
      have H' := K_ H
      clear H
      try go_wp2_with (first | ((with_reducible refine gate_callee (f := 46) rfl ?_); refine goesL_ (some 44) rfl rfl Try.func46 (by kernel_rfl) rfl #[.pointer (some ⟨g, 0, none⟩), .int .i64 (wrap64 (3 + t304))] rfl (by simp only [List.map_toArray, List.map_cons, List.map_nil]; try rfl) ?_; (with_reducible refine (spec_l5Cur_pick.calls g s0_0 x1001_2 x1002_2 (wrap64 (3 + t304)) t322 t323 t324 w0 _ ?side1 ?side2 A21.out).mono ?_); (case side1 => repeat (first | (with_reducible first | exact HI0.out | apply IsS58.alloc | apply IsS58.drewN | apply IsS58.drew | apply IsS58.set_1 | apply IsS58.set_2 | refine IsS58.far ?_ NB0_302.out _ | refine IsS58.far ?_ NB0_303.out _) | exact HI0.out)); (case side2 => repeat (first | (with_reducible first | exact HB.out | refine below_set ?_ (IsS58.ge HI0.out) | refine below_set ?_ GE302.out | refine below_set ?_ GE303.out) | exact HB.out)); rintro e w27 ⟨rfl, hi, hb, hk⟩; refine ⟨_, rfl, ?_⟩; replace HO_304000 := K_ (Kd.R_mono (Kd.R_keep (IsS58.apart (show IsS58 w0 _ g s0_0 x1001_2 x1002_2 from by repeat (first | (with_reducible first | exact HI0.out | apply IsS58.alloc | apply IsS58.drewN | apply IsS58.drew | apply IsS58.set_1 | apply IsS58.set_2 | refine IsS58.far ?_ NB0_302.out _ | refine IsS58.far ?_ NB0_303.out _) | exact HI0.out)) HO_304000.out (by decide)) hk (fun _ h => h.2)) (fun _ h => h.1)); replace HO_304001 := K_ (Kd.S_mono (Kd.S_keep (IsS58.apartS (show IsS58 w0 _ g s0_0 x1001_2 x1002_2 from by repeat (first | (with_reducible first | exact HI0.out | apply IsS58.alloc | apply IsS58.drewN | apply IsS58.drew | apply IsS58.set_1 | apply IsS58.set_2 | refine IsS58.far ?_ NB0_302.out _ | refine IsS58.far ?_ NB0_303.out _) | exact HI0.out)) HO_304001.out (by decide)) hk (fun _ h => h.2)) (fun _ h => h.1)); replace HO_304002 := K_ (Kd.R_mono (Kd.R_keep (IsS58.apart (show IsS58 w0 _ g s0_0 x1001_2 x1002_2 from by repeat (first | (with_reducible first | exact HI0.out | apply IsS58.alloc | apply IsS58.drewN | apply IsS58.drew | apply IsS58.set_1 | apply IsS58.set_2 | refine IsS58.far ?_ NB0_302.out _ | refine IsS58.far ?_ NB0_303.out _) | exact HI0.out)) HO_304002.out (by decide)) hk (fun _ h => h.2)) (fun _ h => h.1)); replace BK302 := K_ (KeepBut.blk hk (g' := gb302) (o := .cells #[.slice none 0 0, .slice none 0 0, .slice none 0 0] 30 (0, 0)) BK302.out NB302_0.out (by simp)); replace BK303 := K_ (KeepBut.blk hk (g' := gb303) (o := .cells #[u304000, u304001, u304002] 30 (0, 0)) BK303.out NB303_0.out (by simp)); replace HK := K_ (KeepBut.trans (by repeat (first | (with_reducible first | exact HK.out | apply KeepBut.set_ | apply keep_drewN | apply keep_drew | apply keep_alloc | refine keep_far ?_ GW302.out _ | refine keep_far ?_ GW303.out _) | exact HK.out)) hk (.inl rfl)); replace HB := K_ (hb); replace HI0 := K_ (hi); clear hb hk hi) | ((with_reducible refine gate_callee (f := 46) rfl ?_); refine goesL_ (some 46) rfl rfl Try.func46 (by kernel_rfl) rfl #[.pointer (some ⟨g, 0, none⟩), .int .i64 5] rfl (by simp only [List.map_toArray, List.map_cons, List.map_nil]; try rfl) ?_; (with_reducible refine (spec_l5Cur_pick.calls g s0_0 t323 t324 5 t325 t326 t327 w0 _ ?side1 ?side2 A22.out).mono ?_); (case side1 => repeat (first | (with_reducible first | exact HI0.out | apply IsS58.alloc | apply IsS58.drewN | apply IsS58.drew | apply IsS58.set_1 | apply IsS58.set_2 | refine IsS58.far ?_ NB0_302.out _ | refine IsS58.far ?_ NB0_303.out _) | exact HI0.out)); (case side2 => repeat (first | (with_reducible first | exact HB.out | refine below_set ?_ (IsS58.ge HI0.out) | refine below_set ?_ GE302.out | refine below_set ?_ GE303.out) | exact HB.out)); rintro e w28 ⟨rfl, hi, hb, hk⟩; refine ⟨_, rfl, ?_⟩; replace HO_304000 := K_ (Kd.R_mono (Kd.R_keep (IsS58.apart (show IsS58 w0 _ g s0_0 t323 t324 from by repeat (first | (with_reducible first | exact HI0.out | apply IsS58.alloc | apply IsS58.drewN | apply IsS58.drew | apply IsS58.set_1 | apply IsS58.set_2 | refine IsS58.far ?_ NB0_302.out _ | refine IsS58.far ?_ NB0_303.out _) | exact HI0.out)) HO_304000.out (by decide)) hk (fun _ h => h.2)) (fun _ h => h.1)); replace HO_304001 := K_ (Kd.S_mono (Kd.S_keep (IsS58.apartS (show IsS58 w0 _ g s0_0 t323 t324 from by repeat (first | (with_reducible first | exact HI0.out | apply IsS58.alloc | apply IsS58.drewN | apply IsS58.drew | apply IsS58.set_1 | apply IsS58.set_2 | refine IsS58.far ?_ NB0_302.out _ | refine IsS58.far ?_ NB0_303.out _) | exact HI0.out)) HO_304001.out (by decide)) hk (fun _ h => h.2)) (fun _ h => h.1)); replace HO_304002 := K_ (Kd.R_mono (Kd.R_keep (IsS58.apart (show IsS58 w0 _ g s0_0 t323 t324 from by repeat (first | (with_reducible first | exact HI0.out | apply IsS58.alloc | apply IsS58.drewN | apply IsS58.drew | apply IsS58.set_1 | apply IsS58.set_2 | refine IsS58.far ?_ NB0_302.out _ | refine IsS58.far ?_ NB0_303.out _) | exact HI0.out)) HO_304002.out (by decide)) hk (fun _ h => h.2)) (fun _ h => h.1)); replace BK302 := K_ (KeepBut.blk hk (g' := gb302) (o := .cells #[.slice none 0 0, .slice none 0 0, .slice none 0 0] 30 (0, 0)) BK302.out NB302_0.out (by simp)); replace BK303 := K_ (KeepBut.blk hk (g' := gb303) (o := .cells #[u304000, u304001, u304002] 30 (0, 0)) BK303.out NB303_0.out (by simp)); replace HK := K_ (KeepBut.trans (by repeat (first | (with_reducible first | exact HK.out | apply KeepBut.set_ | apply keep_drewN | apply keep_drew | apply keep_alloc | refine keep_far ?_ GW302.out _ | refine keep_far ?_ GW303.out _) | exact HK.out)) hk (.inl rfl)); replace HB := K_ (hb); replace HI0 := K_ (hi); clear hb hk hi) | ((with_reducible refine gate_dst (N := 9) rfl ?_); refine box_event (by rfl) (N := 9) (by rfl) (cs := #[.int .i64 0, .slice none 0 0, .int .i64 0]) (t := 40) (by go_simp; try rfl) ?_; intro gb328 hg w29 hbox hb; have BK328 := K_ (hbox); have GW328 := K_ ((by rw [hg]; exact (keep_size (w := w) (g := g) (row := none) (by repeat (first | (with_reducible first | exact HK.out | apply KeepBut.set_ | apply keep_drewN | apply keep_drew | apply keep_alloc | refine keep_far ?_ GW302.out _ | refine keep_far ?_ GW303.out _) | exact HK.out))) : w.heap.size ≤ gb328)); have GE328 := K_ ((Nat.le_trans HW0.out (by rw [hg]; exact (keep_size (w := w) (g := g) (row := none) (by repeat (first | (with_reducible first | exact HK.out | apply KeepBut.set_ | apply keep_drewN | apply keep_drew | apply keep_alloc | refine keep_far ?_ GW302.out _ | refine keep_far ?_ GW303.out _) | exact HK.out))) : w.heap.size ≤ gb328) : w0.heap.size ≤ gb328)); have NB302_328 := nl_ hg BK302.out; have NB328_302 := ng_ hg BK302.out; have NB303_328 := nl_ hg BK303.out; have NB328_303 := ng_ hg BK303.out; have NB0_328 := K_ ((by rw [hg]; exact Nat.ne_of_lt (IsS58.lt (show IsS58 w0 _ g s0_0 t326 t327 from by repeat (first | (with_reducible first | exact HI0.out | apply IsS58.alloc | apply IsS58.drewN | apply IsS58.drew | apply IsS58.set_1 | apply IsS58.set_2 | refine IsS58.far ?_ NB0_302.out _ | refine IsS58.far ?_ NB0_303.out _) | exact HI0.out))) : g ≠ gb328)); have NB328_0 := K_ ((by rw [hg]; exact Nat.ne_of_gt (IsS58.lt (show IsS58 w0 _ g s0_0 t326 t327 from by repeat (first | (with_reducible first | exact HI0.out | apply IsS58.alloc | apply IsS58.drewN | apply IsS58.drew | apply IsS58.set_1 | apply IsS58.set_2 | refine IsS58.far ?_ NB0_302.out _ | refine IsS58.far ?_ NB0_303.out _) | exact HI0.out))) : gb328 ≠ g)); replace HO_304000 := K_ (Kd.R_below HO_304000.out hb); replace HO_304001 := K_ (Kd.S_below (Kd.S_elderB HO_304001.out gb328 (Nat.le_of_eq hg.symm)) hb); replace HO_304002 := K_ (Kd.R_below HO_304002.out hb); replace BK302 := K_ (blk_below BK302.out hb); replace BK303 := K_ (blk_below BK303.out hb); replace HK := K_ (KeepBut.trans (by repeat (first | (with_reducible first | exact HK.out | apply KeepBut.set_ | apply keep_drewN | apply keep_drew | apply keep_alloc | refine keep_far ?_ GW302.out _ | refine keep_far ?_ GW303.out _) | exact HK.out)) (KeepBut.of_below hb g none) (.inl rfl)); replace HB := K_ (below_step (by repeat (first | (with_reducible first | exact HB.out | refine below_set ?_ (IsS58.ge HI0.out) | refine below_set ?_ GE302.out | refine below_set ?_ GE303.out) | exact HB.out)) hb); replace HI0 := K_ (IsS58.below (by repeat (first | (with_reducible first | exact HI0.out | apply IsS58.alloc | apply IsS58.drewN | apply IsS58.drew | apply IsS58.set_1 | apply IsS58.set_2 | refine IsS58.far ?_ NB0_302.out _ | refine IsS58.far ?_ NB0_303.out _) | exact HI0.out)) hb); clear hb hbox hg; have hnb30 := NB328_302.out; have hnc30 := NB302_328.out; have hnb31 := NB328_303.out; have hnc31 := NB303_328.out; have hnb32 := NB328_0.out; have hnc32 := NB0_328.out; obtain ⟨hcz33_0, hcz33_1, hcz33_2, hfz33_0, hfz33_1, hfz33_2⟩ := blkf3_ BK328.out))
      have n0_ : Aside0 (Kd.R (Kd.int .i64) 3 (((w29.setCell ⟨gb328, 0, none⟩ (.int .i64 t322)).setCell ⟨gb328, 1, none⟩ (.slice none 0 0)).setCell ⟨gb328, 2, none⟩ (.int .i64 (wrap64 (1 + t325)))) w.heap.size (fun k_ => X_ k_ u304002) u304000 x304000_1) := ⟨by exact Kd.R_mono (Kd.R_far (p := ⟨gb328, 2, none⟩) (Kd.R_far (p := ⟨gb328, 1, none⟩) (Kd.R_far (p := ⟨gb328, 0, none⟩) (Kd.R_types HO_304000.out BK328.out (by decide)) (fun _ hk => hk.2) (.int .i64 t322)) (fun _ hk => hk.2) (.slice none 0 0)) (fun _ hk => hk.2) (.int .i64 (wrap64 (1 + t325)))) (fun _ hk => hk.1)⟩
      have n1_ : Aside0 (Kd.S k40 40 (((w29.setCell ⟨gb328, 0, none⟩ (.int .i64 t322)).setCell ⟨gb328, 1, none⟩ (.slice none 0 0)).setCell ⟨gb328, 2, none⟩ (.int .i64 (wrap64 (1 + t325)))) w.heap.size (fun k_ => X_ k_ u304000 ∧ X_ k_ u304002 ∧ k_ ≠ gb328) u304001 x304001_2) := ⟨by exact Kd.S_mono (Kd.S_far (p := ⟨gb328, 2, none⟩) (Kd.S_far (p := ⟨gb328, 1, none⟩) (Kd.S_far (p := ⟨gb328, 0, none⟩) (Kd.S_mono HO_304001.out (fun k_ hk => (⟨hk, hk.2⟩ : _ ∧ k_ ≠ gb328))) (fun _ hk => hk.2) (.int .i64 t322)) (fun _ hk => hk.2) (.slice none 0 0)) (fun _ hk => hk.2) (.int .i64 (wrap64 (1 + t325)))) (fun _ hk => ⟨hk.1.1.1, ⟨hk.1.1.2, hk.1.2⟩⟩)⟩
      have n2_ : Aside0 (Kd.R (Kd.int .i64) 3 (((w29.setCell ⟨gb328, 0, none⟩ (.int .i64 t322)).setCell ⟨gb328, 1, none⟩ (.slice none 0 0)).setCell ⟨gb328, 2, none⟩ (.int .i64 (wrap64 (1 + t325)))) w.heap.size (fun k_ => X_ k_ u304000) u304002 x304002_2) := ⟨by exact Kd.R_mono (Kd.R_far (p := ⟨gb328, 2, none⟩) (Kd.R_far (p := ⟨gb328, 1, none⟩) (Kd.R_far (p := ⟨gb328, 0, none⟩) (Kd.R_types HO_304002.out BK328.out (by decide)) (fun _ hk => hk.2) (.int .i64 t322)) (fun _ hk => hk.2) (.slice none 0 0)) (fun _ hk => hk.2) (.int .i64 (wrap64 (1 + t325)))) (fun _ hk => hk.1)⟩
      have n3_ : Aside0 ((((w29.setCell ⟨gb328, 0, none⟩ (.int .i64 t322)).setCell ⟨gb328, 1, none⟩ (.slice none 0 0)).setCell ⟨gb328, 2, none⟩ (.int .i64 (wrap64 (1 + t325)))).heap[gb302]? = some (.cells #[.slice none 0 0, .slice none 0 0, .slice none 0 0] 30 (0, 0))) := ⟨by refine blk_far ?_ NB302_328.out _; refine blk_far ?_ NB302_328.out _; refine blk_far ?_ NB302_328.out _; exact BK302.out⟩
      have n4_ : Aside0 ((((w29.setCell ⟨gb328, 0, none⟩ (.int .i64 t322)).setCell ⟨gb328, 1, none⟩ (.slice none 0 0)).setCell ⟨gb328, 2, none⟩ (.int .i64 (wrap64 (1 + t325)))).heap[gb303]? = some (.cells #[u304000, u304001, u304002] 30 (0, 0))) := ⟨by refine blk_far ?_ NB303_328.out _; refine blk_far ?_ NB303_328.out _; refine blk_far ?_ NB303_328.out _; exact BK303.out⟩
      have n5_ : Aside0 ((((w29.setCell ⟨gb328, 0, none⟩ (.int .i64 t322)).setCell ⟨gb328, 1, none⟩ (.slice none 0 0)).setCell ⟨gb328, 2, none⟩ (.int .i64 (wrap64 (1 + t325)))).heap[gb328]? = some (.cells #[.int .i64 t322, .slice none 0 0, .int .i64 (wrap64 (1 + t325))] 40 (0, 0))) := ⟨by refine blk_put (cs := #[.int .i64 t322, .slice none 0 0, .int .i64 0]) ?_ 2 _ rfl; refine blk_put (cs := #[.int .i64 t322, .slice none 0 0, .int .i64 0]) ?_ 1 _ rfl; refine blk_put (cs := #[.int .i64 0, .slice none 0 0, .int .i64 0]) ?_ 0 _ rfl; exact BK328.out⟩
      have n6_ : Aside0 (IsS58 w0 (((w29.setCell ⟨gb328, 0, none⟩ (.int .i64 t322)).setCell ⟨gb328, 1, none⟩ (.slice none 0 0)).setCell ⟨gb328, 2, none⟩ (.int .i64 (wrap64 (1 + t325)))) g s0_0 t326 t327) := ⟨by repeat (first | (with_reducible first | exact HI0.out | apply IsS58.alloc | apply IsS58.drewN | apply IsS58.drew | apply IsS58.set_1 | apply IsS58.set_2 | refine IsS58.far ?_ NB0_302.out _ | refine IsS58.far ?_ NB0_303.out _ | refine IsS58.far ?_ NB0_328.out _) | exact HI0.out)⟩
      have n7_ : Aside0 (KeepBut w (((w29.setCell ⟨gb328, 0, none⟩ (.int .i64 t322)).setCell ⟨gb328, 1, none⟩ (.slice none 0 0)).setCell ⟨gb328, 2, none⟩ (.int .i64 (wrap64 (1 + t325)))) g none) := ⟨by repeat (first | (with_reducible first | exact HK.out | apply KeepBut.set_ | apply keep_drewN | apply keep_drew | apply keep_alloc | refine keep_far ?_ GW302.out _ | refine keep_far ?_ GW303.out _ | refine keep_far ?_ GW328.out _) | exact HK.out)⟩
      have n8_ : Aside0 (Below w0.heap.size w0 (((w29.setCell ⟨gb328, 0, none⟩ (.int .i64 t322)).setCell ⟨gb328, 1, none⟩ (.slice none 0 0)).setCell ⟨gb328, 2, none⟩ (.int .i64 (wrap64 (1 + t325))))) := ⟨by repeat (first | (with_reducible first | exact HB.out | refine below_set ?_ (IsS58.ge HI0.out) | refine below_set ?_ GE302.out | refine below_set ?_ GE303.out | refine below_set ?_ GE328.out) | exact HB.out)⟩
      clear HO_304000
      clear HO_304001
      clear HO_304002
      clear BK302
      clear BK303
      clear BK328
      clear HI0
      clear HK
      clear HB
      generalize (((w29.setCell ⟨gb328, 0, none⟩ (.int .i64 t322)).setCell ⟨gb328, 1, none⟩ (.slice none 0 0)).setCell ⟨gb328, 2, none⟩ (.int .i64 (wrap64 (1 + t325)))) = w34 at n0_ n1_ n2_ n3_ n4_ n5_ n6_ n7_ n8_ ⊢
      have HO_304000 := n0_
      have HO_304001 := n1_
      have HO_304002 := n2_
      have BK302 := n3_
      have BK303 := n4_
      have BK328 := n5_
      have HI0 := n6_
      have HK := n7_
      have HB := n8_
      clear n0_ n1_ n2_ n3_ n4_ n5_ n6_ n7_ n8_
      replace HO_304000 := K_ (Kd.R_drew HO_304000.out)
      replace HO_304001 := K_ (Kd.S_drew HO_304001.out)
      replace HO_304002 := K_ (Kd.R_drew HO_304002.out)
      replace BK302 := K_ (blk_drew BK302.out)
      replace BK303 := K_ (blk_drew BK303.out)
      replace BK328 := K_ (blk_drew BK328.out)
      replace HI0 := K_ (IsS58.drew HI0.out)
      replace HK := K_ (keep_drew HK.out)
      replace HB := K_ (below_drew1 HB.out)
      obtain ⟨Ao36, co36, eo36⟩ := Kd.R_slice HO_304000.out
      (first | subst eo36 | (injection eo36 with f1_ f2_ f3_; have f4_ := f1_.symm; have f5_ := f3_.symm; clear f1_ f2_ f3_; subst f4_; subst f5_))
      have p330 : 0 ≤ (t322 : Int) := of_decide_eq_true (by assumption)
      have q330 : t322 < (x304000_1.length : Int) := of_decide_eq_true (by assumption)
      obtain ⟨ad330, e330, hx330_0⟩ := Kd.at_int (Kd.R_reads' HO_304000.out).2.2 t322 p330 q330
      cases e330
      replace p330 := eq_true p330
      replace q330 := eq_true q330
      obtain ⟨Ao37, co37, eo37⟩ := Kd.S_slice HO_304001.out
      (first | subst eo37 | (injection eo37 with f1_ f2_ f3_; have f4_ := f1_.symm; have f5_ := f3_.symm; clear f1_ f2_ f3_; subst f4_; subst f5_))
      obtain ⟨Ao38, co38, eo38⟩ := Kd.R_slice HO_304002.out
      (first | subst eo38 | (injection eo38 with f1_ f2_ f3_; have f4_ := f1_.symm; have f5_ := f3_.symm; clear f1_ f2_ f3_; subst f4_; subst f5_))
      refine start_ (n := 11) (S := fun w' => w'.cell? ⟨gb303, 0, none⟩ = some (.slice (some ad330) x304000_1.length co36) ∧ w'.cell? ⟨gb303, 1, none⟩ = some (.slice Ao37 x304001_2.length co37) ∧ w'.cell? ⟨gb303, 2, none⟩ = some (.slice Ao38 x304002_2.length co38) ∧ w'.cell? ⟨gb328, 0, none⟩ = some (.int .i64 t322) ∧ w'.cell? ⟨gb328, 1, none⟩ = some (.slice none 0 0) ∧ w'.cell? ⟨gb328, 2, none⟩ = some (.int .i64 (wrap64 (1 + t325))) ∧ w'.cell? (ad330.add (t322).toNat) = some (.int .i64 (rd x304000_1 t322))) (ds := []) #[ff, ff, ff, ff, ff, ff, ff, ff, ff, ff, ff] (by kernel_rfl) rfl rfl ⟨(blk_cell BK303.out 0).trans rfl, (blk_cell BK303.out 1).trans rfl, (blk_cell BK303.out 2).trans rfl, (blk_cell BK328.out 0).trans rfl, (blk_cell BK328.out 1).trans rfl, (blk_cell BK328.out 2).trans rfl, hx330_0⟩ (fun hHeld => ?_); refine with_tabW spec_l5Cur_state.tab13 spec_l5Cur_state.bits13 (fun HT_ HW_ => ?_)
      generalize w34.drew = w35 at HO_304000 HO_304001 HO_304002 BK302 BK303 BK328 HI0 HK HB hx330_0 hHeld ⊢
      refine pq_ 1 50 (M_ 11 2) HT_ ?_
      refine pq_ 4 53 (M_ 11 18) HT_ ?_
      refine pq_ 6 55 (M_ 11 82) HT_ ?_
      refine tq_ 0 49 (M_ 11 83) HT_ HW_ hHeld ?_
      refine tq_ 2 51 (M_ 11 87) HT_ HW_ hHeld ?_
      refine tq_ 5 54 (M_ 11 119) HT_ HW_ hHeld ?_
      refine tq_ 7 56 (M_ 11 247) HT_ HW_ hHeld ?_
      refine pq_ 8 57 (M_ 11 503) HT_ ?_
      refine tq_ 9 58 (M_ 11 1015) HT_ HW_ hHeld ?_
      refine one_ (i := 3) (N := some 52) (M_ 11 1023) rfl rfl (one_of HT_.out (by kernel_rfl)) (by decide) (fun K hK => ?_)
      refine goes_ Try.func39 (by kernel_rfl) rfl #[.agg #[.slice (some ad330) x304000_1.length co36, .slice Ao37 x304001_2.length co37, .slice Ao38 x304002_2.length co38], .int .i64 t322] (by rfl) rfl rfl (by simp only [List.map_toArray, List.map_cons, List.map_nil]; try rfl) ?_
      with_reducible refine (spec_l1there.calls k2 _ _ x304000_1 _ _ x304001_2 _ _ x304002_2 t322 t329 _ ?side1 ?side2 ?side3 ?side4 ?side5 ?side6 A23.out).mono ?_
      (case side1 => exact (Kd.R_reads' HO_304000.out).2.2)
      (case side2 => exact (Kd.R_reads' HO_304000.out).2.1)
      (case side3 => exact (Kd.S_reads' HO_304001.out).2.2)
      (case side4 => exact (Kd.S_reads' HO_304001.out).2.1)
      (case side5 => exact (Kd.R_reads' HO_304002.out).2.2)
      (case side6 => exact (Kd.R_reads' HO_304002.out).2.1)
      rintro e w39 ⟨rfl, hb⟩
      have HS6_ := (hb.cell (World.block_lt_of_cell? _ _ (hHeld.2.2.2.2.2.2))).trans (hHeld.2.2.2.2.2.2)
      refine ⟨_, rfl, ?_⟩
      replace HO_304000 := K_ (Kd.R_below HO_304000.out hb)
      replace HO_304001 := K_ (Kd.S_below HO_304001.out hb)
      replace HO_304002 := K_ (Kd.R_below HO_304002.out hb)
      replace BK302 := K_ (blk_below BK302.out hb)
      replace BK303 := K_ (blk_below BK303.out hb)
      replace BK328 := K_ (blk_below BK328.out hb)
      replace HK := K_ (KeepBut.trans (by repeat (first | (with_reducible first | exact HK.out | apply KeepBut.set_ | apply keep_drewN | apply keep_drew | apply keep_alloc | refine keep_far ?_ GW302.out _ | refine keep_far ?_ GW303.out _ | refine keep_far ?_ GW328.out _) | exact HK.out)) (KeepBut.of_below hb g none) (.inl rfl))
      replace HB := K_ (below_step (by repeat (first | (with_reducible first | exact HB.out | refine below_set ?_ (IsS58.ge HI0.out) | refine below_set ?_ GE302.out | refine below_set ?_ GE303.out | refine below_set ?_ GE328.out) | exact HB.out)) hb)
      replace HI0 := K_ (IsS58.below (by repeat (first | (with_reducible first | exact HI0.out | apply IsS58.alloc | apply IsS58.drewN | apply IsS58.drew | apply IsS58.set_1 | apply IsS58.set_2 | refine IsS58.far ?_ NB0_302.out _ | refine IsS58.far ?_ NB0_303.out _ | refine IsS58.far ?_ NB0_328.out _) | exact HI0.out)) hb)
      clear hb
      skip
      (try clear hk)
      skip
      refine hK.out _ _ ⟨(blk_cell BK303.out 0).trans rfl, (blk_cell BK303.out 1).trans rfl, (blk_cell BK303.out 2).trans rfl, (blk_cell BK328.out 0).trans rfl, (blk_cell BK328.out 1).trans rfl, (blk_cell BK328.out 2).trans rfl, HS6_⟩ (fun hHeld => ?_)
      clear hK K
      refine norm_ (a' := ?_) ?_ ?_
      rotate_left
      ·show Act.put _ (some 52) _ = _
       simp only [P_, i64_w, i32_w]
       rfl
      refine pq_ 10 59 (M_ 11 2047) HT_ ?_
      refine done_ (done_of HT_.out (by kernel_rfl)) ?_
      try go_wp2
      go_roundg k2
      case measure => have := HK1.out; have := HK2.out; omega
      case rel => exact ⟨(x6_2), (wrap64 (x8_2 - 1)), (t326), (t327), (x304001_2), (x304002_2), (.slice Ao37 x304001_2.length co37), (.slice Ao38 x304002_2.length co38), rfl, rfl, H', ⟨by have := HK1.out; have := HK2.out; omega⟩, ⟨HO_304000.out⟩, ⟨by exact Kd.S_mono HO_304001.out (fun _ hk => ⟨hk.1, hk.2.1⟩)⟩, ⟨HO_304002.out⟩, ⟨BK302.out⟩, ⟨BK303.out⟩, ⟨by repeat (first | (with_reducible first | exact HI0.out | apply IsS58.alloc | apply IsS58.drewN | apply IsS58.drew | apply IsS58.set_1 | apply IsS58.set_2 | refine IsS58.far ?_ NB0_302.out _ | refine IsS58.far ?_ NB0_303.out _ | refine IsS58.far ?_ NB0_328.out _) | exact HI0.out)⟩, ⟨by repeat (first | (with_reducible first | exact HK.out | apply KeepBut.set_ | apply keep_drewN | apply keep_drew | apply keep_alloc | refine keep_far ?_ GW302.out _ | refine keep_far ?_ GW303.out _ | refine keep_far ?_ GW328.out _) | exact HK.out)⟩, ⟨by repeat (first | (with_reducible first | exact HB.out | refine below_set ?_ (IsS58.ge HI0.out) | refine below_set ?_ GE302.out | refine below_set ?_ GE303.out | refine below_set ?_ GE328.out) | exact HB.out)⟩⟩
     have c26b0 := decide_eq_false c26
     clear c26
     replace H := Option.bind_eq_some_iff.mp H
     obtain ⟨⟨t331, t332, t333⟩, A400, H⟩ := H
     try dsimp only at H
     have A40 := K_ A400
     clear A400
     replace H := Option.bind_eq_some_iff.mp H
     obtain ⟨⟨t334, t335, t336⟩, A410, H⟩ := H
     try dsimp only at H
     have A41 := K_ A410
     clear A410
     have H' := K_ H
     clear H
     try go_wp2_with (first | ((with_reducible refine gate_callee (f := 46) rfl ?_); refine goesL_ (some 44) rfl rfl Try.func46 (by kernel_rfl) rfl #[.pointer (some ⟨g, 0, none⟩), .int .i64 (wrap64 (3 + t304))] rfl (by simp only [List.map_toArray, List.map_cons, List.map_nil]; try rfl) ?_; (with_reducible refine (spec_l5Cur_pick.calls g s0_0 x1001_2 x1002_2 (wrap64 (3 + t304)) t322 t323 t324 w0 _ ?side1 ?side2 A21.out).mono ?_); (case side1 => repeat (first | (with_reducible first | exact HI0.out | apply IsS58.alloc | apply IsS58.drewN | apply IsS58.drew | apply IsS58.set_1 | apply IsS58.set_2 | refine IsS58.far ?_ NB0_302.out _ | refine IsS58.far ?_ NB0_303.out _) | exact HI0.out)); (case side2 => repeat (first | (with_reducible first | exact HB.out | refine below_set ?_ (IsS58.ge HI0.out) | refine below_set ?_ GE302.out | refine below_set ?_ GE303.out) | exact HB.out)); rintro e w42 ⟨rfl, hi, hb, hk⟩; refine ⟨_, rfl, ?_⟩; replace HO_304000 := K_ (Kd.R_mono (Kd.R_keep (IsS58.apart (show IsS58 w0 _ g s0_0 x1001_2 x1002_2 from by repeat (first | (with_reducible first | exact HI0.out | apply IsS58.alloc | apply IsS58.drewN | apply IsS58.drew | apply IsS58.set_1 | apply IsS58.set_2 | refine IsS58.far ?_ NB0_302.out _ | refine IsS58.far ?_ NB0_303.out _) | exact HI0.out)) HO_304000.out (by decide)) hk (fun _ h => h.2)) (fun _ h => h.1)); replace HO_304001 := K_ (Kd.S_mono (Kd.S_keep (IsS58.apartS (show IsS58 w0 _ g s0_0 x1001_2 x1002_2 from by repeat (first | (with_reducible first | exact HI0.out | apply IsS58.alloc | apply IsS58.drewN | apply IsS58.drew | apply IsS58.set_1 | apply IsS58.set_2 | refine IsS58.far ?_ NB0_302.out _ | refine IsS58.far ?_ NB0_303.out _) | exact HI0.out)) HO_304001.out (by decide)) hk (fun _ h => h.2)) (fun _ h => h.1)); replace HO_304002 := K_ (Kd.R_mono (Kd.R_keep (IsS58.apart (show IsS58 w0 _ g s0_0 x1001_2 x1002_2 from by repeat (first | (with_reducible first | exact HI0.out | apply IsS58.alloc | apply IsS58.drewN | apply IsS58.drew | apply IsS58.set_1 | apply IsS58.set_2 | refine IsS58.far ?_ NB0_302.out _ | refine IsS58.far ?_ NB0_303.out _) | exact HI0.out)) HO_304002.out (by decide)) hk (fun _ h => h.2)) (fun _ h => h.1)); replace BK302 := K_ (KeepBut.blk hk (g' := gb302) (o := .cells #[.slice none 0 0, .slice none 0 0, .slice none 0 0] 30 (0, 0)) BK302.out NB302_0.out (by simp)); replace BK303 := K_ (KeepBut.blk hk (g' := gb303) (o := .cells #[u304000, u304001, u304002] 30 (0, 0)) BK303.out NB303_0.out (by simp)); replace HK := K_ (KeepBut.trans (by repeat (first | (with_reducible first | exact HK.out | apply KeepBut.set_ | apply keep_drewN | apply keep_drew | apply keep_alloc | refine keep_far ?_ GW302.out _ | refine keep_far ?_ GW303.out _) | exact HK.out)) hk (.inl rfl)); replace HB := K_ (hb); replace HI0 := K_ (hi); clear hb hk hi) | ((with_reducible refine gate_callee (f := 46) rfl ?_); refine goesL_ (some 46) rfl rfl Try.func46 (by kernel_rfl) rfl #[.pointer (some ⟨g, 0, none⟩), .int .i64 5] rfl (by simp only [List.map_toArray, List.map_cons, List.map_nil]; try rfl) ?_; (with_reducible refine (spec_l5Cur_pick.calls g s0_0 t323 t324 5 t325 t326 t327 w0 _ ?side1 ?side2 A22.out).mono ?_); (case side1 => repeat (first | (with_reducible first | exact HI0.out | apply IsS58.alloc | apply IsS58.drewN | apply IsS58.drew | apply IsS58.set_1 | apply IsS58.set_2 | refine IsS58.far ?_ NB0_302.out _ | refine IsS58.far ?_ NB0_303.out _) | exact HI0.out)); (case side2 => repeat (first | (with_reducible first | exact HB.out | refine below_set ?_ (IsS58.ge HI0.out) | refine below_set ?_ GE302.out | refine below_set ?_ GE303.out) | exact HB.out)); rintro e w43 ⟨rfl, hi, hb, hk⟩; refine ⟨_, rfl, ?_⟩; replace HO_304000 := K_ (Kd.R_mono (Kd.R_keep (IsS58.apart (show IsS58 w0 _ g s0_0 t323 t324 from by repeat (first | (with_reducible first | exact HI0.out | apply IsS58.alloc | apply IsS58.drewN | apply IsS58.drew | apply IsS58.set_1 | apply IsS58.set_2 | refine IsS58.far ?_ NB0_302.out _ | refine IsS58.far ?_ NB0_303.out _) | exact HI0.out)) HO_304000.out (by decide)) hk (fun _ h => h.2)) (fun _ h => h.1)); replace HO_304001 := K_ (Kd.S_mono (Kd.S_keep (IsS58.apartS (show IsS58 w0 _ g s0_0 t323 t324 from by repeat (first | (with_reducible first | exact HI0.out | apply IsS58.alloc | apply IsS58.drewN | apply IsS58.drew | apply IsS58.set_1 | apply IsS58.set_2 | refine IsS58.far ?_ NB0_302.out _ | refine IsS58.far ?_ NB0_303.out _) | exact HI0.out)) HO_304001.out (by decide)) hk (fun _ h => h.2)) (fun _ h => h.1)); replace HO_304002 := K_ (Kd.R_mono (Kd.R_keep (IsS58.apart (show IsS58 w0 _ g s0_0 t323 t324 from by repeat (first | (with_reducible first | exact HI0.out | apply IsS58.alloc | apply IsS58.drewN | apply IsS58.drew | apply IsS58.set_1 | apply IsS58.set_2 | refine IsS58.far ?_ NB0_302.out _ | refine IsS58.far ?_ NB0_303.out _) | exact HI0.out)) HO_304002.out (by decide)) hk (fun _ h => h.2)) (fun _ h => h.1)); replace BK302 := K_ (KeepBut.blk hk (g' := gb302) (o := .cells #[.slice none 0 0, .slice none 0 0, .slice none 0 0] 30 (0, 0)) BK302.out NB302_0.out (by simp)); replace BK303 := K_ (KeepBut.blk hk (g' := gb303) (o := .cells #[u304000, u304001, u304002] 30 (0, 0)) BK303.out NB303_0.out (by simp)); replace HK := K_ (KeepBut.trans (by repeat (first | (with_reducible first | exact HK.out | apply KeepBut.set_ | apply keep_drewN | apply keep_drew | apply keep_alloc | refine keep_far ?_ GW302.out _ | refine keep_far ?_ GW303.out _) | exact HK.out)) hk (.inl rfl)); replace HB := K_ (hb); replace HI0 := K_ (hi); clear hb hk hi) | ((with_reducible refine gate_dst (N := 9) rfl ?_); refine box_event (by rfl) (N := 9) (by rfl) (cs := #[.int .i64 0, .slice none 0 0, .int .i64 0]) (t := 40) (by go_simp; try rfl) ?_; intro gb328 hg w44 hbox hb; have BK328 := K_ (hbox); have GW328 := K_ ((by rw [hg]; exact (keep_size (w := w) (g := g) (row := none) (by repeat (first | (with_reducible first | exact HK.out | apply KeepBut.set_ | apply keep_drewN | apply keep_drew | apply keep_alloc | refine keep_far ?_ GW302.out _ | refine keep_far ?_ GW303.out _) | exact HK.out))) : w.heap.size ≤ gb328)); have GE328 := K_ ((Nat.le_trans HW0.out (by rw [hg]; exact (keep_size (w := w) (g := g) (row := none) (by repeat (first | (with_reducible first | exact HK.out | apply KeepBut.set_ | apply keep_drewN | apply keep_drew | apply keep_alloc | refine keep_far ?_ GW302.out _ | refine keep_far ?_ GW303.out _) | exact HK.out))) : w.heap.size ≤ gb328) : w0.heap.size ≤ gb328)); have NB302_328 := nl_ hg BK302.out; have NB328_302 := ng_ hg BK302.out; have NB303_328 := nl_ hg BK303.out; have NB328_303 := ng_ hg BK303.out; have NB0_328 := K_ ((by rw [hg]; exact Nat.ne_of_lt (IsS58.lt (show IsS58 w0 _ g s0_0 t326 t327 from by repeat (first | (with_reducible first | exact HI0.out | apply IsS58.alloc | apply IsS58.drewN | apply IsS58.drew | apply IsS58.set_1 | apply IsS58.set_2 | refine IsS58.far ?_ NB0_302.out _ | refine IsS58.far ?_ NB0_303.out _) | exact HI0.out))) : g ≠ gb328)); have NB328_0 := K_ ((by rw [hg]; exact Nat.ne_of_gt (IsS58.lt (show IsS58 w0 _ g s0_0 t326 t327 from by repeat (first | (with_reducible first | exact HI0.out | apply IsS58.alloc | apply IsS58.drewN | apply IsS58.drew | apply IsS58.set_1 | apply IsS58.set_2 | refine IsS58.far ?_ NB0_302.out _ | refine IsS58.far ?_ NB0_303.out _) | exact HI0.out))) : gb328 ≠ g)); replace HO_304000 := K_ (Kd.R_below HO_304000.out hb); replace HO_304001 := K_ (Kd.S_below (Kd.S_elderB HO_304001.out gb328 (Nat.le_of_eq hg.symm)) hb); replace HO_304002 := K_ (Kd.R_below HO_304002.out hb); replace BK302 := K_ (blk_below BK302.out hb); replace BK303 := K_ (blk_below BK303.out hb); replace HK := K_ (KeepBut.trans (by repeat (first | (with_reducible first | exact HK.out | apply KeepBut.set_ | apply keep_drewN | apply keep_drew | apply keep_alloc | refine keep_far ?_ GW302.out _ | refine keep_far ?_ GW303.out _) | exact HK.out)) (KeepBut.of_below hb g none) (.inl rfl)); replace HB := K_ (below_step (by repeat (first | (with_reducible first | exact HB.out | refine below_set ?_ (IsS58.ge HI0.out) | refine below_set ?_ GE302.out | refine below_set ?_ GE303.out) | exact HB.out)) hb); replace HI0 := K_ (IsS58.below (by repeat (first | (with_reducible first | exact HI0.out | apply IsS58.alloc | apply IsS58.drewN | apply IsS58.drew | apply IsS58.set_1 | apply IsS58.set_2 | refine IsS58.far ?_ NB0_302.out _ | refine IsS58.far ?_ NB0_303.out _) | exact HI0.out)) hb); clear hb hbox hg; have hnb45 := NB328_302.out; have hnc45 := NB302_328.out; have hnb46 := NB328_303.out; have hnc46 := NB303_328.out; have hnb47 := NB328_0.out; have hnc47 := NB0_328.out; obtain ⟨hcz48_0, hcz48_1, hcz48_2, hfz48_0, hfz48_1, hfz48_2⟩ := blkf3_ BK328.out))
     have n0_ : Aside0 (Kd.R (Kd.int .i64) 3 (((w44.setCell ⟨gb328, 0, none⟩ (.int .i64 t322)).setCell ⟨gb328, 1, none⟩ (.slice none 0 0)).setCell ⟨gb328, 2, none⟩ (.int .i64 (wrap64 (1 + t325)))) w.heap.size (fun k_ => X_ k_ u304002) u304000 x304000_1) := ⟨by exact Kd.R_mono (Kd.R_far (p := ⟨gb328, 2, none⟩) (Kd.R_far (p := ⟨gb328, 1, none⟩) (Kd.R_far (p := ⟨gb328, 0, none⟩) (Kd.R_types HO_304000.out BK328.out (by decide)) (fun _ hk => hk.2) (.int .i64 t322)) (fun _ hk => hk.2) (.slice none 0 0)) (fun _ hk => hk.2) (.int .i64 (wrap64 (1 + t325)))) (fun _ hk => hk.1)⟩
     have n1_ : Aside0 (Kd.S k40 40 (((w44.setCell ⟨gb328, 0, none⟩ (.int .i64 t322)).setCell ⟨gb328, 1, none⟩ (.slice none 0 0)).setCell ⟨gb328, 2, none⟩ (.int .i64 (wrap64 (1 + t325)))) w.heap.size (fun k_ => X_ k_ u304000 ∧ X_ k_ u304002 ∧ k_ ≠ gb328) u304001 x304001_2) := ⟨by exact Kd.S_mono (Kd.S_far (p := ⟨gb328, 2, none⟩) (Kd.S_far (p := ⟨gb328, 1, none⟩) (Kd.S_far (p := ⟨gb328, 0, none⟩) (Kd.S_mono HO_304001.out (fun k_ hk => (⟨hk, hk.2⟩ : _ ∧ k_ ≠ gb328))) (fun _ hk => hk.2) (.int .i64 t322)) (fun _ hk => hk.2) (.slice none 0 0)) (fun _ hk => hk.2) (.int .i64 (wrap64 (1 + t325)))) (fun _ hk => ⟨hk.1.1.1, ⟨hk.1.1.2, hk.1.2⟩⟩)⟩
     have n2_ : Aside0 (Kd.R (Kd.int .i64) 3 (((w44.setCell ⟨gb328, 0, none⟩ (.int .i64 t322)).setCell ⟨gb328, 1, none⟩ (.slice none 0 0)).setCell ⟨gb328, 2, none⟩ (.int .i64 (wrap64 (1 + t325)))) w.heap.size (fun k_ => X_ k_ u304000) u304002 x304002_2) := ⟨by exact Kd.R_mono (Kd.R_far (p := ⟨gb328, 2, none⟩) (Kd.R_far (p := ⟨gb328, 1, none⟩) (Kd.R_far (p := ⟨gb328, 0, none⟩) (Kd.R_types HO_304002.out BK328.out (by decide)) (fun _ hk => hk.2) (.int .i64 t322)) (fun _ hk => hk.2) (.slice none 0 0)) (fun _ hk => hk.2) (.int .i64 (wrap64 (1 + t325)))) (fun _ hk => hk.1)⟩
     have n3_ : Aside0 ((((w44.setCell ⟨gb328, 0, none⟩ (.int .i64 t322)).setCell ⟨gb328, 1, none⟩ (.slice none 0 0)).setCell ⟨gb328, 2, none⟩ (.int .i64 (wrap64 (1 + t325)))).heap[gb302]? = some (.cells #[.slice none 0 0, .slice none 0 0, .slice none 0 0] 30 (0, 0))) := ⟨by refine blk_far ?_ NB302_328.out _; refine blk_far ?_ NB302_328.out _; refine blk_far ?_ NB302_328.out _; exact BK302.out⟩
     have n4_ : Aside0 ((((w44.setCell ⟨gb328, 0, none⟩ (.int .i64 t322)).setCell ⟨gb328, 1, none⟩ (.slice none 0 0)).setCell ⟨gb328, 2, none⟩ (.int .i64 (wrap64 (1 + t325)))).heap[gb303]? = some (.cells #[u304000, u304001, u304002] 30 (0, 0))) := ⟨by refine blk_far ?_ NB303_328.out _; refine blk_far ?_ NB303_328.out _; refine blk_far ?_ NB303_328.out _; exact BK303.out⟩
     have n5_ : Aside0 ((((w44.setCell ⟨gb328, 0, none⟩ (.int .i64 t322)).setCell ⟨gb328, 1, none⟩ (.slice none 0 0)).setCell ⟨gb328, 2, none⟩ (.int .i64 (wrap64 (1 + t325)))).heap[gb328]? = some (.cells #[.int .i64 t322, .slice none 0 0, .int .i64 (wrap64 (1 + t325))] 40 (0, 0))) := ⟨by refine blk_put (cs := #[.int .i64 t322, .slice none 0 0, .int .i64 0]) ?_ 2 _ rfl; refine blk_put (cs := #[.int .i64 t322, .slice none 0 0, .int .i64 0]) ?_ 1 _ rfl; refine blk_put (cs := #[.int .i64 0, .slice none 0 0, .int .i64 0]) ?_ 0 _ rfl; exact BK328.out⟩
     have n6_ : Aside0 (IsS58 w0 (((w44.setCell ⟨gb328, 0, none⟩ (.int .i64 t322)).setCell ⟨gb328, 1, none⟩ (.slice none 0 0)).setCell ⟨gb328, 2, none⟩ (.int .i64 (wrap64 (1 + t325)))) g s0_0 t326 t327) := ⟨by repeat (first | (with_reducible first | exact HI0.out | apply IsS58.alloc | apply IsS58.drewN | apply IsS58.drew | apply IsS58.set_1 | apply IsS58.set_2 | refine IsS58.far ?_ NB0_302.out _ | refine IsS58.far ?_ NB0_303.out _ | refine IsS58.far ?_ NB0_328.out _) | exact HI0.out)⟩
     have n7_ : Aside0 (KeepBut w (((w44.setCell ⟨gb328, 0, none⟩ (.int .i64 t322)).setCell ⟨gb328, 1, none⟩ (.slice none 0 0)).setCell ⟨gb328, 2, none⟩ (.int .i64 (wrap64 (1 + t325)))) g none) := ⟨by repeat (first | (with_reducible first | exact HK.out | apply KeepBut.set_ | apply keep_drewN | apply keep_drew | apply keep_alloc | refine keep_far ?_ GW302.out _ | refine keep_far ?_ GW303.out _ | refine keep_far ?_ GW328.out _) | exact HK.out)⟩
     have n8_ : Aside0 (Below w0.heap.size w0 (((w44.setCell ⟨gb328, 0, none⟩ (.int .i64 t322)).setCell ⟨gb328, 1, none⟩ (.slice none 0 0)).setCell ⟨gb328, 2, none⟩ (.int .i64 (wrap64 (1 + t325))))) := ⟨by repeat (first | (with_reducible first | exact HB.out | refine below_set ?_ (IsS58.ge HI0.out) | refine below_set ?_ GE302.out | refine below_set ?_ GE303.out | refine below_set ?_ GE328.out) | exact HB.out)⟩
     clear HO_304000
     clear HO_304001
     clear HO_304002
     clear BK302
     clear BK303
     clear BK328
     clear HI0
     clear HK
     clear HB
     generalize (((w44.setCell ⟨gb328, 0, none⟩ (.int .i64 t322)).setCell ⟨gb328, 1, none⟩ (.slice none 0 0)).setCell ⟨gb328, 2, none⟩ (.int .i64 (wrap64 (1 + t325)))) = w49 at n0_ n1_ n2_ n3_ n4_ n5_ n6_ n7_ n8_ ⊢
     have HO_304000 := n0_
     have HO_304001 := n1_
     have HO_304002 := n2_
     have BK302 := n3_
     have BK303 := n4_
     have BK328 := n5_
     have HI0 := n6_
     have HK := n7_
     have HB := n8_
     clear n0_ n1_ n2_ n3_ n4_ n5_ n6_ n7_ n8_
     replace HO_304000 := K_ (Kd.R_drew HO_304000.out)
     replace HO_304001 := K_ (Kd.S_drew HO_304001.out)
     replace HO_304002 := K_ (Kd.R_drew HO_304002.out)
     replace BK302 := K_ (blk_drew BK302.out)
     replace BK303 := K_ (blk_drew BK303.out)
     replace BK328 := K_ (blk_drew BK328.out)
     replace HI0 := K_ (IsS58.drew HI0.out)
     replace HK := K_ (keep_drew HK.out)
     replace HB := K_ (below_drew1 HB.out)
     obtain ⟨Ao51, co51, eo51⟩ := Kd.R_slice HO_304000.out
     (first | subst eo51 | (injection eo51 with f1_ f2_ f3_; have f4_ := f1_.symm; have f5_ := f3_.symm; clear f1_ f2_ f3_; subst f4_; subst f5_))
     have p330 : 0 ≤ (t322 : Int) := of_decide_eq_true (by assumption)
     have q330 : t322 < (x304000_1.length : Int) := of_decide_eq_true (by assumption)
     obtain ⟨ad330, e330, hx330_0⟩ := Kd.at_int (Kd.R_reads' HO_304000.out).2.2 t322 p330 q330
     cases e330
     replace p330 := eq_true p330
     replace q330 := eq_true q330
     obtain ⟨Ao52, co52, eo52⟩ := Kd.S_slice HO_304001.out
     (first | subst eo52 | (injection eo52 with f1_ f2_ f3_; have f4_ := f1_.symm; have f5_ := f3_.symm; clear f1_ f2_ f3_; subst f4_; subst f5_))
     obtain ⟨Ao53, co53, eo53⟩ := Kd.R_slice HO_304002.out
     (first | subst eo53 | (injection eo53 with f1_ f2_ f3_; have f4_ := f1_.symm; have f5_ := f3_.symm; clear f1_ f2_ f3_; subst f4_; subst f5_))
     refine start_ (n := 11) (S := fun w' => w'.cell? ⟨gb303, 0, none⟩ = some (.slice (some ad330) x304000_1.length co51) ∧ w'.cell? ⟨gb303, 1, none⟩ = some (.slice Ao52 x304001_2.length co52) ∧ w'.cell? ⟨gb303, 2, none⟩ = some (.slice Ao53 x304002_2.length co53) ∧ w'.cell? ⟨gb328, 0, none⟩ = some (.int .i64 t322) ∧ w'.cell? ⟨gb328, 1, none⟩ = some (.slice none 0 0) ∧ w'.cell? ⟨gb328, 2, none⟩ = some (.int .i64 (wrap64 (1 + t325))) ∧ w'.cell? (ad330.add (t322).toNat) = some (.int .i64 (rd x304000_1 t322))) (ds := []) #[ff, ff, ff, ff, ff, ff, ff, ff, ff, ff, ff] (by kernel_rfl) rfl rfl ⟨(blk_cell BK303.out 0).trans rfl, (blk_cell BK303.out 1).trans rfl, (blk_cell BK303.out 2).trans rfl, (blk_cell BK328.out 0).trans rfl, (blk_cell BK328.out 1).trans rfl, (blk_cell BK328.out 2).trans rfl, hx330_0⟩ (fun hHeld => ?_); refine with_tabW spec_l5Cur_state.tab13 spec_l5Cur_state.bits13 (fun HT_ HW_ => ?_)
     generalize w49.drew = w50 at HO_304000 HO_304001 HO_304002 BK302 BK303 BK328 HI0 HK HB hx330_0 hHeld ⊢
     refine pq_ 1 50 (M_ 11 2) HT_ ?_
     refine pq_ 4 53 (M_ 11 18) HT_ ?_
     refine pq_ 6 55 (M_ 11 82) HT_ ?_
     refine tq_ 0 49 (M_ 11 83) HT_ HW_ hHeld ?_
     refine tq_ 2 51 (M_ 11 87) HT_ HW_ hHeld ?_
     refine tq_ 5 54 (M_ 11 119) HT_ HW_ hHeld ?_
     refine tq_ 7 56 (M_ 11 247) HT_ HW_ hHeld ?_
     refine pq_ 8 57 (M_ 11 503) HT_ ?_
     refine tq_ 9 58 (M_ 11 1015) HT_ HW_ hHeld ?_
     refine one_ (i := 3) (N := some 52) (M_ 11 1023) rfl rfl (one_of HT_.out (by kernel_rfl)) (by decide) (fun K hK => ?_)
     refine goes_ Try.func39 (by kernel_rfl) rfl #[.agg #[.slice (some ad330) x304000_1.length co51, .slice Ao52 x304001_2.length co52, .slice Ao53 x304002_2.length co53], .int .i64 t322] (by rfl) rfl rfl (by simp only [List.map_toArray, List.map_cons, List.map_nil]; try rfl) ?_
     with_reducible refine (spec_l1there.calls k2 _ _ x304000_1 _ _ x304001_2 _ _ x304002_2 t322 t329 _ ?side1 ?side2 ?side3 ?side4 ?side5 ?side6 A23.out).mono ?_
     (case side1 => exact (Kd.R_reads' HO_304000.out).2.2)
     (case side2 => exact (Kd.R_reads' HO_304000.out).2.1)
     (case side3 => exact (Kd.S_reads' HO_304001.out).2.2)
     (case side4 => exact (Kd.S_reads' HO_304001.out).2.1)
     (case side5 => exact (Kd.R_reads' HO_304002.out).2.2)
     (case side6 => exact (Kd.R_reads' HO_304002.out).2.1)
     rintro e w54 ⟨rfl, hb⟩
     have HS6_ := (hb.cell (World.block_lt_of_cell? _ _ (hHeld.2.2.2.2.2.2))).trans (hHeld.2.2.2.2.2.2)
     refine ⟨_, rfl, ?_⟩
     replace HO_304000 := K_ (Kd.R_below HO_304000.out hb)
     replace HO_304001 := K_ (Kd.S_below HO_304001.out hb)
     replace HO_304002 := K_ (Kd.R_below HO_304002.out hb)
     replace BK302 := K_ (blk_below BK302.out hb)
     replace BK303 := K_ (blk_below BK303.out hb)
     replace BK328 := K_ (blk_below BK328.out hb)
     replace HK := K_ (KeepBut.trans (by repeat (first | (with_reducible first | exact HK.out | apply KeepBut.set_ | apply keep_drewN | apply keep_drew | apply keep_alloc | refine keep_far ?_ GW302.out _ | refine keep_far ?_ GW303.out _ | refine keep_far ?_ GW328.out _) | exact HK.out)) (KeepBut.of_below hb g none) (.inl rfl))
     replace HB := K_ (below_step (by repeat (first | (with_reducible first | exact HB.out | refine below_set ?_ (IsS58.ge HI0.out) | refine below_set ?_ GE302.out | refine below_set ?_ GE303.out | refine below_set ?_ GE328.out) | exact HB.out)) hb)
     replace HI0 := K_ (IsS58.below (by repeat (first | (with_reducible first | exact HI0.out | apply IsS58.alloc | apply IsS58.drewN | apply IsS58.drew | apply IsS58.set_1 | apply IsS58.set_2 | refine IsS58.far ?_ NB0_302.out _ | refine IsS58.far ?_ NB0_303.out _ | refine IsS58.far ?_ NB0_328.out _) | exact HI0.out)) hb)
     clear hb
     skip
     (try clear hk)
     skip
     refine hK.out _ _ ⟨(blk_cell BK303.out 0).trans rfl, (blk_cell BK303.out 1).trans rfl, (blk_cell BK303.out 2).trans rfl, (blk_cell BK328.out 0).trans rfl, (blk_cell BK328.out 1).trans rfl, (blk_cell BK328.out 2).trans rfl, HS6_⟩ (fun hHeld => ?_)
     clear hK K
     refine norm_ (a' := ?_) ?_ ?_
     rotate_left
     ·show Act.put _ (some 52) _ = _
      simp only [P_, i64_w, i32_w]
      rfl
     refine pq_ 10 59 (M_ 11 2047) HT_ ?_
     refine done_ (done_of HT_.out (by kernel_rfl)) ?_
     try go_wp2_with (first | ((with_reducible refine gate_callee (f := 46) rfl ?_); refine goesL_ (some 61) rfl rfl Try.func46 (by kernel_rfl) rfl #[.pointer (some ⟨g, 0, none⟩), .int .i64 2] rfl (by simp only [List.map_toArray, List.map_cons, List.map_nil]; try rfl) ?_; (with_reducible refine (spec_l5Cur_pick.calls g s0_0 t326 t327 2 t331 t332 t333 w0 _ ?side1 ?side2 A40.out).mono ?_); (case side1 => repeat (first | (with_reducible first | exact HI0.out | apply IsS58.alloc | apply IsS58.drewN | apply IsS58.drew | apply IsS58.set_1 | apply IsS58.set_2 | refine IsS58.far ?_ NB0_302.out _ | refine IsS58.far ?_ NB0_303.out _ | refine IsS58.far ?_ NB0_328.out _) | exact HI0.out)); (case side2 => repeat (first | (with_reducible first | exact HB.out | refine below_set ?_ (IsS58.ge HI0.out) | refine below_set ?_ GE302.out | refine below_set ?_ GE303.out | refine below_set ?_ GE328.out) | exact HB.out)); rintro e w55 ⟨rfl, hi, hb, hk⟩; refine ⟨_, rfl, ?_⟩; replace HO_304000 := K_ (Kd.R_mono (Kd.R_keep (IsS58.apart (show IsS58 w0 _ g s0_0 t326 t327 from by repeat (first | (with_reducible first | exact HI0.out | apply IsS58.alloc | apply IsS58.drewN | apply IsS58.drew | apply IsS58.set_1 | apply IsS58.set_2 | refine IsS58.far ?_ NB0_302.out _ | refine IsS58.far ?_ NB0_303.out _ | refine IsS58.far ?_ NB0_328.out _) | exact HI0.out)) HO_304000.out (by decide)) hk (fun _ h => h.2)) (fun _ h => h.1)); replace HO_304001 := K_ (Kd.S_mono (Kd.S_keep (IsS58.apartS (show IsS58 w0 _ g s0_0 t326 t327 from by repeat (first | (with_reducible first | exact HI0.out | apply IsS58.alloc | apply IsS58.drewN | apply IsS58.drew | apply IsS58.set_1 | apply IsS58.set_2 | refine IsS58.far ?_ NB0_302.out _ | refine IsS58.far ?_ NB0_303.out _ | refine IsS58.far ?_ NB0_328.out _) | exact HI0.out)) HO_304001.out (by decide)) hk (fun _ h => h.2)) (fun _ h => h.1)); replace HO_304002 := K_ (Kd.R_mono (Kd.R_keep (IsS58.apart (show IsS58 w0 _ g s0_0 t326 t327 from by repeat (first | (with_reducible first | exact HI0.out | apply IsS58.alloc | apply IsS58.drewN | apply IsS58.drew | apply IsS58.set_1 | apply IsS58.set_2 | refine IsS58.far ?_ NB0_302.out _ | refine IsS58.far ?_ NB0_303.out _ | refine IsS58.far ?_ NB0_328.out _) | exact HI0.out)) HO_304002.out (by decide)) hk (fun _ h => h.2)) (fun _ h => h.1)); replace BK302 := K_ (KeepBut.blk hk (g' := gb302) (o := .cells #[.slice none 0 0, .slice none 0 0, .slice none 0 0] 30 (0, 0)) BK302.out NB302_0.out (by simp)); replace BK303 := K_ (KeepBut.blk hk (g' := gb303) (o := .cells #[.slice (some ad330) x304000_1.length co51, .slice Ao52 x304001_2.length co52, .slice Ao53 x304002_2.length co53] 30 (0, 0)) BK303.out NB303_0.out (by simp)); replace BK328 := K_ (KeepBut.blk hk (g' := gb328) (o := .cells #[.int .i64 t322, .slice none 0 0, .int .i64 (wrap64 (1 + t325))] 40 (0, 0)) BK328.out NB328_0.out (by simp)); replace HK := K_ (KeepBut.trans (by repeat (first | (with_reducible first | exact HK.out | apply KeepBut.set_ | apply keep_drewN | apply keep_drew | apply keep_alloc | refine keep_far ?_ GW302.out _ | refine keep_far ?_ GW303.out _ | refine keep_far ?_ GW328.out _) | exact HK.out)) hk (.inl rfl)); replace HB := K_ (hb); replace HI0 := K_ (hi); clear hb hk hi; obtain ⟨hcz56_0, hcz56_1, hcz56_2, hfz56_0, hfz56_1, hfz56_2⟩ := blkf3_ BK328.out) | ((with_reducible refine gate_callee (f := 46) rfl ?_); refine goesL_ (some 69) rfl rfl Try.func46 (by kernel_rfl) rfl #[.pointer (some ⟨g, 0, none⟩), .int .i64 6] rfl (by simp only [List.map_toArray, List.map_cons, List.map_nil]; try rfl) ?_; (with_reducible refine (spec_l5Cur_pick.calls g s0_0 t332 t333 6 t334 t335 t336 w0 _ ?side1 ?side2 A41.out).mono ?_); (case side1 => repeat (first | (with_reducible first | exact HI0.out | apply IsS58.alloc | apply IsS58.drewN | apply IsS58.drew | apply IsS58.set_1 | apply IsS58.set_2 | refine IsS58.far ?_ NB0_302.out _ | refine IsS58.far ?_ NB0_303.out _ | refine IsS58.far ?_ NB0_328.out _) | exact HI0.out)); (case side2 => repeat (first | (with_reducible first | exact HB.out | refine below_set ?_ (IsS58.ge HI0.out) | refine below_set ?_ GE302.out | refine below_set ?_ GE303.out | refine below_set ?_ GE328.out) | exact HB.out)); rintro e w57 ⟨rfl, hi, hb, hk⟩; refine ⟨_, rfl, ?_⟩; replace HO_304000 := K_ (Kd.R_mono (Kd.R_keep (IsS58.apart (show IsS58 w0 _ g s0_0 t332 t333 from by repeat (first | (with_reducible first | exact HI0.out | apply IsS58.alloc | apply IsS58.drewN | apply IsS58.drew | apply IsS58.set_1 | apply IsS58.set_2 | refine IsS58.far ?_ NB0_302.out _ | refine IsS58.far ?_ NB0_303.out _ | refine IsS58.far ?_ NB0_328.out _) | exact HI0.out)) HO_304000.out (by decide)) hk (fun _ h => h.2)) (fun _ h => h.1)); replace HO_304001 := K_ (Kd.S_mono (Kd.S_keep (IsS58.apartS (show IsS58 w0 _ g s0_0 t332 t333 from by repeat (first | (with_reducible first | exact HI0.out | apply IsS58.alloc | apply IsS58.drewN | apply IsS58.drew | apply IsS58.set_1 | apply IsS58.set_2 | refine IsS58.far ?_ NB0_302.out _ | refine IsS58.far ?_ NB0_303.out _ | refine IsS58.far ?_ NB0_328.out _) | exact HI0.out)) HO_304001.out (by decide)) hk (fun _ h => h.2)) (fun _ h => h.1)); replace HO_304002 := K_ (Kd.R_mono (Kd.R_keep (IsS58.apart (show IsS58 w0 _ g s0_0 t332 t333 from by repeat (first | (with_reducible first | exact HI0.out | apply IsS58.alloc | apply IsS58.drewN | apply IsS58.drew | apply IsS58.set_1 | apply IsS58.set_2 | refine IsS58.far ?_ NB0_302.out _ | refine IsS58.far ?_ NB0_303.out _ | refine IsS58.far ?_ NB0_328.out _) | exact HI0.out)) HO_304002.out (by decide)) hk (fun _ h => h.2)) (fun _ h => h.1)); replace BK302 := K_ (KeepBut.blk hk (g' := gb302) (o := .cells #[.slice none 0 0, .slice none 0 0, .slice none 0 0] 30 (0, 0)) BK302.out NB302_0.out (by simp)); replace BK303 := K_ (KeepBut.blk hk (g' := gb303) (o := .cells #[.slice (some ad330) x304000_1.length co51, .slice Ao52 x304001_2.length co52, .slice Ao53 x304002_2.length co53] 30 (0, 0)) BK303.out NB303_0.out (by simp)); replace BK328 := K_ (KeepBut.blk hk (g' := gb328) (o := .cells #[.int .i64 t322, .slice none 0 0, .int .i64 (wrap64 (1 + t325))] 40 (0, 0)) BK328.out NB328_0.out (by simp)); replace HK := K_ (KeepBut.trans (by repeat (first | (with_reducible first | exact HK.out | apply KeepBut.set_ | apply keep_drewN | apply keep_drew | apply keep_alloc | refine keep_far ?_ GW302.out _ | refine keep_far ?_ GW303.out _ | refine keep_far ?_ GW328.out _) | exact HK.out)) hk (.inl rfl)); replace HB := K_ (hb); replace HI0 := K_ (hi); clear hb hk hi))
     go_loopg [11, 12] k2 (fun kq v11 v12 w' => ∃ (x11_3 : Int) (x12_3 : Int) (x1001_3 : Int) (x1002_3 : Int) (x329001_3 : List Int) (u329001 : Value), v11 = .int .i64 x11_3 ∧ v12 = .int .i64 x12_3 ∧ Aside0 (spec_l5Cur_state.l2 kq (wrap64 (3 + t304)) x6_2 t316 x8_2 (wrap64 (1 + (wrap64 (t331 * (wrap64 ((wrap64 (3 + t304)) - 2)))))) x11_3 x12_3 s0_0 x1001_3 x1002_3 x304000_1 x304001_2 x304002_2 t322 x329001_3 (wrap64 (1 + t325)) = some (r1, r2, r3, r4, r5)) ∧ Aside0 (kq ≤ k2) ∧ Aside0 (Kd.R (Kd.int .i64) 3 w' w.heap.size (fun k_ => some k_ ≠ ((.slice Ao53 x304002_2.length co53) : Value).ownBlock ∧ X_ k_ u329001) (.slice (some ad330) x304000_1.length co51) x304000_1) ∧ Aside0 (Kd.S k40 40 w' w.heap.size (fun k_ => some k_ ≠ ((.slice (some ad330) x304000_1.length co51) : Value).ownBlock ∧ some k_ ≠ ((.slice Ao53 x304002_2.length co53) : Value).ownBlock ∧ X_ k_ u329001 ∧ k_ ≠ gb328) (.slice Ao52 x304001_2.length co52) x304001_2) ∧ Aside0 (Kd.R (Kd.int .i64) 3 w' w.heap.size (fun k_ => some k_ ≠ ((.slice (some ad330) x304000_1.length co51) : Value).ownBlock ∧ X_ k_ u329001) (.slice Ao53 x304002_2.length co53) x304002_2) ∧ Aside0 (Kd.R (Kd.int .i64) 3 w' w.heap.size (fun k_ => some k_ ≠ ((.slice (some ad330) x304000_1.length co51) : Value).ownBlock ∧ some k_ ≠ ((.slice Ao53 x304002_2.length co53) : Value).ownBlock) u329001 x329001_3) ∧ Aside0 (w'.heap[gb302]? = some (.cells #[(.slice none 0 0), (.slice none 0 0), (.slice none 0 0)] 30 (0, 0))) ∧ Aside0 (w'.heap[gb303]? = some (.cells #[(.slice (some ad330) x304000_1.length co51), (.slice Ao52 x304001_2.length co52), (.slice Ao53 x304002_2.length co53)] 30 (0, 0))) ∧ Aside0 (w'.heap[gb328]? = some (.cells #[.int .i64 t322, u329001, .int .i64 (wrap64 (1 + t325))] 40 (0, 0))) ∧ Aside0 (IsS58 w0 w' g s0_0 x1001_3 x1002_3) ∧ Aside0 (KeepBut w w' g none) ∧ Aside0 (Below w0.heap.size w0 w'))
     case atStart => exact ⟨(t322), (t334), (t335), (t336), (([] : List Int)), (.slice none 0 0), rfl, rfl, H', ⟨Nat.le_refl _⟩, ⟨by exact Kd.R_mono HO_304000.out (fun _ hk => ⟨hk, (by simp [Value.ownBlock])⟩)⟩, ⟨by exact Kd.S_mono HO_304001.out (fun _ hk => ⟨hk.1, ⟨hk.2.1, ⟨(by simp [Value.ownBlock]), hk.2.2⟩⟩⟩)⟩, ⟨by exact Kd.R_mono HO_304002.out (fun _ hk => ⟨hk, (by simp [Value.ownBlock])⟩)⟩, ⟨Kd.R_nil _ _ _ _ _⟩, ⟨BK302.out⟩, ⟨BK303.out⟩, ⟨BK328.out⟩, ⟨by repeat (first | (with_reducible first | exact HI0.out | apply IsS58.alloc | apply IsS58.drewN | apply IsS58.drew | apply IsS58.set_1 | apply IsS58.set_2 | refine IsS58.far ?_ NB0_302.out _ | refine IsS58.far ?_ NB0_303.out _ | refine IsS58.far ?_ NB0_328.out _) | exact HI0.out)⟩, ⟨by repeat (first | (with_reducible first | exact HK.out | apply KeepBut.set_ | apply keep_drewN | apply keep_drew | apply keep_alloc | refine keep_far ?_ GW302.out _ | refine keep_far ?_ GW303.out _ | refine keep_far ?_ GW328.out _) | exact HK.out)⟩, ⟨by repeat (first | (with_reducible first | exact HB.out | refine below_set ?_ (IsS58.ge HI0.out) | refine below_set ?_ GE302.out | refine below_set ?_ GE303.out | refine below_set ?_ GE328.out) | exact HB.out)⟩⟩
     case round =>
      clear H'
      clear hcz56_0 hcz56_1 hcz56_2 hfz56_0 hfz56_1 hfz56_2
      obtain ⟨x11_3, x12_3, x1001_3, x1002_3, x329001_3, u329001, rfl, rfl, HA, HK3, HO_304000, HO_304001, HO_304002, HO_329001, BK302, BK303, BK328, HI0, HK, HB⟩ := hrel
      cases gk with
      | zero => exact absurd HA.out (by simp [spec_l5Cur_state.l2])
      | succ k3 =>
       have H := HA.out
       clear HA
       simp only [spec_l5Cur_state.l2] at H
       by_cases c58 : x12_3 > 0
       case neg =>
        rw [if_neg c58] at H
        have c58b0 := decide_eq_false c58
        clear c58
        replace H := pn_ H
        obtain ⟨c79, H⟩ := H
        have LMc79 := K_ c79
        clear c79
        obtain ⟨y346, hy346⟩ : ∃ y_ : List (S40), y_ = (x304001_2 ++ [(⟨t322, x329001_3, (wrap64 (1 + t325))⟩ : S40)]) := ⟨_, rfl⟩
        rw [← hy346] at H
        have Ny346 := K_ hy346
        clear hy346
        replace H := pn_ H
        obtain ⟨c80, H⟩ := H
        have LMc80 := K_ c80
        clear c80
        obtain ⟨y349, hy349⟩ : ∃ y_ : List Int, y_ = (x304002_2 ++ [x6_2]) := ⟨_, rfl⟩
        rw [← hy349] at H
        have Ny349 := K_ hy349
        clear hy349
        replace H := Option.bind_eq_some_iff.mp H
        obtain ⟨⟨t352, t353, t354⟩, A810, H⟩ := H
        try dsimp only at H
        have A81 := K_ A810
        clear A810
        have H' := K_ H
        clear H
        have hnb82 := NB303_302.out
        have hnc82 := NB302_303.out
        have hnb83 := NB303_328.out
        have hnc83 := NB328_303.out
        have hnb84 := NB303_0.out
        have hnc84 := NB0_303.out
        obtain ⟨hcz85_0, hcz85_1, hcz85_2, hfz85_0, hfz85_1, hfz85_2⟩ := blkf3_ BK303.out
        have hnb86 := NB328_302.out
        have hnc86 := NB302_328.out
        have hnb87 := NB328_0.out
        have hnc87 := NB0_328.out
        obtain ⟨hcz88_0, hcz88_1, hcz88_2, hfz88_0, hfz88_1, hfz88_2⟩ := blkf3_ BK328.out
        obtain ⟨Ao90, co90, eo90⟩ := Kd.R_slice HO_329001.out
        subst eo90
        go_wp2_with (first | ((with_reducible refine gate_builtin (b := .append) (xs := #[.tmp 98, .tmp 100]) rfl ?_); at_builtin; refine Kd.S_append k40 w.heap.size rfl (.tmp 98) (.tmp 100) 28 40 (.agg #[(.int .i64 0), (.slice none 0 0), (.int .i64 0)]) 40 rfl Try.underlying28 info40 rfl (by decide) (by omega) (.slice Ao52 x304001_2.length co52) x304001_2 (⟨t322, x329001_3, (wrap64 (1 + t325))⟩ : S40) [.int .i64 t322, .slice Ao90 x329001_3.length co90, .int .i64 (wrap64 (1 + t325))] (fun k_ => X_ k_ (.slice (some ad330) x304000_1.length co51) ∧ X_ k_ (.slice Ao53 x304002_2.length co53) ∧ k_ ≠ gb328) (fun k_ => some k_ = (.slice Ao90 x329001_3.length co90 : Value).ownBlock) rfl rfl ?aP (fun k_ hk_ => ((Kd.R_mono (ok' := fun k_ => ((fun k_ => X_ k_ (.slice (some ad330) x304000_1.length co51) ∧ X_ k_ (.slice Ao53 x304002_2.length co53) ∧ k_ ≠ gb328)) k_ ∧ X_ k_ (.slice Ao52 x304001_2.length co52)) (Kd.R_types (Kd.R_apart' (HO_329001.out) (Kd.S_typed HO_304001.out) (by decide)) BK328.out (by decide)) (fun k_ hk => ⟨⟨hk.1.1.1, ⟨hk.1.1.2, hk.2⟩⟩, hk.1.2⟩))).1 k_ hk_.symm) ?aF ?aO (Below.refl _ _) ?aS ?aL ?_; (case aP => exact k40_mkM _ _ _ (⟨t322, x329001_3, (wrap64 (1 + t325))⟩ : S40) (Kd.R_mono (Kd.R_tight rfl (Kd.R_mono (ok' := fun k_ => ((fun k_ => X_ k_ (.slice (some ad330) x304000_1.length co51) ∧ X_ k_ (.slice Ao53 x304002_2.length co53) ∧ k_ ≠ gb328)) k_ ∧ X_ k_ (.slice Ao52 x304001_2.length co52)) (Kd.R_types (Kd.R_apart' (HO_329001.out) (Kd.S_typed HO_304001.out) (by decide)) BK328.out (by decide)) (fun k_ hk => ⟨⟨hk.1.1.1, ⟨hk.1.1.2, hk.2⟩⟩, hk.1.2⟩))) (fun _ h_ => h_))); (case aF => exact (fun k_ hk => ⟨Kd.fresh' (Kd.R_lt HO_304000.out) k_ hk, Kd.fresh' (Kd.R_lt HO_304002.out) k_ hk, Kd.freshB BK328.out k_ hk⟩)); (case aO => exact (by exact Kd.S_mono HO_304001.out (fun k_ hk => ⟨⟨hk.1, ⟨hk.2.1, hk.2.2.2⟩⟩, fun e_ => hk.2.2.1 e_⟩))); (case aS => exact (keep_size (w := w) (g := g) (row := none) (by repeat (first | (with_reducible first | exact HK.out | apply KeepBut.set_ | apply keep_drewN | apply keep_drew | apply keep_alloc | refine keep_far ?_ GW302.out _ | refine keep_far ?_ GW303.out _ | refine keep_far ?_ GW328.out _) | exact HK.out)))); (case aL => have := LMc79.out; omega); intro v347 w89 ho hb hg hat; rw [← Ny346.out] at ho; have HO348 := K_ (ho); replace HO_304000 := K_ (Kd.R_over' HO_304000.out (Kd.S_typed HO_304001.out) (by decide) hg); replace HO_304002 := K_ (Kd.R_over' HO_304002.out (Kd.S_typed HO_304001.out) (by decide) hg); replace BK302 := K_ (blk_grown BK302.out hg (Kd.S_ne HO_304001.out BK302.out (by decide))); replace BK303 := K_ (blk_grown BK303.out hg (Kd.S_ne HO_304001.out BK303.out (by decide))); replace BK328 := K_ (blk_grown BK328.out hg (Kd.S_away HO_304001.out (fun _ hk => hk.2.2.2))); replace HB := K_ (below_weaken (by repeat (first | (with_reducible first | exact HB.out | refine below_set ?_ (IsS58.ge HI0.out) | refine below_set ?_ GE302.out | refine below_set ?_ GE303.out | refine below_set ?_ GE328.out) | exact HB.out)) HL.out hb); replace HI0 := K_ (IsS58.grown (by first | (with_reducible exact HI0.out) | (with_reducible exact IsS58.far HI0.out NB0_302.out _) | (with_reducible exact IsS58.far HI0.out NB0_303.out _) | (with_reducible exact IsS58.far HI0.out NB0_328.out _) | exact IsS58.far HI0.out NB0_302.out _ | exact IsS58.far HI0.out NB0_303.out _ | exact IsS58.far HI0.out NB0_328.out _) hg (IsS58.own_neS HI0.out HO_304001.out (by decide))); replace HK := K_ (KeepBut.trans (by repeat (first | (with_reducible first | exact HK.out | apply KeepBut.set_ | apply keep_drewN | apply keep_drew | apply keep_alloc | refine keep_far ?_ GW302.out _ | refine keep_far ?_ GW303.out _ | refine keep_far ?_ GW328.out _) | exact HK.out)) (KeepBut.of_grown hg g) (Kd.S_base2 HO_304001.out)); clear HO_304001 HO_329001; clear ho hb hg hat; obtain ⟨Ao91, co91, eo91⟩ := Kd.S_slice HO348.out; subst eo91; obtain ⟨hcz92_0, hcz92_1, hcz92_2, hfz92_0, hfz92_1, hfz92_2⟩ := blkf3_ BK303.out) | ((with_reducible refine gate_builtin (b := .append) (xs := #[.tmp 104, .tmp 106]) rfl ?_); at_builtin; refine Kd.R_append (Kd.int .i64) w.heap.size rfl (.tmp 104) (.tmp 106) 22 3 (.int .i64 0) 8 rfl Try.underlying22 info3 rfl (by decide) (by omega) (.slice Ao53 x304002_2.length co53) x304002_2 x6_2 [.int .i64 x6_2] (fun k_ => X_ k_ (.slice (some ad330) x304000_1.length co51)) (fun _ => False) rfl (by first | (go_simp; done) | (go_simp; rfl)) ?aP (fun _ hk => hk.elim) ?aF ?aO (Below.refl _ _) ?aS ?aL ?_; (case aP => exact rfl); (case aF => exact (fun k_ hk => Kd.fresh' (Kd.R_lt (by exact (Kd.R_mono (Kd.R_far (p := ⟨gb303, 1, none⟩) (Kd.R_types HO_304000.out BK303.out (by decide)) (fun _ hk => hk.2) (.slice Ao91 y346.length co91)) (fun _ h_ => h_.1)))) k_ hk)); (case aO => exact (by exact Kd.R_mono (Kd.R_far (p := ⟨gb303, 1, none⟩) (Kd.R_types HO_304002.out BK303.out (by decide)) (fun _ hk => hk.2) (.slice Ao91 y346.length co91)) (fun _ hk => hk.1.1))); (case aS => exact (keep_size (w := w) (g := g) (row := none) (by repeat (first | (with_reducible first | exact HK.out | apply KeepBut.set_ | apply keep_drewN | apply keep_drew | apply keep_alloc | refine keep_far ?_ GW302.out _ | refine keep_far ?_ GW303.out _ | refine keep_far ?_ GW328.out _) | exact HK.out)))); (case aL => have := LMc80.out; omega); intro v350 w93 ho hb hg hat; rw [← Ny349.out] at ho; have HO351 := K_ (ho); replace HO_304000 := K_ (Kd.R_after (ok := (fun _ => True)) (by exact Kd.R_mono (Kd.R_far (p := ⟨gb303, 1, none⟩) (Kd.R_types HO_304000.out BK303.out (by decide)) (fun _ hk => hk.2) (.slice Ao91 y346.length co91)) (fun _ hk => ⟨trivial, hk.1.1⟩)) hg hat); replace BK302 := K_ (blk_grown (g := gb302) (o := .cells #[.slice none 0 0, .slice none 0 0, .slice none 0 0] 30 (0, 0)) (by refine blk_far ?_ NB302_303.out _; exact BK302.out) hg (Kd.R_ne HO_304002.out BK302.out (by decide))); replace BK328 := K_ (blk_grown (g := gb328) (o := .cells #[.int .i64 t322, .slice Ao90 x329001_3.length co90, .int .i64 (wrap64 (1 + t325))] 40 (0, 0)) (by refine blk_far ?_ NB328_303.out _; exact BK328.out) hg (Kd.R_ne HO_304002.out BK328.out (by decide))); replace HO348 := K_ (Kd.S_after (ok := (fun k_ => X_ k_ (.slice (some ad330) x304000_1.length co51) ∧ k_ ≠ gb328)) (by exact Kd.S_mono (Kd.S_far (p := ⟨gb303, 1, none⟩) (Kd.S_types HO348.out BK303.out (by decide)) (fun _ hk => hk.2) (.slice Ao91 y346.length co91)) (fun _ hk => ⟨⟨hk.1.1, hk.1.2.2⟩, hk.1.2.1⟩)) hg hat); replace BK303 := K_ (blk_grown (g := gb303) (o := .cells #[.slice (some ad330) x304000_1.length co51, .slice Ao91 y346.length co91, .slice Ao53 x304002_2.length co53] 30 (0, 0)) (by refine blk_put (cs := #[.slice (some ad330) x304000_1.length co51, .slice Ao52 x304001_2.length co52, .slice Ao53 x304002_2.length co53]) ?_ 1 _ rfl; exact BK303.out) hg (Kd.R_ne HO_304002.out BK303.out (by decide))); replace HB := K_ (below_weaken (by repeat (first | (with_reducible first | exact HB.out | refine below_set ?_ (IsS58.ge HI0.out) | refine below_set ?_ GE302.out | refine below_set ?_ GE303.out | refine below_set ?_ GE328.out) | exact HB.out)) HL.out hb); replace HI0 := K_ (IsS58.grown (by first | (with_reducible exact HI0.out) | (with_reducible exact IsS58.far HI0.out NB0_302.out _) | (with_reducible exact IsS58.far HI0.out NB0_303.out _) | (with_reducible exact IsS58.far HI0.out NB0_328.out _) | exact IsS58.far HI0.out NB0_302.out _ | exact IsS58.far HI0.out NB0_303.out _ | exact IsS58.far HI0.out NB0_328.out _) hg (IsS58.own_ne HI0.out HO_304002.out (by decide))); replace HK := K_ (KeepBut.trans (by repeat (first | (with_reducible first | exact HK.out | apply KeepBut.set_ | apply keep_drewN | apply keep_drew | apply keep_alloc | refine keep_far ?_ GW302.out _ | refine keep_far ?_ GW303.out _ | refine keep_far ?_ GW328.out _) | exact HK.out)) (KeepBut.of_grown hg g) (Kd.R_base2 HO_304002.out)); clear HO_304002; clear ho hb hg hat; obtain ⟨Ao94, co94, eo94⟩ := Kd.R_slice HO351.out; subst eo94; obtain ⟨hcz95_0, hcz95_1, hcz95_2, hfz95_0, hfz95_1, hfz95_2⟩ := blkf3_ BK303.out) | ((with_reducible refine gate_callee (f := 46) rfl ?_); refine goesL_ (some 111) rfl rfl Try.func46 (by kernel_rfl) rfl #[.pointer (some ⟨g, 0, none⟩), .int .i64 3] rfl (by simp only [List.map_toArray, List.map_cons, List.map_nil]; try rfl) ?_; (with_reducible refine (spec_l5Cur_pick.calls g s0_0 x1001_3 x1002_3 3 t352 t353 t354 w0 _ ?side1 ?side2 A81.out).mono ?_); (case side1 => repeat (first | (with_reducible first | exact HI0.out | apply IsS58.alloc | apply IsS58.drewN | apply IsS58.drew | apply IsS58.set_1 | apply IsS58.set_2 | refine IsS58.far ?_ NB0_302.out _ | refine IsS58.far ?_ NB0_303.out _ | refine IsS58.far ?_ NB0_328.out _) | exact HI0.out)); (case side2 => repeat (first | (with_reducible first | exact HB.out | refine below_set ?_ (IsS58.ge HI0.out) | refine below_set ?_ GE302.out | refine below_set ?_ GE303.out | refine below_set ?_ GE328.out) | exact HB.out)); rintro e w96 ⟨rfl, hi, hb, hk⟩; refine ⟨_, rfl, ?_⟩; replace HO_304000 := K_ (Kd.R_mono (Kd.R_keep (IsS58.apart (show IsS58 w0 _ g s0_0 x1001_3 x1002_3 from by repeat (first | (with_reducible first | exact HI0.out | apply IsS58.alloc | apply IsS58.drewN | apply IsS58.drew | apply IsS58.set_1 | apply IsS58.set_2 | refine IsS58.far ?_ NB0_302.out _ | refine IsS58.far ?_ NB0_303.out _ | refine IsS58.far ?_ NB0_328.out _) | exact HI0.out)) (by exact (Kd.R_mono (Kd.R_far (p := ⟨gb303, 2, none⟩) (Kd.R_types HO_304000.out BK303.out (by decide)) (fun _ hk => hk.2) (.slice Ao94 y349.length co94)) (fun _ h_ => h_.1))) (by decide)) hk (fun _ h => h.2)) (fun _ h => h.1)); replace BK302 := K_ (KeepBut.blk hk (g' := gb302) (o := .cells #[.slice none 0 0, .slice none 0 0, .slice none 0 0] 30 (0, 0)) (by refine blk_far ?_ NB302_303.out _; exact BK302.out) NB302_0.out (by simp)); replace BK328 := K_ (KeepBut.blk hk (g' := gb328) (o := .cells #[.int .i64 t322, .slice Ao90 x329001_3.length co90, .int .i64 (wrap64 (1 + t325))] 40 (0, 0)) (by refine blk_far ?_ NB328_303.out _; exact BK328.out) NB328_0.out (by simp)); replace HO348 := K_ (Kd.S_mono (Kd.S_keep (IsS58.apartS (show IsS58 w0 _ g s0_0 x1001_3 x1002_3 from by repeat (first | (with_reducible first | exact HI0.out | apply IsS58.alloc | apply IsS58.drewN | apply IsS58.drew | apply IsS58.set_1 | apply IsS58.set_2 | refine IsS58.far ?_ NB0_302.out _ | refine IsS58.far ?_ NB0_303.out _ | refine IsS58.far ?_ NB0_328.out _) | exact HI0.out)) (by exact (Kd.S_mono (Kd.S_far (p := ⟨gb303, 2, none⟩) (Kd.S_types HO348.out BK303.out (by decide)) (fun _ hk => hk.2) (.slice Ao94 y349.length co94)) (fun _ h_ => h_.1))) (by decide)) hk (fun _ h => h.2)) (fun _ h => h.1)); replace HO351 := K_ (Kd.R_mono (Kd.R_keep (IsS58.apart (show IsS58 w0 _ g s0_0 x1001_3 x1002_3 from by repeat (first | (with_reducible first | exact HI0.out | apply IsS58.alloc | apply IsS58.drewN | apply IsS58.drew | apply IsS58.set_1 | apply IsS58.set_2 | refine IsS58.far ?_ NB0_302.out _ | refine IsS58.far ?_ NB0_303.out _ | refine IsS58.far ?_ NB0_328.out _) | exact HI0.out)) (by exact (Kd.R_mono (Kd.R_far (p := ⟨gb303, 2, none⟩) (Kd.R_types HO351.out BK303.out (by decide)) (fun _ hk => hk.2) (.slice Ao94 y349.length co94)) (fun _ h_ => h_.1))) (by decide)) hk (fun _ h => h.2)) (fun _ h => h.1)); replace BK303 := K_ (KeepBut.blk hk (g' := gb303) (o := .cells #[.slice (some ad330) x304000_1.length co51, .slice Ao91 y346.length co91, .slice Ao94 y349.length co94] 30 (0, 0)) (by refine blk_put (cs := #[.slice (some ad330) x304000_1.length co51, .slice Ao91 y346.length co91, .slice Ao53 x304002_2.length co53]) ?_ 2 _ rfl; exact BK303.out) NB303_0.out (by simp)); replace HK := K_ (KeepBut.trans (by repeat (first | (with_reducible first | exact HK.out | apply KeepBut.set_ | apply keep_drewN | apply keep_drew | apply keep_alloc | refine keep_far ?_ GW302.out _ | refine keep_far ?_ GW303.out _ | refine keep_far ?_ GW328.out _) | exact HK.out)) hk (.inl rfl)); replace HB := K_ (hb); replace HI0 := K_ (hi); clear hb hk hi))
        go_roundg k3
        case measure => have := HK1.out; have := HK2.out; have := HK3.out; omega
        case rel => exact ⟨(wrap64 (x6_2 + (wrap64 (1 + t352)))), (wrap64 (x8_2 - 1)), (t353), (t354), (y346), (y349), (.slice Ao91 y346.length co91), (.slice Ao94 y349.length co94), rfl, rfl, H', ⟨by have := HK1.out; have := HK2.out; have := HK3.out; omega⟩, ⟨by exact Kd.R_mono HO_304000.out (fun _ hk => hk.2)⟩, ⟨by exact Kd.S_mono HO348.out (fun _ hk => ⟨hk.1.1, hk.2⟩)⟩, ⟨HO351.out⟩, ⟨BK302.out⟩, ⟨BK303.out⟩, ⟨by repeat (first | (with_reducible first | exact HI0.out | apply IsS58.alloc | apply IsS58.drewN | apply IsS58.drew | apply IsS58.set_1 | apply IsS58.set_2 | refine IsS58.far ?_ NB0_302.out _ | refine IsS58.far ?_ NB0_303.out _ | refine IsS58.far ?_ NB0_328.out _) | exact HI0.out)⟩, ⟨by repeat (first | (with_reducible first | exact HK.out | apply KeepBut.set_ | apply keep_drewN | apply keep_drew | apply keep_alloc | refine keep_far ?_ GW302.out _ | refine keep_far ?_ GW303.out _ | refine keep_far ?_ GW328.out _) | exact HK.out)⟩, ⟨by repeat (first | (with_reducible first | exact HB.out | refine below_set ?_ (IsS58.ge HI0.out) | refine below_set ?_ GE302.out | refine below_set ?_ GE303.out | refine below_set ?_ GE328.out) | exact HB.out)⟩⟩
       rw [if_pos c58] at H
       have c58b0 := decide_eq_true c58
       clear c58
       replace H := nn_ H
       obtain ⟨c59, H⟩ := H
       have c59b0 := beq_eq_false_iff_ne.mpr c59
       have c59b1 := bne_iff_ne.mpr c59
       by_cases c60 : t316 = 0
       case pos =>
        rw [if_pos c60] at H
        have c60b0 := beq_iff_eq.mpr c60
        have c60b1 := bne_eq_false_iff_eq.mpr c60
        clear c60
        replace H := Option.bind_eq_some_iff.mp H
        obtain ⟨⟨t337, t338, t339⟩, A610, H⟩ := H
        try dsimp only at H
        have A61 := K_ A610
        clear A610
        replace H := pn_ H
        obtain ⟨c62, H⟩ := H
        have LMc62 := K_ c62
        clear c62
        obtain ⟨y340, hy340⟩ : ∃ y_ : List Int, y_ = (x329001_3 ++ [Int.tmod (wrap64 ((wrap64 (x11_3 + 1)) + t337)) (wrap64 (3 + t304))]) := ⟨_, rfl⟩
        rw [← hy340] at H
        have Ny340 := K_ hy340
        clear hy340
        have H' := K_ H
        clear H
        go_wp2_with (first | ((with_reducible refine gate_callee (f := 46) rfl ?_); refine goesL_ (some 86) rfl rfl Try.func46 (by kernel_rfl) rfl #[.pointer (some ⟨g, 0, none⟩), .int .i64 (wrap64 ((wrap64 (3 + t304)) - 1))] rfl (by simp only [List.map_toArray, List.map_cons, List.map_nil]; try rfl) ?_; (with_reducible refine (spec_l5Cur_pick.calls g s0_0 x1001_3 x1002_3 (wrap64 ((wrap64 (3 + t304)) - 1)) t337 t338 t339 w0 _ ?side1 ?side2 A61.out).mono ?_); (case side1 => repeat (first | (with_reducible first | exact HI0.out | apply IsS58.alloc | apply IsS58.drewN | apply IsS58.drew | apply IsS58.set_1 | apply IsS58.set_2 | refine IsS58.far ?_ NB0_302.out _ | refine IsS58.far ?_ NB0_303.out _ | refine IsS58.far ?_ NB0_328.out _) | exact HI0.out)); (case side2 => repeat (first | (with_reducible first | exact HB.out | refine below_set ?_ (IsS58.ge HI0.out) | refine below_set ?_ GE302.out | refine below_set ?_ GE303.out | refine below_set ?_ GE328.out) | exact HB.out)); rintro e w63 ⟨rfl, hi, hb, hk⟩; refine ⟨_, rfl, ?_⟩; replace HO_304000 := K_ (Kd.R_mono (Kd.R_keep (IsS58.apart (show IsS58 w0 _ g s0_0 x1001_3 x1002_3 from by repeat (first | (with_reducible first | exact HI0.out | apply IsS58.alloc | apply IsS58.drewN | apply IsS58.drew | apply IsS58.set_1 | apply IsS58.set_2 | refine IsS58.far ?_ NB0_302.out _ | refine IsS58.far ?_ NB0_303.out _ | refine IsS58.far ?_ NB0_328.out _) | exact HI0.out)) HO_304000.out (by decide)) hk (fun _ h => h.2)) (fun _ h => h.1)); replace HO_304001 := K_ (Kd.S_mono (Kd.S_keep (IsS58.apartS (show IsS58 w0 _ g s0_0 x1001_3 x1002_3 from by repeat (first | (with_reducible first | exact HI0.out | apply IsS58.alloc | apply IsS58.drewN | apply IsS58.drew | apply IsS58.set_1 | apply IsS58.set_2 | refine IsS58.far ?_ NB0_302.out _ | refine IsS58.far ?_ NB0_303.out _ | refine IsS58.far ?_ NB0_328.out _) | exact HI0.out)) HO_304001.out (by decide)) hk (fun _ h => h.2)) (fun _ h => h.1)); replace HO_304002 := K_ (Kd.R_mono (Kd.R_keep (IsS58.apart (show IsS58 w0 _ g s0_0 x1001_3 x1002_3 from by repeat (first | (with_reducible first | exact HI0.out | apply IsS58.alloc | apply IsS58.drewN | apply IsS58.drew | apply IsS58.set_1 | apply IsS58.set_2 | refine IsS58.far ?_ NB0_302.out _ | refine IsS58.far ?_ NB0_303.out _ | refine IsS58.far ?_ NB0_328.out _) | exact HI0.out)) HO_304002.out (by decide)) hk (fun _ h => h.2)) (fun _ h => h.1)); replace HO_329001 := K_ (Kd.R_mono (Kd.R_keep (IsS58.apart (show IsS58 w0 _ g s0_0 x1001_3 x1002_3 from by repeat (first | (with_reducible first | exact HI0.out | apply IsS58.alloc | apply IsS58.drewN | apply IsS58.drew | apply IsS58.set_1 | apply IsS58.set_2 | refine IsS58.far ?_ NB0_302.out _ | refine IsS58.far ?_ NB0_303.out _ | refine IsS58.far ?_ NB0_328.out _) | exact HI0.out)) HO_329001.out (by decide)) hk (fun _ h => h.2)) (fun _ h => h.1)); replace BK302 := K_ (KeepBut.blk hk (g' := gb302) (o := .cells #[.slice none 0 0, .slice none 0 0, .slice none 0 0] 30 (0, 0)) BK302.out NB302_0.out (by simp)); replace BK303 := K_ (KeepBut.blk hk (g' := gb303) (o := .cells #[.slice (some ad330) x304000_1.length co51, .slice Ao52 x304001_2.length co52, .slice Ao53 x304002_2.length co53] 30 (0, 0)) BK303.out NB303_0.out (by simp)); replace BK328 := K_ (KeepBut.blk hk (g' := gb328) (o := .cells #[.int .i64 t322, u329001, .int .i64 (wrap64 (1 + t325))] 40 (0, 0)) BK328.out NB328_0.out (by simp)); replace HK := K_ (KeepBut.trans (by repeat (first | (with_reducible first | exact HK.out | apply KeepBut.set_ | apply keep_drewN | apply keep_drew | apply keep_alloc | refine keep_far ?_ GW302.out _ | refine keep_far ?_ GW303.out _ | refine keep_far ?_ GW328.out _) | exact HK.out)) hk (.inl rfl)); replace HB := K_ (hb); replace HI0 := K_ (hi); clear hb hk hi; have hnb64 := NB328_302.out; have hnc64 := NB302_328.out; have hnb65 := NB328_303.out; have hnc65 := NB303_328.out; have hnb66 := NB328_0.out; have hnc66 := NB0_328.out; obtain ⟨hcz67_0, hcz67_1, hcz67_2, hfz67_0, hfz67_1, hfz67_2⟩ := blkf3_ BK328.out) | ((with_reducible refine gate_builtin (b := .append) (xs := #[.tmp 91, .tmp 93]) rfl ?_); at_builtin; refine Kd.R_append (Kd.int .i64) w.heap.size rfl (.tmp 91) (.tmp 93) 22 3 (.int .i64 0) 8 rfl Try.underlying22 info3 rfl (by decide) (by omega) u329001 x329001_3 (Int.tmod (wrap64 ((wrap64 (x11_3 + 1)) + t337)) (wrap64 (3 + t304))) [.int .i64 (Int.tmod (wrap64 ((wrap64 (x11_3 + 1)) + t337)) (wrap64 (3 + t304)))] (fun k_ => X_ k_ (.slice (some ad330) x304000_1.length co51) ∧ X_ k_ (.slice Ao53 x304002_2.length co53)) (fun _ => False) rfl rfl ?aP (fun _ hk => hk.elim) ?aF ?aO (Below.refl _ _) ?aS ?aL ?_; (case aP => exact rfl); (case aF => exact (fun k_ hk => ⟨Kd.fresh' (Kd.R_lt HO_304000.out) k_ hk, Kd.fresh' (Kd.R_lt HO_304002.out) k_ hk⟩)); (case aO => exact HO_329001.out); (case aS => exact (keep_size (w := w) (g := g) (row := none) (by repeat (first | (with_reducible first | exact HK.out | apply KeepBut.set_ | apply keep_drewN | apply keep_drew | apply keep_alloc | refine keep_far ?_ GW302.out _ | refine keep_far ?_ GW303.out _ | refine keep_far ?_ GW328.out _) | exact HK.out)))); (case aL => have := LMc62.out; omega); intro v341 w68 ho hb hg hat; rw [← Ny340.out] at ho; have HO342 := K_ (ho); replace HO_304000 := K_ (Kd.R_after (ok := (fun k_ => X_ k_ (.slice Ao53 x304002_2.length co53))) HO_304000.out hg hat); replace HO_304001 := K_ (Kd.S_after (ok := (fun k_ => X_ k_ (.slice (some ad330) x304000_1.length co51) ∧ X_ k_ (.slice Ao53 x304002_2.length co53) ∧ k_ ≠ gb328)) (by exact Kd.S_mono HO_304001.out (fun _ hk => ⟨⟨hk.1, ⟨hk.2.1, hk.2.2.2⟩⟩, hk.2.2.1⟩)) hg hat); replace HO_304002 := K_ (Kd.R_after (ok := (fun k_ => X_ k_ (.slice (some ad330) x304000_1.length co51))) HO_304002.out hg hat); replace BK302 := K_ (blk_grown BK302.out hg (Kd.R_ne HO_329001.out BK302.out (by decide))); replace BK303 := K_ (blk_grown BK303.out hg (Kd.R_ne HO_329001.out BK303.out (by decide))); replace BK328 := K_ (blk_grown BK328.out hg (Kd.R_ne HO_329001.out BK328.out (by decide))); replace HB := K_ (below_weaken (by repeat (first | (with_reducible first | exact HB.out | refine below_set ?_ (IsS58.ge HI0.out) | refine below_set ?_ GE302.out | refine below_set ?_ GE303.out | refine below_set ?_ GE328.out) | exact HB.out)) HL.out hb); replace HI0 := K_ (IsS58.grown (by first | (with_reducible exact HI0.out) | (with_reducible exact IsS58.far HI0.out NB0_302.out _) | (with_reducible exact IsS58.far HI0.out NB0_303.out _) | (with_reducible exact IsS58.far HI0.out NB0_328.out _) | exact IsS58.far HI0.out NB0_302.out _ | exact IsS58.far HI0.out NB0_303.out _ | exact IsS58.far HI0.out NB0_328.out _) hg (IsS58.own_ne HI0.out HO_329001.out (by decide))); replace HK := K_ (KeepBut.trans (by repeat (first | (with_reducible first | exact HK.out | apply KeepBut.set_ | apply keep_drewN | apply keep_drew | apply keep_alloc | refine keep_far ?_ GW302.out _ | refine keep_far ?_ GW303.out _ | refine keep_far ?_ GW328.out _) | exact HK.out)) (KeepBut.of_grown hg g) (Kd.R_base2 HO_329001.out)); clear HO_329001; clear ho hb hg hat; obtain ⟨Ao69, co69, eo69⟩ := Kd.R_slice HO342.out; subst eo69; obtain ⟨hcz70_0, hcz70_1, hcz70_2, hfz70_0, hfz70_1, hfz70_2⟩ := blkf3_ BK328.out))
        go_roundg k3
        case measure => have := HK1.out; have := HK2.out; have := HK3.out; omega
        case rel => exact ⟨(Int.tmod (wrap64 ((wrap64 (x11_3 + 1)) + t337)) (wrap64 (3 + t304))), (wrap64 (x12_3 - 1)), (t338), (t339), (y340), (.slice Ao69 y340.length co69), rfl, rfl, H', ⟨by have := HK1.out; have := HK2.out; have := HK3.out; omega⟩, ⟨by exact Kd.R_mono (Kd.R_far (p := ⟨gb328, 1, none⟩) (Kd.R_types HO_304000.out BK328.out (by decide)) (fun _ hk => hk.2) (.slice Ao69 y340.length co69)) (fun _ hk => ⟨hk.1.1, hk.1.2⟩)⟩, ⟨by exact Kd.S_mono (Kd.S_far (p := ⟨gb328, 1, none⟩) (Kd.S_mono HO_304001.out (fun k_ hk => (⟨hk, hk.1.2.2⟩ : _ ∧ k_ ≠ gb328))) (fun _ hk => hk.2) (.slice Ao69 y340.length co69)) (fun _ hk => ⟨hk.1.1.1, ⟨hk.1.1.2.1, ⟨hk.1.2, hk.1.1.2.2⟩⟩⟩)⟩, ⟨by exact Kd.R_mono (Kd.R_far (p := ⟨gb328, 1, none⟩) (Kd.R_types HO_304002.out BK328.out (by decide)) (fun _ hk => hk.2) (.slice Ao69 y340.length co69)) (fun _ hk => ⟨hk.1.1, hk.1.2⟩)⟩, ⟨by exact Kd.R_mono (Kd.R_far (p := ⟨gb328, 1, none⟩) (Kd.R_types HO342.out BK328.out (by decide)) (fun _ hk => hk.2) (.slice Ao69 y340.length co69)) (fun _ hk => ⟨hk.1.1, hk.1.2⟩)⟩, ⟨by refine blk_far ?_ NB302_328.out _; exact BK302.out⟩, ⟨by refine blk_far ?_ NB303_328.out _; exact BK303.out⟩, ⟨by refine blk_put (cs := #[.int .i64 t322, u329001, .int .i64 (wrap64 (1 + t325))]) ?_ 1 _ rfl; exact BK328.out⟩, ⟨by repeat (first | (with_reducible first | exact HI0.out | apply IsS58.alloc | apply IsS58.drewN | apply IsS58.drew | apply IsS58.set_1 | apply IsS58.set_2 | refine IsS58.far ?_ NB0_302.out _ | refine IsS58.far ?_ NB0_303.out _ | refine IsS58.far ?_ NB0_328.out _) | exact HI0.out)⟩, ⟨by repeat (first | (with_reducible first | exact HK.out | apply KeepBut.set_ | apply keep_drewN | apply keep_drew | apply keep_alloc | refine keep_far ?_ GW302.out _ | refine keep_far ?_ GW303.out _ | refine keep_far ?_ GW328.out _) | exact HK.out)⟩, ⟨by repeat (first | (with_reducible first | exact HB.out | refine below_set ?_ (IsS58.ge HI0.out) | refine below_set ?_ GE302.out | refine below_set ?_ GE303.out | refine below_set ?_ GE328.out) | exact HB.out)⟩⟩
       rw [if_neg c60] at H
       have c60b0 := beq_eq_false_iff_ne.mpr c60
       have c60b1 := bne_iff_ne.mpr c60
       replace H := pn_ H
       obtain ⟨c71, H⟩ := H
       have LMc71 := K_ c71
       clear c71
       obtain ⟨y343, hy343⟩ : ∃ y_ : List Int, y_ = (x329001_3 ++ [Int.tmod (wrap64 (x11_3 + (wrap64 (1 + (wrap64 (t331 * (wrap64 ((wrap64 (3 + t304)) - 2)))))))) (wrap64 (3 + t304))]) := ⟨_, rfl⟩
       rw [← hy343] at H
       have Ny343 := K_ hy343
       clear hy343
       have H' := K_ H
       clear H
       have hnb72 := NB328_302.out
       have hnc72 := NB302_328.out
       have hnb73 := NB328_303.out
       have hnc73 := NB303_328.out
       have hnb74 := NB328_0.out
       have hnc74 := NB0_328.out
       obtain ⟨hcz75_0, hcz75_1, hcz75_2, hfz75_0, hfz75_1, hfz75_2⟩ := blkf3_ BK328.out
       go_wp2_with (first | ((with_reducible refine gate_builtin (b := .append) (xs := #[.tmp 91, .tmp 93]) rfl ?_); at_builtin; refine Kd.R_append (Kd.int .i64) w.heap.size rfl (.tmp 91) (.tmp 93) 22 3 (.int .i64 0) 8 rfl Try.underlying22 info3 rfl (by decide) (by omega) u329001 x329001_3 (Int.tmod (wrap64 (x11_3 + (wrap64 (1 + (wrap64 (t331 * (wrap64 ((wrap64 (3 + t304)) - 2)))))))) (wrap64 (3 + t304))) [.int .i64 (Int.tmod (wrap64 (x11_3 + (wrap64 (1 + (wrap64 (t331 * (wrap64 ((wrap64 (3 + t304)) - 2)))))))) (wrap64 (3 + t304)))] (fun k_ => X_ k_ (.slice (some ad330) x304000_1.length co51) ∧ X_ k_ (.slice Ao53 x304002_2.length co53)) (fun _ => False) rfl rfl ?aP (fun _ hk => hk.elim) ?aF ?aO (Below.refl _ _) ?aS ?aL ?_; (case aP => exact rfl); (case aF => exact (fun k_ hk => ⟨Kd.fresh' (Kd.R_lt HO_304000.out) k_ hk, Kd.fresh' (Kd.R_lt HO_304002.out) k_ hk⟩)); (case aO => exact HO_329001.out); (case aS => exact (keep_size (w := w) (g := g) (row := none) (by repeat (first | (with_reducible first | exact HK.out | apply KeepBut.set_ | apply keep_drewN | apply keep_drew | apply keep_alloc | refine keep_far ?_ GW302.out _ | refine keep_far ?_ GW303.out _ | refine keep_far ?_ GW328.out _) | exact HK.out)))); (case aL => have := LMc71.out; omega); intro v344 w76 ho hb hg hat; rw [← Ny343.out] at ho; have HO345 := K_ (ho); replace HO_304000 := K_ (Kd.R_after (ok := (fun k_ => X_ k_ (.slice Ao53 x304002_2.length co53))) HO_304000.out hg hat); replace HO_304001 := K_ (Kd.S_after (ok := (fun k_ => X_ k_ (.slice (some ad330) x304000_1.length co51) ∧ X_ k_ (.slice Ao53 x304002_2.length co53) ∧ k_ ≠ gb328)) (by exact Kd.S_mono HO_304001.out (fun _ hk => ⟨⟨hk.1, ⟨hk.2.1, hk.2.2.2⟩⟩, hk.2.2.1⟩)) hg hat); replace HO_304002 := K_ (Kd.R_after (ok := (fun k_ => X_ k_ (.slice (some ad330) x304000_1.length co51))) HO_304002.out hg hat); replace BK302 := K_ (blk_grown BK302.out hg (Kd.R_ne HO_329001.out BK302.out (by decide))); replace BK303 := K_ (blk_grown BK303.out hg (Kd.R_ne HO_329001.out BK303.out (by decide))); replace BK328 := K_ (blk_grown BK328.out hg (Kd.R_ne HO_329001.out BK328.out (by decide))); replace HB := K_ (below_weaken (by repeat (first | (with_reducible first | exact HB.out | refine below_set ?_ (IsS58.ge HI0.out) | refine below_set ?_ GE302.out | refine below_set ?_ GE303.out | refine below_set ?_ GE328.out) | exact HB.out)) HL.out hb); replace HI0 := K_ (IsS58.grown (by first | (with_reducible exact HI0.out) | (with_reducible exact IsS58.far HI0.out NB0_302.out _) | (with_reducible exact IsS58.far HI0.out NB0_303.out _) | (with_reducible exact IsS58.far HI0.out NB0_328.out _) | exact IsS58.far HI0.out NB0_302.out _ | exact IsS58.far HI0.out NB0_303.out _ | exact IsS58.far HI0.out NB0_328.out _) hg (IsS58.own_ne HI0.out HO_329001.out (by decide))); replace HK := K_ (KeepBut.trans (by repeat (first | (with_reducible first | exact HK.out | apply KeepBut.set_ | apply keep_drewN | apply keep_drew | apply keep_alloc | refine keep_far ?_ GW302.out _ | refine keep_far ?_ GW303.out _ | refine keep_far ?_ GW328.out _) | exact HK.out)) (KeepBut.of_grown hg g) (Kd.R_base2 HO_329001.out)); clear HO_329001; clear ho hb hg hat; obtain ⟨Ao77, co77, eo77⟩ := Kd.R_slice HO345.out; subst eo77; obtain ⟨hcz78_0, hcz78_1, hcz78_2, hfz78_0, hfz78_1, hfz78_2⟩ := blkf3_ BK328.out))
       go_roundg k3
       case measure => have := HK1.out; have := HK2.out; have := HK3.out; omega
       case rel => exact ⟨(Int.tmod (wrap64 (x11_3 + (wrap64 (1 + (wrap64 (t331 * (wrap64 ((wrap64 (3 + t304)) - 2)))))))) (wrap64 (3 + t304))), (wrap64 (x12_3 - 1)), (x1001_3), (x1002_3), (y343), (.slice Ao77 y343.length co77), rfl, rfl, H', ⟨by have := HK1.out; have := HK2.out; have := HK3.out; omega⟩, ⟨by exact Kd.R_mono (Kd.R_far (p := ⟨gb328, 1, none⟩) (Kd.R_types HO_304000.out BK328.out (by decide)) (fun _ hk => hk.2) (.slice Ao77 y343.length co77)) (fun _ hk => ⟨hk.1.1, hk.1.2⟩)⟩, ⟨by exact Kd.S_mono (Kd.S_far (p := ⟨gb328, 1, none⟩) (Kd.S_mono HO_304001.out (fun k_ hk => (⟨hk, hk.1.2.2⟩ : _ ∧ k_ ≠ gb328))) (fun _ hk => hk.2) (.slice Ao77 y343.length co77)) (fun _ hk => ⟨hk.1.1.1, ⟨hk.1.1.2.1, ⟨hk.1.2, hk.1.1.2.2⟩⟩⟩)⟩, ⟨by exact Kd.R_mono (Kd.R_far (p := ⟨gb328, 1, none⟩) (Kd.R_types HO_304002.out BK328.out (by decide)) (fun _ hk => hk.2) (.slice Ao77 y343.length co77)) (fun _ hk => ⟨hk.1.1, hk.1.2⟩)⟩, ⟨by exact Kd.R_mono (Kd.R_far (p := ⟨gb328, 1, none⟩) (Kd.R_types HO345.out BK328.out (by decide)) (fun _ hk => hk.2) (.slice Ao77 y343.length co77)) (fun _ hk => ⟨hk.1.1, hk.1.2⟩)⟩, ⟨by refine blk_far ?_ NB302_328.out _; exact BK302.out⟩, ⟨by refine blk_far ?_ NB303_328.out _; exact BK303.out⟩, ⟨by refine blk_put (cs := #[.int .i64 t322, u329001, .int .i64 (wrap64 (1 + t325))]) ?_ 1 _ rfl; exact BK328.out⟩, ⟨by repeat (first | (with_reducible first | exact HI0.out | apply IsS58.alloc | apply IsS58.drewN | apply IsS58.drew | apply IsS58.set_1 | apply IsS58.set_2 | refine IsS58.far ?_ NB0_302.out _ | refine IsS58.far ?_ NB0_303.out _ | refine IsS58.far ?_ NB0_328.out _) | exact HI0.out)⟩, ⟨by repeat (first | (with_reducible first | exact HK.out | apply KeepBut.set_ | apply keep_drewN | apply keep_drew | apply keep_alloc | refine keep_far ?_ GW302.out _ | refine keep_far ?_ GW303.out _ | refine keep_far ?_ GW328.out _) | exact HK.out)⟩, ⟨by repeat (first | (with_reducible first | exact HB.out | refine below_set ?_ (IsS58.ge HI0.out) | refine below_set ?_ GE302.out | refine below_set ?_ GE303.out | refine below_set ?_ GE328.out) | exact HB.out)⟩⟩
end Go.Proofs.Ytckkppehfpjbpaa.Q
