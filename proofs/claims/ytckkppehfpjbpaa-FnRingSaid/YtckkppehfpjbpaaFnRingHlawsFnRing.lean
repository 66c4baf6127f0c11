-- Written by programs of this session (wip/drv.py, wip/hx.py) over the kit's print; not trusted: Lean checks it.
import Derived.Test.YtckkppehfpjbpaaFnRingQ0
import Derived.Test.YtckkppehfpjbpaaFnRingQ1
import Derived.Test.YtckkppehfpjbpaaFnRingQ6
import Derived.Test.YtckkppehfpjbpaaFnRingQ7
import Derived.Test.YtckkppehfpjbpaaFnRingSr8
import Derived.Test.YtckkppehfpjbpaaFnRingHka
import Derived.Test.YtckkppehfpjbpaaFnRingRg5
import Derived.Test.YtckkppehfpjbpaaFnRingRg6
import Derived.Test.YtckkppehfpjbpaaFnRingRg4
import Derived.Test.YtckkppehfpjbpaaFnRingDr0
import Derived.Test.YtckkppehfpjbpaaFnRingH0
namespace Go.Proofs.Ytckkppehfpjbpaa.Q
open Go.RowKit Go.Proofs.YtckkppehfpjbpaaW.PrintWords Go.Proofs.YtckkppehfpjbpaaW.PrintLast Go.Proofs.YtckkppehfpjbpaaW.PrintMore
attribute [local go_sem] max2_int min2_int max_two min_two max_three min_three max_four min_four   -- for this text's walks alone
set_option linter.unusedVariables false
set_option linter.unusedSimpArgs false

open Go.Proofs.Ytckkppehfpjbpaa.Sr Go.Proofs.Ytckkppehfpjbpaa.Rg Go.Proofs.Ytckkppehfpjbpaa.Dr
/-! ### laws_FnRing: function 4 -/
mutual
def laws_FnRing.l0 : Nat → List Int → Int → Int → List Int → List (S40) → List Int → Option (Bool)
 | 0, _, _, _, _, _, _ => none
 | k + 1, x0, x3, x5, x430000, x430001, x430002 => if x5 < x3 then (if x430000.length < 17592186044416 then (if x3 = 0 then (none) else (if x430001.length < 3518437208883 then ((laws_wByte.f x0 1).bind fun t439 => (if x430002.length < 17592186044416 then (laws_FnRing.l0 k x0 x3 (wrap64 (x5 + 1)) (x430000 ++ [1]) (x430001 ++ [(⟨x5, (([Int.tmod (wrap64 (x5 + 1)) x3] : List Int)), 1⟩ : S40)]) (x430002 ++ [wrap64 ((wrap64 (3 * x5)) + t439)])) else (none))) else (none))) else (none)) else ((impl_Stuck.f k x430000 x430001 x430002).bind fun t443 => (if t443 = true then ((impl_Safe.f k x430000 x430001 x430002).bind fun t444 => (if t444 = true then (laws_FnRing.j1 k x0 true) else ((impl_Ring.f k x430000 x430001 x430002).bind fun t445 => ((laws_wInts.f k t445 x430002).bind fun t448 => (laws_FnRing.j1 k x0 (!t448)))))) else (laws_FnRing.j1 k x0 true)))
def laws_FnRing.j1 : Nat → List Int → Bool → Option (Bool)
 | 0, _, _ => none
 | k + 1, x0, x67 => if x67 = true then (some false) else ((spec_DrawRing.f k x0).bind fun bt449 => ((impl_Ring.f k bt449.1 bt449.2.1 bt449.2.2).bind fun t459 => ((spec_Ring.f k bt449.1 bt449.2.1 bt449.2.2).bind fun t462 => ((laws_wInts.f k t459 t462).bind fun t465 => (if t465 = true then (laws_FnRing.l1 k t459 t459 (t459.length : Int) 0 bt449.1 bt449.2.1 bt449.2.2) else (some false))))))
def laws_FnRing.l1 : Nat → List Int → List Int → Int → Int → List Int → List (S40) → List Int → Option (Bool)
 | 0, _, _, _, _, _, _, _ => none
 | k + 1, x7, x77, x78, x79, x459000, x459001, x459002 => if x79 < x78 then (if 0 ≤ x79 then (if x79 < (x77.length : Int) then (if (x7.length : Int) = 0 then (none) else (if 0 ≤ (Int.tmod (wrap64 (x79 + 1)) (x7.length : Int)) then (if (Int.tmod (wrap64 (x79 + 1)) (x7.length : Int)) < (x7.length : Int) then ((impl_Waits.f k x459000 x459001 x459002 (rd x77 x79)).bind fun t468 => (laws_FnRing.l2 k x7 (rd x7 (Int.tmod (wrap64 (x79 + 1)) (x7.length : Int))) false x77 x78 x79 t468 (t468.length : Int) 0 x459000 x459001 x459002)) else (none)) else (none))) else (none)) else (none)) else ((impl_Stuck.f k x459000 x459001 x459002).bind fun t472 => (if t472 = true then (if (x7.length : Int) > 0 then ((impl_Safe.f k x459000 x459001 x459002).bind fun t473 => (some (!t473))) else (some false)) else ((impl_Moves.f k x459000 x459001 x459002).bind fun t474 => (if (t474.length : Int) = (x459001.length : Int) then (some ((x7.length : Int) == 0)) else (some true)))))
def laws_FnRing.l2 : Nat → List Int → Int → Bool → List Int → Int → Int → List Int → Int → Int → List Int → List (S40) → List Int → Option (Bool)
 | 0, _, _, _, _, _, _, _, _, _, _, _, _ => none
 | k + 1, x7, x10, x11, x77, x78, x79, x94, x95, x96, x459000, x459001, x459002 => if x96 < x95 then (if 0 ≤ x96 then (if x96 < (x94.length : Int) then (if x11 = true then (laws_FnRing.l2 k x7 x10 true x77 x78 x79 x94 x95 (wrap64 (x96 + 1)) x459000 x459001 x459002) else (laws_FnRing.l2 k x7 x10 ((rd x94 x96) == x10) x77 x78 x79 x94 x95 (wrap64 (x96 + 1)) x459000 x459001 x459002)) else (none)) else (none)) else (if x11 = true then (laws_FnRing.l1 k x7 x77 x78 (wrap64 (x79 + 1)) x459000 x459001 x459002) else (some false))
end
def laws_FnRing.f (k : Nat) (l0 : List Int) : Option (Bool) := if (l0.length : Int) > 1048576 then (some true) else ((laws_wByte.f l0 0).bind fun t428 => (laws_FnRing.l0 k l0 (wrap64 (2 + (Int.tmod t428 4))) 0 ([] : List Int) ([] : List (S40)) ([] : List Int)))
def laws_FnRing.T9 : Bool × List (List Nat × List Nat) := (true, [([], []), ([0], [0]), ([], []), ([], []), ([3], [3]), ([], []), ([4, 5], [4, 5]), ([6], [6]), ([2, 7], [2, 7]), ([8], [8]), ([1, 9], [1, 9]), ([0, 1, 2, 3, 4, 5, 6, 7, 8, 9, 10], []), ([11, 10, 10, 0, 1, 2, 3, 4, 5, 6, 7, 8, 9, 10], [10, 11])])
def laws_FnRing.B9 : List Nat := [0, 1, 0, 0, 8, 0, 56, 120, 252, 508, 1023, 2047, 4095]
theorem laws_FnRing.tab9 : rtab .any (opsOf Try.f4 9) = laws_FnRing.T9 := by kernel_rfl
theorem laws_FnRing.bits9 : waitsOk laws_FnRing.T9.2 laws_FnRing.B9 = true := by kernel_rfl
def laws_FnRing.T10 : Bool × List (List Nat × List Nat) := (true, [([], []), ([0], [0]), ([], []), ([2], [2]), ([], []), ([4], [4]), ([3, 5], [3, 5]), ([6], [6]), ([1, 7, 5], [1, 7]), ([0, 1, 2, 3, 4, 5, 6, 7, 8], []), ([9, 8, 8, 0, 1, 2, 3, 4, 5, 6, 7, 8], [8, 9])])
def laws_FnRing.B10 : List Nat := [0, 1, 0, 4, 0, 16, 60, 124, 255, 511, 1023]
theorem laws_FnRing.tab10 : rtab .any (opsOf Try.f4 10) = laws_FnRing.T10 := by kernel_rfl
theorem laws_FnRing.bits10 : waitsOk laws_FnRing.T10.2 laws_FnRing.B10 = true := by kernel_rfl
def laws_FnRing.T11 : Bool × List (List Nat × List Nat) := (true, [([], []), ([0], [0]), ([1], [1]), ([2, 1], [2]), ([3], [3]), ([4, 3, 3], [3, 4]), ([3, 5], [3, 5]), ([6, 5], [6]), ([7], [7]), ([8, 7, 7], [7, 8]), ([7], [7]), ([10, 7], [7, 10]), ([9, 11, 9, 7], [7, 9, 11]), ([12, 7], [7, 12]), ([7, 13], [7, 13])])
def laws_FnRing.B11 : List Nat := [0, 1, 3, 7, 15, 31, 63, 127, 255, 511, 255, 1279, 4095, 8191, 16383]
theorem laws_FnRing.tab11 : rtab .any (opsOf Try.f4 11) = laws_FnRing.T11 := by kernel_rfl
theorem laws_FnRing.bits11 : waitsOk laws_FnRing.T11.2 laws_FnRing.B11 = true := by kernel_rfl
def laws_FnRing.T32 : Bool × List (List Nat × List Nat) := (true, [([], []), ([0], [0]), ([1], [1]), ([], []), ([3], [3]), ([4], [4]), ([2, 5], [2, 5]), ([6, 1], [6]), ([7], [7]), ([8, 7], [7, 8]), ([9, 7], [7, 9]), ([7, 10], [7, 10]), ([11, 7, 0, 1, 2, 3, 4, 5, 6, 7, 8, 9, 10, 11], [11])])
def laws_FnRing.B32 : List Nat := [0, 1, 3, 0, 8, 24, 63, 127, 255, 511, 1023, 2047, 4095]
theorem laws_FnRing.tab32 : rtab .any (opsOf Try.f4 32) = laws_FnRing.T32 := by kernel_rfl
theorem laws_FnRing.bits32 : waitsOk laws_FnRing.T32.2 laws_FnRing.B32 = true := by kernel_rfl
theorem laws_FnRing.j1_dead : ∀ k y0, laws_FnRing.j1 k y0 true ≠ some true := by intro k; cases k <;> intros <;> simp [laws_FnRing.j1]
set_option maxHeartbeats 8000000 in
set_option maxRecDepth 100000 in
theorem laws_FnRing.calls (k : Nat) (A0 : Option Addr) (c0 : Nat) (l0 : List Int) (r : Bool) (w : World) (hr0 : Kd.C (Kd.int .u8) w A0 l0.length l0) (hc0 : l0.length ≤ c0) (hT_ : Aside0 (r = true)) (h : laws_FnRing.f k l0 = some r) :
  Calls Try.prog 4 #[.slice A0 l0.length c0] w fun e w' => e = .returned (.bool r) ∧ Below w.heap.size w w' := by
 have hu30 := Try.underlying30
 have hu40 := Try.underlying40
 have HR0 := K_ hr0
 have HC0 := K_ hc0
 clear hr0 hc0
 have HB := K_ (Below.refl w.heap.size w)
 unfold laws_FnRing.f at h
 have H := h
 clear h
 replace H := ps_ H
 rcases H with ⟨c2, H⟩ | ⟨c2, H⟩
 case inl =>
  have c2b0 : decide (1048576 < (l0.length : Int)) = true := decide_eq_true c2
  have c2b1 : decide (1048576 < l0.length) = true := decide_eq_true (by omega)
  clear c2
  obtain rfl := Option.some.inj H
  go_enter Try.func4, Try.ntmps4
  go_wp2
  go_ret
  exact ⟨rfl, HB.out⟩
 have c2b0 := decide_eq_false c2
 have c2b1 : decide (1048576 < l0.length) = false := decide_eq_false (by omega)
 clear c2
 replace H := Option.bind_eq_some_iff.mp H
 obtain ⟨t428, A30, H⟩ := H
 try dsimp only at H
 have A3 := K_ A30
 clear A30
 have H' := K_ H
 clear H
 go_enter Try.func4, Try.ntmps4
 go_wp2_with (first | ((with_reducible refine gate_callee (f := 14) rfl ?_); refine goesL_ (some 18) rfl rfl Try.func14 (by kernel_rfl) rfl #[.slice A0 l0.length c0, .int .i64 0] rfl (by (try simp only [List.map_toArray, List.map_cons, List.map_nil]); first | done | rfl | (simp only [List.length_drop, List.length_take]; rfl)) ?_; (with_reducible refine (laws_wByte.calls _ _ l0 0 t428 _ ?side1 ?side2 A3.out).mono ?_); (case side1 => repeat (first | exact HR0.out | (with_reducible refine Kd.C_alloc ?_ _) | (with_reducible refine Kd.C_drewN ?_ _) | (with_reducible refine Kd.C_drew ?_))); (case side2 => exact HC0.out); rintro e w' ⟨rfl, ⟨nd, rfl⟩⟩; refine ⟨_, rfl, ?_⟩) | ((with_reducible refine gate_dst (N := 4) rfl ?_); (try (refine gate_guard (by rfl) ?_; dsimp only)); refine box_event ?hg (N := 4) ?hd (cs := #[.slice none 0 0, .slice none 0 0, .slice none 0 0]) (t := 30) ?hr ?_; (case hd => rfl); (case hg => rfl); (case hr => go_simp; try rfl); intro gb429 hg w4 hbox hb; have n0_ := K_ (below_step (by repeat (first | (with_reducible first | exact HB.out | apply below_alloc | apply pw_below_drewN | apply below_drew1) | exact HB.out)) hb); have n1_ := K_ (hbox); have n2_ := K_ ((by rw [hg]; exact (below_size (by repeat (first | (with_reducible first | exact HB.out | apply below_alloc | apply pw_below_drewN | apply below_drew1) | exact HB.out))) : w.heap.size ≤ gb429)); have n3_ := K_ ((by rw [hg]; exact (below_size (by repeat (first | (with_reducible first | exact HB.out | apply below_alloc | apply pw_below_drewN | apply below_drew1) | exact HB.out))) : w.heap.size ≤ gb429)); clear HB; have HB := n0_; have BK429 := n1_; have GW429 := n2_; have GE429 := n3_; clear n0_ n1_ n2_ n3_; clear hb hbox hg))
 go_loopg [5] k (fun kq v5 w' => ∃ (x5_1 : Int) (x430000_1 : List Int) (x430001_1 : List (S40)) (x430002_1 : List Int) (u430000 : Value) (u430001 : Value) (u430002 : Value), v5 = .int .i64 x5_1 ∧ Aside0 (laws_FnRing.l0 kq l0 (wrap64 (2 + (Int.tmod t428 4))) x5_1 x430000_1 x430001_1 x430002_1 = some r) ∧ Aside0 (kq ≤ k) ∧ Aside0 (Kd.R (Kd.int .i64) 3 w' w.heap.size (fun k_ => X_ k_ u430002) u430000 x430000_1) ∧ Aside0 (Kd.N k40 40 w' w.heap.size (fun k_ => X_ k_ u430000 ∧ X_ k_ u430002 ∧ k_ ≠ gb429) u430001 x430001_1) ∧ Aside0 (Kd.R (Kd.int .i64) 3 w' w.heap.size (fun k_ => X_ k_ u430000) u430002 x430002_1) ∧ Aside0 (w'.heap[gb429]? = some (.cells #[u430000, u430001, u430002] 30 (0, 0))) ∧ Aside0 (Below w.heap.size w w'))
 case atStart => exact ⟨(0), (([] : List Int)), (([] : List (S40))), (([] : List Int)), (.slice none 0 0), (.slice none 0 0), (.slice none 0 0), (by first | rfl | (simp; done) | (simp [*]; done)), H', ⟨Nat.le_refl _⟩, ⟨by first | exact Kd.R_nil _ _ _ _ _ | exact Kd.N_nil _ _ _ _ _ | exact Kd.V_nil _ _ _ _ _ | exact Kd.Q_nil _ _ _ _ _ | exact Kd.S_nil _ _ _ _ _⟩, ⟨by first | exact Kd.S_nil _ _ _ _ _ | exact Kd.N_nil _ _ _ _ _ | exact Kd.V_nil _ _ _ _ _ | exact Kd.Q_nil _ _ _ _ _ | exact Kd.R_nil _ _ _ _ _⟩, ⟨by first | exact Kd.R_nil _ _ _ _ _ | exact Kd.N_nil _ _ _ _ _ | exact Kd.V_nil _ _ _ _ _ | exact Kd.Q_nil _ _ _ _ _ | exact Kd.S_nil _ _ _ _ _⟩, ⟨by (with_reducible repeat (first | refine blk_drewN ?_ _ | refine blk_drew ?_ | refine blk_alloc ?_ _)); exact BK429.out⟩, ⟨by repeat (first | (with_reducible first | exact HB.out | apply below_alloc | apply pw_below_drewN | apply below_drew1 | refine below_set ?_ GE429.out) | exact HB.out)⟩⟩
 case round =>
  clear H'
  clear c2b0 c2b1
  obtain ⟨x5_1, x430000_1, x430001_1, x430002_1, u430000, u430001, u430002, rfl, HA, HK1, HO_430000, HO_430001, HO_430002, BK429, HB⟩ := hrel
  cases gk with
  | zero => exact absurd HA.out (by simp [laws_FnRing.l0])
  | succ k1 =>
   have H := HA.out
   clear HA
   simp only [laws_FnRing.l0] at H
   by_cases c5 : x5_1 < (wrap64 (2 + (Int.tmod t428 4)))
   case pos =>
    rw [if_pos c5] at H
    have c5b0 : decide (x5_1 < (wrap64 (2 + (Int.tmod t428 4)))) = true := decide_eq_true c5
    clear c5
    replace H := pn_ H
    obtain ⟨c6, H⟩ := H
    have LMc6 := K_ c6
    clear c6
    obtain ⟨y430, hy430⟩ : ∃ y_ : List Int, y_ = (x430000_1 ++ [1]) := ⟨_, rfl⟩
    rw [← hy430] at H
    have Ny430 := K_ hy430
    clear hy430
    replace H := nn_ H
    obtain ⟨c7, H⟩ := H
    have c7b0 : ((wrap64 (2 + (Int.tmod t428 4))) == 0) = false := beq_eq_false_iff_ne.mpr c7
    have c7b1 : ((wrap64 (2 + (Int.tmod t428 4))) != 0) = true := bne_iff_ne.mpr c7
    obtain ⟨y433, hy433⟩ : ∃ y_ : List Int, y_ = (([Int.tmod (wrap64 (x5_1 + 1)) (wrap64 (2 + (Int.tmod t428 4)))] : List Int)) := ⟨_, rfl⟩
    rw [← hy433] at H
    have Ny433 := K_ hy433
    clear hy433
    replace H := pn_ H
    obtain ⟨c8, H⟩ := H
    have LMc8 := K_ c8
    clear c8
    obtain ⟨y436, hy436⟩ : ∃ y_ : List (S40), y_ = (x430001_1 ++ [(⟨x5_1, y433, 1⟩ : S40)]) := ⟨_, rfl⟩
    rw [← hy436] at H
    have Ny436 := K_ hy436
    clear hy436
    replace H := Option.bind_eq_some_iff.mp H
    obtain ⟨t439, A90, H⟩ := H
    try dsimp only at H
    have A9 := K_ A90
    clear A90
    replace H := pn_ H
    obtain ⟨c10, H⟩ := H
    have LMc10 := K_ c10
    clear c10
    obtain ⟨y440, hy440⟩ : ∃ y_ : List Int, y_ = (x430002_1 ++ [wrap64 ((wrap64 (3 * x5_1)) + t439)]) := ⟨_, rfl⟩
    rw [← hy440] at H
    have Ny440 := K_ hy440
    clear hy440
    have H' := K_ H
    clear H
    obtain ⟨hcz11_0, hcz11_1, hcz11_2, hfz11_0, hfz11_1, hfz11_2⟩ := blkf3_ BK429.out
    try go_wp2_with (first | ((with_reducible refine gate_builtin (b := .append) (xs := #[.tmp 27, .tmp 28]) rfl ?_); (try (refine gate_guard (by rfl) ?_; dsimp only)); at_builtin; refine Kd.R_append (Kd.int .i64) (w0 := w) w.heap.size rfl (.tmp 27) (.tmp 28) 22 3 (.int .i64 0) 8 rfl Try.underlying22 info3 rfl (by decide) (by omega) u430000 x430000_1 1 [.int .i64 1] (fun k_ => X_ k_ u430002) (fun _ => False) rfl rfl ?aP (fun _ hk => hk.elim) ?aF ?aO ?aB ?aS ?aL ?_; (case aP => exact rfl); (case aB => exact (HB.out)); (case aF => exact (fun k_ hk => Kd.fresh' (Kd.R_lt (by exact HO_430002.out)) k_ hk)); (case aO => exact (by exact HO_430000.out)); (case aS => exact (below_size (HB.out))); (case aL => have := LMc6.out; omega); intro v431 w12 ho hb hg hat; rw [← Ny430.out] at ho; have HO432 := K_ (ho); replace HO_430001 := K_ (Kd.N_afterv (ok := (fun k_ => X_ k_ u430002 ∧ k_ ≠ gb429)) (by exact Kd.N_mono HO_430001.out (fun _ hk => ⟨⟨hk.2.1, hk.2.2⟩, hk.1⟩)) hg hat); replace HO_430002 := K_ (Kd.R_after (ok := (fun _ => True)) (by exact Kd.R_mono HO_430002.out (fun _ hk => ⟨trivial, hk⟩)) hg hat); replace BK429 := K_ (blk_grown (g := gb429) (o := .cells #[u430000, u430001, u430002] 30 (0, 0)) BK429.out hg (Kd.R_ne HO_430000.out BK429.out (by decide))); replace HB := K_ (hb); clear HO_430000; clear ho hb hg hat; obtain ⟨Ao13, co13, eo13⟩ := Kd.R_slice HO432.out; subst eo13; obtain ⟨hcz14_0, hcz14_1, hcz14_2, hfz14_0, hfz14_1, hfz14_2⟩ := blkf3_ BK429.out))
    have n0_ : Aside0 (Kd.N k40 40 (w12.setCell ⟨gb429, 0, none⟩ (.slice Ao13 y430.length co13)) w.heap.size (fun k_ => X_ k_ u430002 ∧ X_ k_ (.slice Ao13 y430.length co13) ∧ k_ ≠ gb429) u430001 x430001_1) := ⟨by exact Kd.N_mono (Kd.N_far (p := ⟨gb429, 0, none⟩) (Kd.N_mono HO_430001.out (fun k_ hk => (⟨hk, hk.1.2⟩ : _ ∧ k_ ≠ gb429))) (fun _ hk => hk.2) (.slice Ao13 y430.length co13)) (fun _ hk => ⟨hk.1.1.1, ⟨hk.1.2, hk.1.1.2⟩⟩)⟩
    have n1_ : Aside0 (Kd.R (Kd.int .i64) 3 (w12.setCell ⟨gb429, 0, none⟩ (.slice Ao13 y430.length co13)) w.heap.size (fun k_ => X_ k_ (.slice Ao13 y430.length co13)) u430002 x430002_1) := ⟨by exact Kd.R_mono (Kd.R_far (p := ⟨gb429, 0, none⟩) (Kd.R_types HO_430002.out BK429.out (by decide)) (fun _ hk => hk.2) (.slice Ao13 y430.length co13)) (fun _ hk => hk.1.2)⟩
    have n2_ : Aside0 (Kd.R (Kd.int .i64) 3 (w12.setCell ⟨gb429, 0, none⟩ (.slice Ao13 y430.length co13)) w.heap.size (fun k_ => X_ k_ u430002) (.slice Ao13 y430.length co13) y430) := ⟨by exact Kd.R_mono (Kd.R_far (p := ⟨gb429, 0, none⟩) (Kd.R_types HO432.out BK429.out (by decide)) (fun _ hk => hk.2) (.slice Ao13 y430.length co13)) (fun _ hk => hk.1)⟩
    have n3_ : Aside0 ((w12.setCell ⟨gb429, 0, none⟩ (.slice Ao13 y430.length co13)).heap[gb429]? = some (.cells #[.slice Ao13 y430.length co13, u430001, u430002] 30 (0, 0))) := ⟨by (with_reducible repeat (first | refine blk_drewN ?_ _ | refine blk_drew ?_ | refine blk_alloc ?_ _)); refine blk_put (cs := #[u430000, u430001, u430002]) ?_ 0 _ rfl; (with_reducible repeat (first | refine blk_drewN ?_ _ | refine blk_drew ?_ | refine blk_alloc ?_ _)); exact BK429.out⟩
    have n4_ : Aside0 (Below w.heap.size w (w12.setCell ⟨gb429, 0, none⟩ (.slice Ao13 y430.length co13))) := ⟨by repeat (first | (with_reducible first | exact HB.out | refine below_set ?_ GE429.out) | exact HB.out)⟩
    (try clear HO_430001)
    (try clear HO_430002)
    clear HO432
    clear BK429
    (try clear HB)
    generalize (w12.setCell ⟨gb429, 0, none⟩ (.slice Ao13 y430.length co13)) = w15 at n0_ n1_ n2_ n3_ n4_ ⊢
    have HO_430001 := n0_
    have HO_430002 := n1_
    have HO432 := n2_
    have BK429 := n3_
    have HB := n4_
    clear n0_ n1_ n2_ n3_ n4_
    replace HO_430001 := K_ (Kd.N_drew HO_430001.out)
    replace HO_430002 := K_ (Kd.R_drew HO_430002.out)
    replace HO432 := K_ (Kd.R_drew HO432.out)
    replace BK429 := K_ (blk_drew BK429.out)
    replace HB := K_ (below_drew1 HB.out)
    refine start_ (n := 13) (S := fun w' => w'.cell? ⟨gb429, 0, none⟩ = some (.slice Ao13 y430.length co13) ∧ w'.cell? ⟨gb429, 1, none⟩ = some (u430001) ∧ w'.cell? ⟨gb429, 2, none⟩ = some (u430002)) (ds := [12]) #[ff, ff, ff, ff, ff, ff, ff, ff, ff, ff, ff, ff, ff] (by kernel_rfl) rfl rfl ⟨(blk_cell BK429.out 0).trans rfl, (blk_cell BK429.out 1).trans rfl, (blk_cell BK429.out 2).trans rfl⟩ (fun hHeld => ?_); refine with_tabW laws_FnRing.tab9 laws_FnRing.bits9 (fun HT_ HW_ => ?_)
    generalize w15.drew = w16 at HO_430001 HO_430002 HO432 BK429 HB hHeld ⊢
    refine pq_ 0 31 (M_ 13 1) HT_ ?_
    refine pq_ 2 33 (M_ 13 5) HT_ ?_
    refine pq_ 3 34 (M_ 13 13) HT_ ?_
    refine pq_ 4 35 (M_ 13 29) HT_ ?_
    refine pq_ 5 36 (M_ 13 61) HT_ ?_
    refine pq_ 6 37 (M_ 13 125) HT_ ?_
    refine tq_ 1 32 (M_ 13 127) HT_ HW_ hHeld ?_
    refine one_ (i := 7) (N := some 38) (M_ 13 255) rfl rfl (one_of HT_.out (by kernel_rfl)) (by decide) (fun K hK => ?_)
    refine Kd.R_lit_step (Kd.int .i64) _ 3 ?hg (N := 38) ?hd (xs := ([Int.tmod (wrap64 (x5_1 + 1)) (wrap64 (2 + (Int.tmod t428 4)))] : List Int)) (inner := [.int .i64 (Int.tmod (wrap64 (x5_1 + 1)) (wrap64 (2 + (Int.tmod t428 4))))]) (ok := fun _ => True) (okp := fun _ => True) ?hr ?hp (fun _ hk => hk) trivial (Below.refl _ _) (Nat.le_refl _) (by simp) ?_; (case hd => rfl); (case hg => rfl); (case hr => go_simp; try rfl); (case hp => exact (Reps.one (show Kd.M (Kd.int .i64) _ _ _ (Int.tmod (wrap64 (x5_1 + 1)) (wrap64 (2 + (Int.tmod t428 4)))) [.int .i64 (Int.tmod (wrap64 (x5_1 + 1)) (wrap64 (2 + (Int.tmod t428 4))))] from rfl) (Reps.none _ _)))
    intro v434 w17 ho18 hb hg_ hnew_
    clear hg_ hnew_
    (first | rw [← Ny433.out] at ho18 | (simp only [Int.reduceToNat] at ho18; rw [← Ny433.out] at ho18))
    have HO435 := K_ (Kd.R_lower (Kd.R_new' (Kd.R_new' ho18 (Kd.R_lt (by exact HO_430002.out))) (Kd.R_lt (by exact HO432.out))) (below_size (HB.out)))
    replace HO_430001 := K_ (Kd.N_elder' (by exact HO_430001.out) (Kd.R_base ho18) hb)
    replace HO_430002 := K_ (Kd.R_elder' (by exact HO_430002.out) (Kd.R_base ho18) hb)
    replace HO432 := K_ (Kd.R_elder' (by exact HO432.out) (Kd.R_base ho18) hb)
    replace BK429 := K_ (blk_below (g := gb429) (o := .cells #[.slice Ao13 y430.length co13, u430001, u430002] 30 (0, 0)) BK429.out hb)
    replace HB := K_ (below_step (HB.out) hb)
    clear hb ho18
    obtain ⟨Ao19, co19, eo19⟩ := Kd.R_slice HO435.out
    (first | subst eo19 | (injection eo19 with f1_ f2_ f3_; have f4_ := f1_.symm; have f5_ := f3_.symm; clear f1_ f2_ f3_; subst f4_; subst f5_))
    refine hK.out _ _ ⟨(blk_cell BK429.out 0).trans rfl, (blk_cell BK429.out 1).trans rfl, (blk_cell BK429.out 2).trans rfl⟩ (fun hHeld => ?_)
    clear hK K
    refine norm_ (a' := ?_) ?_ ?_
    rotate_left
    ·show Act.put _ (some 38) _ = _
     simp only [P_, i64_w, i32_w]
     rfl
    refine pq_ 8 39 (M_ 13 511) HT_ ?_
    refine one_ (i := 9) (N := some 40) (M_ 13 1023) rfl rfl (one_of HT_.out (by kernel_rfl)) (by decide) (fun K hK => ?_)
    refine value_ (w1 := ?_) (v := ?_) (by rfl) rfl ?_ ?_
    rotate_left 2
    ·go_simp
     constructor
     ·rfl
     ·rfl
    refine hK.out _ _ ⟨(blk_cell (blk_alloc BK429.out _) 0).trans rfl, (blk_cell (blk_alloc BK429.out _) 1).trans rfl, (blk_cell (blk_alloc BK429.out _) 2).trans rfl⟩ (fun hHeld => ?_)
    clear hK K
    refine norm_ (a' := ?_) ?_ ?_
    rotate_left
    ·show Act.put _ (some 40) _ = _
     simp only [P_, i64_w, i32_w]
     rfl
    refine one_ (i := 10) (N := some 41) (M_ 13 2047) rfl rfl (one_of HT_.out (by kernel_rfl)) (by decide) (fun K hK => ?_)
    refine Kd.N_append_step k40 (w0 := w) w.heap.size (by rfl) (.tmp 32) (.tmp 40) 28 40 (.agg #[(.int .i64 0), (.slice none 0 0), (.int .i64 0)]) 40 rfl Try.underlying28 info40 rfl (by decide) (by omega) u430001 x430001_1 (⟨x5_1, y433, 1⟩ : S40) [.int .i64 x5_1, .slice Ao19 y433.length co19, .int .i64 1] (fun k_ => X_ k_ u430002 ∧ X_ k_ (.slice Ao13 y430.length co13) ∧ k_ ≠ gb429) (fun k_ => ((fun k_ => X_ k_ u430002 ∧ X_ k_ (.slice Ao13 y430.length co13) ∧ k_ ≠ gb429)) k_ ∧ X_ k_ u430001) rfl rfl ?aP (fun _ hk => hk) ?aF ?aO ?aB ?aS ?aL ?_
    (case aP => exact (k40_mkF _ _ (⟨x5_1, y433, 1⟩ : S40) (Kd.R_reads' (Kd.R_mono (ok' := (fun k_ => ((fun k_ => X_ k_ u430002 ∧ some k_ ≠ (.slice Ao13 y430.length co13 : Value).ownBlock ∧ k_ ≠ gb429)) k_ ∧ some k_ ≠ (u430001 : Value).ownBlock)) (Kd.R_types (Kd.R_apart' (HO435.out) (Kd.N_typed HO_430001.out) (by decide)) BK429.out (by decide)) (fun k_ hk => ⟨⟨hk.1.1.1.2, ⟨hk.1.1.2, hk.2⟩⟩, hk.1.2⟩))).2.1 (Kd.R_F (Kd.R_mono (ok' := (fun k_ => ((fun k_ => some k_ ≠ (u430002 : Value).ownBlock ∧ some k_ ≠ (.slice Ao13 y430.length co13 : Value).ownBlock ∧ k_ ≠ gb429)) k_ ∧ some k_ ≠ (u430001 : Value).ownBlock)) (Kd.R_types (Kd.R_apart' (HO435.out) (Kd.N_typed HO_430001.out) (by decide)) BK429.out (by decide)) (fun k_ hk => ⟨⟨hk.1.1.1.2, ⟨hk.1.1.2, hk.2⟩⟩, hk.1.2⟩)))))
    (case aB => exact (HB.out))
    (case aF => exact (fun k_ hk => ⟨Kd.fresh' (Kd.R_lt (by exact HO_430002.out)) k_ hk, Kd.fresh' (Kd.R_lt (by exact HO432.out)) k_ hk, Kd.freshB (g := gb429) (o := .cells #[.slice Ao13 y430.length co13, u430001, u430002] 30 (0, 0)) BK429.out k_ hk⟩))
    (case aO => exact (by exact Kd.N_mono HO_430001.out (fun _ hk => ⟨hk.1.1, ⟨hk.1.2.1, hk.1.2.2⟩⟩)))
    (case aS => exact (below_size (HB.out)))
    (case aL => have := LMc8.out; omega)
    intro v437 w20 ho hb hg hat
    rw [← Ny436.out] at ho
    have HO438 := K_ (ho)
    replace HO_430002 := K_ (Kd.R_over' (by (with_reducible repeat (first | apply Kd.R_alloc | apply Kd.R_drewN | apply Kd.R_drew)); exact HO_430002.out) (Kd.N_typed (by (with_reducible repeat (first | apply Kd.N_alloc | apply Kd.N_drewN | apply Kd.N_drew)); exact HO_430001.out)) (by decide) hg)
    replace BK429 := K_ (blk_grown (g := gb429) (o := .cells #[.slice Ao13 y430.length co13, u430001, u430002] 30 (0, 0)) BK429.out hg (Kd.N_ne HO_430001.out BK429.out (by decide)))
    replace HO432 := K_ (Kd.R_over' (by (with_reducible repeat (first | apply Kd.R_alloc | apply Kd.R_drewN | apply Kd.R_drew)); exact HO432.out) (Kd.N_typed (by exact HO_430001.out)) (by decide) hg)
    replace HB := K_ (hb)
    clear HO_430001 HO435
    clear ho hb hg hat
    obtain ⟨Ao21, co21, eo21⟩ := Kd.N_slice HO438.out
    (first | subst eo21 | (injection eo21 with f1_ f2_ f3_; have f4_ := f1_.symm; have f5_ := f3_.symm; clear f1_ f2_ f3_; subst f4_; subst f5_))
    refine hK.out _ _ ⟨(blk_cell BK429.out 0).trans rfl, (blk_cell BK429.out 1).trans rfl, (blk_cell BK429.out 2).trans rfl⟩ (fun hHeld => ?_)
    clear hK K
    refine norm_ (a' := ?_) ?_ ?_
    rotate_left
    ·show Act.put _ (some 41) _ = _
     simp only [P_, i64_w, i32_w]
     rfl
    refine pq_ 11 42 (M_ 13 4095) HT_ ?_
    refine last_ (i := 12) (N := none) (M_ 13 8191) rfl rfl (one_of HT_.out (by kernel_rfl)) (by decide) (fun K hK => ?_)
    have hs22 : w20.cell? ⟨gb429, 1, none⟩ = some (u430001) := (blk_cell BK429.out 1).trans rfl
    have hfs22 := blk_frozen BK429.out 1
    refine skip_ (w1 := ?_) (by rfl) rfl ?_ ?_
    rotate_left
    ·go_simp
     rfl
    refine hK.out _ _ ?_
    clear hK K
    refine done_ (done_of HT_.out (by kernel_rfl)) ?_
    try go_wp2
    have n0_ : Aside0 (Kd.R (Kd.int .i64) 3 (w20.setCell ⟨gb429, 1, none⟩ (.slice Ao21 y436.length co21)) w.heap.size (fun k_ => some k_ ≠ (.slice Ao13 y430.length co13 : Value).ownBlock) u430002 x430002_1) := ⟨by exact Kd.R_mono (Kd.R_far (p := ⟨gb429, 1, none⟩) (Kd.R_types HO_430002.out BK429.out (by decide)) (fun _ hk => hk.2) (.slice Ao21 y436.length co21)) (fun _ hk => hk.1.1)⟩
    have n1_ : Aside0 (Kd.R (Kd.int .i64) 3 (w20.setCell ⟨gb429, 1, none⟩ (.slice Ao21 y436.length co21)) w.heap.size (fun k_ => some k_ ≠ (u430002 : Value).ownBlock) (.slice Ao13 y430.length co13) y430) := ⟨by exact Kd.R_mono (Kd.R_far (p := ⟨gb429, 1, none⟩) (Kd.R_types HO432.out BK429.out (by decide)) (fun _ hk => hk.2) (.slice Ao21 y436.length co21)) (fun _ hk => hk.1.1)⟩
    have n2_ : Aside0 (Kd.N k40 40 (w20.setCell ⟨gb429, 1, none⟩ (.slice Ao21 y436.length co21)) w.heap.size (fun k_ => some k_ ≠ (u430002 : Value).ownBlock ∧ some k_ ≠ (.slice Ao13 y430.length co13 : Value).ownBlock ∧ k_ ≠ gb429) (.slice Ao21 y436.length co21) y436) := ⟨by exact Kd.N_mono (Kd.N_far (p := ⟨gb429, 1, none⟩) (Kd.N_mono HO438.out (fun k_ hk => (⟨hk, hk.2.2⟩ : _ ∧ k_ ≠ gb429))) (fun _ hk => hk.2) (.slice Ao21 y436.length co21)) (fun _ hk => ⟨hk.1.1, ⟨hk.1.2.1, hk.1.2.2⟩⟩)⟩
    have n3_ : Aside0 ((w20.setCell ⟨gb429, 1, none⟩ (.slice Ao21 y436.length co21)).heap[gb429]? = some (.cells #[.slice Ao13 y430.length co13, .slice Ao21 y436.length co21, u430002] 30 (0, 0))) := ⟨by (with_reducible repeat (first | refine blk_drewN ?_ _ | refine blk_drew ?_ | refine blk_alloc ?_ _)); refine blk_put (cs := #[.slice Ao13 y430.length co13, u430001, u430002]) ?_ 1 _ rfl; (with_reducible repeat (first | refine blk_drewN ?_ _ | refine blk_drew ?_ | refine blk_alloc ?_ _)); exact BK429.out⟩
    have n4_ : Aside0 (Below w.heap.size w (w20.setCell ⟨gb429, 1, none⟩ (.slice Ao21 y436.length co21))) := ⟨by repeat (first | (with_reducible first | exact HB.out | refine below_set ?_ GE429.out) | exact HB.out)⟩
    (try clear HO_430002)
    clear HO432
    clear HO438
    (try clear BK429)
    clear HB
    generalize (w20.setCell ⟨gb429, 1, none⟩ (.slice Ao21 y436.length co21)) = w23 at n0_ n1_ n2_ n3_ n4_ ⊢
    have HO_430002 := n0_
    have HO432 := n1_
    have HO438 := n2_
    have BK429 := n3_
    have HB := n4_
    clear n0_ n1_ n2_ n3_ n4_
    replace HO_430002 := K_ (Kd.R_drew HO_430002.out)
    replace HO432 := K_ (Kd.R_drew HO432.out)
    replace HO438 := K_ (Kd.N_drew HO438.out)
    replace BK429 := K_ (blk_drew BK429.out)
    replace HB := K_ (below_drew1 HB.out)
    refine start_ (n := 11) (S := fun w' => w'.cell? ⟨gb429, 0, none⟩ = some (.slice Ao13 y430.length co13) ∧ w'.cell? ⟨gb429, 1, none⟩ = some (.slice Ao21 y436.length co21) ∧ w'.cell? ⟨gb429, 2, none⟩ = some (u430002)) (ds := [10]) #[ff, ff, ff, ff, ff, ff, ff, ff, ff, ff, ff] (by kernel_rfl) rfl rfl ⟨(blk_cell BK429.out 0).trans rfl, (blk_cell BK429.out 1).trans rfl, (blk_cell BK429.out 2).trans rfl⟩ (fun hHeld => ?_); refine with_tabW laws_FnRing.tab10 laws_FnRing.bits10 (fun HT_ HW_ => ?_)
    generalize w23.drew = w24 at HO_430002 HO432 HO438 BK429 HB hHeld ⊢
    refine pq_ 0 43 (M_ 11 1) HT_ ?_
    refine pq_ 2 45 (M_ 11 5) HT_ ?_
    refine pq_ 3 46 (M_ 11 13) HT_ ?_
    refine pq_ 4 47 (M_ 11 29) HT_ ?_
    refine tq_ 1 44 (M_ 11 31) HT_ HW_ hHeld ?_
    refine one_ (i := 5) (N := some 48) (M_ 11 63) rfl rfl (one_of HT_.out (by kernel_rfl)) (by decide) (fun K hK => ?_)
    refine goes_ Try.func14 (by kernel_rfl) rfl #[.slice A0 l0.length c0, .int .i64 1] (by rfl) rfl rfl (by simp only [List.map_toArray, List.map_cons, List.map_nil]; try rfl) ?_
    with_reducible refine (laws_wByte.calls _ _ l0 1 t439 _ ?side1 ?side2 A9.out).mono ?_
    (case side1 => exact (Kd.C_below HR0.out HB.out))
    (case side2 => exact HC0.out)
    rintro e w' ⟨rfl, ⟨nd, rfl⟩⟩
    refine ⟨_, rfl, ?_⟩
    refine hK.out _ _ ⟨(blk_cell BK429.out 0).trans rfl, (blk_cell BK429.out 1).trans rfl, (blk_cell BK429.out 2).trans rfl⟩ (fun hHeld => ?_)
    clear hK K
    refine norm_ (a' := ?_) ?_ ?_
    rotate_left
    ·show Act.put _ (some 48) _ = _
     simp only [P_, i64_w, i32_w]
     rfl
    refine pq_ 6 49 (M_ 11 127) HT_ ?_
    refine one_ (i := 7) (N := some 50) (M_ 11 255) rfl rfl (one_of HT_.out (by kernel_rfl)) (by decide) (fun K hK => ?_)
    refine value_ (w1 := ?_) (v := ?_) (by rfl) rfl ?_ ?_
    rotate_left 2
    ·go_simp
     constructor
     ·rfl
     ·rfl
    refine hK.out _ _ ⟨(blk_cell (blk_alloc BK429.out _) 0).trans rfl, (blk_cell (blk_alloc BK429.out _) 1).trans rfl, (blk_cell (blk_alloc BK429.out _) 2).trans rfl⟩ (fun hHeld => ?_)
    clear hK K
    refine norm_ (a' := ?_) ?_ ?_
    rotate_left
    ·show Act.put _ (some 50) _ = _
     simp only [P_, i64_w, i32_w]
     rfl
    refine one_ (i := 8) (N := some 51) (M_ 11 511) rfl rfl (one_of HT_.out (by kernel_rfl)) (by decide) (fun K hK => ?_)
    refine Kd.R_append_step (Kd.int .i64) (w0 := w) w.heap.size (by rfl) (.tmp 44) (.tmp 50) 22 3 (.int .i64 0) 8 rfl Try.underlying22 info3 rfl (by decide) (by omega) u430002 x430002_1 (wrap64 ((wrap64 (3 * x5_1)) + t439)) [.int .i64 (wrap64 ((wrap64 (3 * x5_1)) + t439))] (fun k_ => some k_ ≠ (.slice Ao13 y430.length co13 : Value).ownBlock) (fun _ => False) rfl rfl ?aP (fun _ hk => hk.elim) ?aF ?aO ?aB ?aS ?aL ?_
    (case aP => exact rfl)
    (case aB => exact (by repeat (first | (with_reducible first | exact HB.out | apply below_alloc | apply pw_below_drewN | apply below_drew1 | refine below_set ?_ GE429.out) | exact HB.out)))
    (case aF => exact (fun k_ hk => Kd.fresh' (Kd.R_lt (by exact HO432.out)) k_ hk))
    (case aO => exact (by exact HO_430002.out))
    (case aS => exact (below_size (by repeat (first | (with_reducible first | exact HB.out | apply below_alloc | apply pw_below_drewN | apply below_drew1 | refine below_set ?_ GE429.out) | exact HB.out))))
    (case aL => have := LMc10.out; omega)
    intro v441 w25 ho hb hg hat
    rw [← Ny440.out] at ho
    have HO442 := K_ (ho)
    replace BK429 := K_ (blk_grown (g := gb429) (o := .cells #[.slice Ao13 y430.length co13, .slice Ao21 y436.length co21, u430002] 30 (0, 0)) (by (with_reducible repeat (first | refine blk_drewN ?_ _ | refine blk_drew ?_ | refine blk_alloc ?_ _)); exact BK429.out) hg (Kd.R_ne HO_430002.out BK429.out (by decide)))
    replace HO432 := K_ (Kd.R_after (ok := (fun _ => True)) (by exact Kd.R_mono HO432.out (fun _ hk => ⟨trivial, hk⟩)) hg hat)
    replace HO438 := K_ (Kd.N_afterv (ok := (fun k_ => some k_ ≠ (.slice Ao13 y430.length co13 : Value).ownBlock ∧ k_ ≠ gb429)) (by exact Kd.N_mono HO438.out (fun _ hk => ⟨⟨hk.2.1, hk.2.2⟩, hk.1⟩)) hg hat)
    replace HB := K_ (hb)
    clear HO_430002
    clear ho hb hg hat
    obtain ⟨Ao26, co26, eo26⟩ := Kd.R_slice HO442.out
    (first | subst eo26 | (injection eo26 with f1_ f2_ f3_; have f4_ := f1_.symm; have f5_ := f3_.symm; clear f1_ f2_ f3_; subst f4_; subst f5_))
    refine hK.out _ _ ⟨(blk_cell BK429.out 0).trans rfl, (blk_cell BK429.out 1).trans rfl, (blk_cell BK429.out 2).trans rfl⟩ (fun hHeld => ?_)
    clear hK K
    refine norm_ (a' := ?_) ?_ ?_
    rotate_left
    ·show Act.put _ (some 51) _ = _
     simp only [P_, i64_w, i32_w]
     rfl
    refine pq_ 9 52 (M_ 11 1023) HT_ ?_
    refine last_ (i := 10) (N := none) (M_ 11 2047) rfl rfl (one_of HT_.out (by kernel_rfl)) (by decide) (fun K hK => ?_)
    have hs27 : w25.cell? ⟨gb429, 2, none⟩ = some (u430002) := (blk_cell BK429.out 2).trans rfl
    have hfs27 := blk_frozen BK429.out 2
    refine skip_ (w1 := ?_) (by rfl) rfl ?_ ?_
    rotate_left
    ·go_simp
     rfl
    refine hK.out _ _ ?_
    clear hK K
    refine done_ (done_of HT_.out (by kernel_rfl)) ?_
    try go_wp2
    go_roundg k1
    case measure => have := HK1.out; omega
    case rel => exact ⟨(wrap64 (x5_1 + 1)), (y430), (y436), (y440), (.slice Ao13 y430.length co13), (.slice Ao21 y436.length co21), (.slice Ao26 y440.length co26), (by first | rfl | (simp; done) | (simp [*]; done)), H', ⟨by have := HK1.out; omega⟩, ⟨by exact Kd.R_mono (Kd.R_far (p := ⟨gb429, 2, none⟩) (Kd.R_types HO432.out BK429.out (by decide)) (fun _ hk => hk.2) (.slice Ao26 y440.length co26)) (fun _ hk => hk.1.2)⟩, ⟨by exact Kd.N_mono (Kd.N_far (p := ⟨gb429, 2, none⟩) (Kd.N_mono HO438.out (fun k_ hk => (⟨hk, hk.1.2⟩ : _ ∧ k_ ≠ gb429))) (fun _ hk => hk.2) (.slice Ao26 y440.length co26)) (fun _ hk => ⟨hk.1.1.1, ⟨hk.1.2, hk.1.1.2⟩⟩)⟩, ⟨by (with_reducible repeat (first | apply Kd.R_alloc | apply Kd.R_drewN | apply Kd.R_drew)); exact Kd.R_mono (Kd.R_far (p := ⟨gb429, 2, none⟩) (Kd.R_types HO442.out BK429.out (by decide)) (fun _ hk => hk.2) (.slice Ao26 y440.length co26)) (fun _ hk => hk.1)⟩, ⟨by (with_reducible repeat (first | refine blk_drewN ?_ _ | refine blk_drew ?_ | refine blk_alloc ?_ _)); refine blk_put (cs := #[.slice Ao13 y430.length co13, .slice Ao21 y436.length co21, u430002]) ?_ 2 _ rfl; (with_reducible repeat (first | refine blk_drewN ?_ _ | refine blk_drew ?_ | refine blk_alloc ?_ _)); exact BK429.out⟩, ⟨by repeat (first | (with_reducible first | exact HB.out | apply below_alloc | apply pw_below_drewN | apply below_drew1 | refine below_set ?_ GE429.out) | exact HB.out)⟩⟩
   rw [if_neg c5] at H
   have c5b0 : decide (x5_1 < (wrap64 (2 + (Int.tmod t428 4)))) = false := decide_eq_false c5
   clear c5
   have HC28 := K_ H
   clear H
   go_upto_region 11 with (fail)
   go_cut [67] (fun v67 wc => ∃ (kq : Nat) (x67_27 : Bool), v67 = .bool x67_27 ∧ Aside0 (laws_FnRing.j1 kq l0 x67_27 = some r) ∧ Aside0 (kq ≤ k1) ∧ Aside0 (Kd.R (Kd.int .i64) 3 wc w.heap.size (fun k_ => some k_ ≠ (u430002 : Value).ownBlock) u430000 x430000_1) ∧ Aside0 (Kd.N k40 40 wc w.heap.size (fun k_ => some k_ ≠ (u430000 : Value).ownBlock ∧ some k_ ≠ (u430002 : Value).ownBlock ∧ k_ ≠ gb429) u430001 x430001_1) ∧ Aside0 (Kd.R (Kd.int .i64) 3 wc w.heap.size (fun k_ => some k_ ≠ (u430000 : Value).ownBlock) u430002 x430002_1) ∧ Aside0 (wc.heap[gb429]? = some (.cells #[u430000, u430001, u430002] 30 (0, 0))) ∧ Aside0 (Below w.heap.size w wc))
   case first =>
    have H := HC28.out
    clear HC28
    replace H := Option.bind_eq_some_iff.mp H
    obtain ⟨t443, A290, H⟩ := H
    try dsimp only at H
    have A29 := K_ A290
    clear A290
    by_cases c30 : t443 = true
    case neg =>
     replace c30 := Bool.eq_false_iff.mpr c30
     subst c30
     have H1 : (laws_FnRing.j1 k1 l0 true) = some r := by rw [if_neg (show ¬ (false = true) by decide)] at H; exact H
     clear H
     have H := H1
     exact absurd (H.trans (congrArg some hT_.out)) (laws_FnRing.j1_dead _ _)
    subst c30
    rw [if_pos rfl] at H
    replace H := Option.bind_eq_some_iff.mp H
    obtain ⟨t444, A310, H⟩ := H
    try dsimp only at H
    have A31 := K_ A310
    clear A310
    by_cases c32 : t444 = true
    case pos =>
     subst c32
     have H1 : (laws_FnRing.j1 k1 l0 true) = some r := by rw [if_pos rfl] at H; exact H
     clear H
     have H := H1
     exact absurd (H.trans (congrArg some hT_.out)) (laws_FnRing.j1_dead _ _)
    replace c32 := Bool.eq_false_iff.mpr c32
    subst c32
    rw [if_neg (show ¬ (false = true) by decide)] at H
    replace H := Option.bind_eq_some_iff.mp H
    obtain ⟨t445, A390, H⟩ := H
    try dsimp only at H
    have A39 := K_ A390
    clear A390
    replace H := Option.bind_eq_some_iff.mp H
    obtain ⟨t448, A400, H⟩ := H
    try dsimp only at H
    have A40 := K_ A400
    clear A400
    have H' := K_ H
    clear H
    try go_wp2
    replace HO_430000 := K_ (Kd.R_drew HO_430000.out)
    replace HO_430001 := K_ (Kd.N_drew HO_430001.out)
    replace HO_430002 := K_ (Kd.R_drew HO_430002.out)
    replace BK429 := K_ (blk_drew BK429.out)
    replace HB := K_ (below_drew1 HB.out)
    obtain ⟨Ao42, co42, eo42⟩ := Kd.R_slice HO_430000.out
    (first | subst eo42 | (injection eo42 with f1_ f2_ f3_; have f4_ := f1_.symm; have f5_ := f3_.symm; clear f1_ f2_ f3_; subst f4_; subst f5_))
    obtain ⟨Ao43, co43, eo43⟩ := Kd.N_slice HO_430001.out
    (first | subst eo43 | (injection eo43 with f1_ f2_ f3_; have f4_ := f1_.symm; have f5_ := f3_.symm; clear f1_ f2_ f3_; subst f4_; subst f5_))
    obtain ⟨Ao44, co44, eo44⟩ := Kd.R_slice HO_430002.out
    (first | subst eo44 | (injection eo44 with f1_ f2_ f3_; have f4_ := f1_.symm; have f5_ := f3_.symm; clear f1_ f2_ f3_; subst f4_; subst f5_))
    refine start_ (n := 15) (S := fun w' => w'.cell? ⟨gb429, 0, none⟩ = some (.slice Ao42 x430000_1.length co42) ∧ w'.cell? ⟨gb429, 1, none⟩ = some (.slice Ao43 x430001_1.length co43) ∧ w'.cell? ⟨gb429, 2, none⟩ = some (.slice Ao44 x430002_1.length co44)) (ds := []) #[ff, ff, ff, ff, ff, ff, ff, ff, ff, ff, ff, ff, ff, ff, ff] (by kernel_rfl) rfl rfl ⟨(blk_cell BK429.out 0).trans rfl, (blk_cell BK429.out 1).trans rfl, (blk_cell BK429.out 2).trans rfl⟩ (fun hHeld => ?_); refine with_tabW laws_FnRing.tab11 laws_FnRing.bits11 (fun HT_ HW_ => ?_)
    generalize wr.drew = w41 at HO_430000 HO_430001 HO_430002 BK429 HB hHeld ⊢
    refine tq_ 0 53 (M_ 15 1) HT_ HW_ hHeld ?_
    refine one_ (i := 1) (N := some 54) (M_ 15 3) rfl rfl (one_of HT_.out (by kernel_rfl)) (by decide) (fun K hK => ?_)
    refine goes_ Try.func15 (by kernel_rfl) rfl #[.agg #[.slice Ao42 x430000_1.length co42, .slice Ao43 x430001_1.length co43, .slice Ao44 x430002_1.length co44]] (by rfl) rfl rfl (by simp only [List.map_toArray, List.map_cons, List.map_nil]; try rfl) ?_
    with_reducible refine (impl_Stuck.calls k1 _ _ x430000_1 _ _ x430001_1 _ _ x430002_1 true _ ?side1 ?side2 ?side3 ?side4 ?side5 ?side6 A29.out).mono ?_
    (case side1 => exact (Kd.R_reads' HO_430000.out).2.2)
    (case side2 => exact (Kd.R_reads' HO_430000.out).2.1)
    (case side3 => exact (Kd.N_reads' HO_430001.out).2.2)
    (case side4 => exact (Kd.N_reads' HO_430001.out).2.1)
    (case side5 => exact (Kd.R_reads' HO_430002.out).2.2)
    (case side6 => exact (Kd.R_reads' HO_430002.out).2.1)
    rintro e w45 ⟨rfl, hb⟩
    refine ⟨_, rfl, ?_⟩
    replace HO_430000 := K_ (Kd.R_below (by (with_reducible repeat (first | apply Kd.R_alloc | apply Kd.R_drewN | apply Kd.R_drew)); exact HO_430000.out) hb)
    replace HO_430001 := K_ (Kd.N_below (by (with_reducible repeat (first | apply Kd.N_alloc | apply Kd.N_drewN | apply Kd.N_drew)); exact HO_430001.out) hb)
    replace HO_430002 := K_ (Kd.R_below (by exact HO_430002.out) hb)
    replace BK429 := K_ (blk_below (g := gb429) (o := .cells #[.slice Ao42 x430000_1.length co42, .slice Ao43 x430001_1.length co43, .slice Ao44 x430002_1.length co44] 30 (0, 0)) BK429.out hb)
    replace HB := K_ (below_step (HB.out) hb)
    clear hb
    (try clear hb2)
    (try clear hk)
    (try clear hi)
    refine hK.out _ _ ⟨(blk_cell BK429.out 0).trans rfl, (blk_cell BK429.out 1).trans rfl, (blk_cell BK429.out 2).trans rfl⟩ (fun hHeld => ?_)
    clear hK K
    refine norm_ (a' := ?_) ?_ ?_
    rotate_left
    ·show Act.put _ (some 54) _ = _
     simp only [P_, i64_w, i32_w]
     rfl
    refine pq_ 2 55 (M_ 15 7) HT_ ?_
    refine pq_ 3 56 (M_ 15 15) HT_ ?_
    refine tq_ 4 57 (M_ 15 31) HT_ HW_ hHeld ?_
    refine one_ (i := 5) (N := some 58) (M_ 15 63) rfl rfl (one_of HT_.out (by kernel_rfl)) (by decide) (fun K hK => ?_)
    refine goes_ Try.func16 (by kernel_rfl) rfl #[.agg #[.slice Ao42 x430000_1.length co42, .slice Ao43 x430001_1.length co43, .slice Ao44 x430002_1.length co44]] (by rfl) rfl rfl (by simp only [List.map_toArray, List.map_cons, List.map_nil]; try rfl) ?_
    with_reducible refine (impl_Safe.calls k1 _ _ x430000_1 _ _ x430001_1 _ _ x430002_1 false _ ?side1 ?side2 ?side3 ?side4 ?side5 ?side6 A31.out).mono ?_
    (case side1 => exact (Kd.R_reads' HO_430000.out).2.2)
    (case side2 => exact (Kd.R_reads' HO_430000.out).2.1)
    (case side3 => exact (Kd.N_reads' HO_430001.out).2.2)
    (case side4 => exact (Kd.N_reads' HO_430001.out).2.1)
    (case side5 => exact (Kd.R_reads' HO_430002.out).2.2)
    (case side6 => exact (Kd.R_reads' HO_430002.out).2.1)
    rintro e w46 ⟨rfl, hb⟩
    refine ⟨_, rfl, ?_⟩
    replace HO_430000 := K_ (Kd.R_below (by (with_reducible repeat (first | apply Kd.R_alloc | apply Kd.R_drewN | apply Kd.R_drew)); exact HO_430000.out) hb)
    replace HO_430001 := K_ (Kd.N_below (by (with_reducible repeat (first | apply Kd.N_alloc | apply Kd.N_drewN | apply Kd.N_drew)); exact HO_430001.out) hb)
    replace HO_430002 := K_ (Kd.R_below (by (with_reducible repeat (first | apply Kd.R_alloc | apply Kd.R_drewN | apply Kd.R_drew)); exact HO_430002.out) hb)
    replace BK429 := K_ (blk_below (g := gb429) (o := .cells #[.slice Ao42 x430000_1.length co42, .slice Ao43 x430001_1.length co43, .slice Ao44 x430002_1.length co44] 30 (0, 0)) BK429.out hb)
    replace HB := K_ (below_step (HB.out) hb)
    (try clear hb)
    (try clear hb2)
    (try clear hk)
    (try clear hi)
    refine hK.out _ _ ⟨(blk_cell BK429.out 0).trans rfl, (blk_cell BK429.out 1).trans rfl, (blk_cell BK429.out 2).trans rfl⟩ (fun hHeld => ?_)
    clear hK K
    refine norm_ (a' := ?_) ?_ ?_
    rotate_left
    ·show Act.put _ (some 58) _ = _
     simp only [P_, i64_w, i32_w]
     rfl
    refine pq_ 6 59 (M_ 15 127) HT_ ?_
    refine pq_ 7 60 (M_ 15 255) HT_ ?_
    refine pq_ 10 63 (M_ 15 1279) HT_ ?_
    refine tq_ 8 61 (M_ 15 1535) HT_ HW_ hHeld ?_
    refine tq_ 11 64 (M_ 15 3583) HT_ HW_ hHeld ?_
    refine one_ (i := 9) (N := some 62) (M_ 15 4095) rfl rfl (one_of HT_.out (by kernel_rfl)) (by decide) (fun K hK => ?_)
    refine goes_ Try.func8 (by kernel_rfl) rfl #[.agg #[.slice Ao42 x430000_1.length co42, .slice Ao43 x430001_1.length co43, .slice Ao44 x430002_1.length co44]] (by rfl) rfl rfl (by simp only [List.map_toArray, List.map_cons, List.map_nil]; try rfl) ?_
    with_reducible refine (impl_Ring.calls k1 _ _ x430000_1 _ _ x430001_1 _ _ x430002_1 t445 _ ?side1 ?side2 ?side3 ?side4 ?side5 ?side6 A39.out).mono ?_
    (case side1 => exact (Kd.R_reads' HO_430000.out).2.2)
    (case side2 => exact (Kd.R_reads' HO_430000.out).2.1)
    (case side3 => exact (Kd.N_reads' HO_430001.out).2.2)
    (case side4 => exact (Kd.N_reads' HO_430001.out).2.1)
    (case side5 => exact (Kd.R_reads' HO_430002.out).2.2)
    (case side6 => exact (Kd.R_reads' HO_430002.out).2.1)
    rintro e w47 ⟨v446, rfl, ho0, hb⟩
    refine ⟨_, rfl, ?_⟩
    have HO447 := K_ (Kd.R_lower (Kd.R_new' (Kd.R_new' ho0 (Kd.R_lt (by (with_reducible repeat (first | apply Kd.R_alloc | apply Kd.R_drewN | apply Kd.R_drew)); exact HO_430000.out))) (Kd.R_lt (by (with_reducible repeat (first | apply Kd.R_alloc | apply Kd.R_drewN | apply Kd.R_drew)); exact HO_430002.out))) (below_size (HB.out)))
    replace HO_430000 := K_ (Kd.R_elder' (by (with_reducible repeat (first | apply Kd.R_alloc | apply Kd.R_drewN | apply Kd.R_drew)); exact HO_430000.out) (Kd.R_base ho0) hb)
    replace HO_430001 := K_ (Kd.N_elder' (by (with_reducible repeat (first | apply Kd.N_alloc | apply Kd.N_drewN | apply Kd.N_drew)); exact HO_430001.out) (Kd.R_base ho0) hb)
    replace HO_430002 := K_ (Kd.R_elder' (by (with_reducible repeat (first | apply Kd.R_alloc | apply Kd.R_drewN | apply Kd.R_drew)); exact HO_430002.out) (Kd.R_base ho0) hb)
    replace BK429 := K_ (blk_below (g := gb429) (o := .cells #[.slice Ao42 x430000_1.length co42, .slice Ao43 x430001_1.length co43, .slice Ao44 x430002_1.length co44] 30 (0, 0)) BK429.out hb)
    replace HB := K_ (below_step (HB.out) hb)
    clear hb
    (try clear hb2)
    (try clear hk)
    (try clear hi)
    clear ho0
    obtain ⟨Ao48, co48, eo48⟩ := Kd.R_slice HO447.out
    (first | subst eo48 | (injection eo48 with f1_ f2_ f3_; have f4_ := f1_.symm; have f5_ := f3_.symm; clear f1_ f2_ f3_; subst f4_; subst f5_))
    refine hK.out _ _ ⟨(blk_cell BK429.out 0).trans rfl, (blk_cell BK429.out 1).trans rfl, (blk_cell BK429.out 2).trans rfl⟩ (fun hHeld => ?_)
    clear hK K
    refine norm_ (a' := ?_) ?_ ?_
    rotate_left
    ·show Act.put _ (some 62) _ = _
     simp only [P_, i64_w, i32_w]
     rfl
    refine one_ (i := 12) (N := some 65) (M_ 15 8191) rfl rfl (one_of HT_.out (by kernel_rfl)) (by decide) (fun K hK => ?_)
    refine goes_ Try.func17 (by kernel_rfl) rfl #[.slice Ao48 t445.length co48, .slice Ao44 x430002_1.length co44] (by rfl) rfl rfl (by simp only [List.map_toArray, List.map_cons, List.map_nil]; try rfl) ?_
    with_reducible refine (laws_wInts.calls k1 _ _ t445 _ _ x430002_1 t448 _ ?side1 ?side2 ?side3 ?side4 A40.out).mono ?_
    (case side1 => exact (Kd.R_reads' HO447.out).2.2)
    (case side2 => exact (Kd.R_reads' HO447.out).2.1)
    (case side3 => exact (Kd.R_reads' HO_430002.out).2.2)
    (case side4 => exact (Kd.R_reads' HO_430002.out).2.1)
    rintro e w' ⟨rfl, ⟨nd, rfl⟩⟩
    refine ⟨_, rfl, ?_⟩
    refine hK.out _ _ ⟨(blk_cell BK429.out 0).trans rfl, (blk_cell BK429.out 1).trans rfl, (blk_cell BK429.out 2).trans rfl⟩ (fun hHeld => ?_)
    clear hK K
    refine norm_ (a' := ?_) ?_ ?_
    rotate_left
    ·show Act.put _ (some 65) _ = _
     simp only [P_, i64_w, i32_w]
     rfl
    refine pq_ 13 66 (M_ 15 16383) HT_ ?_
    refine pq_ 14 67 (M_ 15 32767) HT_ ?_
    refine done_ (done_of HT_.out (by kernel_rfl)) ?_
    try go_wp2
    go_meet
    case rel => exact ⟨_, (!t448), (by first | rfl | (simp; done) | (simp [*]; done)), H', ⟨by have := HK1.out; first | omega | exact Nat.le_refl _⟩, ⟨by (with_reducible repeat (first | apply Kd.R_alloc | apply Kd.R_drewN | apply Kd.R_drew)); exact Kd.R_mono HO_430000.out (fun _ hk => hk.1)⟩, ⟨by (with_reducible repeat (first | apply Kd.N_alloc | apply Kd.N_drewN | apply Kd.N_drew)); exact Kd.N_mono HO_430001.out (fun _ hk => ⟨hk.1.1, ⟨hk.1.2.1, hk.1.2.2⟩⟩)⟩, ⟨by (with_reducible repeat (first | apply Kd.R_alloc | apply Kd.R_drewN | apply Kd.R_drew)); exact Kd.R_mono HO_430002.out (fun _ hk => hk.1)⟩, ⟨BK429.out⟩, ⟨by repeat (first | (with_reducible first | exact HB.out | apply below_alloc | apply pw_below_drewN | apply below_drew1 | refine below_set ?_ GE429.out) | exact HB.out)⟩⟩
   case rest =>
    clear HC28
    skip
    obtain ⟨kq, x67_27, rfl, HA, HJ27, HO_430000, HO_430001, HO_430002, BK429, HB⟩ := hcut
    cases kq with
    | zero => exact absurd HA.out (by simp [laws_FnRing.j1])
    | succ kj27 =>
     have H := HA.out
     clear HA
     simp only [laws_FnRing.j1] at H
     by_cases c54 : x67_27 = true
     case pos =>
      subst c54
      have H1 : (some false) = some r := by rw [if_pos rfl] at H; exact H
      clear H
      have H := H1
      exact absurd (H.trans (congrArg some hT_.out)) (by simp)
     replace c54 := Bool.eq_false_iff.mpr c54
     subst c54
     rw [if_neg (show ¬ (false = true) by decide)] at H
     replace H := Option.bind_eq_some_iff.mp H
     obtain ⟨⟨t449, t452, t455⟩, A550, H⟩ := H
     try dsimp only at H
     have A55 := K_ A550
     clear A550
     replace H := Option.bind_eq_some_iff.mp H
     obtain ⟨t459, A560, H⟩ := H
     try dsimp only at H
     have A56 := K_ A560
     clear A560
     replace H := Option.bind_eq_some_iff.mp H
     obtain ⟨t462, A570, H⟩ := H
     replace H : ((laws_wInts.f kj27 t459 t462).bind fun t465 => (if t465 = true then (laws_FnRing.l1 kj27 t459 t459 (t459.length : Int) 0 t449 t452 t455) else (some false))) = some r := H
     have A57 := K_ A570
     clear A570
     replace H := Option.bind_eq_some_iff.mp H
     obtain ⟨t465, A580, H⟩ := H
     try dsimp only at H
     have A58 := K_ A580
     clear A580
     by_cases c59 : t465 = true
     case neg =>
      replace c59 := Bool.eq_false_iff.mpr c59
      subst c59
      have H1 : (some false) = some r := by rw [if_neg (show ¬ (false = true) by decide)] at H; exact H
      clear H
      have H := H1
      exact absurd (H.trans (congrArg some hT_.out)) (by simp)
     subst c59
     rw [if_pos rfl] at H
     have H' := K_ H
     clear H
     go_wp2_with (first | ((with_reducible refine gate_callee (f := 18) rfl ?_); refine goesL_ (some 69) rfl rfl Try.func18 (by kernel_rfl) rfl #[.slice A0 l0.length c0] rfl (by (try simp only [List.map_toArray, List.map_cons, List.map_nil]); first | done | rfl | (simp only [List.length_drop, List.length_take]; rfl)) ?_; (with_reducible refine (spec_DrawRing.calls kj27 _ _ l0 t449 t452 t455 _ ?side1 ?side2 A55.out).mono ?_); (case side1 => repeat (first | exact (Kd.C_below HR0.out HB.out) | (with_reducible refine Kd.C_alloc ?_ _) | (with_reducible refine Kd.C_drewN ?_ _) | (with_reducible refine Kd.C_drew ?_))); (case side2 => exact HC0.out); rintro e w60 ⟨v450, v453, v456, rfl, ho0, ho1, ho2, hb⟩; refine ⟨_, rfl, ?_⟩; have n0_ := K_ (Kd.R_mono (Kd.R_told (Kd.R_told (Kd.R_old (by (with_reducible repeat (first | apply Kd.R_alloc | apply Kd.R_drewN | apply Kd.R_drew)); exact HO_430000.out) hb) (Kd.R_base ho0)) (Kd.R_base ho2)) (fun _ h_ => h_.1)); have n1_ := K_ (Kd.N_mono (Kd.N_told (Kd.N_told (Kd.N_told (Kd.N_old (by (with_reducible repeat (first | apply Kd.N_alloc | apply Kd.N_drewN | apply Kd.N_drew)); exact HO_430001.out) hb) (Kd.R_base ho0)) (Kd.N_base ho1)) (Kd.R_base ho2)) (fun _ h_ => h_.1)); have n2_ := K_ (Kd.R_mono (Kd.R_told (Kd.R_told (Kd.R_old (by (with_reducible repeat (first | apply Kd.R_alloc | apply Kd.R_drewN | apply Kd.R_drew)); exact HO_430002.out) hb) (Kd.R_base ho0)) (Kd.R_base ho2)) (fun _ h_ => h_.1)); have n3_ := K_ (Kd.R_lower (Kd.R_new' (Kd.R_new' ho0 (Kd.R_lt (by (with_reducible repeat (first | apply Kd.R_alloc | apply Kd.R_drewN | apply Kd.R_drew)); exact HO_430000.out))) (Kd.R_lt (by (with_reducible repeat (first | apply Kd.R_alloc | apply Kd.R_drewN | apply Kd.R_drew)); exact HO_430002.out))) (below_size (by repeat (first | (with_reducible first | exact HB.out | apply below_alloc | apply pw_below_drewN | apply below_drew1 | refine below_set ?_ GE429.out) | exact HB.out)))); have n4_ := K_ (Kd.N_lower (Kd.N_mono (ok' := fun k_ => some k_ ≠ (v450 : Value).ownBlock ∧ some k_ ≠ (v456 : Value).ownBlock ∧ some k_ ≠ (u430000 : Value).ownBlock ∧ some k_ ≠ (u430001 : Value).ownBlock ∧ some k_ ≠ (u430002 : Value).ownBlock ∧ k_ ≠ gb429) (Sq.N_b ho1) (fun k_ hk_ => ⟨hk_.1.1, hk_.1.2, (Kd.fresh' (Kd.R_lt (by (with_reducible repeat (first | apply Kd.R_alloc | apply Kd.R_drewN | apply Kd.R_drew)); exact HO_430000.out)) k_ hk_.2.1), (Kd.fresh' (Kd.N_lt (by (with_reducible repeat (first | apply Kd.N_alloc | apply Kd.N_drewN | apply Kd.N_drew)); exact HO_430001.out)) k_ hk_.2.1), (Kd.fresh' (Kd.R_lt (by (with_reducible repeat (first | apply Kd.R_alloc | apply Kd.R_drewN | apply Kd.R_drew)); exact HO_430002.out)) k_ hk_.2.1), (Kd.freshB (g := gb429) (o := .cells #[u430000, u430001, u430002] 30 (0, 0)) (by (with_reducible repeat (first | refine blk_drewN ?_ _ | refine blk_drew ?_ | refine blk_alloc ?_ _)); exact BK429.out) k_ hk_.2.1)⟩)) (below_size (by repeat (first | (with_reducible first | exact HB.out | apply below_alloc | apply pw_below_drewN | apply below_drew1 | refine below_set ?_ GE429.out) | exact HB.out)))); have n5_ := K_ (Kd.R_lower (Kd.R_new' (Kd.R_new' ho2 (Kd.R_lt (by (with_reducible repeat (first | apply Kd.R_alloc | apply Kd.R_drewN | apply Kd.R_drew)); exact HO_430000.out))) (Kd.R_lt (by (with_reducible repeat (first | apply Kd.R_alloc | apply Kd.R_drewN | apply Kd.R_drew)); exact HO_430002.out))) (below_size (by repeat (first | (with_reducible first | exact HB.out | apply below_alloc | apply pw_below_drewN | apply below_drew1 | refine below_set ?_ GE429.out) | exact HB.out)))); have n6_ := K_ (blk_below (g := gb429) (o := .cells #[u430000, u430001, u430002] 30 (0, 0)) (by (with_reducible repeat (first | refine blk_drewN ?_ _ | refine blk_drew ?_ | refine blk_alloc ?_ _)); exact BK429.out) hb); have n7_ := K_ (below_step (by repeat (first | (with_reducible first | exact HB.out | apply below_alloc | apply pw_below_drewN | apply below_drew1 | refine below_set ?_ GE429.out) | exact HB.out)) hb); clear HO_430000; clear HO_430001; clear HO_430002; clear BK429; clear HB; have HO_430000 := n0_; have HO_430001 := n1_; have HO_430002 := n2_; have HO451 := n3_; have HO454 := n4_; have HO457 := n5_; have BK429 := n6_; have HB := n7_; clear n0_ n1_ n2_ n3_ n4_ n5_ n6_ n7_; (try clear hb); (try clear hb2); (try clear hk); (try clear hi); (try clear ho0); (try clear ho1); (try clear ho2)) | ((with_reducible refine gate_dst (N := 6) rfl ?_); (try (refine gate_guard (by rfl) ?_; dsimp only)); refine box_event ?hg (N := 6) ?hd (cs := #[.slice none 0 0, .slice none 0 0, .slice none 0 0]) (t := 30) ?hr ?_; (case hd => rfl); (case hg => rfl); (case hr => go_simp; try rfl); intro gb458 hg w61 hbox hb; have n0_ := K_ (Kd.R_below (by (with_reducible repeat (first | apply Kd.R_alloc | apply Kd.R_drewN | apply Kd.R_drew)); exact HO_430000.out) hb); have n1_ := K_ (Kd.N_below (Kd.N_elderB (by (with_reducible repeat (first | apply Kd.N_alloc | apply Kd.N_drewN | apply Kd.N_drew)); exact HO_430001.out) gb458 (Nat.le_of_eq hg.symm)) hb); have n2_ := K_ (Kd.R_below (by (with_reducible repeat (first | apply Kd.R_alloc | apply Kd.R_drewN | apply Kd.R_drew)); exact HO_430002.out) hb); have n3_ := K_ (Kd.R_below (by (with_reducible repeat (first | apply Kd.R_alloc | apply Kd.R_drewN | apply Kd.R_drew)); exact HO451.out) hb); have n4_ := K_ (Kd.N_below (Kd.N_elderB (by (with_reducible repeat (first | apply Kd.N_alloc | apply Kd.N_drewN | apply Kd.N_drew)); exact HO454.out) gb458 (Nat.le_of_eq hg.symm)) hb); have n5_ := K_ (Kd.R_below (by (with_reducible repeat (first | apply Kd.R_alloc | apply Kd.R_drewN | apply Kd.R_drew)); exact HO457.out) hb); have n6_ := K_ (blk_below (g := gb429) (o := .cells #[u430000, u430001, u430002] 30 (0, 0)) (by (with_reducible repeat (first | refine blk_drewN ?_ _ | refine blk_drew ?_ | refine blk_alloc ?_ _)); exact BK429.out) hb); have n7_ := K_ (below_step (by repeat (first | (with_reducible first | exact HB.out | apply below_alloc | apply pw_below_drewN | apply below_drew1 | refine below_set ?_ GE429.out) | exact HB.out)) hb); have n8_ := K_ (hbox); have n9_ := K_ ((by rw [hg]; exact (below_size (by repeat (first | (with_reducible first | exact HB.out | apply below_alloc | apply pw_below_drewN | apply below_drew1 | refine below_set ?_ GE429.out) | exact HB.out))) : w.heap.size ≤ gb458)); have n10_ := K_ ((by rw [hg]; exact (below_size (by repeat (first | (with_reducible first | exact HB.out | apply below_alloc | apply pw_below_drewN | apply below_drew1 | refine below_set ?_ GE429.out) | exact HB.out))) : w.heap.size ≤ gb458)); have n11_ := K_ ((by rw [hg]; exact Nat.ne_of_lt (blk_lt (g := gb429) (o := .cells #[u430000, u430001, u430002] 30 (0, 0)) (by (with_reducible repeat (first | refine blk_drewN ?_ _ | refine blk_drew ?_ | refine blk_alloc ?_ _)); exact BK429.out)) : gb429 ≠ gb458)); have n12_ := K_ ((by rw [hg]; exact Nat.ne_of_gt (blk_lt (g := gb429) (o := .cells #[u430000, u430001, u430002] 30 (0, 0)) (by (with_reducible repeat (first | refine blk_drewN ?_ _ | refine blk_drew ?_ | refine blk_alloc ?_ _)); exact BK429.out)) : gb458 ≠ gb429)); clear HO_430000; clear HO_430001; clear HO_430002; clear HO451; clear HO454; clear HO457; clear BK429; clear HB; have HO_430000 := n0_; have HO_430001 := n1_; have HO_430002 := n2_; have HO451 := n3_; have HO454 := n4_; have HO457 := n5_; have BK429 := n6_; have HB := n7_; have BK458 := n8_; have GW458 := n9_; have GE458 := n10_; have NB429_458 := n11_; have NB458_429 := n12_; clear n0_ n1_ n2_ n3_ n4_ n5_ n6_ n7_ n8_ n9_ n10_ n11_ n12_; clear hb hbox hg; obtain ⟨Ao62, co62, eo62⟩ := Kd.R_slice HO451.out; subst eo62; have hnb63 := NB458_429.out; have hnc63 := NB429_458.out; obtain ⟨hcz64_0, hcz64_1, hcz64_2, hfz64_0, hfz64_1, hfz64_2⟩ := blkf3_ BK458.out; obtain ⟨Ao65, co65, eo65⟩ := Kd.N_slice HO454.out; subst eo65; obtain ⟨Ao66, co66, eo66⟩ := Kd.R_slice HO457.out; subst eo66) | ((with_reducible refine gate_callee (f := 8) rfl ?_); refine goesL_ (some 71) rfl rfl Try.func8 (by kernel_rfl) rfl #[.agg #[.slice Ao62 t449.length co62, .slice Ao65 t452.length co65, .slice Ao66 t455.length co66]] rfl (by (try simp only [List.map_toArray, List.map_cons, List.map_nil]); first | done | rfl | (simp only [List.length_drop, List.length_take]; rfl)) ?_; (with_reducible refine (impl_Ring.calls kj27 _ _ t449 _ _ t452 _ _ t455 t459 _ ?side1 ?side2 ?side3 ?side4 ?side5 ?side6 A56.out).mono ?_); (case side1 => refine (Kd.R_reads' (e := 3) (base := w.heap.size) (ok := fun k_ => ((some k_ ≠ (.slice Ao66 t455.length co66 : Value).ownBlock ∧ X_ k_ u430000) ∧ X_ k_ u430002)) (n := t449.length) (c := co62) ?_).2.2; exact (by (with_reducible repeat (first | apply Kd.R_alloc | apply Kd.R_drewN | apply Kd.R_drew)); exact (Kd.R_mono (Kd.R_far (p := ⟨gb458, 2, none⟩) (Kd.R_far (p := ⟨gb458, 1, none⟩) (Kd.R_far (p := ⟨gb458, 0, none⟩) (Kd.R_types HO451.out BK458.out (by decide)) (fun _ hk => hk.2) (.slice Ao62 t449.length co62)) (fun _ hk => hk.2) (.slice Ao65 t452.length co65)) (fun _ hk => hk.2) (.slice Ao66 t455.length co66)) (fun _ h_ => h_.1)))); (case side2 => exact (Kd.R_reads' HO451.out).2.1); (case side3 => refine (Kd.N_reads' (e := 40) (base := w.heap.size) (ok := fun k_ => ((X_ k_ (.slice Ao62 t449.length co62) ∧ (some k_ ≠ (.slice Ao66 t455.length co66 : Value).ownBlock ∧ (some k_ ≠ (u430000 : Value).ownBlock ∧ (some k_ ≠ (u430001 : Value).ownBlock ∧ (some k_ ≠ (u430002 : Value).ownBlock ∧ k_ ≠ gb429))))) ∧ k_ ≠ gb458)) (n := t452.length) (c := co65) ?_).2.2; exact (by (with_reducible repeat (first | apply Kd.N_alloc | apply Kd.N_drewN | apply Kd.N_drew)); exact (Kd.N_mono (Kd.N_far (p := ⟨gb458, 2, none⟩) (Kd.N_far (p := ⟨gb458, 1, none⟩) (Kd.N_far (p := ⟨gb458, 0, none⟩) (Kd.N_mono HO454.out (fun k_ hk => (⟨hk, hk.2⟩ : _ ∧ k_ ≠ gb458))) (fun _ hk => hk.2) (.slice Ao62 t449.length co62)) (fun _ hk => hk.2) (.slice Ao65 t452.length co65)) (fun _ hk => hk.2) (.slice Ao66 t455.length co66)) (fun _ h_ => h_.1)))); (case side4 => exact (Kd.N_reads' HO454.out).2.1); (case side5 => refine (Kd.R_reads' (e := 3) (base := w.heap.size) (ok := fun k_ => ((some k_ ≠ (.slice Ao62 t449.length co62 : Value).ownBlock ∧ some k_ ≠ (u430000 : Value).ownBlock) ∧ some k_ ≠ (u430002 : Value).ownBlock)) (n := t455.length) (c := co66) ?_).2.2; exact (by (with_reducible repeat (first | apply Kd.R_alloc | apply Kd.R_drewN | apply Kd.R_drew)); exact (Kd.R_mono (Kd.R_far (p := ⟨gb458, 2, none⟩) (Kd.R_far (p := ⟨gb458, 1, none⟩) (Kd.R_far (p := ⟨gb458, 0, none⟩) (Kd.R_types HO457.out BK458.out (by decide)) (fun _ hk => hk.2) (.slice Ao62 t449.length co62)) (fun _ hk => hk.2) (.slice Ao65 t452.length co65)) (fun _ hk => hk.2) (.slice Ao66 t455.length co66)) (fun _ h_ => h_.1)))); (case side6 => exact (Kd.R_reads' HO457.out).2.1); rintro e w67 ⟨v460, rfl, ho0, hb⟩; refine ⟨_, rfl, ?_⟩; have n0_ := K_ (Kd.R_elder' (by (with_reducible repeat (first | apply Kd.R_alloc | apply Kd.R_drewN | apply Kd.R_drew)); exact (Kd.R_mono (Kd.R_far (p := ⟨gb458, 2, none⟩) (Kd.R_far (p := ⟨gb458, 1, none⟩) (Kd.R_far (p := ⟨gb458, 0, none⟩) (Kd.R_types HO_430000.out BK458.out (by decide)) (fun _ hk => hk.2) (.slice Ao62 t449.length co62)) (fun _ hk => hk.2) (.slice Ao65 t452.length co65)) (fun _ hk => hk.2) (.slice Ao66 t455.length co66)) (fun _ h_ => h_.1))) (Kd.R_base ho0) hb); have n1_ := K_ (Kd.N_elder' (by (with_reducible repeat (first | apply Kd.N_alloc | apply Kd.N_drewN | apply Kd.N_drew)); exact (Kd.N_mono (Kd.N_far (p := ⟨gb458, 2, none⟩) (Kd.N_far (p := ⟨gb458, 1, none⟩) (Kd.N_far (p := ⟨gb458, 0, none⟩) (Kd.N_mono HO_430001.out (fun k_ hk => (⟨hk, hk.2⟩ : _ ∧ k_ ≠ gb458))) (fun _ hk => hk.2) (.slice Ao62 t449.length co62)) (fun _ hk => hk.2) (.slice Ao65 t452.length co65)) (fun _ hk => hk.2) (.slice Ao66 t455.length co66)) (fun _ h_ => h_.1))) (Kd.R_base ho0) hb); have n2_ := K_ (Kd.R_elder' (by (with_reducible repeat (first | apply Kd.R_alloc | apply Kd.R_drewN | apply Kd.R_drew)); exact (Kd.R_mono (Kd.R_far (p := ⟨gb458, 2, none⟩) (Kd.R_far (p := ⟨gb458, 1, none⟩) (Kd.R_far (p := ⟨gb458, 0, none⟩) (Kd.R_types HO_430002.out BK458.out (by decide)) (fun _ hk => hk.2) (.slice Ao62 t449.length co62)) (fun _ hk => hk.2) (.slice Ao65 t452.length co65)) (fun _ hk => hk.2) (.slice Ao66 t455.length co66)) (fun _ h_ => h_.1))) (Kd.R_base ho0) hb); have n3_ := K_ (Kd.R_elder' (by (with_reducible repeat (first | apply Kd.R_alloc | apply Kd.R_drewN | apply Kd.R_drew)); exact (Kd.R_mono (Kd.R_far (p := ⟨gb458, 2, none⟩) (Kd.R_far (p := ⟨gb458, 1, none⟩) (Kd.R_far (p := ⟨gb458, 0, none⟩) (Kd.R_types HO451.out BK458.out (by decide)) (fun _ hk => hk.2) (.slice Ao62 t449.length co62)) (fun _ hk => hk.2) (.slice Ao65 t452.length co65)) (fun _ hk => hk.2) (.slice Ao66 t455.length co66)) (fun _ h_ => h_.1))) (Kd.R_base ho0) hb); have n4_ := K_ (Kd.N_elder' (by (with_reducible repeat (first | apply Kd.N_alloc | apply Kd.N_drewN | apply Kd.N_drew)); exact (Kd.N_mono (Kd.N_far (p := ⟨gb458, 2, none⟩) (Kd.N_far (p := ⟨gb458, 1, none⟩) (Kd.N_far (p := ⟨gb458, 0, none⟩) (Kd.N_mono HO454.out (fun k_ hk => (⟨hk, hk.2⟩ : _ ∧ k_ ≠ gb458))) (fun _ hk => hk.2) (.slice Ao62 t449.length co62)) (fun _ hk => hk.2) (.slice Ao65 t452.length co65)) (fun _ hk => hk.2) (.slice Ao66 t455.length co66)) (fun _ h_ => h_.1))) (Kd.R_base ho0) hb); have n5_ := K_ (Kd.R_elder' (by (with_reducible repeat (first | apply Kd.R_alloc | apply Kd.R_drewN | apply Kd.R_drew)); exact (Kd.R_mono (Kd.R_far (p := ⟨gb458, 2, none⟩) (Kd.R_far (p := ⟨gb458, 1, none⟩) (Kd.R_far (p := ⟨gb458, 0, none⟩) (Kd.R_types HO457.out BK458.out (by decide)) (fun _ hk => hk.2) (.slice Ao62 t449.length co62)) (fun _ hk => hk.2) (.slice Ao65 t452.length co65)) (fun _ hk => hk.2) (.slice Ao66 t455.length co66)) (fun _ h_ => h_.1))) (Kd.R_base ho0) hb); have n6_ := K_ (Kd.R_lower (Kd.R_new' (Kd.R_new' (Kd.R_new' (Kd.R_new' ho0 (Kd.R_lt (by (with_reducible repeat (first | apply Kd.R_alloc | apply Kd.R_drewN | apply Kd.R_drew)); exact (Kd.R_mono (Kd.R_far (p := ⟨gb458, 2, none⟩) (Kd.R_far (p := ⟨gb458, 1, none⟩) (Kd.R_far (p := ⟨gb458, 0, none⟩) (Kd.R_types HO_430000.out BK458.out (by decide)) (fun _ hk => hk.2) (.slice Ao62 t449.length co62)) (fun _ hk => hk.2) (.slice Ao65 t452.length co65)) (fun _ hk => hk.2) (.slice Ao66 t455.length co66)) (fun _ h_ => h_.1))))) (Kd.R_lt (by (with_reducible repeat (first | apply Kd.R_alloc | apply Kd.R_drewN | apply Kd.R_drew)); exact (Kd.R_mono (Kd.R_far (p := ⟨gb458, 2, none⟩) (Kd.R_far (p := ⟨gb458, 1, none⟩) (Kd.R_far (p := ⟨gb458, 0, none⟩) (Kd.R_types HO_430002.out BK458.out (by decide)) (fun _ hk => hk.2) (.slice Ao62 t449.length co62)) (fun _ hk => hk.2) (.slice Ao65 t452.length co65)) (fun _ hk => hk.2) (.slice Ao66 t455.length co66)) (fun _ h_ => h_.1))))) (Kd.R_lt (by (with_reducible repeat (first | apply Kd.R_alloc | apply Kd.R_drewN | apply Kd.R_drew)); exact (Kd.R_mono (Kd.R_far (p := ⟨gb458, 2, none⟩) (Kd.R_far (p := ⟨gb458, 1, none⟩) (Kd.R_far (p := ⟨gb458, 0, none⟩) (Kd.R_types HO451.out BK458.out (by decide)) (fun _ hk => hk.2) (.slice Ao62 t449.length co62)) (fun _ hk => hk.2) (.slice Ao65 t452.length co65)) (fun _ hk => hk.2) (.slice Ao66 t455.length co66)) (fun _ h_ => h_.1))))) (Kd.R_lt (by (with_reducible repeat (first | apply Kd.R_alloc | apply Kd.R_drewN | apply Kd.R_drew)); exact (Kd.R_mono (Kd.R_far (p := ⟨gb458, 2, none⟩) (Kd.R_far (p := ⟨gb458, 1, none⟩) (Kd.R_far (p := ⟨gb458, 0, none⟩) (Kd.R_types HO457.out BK458.out (by decide)) (fun _ hk => hk.2) (.slice Ao62 t449.length co62)) (fun _ hk => hk.2) (.slice Ao65 t452.length co65)) (fun _ hk => hk.2) (.slice Ao66 t455.length co66)) (fun _ h_ => h_.1))))) (below_size (by repeat (first | (with_reducible first | exact HB.out | refine below_set ?_ GE429.out | refine below_set ?_ GE458.out) | exact HB.out)))); have n7_ := K_ (blk_below (g := gb429) (o := .cells #[u430000, u430001, u430002] 30 (0, 0)) (by (with_reducible repeat (first | refine blk_drewN ?_ _ | refine blk_drew ?_ | refine blk_alloc ?_ _)); refine blk_far ?_ NB429_458.out _; (with_reducible repeat (first | refine blk_drewN ?_ _ | refine blk_drew ?_ | refine blk_alloc ?_ _)); refine blk_far ?_ NB429_458.out _; (with_reducible repeat (first | refine blk_drewN ?_ _ | refine blk_drew ?_ | refine blk_alloc ?_ _)); refine blk_far ?_ NB429_458.out _; (with_reducible repeat (first | refine blk_drewN ?_ _ | refine blk_drew ?_ | refine blk_alloc ?_ _)); exact BK429.out) hb); have n8_ := K_ (blk_below (g := gb458) (o := .cells #[.slice Ao62 t449.length co62, .slice Ao65 t452.length co65, .slice Ao66 t455.length co66] 30 (0, 0)) (by (with_reducible repeat (first | refine blk_drewN ?_ _ | refine blk_drew ?_ | refine blk_alloc ?_ _)); refine blk_put (cs := #[.slice Ao62 t449.length co62, .slice Ao65 t452.length co65, .slice none 0 0]) ?_ 2 _ rfl; (with_reducible repeat (first | refine blk_drewN ?_ _ | refine blk_drew ?_ | refine blk_alloc ?_ _)); refine blk_put (cs := #[.slice Ao62 t449.length co62, .slice none 0 0, .slice none 0 0]) ?_ 1 _ rfl; (with_reducible repeat (first | refine blk_drewN ?_ _ | refine blk_drew ?_ | refine blk_alloc ?_ _)); refine blk_put (cs := #[.slice none 0 0, .slice none 0 0, .slice none 0 0]) ?_ 0 _ rfl; (with_reducible repeat (first | refine blk_drewN ?_ _ | refine blk_drew ?_ | refine blk_alloc ?_ _)); exact BK458.out) hb); have n9_ := K_ (below_step (by repeat (first | (with_reducible first | exact HB.out | refine below_set ?_ GE429.out | refine below_set ?_ GE458.out) | exact HB.out)) hb); clear HO_430000; clear HO_430001; clear HO_430002; clear HO451; clear HO454; clear HO457; clear BK429; clear BK458; clear HB; have HO_430000 := n0_; have HO_430001 := n1_; have HO_430002 := n2_; have HO451 := n3_; have HO454 := n4_; have HO457 := n5_; have HO461 := n6_; have BK429 := n7_; have BK458 := n8_; have HB := n9_; clear n0_ n1_ n2_ n3_ n4_ n5_ n6_ n7_ n8_ n9_; (try clear hb); (try clear hb2); (try clear hk); (try clear hi); (try clear ho0); obtain ⟨hcz68_0, hcz68_1, hcz68_2, hfz68_0, hfz68_1, hfz68_2⟩ := blkf3_ BK458.out) | ((with_reducible refine gate_callee (f := 6) rfl ?_); refine goesL_ (some 74) rfl rfl Try.func6 (by kernel_rfl) rfl #[.agg #[.slice Ao62 t449.length co62, .slice Ao65 t452.length co65, .slice Ao66 t455.length co66]] rfl (by (try simp only [List.map_toArray, List.map_cons, List.map_nil]); first | done | rfl | (simp only [List.length_drop, List.length_take]; rfl)) ?_; (with_reducible refine (spec_Ring.calls kj27 _ _ t449 _ _ t452 _ _ t455 t462 _ ?side1 ?side2 ?side3 ?side4 ?side5 ?side6 A57.out).mono ?_); (case side1 => repeat (first | exact (Kd.R_reads' HO451.out).2.2 | (with_reducible refine Kd.C_alloc ?_ _) | (with_reducible refine Kd.C_drewN ?_ _) | (with_reducible refine Kd.C_drew ?_))); (case side2 => exact (Kd.R_reads' HO451.out).2.1); (case side3 => repeat (first | exact (Kd.N_reads' HO454.out).2.2 | (with_reducible refine Kd.C_alloc ?_ _) | (with_reducible refine Kd.C_drewN ?_ _) | (with_reducible refine Kd.C_drew ?_))); (case side4 => exact (Kd.N_reads' HO454.out).2.1); (case side5 => repeat (first | exact (Kd.R_reads' HO457.out).2.2 | (with_reducible refine Kd.C_alloc ?_ _) | (with_reducible refine Kd.C_drewN ?_ _) | (with_reducible refine Kd.C_drew ?_))); (case side6 => exact (Kd.R_reads' HO457.out).2.1); rintro e w69 ⟨v463, rfl, ho0, hb⟩; refine ⟨_, rfl, ?_⟩; have n0_ := K_ (Kd.R_elder' (by (with_reducible repeat (first | apply Kd.R_alloc | apply Kd.R_drewN | apply Kd.R_drew)); exact HO_430000.out) (Kd.R_base ho0) hb); have n1_ := K_ (Kd.N_elder' (by (with_reducible repeat (first | apply Kd.N_alloc | apply Kd.N_drewN | apply Kd.N_drew)); exact HO_430001.out) (Kd.R_base ho0) hb); have n2_ := K_ (Kd.R_elder' (by (with_reducible repeat (first | apply Kd.R_alloc | apply Kd.R_drewN | apply Kd.R_drew)); exact HO_430002.out) (Kd.R_base ho0) hb); have n3_ := K_ (Kd.R_elder' (by (with_reducible repeat (first | apply Kd.R_alloc | apply Kd.R_drewN | apply Kd.R_drew)); exact HO451.out) (Kd.R_base ho0) hb); have n4_ := K_ (Kd.N_elder' (by (with_reducible repeat (first | apply Kd.N_alloc | apply Kd.N_drewN | apply Kd.N_drew)); exact HO454.out) (Kd.R_base ho0) hb); have n5_ := K_ (Kd.R_elder' (by (with_reducible repeat (first | apply Kd.R_alloc | apply Kd.R_drewN | apply Kd.R_drew)); exact HO457.out) (Kd.R_base ho0) hb); have n6_ := K_ (Kd.R_elder' (by (with_reducible repeat (first | apply Kd.R_alloc | apply Kd.R_drewN | apply Kd.R_drew)); exact HO461.out) (Kd.R_base ho0) hb); have n7_ := K_ (Kd.R_lower (Kd.R_new' (Kd.R_new' (Kd.R_new' (Kd.R_new' (Kd.R_new' ho0 (Kd.R_lt (by (with_reducible repeat (first | apply Kd.R_alloc | apply Kd.R_drewN | apply Kd.R_drew)); exact HO_430000.out))) (Kd.R_lt (by (with_reducible repeat (first | apply Kd.R_alloc | apply Kd.R_drewN | apply Kd.R_drew)); exact HO_430002.out))) (Kd.R_lt (by (with_reducible repeat (first | apply Kd.R_alloc | apply Kd.R_drewN | apply Kd.R_drew)); exact HO451.out))) (Kd.R_lt (by (with_reducible repeat (first | apply Kd.R_alloc | apply Kd.R_drewN | apply Kd.R_drew)); exact HO457.out))) (Kd.R_lt (by (with_reducible repeat (first | apply Kd.R_alloc | apply Kd.R_drewN | apply Kd.R_drew)); exact HO461.out))) (below_size (by repeat (first | (with_reducible first | exact HB.out | refine below_set ?_ GE429.out | refine below_set ?_ GE458.out) | exact HB.out)))); have n8_ := K_ (blk_below (g := gb429) (o := .cells #[u430000, u430001, u430002] 30 (0, 0)) (by (with_reducible repeat (first | refine blk_drewN ?_ _ | refine blk_drew ?_ | refine blk_alloc ?_ _)); exact BK429.out) hb); have n9_ := K_ (blk_below (g := gb458) (o := .cells #[.slice Ao62 t449.length co62, .slice Ao65 t452.length co65, .slice Ao66 t455.length co66] 30 (0, 0)) (by (with_reducible repeat (first | refine blk_drewN ?_ _ | refine blk_drew ?_ | refine blk_alloc ?_ _)); exact BK458.out) hb); have n10_ := K_ (below_step (by repeat (first | (with_reducible first | exact HB.out | refine below_set ?_ GE429.out | refine below_set ?_ GE458.out) | exact HB.out)) hb); clear HO_430000; clear HO_430001; clear HO_430002; clear HO451; clear HO454; clear HO457; clear HO461; clear BK429; clear BK458; clear HB; have HO_430000 := n0_; have HO_430001 := n1_; have HO_430002 := n2_; have HO451 := n3_; have HO454 := n4_; have HO457 := n5_; have HO461 := n6_; have HO464 := n7_; have BK429 := n8_; have BK458 := n9_; have HB := n10_; clear n0_ n1_ n2_ n3_ n4_ n5_ n6_ n7_ n8_ n9_ n10_; clear hb ho0; obtain ⟨Ao70, co70, eo70⟩ := Kd.R_slice HO461.out; subst eo70; obtain ⟨Ao71, co71, eo71⟩ := Kd.R_slice HO464.out; subst eo71) | ((with_reducible refine gate_callee (f := 17) rfl ?_); refine goesL_ (some 75) rfl rfl Try.func17 (by kernel_rfl) rfl #[.slice Ao70 t459.length co70, .slice Ao71 t462.length co71] rfl (by (try simp only [List.map_toArray, List.map_cons, List.map_nil]); first | done | rfl | (simp only [List.length_drop, List.length_take]; rfl)) ?_; (with_reducible refine (laws_wInts.calls kj27 _ _ t459 _ _ t462 true _ ?side1 ?side2 ?side3 ?side4 A58.out).mono ?_); (case side1 => repeat (first | exact (Kd.R_reads' HO461.out).2.2 | (with_reducible refine Kd.C_alloc ?_ _) | (with_reducible refine Kd.C_drewN ?_ _) | (with_reducible refine Kd.C_drew ?_))); (case side2 => exact (Kd.R_reads' HO461.out).2.1); (case side3 => repeat (first | exact (Kd.R_reads' HO464.out).2.2 | (with_reducible refine Kd.C_alloc ?_ _) | (with_reducible refine Kd.C_drewN ?_ _) | (with_reducible refine Kd.C_drew ?_))); (case side4 => exact (Kd.R_reads' HO464.out).2.1); rintro e w' ⟨rfl, ⟨nd, rfl⟩⟩; refine ⟨_, rfl, ?_⟩))
     go_loopg [79] kj27 (fun kq v79 w' => ∃ (x79_3 : Int), v79 = .int .i64 x79_3 ∧ Aside0 (laws_FnRing.l1 kq t459 t459 (t459.length : Int) x79_3 t449 t452 t455 = some r) ∧ Aside0 (kq ≤ kj27) ∧ Aside0 (Kd.R (Kd.int .i64) 3 w' w.heap.size (fun k_ => some k_ ≠ (u430000 : Value).ownBlock ∧ some k_ ≠ (u430002 : Value).ownBlock ∧ some k_ ≠ ((.slice Ao62 t449.length co62) : Value).ownBlock ∧ some k_ ≠ ((.slice Ao66 t455.length co66) : Value).ownBlock) (.slice Ao70 t459.length co70) t459) ∧ Aside0 (Kd.R (Kd.int .i64) 3 w' w.heap.size (fun k_ => some k_ ≠ (u430000 : Value).ownBlock ∧ some k_ ≠ (u430002 : Value).ownBlock ∧ some k_ ≠ ((.slice Ao62 t449.length co62) : Value).ownBlock ∧ some k_ ≠ ((.slice Ao66 t455.length co66) : Value).ownBlock) (.slice Ao70 t459.length co70) t459) ∧ Aside0 (Kd.R (Kd.int .i64) 3 w' w.heap.size (fun k_ => some k_ ≠ ((.slice Ao70 t459.length co70) : Value).ownBlock ∧ some k_ ≠ ((.slice Ao70 t459.length co70) : Value).ownBlock ∧ some k_ ≠ (u430002 : Value).ownBlock ∧ some k_ ≠ ((.slice Ao62 t449.length co62) : Value).ownBlock ∧ some k_ ≠ ((.slice Ao66 t455.length co66) : Value).ownBlock) u430000 x430000_1) ∧ Aside0 (Kd.N k40 40 w' w.heap.size (fun k_ => some k_ ≠ ((.slice Ao70 t459.length co70) : Value).ownBlock ∧ some k_ ≠ ((.slice Ao70 t459.length co70) : Value).ownBlock ∧ some k_ ≠ (u430000 : Value).ownBlock ∧ some k_ ≠ (u430002 : Value).ownBlock ∧ some k_ ≠ ((.slice Ao62 t449.length co62) : Value).ownBlock ∧ some k_ ≠ ((.slice Ao65 t452.length co65) : Value).ownBlock ∧ some k_ ≠ ((.slice Ao66 t455.length co66) : Value).ownBlock ∧ k_ ≠ gb429 ∧ k_ ≠ gb458) u430001 x430001_1) ∧ Aside0 (Kd.R (Kd.int .i64) 3 w' w.heap.size (fun k_ => some k_ ≠ ((.slice Ao70 t459.length co70) : Value).ownBlock ∧ some k_ ≠ ((.slice Ao70 t459.length co70) : Value).ownBlock ∧ some k_ ≠ (u430000 : Value).ownBlock ∧ some k_ ≠ ((.slice Ao62 t449.length co62) : Value).ownBlock ∧ some k_ ≠ ((.slice Ao66 t455.length co66) : Value).ownBlock) u430002 x430002_1) ∧ Aside0 (Kd.R (Kd.int .i64) 3 w' w.heap.size (fun k_ => some k_ ≠ ((.slice Ao70 t459.length co70) : Value).ownBlock ∧ some k_ ≠ ((.slice Ao70 t459.length co70) : Value).ownBlock ∧ X_ k_ u430000 ∧ X_ k_ u430002 ∧ some k_ ≠ ((.slice Ao66 t455.length co66) : Value).ownBlock) (.slice Ao62 t449.length co62) t449) ∧ Aside0 (Kd.N k40 40 w' w.heap.size (fun k_ => some k_ ≠ ((.slice Ao70 t459.length co70) : Value).ownBlock ∧ some k_ ≠ ((.slice Ao70 t459.length co70) : Value).ownBlock ∧ X_ k_ u430000 ∧ X_ k_ u430001 ∧ X_ k_ u430002 ∧ some k_ ≠ ((.slice Ao62 t449.length co62) : Value).ownBlock ∧ some k_ ≠ ((.slice Ao66 t455.length co66) : Value).ownBlock ∧ k_ ≠ gb429 ∧ k_ ≠ gb458) (.slice Ao65 t452.length co65) t452) ∧ Aside0 (Kd.R (Kd.int .i64) 3 w' w.heap.size (fun k_ => some k_ ≠ ((.slice Ao70 t459.length co70) : Value).ownBlock ∧ some k_ ≠ ((.slice Ao70 t459.length co70) : Value).ownBlock ∧ X_ k_ u430000 ∧ X_ k_ u430002 ∧ some k_ ≠ ((.slice Ao62 t449.length co62) : Value).ownBlock) (.slice Ao66 t455.length co66) t455) ∧ Aside0 (w'.heap[gb429]? = some (.cells #[u430000, u430001, u430002] 30 (0, 0))) ∧ Aside0 (w'.heap[gb458]? = some (.cells #[(.slice Ao62 t449.length co62), (.slice Ao65 t452.length co65), (.slice Ao66 t455.length co66)] 30 (0, 0))) ∧ Aside0 (Below w.heap.size w w'))
     case atStart => exact ⟨(0), (by first | rfl | (simp; done) | (simp [*]; done)), H', ⟨Nat.le_refl _⟩, ⟨by (with_reducible repeat (first | apply Kd.R_alloc | apply Kd.R_drewN | apply Kd.R_drew)); exact Kd.R_mono HO461.out (fun _ hk => ⟨hk.1.1.1.1.2, ⟨hk.1.1.1.2, ⟨hk.1.1.2, hk.1.2⟩⟩⟩)⟩, ⟨by (with_reducible repeat (first | apply Kd.R_alloc | apply Kd.R_drewN | apply Kd.R_drew)); exact Kd.R_mono HO461.out (fun _ hk => ⟨hk.1.1.1.1.2, ⟨hk.1.1.1.2, ⟨hk.1.1.2, hk.1.2⟩⟩⟩)⟩, ⟨by (with_reducible repeat (first | apply Kd.R_alloc | apply Kd.R_drewN | apply Kd.R_drew)); exact Kd.R_mono HO_430000.out (fun _ hk => ⟨hk.1.2, ⟨hk.1.2, ⟨hk.1.1.1.1, ⟨hk.1.1.1.2, hk.1.1.2⟩⟩⟩⟩)⟩, ⟨by (with_reducible repeat (first | apply Kd.N_alloc | apply Kd.N_drewN | apply Kd.N_drew)); exact Kd.N_mono HO_430001.out (fun _ hk => ⟨hk.1.2, ⟨hk.1.2, ⟨hk.1.1.1.1.1.1.1, ⟨hk.1.1.1.1.1.1.2.1, ⟨hk.1.1.1.1.1.2, ⟨hk.1.1.1.1.2, ⟨hk.1.1.1.2, ⟨hk.1.1.1.1.1.1.2.2, hk.1.1.2⟩⟩⟩⟩⟩⟩⟩⟩)⟩, ⟨by (with_reducible repeat (first | apply Kd.R_alloc | apply Kd.R_drewN | apply Kd.R_drew)); exact Kd.R_mono HO_430002.out (fun _ hk => ⟨hk.1.2, ⟨hk.1.2, ⟨hk.1.1.1.1, ⟨hk.1.1.1.2, hk.1.1.2⟩⟩⟩⟩)⟩, ⟨by (with_reducible repeat (first | apply Kd.R_alloc | apply Kd.R_drewN | apply Kd.R_drew)); exact Kd.R_mono HO451.out (fun _ hk => ⟨hk.1.2, ⟨hk.1.2, ⟨hk.1.1.1.2, ⟨hk.1.1.2, hk.1.1.1.1⟩⟩⟩⟩)⟩, ⟨by (with_reducible repeat (first | apply Kd.N_alloc | apply Kd.N_drewN | apply Kd.N_drew)); exact Kd.N_mono HO454.out (fun _ hk => ⟨hk.1.2, ⟨hk.1.2, ⟨hk.1.1.1.2.2.1, ⟨hk.1.1.1.2.2.2.1, ⟨hk.1.1.1.2.2.2.2.1, ⟨hk.1.1.1.1, ⟨hk.1.1.1.2.1, ⟨hk.1.1.1.2.2.2.2.2, hk.1.1.2⟩⟩⟩⟩⟩⟩⟩⟩)⟩, ⟨by (with_reducible repeat (first | apply Kd.R_alloc | apply Kd.R_drewN | apply Kd.R_drew)); exact Kd.R_mono HO457.out (fun _ hk => ⟨hk.1.2, ⟨hk.1.2, ⟨hk.1.1.1.2, ⟨hk.1.1.2, hk.1.1.1.1⟩⟩⟩⟩)⟩, ⟨by (with_reducible repeat (first | refine blk_drewN ?_ _ | refine blk_drew ?_ | refine blk_alloc ?_ _)); exact BK429.out⟩, ⟨by (with_reducible repeat (first | refine blk_drewN ?_ _ | refine blk_drew ?_ | refine blk_alloc ?_ _)); exact BK458.out⟩, ⟨by repeat (first | (with_reducible first | exact HB.out | apply below_alloc | apply pw_below_drewN | apply below_drew1 | refine below_set ?_ GE429.out | refine below_set ?_ GE458.out) | exact HB.out)⟩⟩
     case round =>
      clear H'
      clear hcz64_0 hcz64_1 hcz64_2 hcz68_0 hcz68_1 hcz68_2 hfz64_0 hfz64_1 hfz64_2 hfz68_0 hfz68_1 hfz68_2
      obtain ⟨x79_3, rfl, HA, HK3, HO_7, HO_77, HO_430000, HO_430001, HO_430002, HO_459000, HO_459001, HO_459002, BK429, BK458, HB⟩ := hrel
      cases gk with
      | zero => exact absurd HA.out (by simp [laws_FnRing.l1])
      | succ k3 =>
       have H := HA.out
       clear HA
       simp only [laws_FnRing.l1] at H
       by_cases c72 : x79_3 < (t459.length : Int)
       case pos =>
        rw [if_pos c72] at H
        have c72b0 : decide (x79_3 < (t459.length : Int)) = true := decide_eq_true c72
        clear c72
        replace H := dn_ H
        obtain ⟨c73b0, H⟩ := H
        replace H := dn_ H
        obtain ⟨c74b0, H⟩ := H
        replace H := nn_ H
        obtain ⟨c75, H⟩ := H
        have c75b0 : ((t459.length : Int) == 0) = false := beq_eq_false_iff_ne.mpr c75
        have c75b1 : ((t459.length : Int) != 0) = true := bne_iff_ne.mpr c75
        have c75b2 : ¬ (t459 = []) := fun h_ => c75 (by rw [h_]; rfl)
        obtain ⟨ji76, hji76⟩ : ∃ j_ : Int, (Int.tmod (wrap64 (x79_3 + 1)) (t459.length : Int)) = j_ := ⟨_, rfl⟩
        replace H : (if 0 ≤ (ji76) then (if (ji76) < (t459.length : Int) then ((impl_Waits.f k3 t449 t452 t455 (rd t459 x79_3)).bind fun t468 => (laws_FnRing.l2 k3 t459 (rd t459 (ji76)) false t459 (t459.length : Int) x79_3 t468 (t468.length : Int) 0 t449 t452 t455)) else (none)) else (none)) = some r := by first | (rw [hji76] at H; exact H) | (simp only [hji76] at H ⊢; exact H)
        replace H := dn_ H
        obtain ⟨c77b0, H⟩ := H
        replace H := dn_ H
        obtain ⟨c78b0, H⟩ := H
        replace H := Option.bind_eq_some_iff.mp H
        obtain ⟨t468, A790, H⟩ := H
        try dsimp only at H
        have A79 := K_ A790
        clear A790
        have H' := K_ H
        clear H
        have p466 : 0 ≤ (x79_3 : Int) := of_decide_eq_true (by assumption)
        have q466 : x79_3 < (t459.length : Int) := of_decide_eq_true (by assumption)
        obtain ⟨ad466, e466, hx466_0⟩ := Kd.at_int (Kd.R_reads' HO_77.out).2.2 x79_3 p466 q466
        cases e466
        replace p466 := eq_true p466
        replace q466 := eq_true q466
        have p467 : 0 ≤ ((ji76) : Int) := of_decide_eq_true (by assumption)
        have q467 : (ji76) < (t459.length : Int) := of_decide_eq_true (by assumption)
        obtain ⟨ad467, e467, hx467_0⟩ := Kd.at_int (Kd.R_reads' HO_7.out).2.2 (ji76) p467 q467
        obtain rfl : ad466 = ad467 := (by injection e467)
        replace p467 := eq_true p467
        replace q467 := eq_true q467
        have hnb80 := NB458_429.out
        have hnc80 := NB429_458.out
        obtain ⟨hcz81_0, hcz81_1, hcz81_2, hfz81_0, hfz81_1, hfz81_2⟩ := blkf3_ BK458.out
        go_wp2_with (first | ((with_reducible refine gate_callee (f := 19) rfl ?_); refine goesL_ (some 94) rfl rfl Try.func19 (by kernel_rfl) rfl #[.agg #[.slice Ao62 t449.length co62, .slice Ao65 t452.length co65, .slice Ao66 t455.length co66], .int .i64 (rd t459 x79_3)] rfl (by simp only [List.map_toArray, List.map_cons, List.map_nil]; try rfl) ?_; (with_reducible refine (impl_Waits.calls k3 _ _ t449 _ _ t452 _ _ t455 (rd t459 x79_3) t468 _ ?side1 ?side2 ?side3 ?side4 ?side5 ?side6 A79.out).mono ?_); (case side1 => exact (Kd.R_reads' HO_459000.out).2.2); (case side2 => exact (Kd.R_reads' HO_459000.out).2.1); (case side3 => exact (Kd.N_reads' HO_459001.out).2.2); (case side4 => exact (Kd.N_reads' HO_459001.out).2.1); (case side5 => exact (Kd.R_reads' HO_459002.out).2.2); (case side6 => exact (Kd.R_reads' HO_459002.out).2.1); rintro e w82 ⟨v469, rfl, ho0, hb⟩; refine ⟨_, rfl, ?_⟩; have HO470 := K_ (Kd.R_lower (Kd.R_new' (Kd.R_new' (Kd.R_new' (Kd.R_new' (Kd.R_new' (Kd.R_new' ho0 (Kd.R_lt (by exact HO_7.out))) (Kd.R_lt (by exact HO_77.out))) (Kd.R_lt (by exact HO_430000.out))) (Kd.R_lt (by exact HO_430002.out))) (Kd.R_lt (by exact HO_459000.out))) (Kd.R_lt (by exact HO_459002.out))) (below_size (HB.out))); replace HO_7 := K_ (Kd.R_elder' (by exact HO_7.out) (Kd.R_base ho0) hb); replace HO_77 := K_ (Kd.R_elder' (by exact HO_77.out) (Kd.R_base ho0) hb); replace HO_430000 := K_ (Kd.R_elder' (by exact HO_430000.out) (Kd.R_base ho0) hb); replace HO_430001 := K_ (Kd.N_elder' (by exact HO_430001.out) (Kd.R_base ho0) hb); replace HO_430002 := K_ (Kd.R_elder' (by exact HO_430002.out) (Kd.R_base ho0) hb); replace HO_459000 := K_ (Kd.R_elder' (by exact HO_459000.out) (Kd.R_base ho0) hb); replace HO_459001 := K_ (Kd.N_elder' (by exact HO_459001.out) (Kd.R_base ho0) hb); replace HO_459002 := K_ (Kd.R_elder' (by exact HO_459002.out) (Kd.R_base ho0) hb); replace BK429 := K_ (blk_below (g := gb429) (o := .cells #[u430000, u430001, u430002] 30 (0, 0)) BK429.out hb); replace BK458 := K_ (blk_below (g := gb458) (o := .cells #[.slice Ao62 t449.length co62, .slice Ao65 t452.length co65, .slice Ao66 t455.length co66] 30 (0, 0)) BK458.out hb); replace HB := K_ (below_step (HB.out) hb); clear hb ho0; obtain ⟨Ao83, co83, eo83⟩ := Kd.R_slice HO470.out; subst eo83))
        go_loopg [11, 96] k3 (fun kq v11 v96 w' => ∃ (x11_4 : Bool) (x96_4 : Int), v11 = .bool x11_4 ∧ v96 = .int .i64 x96_4 ∧ Aside0 (laws_FnRing.l2 kq t459 (rd t459 (ji76)) x11_4 t459 (t459.length : Int) x79_3 t468 (t468.length : Int) x96_4 t449 t452 t455 = some r) ∧ Aside0 (kq ≤ k3) ∧ Aside0 (Kd.R (Kd.int .i64) 3 w' w.heap.size (fun k_ => some k_ ≠ ((.slice Ao83 t468.length co83) : Value).ownBlock ∧ X_ k_ u430000 ∧ X_ k_ u430002 ∧ some k_ ≠ ((.slice Ao62 t449.length co62) : Value).ownBlock ∧ some k_ ≠ ((.slice Ao66 t455.length co66) : Value).ownBlock) (.slice (some ad466) t459.length co70) t459) ∧ Aside0 (Kd.R (Kd.int .i64) 3 w' w.heap.size (fun k_ => some k_ ≠ ((.slice Ao83 t468.length co83) : Value).ownBlock ∧ X_ k_ u430000 ∧ X_ k_ u430002 ∧ some k_ ≠ ((.slice Ao62 t449.length co62) : Value).ownBlock ∧ some k_ ≠ ((.slice Ao66 t455.length co66) : Value).ownBlock) (.slice (some ad466) t459.length co70) t459) ∧ Aside0 (Kd.R (Kd.int .i64) 3 w' w.heap.size (fun k_ => some k_ ≠ ((.slice (some ad466) t459.length co70) : Value).ownBlock ∧ some k_ ≠ ((.slice (some ad466) t459.length co70) : Value).ownBlock ∧ X_ k_ u430000 ∧ X_ k_ u430002 ∧ some k_ ≠ ((.slice Ao62 t449.length co62) : Value).ownBlock ∧ some k_ ≠ ((.slice Ao66 t455.length co66) : Value).ownBlock) (.slice Ao83 t468.length co83) t468) ∧ Aside0 (Kd.R (Kd.int .i64) 3 w' w.heap.size (fun k_ => some k_ ≠ ((.slice (some ad466) t459.length co70) : Value).ownBlock ∧ some k_ ≠ ((.slice (some ad466) t459.length co70) : Value).ownBlock ∧ some k_ ≠ ((.slice Ao83 t468.length co83) : Value).ownBlock ∧ X_ k_ u430002 ∧ some k_ ≠ ((.slice Ao62 t449.length co62) : Value).ownBlock ∧ some k_ ≠ ((.slice Ao66 t455.length co66) : Value).ownBlock) u430000 x430000_1) ∧ Aside0 (Kd.N k40 40 w' w.heap.size (fun k_ => some k_ ≠ ((.slice (some ad466) t459.length co70) : Value).ownBlock ∧ some k_ ≠ ((.slice (some ad466) t459.length co70) : Value).ownBlock ∧ some k_ ≠ ((.slice Ao83 t468.length co83) : Value).ownBlock ∧ X_ k_ u430000 ∧ X_ k_ u430002 ∧ some k_ ≠ ((.slice Ao62 t449.length co62) : Value).ownBlock ∧ some k_ ≠ ((.slice Ao65 t452.length co65) : Value).ownBlock ∧ some k_ ≠ ((.slice Ao66 t455.length co66) : Value).ownBlock ∧ k_ ≠ gb429 ∧ k_ ≠ gb458) u430001 x430001_1) ∧ Aside0 (Kd.R (Kd.int .i64) 3 w' w.heap.size (fun k_ => some k_ ≠ ((.slice (some ad466) t459.length co70) : Value).ownBlock ∧ some k_ ≠ ((.slice (some ad466) t459.length co70) : Value).ownBlock ∧ some k_ ≠ ((.slice Ao83 t468.length co83) : Value).ownBlock ∧ X_ k_ u430000 ∧ some k_ ≠ ((.slice Ao62 t449.length co62) : Value).ownBlock ∧ some k_ ≠ ((.slice Ao66 t455.length co66) : Value).ownBlock) u430002 x430002_1) ∧ Aside0 (Kd.R (Kd.int .i64) 3 w' w.heap.size (fun k_ => some k_ ≠ ((.slice (some ad466) t459.length co70) : Value).ownBlock ∧ some k_ ≠ ((.slice (some ad466) t459.length co70) : Value).ownBlock ∧ some k_ ≠ ((.slice Ao83 t468.length co83) : Value).ownBlock ∧ X_ k_ u430000 ∧ X_ k_ u430002 ∧ some k_ ≠ ((.slice Ao66 t455.length co66) : Value).ownBlock) (.slice Ao62 t449.length co62) t449) ∧ Aside0 (Kd.N k40 40 w' w.heap.size (fun k_ => some k_ ≠ ((.slice (some ad466) t459.length co70) : Value).ownBlock ∧ some k_ ≠ ((.slice (some ad466) t459.length co70) : Value).ownBlock ∧ some k_ ≠ ((.slice Ao83 t468.length co83) : Value).ownBlock ∧ X_ k_ u430000 ∧ X_ k_ u430001 ∧ X_ k_ u430002 ∧ some k_ ≠ ((.slice Ao62 t449.length co62) : Value).ownBlock ∧ some k_ ≠ ((.slice Ao66 t455.length co66) : Value).ownBlock ∧ k_ ≠ gb429 ∧ k_ ≠ gb458) (.slice Ao65 t452.length co65) t452) ∧ Aside0 (Kd.R (Kd.int .i64) 3 w' w.heap.size (fun k_ => some k_ ≠ ((.slice (some ad466) t459.length co70) : Value).ownBlock ∧ some k_ ≠ ((.slice (some ad466) t459.length co70) : Value).ownBlock ∧ some k_ ≠ ((.slice Ao83 t468.length co83) : Value).ownBlock ∧ X_ k_ u430000 ∧ X_ k_ u430002 ∧ some k_ ≠ ((.slice Ao62 t449.length co62) : Value).ownBlock) (.slice Ao66 t455.length co66) t455) ∧ Aside0 (w'.heap[gb429]? = some (.cells #[u430000, u430001, u430002] 30 (0, 0))) ∧ Aside0 (w'.heap[gb458]? = some (.cells #[(.slice Ao62 t449.length co62), (.slice Ao65 t452.length co65), (.slice Ao66 t455.length co66)] 30 (0, 0))) ∧ Aside0 (Below w.heap.size w w'))
        case atStart => exact ⟨(false), (0), rfl, rfl, H', ⟨Nat.le_refl _⟩, ⟨by exact Kd.R_mono HO_7.out (fun _ hk => ⟨hk.2, ⟨hk.1.1, ⟨hk.1.2.1, ⟨hk.1.2.2.1, hk.1.2.2.2⟩⟩⟩⟩)⟩, ⟨by exact Kd.R_mono HO_77.out (fun _ hk => ⟨hk.2, ⟨hk.1.1, ⟨hk.1.2.1, ⟨hk.1.2.2.1, hk.1.2.2.2⟩⟩⟩⟩)⟩, ⟨by exact Kd.R_mono HO470.out (fun _ hk => ⟨hk.1.1.1.1.1.2, ⟨hk.1.1.1.1.2, ⟨hk.1.1.1.2, ⟨hk.1.1.2, ⟨hk.1.2, hk.2⟩⟩⟩⟩⟩)⟩, ⟨by exact Kd.R_mono HO_430000.out (fun _ hk => ⟨hk.1.1, ⟨hk.1.2.1, ⟨hk.2, ⟨hk.1.2.2.1, ⟨hk.1.2.2.2.1, hk.1.2.2.2.2⟩⟩⟩⟩⟩)⟩, ⟨by exact Kd.N_mono HO_430001.out (fun _ hk => ⟨hk.1.1, ⟨hk.1.2.1, ⟨hk.2, ⟨hk.1.2.2.1, ⟨hk.1.2.2.2.1, ⟨hk.1.2.2.2.2.1, ⟨hk.1.2.2.2.2.2.1, ⟨hk.1.2.2.2.2.2.2.1, ⟨hk.1.2.2.2.2.2.2.2.1, hk.1.2.2.2.2.2.2.2.2⟩⟩⟩⟩⟩⟩⟩⟩⟩)⟩, ⟨by exact Kd.R_mono HO_430002.out (fun _ hk => ⟨hk.1.1, ⟨hk.1.2.1, ⟨hk.2, ⟨hk.1.2.2.1, ⟨hk.1.2.2.2.1, hk.1.2.2.2.2⟩⟩⟩⟩⟩)⟩, ⟨by exact Kd.R_mono HO_459000.out (fun _ hk => ⟨hk.1.1, ⟨hk.1.2.1, ⟨hk.2, ⟨hk.1.2.2.1, ⟨hk.1.2.2.2.1, hk.1.2.2.2.2⟩⟩⟩⟩⟩)⟩, ⟨by exact Kd.N_mono HO_459001.out (fun _ hk => ⟨hk.1.1, ⟨hk.1.2.1, ⟨hk.2, ⟨hk.1.2.2.1, ⟨hk.1.2.2.2.1, ⟨hk.1.2.2.2.2.1, ⟨hk.1.2.2.2.2.2.1, ⟨hk.1.2.2.2.2.2.2.1, ⟨hk.1.2.2.2.2.2.2.2.1, hk.1.2.2.2.2.2.2.2.2⟩⟩⟩⟩⟩⟩⟩⟩⟩)⟩, ⟨by exact Kd.R_mono HO_459002.out (fun _ hk => ⟨hk.1.1, ⟨hk.1.2.1, ⟨hk.2, ⟨hk.1.2.2.1, ⟨hk.1.2.2.2.1, hk.1.2.2.2.2⟩⟩⟩⟩⟩)⟩, ⟨BK429.out⟩, ⟨BK458.out⟩, ⟨HB.out⟩⟩
        case round =>
         clear H'
         clear c78b0 hcz81_0 hcz81_1 hcz81_2 hfz81_0 hfz81_1 hfz81_2 hx466_0 hx467_0 p466 p467 q466 q467
         obtain ⟨x11_4, x96_4, rfl, rfl, HA, HK4, HO_7, HO_77, HO_94, HO_430000, HO_430001, HO_430002, HO_459000, HO_459001, HO_459002, BK429, BK458, HB⟩ := hrel
         cases gk with
         | zero => exact absurd HA.out (by simp [laws_FnRing.l2])
         | succ k4 =>
          have H := HA.out
          clear HA
          simp only [laws_FnRing.l2] at H
          by_cases c84 : x96_4 < (t468.length : Int)
          case neg =>
           rw [if_neg c84] at H
           have c84b0 := decide_eq_false c84
           clear c84
           by_cases c88 : x11_4 = true
           case neg =>
            replace c88 := Bool.eq_false_iff.mpr c88
            subst c88
            have H1 : (some false) = some r := by rw [if_neg (show ¬ (false = true) by decide)] at H; exact H
            clear H
            have H := H1
            exact absurd (H.trans (congrArg some hT_.out)) (by simp)
           subst c88
           rw [if_pos rfl] at H
           have H' := K_ H
           clear H
           go_wp2
           go_roundg k4
           case measure => have := HK1.out; have := HJ27.out; have := HK3.out; have := HK4.out; omega
           case rel => exact ⟨(wrap64 (x79_3 + 1)), rfl, H', ⟨by have := HK1.out; have := HJ27.out; have := HK3.out; have := HK4.out; omega⟩, ⟨by exact Kd.R_mono HO_7.out (fun _ hk => ⟨hk.2.1, ⟨hk.2.2.1, ⟨hk.2.2.2.1, hk.2.2.2.2⟩⟩⟩)⟩, ⟨by exact Kd.R_mono HO_77.out (fun _ hk => ⟨hk.2.1, ⟨hk.2.2.1, ⟨hk.2.2.2.1, hk.2.2.2.2⟩⟩⟩)⟩, ⟨by exact Kd.R_mono HO_430000.out (fun _ hk => ⟨hk.1, ⟨hk.2.1, ⟨hk.2.2.2.1, ⟨hk.2.2.2.2.1, hk.2.2.2.2.2⟩⟩⟩⟩)⟩, ⟨by exact Kd.N_mono HO_430001.out (fun _ hk => ⟨hk.1, ⟨hk.2.1, ⟨hk.2.2.2.1, ⟨hk.2.2.2.2.1, ⟨hk.2.2.2.2.2.1, ⟨hk.2.2.2.2.2.2.1, ⟨hk.2.2.2.2.2.2.2.1, ⟨hk.2.2.2.2.2.2.2.2.1, hk.2.2.2.2.2.2.2.2.2⟩⟩⟩⟩⟩⟩⟩⟩)⟩, ⟨by exact Kd.R_mono HO_430002.out (fun _ hk => ⟨hk.1, ⟨hk.2.1, ⟨hk.2.2.2.1, ⟨hk.2.2.2.2.1, hk.2.2.2.2.2⟩⟩⟩⟩)⟩, ⟨by exact Kd.R_mono HO_459000.out (fun _ hk => ⟨hk.1, ⟨hk.2.1, ⟨hk.2.2.2.1, ⟨hk.2.2.2.2.1, hk.2.2.2.2.2⟩⟩⟩⟩)⟩, ⟨by exact Kd.N_mono HO_459001.out (fun _ hk => ⟨hk.1, ⟨hk.2.1, ⟨hk.2.2.2.1, ⟨hk.2.2.2.2.1, ⟨hk.2.2.2.2.2.1, ⟨hk.2.2.2.2.2.2.1, ⟨hk.2.2.2.2.2.2.2.1, ⟨hk.2.2.2.2.2.2.2.2.1, hk.2.2.2.2.2.2.2.2.2⟩⟩⟩⟩⟩⟩⟩⟩)⟩, ⟨by exact Kd.R_mono HO_459002.out (fun _ hk => ⟨hk.1, ⟨hk.2.1, ⟨hk.2.2.2.1, ⟨hk.2.2.2.2.1, hk.2.2.2.2.2⟩⟩⟩⟩)⟩, ⟨BK429.out⟩, ⟨BK458.out⟩, ⟨HB.out⟩⟩
          rw [if_pos c84] at H
          have c84b0 : decide (x96_4 < (t468.length : Int)) = true := decide_eq_true c84
          clear c84
          replace H := dn_ H
          obtain ⟨c85b0, H⟩ := H
          replace H := dn_ H
          obtain ⟨c86b0, H⟩ := H
          by_cases c87 : x11_4 = true
          case pos =>
           subst c87
           rw [if_pos rfl] at H
           have H' := K_ H
           clear H
           have p471 : 0 ≤ (x96_4 : Int) := of_decide_eq_true (by assumption)
           have q471 : x96_4 < (t468.length : Int) := of_decide_eq_true (by assumption)
           obtain ⟨ad471, e471, hx471_0⟩ := Kd.at_int (Kd.R_reads' HO_94.out).2.2 x96_4 p471 q471
           cases e471
           replace p471 := eq_true p471
           replace q471 := eq_true q471
           go_wp2
           go_roundg k4
           case measure => have := HK1.out; have := HJ27.out; have := HK3.out; have := HK4.out; omega
           case rel => exact ⟨(true), (wrap64 (x96_4 + 1)), rfl, rfl, H', ⟨by have := HK1.out; have := HJ27.out; have := HK3.out; have := HK4.out; omega⟩, ⟨by exact HO_7.out⟩, ⟨by exact HO_77.out⟩, ⟨by exact HO_94.out⟩, ⟨by exact HO_430000.out⟩, ⟨by exact HO_430001.out⟩, ⟨by exact HO_430002.out⟩, ⟨by exact HO_459000.out⟩, ⟨by exact HO_459001.out⟩, ⟨by exact HO_459002.out⟩, ⟨BK429.out⟩, ⟨BK458.out⟩, ⟨HB.out⟩⟩
          replace c87 := Bool.eq_false_iff.mpr c87
          subst c87
          rw [if_neg (show ¬ (false = true) by decide)] at H
          have H' := K_ H
          clear H
          have p471 : 0 ≤ (x96_4 : Int) := of_decide_eq_true (by assumption)
          have q471 : x96_4 < (t468.length : Int) := of_decide_eq_true (by assumption)
          obtain ⟨ad471, e471, hx471_0⟩ := Kd.at_int (Kd.R_reads' HO_94.out).2.2 x96_4 p471 q471
          cases e471
          replace p471 := eq_true p471
          replace q471 := eq_true q471
          go_wp2
          go_roundg k4
          case measure => have := HK1.out; have := HJ27.out; have := HK3.out; have := HK4.out; omega
          case rel => exact ⟨(((rd t468 x96_4) == (rd t459 (ji76)))), (wrap64 (x96_4 + 1)), (by first | rfl | (simp; done) | (simp only [← hji76] <;> (first | rfl | simp)) | (simp [*]; done)), rfl, H', ⟨by have := HK1.out; have := HJ27.out; have := HK3.out; have := HK4.out; omega⟩, ⟨by exact HO_7.out⟩, ⟨by exact HO_77.out⟩, ⟨by exact HO_94.out⟩, ⟨by exact HO_430000.out⟩, ⟨by exact HO_430001.out⟩, ⟨by (with_reducible repeat (first | apply Kd.R_alloc | apply Kd.R_drewN | apply Kd.R_drew)); exact HO_430002.out⟩, ⟨by (with_reducible repeat (first | apply Kd.R_alloc | apply Kd.R_drewN | apply Kd.R_drew)); exact HO_459000.out⟩, ⟨by (with_reducible repeat (first | apply Kd.N_alloc | apply Kd.N_drewN | apply Kd.N_drew)); exact HO_459001.out⟩, ⟨by (with_reducible repeat (first | apply Kd.R_alloc | apply Kd.R_drewN | apply Kd.R_drew)); exact HO_459002.out⟩, ⟨BK429.out⟩, ⟨BK458.out⟩, ⟨HB.out⟩⟩
       rw [if_neg c72] at H
       have c72b0 := decide_eq_false c72
       clear c72
       replace H := Option.bind_eq_some_iff.mp H
       obtain ⟨t472, A890, H⟩ := H
       replace H : (if t472 = true then (if (t459.length : Int) > 0 then ((impl_Safe.f k3 t449 t452 t455).bind fun t473 => (some (!t473))) else (some false)) else ((impl_Moves.f k3 t449 t452 t455).bind fun t474 => (if (t474.length : Int) = (t452.length : Int) then (some ((t459.length : Int) == 0)) else (some true)))) = some r := H
       have A89 := K_ A890
       clear A890
       by_cases c90 : t472 = true
       case pos =>
        subst c90
        rw [if_pos rfl] at H
        replace H := ps_ H
        rcases H with ⟨c91, H⟩ | ⟨c91, H⟩
        case inr =>
         exact absurd (H.trans (congrArg some hT_.out)) (by simp)
        have c91b0 := decide_eq_true c91
        have c91b1 : decide (0 < t459.length) = true := decide_eq_true (by omega)
        clear c91
        replace H := Option.bind_eq_some_iff.mp H
        obtain ⟨t473, A920, H⟩ := H
        try dsimp only at H
        have A92 := K_ A920
        clear A920
        obtain rfl := Option.some.inj H
        have hnb93 := NB458_429.out
        have hnc93 := NB429_458.out
        obtain ⟨hcz94_0, hcz94_1, hcz94_2, hfz94_0, hfz94_1, hfz94_2⟩ := blkf3_ BK458.out
        go_wp2_with (first | ((with_reducible refine gate_callee (f := 15) rfl ?_); refine goesL_ (some 111) rfl rfl Try.func15 (by kernel_rfl) rfl #[.agg #[.slice Ao62 t449.length co62, .slice Ao65 t452.length co65, .slice Ao66 t455.length co66]] rfl (by (try simp only [List.map_toArray, List.map_cons, List.map_nil]); first | done | rfl | (simp only [List.length_drop, List.length_take]; rfl)) ?_; (with_reducible refine (impl_Stuck.calls k3 _ _ t449 _ _ t452 _ _ t455 true _ ?side1 ?side2 ?side3 ?side4 ?side5 ?side6 A89.out).mono ?_); (case side1 => repeat (first | exact (Kd.R_reads' HO_459000.out).2.2 | (with_reducible refine Kd.C_alloc ?_ _) | (with_reducible refine Kd.C_drewN ?_ _) | (with_reducible refine Kd.C_drew ?_))); (case side2 => exact (Kd.R_reads' HO_459000.out).2.1); (case side3 => repeat (first | exact (Kd.N_reads' HO_459001.out).2.2 | (with_reducible refine Kd.C_alloc ?_ _) | (with_reducible refine Kd.C_drewN ?_ _) | (with_reducible refine Kd.C_drew ?_))); (case side4 => exact (Kd.N_reads' HO_459001.out).2.1); (case side5 => repeat (first | exact (Kd.R_reads' HO_459002.out).2.2 | (with_reducible refine Kd.C_alloc ?_ _) | (with_reducible refine Kd.C_drewN ?_ _) | (with_reducible refine Kd.C_drew ?_))); (case side6 => exact (Kd.R_reads' HO_459002.out).2.1); rintro e w95 ⟨rfl, hb⟩; refine ⟨_, rfl, ?_⟩; have n0_ := K_ (Kd.R_below (by (with_reducible repeat (first | apply Kd.R_alloc | apply Kd.R_drewN | apply Kd.R_drew)); exact HO_7.out) hb); have n1_ := K_ (Kd.R_below (by (with_reducible repeat (first | apply Kd.R_alloc | apply Kd.R_drewN | apply Kd.R_drew)); exact HO_77.out) hb); have n2_ := K_ (Kd.R_below (by (with_reducible repeat (first | apply Kd.R_alloc | apply Kd.R_drewN | apply Kd.R_drew)); exact HO_430000.out) hb); have n3_ := K_ (Kd.N_below (by (with_reducible repeat (first | apply Kd.N_alloc | apply Kd.N_drewN | apply Kd.N_drew)); exact HO_430001.out) hb); have n4_ := K_ (Kd.R_below (by (with_reducible repeat (first | apply Kd.R_alloc | apply Kd.R_drewN | apply Kd.R_drew)); exact HO_430002.out) hb); have n5_ := K_ (Kd.R_below (by (with_reducible repeat (first | apply Kd.R_alloc | apply Kd.R_drewN | apply Kd.R_drew)); exact HO_459000.out) hb); have n6_ := K_ (Kd.N_below (by (with_reducible repeat (first | apply Kd.N_alloc | apply Kd.N_drewN | apply Kd.N_drew)); exact HO_459001.out) hb); have n7_ := K_ (Kd.R_below (by (with_reducible repeat (first | apply Kd.R_alloc | apply Kd.R_drewN | apply Kd.R_drew)); exact HO_459002.out) hb); have n8_ := K_ (blk_below (g := gb429) (o := .cells #[u430000, u430001, u430002] 30 (0, 0)) (by (with_reducible repeat (first | refine blk_drewN ?_ _ | refine blk_drew ?_ | refine blk_alloc ?_ _)); exact BK429.out) hb); have n9_ := K_ (blk_below (g := gb458) (o := .cells #[.slice Ao62 t449.length co62, .slice Ao65 t452.length co65, .slice Ao66 t455.length co66] 30 (0, 0)) (by (with_reducible repeat (first | refine blk_drewN ?_ _ | refine blk_drew ?_ | refine blk_alloc ?_ _)); exact BK458.out) hb); have n10_ := K_ (below_step (by repeat (first | (with_reducible first | exact HB.out | apply below_alloc | apply pw_below_drewN | apply below_drew1 | refine below_set ?_ GE429.out | refine below_set ?_ GE458.out) | exact HB.out)) hb); clear HO_7; clear HO_77; clear HO_430000; clear HO_430001; clear HO_430002; clear HO_459000; clear HO_459001; clear HO_459002; clear BK429; clear BK458; clear HB; have HO_7 := n0_; have HO_77 := n1_; have HO_430000 := n2_; have HO_430001 := n3_; have HO_430002 := n4_; have HO_459000 := n5_; have HO_459001 := n6_; have HO_459002 := n7_; have BK429 := n8_; have BK458 := n9_; have HB := n10_; clear n0_ n1_ n2_ n3_ n4_ n5_ n6_ n7_ n8_ n9_ n10_; (try clear hb); (try clear hb2); (try clear hk); (try clear hi); obtain ⟨hcz96_0, hcz96_1, hcz96_2, hfz96_0, hfz96_1, hfz96_2⟩ := blkf3_ BK458.out) | (go_at_call 16; (with_reducible refine (impl_Safe.calls k3 _ _ t449 _ _ t452 _ _ t455 t473 _ ?side1 ?side2 ?side3 ?side4 ?side5 ?side6 A92.out).mono ?_); (case side1 => repeat (first | exact (Kd.R_reads' HO_459000.out).2.2 | (with_reducible refine Kd.C_alloc ?_ _) | (with_reducible refine Kd.C_drewN ?_ _) | (with_reducible refine Kd.C_drew ?_))); (case side2 => exact (Kd.R_reads' HO_459000.out).2.1); (case side3 => repeat (first | exact (Kd.N_reads' HO_459001.out).2.2 | (with_reducible refine Kd.C_alloc ?_ _) | (with_reducible refine Kd.C_drewN ?_ _) | (with_reducible refine Kd.C_drew ?_))); (case side4 => exact (Kd.N_reads' HO_459001.out).2.1); (case side5 => repeat (first | exact (Kd.R_reads' HO_459002.out).2.2 | (with_reducible refine Kd.C_alloc ?_ _) | (with_reducible refine Kd.C_drewN ?_ _) | (with_reducible refine Kd.C_drew ?_))); (case side6 => exact (Kd.R_reads' HO_459002.out).2.1); rintro e w97 ⟨rfl, hb⟩; have n0_ := K_ (Kd.R_below (by (with_reducible repeat (first | apply Kd.R_alloc | apply Kd.R_drewN | apply Kd.R_drew)); exact HO_7.out) hb); have n1_ := K_ (Kd.R_below (by (with_reducible repeat (first | apply Kd.R_alloc | apply Kd.R_drewN | apply Kd.R_drew)); exact HO_77.out) hb); have n2_ := K_ (Kd.R_below (by (with_reducible repeat (first | apply Kd.R_alloc | apply Kd.R_drewN | apply Kd.R_drew)); exact HO_430000.out) hb); have n3_ := K_ (Kd.N_below (by (with_reducible repeat (first | apply Kd.N_alloc | apply Kd.N_drewN | apply Kd.N_drew)); exact HO_430001.out) hb); have n4_ := K_ (Kd.R_below (by (with_reducible repeat (first | apply Kd.R_alloc | apply Kd.R_drewN | apply Kd.R_drew)); exact HO_430002.out) hb); have n5_ := K_ (Kd.R_below (by (with_reducible repeat (first | apply Kd.R_alloc | apply Kd.R_drewN | apply Kd.R_drew)); exact HO_459000.out) hb); have n6_ := K_ (Kd.N_below (by (with_reducible repeat (first | apply Kd.N_alloc | apply Kd.N_drewN | apply Kd.N_drew)); exact HO_459001.out) hb); have n7_ := K_ (Kd.R_below (by (with_reducible repeat (first | apply Kd.R_alloc | apply Kd.R_drewN | apply Kd.R_drew)); exact HO_459002.out) hb); have n8_ := K_ (blk_below (g := gb429) (o := .cells #[u430000, u430001, u430002] 30 (0, 0)) (by (with_reducible repeat (first | refine blk_drewN ?_ _ | refine blk_drew ?_ | refine blk_alloc ?_ _)); exact BK429.out) hb); have n9_ := K_ (blk_below (g := gb458) (o := .cells #[.slice Ao62 t449.length co62, .slice Ao65 t452.length co65, .slice Ao66 t455.length co66] 30 (0, 0)) (by (with_reducible repeat (first | refine blk_drewN ?_ _ | refine blk_drew ?_ | refine blk_alloc ?_ _)); exact BK458.out) hb); have n10_ := K_ (below_step (by repeat (first | (with_reducible first | exact HB.out | apply below_alloc | apply pw_below_drewN | apply below_drew1 | refine below_set ?_ GE429.out | refine below_set ?_ GE458.out) | exact HB.out)) hb); clear HO_7; clear HO_77; clear HO_430000; clear HO_430001; clear HO_430002; clear HO_459000; clear HO_459001; clear HO_459002; clear BK429; clear BK458; clear HB; have HO_7 := n0_; have HO_77 := n1_; have HO_430000 := n2_; have HO_430001 := n3_; have HO_430002 := n4_; have HO_459000 := n5_; have HO_459001 := n6_; have HO_459002 := n7_; have BK429 := n8_; have BK458 := n9_; have HB := n10_; clear n0_ n1_ n2_ n3_ n4_ n5_ n6_ n7_ n8_ n9_ n10_; (try clear hb); (try clear hb2); (try clear hk); (try clear hi)))
        go_ret
        exact ⟨rfl, HB.out⟩
       replace c90 := Bool.eq_false_iff.mpr c90
       subst c90
       rw [if_neg (show ¬ (false = true) by decide)] at H
       replace H := Option.bind_eq_some_iff.mp H
       obtain ⟨t474, A1010, H⟩ := H
       try dsimp only at H
       have A101 := K_ A1010
       clear A1010
       replace H := ps_ H
       rcases H with ⟨c102, H⟩ | ⟨c102, H⟩
       case inr =>
        have c102b0 := beq_eq_false_iff_ne.mpr c102
        have c102b1 := bne_iff_ne.mpr c102
        have c102b2 : (t474.length == t452.length) = false := by first | simpa using c102 | (simp at c102 ⊢; omega)
        obtain rfl := Option.some.inj H
        have hnb109 := NB458_429.out
        have hnc109 := NB429_458.out
        obtain ⟨hcz110_0, hcz110_1, hcz110_2, hfz110_0, hfz110_1, hfz110_2⟩ := blkf3_ BK458.out
        try go_wp2_with (first | ((with_reducible refine gate_callee (f := 15) rfl ?_); refine goesL_ (some 111) rfl rfl Try.func15 (by kernel_rfl) rfl #[.agg #[.slice Ao62 t449.length co62, .slice Ao65 t452.length co65, .slice Ao66 t455.length co66]] rfl (by simp only [List.map_toArray, List.map_cons, List.map_nil]; try rfl) ?_; (with_reducible refine (impl_Stuck.calls k3 _ _ t449 _ _ t452 _ _ t455 false _ ?side1 ?side2 ?side3 ?side4 ?side5 ?side6 A89.out).mono ?_); (case side1 => exact (Kd.R_reads' HO_459000.out).2.2); (case side2 => exact (Kd.R_reads' HO_459000.out).2.1); (case side3 => exact (Kd.N_reads' HO_459001.out).2.2); (case side4 => exact (Kd.N_reads' HO_459001.out).2.1); (case side5 => exact (Kd.R_reads' HO_459002.out).2.2); (case side6 => exact (Kd.R_reads' HO_459002.out).2.1); rintro e w111 ⟨rfl, hb⟩; refine ⟨_, rfl, ?_⟩; replace HO_7 := K_ (Kd.R_below (by exact HO_7.out) hb); replace HO_77 := K_ (Kd.R_below (by exact HO_77.out) hb); replace HO_430000 := K_ (Kd.R_below (by exact HO_430000.out) hb); replace HO_430001 := K_ (Kd.N_below (by exact HO_430001.out) hb); replace HO_430002 := K_ (Kd.R_below (by exact HO_430002.out) hb); replace HO_459000 := K_ (Kd.R_below (by exact HO_459000.out) hb); replace HO_459001 := K_ (Kd.N_below (by exact HO_459001.out) hb); replace HO_459002 := K_ (Kd.R_below (by exact HO_459002.out) hb); replace BK429 := K_ (blk_below (g := gb429) (o := .cells #[u430000, u430001, u430002] 30 (0, 0)) BK429.out hb); replace BK458 := K_ (blk_below (g := gb458) (o := .cells #[.slice Ao62 t449.length co62, .slice Ao65 t452.length co65, .slice Ao66 t455.length co66] 30 (0, 0)) BK458.out hb); replace HB := K_ (below_step (HB.out) hb); clear hb))
        replace HO_7 := K_ (Kd.R_drew HO_7.out)
        replace HO_77 := K_ (Kd.R_drew HO_77.out)
        replace HO_430000 := K_ (Kd.R_drew HO_430000.out)
        replace HO_430001 := K_ (Kd.N_drew HO_430001.out)
        replace HO_430002 := K_ (Kd.R_drew HO_430002.out)
        replace HO_459000 := K_ (Kd.R_drew HO_459000.out)
        replace HO_459001 := K_ (Kd.N_drew HO_459001.out)
        replace HO_459002 := K_ (Kd.R_drew HO_459002.out)
        replace BK429 := K_ (blk_drew BK429.out)
        replace BK458 := K_ (blk_drew BK458.out)
        replace HB := K_ (below_drew1 HB.out)
        refine start_ (n := 13) (S := fun w' => w'.cell? ⟨gb458, 0, none⟩ = some (.slice Ao62 t449.length co62) ∧ w'.cell? ⟨gb458, 1, none⟩ = some (.slice Ao65 t452.length co65) ∧ w'.cell? ⟨gb458, 2, none⟩ = some (.slice Ao66 t455.length co66)) (ds := []) #[ff, ff, ff, ff, ff, ff, ff, ff, ff, ff, ff, ff, ff] (by kernel_rfl) rfl rfl ⟨(blk_cell BK458.out 0).trans rfl, (blk_cell BK458.out 1).trans rfl, (blk_cell BK458.out 2).trans rfl⟩ (fun hHeld => ?_); refine with_tabW laws_FnRing.tab32 laws_FnRing.bits32 (fun HT_ HW_ => ?_)
        generalize w111.drew = w112 at HO_7 HO_77 HO_430000 HO_430001 HO_430002 HO_459000 HO_459001 HO_459002 BK429 BK458 HB hHeld ⊢
        refine pq_ 3 123 (M_ 13 8) HT_ ?_
        refine tq_ 0 120 (M_ 13 9) HT_ HW_ hHeld ?_
        refine tq_ 4 124 (M_ 13 25) HT_ HW_ hHeld ?_
        refine pq_ 5 125 (M_ 13 57) HT_ ?_
        refine one_ (i := 1) (N := some 121) (M_ 13 59) rfl rfl (one_of HT_.out (by kernel_rfl)) (by decide) (fun K hK => ?_)
        refine goes_ Try.func20 (by kernel_rfl) rfl #[.agg #[.slice Ao62 t449.length co62, .slice Ao65 t452.length co65, .slice Ao66 t455.length co66]] (by rfl) rfl rfl (by simp only [List.map_toArray, List.map_cons, List.map_nil]; try rfl) ?_
        with_reducible refine (impl_Moves.calls k3 _ _ t449 _ _ t452 _ _ t455 t474 _ ?side1 ?side2 ?side3 ?side4 ?side5 ?side6 A101.out).mono ?_
        (case side1 => exact (Kd.R_reads' HO_459000.out).2.2)
        (case side2 => exact (Kd.R_reads' HO_459000.out).2.1)
        (case side3 => exact (Kd.N_reads' HO_459001.out).2.2)
        (case side4 => exact (Kd.N_reads' HO_459001.out).2.1)
        (case side5 => exact (Kd.R_reads' HO_459002.out).2.2)
        (case side6 => exact (Kd.R_reads' HO_459002.out).2.1)
        rintro e w113 ⟨v475, rfl, ho0, hb⟩
        refine ⟨_, rfl, ?_⟩
        have HO476 := K_ (Kd.R_lower (Kd.R_new' (Kd.R_new' (Kd.R_new' (Kd.R_new' (Kd.R_new' (Kd.R_new' ho0 (Kd.R_lt (by exact HO_7.out))) (Kd.R_lt (by exact HO_77.out))) (Kd.R_lt (by exact HO_430000.out))) (Kd.R_lt (by exact HO_430002.out))) (Kd.R_lt (by exact HO_459000.out))) (Kd.R_lt (by exact HO_459002.out))) (below_size (HB.out)))
        replace HO_7 := K_ (Kd.R_elder' (by exact HO_7.out) (Kd.R_base ho0) hb)
        replace HO_77 := K_ (Kd.R_elder' (by exact HO_77.out) (Kd.R_base ho0) hb)
        replace HO_430000 := K_ (Kd.R_elder' (by exact HO_430000.out) (Kd.R_base ho0) hb)
        replace HO_430001 := K_ (Kd.N_elder' (by exact HO_430001.out) (Kd.R_base ho0) hb)
        replace HO_430002 := K_ (Kd.R_elder' (by exact HO_430002.out) (Kd.R_base ho0) hb)
        replace HO_459000 := K_ (Kd.R_elder' (by exact HO_459000.out) (Kd.R_base ho0) hb)
        replace HO_459001 := K_ (Kd.N_elder' (by exact HO_459001.out) (Kd.R_base ho0) hb)
        replace HO_459002 := K_ (Kd.R_elder' (by exact HO_459002.out) (Kd.R_base ho0) hb)
        replace BK429 := K_ (blk_below (g := gb429) (o := .cells #[u430000, u430001, u430002] 30 (0, 0)) BK429.out hb)
        replace BK458 := K_ (blk_below (g := gb458) (o := .cells #[.slice Ao62 t449.length co62, .slice Ao65 t452.length co65, .slice Ao66 t455.length co66] 30 (0, 0)) BK458.out hb)
        replace HB := K_ (below_step (HB.out) hb)
        clear hb
        (try clear hb2)
        (try clear hk)
        (try clear hi)
        clear ho0
        obtain ⟨Ao114, co114, eo114⟩ := Kd.R_slice HO476.out
        (first | subst eo114 | (injection eo114 with f1_ f2_ f3_; have f4_ := f1_.symm; have f5_ := f3_.symm; clear f1_ f2_ f3_; subst f4_; subst f5_))
        refine hK.out _ _ ⟨(blk_cell BK458.out 0).trans rfl, (blk_cell BK458.out 1).trans rfl, (blk_cell BK458.out 2).trans rfl⟩ (fun hHeld => ?_)
        clear hK K
        refine norm_ (a' := ?_) ?_ ?_
        rotate_left
        ·show Act.put _ (some 121) _ = _
         simp only [P_, i64_w, i32_w]
         rfl
        refine pq_ 2 122 (M_ 13 63) HT_ ?_
        refine pq_ 6 126 (M_ 13 127) HT_ ?_
        refine pq_ 7 127 (M_ 13 255) HT_ ?_
        refine pure_ (i := 8) (N := some 128) (v := undef) (a' := ?_) (M_ 13 511) rfl rfl (any_of HT_.out (by kernel_rfl)) (fun _ _ _ h => h) (Or.inr ⟨by rfl, rfl⟩) ?_ ?_
        rotate_left
        ·simp only [P_, i64_w, i32_w]
         rfl
        refine pure_ (i := 9) (N := some 129) (v := undef) (a' := ?_) (M_ 13 1023) rfl rfl (any_of HT_.out (by kernel_rfl)) (fun _ _ _ h => h) (Or.inr ⟨by rfl, rfl⟩) ?_ ?_
        rotate_left
        ·simp only [P_, i64_w, i32_w]
         rfl
        refine pure_ (i := 10) (N := some 130) (v := undef) (a' := ?_) (M_ 13 2047) rfl rfl (any_of HT_.out (by kernel_rfl)) (fun _ _ _ h => h) (Or.inr ⟨by rfl, rfl⟩) ?_ ?_
        rotate_left
        ·simp only [P_, i64_w, i32_w]
         rfl
        refine pq_ 11 131 (M_ 13 4095) HT_ ?_
        refine pq_ 12 2 (M_ 13 8191) HT_ ?_
        refine done_ (done_of HT_.out (by kernel_rfl)) ?_
        try go_wp2
        go_ret
        exact ⟨rfl, HB.out⟩
       have c102b0 := beq_iff_eq.mpr c102
       have c102b1 := bne_eq_false_iff_eq.mpr c102
       have c102b2 : (t474.length == t452.length) = true := by first | simpa using c102 | (simp at c102 ⊢; omega)
       clear c102
       obtain rfl := Option.some.inj H
       have hnb103 := NB458_429.out
       have hnc103 := NB429_458.out
       obtain ⟨hcz104_0, hcz104_1, hcz104_2, hfz104_0, hfz104_1, hfz104_2⟩ := blkf3_ BK458.out
       try go_wp2_with (first | ((with_reducible refine gate_callee (f := 15) rfl ?_); refine goesL_ (some 111) rfl rfl Try.func15 (by kernel_rfl) rfl #[.agg #[.slice Ao62 t449.length co62, .slice Ao65 t452.length co65, .slice Ao66 t455.length co66]] rfl (by simp only [List.map_toArray, List.map_cons, List.map_nil]; try rfl) ?_; (with_reducible refine (impl_Stuck.calls k3 _ _ t449 _ _ t452 _ _ t455 false _ ?side1 ?side2 ?side3 ?side4 ?side5 ?side6 A89.out).mono ?_); (case side1 => exact (Kd.R_reads' HO_459000.out).2.2); (case side2 => exact (Kd.R_reads' HO_459000.out).2.1); (case side3 => exact (Kd.N_reads' HO_459001.out).2.2); (case side4 => exact (Kd.N_reads' HO_459001.out).2.1); (case side5 => exact (Kd.R_reads' HO_459002.out).2.2); (case side6 => exact (Kd.R_reads' HO_459002.out).2.1); rintro e w105 ⟨rfl, hb⟩; refine ⟨_, rfl, ?_⟩; replace HO_7 := K_ (Kd.R_below (by exact HO_7.out) hb); replace HO_77 := K_ (Kd.R_below (by exact HO_77.out) hb); replace HO_430000 := K_ (Kd.R_below (by exact HO_430000.out) hb); replace HO_430001 := K_ (Kd.N_below (by exact HO_430001.out) hb); replace HO_430002 := K_ (Kd.R_below (by exact HO_430002.out) hb); replace HO_459000 := K_ (Kd.R_below (by exact HO_459000.out) hb); replace HO_459001 := K_ (Kd.N_below (by exact HO_459001.out) hb); replace HO_459002 := K_ (Kd.R_below (by exact HO_459002.out) hb); replace BK429 := K_ (blk_below (g := gb429) (o := .cells #[u430000, u430001, u430002] 30 (0, 0)) BK429.out hb); replace BK458 := K_ (blk_below (g := gb458) (o := .cells #[.slice Ao62 t449.length co62, .slice Ao65 t452.length co65, .slice Ao66 t455.length co66] 30 (0, 0)) BK458.out hb); replace HB := K_ (below_step (HB.out) hb); clear hb))
       replace HO_7 := K_ (Kd.R_drew HO_7.out)
       replace HO_77 := K_ (Kd.R_drew HO_77.out)
       replace HO_430000 := K_ (Kd.R_drew HO_430000.out)
       replace HO_430001 := K_ (Kd.N_drew HO_430001.out)
       replace HO_430002 := K_ (Kd.R_drew HO_430002.out)
       replace HO_459000 := K_ (Kd.R_drew HO_459000.out)
       replace HO_459001 := K_ (Kd.N_drew HO_459001.out)
       replace HO_459002 := K_ (Kd.R_drew HO_459002.out)
       replace BK429 := K_ (blk_drew BK429.out)
       replace BK458 := K_ (blk_drew BK458.out)
       replace HB := K_ (below_drew1 HB.out)
       refine start_ (n := 13) (S := fun w' => w'.cell? ⟨gb458, 0, none⟩ = some (.slice Ao62 t449.length co62) ∧ w'.cell? ⟨gb458, 1, none⟩ = some (.slice Ao65 t452.length co65) ∧ w'.cell? ⟨gb458, 2, none⟩ = some (.slice Ao66 t455.length co66)) (ds := []) #[ff, ff, ff, ff, ff, ff, ff, ff, ff, ff, ff, ff, ff] (by kernel_rfl) rfl rfl ⟨(blk_cell BK458.out 0).trans rfl, (blk_cell BK458.out 1).trans rfl, (blk_cell BK458.out 2).trans rfl⟩ (fun hHeld => ?_); refine with_tabW laws_FnRing.tab32 laws_FnRing.bits32 (fun HT_ HW_ => ?_)
       generalize w105.drew = w106 at HO_7 HO_77 HO_430000 HO_430001 HO_430002 HO_459000 HO_459001 HO_459002 BK429 BK458 HB hHeld ⊢
       refine pq_ 3 123 (M_ 13 8) HT_ ?_
       refine tq_ 0 120 (M_ 13 9) HT_ HW_ hHeld ?_
       refine tq_ 4 124 (M_ 13 25) HT_ HW_ hHeld ?_
       refine pq_ 5 125 (M_ 13 57) HT_ ?_
       refine one_ (i := 1) (N := some 121) (M_ 13 59) rfl rfl (one_of HT_.out (by kernel_rfl)) (by decide) (fun K hK => ?_)
       refine goes_ Try.func20 (by kernel_rfl) rfl #[.agg #[.slice Ao62 t449.length co62, .slice Ao65 t452.length co65, .slice Ao66 t455.length co66]] (by rfl) rfl rfl (by simp only [List.map_toArray, List.map_cons, List.map_nil]; try rfl) ?_
       with_reducible refine (impl_Moves.calls k3 _ _ t449 _ _ t452 _ _ t455 t474 _ ?side1 ?side2 ?side3 ?side4 ?side5 ?side6 A101.out).mono ?_
       (case side1 => exact (Kd.R_reads' HO_459000.out).2.2)
       (case side2 => exact (Kd.R_reads' HO_459000.out).2.1)
       (case side3 => exact (Kd.N_reads' HO_459001.out).2.2)
       (case side4 => exact (Kd.N_reads' HO_459001.out).2.1)
       (case side5 => exact (Kd.R_reads' HO_459002.out).2.2)
       (case side6 => exact (Kd.R_reads' HO_459002.out).2.1)
       rintro e w107 ⟨v475, rfl, ho0, hb⟩
       refine ⟨_, rfl, ?_⟩
       have HO476 := K_ (Kd.R_lower (Kd.R_new' (Kd.R_new' (Kd.R_new' (Kd.R_new' (Kd.R_new' (Kd.R_new' ho0 (Kd.R_lt (by exact HO_7.out))) (Kd.R_lt (by exact HO_77.out))) (Kd.R_lt (by (with_reducible repeat (first | apply Kd.R_alloc | apply Kd.R_drewN | apply Kd.R_drew)); exact HO_430000.out))) (Kd.R_lt (by (with_reducible repeat (first | apply Kd.R_alloc | apply Kd.R_drewN | apply Kd.R_drew)); exact HO_430002.out))) (Kd.R_lt (by exact HO_459000.out))) (Kd.R_lt (by exact HO_459002.out))) (below_size (HB.out)))
       replace HO_7 := K_ (Kd.R_elder' (by (with_reducible repeat (first | apply Kd.R_alloc | apply Kd.R_drewN | apply Kd.R_drew)); exact HO_7.out) (Kd.R_base ho0) hb)
       replace HO_77 := K_ (Kd.R_elder' (by (with_reducible repeat (first | apply Kd.R_alloc | apply Kd.R_drewN | apply Kd.R_drew)); exact HO_77.out) (Kd.R_base ho0) hb)
       replace HO_430000 := K_ (Kd.R_elder' (by exact HO_430000.out) (Kd.R_base ho0) hb)
       replace HO_430001 := K_ (Kd.N_elder' (by exact HO_430001.out) (Kd.R_base ho0) hb)
       replace HO_430002 := K_ (Kd.R_elder' (by exact HO_430002.out) (Kd.R_base ho0) hb)
       replace HO_459000 := K_ (Kd.R_elder' (by exact HO_459000.out) (Kd.R_base ho0) hb)
       replace HO_459001 := K_ (Kd.N_elder' (by exact HO_459001.out) (Kd.R_base ho0) hb)
       replace HO_459002 := K_ (Kd.R_elder' (by (with_reducible repeat (first | apply Kd.R_alloc | apply Kd.R_drewN | apply Kd.R_drew)); exact HO_459002.out) (Kd.R_base ho0) hb)
       replace BK429 := K_ (blk_below (g := gb429) (o := .cells #[u430000, u430001, u430002] 30 (0, 0)) BK429.out hb)
       replace BK458 := K_ (blk_below (g := gb458) (o := .cells #[.slice Ao62 t449.length co62, .slice Ao65 t452.length co65, .slice Ao66 t455.length co66] 30 (0, 0)) BK458.out hb)
       replace HB := K_ (below_step (HB.out) hb)
       clear hb
       (try clear hb2)
       (try clear hk)
       (try clear hi)
       clear ho0
       obtain ⟨Ao108, co108, eo108⟩ := Kd.R_slice HO476.out
       (first | subst eo108 | (injection eo108 with f1_ f2_ f3_; have f4_ := f1_.symm; have f5_ := f3_.symm; clear f1_ f2_ f3_; subst f4_; subst f5_))
       refine hK.out _ _ ⟨(blk_cell BK458.out 0).trans rfl, (blk_cell BK458.out 1).trans rfl, (blk_cell BK458.out 2).trans rfl⟩ (fun hHeld => ?_)
       clear hK K
       refine norm_ (a' := ?_) ?_ ?_
       rotate_left
       ·show Act.put _ (some 121) _ = _
        simp only [P_, i64_w, i32_w]
        rfl
       refine pq_ 2 122 (M_ 13 63) HT_ ?_
       refine pq_ 6 126 (M_ 13 127) HT_ ?_
       refine pq_ 7 127 (M_ 13 255) HT_ ?_
       refine pq_ 8 128 (M_ 13 511) HT_ ?_
       refine pq_ 9 129 (M_ 13 1023) HT_ ?_
       refine pq_ 10 130 (M_ 13 2047) HT_ ?_
       refine pq_ 11 131 (M_ 13 4095) HT_ ?_
       refine pq_ 12 2 (M_ 13 8191) HT_ ?_
       refine done_ (done_of HT_.out (by kernel_rfl)) ?_
       try go_wp2
       go_ret
       exact ⟨rfl, HB.out⟩
/-- THE ONE PURE STATEMENT of laws_FnRing: yours. -/
def laws_FnRing.Pure : Prop := ∀ (l0 : List Int), l0.length ≤ maxLen → l0.length * 1 ≤ 140737488351232 → (∀ x ∈ l0, (Lit.int .u8 x).wf = true) → ∃ k, laws_FnRing.f k l0 = some true
theorem laws_FnRing.walk (P : laws_FnRing.Pure) (a0 : Option Addr) (len0 cap0 : Nat) (z0 : List Int) (w : World) (w0 : (a0 = none ∧ len0 = 0 ∧ cap0 = 0 ∧ z0 = []) ∨ ∃ x, a0 = some x ∧ len0 ≤ cap0 ∧ cap0 ≤ maxLen ∧ z0.length = cap0 ∧ (∀ i, i < z0.length → w.cell? (x.add i) = some (.int .u8 (z0.getD i 0))) ∧ ∀ n ∈ z0, (Lit.int .u8 n).wf = true) (y0 : len0 * 1 ≤ 140737488351232) :
  Calls Try.prog 4 #[.slice a0 len0 cap0] w fun e w' => e = .returned (.bool true) ∧ Below w.heap.size w w' := by
 obtain ⟨l0, rfl, hr0, hm0, hw0, hc0⟩ := ReadsInt.ofRowC w0
 obtain ⟨k, h⟩ := P l0 hm0 y0 hw0
 refine (laws_FnRing.calls k _ _ l0 true w (Kd.C_of_reads (d := (0 : Int)) (h1 := fun _ => rfl) hr0) hc0 ⟨rfl⟩ h).mono ?_
 rintro e w' ⟨rfl, hd⟩
 exact ⟨rfl, hd⟩


end Go.Proofs.Ytckkppehfpjbpaa.Q
