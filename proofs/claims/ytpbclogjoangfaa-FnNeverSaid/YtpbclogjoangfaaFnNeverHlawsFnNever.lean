-- Written by programs of this session (wip/drv.py, wip/hx.py) over the kit's print; not trusted: Lean checks it.
import Derived.Test.YtpbclogjoangfaaFnNeverQ0
import Derived.Test.YtpbclogjoangfaaFnNeverQ1
import Derived.Test.YtpbclogjoangfaaFnNeverQ6
import Derived.Test.YtpbclogjoangfaaFnNeverQ7
import Derived.Test.YtpbclogjoangfaaFnNeverQ8
import Derived.Test.YtpbclogjoangfaaFnNeverQ5
import Derived.Test.YtpbclogjoangfaaFnNeverSr8
import Derived.Test.YtpbclogjoangfaaFnNeverHka
import Derived.Test.YtpbclogjoangfaaFnNeverSp6
import Derived.Test.YtpbclogjoangfaaFnNeverHkb
import Derived.Test.YtpbclogjoangfaaFnNeverAl1
import Derived.Test.YtpbclogjoangfaaFnNeverHkc
import Derived.Test.YtpbclogjoangfaaFnNeverAl2
import Derived.Test.YtpbclogjoangfaaFnNeverHkd
import Derived.Test.YtpbclogjoangfaaFnNeverSt0
import Derived.Test.YtpbclogjoangfaaFnNeverSt1
import Derived.Test.YtpbclogjoangfaaFnNeverGs
namespace Go.Proofs.Ytpbclogjoangfaa.Q
open Go.RowKit Go.Proofs.YtpbclogjoangfaaW.PrintWords Go.Proofs.YtpbclogjoangfaaW.PrintLast Go.Proofs.YtpbclogjoangfaaW.PrintMore
attribute [local go_sem] max2_int min2_int max_two min_two max_three min_three max_four min_four   -- for this text's walks alone
set_option linter.unusedVariables false
set_option linter.unusedSimpArgs false

open Go.Proofs.Ytpbclogjoangfaa.Sr Go.Proofs.Ytpbclogjoangfaa.Sp Go.Proofs.Ytpbclogjoangfaa.Al Go.Proofs.Ytpbclogjoangfaa.St Go.Proofs.Ytpbclogjoangfaa.Gs
/-! ### laws_FnNever: function 9 -/
mutual
def laws_FnNever.j0 : Nat → List Int → List Int → Bool → Option (Bool)
 | 0, _, _, _ => none
 | k + 1, x0, x1, x15 => if x15 = true then (some true) else ((spec_States.f k x0).bind fun bt433 => ((impl_Safe.f k bt433.1 bt433.2.1 bt433.2.2).bind fun t443 => ((spec_Safe.f k bt433.1 bt433.2.1 bt433.2.2).bind fun t444 => (if (t443 != t444) = true then (some false) else ((spec_Safe.f k bt433.1 bt433.2.1 bt433.2.2).bind fun t445 => (if t445 = true then (laws_FnNever.l0 k x1 0 bt433.1 bt433.2.1 bt433.2.2) else ((spec_Asks.f k bt433.1 bt433.2.1 bt433.2.2 x1).bind fun t446 => ((impl_Guard.f k bt433.1 bt433.2.1 bt433.2.2 t446).bind fun t449 => (if (t449.length : Int) = 0 then ((impl_Allowed.f k bt433.1 bt433.2.1 bt433.2.2).bind fun t452 => (some ((t452.length : Int) == 0))) else (some false))))))))))
def laws_FnNever.l0 : Nat → List Int → Int → List Int → List (S35) → List Int → Option (Bool)
 | 0, _, _, _, _, _ => none
 | k + 1, x1, x6, x443000, x443001, x443002 => if x6 < 60 then (if (x443001.length : Int) = 0 then ((impl_Allowed.f k x443000 x443001 x443002).bind fun t455 => (some ((t455.length : Int) == 0))) else ((impl_Allowed.f k x443000 x443001 x443002).bind fun t458 => ((spec_Allowed.f k x443000 x443001 x443002).bind fun t461 => ((laws_wInts.f k t458 t461).bind fun t464 => (if t464 = true then (if (t458.length : Int) = 0 then (laws_FnNever.j2 k x1 x6 t458 true x443000 x443001 x443002) else ((impl_Stuck.f k x443000 x443001 x443002).bind fun t465 => (laws_FnNever.j2 k x1 x6 t458 t465 x443000 x443001 x443002))) else (laws_FnNever.j2 k x1 x6 t458 true x443000 x443001 x443002)))))) else (some false)
def laws_FnNever.j2 : Nat → List Int → Int → List Int → Bool → List Int → List (S35) → List Int → Option (Bool)
 | 0, _, _, _, _, _, _, _ => none
 | k + 1, x1, x6, x7, x66, x443000, x443001, x443002 => if x66 = true then (some false) else ((laws_wByte.f x1 x6).bind fun t466 => (if (x7.length : Int) = 0 then (none) else (if 0 ≤ (Int.tmod t466 (x7.length : Int)) then (if (Int.tmod t466 (x7.length : Int)) < (x7.length : Int) then ((impl_Step.f k x443000 x443001 x443002 (rd x7 (Int.tmod t466 (x7.length : Int)))).bind fun bt468 => ((impl_StateOk.f k bt468.1 bt468.2.1 bt468.2.2).bind fun t477 => (if t477 = 0 then ((impl_Safe.f k bt468.1 bt468.2.1 bt468.2.2).bind fun t478 => (if t478 = true then (laws_FnNever.l0 k x1 (wrap64 (x6 + 1)) bt468.1 bt468.2.1 bt468.2.2) else (some false))) else (some false)))) else (none)) else (none))))
end
def laws_FnNever.f (k : Nat) (l0 : List Int) (l1 : List Int) : Option (Bool) := if (l0.length : Int) > 1048576 then (laws_FnNever.j0 k l0 l1 true) else (laws_FnNever.j0 k l0 l1 (decide ((l1.length : Int) > 1048576)))
def laws_FnNever.T7 : Bool × List (List Nat × List Nat) := (true, [([], []), ([], []), ([], []), ([1, 2], [1, 2]), ([0, 3, 3], [0, 3]), ([4], [4]), ([5], [5]), ([6, 4], [6]), ([7], [7]), ([8, 7, 7], [7, 8]), ([9, 7], [7, 9]), ([10, 7], [7, 10]), ([7, 11], [7, 11]), ([12, 9, 0, 1, 2, 3, 4, 5, 6, 7, 8, 9, 10, 11, 12], [12])])
def laws_FnNever.B7 : List Nat := [0, 0, 0, 6, 15, 31, 63, 127, 255, 511, 1023, 2047, 4095, 8191]
theorem laws_FnNever.tab7 : rtab .any (opsOf Try.f9 7) = laws_FnNever.T7 := by kernel_rfl
theorem laws_FnNever.bits7 : waitsOk laws_FnNever.T7.2 laws_FnNever.B7 = true := by kernel_rfl
def laws_FnNever.T16 : Bool × List (List Nat × List Nat) := (true, [([], []), ([], []), ([], []), ([], []), ([2, 3], [2, 3]), ([], []), ([5], [5]), ([4, 6], [4, 6]), ([1, 7], [1, 7]), ([8], [8]), ([0, 9, 4], [0, 9]), ([10, 10, 0, 1, 2, 3, 4, 5, 6, 7, 8, 9, 10], [10])])
def laws_FnNever.B16 : List Nat := [0, 0, 0, 0, 12, 0, 32, 124, 254, 510, 1023, 2047]
theorem laws_FnNever.tab16 : rtab .any (opsOf Try.f9 16) = laws_FnNever.T16 := by kernel_rfl
theorem laws_FnNever.bits16 : waitsOk laws_FnNever.T16.2 laws_FnNever.B16 = true := by kernel_rfl
theorem laws_FnNever.j2_dead : ∀ k y0 y1 y2 y4 y5 y6, laws_FnNever.j2 k y0 y1 y2 true y4 y5 y6 ≠ some true := by intro k; cases k <;> intros <;> simp [laws_FnNever.j2]
set_option maxHeartbeats 8000000 in
set_option maxRecDepth 100000 in
theorem laws_FnNever.calls (k : Nat) (A0 : Option Addr) (c0 : Nat) (l0 : List Int) (A1 : Option Addr) (c1 : Nat) (l1 : List Int) (r : Bool) (w : World) (hr0 : Kd.C (Kd.int .u8) w A0 l0.length l0) (hc0 : l0.length ≤ c0) (hr1 : Kd.C (Kd.int .u8) w A1 l1.length l1) (hc1 : l1.length ≤ c1) (hT_ : Aside0 (r = true)) (h : laws_FnNever.f k l0 l1 = some r) :
  Calls Try.prog 9 #[.slice A0 l0.length c0, .slice A1 l1.length c1] w fun e w' => e = .returned (.bool r) ∧ Below w.heap.size w w' := by
 have hu26 := Try.underlying26
 have HR0 := K_ hr0
 have HC0 := K_ hc0
 clear hr0 hc0
 have HR1 := K_ hr1
 have HC1 := K_ hc1
 clear hr1 hc1
 have HB := K_ (Below.refl w.heap.size w)
 unfold laws_FnNever.f at h
 have H := h
 clear h
 have HC3 := K_ H
 clear H
 go_enter Try.func9, Try.ntmps9
 go_upto_region 1 with (fail)
 go_cut [15] (fun v15 wc => ∃ (kq : Nat) (x15_2 : Bool), v15 = .bool x15_2 ∧ Aside0 (laws_FnNever.j0 kq l0 l1 x15_2 = some r) ∧ Aside0 (kq ≤ k) ∧ Aside0 (Below w.heap.size w wc))
 case first =>
  have H := HC3.out
  clear HC3
  replace H := ps_ H
  rcases H with ⟨c4, H⟩ | ⟨c4, H⟩
  case inr =>
   have c4b0 := decide_eq_false c4
   have c4b1 : decide (1048576 < l0.length) = false := decide_eq_false (by omega)
   clear c4
   (first | rw [c4b0] | (simp only [i64_w, i32_w]; rw [c4b0]) | skip)
   have H' := K_ H
   clear H
   go_wp2
   go_meet
   case rel => exact ⟨_, (decide ((l1.length : Int) > 1048576)), rfl, H', ⟨by first | omega | exact Nat.le_refl _⟩, ⟨HB.out⟩⟩
  have c4b0 := decide_eq_true c4
  have c4b1 : decide (1048576 < l0.length) = true := decide_eq_true (by omega)
  clear c4
  (first | rw [c4b0] | (simp only [i64_w, i32_w]; rw [c4b0]) | skip)
  have H' := K_ H
  clear H
  go_wp2
  go_meet
  case rel => exact ⟨_, (true), rfl, H', ⟨by first | omega | exact Nat.le_refl _⟩, ⟨HB.out⟩⟩
 case rest =>
  clear HC3
  skip
  obtain ⟨kq, x15_2, rfl, HA, HJ2, HB⟩ := hcut
  cases kq with
  | zero => exact absurd HA.out (by simp [laws_FnNever.j0])
  | succ kj2 =>
   have H := HA.out
   clear HA
   simp only [laws_FnNever.j0] at H
   by_cases c5 : x15_2 = true
   case pos =>
    subst c5
    rw [if_pos rfl] at H
    obtain rfl := Option.some.inj H
    go_wp2
    go_ret
    exact ⟨rfl, HB.out⟩
   replace c5 := Bool.eq_false_iff.mpr c5
   subst c5
   rw [if_neg (show ¬ (false = true) by decide)] at H
   replace H := Option.bind_eq_some_iff.mp H
   obtain ⟨⟨t433, t436, t439⟩, A60, H⟩ := H
   try dsimp only at H
   have A6 := K_ A60
   clear A60
   replace H := Option.bind_eq_some_iff.mp H
   obtain ⟨t443, A70, H⟩ := H
   try dsimp only at H
   have A7 := K_ A70
   clear A70
   replace H := Option.bind_eq_some_iff.mp H
   obtain ⟨t444, A80, H⟩ := H
   try dsimp only at H
   have A8 := K_ A80
   clear A80
   replace H := ps_ H
   rcases H with ⟨c9, H⟩ | ⟨c9, H⟩
   case inl =>
    exact absurd (H.trans (congrArg some hT_.out)) (by simp)
   have c9b0 : (t443 != t444) = false := by simpa using c9
   (try (have c9b1 : decide (t443 = t444) = true := by simpa using c9))
   (try (have c9b2 : (t443 == t444) = true := by simpa using c9))
   clear c9
   replace H := Option.bind_eq_some_iff.mp H
   obtain ⟨t445, A200, H⟩ := H
   try dsimp only at H
   have A20 := K_ A200
   clear A200
   by_cases c21 : t445 = true
   case neg =>
    replace c21 := Bool.eq_false_iff.mpr c21
    subst c21
    rw [if_neg (show ¬ (false = true) by decide)] at H
    replace H := Option.bind_eq_some_iff.mp H
    obtain ⟨t446, A1170, H⟩ := H
    try dsimp only at H
    have A117 := K_ A1170
    clear A1170
    replace H := Option.bind_eq_some_iff.mp H
    obtain ⟨t449, A1180, H⟩ := H
    try dsimp only at H
    have A118 := K_ A1180
    clear A1180
    replace H := ps_ H
    rcases H with ⟨c119, H⟩ | ⟨c119, H⟩
    case inr =>
     exact absurd (H.trans (congrArg some hT_.out)) (by simp)
    have c119b0 := beq_iff_eq.mpr c119
    have c119b1 := bne_eq_false_iff_eq.mpr c119
    clear c119
    replace H := Option.bind_eq_some_iff.mp H
    obtain ⟨t452, A1200, H⟩ := H
    try dsimp only at H
    have A120 := K_ A1200
    clear A1200
    obtain rfl := Option.some.inj H
    try go_wp2_with (first | ((with_reducible refine gate_callee (f := 14) rfl ?_); refine goesL_ (some 17) rfl rfl Try.func14 (by kernel_rfl) rfl #[.slice A0 l0.length c0] rfl (by simp only [List.map_toArray, List.map_cons, List.map_nil]; try rfl) ?_; (with_reducible refine (spec_States.calls kj2 _ _ l0 t433 t436 t439 _ ?side1 ?side2 A6.out).mono ?_); (case side1 => exact (Kd.C_below HR0.out HB.out)); (case side2 => exact HC0.out); rintro e w121 ⟨v434, v437, v440, rfl, ho0, ho1, ho2, hb⟩; refine ⟨_, rfl, ?_⟩; have HO435 := K_ (Kd.R_lower ho0 (below_size (HB.out))); have HO438 := K_ (Kd.N_lower (Kd.N_mono (ok' := fun k_ => some k_ ≠ (v434 : Value).ownBlock ∧ some k_ ≠ (v440 : Value).ownBlock) (Kd.S_N (Kd.S_bound ho1)) (fun k_ hk_ => ⟨hk_.1.1, hk_.1.2⟩)) (below_size (HB.out))); have HO441 := K_ (Kd.R_lower ho2 (below_size (HB.out))); replace HB := K_ (below_step (HB.out) hb); clear hb ho0 ho1 ho2) | ((with_reducible refine gate_dst (N := 5) rfl ?_); (try (refine gate_guard (by rfl) ?_; dsimp only)); refine box_event ?hg (N := 5) ?hd (cs := #[.slice none 0 0, .slice none 0 0, .slice none 0 0]) (t := 26) ?hr ?_; (case hd => rfl); (case hg => rfl); (case hr => go_simp; try rfl); intro gb442 hg w122 hbox hb; have BK442 := K_ (hbox); have GW442 := K_ ((by rw [hg]; exact (below_size (HB.out)) : w.heap.size ≤ gb442)); have GE442 := K_ ((by rw [hg]; exact (below_size (HB.out)) : w.heap.size ≤ gb442)); replace HO435 := K_ (Kd.R_below (by exact HO435.out) hb); replace HO438 := K_ (Kd.N_below (Kd.N_elderB (by exact HO438.out) gb442 (Nat.le_of_eq hg.symm)) hb); replace HO441 := K_ (Kd.R_below (by exact HO441.out) hb); replace HB := K_ (below_step (HB.out) hb); clear hb hbox hg; obtain ⟨Ao123, co123, eo123⟩ := Kd.R_slice HO435.out; subst eo123; obtain ⟨hcz124_0, hcz124_1, hcz124_2, hfz124_0, hfz124_1, hfz124_2⟩ := blkf3_ BK442.out; obtain ⟨Ao125, co125, eo125⟩ := Kd.N_slice HO438.out; subst eo125; obtain ⟨Ao126, co126, eo126⟩ := Kd.R_slice HO441.out; subst eo126))
    have n0_ : Aside0 (Kd.R (Kd.int .i64) 3 (((w122.setCell ⟨gb442, 0, none⟩ (.slice Ao123 t433.length co123)).setCell ⟨gb442, 1, none⟩ (.slice Ao125 t436.length co125)).setCell ⟨gb442, 2, none⟩ (.slice Ao126 t439.length co126)) w.heap.size (fun k_ => some k_ ≠ (.slice Ao126 t439.length co126 : Value).ownBlock) (.slice Ao123 t433.length co123) t433) := ⟨by exact Kd.R_mono (Kd.R_far (p := ⟨gb442, 2, none⟩) (Kd.R_far (p := ⟨gb442, 1, none⟩) (Kd.R_far (p := ⟨gb442, 0, none⟩) (Kd.R_types HO435.out BK442.out (by decide)) (fun _ hk => hk.2) (.slice Ao123 t433.length co123)) (fun _ hk => hk.2) (.slice Ao125 t436.length co125)) (fun _ hk => hk.2) (.slice Ao126 t439.length co126)) (fun _ hk => hk.1)⟩
    have n1_ : Aside0 (Kd.N k35 35 (((w122.setCell ⟨gb442, 0, none⟩ (.slice Ao123 t433.length co123)).setCell ⟨gb442, 1, none⟩ (.slice Ao125 t436.length co125)).setCell ⟨gb442, 2, none⟩ (.slice Ao126 t439.length co126)) w.heap.size (fun k_ => some k_ ≠ (.slice Ao123 t433.length co123 : Value).ownBlock ∧ some k_ ≠ (.slice Ao126 t439.length co126 : Value).ownBlock ∧ k_ ≠ gb442) (.slice Ao125 t436.length co125) t436) := ⟨by exact Kd.N_mono (Kd.N_far (p := ⟨gb442, 2, none⟩) (Kd.N_far (p := ⟨gb442, 1, none⟩) (Kd.N_far (p := ⟨gb442, 0, none⟩) (Kd.N_mono HO438.out (fun k_ hk => (⟨hk, hk.2⟩ : _ ∧ k_ ≠ gb442))) (fun _ hk => hk.2) (.slice Ao123 t433.length co123)) (fun _ hk => hk.2) (.slice Ao125 t436.length co125)) (fun _ hk => hk.2) (.slice Ao126 t439.length co126)) (fun _ hk => ⟨hk.1.1.1, ⟨hk.1.1.2, hk.1.2⟩⟩)⟩
    have n2_ : Aside0 (Kd.R (Kd.int .i64) 3 (((w122.setCell ⟨gb442, 0, none⟩ (.slice Ao123 t433.length co123)).setCell ⟨gb442, 1, none⟩ (.slice Ao125 t436.length co125)).setCell ⟨gb442, 2, none⟩ (.slice Ao126 t439.length co126)) w.heap.size (fun k_ => some k_ ≠ (.slice Ao123 t433.length co123 : Value).ownBlock) (.slice Ao126 t439.length co126) t439) := ⟨by exact Kd.R_mono (Kd.R_far (p := ⟨gb442, 2, none⟩) (Kd.R_far (p := ⟨gb442, 1, none⟩) (Kd.R_far (p := ⟨gb442, 0, none⟩) (Kd.R_types HO441.out BK442.out (by decide)) (fun _ hk => hk.2) (.slice Ao123 t433.length co123)) (fun _ hk => hk.2) (.slice Ao125 t436.length co125)) (fun _ hk => hk.2) (.slice Ao126 t439.length co126)) (fun _ hk => hk.1)⟩
    have n3_ : Aside0 ((((w122.setCell ⟨gb442, 0, none⟩ (.slice Ao123 t433.length co123)).setCell ⟨gb442, 1, none⟩ (.slice Ao125 t436.length co125)).setCell ⟨gb442, 2, none⟩ (.slice Ao126 t439.length co126)).heap[gb442]? = some (.cells #[.slice Ao123 t433.length co123, .slice Ao125 t436.length co125, .slice Ao126 t439.length co126] 26 (0, 0))) := ⟨by (with_reducible repeat (first | refine blk_drewN ?_ _ | refine blk_drew ?_ | refine blk_alloc ?_ _)); refine blk_put (cs := #[.slice Ao123 t433.length co123, .slice Ao125 t436.length co125, .slice none 0 0]) ?_ 2 _ rfl; (with_reducible repeat (first | refine blk_drewN ?_ _ | refine blk_drew ?_ | refine blk_alloc ?_ _)); refine blk_put (cs := #[.slice Ao123 t433.length co123, .slice none 0 0, .slice none 0 0]) ?_ 1 _ rfl; (with_reducible repeat (first | refine blk_drewN ?_ _ | refine blk_drew ?_ | refine blk_alloc ?_ _)); refine blk_put (cs := #[.slice none 0 0, .slice none 0 0, .slice none 0 0]) ?_ 0 _ rfl; (with_reducible repeat (first | refine blk_drewN ?_ _ | refine blk_drew ?_ | refine blk_alloc ?_ _)); exact BK442.out⟩
    have n4_ : Aside0 (Below w.heap.size w (((w122.setCell ⟨gb442, 0, none⟩ (.slice Ao123 t433.length co123)).setCell ⟨gb442, 1, none⟩ (.slice Ao125 t436.length co125)).setCell ⟨gb442, 2, none⟩ (.slice Ao126 t439.length co126))) := ⟨by repeat (first | (with_reducible first | exact HB.out | apply below_alloc | apply pw_below_drewN | apply below_drew1 | refine below_set ?_ GE442.out) | exact HB.out)⟩
    clear HO435
    clear HO438
    (try clear HO441)
    clear BK442
    (try clear HB)
    generalize (((w122.setCell ⟨gb442, 0, none⟩ (.slice Ao123 t433.length co123)).setCell ⟨gb442, 1, none⟩ (.slice Ao125 t436.length co125)).setCell ⟨gb442, 2, none⟩ (.slice Ao126 t439.length co126)) = w127 at n0_ n1_ n2_ n3_ n4_ ⊢
    have HO435 := n0_
    have HO438 := n1_
    have HO441 := n2_
    have BK442 := n3_
    have HB := n4_
    clear n0_ n1_ n2_ n3_ n4_
    have n0_ := K_ (Kd.R_drew HO435.out)
    have n1_ := K_ (Kd.N_drew HO438.out)
    have n2_ := K_ (Kd.R_drew HO441.out)
    have n3_ := K_ (blk_drew BK442.out)
    have n4_ := K_ (below_drew1 HB.out)
    clear HO435
    clear HO438
    clear HO441
    clear BK442
    clear HB
    have HO435 := n0_
    have HO438 := n1_
    have HO441 := n2_
    have BK442 := n3_
    have HB := n4_
    clear n0_ n1_ n2_ n3_ n4_
    refine start_ (n := 5) (S := fun w' => w'.cell? ⟨gb442, 0, none⟩ = some (.slice Ao123 t433.length co123) ∧ w'.cell? ⟨gb442, 1, none⟩ = some (.slice Ao125 t436.length co125) ∧ w'.cell? ⟨gb442, 2, none⟩ = some (.slice Ao126 t439.length co126)) (ds := []) #[ff, ff, ff, ff, ff] (by kernel_rfl) rfl rfl ⟨(blk_cell BK442.out 0).trans rfl, (blk_cell BK442.out 1).trans rfl, (blk_cell BK442.out 2).trans rfl⟩ (fun hHeld => ?_)
    generalize w127.drew = w128 at HO435 HO438 HO441 BK442 HB hHeld ⊢
    refine take_ (i := 0) (N := some 18) (v := ?_) (a' := ?_) #[tt, ff, ff, ff, ff] rfl rfl (by kernel_rfl) (fun _ _ _ h => h) (Or.inl ⟨by rfl, ?_⟩) hHeld ?_ ?_
    rotate_left
    ·rintro w' ⟨s0, s1, s2⟩
     go_simp
     with_reducible rfl
    rotate_left
    ·simp only [P_, i64_w, i32_w]
     rfl
    refine take_ (i := 2) (N := some 20) (v := ?_) (a' := ?_) #[tt, ff, tt, ff, ff] rfl rfl (by kernel_rfl) (fun _ _ _ h => h) (Or.inl ⟨by rfl, ?_⟩) hHeld ?_ ?_
    rotate_left
    ·rintro w' ⟨s0, s1, s2⟩
     go_simp
     with_reducible rfl
    rotate_left
    ·simp only [P_, i64_w, i32_w]
     rfl
    refine one_ (i := 1) (N := some 19) #[tt, tt, tt, ff, ff] rfl rfl (by kernel_rfl) (by decide) (fun K hK => ?_)
    refine goes_ Try.func30 (by kernel_rfl) rfl #[.agg #[.slice Ao123 t433.length co123, .slice Ao125 t436.length co125, .slice Ao126 t439.length co126]] (by rfl) rfl rfl (by simp only [List.map_toArray, List.map_cons, List.map_nil]; try rfl) ?_
    with_reducible refine (impl_Safe.calls kj2 _ _ t433 _ _ t436 _ _ t439 t443 _ ?side1 ?side2 ?side3 ?side4 ?side5 ?side6 A7.out).mono ?_
    (case side1 => exact (Kd.R_reads' HO435.out).2.2)
    (case side2 => exact (Kd.R_reads' HO435.out).2.1)
    (case side3 => exact (Kd.N_reads' HO438.out).2.2)
    (case side4 => exact (Kd.N_reads' HO438.out).2.1)
    (case side5 => exact (Kd.R_reads' HO441.out).2.2)
    (case side6 => exact (Kd.R_reads' HO441.out).2.1)
    rintro e w129 ⟨rfl, hb⟩
    refine ⟨_, rfl, ?_⟩
    have n0_ := K_ (Kd.R_below (by exact HO435.out) hb)
    have n1_ := K_ (Kd.N_below (by exact HO438.out) hb)
    have n2_ := K_ (Kd.R_below (by exact HO441.out) hb)
    have n3_ := K_ (blk_below (g := gb442) (o := .cells #[.slice Ao123 t433.length co123, .slice Ao125 t436.length co125, .slice Ao126 t439.length co126] 26 (0, 0)) BK442.out hb)
    have n4_ := K_ (below_step (HB.out) hb)
    clear HO435
    clear HO438
    clear HO441
    clear BK442
    clear HB
    have HO435 := n0_
    have HO438 := n1_
    have HO441 := n2_
    have BK442 := n3_
    have HB := n4_
    clear n0_ n1_ n2_ n3_ n4_
    (try clear hb)
    (try clear hb2)
    (try clear hk)
    (try clear hi)
    refine hK.out _ _ ⟨(blk_cell BK442.out 0).trans rfl, (blk_cell BK442.out 1).trans rfl, (blk_cell BK442.out 2).trans rfl⟩ (fun hHeld => ?_)
    clear hK K
    refine norm_ (a' := ?_) ?_ ?_
    rotate_left
    ·show Act.put _ (some 19) _ = _
     simp only [P_, i64_w, i32_w]
     rfl
    refine one_ (i := 3) (N := some 21) #[tt, tt, tt, tt, ff] rfl rfl (by kernel_rfl) (by decide) (fun K hK => ?_)
    refine goes_ Try.func26 (by kernel_rfl) rfl #[.agg #[.slice Ao123 t433.length co123, .slice Ao125 t436.length co125, .slice Ao126 t439.length co126]] (by rfl) rfl rfl (by simp only [List.map_toArray, List.map_cons, List.map_nil]; try rfl) ?_
    with_reducible refine (spec_Safe.calls kj2 _ _ t433 _ _ t436 _ _ t439 t444 _ ?side1 ?side2 ?side3 ?side4 ?side5 ?side6 A8.out).mono ?_
    (case side1 => exact (Kd.R_reads' HO435.out).2.2)
    (case side2 => exact (Kd.R_reads' HO435.out).2.1)
    (case side3 => exact (Kd.N_reads' HO438.out).2.2)
    (case side4 => exact (Kd.N_reads' HO438.out).2.1)
    (case side5 => exact (Kd.R_reads' HO441.out).2.2)
    (case side6 => exact (Kd.R_reads' HO441.out).2.1)
    rintro e w130 ⟨rfl, hb⟩
    refine ⟨_, rfl, ?_⟩
    have n0_ := K_ (Kd.R_below (by exact HO435.out) hb)
    have n1_ := K_ (Kd.N_below (by exact HO438.out) hb)
    have n2_ := K_ (Kd.R_below (by exact HO441.out) hb)
    have n3_ := K_ (blk_below (g := gb442) (o := .cells #[.slice Ao123 t433.length co123, .slice Ao125 t436.length co125, .slice Ao126 t439.length co126] 26 (0, 0)) BK442.out hb)
    have n4_ := K_ (below_step (HB.out) hb)
    clear HO435
    clear HO438
    clear HO441
    clear BK442
    clear HB
    have HO435 := n0_
    have HO438 := n1_
    have HO441 := n2_
    have BK442 := n3_
    have HB := n4_
    clear n0_ n1_ n2_ n3_ n4_
    (try clear hb)
    (try clear hb2)
    (try clear hk)
    (try clear hi)
    refine hK.out _ _ ⟨(blk_cell BK442.out 0).trans rfl, (blk_cell BK442.out 1).trans rfl, (blk_cell BK442.out 2).trans rfl⟩ (fun hHeld => ?_)
    clear hK K
    refine norm_ (a' := ?_) ?_ ?_
    rotate_left
    ·show Act.put _ (some 21) _ = _
     simp only [P_, i64_w, i32_w]
     rfl
    refine pure_ (i := 4) (N := some 22) (v := ?_) (a' := ?_) #[tt, tt, tt, tt, tt] rfl rfl (by kernel_rfl) (fun _ _ _ h => h) (Or.inl ⟨by rfl, ?_⟩) ?_ ?_
    rotate_left
    ·intro w'
     go_simp
     with_reducible rfl
    rotate_left
    ·simp only [P_, i64_w, i32_w]
     rfl
    refine done_ (by kernel_rfl) ?_
    obtain ⟨hcz131_0, hcz131_1, hcz131_2, hfz131_0, hfz131_1, hfz131_2⟩ := blkf3_ BK442.out
    try go_wp2_with (first | ((with_reducible refine gate_callee (f := 26) rfl ?_); refine goesL_ (some 24) rfl rfl Try.func26 (by kernel_rfl) rfl #[.agg #[.slice Ao123 t433.length co123, .slice Ao125 t436.length co125, .slice Ao126 t439.length co126]] rfl (by simp only [List.map_toArray, List.map_cons, List.map_nil]; try rfl) ?_; (with_reducible refine (spec_Safe.calls kj2 _ _ t433 _ _ t436 _ _ t439 false _ ?side1 ?side2 ?side3 ?side4 ?side5 ?side6 A20.out).mono ?_); (case side1 => exact (Kd.R_reads' HO435.out).2.2); (case side2 => exact (Kd.R_reads' HO435.out).2.1); (case side3 => exact (Kd.N_reads' HO438.out).2.2); (case side4 => exact (Kd.N_reads' HO438.out).2.1); (case side5 => exact (Kd.R_reads' HO441.out).2.2); (case side6 => exact (Kd.R_reads' HO441.out).2.1); rintro e w132 ⟨rfl, hb⟩; refine ⟨_, rfl, ?_⟩; replace HO435 := K_ (Kd.R_below (by exact HO435.out) hb); replace HO438 := K_ (Kd.N_below (by exact HO438.out) hb); replace HO441 := K_ (Kd.R_below (by exact HO441.out) hb); replace BK442 := K_ (blk_below (g := gb442) (o := .cells #[.slice Ao123 t433.length co123, .slice Ao125 t436.length co125, .slice Ao126 t439.length co126] 26 (0, 0)) BK442.out hb); replace HB := K_ (below_step (HB.out) hb); (try clear hb); (try clear hb2); (try clear hk); (try clear hi)))
    have n0_ := K_ (Kd.R_drew HO435.out)
    have n1_ := K_ (Kd.N_drew HO438.out)
    have n2_ := K_ (Kd.R_drew HO441.out)
    have n3_ := K_ (blk_drew BK442.out)
    have n4_ := K_ (below_drew1 HB.out)
    clear HO435
    clear HO438
    clear HO441
    clear BK442
    clear HB
    have HO435 := n0_
    have HO438 := n1_
    have HO441 := n2_
    have BK442 := n3_
    have HB := n4_
    clear n0_ n1_ n2_ n3_ n4_
    refine start_ (n := 14) (S := fun w' => w'.cell? ⟨gb442, 0, none⟩ = some (.slice Ao123 t433.length co123) ∧ w'.cell? ⟨gb442, 1, none⟩ = some (.slice Ao125 t436.length co125) ∧ w'.cell? ⟨gb442, 2, none⟩ = some (.slice Ao126 t439.length co126)) (ds := []) #[ff, ff, ff, ff, ff, ff, ff, ff, ff, ff, ff, ff, ff, ff] (by kernel_rfl) rfl rfl ⟨(blk_cell BK442.out 0).trans rfl, (blk_cell BK442.out 1).trans rfl, (blk_cell BK442.out 2).trans rfl⟩ (fun hHeld => ?_); refine with_tabW laws_FnNever.tab7 laws_FnNever.bits7 (fun HT_ HW_ => ?_)
    generalize w132.drew = w133 at HO435 HO438 HO441 BK442 HB hHeld ⊢
    refine pure_ (i := 2) (N := some 28) (v := ?_) (a' := ?_) (M_ 14 4) rfl rfl (any_of HT_.out (by kernel_rfl)) (fun _ _ _ h => h) (Or.inl ⟨by rfl, ?_⟩) ?_ ?_
    rotate_left
    ·intro w'
     go_simp
     with_reducible rfl
    rotate_left
    ·simp only [P_, i64_w, i32_w]
     rfl
    refine take_ (i := 0) (N := some 26) (v := ?_) (a' := ?_) (M_ 14 5) rfl rfl (take_ofW HT_.out HW_.out (by kernel_rfl)) (fun _ _ _ h => h) (Or.inl ⟨by rfl, ?_⟩) hHeld ?_ ?_
    rotate_left
    ·rintro w' ⟨s0, s1, s2⟩
     go_simp
     with_reducible rfl
    rotate_left
    ·simp only [P_, i64_w, i32_w]
     rfl
    refine take_ (i := 1) (N := some 27) (v := ?_) (a' := ?_) (M_ 14 7) rfl rfl (take_ofW HT_.out HW_.out (by kernel_rfl)) (fun _ _ _ h => h) (Or.inl ⟨by rfl, ?_⟩) hHeld ?_ ?_
    rotate_left
    ·rintro w' ⟨s0, s1, s2⟩
     go_simp
     with_reducible rfl
    rotate_left
    ·simp only [P_, i64_w, i32_w]
     rfl
    refine one_ (i := 3) (N := some 29) (M_ 14 15) rfl rfl (one_of HT_.out (by kernel_rfl)) (by decide) (fun K hK => ?_)
    refine goes_ Try.func15 (by kernel_rfl) rfl #[.agg #[.slice Ao123 t433.length co123, .slice Ao125 t436.length co125, .slice Ao126 t439.length co126], .slice A1 l1.length c1] (by rfl) rfl rfl (by simp only [List.map_toArray, List.map_cons, List.map_nil]; try rfl) ?_
    with_reducible refine (spec_Asks.calls kj2 _ _ t433 _ _ t436 _ _ t439 _ _ l1 t446 _ ?side1 ?side2 ?side3 ?side4 ?side5 ?side6 ?side7 ?side8 A117.out).mono ?_
    (case side1 => exact (Kd.R_reads' HO435.out).2.2)
    (case side2 => exact (Kd.R_reads' HO435.out).2.1)
    (case side3 => exact (Kd.N_reads' HO438.out).2.2)
    (case side4 => exact (Kd.N_reads' HO438.out).2.1)
    (case side5 => exact (Kd.R_reads' HO441.out).2.2)
    (case side6 => exact (Kd.R_reads' HO441.out).2.1)
    (case side7 => exact (Kd.C_below HR1.out HB.out))
    (case side8 => exact HC1.out)
    rintro e w134 ⟨v447, rfl, ho0, hb⟩
    refine ⟨_, rfl, ?_⟩
    have n0_ := K_ (Kd.R_elder' (by exact HO435.out) (Kd.R_base ho0) hb)
    have n1_ := K_ (Kd.N_elder' (by exact HO438.out) (Kd.R_base ho0) hb)
    have n2_ := K_ (Kd.R_elder' (by exact HO441.out) (Kd.R_base ho0) hb)
    have n3_ := K_ (Kd.R_lower (Kd.R_new' (Kd.R_new' ho0 (Kd.R_lt (by exact HO435.out))) (Kd.R_lt (by exact HO441.out))) (below_size (HB.out)))
    have n4_ := K_ (blk_below (g := gb442) (o := .cells #[.slice Ao123 t433.length co123, .slice Ao125 t436.length co125, .slice Ao126 t439.length co126] 26 (0, 0)) BK442.out hb)
    have n5_ := K_ (below_step (HB.out) hb)
    clear HO435
    clear HO438
    clear HO441
    clear BK442
    clear HB
    have HO435 := n0_
    have HO438 := n1_
    have HO441 := n2_
    have HO448 := n3_
    have BK442 := n4_
    have HB := n5_
    clear n0_ n1_ n2_ n3_ n4_ n5_
    (try clear hb)
    (try clear hb2)
    (try clear hk)
    (try clear hi)
    (try clear ho0)
    obtain ⟨Ao135, co135, eo135⟩ := Kd.R_slice HO448.out
    (first | subst eo135 | (injection eo135 with f1_ f2_ f3_; have f4_ := f1_.symm; have f5_ := f3_.symm; clear f1_ f2_ f3_; subst f4_; subst f5_))
    refine hK.out _ _ ⟨(blk_cell BK442.out 0).trans rfl, (blk_cell BK442.out 1).trans rfl, (blk_cell BK442.out 2).trans rfl⟩ (fun hHeld => ?_)
    clear hK K
    refine norm_ (a' := ?_) ?_ ?_
    rotate_left
    ·show Act.put _ (some 29) _ = _
     simp only [P_, i64_w, i32_w]
     rfl
    refine one_ (i := 4) (N := some 30) (M_ 14 31) rfl rfl (one_of HT_.out (by kernel_rfl)) (by decide) (fun K hK => ?_)
    refine goes_ Try.func17 (by kernel_rfl) rfl #[.agg #[.slice Ao123 t433.length co123, .slice Ao125 t436.length co125, .slice Ao126 t439.length co126], .slice Ao135 t446.length co135] (by rfl) rfl rfl (by simp only [List.map_toArray, List.map_cons, List.map_nil]; try rfl) ?_
    with_reducible refine (impl_Guard.calls kj2 _ _ t433 _ _ t436 _ _ t439 _ _ t446 t449 _ ?side1 ?side2 ?side3 ?side4 ?side5 ?side6 ?side7 ?side8 A118.out).mono ?_
    (case side1 => exact (Kd.R_reads' HO435.out).2.2)
    (case side2 => exact (Kd.R_reads' HO435.out).2.1)
    (case side3 => exact (Kd.N_reads' HO438.out).2.2)
    (case side4 => exact (Kd.N_reads' HO438.out).2.1)
    (case side5 => exact (Kd.R_reads' HO441.out).2.2)
    (case side6 => exact (Kd.R_reads' HO441.out).2.1)
    (case side7 => exact (Kd.R_reads' HO448.out).2.2)
    (case side8 => exact (Kd.R_reads' HO448.out).2.1)
    rintro e w136 ⟨v450, rfl, ho0, hb⟩
    refine ⟨_, rfl, ?_⟩
    have n0_ := K_ (Kd.R_below (by exact HO435.out) hb)
    have n1_ := K_ (Kd.N_elder' (by exact HO438.out) (Kd.R_base ho0) hb)
    have n2_ := K_ (Kd.R_below (by exact HO441.out) hb)
    have n3_ := K_ (Kd.R_below (by exact HO448.out) hb)
    have n4_ := K_ (Kd.N_lower (Kd.N_mono (ok' := fun k_ => some k_ ≠ (.slice Ao123 t433.length co123 : Value).ownBlock ∧ some k_ ≠ (.slice Ao125 t436.length co125 : Value).ownBlock ∧ some k_ ≠ (.slice Ao126 t439.length co126 : Value).ownBlock ∧ some k_ ≠ (.slice Ao135 t446.length co135 : Value).ownBlock ∧ k_ ≠ gb442) (Kd.R_N (Kd.R_bound ho0)) (fun k_ hk_ => ⟨(Kd.fresh' (Kd.R_lt (by exact HO435.out)) k_ hk_.2.1), (Kd.fresh' (Kd.N_lt (by exact HO438.out)) k_ hk_.2.1), (Kd.fresh' (Kd.R_lt (by exact HO441.out)) k_ hk_.2.1), (Kd.fresh' (Kd.R_lt (by exact HO448.out)) k_ hk_.2.1), (Kd.freshB (g := gb442) (o := .cells #[.slice Ao123 t433.length co123, .slice Ao125 t436.length co125, .slice Ao126 t439.length co126] 26 (0, 0)) BK442.out k_ hk_.2.1)⟩)) (below_size (HB.out)))
    have n5_ := K_ (blk_below (g := gb442) (o := .cells #[.slice Ao123 t433.length co123, .slice Ao125 t436.length co125, .slice Ao126 t439.length co126] 26 (0, 0)) BK442.out hb)
    have n6_ := K_ (below_step (HB.out) hb)
    clear HO435
    clear HO438
    clear HO441
    clear HO448
    clear BK442
    clear HB
    have HO435 := n0_
    have HO438 := n1_
    have HO441 := n2_
    have HO448 := n3_
    have HO451 := n4_
    have BK442 := n5_
    have HB := n6_
    clear n0_ n1_ n2_ n3_ n4_ n5_ n6_
    (try clear hb)
    (try clear hb2)
    (try clear hk)
    (try clear hi)
    (try clear ho0)
    obtain ⟨Ao137, co137, eo137⟩ := Kd.N_slice HO451.out
    (first | subst eo137 | (injection eo137 with f1_ f2_ f3_; have f4_ := f1_.symm; have f5_ := f3_.symm; clear f1_ f2_ f3_; subst f4_; subst f5_))
    refine hK.out _ _ ⟨(blk_cell BK442.out 0).trans rfl, (blk_cell BK442.out 1).trans rfl, (blk_cell BK442.out 2).trans rfl⟩ (fun hHeld => ?_)
    clear hK K
    refine norm_ (a' := ?_) ?_ ?_
    rotate_left
    ·show Act.put _ (some 30) _ = _
     simp only [P_, i64_w, i32_w]
     rfl
    refine pure_ (i := 5) (N := some 31) (v := ?_) (a' := ?_) (M_ 14 63) rfl rfl (any_of HT_.out (by kernel_rfl)) (fun _ _ _ h => h) (Or.inl ⟨by rfl, ?_⟩) ?_ ?_
    rotate_left
    ·intro w'
     go_simp
     with_reducible rfl
    rotate_left
    ·simp only [P_, i64_w, i32_w]
     rfl
    refine pure_ (i := 6) (N := some 32) (v := ?_) (a' := ?_) (M_ 14 127) rfl rfl (any_of HT_.out (by kernel_rfl)) (fun _ _ _ h => h) (Or.inl ⟨by rfl, ?_⟩) ?_ ?_
    rotate_left
    ·intro w'
     go_simp
     with_reducible rfl
    rotate_left
    ·simp only [P_, i64_w, i32_w]
     rfl
    refine pure_ (i := 7) (N := some 33) (v := ?_) (a' := ?_) (M_ 14 255) rfl rfl (any_of HT_.out (by kernel_rfl)) (fun _ _ _ h => h) (Or.inl ⟨by rfl, ?_⟩) ?_ ?_
    rotate_left
    ·intro w'
     go_simp
     with_reducible rfl
    rotate_left
    ·simp only [P_, i64_w, i32_w]
     rfl
    refine take_ (i := 8) (N := some 34) (v := ?_) (a' := ?_) (M_ 14 511) rfl rfl (take_ofW HT_.out HW_.out (by kernel_rfl)) (fun _ _ _ h => h) (Or.inl ⟨by rfl, ?_⟩) hHeld ?_ ?_
    rotate_left
    ·rintro w' ⟨s0, s1, s2⟩
     go_simp
     with_reducible rfl
    rotate_left
    ·simp only [P_, i64_w, i32_w]
     rfl
    refine one_ (i := 9) (N := some 35) (M_ 14 1023) rfl rfl (one_of HT_.out (by kernel_rfl)) (by decide) (fun K hK => ?_)
    refine goes_ Try.func20 (by kernel_rfl) rfl #[.agg #[.slice Ao123 t433.length co123, .slice Ao125 t436.length co125, .slice Ao126 t439.length co126]] (by rfl) rfl rfl (by simp only [List.map_toArray, List.map_cons, List.map_nil]; try rfl) ?_
    with_reducible refine (impl_Allowed.calls kj2 _ _ t433 _ _ t436 _ _ t439 t452 _ ?side1 ?side2 ?side3 ?side4 ?side5 ?side6 A120.out).mono ?_
    (case side1 => exact (Kd.R_reads' HO435.out).2.2)
    (case side2 => exact (Kd.R_reads' HO435.out).2.1)
    (case side3 => exact (Kd.N_reads' HO438.out).2.2)
    (case side4 => exact (Kd.N_reads' HO438.out).2.1)
    (case side5 => exact (Kd.R_reads' HO441.out).2.2)
    (case side6 => exact (Kd.R_reads' HO441.out).2.1)
    rintro e w138 ⟨v453, rfl, ho0, hb⟩
    refine ⟨_, rfl, ?_⟩
    have n0_ := K_ (Kd.R_elder' (by exact HO435.out) (Kd.R_base ho0) hb)
    have n1_ := K_ (Kd.N_elder' (by exact HO438.out) (Kd.R_base ho0) hb)
    have n2_ := K_ (Kd.R_elder' (by exact HO441.out) (Kd.R_base ho0) hb)
    have n3_ := K_ (Kd.R_elder' (by exact HO448.out) (Kd.R_base ho0) hb)
    have n4_ := K_ (Kd.N_elder' (by exact HO451.out) (Kd.R_base ho0) hb)
    have n5_ := K_ (Kd.R_lower (Kd.R_new' (Kd.R_new' (Kd.R_new' ho0 (Kd.R_lt (by exact HO435.out))) (Kd.R_lt (by exact HO441.out))) (Kd.R_lt (by exact HO448.out))) (below_size (HB.out)))
    have n6_ := K_ (blk_below (g := gb442) (o := .cells #[.slice Ao123 t433.length co123, .slice Ao125 t436.length co125, .slice Ao126 t439.length co126] 26 (0, 0)) BK442.out hb)
    have n7_ := K_ (below_step (HB.out) hb)
    clear HO435
    clear HO438
    clear HO441
    clear HO448
    clear HO451
    clear BK442
    clear HB
    have HO435 := n0_
    have HO438 := n1_
    have HO441 := n2_
    have HO448 := n3_
    have HO451 := n4_
    have HO454 := n5_
    have BK442 := n6_
    have HB := n7_
    clear n0_ n1_ n2_ n3_ n4_ n5_ n6_ n7_
    (try clear hb)
    (try clear hb2)
    (try clear hk)
    (try clear hi)
    clear ho0
    obtain ⟨Ao139, co139, eo139⟩ := Kd.R_slice HO454.out
    (first | subst eo139 | (injection eo139 with f1_ f2_ f3_; have f4_ := f1_.symm; have f5_ := f3_.symm; clear f1_ f2_ f3_; subst f4_; subst f5_))
    refine hK.out _ _ ⟨(blk_cell BK442.out 0).trans rfl, (blk_cell BK442.out 1).trans rfl, (blk_cell BK442.out 2).trans rfl⟩ (fun hHeld => ?_)
    clear hK K
    refine norm_ (a' := ?_) ?_ ?_
    rotate_left
    ·show Act.put _ (some 35) _ = _
     simp only [P_, i64_w, i32_w]
     rfl
    refine pure_ (i := 10) (N := some 36) (v := ?_) (a' := ?_) (M_ 14 2047) rfl rfl (any_of HT_.out (by kernel_rfl)) (fun _ _ _ h => h) (Or.inl ⟨by rfl, ?_⟩) ?_ ?_
    rotate_left
    ·intro w'
     go_simp
     with_reducible rfl
    rotate_left
    ·simp only [P_, i64_w, i32_w]
     rfl
    refine pure_ (i := 11) (N := some 37) (v := ?_) (a' := ?_) (M_ 14 4095) rfl rfl (any_of HT_.out (by kernel_rfl)) (fun _ _ _ h => h) (Or.inl ⟨by rfl, ?_⟩) ?_ ?_
    rotate_left
    ·intro w'
     go_simp
     with_reducible rfl
    rotate_left
    ·simp only [P_, i64_w, i32_w]
     rfl
    refine pure_ (i := 12) (N := some 38) (v := ?_) (a' := ?_) (M_ 14 8191) rfl rfl (any_of HT_.out (by kernel_rfl)) (fun _ _ _ h => h) (Or.inl ⟨by rfl, ?_⟩) ?_ ?_
    rotate_left
    ·intro w'
     go_simp
     with_reducible rfl
    rotate_left
    ·simp only [P_, i64_w, i32_w]
     rfl
    refine pure_ (i := 13) (N := some 4) (v := ?_) (a' := ?_) (M_ 14 16383) rfl rfl (any_of HT_.out (by kernel_rfl)) (fun _ _ _ h => h) (Or.inl ⟨by rfl, ?_⟩) ?_ ?_
    rotate_left
    ·intro w'
     go_simp
     with_reducible rfl
    rotate_left
    ·simp only [P_, i64_w, i32_w]
     rfl
    refine done_ (done_of HT_.out (by kernel_rfl)) ?_
    try go_wp2
    go_ret
    exact ⟨rfl, HB.out⟩
   subst c21
   rw [if_pos rfl] at H
   have H' := K_ H
   clear H
   try go_wp2_with (first | ((with_reducible refine gate_callee (f := 14) rfl ?_); refine goesL_ (some 17) rfl rfl Try.func14 (by kernel_rfl) rfl #[.slice A0 l0.length c0] rfl (by simp only [List.map_toArray, List.map_cons, List.map_nil]; try rfl) ?_; (with_reducible refine (spec_States.calls kj2 _ _ l0 t433 t436 t439 _ ?side1 ?side2 A6.out).mono ?_); (case side1 => exact (Kd.C_below HR0.out HB.out)); (case side2 => exact HC0.out); rintro e w22 ⟨v434, v437, v440, rfl, ho0, ho1, ho2, hb⟩; refine ⟨_, rfl, ?_⟩; have HO435 := K_ (Kd.R_lower ho0 (below_size (HB.out))); have HO438 := K_ (Kd.N_lower (Kd.N_mono (ok' := fun k_ => some k_ ≠ (v434 : Value).ownBlock ∧ some k_ ≠ (v440 : Value).ownBlock) (Kd.S_N (Kd.S_bound ho1)) (fun k_ hk_ => ⟨hk_.1.1, hk_.1.2⟩)) (below_size (HB.out))); have HO441 := K_ (Kd.R_lower ho2 (below_size (HB.out))); replace HB := K_ (below_step (HB.out) hb); clear hb ho0 ho1 ho2) | ((with_reducible refine gate_dst (N := 5) rfl ?_); (try (refine gate_guard (by rfl) ?_; dsimp only)); refine box_event ?hg (N := 5) ?hd (cs := #[.slice none 0 0, .slice none 0 0, .slice none 0 0]) (t := 26) ?hr ?_; (case hd => rfl); (case hg => rfl); (case hr => go_simp; try rfl); intro gb442 hg w23 hbox hb; have BK442 := K_ (hbox); have GW442 := K_ ((by rw [hg]; exact (below_size (HB.out)) : w.heap.size ≤ gb442)); have GE442 := K_ ((by rw [hg]; exact (below_size (HB.out)) : w.heap.size ≤ gb442)); replace HO435 := K_ (Kd.R_below (by exact HO435.out) hb); replace HO438 := K_ (Kd.N_below (Kd.N_elderB (by exact HO438.out) gb442 (Nat.le_of_eq hg.symm)) hb); replace HO441 := K_ (Kd.R_below (by exact HO441.out) hb); replace HB := K_ (below_step (HB.out) hb); clear hb hbox hg; obtain ⟨Ao24, co24, eo24⟩ := Kd.R_slice HO435.out; subst eo24; obtain ⟨hcz25_0, hcz25_1, hcz25_2, hfz25_0, hfz25_1, hfz25_2⟩ := blkf3_ BK442.out; obtain ⟨Ao26, co26, eo26⟩ := Kd.N_slice HO438.out; subst eo26; obtain ⟨Ao27, co27, eo27⟩ := Kd.R_slice HO441.out; subst eo27))
   have n0_ : Aside0 (Kd.R (Kd.int .i64) 3 (((w23.setCell ⟨gb442, 0, none⟩ (.slice Ao24 t433.length co24)).setCell ⟨gb442, 1, none⟩ (.slice Ao26 t436.length co26)).setCell ⟨gb442, 2, none⟩ (.slice Ao27 t439.length co27)) w.heap.size (fun k_ => some k_ ≠ (.slice Ao27 t439.length co27 : Value).ownBlock) (.slice Ao24 t433.length co24) t433) := ⟨by exact Kd.R_mono (Kd.R_far (p := ⟨gb442, 2, none⟩) (Kd.R_far (p := ⟨gb442, 1, none⟩) (Kd.R_far (p := ⟨gb442, 0, none⟩) (Kd.R_types HO435.out BK442.out (by decide)) (fun _ hk => hk.2) (.slice Ao24 t433.length co24)) (fun _ hk => hk.2) (.slice Ao26 t436.length co26)) (fun _ hk => hk.2) (.slice Ao27 t439.length co27)) (fun _ hk => hk.1)⟩
   have n1_ : Aside0 (Kd.N k35 35 (((w23.setCell ⟨gb442, 0, none⟩ (.slice Ao24 t433.length co24)).setCell ⟨gb442, 1, none⟩ (.slice Ao26 t436.length co26)).setCell ⟨gb442, 2, none⟩ (.slice Ao27 t439.length co27)) w.heap.size (fun k_ => some k_ ≠ (.slice Ao24 t433.length co24 : Value).ownBlock ∧ some k_ ≠ (.slice Ao27 t439.length co27 : Value).ownBlock ∧ k_ ≠ gb442) (.slice Ao26 t436.length co26) t436) := ⟨by exact Kd.N_mono (Kd.N_far (p := ⟨gb442, 2, none⟩) (Kd.N_far (p := ⟨gb442, 1, none⟩) (Kd.N_far (p := ⟨gb442, 0, none⟩) (Kd.N_mono HO438.out (fun k_ hk => (⟨hk, hk.2⟩ : _ ∧ k_ ≠ gb442))) (fun _ hk => hk.2) (.slice Ao24 t433.length co24)) (fun _ hk => hk.2) (.slice Ao26 t436.length co26)) (fun _ hk => hk.2) (.slice Ao27 t439.length co27)) (fun _ hk => ⟨hk.1.1.1, ⟨hk.1.1.2, hk.1.2⟩⟩)⟩
   have n2_ : Aside0 (Kd.R (Kd.int .i64) 3 (((w23.setCell ⟨gb442, 0, none⟩ (.slice Ao24 t433.length co24)).setCell ⟨gb442, 1, none⟩ (.slice Ao26 t436.length co26)).setCell ⟨gb442, 2, none⟩ (.slice Ao27 t439.length co27)) w.heap.size (fun k_ => some k_ ≠ (.slice Ao24 t433.length co24 : Value).ownBlock) (.slice Ao27 t439.length co27) t439) := ⟨by exact Kd.R_mono (Kd.R_far (p := ⟨gb442, 2, none⟩) (Kd.R_far (p := ⟨gb442, 1, none⟩) (Kd.R_far (p := ⟨gb442, 0, none⟩) (Kd.R_types HO441.out BK442.out (by decide)) (fun _ hk => hk.2) (.slice Ao24 t433.length co24)) (fun _ hk => hk.2) (.slice Ao26 t436.length co26)) (fun _ hk => hk.2) (.slice Ao27 t439.length co27)) (fun _ hk => hk.1)⟩
   have n3_ : Aside0 ((((w23.setCell ⟨gb442, 0, none⟩ (.slice Ao24 t433.length co24)).setCell ⟨gb442, 1, none⟩ (.slice Ao26 t436.length co26)).setCell ⟨gb442, 2, none⟩ (.slice Ao27 t439.length co27)).heap[gb442]? = some (.cells #[.slice Ao24 t433.length co24, .slice Ao26 t436.length co26, .slice Ao27 t439.length co27] 26 (0, 0))) := ⟨by (with_reducible repeat (first | refine blk_drewN ?_ _ | refine blk_drew ?_ | refine blk_alloc ?_ _)); refine blk_put (cs := #[.slice Ao24 t433.length co24, .slice Ao26 t436.length co26, .slice none 0 0]) ?_ 2 _ rfl; (with_reducible repeat (first | refine blk_drewN ?_ _ | refine blk_drew ?_ | refine blk_alloc ?_ _)); refine blk_put (cs := #[.slice Ao24 t433.length co24, .slice none 0 0, .slice none 0 0]) ?_ 1 _ rfl; (with_reducible repeat (first | refine blk_drewN ?_ _ | refine blk_drew ?_ | refine blk_alloc ?_ _)); refine blk_put (cs := #[.slice none 0 0, .slice none 0 0, .slice none 0 0]) ?_ 0 _ rfl; (with_reducible repeat (first | refine blk_drewN ?_ _ | refine blk_drew ?_ | refine blk_alloc ?_ _)); exact BK442.out⟩
   have n4_ : Aside0 (Below w.heap.size w (((w23.setCell ⟨gb442, 0, none⟩ (.slice Ao24 t433.length co24)).setCell ⟨gb442, 1, none⟩ (.slice Ao26 t436.length co26)).setCell ⟨gb442, 2, none⟩ (.slice Ao27 t439.length co27))) := ⟨by repeat (first | (with_reducible first | exact HB.out | apply below_alloc | apply pw_below_drewN | apply below_drew1 | refine below_set ?_ GE442.out) | exact HB.out)⟩
   clear HO435
   clear HO438
   (try clear HO441)
   clear BK442
   (try clear HB)
   generalize (((w23.setCell ⟨gb442, 0, none⟩ (.slice Ao24 t433.length co24)).setCell ⟨gb442, 1, none⟩ (.slice Ao26 t436.length co26)).setCell ⟨gb442, 2, none⟩ (.slice Ao27 t439.length co27)) = w28 at n0_ n1_ n2_ n3_ n4_ ⊢
   have HO435 := n0_
   have HO438 := n1_
   have HO441 := n2_
   have BK442 := n3_
   have HB := n4_
   clear n0_ n1_ n2_ n3_ n4_
   have n0_ := K_ (Kd.R_drew HO435.out)
   have n1_ := K_ (Kd.N_drew HO438.out)
   have n2_ := K_ (Kd.R_drew HO441.out)
   have n3_ := K_ (blk_drew BK442.out)
   have n4_ := K_ (below_drew1 HB.out)
   clear HO435
   clear HO438
   clear HO441
   clear BK442
   clear HB
   have HO435 := n0_
   have HO438 := n1_
   have HO441 := n2_
   have BK442 := n3_
   have HB := n4_
   clear n0_ n1_ n2_ n3_ n4_
   refine start_ (n := 5) (S := fun w' => w'.cell? ⟨gb442, 0, none⟩ = some (.slice Ao24 t433.length co24) ∧ w'.cell? ⟨gb442, 1, none⟩ = some (.slice Ao26 t436.length co26) ∧ w'.cell? ⟨gb442, 2, none⟩ = some (.slice Ao27 t439.length co27)) (ds := []) #[ff, ff, ff, ff, ff] (by kernel_rfl) rfl rfl ⟨(blk_cell BK442.out 0).trans rfl, (blk_cell BK442.out 1).trans rfl, (blk_cell BK442.out 2).trans rfl⟩ (fun hHeld => ?_)
   generalize w28.drew = w29 at HO435 HO438 HO441 BK442 HB hHeld ⊢
   refine take_ (i := 0) (N := some 18) (v := ?_) (a' := ?_) #[tt, ff, ff, ff, ff] rfl rfl (by kernel_rfl) (fun _ _ _ h => h) (Or.inl ⟨by rfl, ?_⟩) hHeld ?_ ?_
   rotate_left
   ·rintro w' ⟨s0, s1, s2⟩
    go_simp
    with_reducible rfl
   rotate_left
   ·simp only [P_, i64_w, i32_w]
    rfl
   refine take_ (i := 2) (N := some 20) (v := ?_) (a' := ?_) #[tt, ff, tt, ff, ff] rfl rfl (by kernel_rfl) (fun _ _ _ h => h) (Or.inl ⟨by rfl, ?_⟩) hHeld ?_ ?_
   rotate_left
   ·rintro w' ⟨s0, s1, s2⟩
    go_simp
    with_reducible rfl
   rotate_left
   ·simp only [P_, i64_w, i32_w]
    rfl
   refine one_ (i := 1) (N := some 19) #[tt, tt, tt, ff, ff] rfl rfl (by kernel_rfl) (by decide) (fun K hK => ?_)
   refine goes_ Try.func30 (by kernel_rfl) rfl #[.agg #[.slice Ao24 t433.length co24, .slice Ao26 t436.length co26, .slice Ao27 t439.length co27]] (by rfl) rfl rfl (by simp only [List.map_toArray, List.map_cons, List.map_nil]; try rfl) ?_
   with_reducible refine (impl_Safe.calls kj2 _ _ t433 _ _ t436 _ _ t439 t443 _ ?side1 ?side2 ?side3 ?side4 ?side5 ?side6 A7.out).mono ?_
   (case side1 => exact (Kd.R_reads' HO435.out).2.2)
   (case side2 => exact (Kd.R_reads' HO435.out).2.1)
   (case side3 => exact (Kd.N_reads' HO438.out).2.2)
   (case side4 => exact (Kd.N_reads' HO438.out).2.1)
   (case side5 => exact (Kd.R_reads' HO441.out).2.2)
   (case side6 => exact (Kd.R_reads' HO441.out).2.1)
   rintro e w30 ⟨rfl, hb⟩
   refine ⟨_, rfl, ?_⟩
   have n0_ := K_ (Kd.R_below (by exact HO435.out) hb)
   have n1_ := K_ (Kd.N_below (by exact HO438.out) hb)
   have n2_ := K_ (Kd.R_below (by exact HO441.out) hb)
   have n3_ := K_ (blk_below (g := gb442) (o := .cells #[.slice Ao24 t433.length co24, .slice Ao26 t436.length co26, .slice Ao27 t439.length co27] 26 (0, 0)) BK442.out hb)
   have n4_ := K_ (below_step (HB.out) hb)
   clear HO435
   clear HO438
   clear HO441
   clear BK442
   clear HB
   have HO435 := n0_
   have HO438 := n1_
   have HO441 := n2_
   have BK442 := n3_
   have HB := n4_
   clear n0_ n1_ n2_ n3_ n4_
   (try clear hb)
   (try clear hb2)
   (try clear hk)
   (try clear hi)
   refine hK.out _ _ ⟨(blk_cell BK442.out 0).trans rfl, (blk_cell BK442.out 1).trans rfl, (blk_cell BK442.out 2).trans rfl⟩ (fun hHeld => ?_)
   clear hK K
   refine norm_ (a' := ?_) ?_ ?_
   rotate_left
   ·show Act.put _ (some 19) _ = _
    simp only [P_, i64_w, i32_w]
    rfl
   refine one_ (i := 3) (N := some 21) #[tt, tt, tt, tt, ff] rfl rfl (by kernel_rfl) (by decide) (fun K hK => ?_)
   refine goes_ Try.func26 (by kernel_rfl) rfl #[.agg #[.slice Ao24 t433.length co24, .slice Ao26 t436.length co26, .slice Ao27 t439.length co27]] (by rfl) rfl rfl (by simp only [List.map_toArray, List.map_cons, List.map_nil]; try rfl) ?_
   with_reducible refine (spec_Safe.calls kj2 _ _ t433 _ _ t436 _ _ t439 t444 _ ?side1 ?side2 ?side3 ?side4 ?side5 ?side6 A8.out).mono ?_
   (case side1 => exact (Kd.R_reads' HO435.out).2.2)
   (case side2 => exact (Kd.R_reads' HO435.out).2.1)
   (case side3 => exact (Kd.N_reads' HO438.out).2.2)
   (case side4 => exact (Kd.N_reads' HO438.out).2.1)
   (case side5 => exact (Kd.R_reads' HO441.out).2.2)
   (case side6 => exact (Kd.R_reads' HO441.out).2.1)
   rintro e w31 ⟨rfl, hb⟩
   refine ⟨_, rfl, ?_⟩
   have n0_ := K_ (Kd.R_below (by exact HO435.out) hb)
   have n1_ := K_ (Kd.N_below (by exact HO438.out) hb)
   have n2_ := K_ (Kd.R_below (by exact HO441.out) hb)
   have n3_ := K_ (blk_below (g := gb442) (o := .cells #[.slice Ao24 t433.length co24, .slice Ao26 t436.length co26, .slice Ao27 t439.length co27] 26 (0, 0)) BK442.out hb)
   have n4_ := K_ (below_step (HB.out) hb)
   clear HO435
   clear HO438
   clear HO441
   clear BK442
   clear HB
   have HO435 := n0_
   have HO438 := n1_
   have HO441 := n2_
   have BK442 := n3_
   have HB := n4_
   clear n0_ n1_ n2_ n3_ n4_
   (try clear hb)
   (try clear hb2)
   (try clear hk)
   (try clear hi)
   refine hK.out _ _ ⟨(blk_cell BK442.out 0).trans rfl, (blk_cell BK442.out 1).trans rfl, (blk_cell BK442.out 2).trans rfl⟩ (fun hHeld => ?_)
   clear hK K
   refine norm_ (a' := ?_) ?_ ?_
   rotate_left
   ·show Act.put _ (some 21) _ = _
    simp only [P_, i64_w, i32_w]
    rfl
   refine pure_ (i := 4) (N := some 22) (v := ?_) (a' := ?_) #[tt, tt, tt, tt, tt] rfl rfl (by kernel_rfl) (fun _ _ _ h => h) (Or.inl ⟨by rfl, ?_⟩) ?_ ?_
   rotate_left
   ·intro w'
    go_simp
    with_reducible rfl
   rotate_left
   ·simp only [P_, i64_w, i32_w]
    rfl
   refine done_ (by kernel_rfl) ?_
   obtain ⟨hcz32_0, hcz32_1, hcz32_2, hfz32_0, hfz32_1, hfz32_2⟩ := blkf3_ BK442.out
   try go_wp2_with (first | ((with_reducible refine gate_callee (f := 26) rfl ?_); refine goesL_ (some 24) rfl rfl Try.func26 (by kernel_rfl) rfl #[.agg #[.slice Ao24 t433.length co24, .slice Ao26 t436.length co26, .slice Ao27 t439.length co27]] rfl (by simp only [List.map_toArray, List.map_cons, List.map_nil]; try rfl) ?_; (with_reducible refine (spec_Safe.calls kj2 _ _ t433 _ _ t436 _ _ t439 true _ ?side1 ?side2 ?side3 ?side4 ?side5 ?side6 A20.out).mono ?_); (case side1 => exact (Kd.R_reads' HO435.out).2.2); (case side2 => exact (Kd.R_reads' HO435.out).2.1); (case side3 => exact (Kd.N_reads' HO438.out).2.2); (case side4 => exact (Kd.N_reads' HO438.out).2.1); (case side5 => exact (Kd.R_reads' HO441.out).2.2); (case side6 => exact (Kd.R_reads' HO441.out).2.1); rintro e w33 ⟨rfl, hb⟩; refine ⟨_, rfl, ?_⟩; replace HO435 := K_ (Kd.R_below (by exact HO435.out) hb); replace HO438 := K_ (Kd.N_below (by exact HO438.out) hb); replace HO441 := K_ (Kd.R_below (by exact HO441.out) hb); replace BK442 := K_ (blk_below (g := gb442) (o := .cells #[.slice Ao24 t433.length co24, .slice Ao26 t436.length co26, .slice Ao27 t439.length co27] 26 (0, 0)) BK442.out hb); replace HB := K_ (below_step (HB.out) hb); (try clear hb); (try clear hb2); (try clear hk); (try clear hi)))
   go_loopg [6] kj2 (fun kq v6 w' => ∃ (x6_2 : Int) (x443000_2 : List Int) (x443001_2 : List (S35)) (x443002_2 : List Int) (u443000 : Value) (u443001 : Value) (u443002 : Value), v6 = .int .i64 x6_2 ∧ Aside0 (laws_FnNever.l0 kq l1 x6_2 x443000_2 x443001_2 x443002_2 = some r) ∧ Aside0 (kq ≤ kj2) ∧ Aside0 (Kd.R (Kd.int .i64) 3 w' w.heap.size (fun k_ => some k_ ≠ (u443002 : Value).ownBlock) u443000 x443000_2) ∧ Aside0 (Kd.N k35 35 w' w.heap.size (fun k_ => some k_ ≠ (u443000 : Value).ownBlock ∧ some k_ ≠ (u443002 : Value).ownBlock ∧ k_ ≠ gb442) u443001 x443001_2) ∧ Aside0 (Kd.R (Kd.int .i64) 3 w' w.heap.size (fun k_ => some k_ ≠ (u443000 : Value).ownBlock) u443002 x443002_2) ∧ Aside0 (w'.heap[gb442]? = some (.cells #[u443000, u443001, u443002] 26 (0, 0))) ∧ Aside0 (Below w.heap.size w w'))
   case atStart => exact ⟨(0), (t433), (t436), (t439), (.slice Ao24 t433.length co24), (.slice Ao26 t436.length co26), (.slice Ao27 t439.length co27), rfl, H', ⟨Nat.le_refl _⟩, ⟨by exact HO435.out⟩, ⟨by exact HO438.out⟩, ⟨by exact HO441.out⟩, ⟨BK442.out⟩, ⟨HB.out⟩⟩
   case round =>
    clear H'
    clear hcz25_0 hcz25_1 hcz25_2 hcz32_0 hcz32_1 hcz32_2 hfz25_0 hfz25_1 hfz25_2 hfz32_0 hfz32_1 hfz32_2
    obtain ⟨x6_2, x443000_2, x443001_2, x443002_2, u443000, u443001, u443002, rfl, HA, HK2, HO_443000, HO_443001, HO_443002, BK442, HB⟩ := hrel
    cases gk with
    | zero => exact absurd HA.out (by simp [laws_FnNever.l0])
    | succ k2 =>
     have H := HA.out
     clear HA
     simp only [laws_FnNever.l0] at H
     replace H := ps_ H
     rcases H with ⟨c34, H⟩ | ⟨c34, H⟩
     case inr =>
      exact absurd (H.trans (congrArg some hT_.out)) (by simp)
     have c34b0 := decide_eq_true c34
     clear c34
     replace H := ps_ H
     rcases H with ⟨c35, H⟩ | ⟨c35, H⟩
     case inl =>
      have c35b0 := beq_iff_eq.mpr c35
      have c35b1 := bne_eq_false_iff_eq.mpr c35
      clear c35
      replace H := Option.bind_eq_some_iff.mp H
      obtain ⟨t455, A360, H⟩ := H
      try dsimp only at H
      have A36 := K_ A360
      clear A360
      obtain rfl := Option.some.inj H
      obtain ⟨hcz37_0, hcz37_1, hcz37_2, hfz37_0, hfz37_1, hfz37_2⟩ := blkf3_ BK442.out
      obtain ⟨Ao38, co38, eo38⟩ := Kd.N_slice HO_443001.out
      subst eo38
      obtain ⟨Ao39, co39, eo39⟩ := Kd.R_slice HO_443000.out
      subst eo39
      obtain ⟨Ao40, co40, eo40⟩ := Kd.R_slice HO_443002.out
      subst eo40
      go_wp2_with (first | ((with_reducible refine gate_callee (f := 20) rfl ?_); refine goesL_ (some 48) rfl rfl Try.func20 (by kernel_rfl) rfl #[.agg #[.slice Ao39 x443000_2.length co39, .slice Ao38 x443001_2.length co38, .slice Ao40 x443002_2.length co40]] rfl (by simp only [List.map_toArray, List.map_cons, List.map_nil]; try rfl) ?_; (with_reducible refine (impl_Allowed.calls k2 _ _ x443000_2 _ _ x443001_2 _ _ x443002_2 t455 _ ?side1 ?side2 ?side3 ?side4 ?side5 ?side6 A36.out).mono ?_); (case side1 => exact (Kd.R_reads' HO_443000.out).2.2); (case side2 => exact (Kd.R_reads' HO_443000.out).2.1); (case side3 => exact (Kd.N_reads' HO_443001.out).2.2); (case side4 => exact (Kd.N_reads' HO_443001.out).2.1); (case side5 => exact (Kd.R_reads' HO_443002.out).2.2); (case side6 => exact (Kd.R_reads' HO_443002.out).2.1); rintro e w41 ⟨v456, rfl, ho0, hb⟩; refine ⟨_, rfl, ?_⟩; have HO457 := K_ (Kd.R_lower (Kd.R_new' (Kd.R_new' ho0 (Kd.R_lt (by exact HO_443000.out))) (Kd.R_lt (by exact HO_443002.out))) (below_size (HB.out))); replace HO_443000 := K_ (Kd.R_elder' (by exact HO_443000.out) (Kd.R_base ho0) hb); replace HO_443001 := K_ (Kd.N_elder' (by exact HO_443001.out) (Kd.R_base ho0) hb); replace HO_443002 := K_ (Kd.R_elder' (by exact HO_443002.out) (Kd.R_base ho0) hb); replace BK442 := K_ (blk_below (g := gb442) (o := .cells #[.slice Ao39 x443000_2.length co39, .slice Ao38 x443001_2.length co38, .slice Ao40 x443002_2.length co40] 26 (0, 0)) BK442.out hb); replace HB := K_ (below_step (HB.out) hb); (try clear hb); (try clear hb2); (try clear hk); (try clear hi); (try clear ho0); obtain ⟨Ao42, co42, eo42⟩ := Kd.R_slice HO457.out; subst eo42))
      go_ret
      exact ⟨rfl, HB.out⟩
     have c35b0 := beq_eq_false_iff_ne.mpr c35
     have c35b1 := bne_iff_ne.mpr c35
     have c35b2 : ¬ (x443001_2 = []) := fun h_ => c35 (by rw [h_]; rfl)
     replace H := Option.bind_eq_some_iff.mp H
     obtain ⟨t458, A430, H⟩ := H
     try dsimp only at H
     have A43 := K_ A430
     clear A430
     have HC44 := K_ H
     clear H
     obtain ⟨hcz45_0, hcz45_1, hcz45_2, hfz45_0, hfz45_1, hfz45_2⟩ := blkf3_ BK442.out
     obtain ⟨Ao46, co46, eo46⟩ := Kd.N_slice HO_443001.out
     subst eo46
     obtain ⟨Ao47, co47, eo47⟩ := Kd.R_slice HO_443000.out
     subst eo47
     obtain ⟨Ao48, co48, eo48⟩ := Kd.R_slice HO_443002.out
     subst eo48
     go_upto_region 14 with (first | ((with_reducible refine gate_callee (f := 20) rfl ?_); refine goesL_ (some 52) rfl rfl Try.func20 (by kernel_rfl) rfl #[.agg #[.slice Ao47 x443000_2.length co47, .slice Ao46 x443001_2.length co46, .slice Ao48 x443002_2.length co48]] rfl (by simp only [List.map_toArray, List.map_cons, List.map_nil]; try rfl) ?_; (with_reducible refine (impl_Allowed.calls k2 _ _ x443000_2 _ _ x443001_2 _ _ x443002_2 t458 _ ?side1 ?side2 ?side3 ?side4 ?side5 ?side6 A43.out).mono ?_); (case side1 => exact (Kd.R_reads' HO_443000.out).2.2); (case side2 => exact (Kd.R_reads' HO_443000.out).2.1); (case side3 => exact (Kd.N_reads' HO_443001.out).2.2); (case side4 => exact (Kd.N_reads' HO_443001.out).2.1); (case side5 => exact (Kd.R_reads' HO_443002.out).2.2); (case side6 => exact (Kd.R_reads' HO_443002.out).2.1); rintro e w49 ⟨v459, rfl, ho0, hb⟩; refine ⟨_, rfl, ?_⟩; have HO460 := K_ (Kd.R_lower (Kd.R_new' (Kd.R_new' ho0 (Kd.R_lt (by (with_reducible repeat (first | apply Kd.R_alloc | apply Kd.R_drewN | apply Kd.R_drew)); exact HO_443000.out))) (Kd.R_lt (by (with_reducible repeat (first | apply Kd.R_alloc | apply Kd.R_drewN | apply Kd.R_drew)); exact HO_443002.out))) (below_size (HB.out))); replace HO_443000 := K_ (Kd.R_elder' (by (with_reducible repeat (first | apply Kd.R_alloc | apply Kd.R_drewN | apply Kd.R_drew)); exact HO_443000.out) (Kd.R_base ho0) hb); replace HO_443001 := K_ (Kd.N_elder' (by (with_reducible repeat (first | apply Kd.N_alloc | apply Kd.N_drewN | apply Kd.N_drew)); exact HO_443001.out) (Kd.R_base ho0) hb); replace HO_443002 := K_ (Kd.R_elder' (by (with_reducible repeat (first | apply Kd.R_alloc | apply Kd.R_drewN | apply Kd.R_drew)); exact HO_443002.out) (Kd.R_base ho0) hb); replace BK442 := K_ (blk_below (g := gb442) (o := .cells #[.slice Ao47 x443000_2.length co47, .slice Ao46 x443001_2.length co46, .slice Ao48 x443002_2.length co48] 26 (0, 0)) BK442.out hb); replace HB := K_ (below_step (HB.out) hb); clear hb ho0))
     (try simp only [P_])
     go_cut [66] (fun v66 wc => ∃ (kq : Nat) (x66_43 : Bool), v66 = .bool x66_43 ∧ Aside0 (laws_FnNever.j2 kq l1 x6_2 t458 x66_43 x443000_2 x443001_2 x443002_2 = some r) ∧ Aside0 (kq ≤ k2) ∧ Aside0 (Kd.R (Kd.int .i64) 3 wc w.heap.size (fun k_ => some k_ ≠ ((.slice Ao47 x443000_2.length co47) : Value).ownBlock ∧ some k_ ≠ ((.slice Ao48 x443002_2.length co48) : Value).ownBlock) v459 t458) ∧ Aside0 (Kd.R (Kd.int .i64) 3 wc w.heap.size (fun k_ => some k_ ≠ (v459 : Value).ownBlock ∧ some k_ ≠ ((.slice Ao48 x443002_2.length co48) : Value).ownBlock) (.slice Ao47 x443000_2.length co47) x443000_2) ∧ Aside0 (Kd.N k35 35 wc w.heap.size (fun k_ => some k_ ≠ (v459 : Value).ownBlock ∧ some k_ ≠ ((.slice Ao47 x443000_2.length co47) : Value).ownBlock ∧ some k_ ≠ ((.slice Ao48 x443002_2.length co48) : Value).ownBlock ∧ k_ ≠ gb442) (.slice Ao46 x443001_2.length co46) x443001_2) ∧ Aside0 (Kd.R (Kd.int .i64) 3 wc w.heap.size (fun k_ => some k_ ≠ (v459 : Value).ownBlock ∧ some k_ ≠ ((.slice Ao47 x443000_2.length co47) : Value).ownBlock) (.slice Ao48 x443002_2.length co48) x443002_2) ∧ Aside0 (wc.heap[gb442]? = some (.cells #[(.slice Ao47 x443000_2.length co47), (.slice Ao46 x443001_2.length co46), (.slice Ao48 x443002_2.length co48)] 26 (0, 0))) ∧ Aside0 (Below w.heap.size w wc))
     case first =>
      have H := HC44.out
      clear HC44
      replace H := Option.bind_eq_some_iff.mp H
      obtain ⟨t461, A500, H⟩ := H
      try dsimp only at H
      have A50 := K_ A500
      clear A500
      replace H := Option.bind_eq_some_iff.mp H
      obtain ⟨t464, A510, H⟩ := H
      try dsimp only at H
      have A51 := K_ A510
      clear A510
      by_cases c52 : t464 = true
      case neg =>
       replace c52 := Bool.eq_false_iff.mpr c52
       subst c52
       have H1 : (laws_FnNever.j2 k2 l1 x6_2 t458 true x443000_2 x443001_2 x443002_2) = some r := by rw [if_neg (show ¬ (false = true) by decide)] at H; exact H
       clear H
       have H := H1
       exact absurd (H.trans (congrArg some hT_.out)) (laws_FnNever.j2_dead _ _ _ _ _ _ _)
      subst c52
      rw [if_pos rfl] at H
      replace H := ps_ H
      rcases H with ⟨c53, H⟩ | ⟨c53, H⟩
      case inl =>
       exact absurd (H.trans (congrArg some hT_.out)) (laws_FnNever.j2_dead _ _ _ _ _ _ _)
      have c53b0 := beq_eq_false_iff_ne.mpr c53
      have c53b1 := bne_iff_ne.mpr c53
      have c53b2 : ¬ (t458 = []) := fun h_ => c53 (by rw [h_]; rfl)
      (first | rw [c53b0] | (simp only [i64_w, i32_w]; rw [c53b0]) | skip)
      replace H := Option.bind_eq_some_iff.mp H
      obtain ⟨t465, A580, H⟩ := H
      try dsimp only at H
      have A58 := K_ A580
      clear A580
      have H' := K_ H
      clear H
      obtain ⟨hcz59_0, hcz59_1, hcz59_2, hfz59_0, hfz59_1, hfz59_2⟩ := blkf3_ BK442.out
      go_wp2_with (first | ((with_reducible refine gate_callee (f := 35) rfl ?_); refine goesL_ (some 55) rfl rfl Try.func35 (by kernel_rfl) rfl #[.agg #[.slice Ao47 x443000_2.length co47, .slice Ao46 x443001_2.length co46, .slice Ao48 x443002_2.length co48]] rfl (by (try simp only [List.map_toArray, List.map_cons, List.map_nil]); first | done | rfl | (simp only [List.length_drop, List.length_take]; rfl)) ?_; (with_reducible refine (spec_Allowed.calls k2 _ _ x443000_2 _ _ x443001_2 _ _ x443002_2 t461 _ ?side1 ?side2 ?side3 ?side4 ?side5 ?side6 A50.out).mono ?_); (case side1 => repeat (first | exact (Kd.R_reads' HO_443000.out).2.2 | (with_reducible refine Kd.C_alloc ?_ _) | (with_reducible refine Kd.C_drewN ?_ _) | (with_reducible refine Kd.C_drew ?_))); (case side2 => exact (Kd.R_reads' HO_443000.out).2.1); (case side3 => repeat (first | exact (Kd.N_reads' HO_443001.out).2.2 | (with_reducible refine Kd.C_alloc ?_ _) | (with_reducible refine Kd.C_drewN ?_ _) | (with_reducible refine Kd.C_drew ?_))); (case side4 => exact (Kd.N_reads' HO_443001.out).2.1); (case side5 => repeat (first | exact (Kd.R_reads' HO_443002.out).2.2 | (with_reducible refine Kd.C_alloc ?_ _) | (with_reducible refine Kd.C_drewN ?_ _) | (with_reducible refine Kd.C_drew ?_))); (case side6 => exact (Kd.R_reads' HO_443002.out).2.1); rintro e w60 ⟨v462, rfl, ho0, hb⟩; refine ⟨_, rfl, ?_⟩; have HO463 := K_ (Kd.R_lower (Kd.R_new' (Kd.R_new' (Kd.R_new' ho0 (Kd.R_lt (by (with_reducible repeat (first | apply Kd.R_alloc | apply Kd.R_drewN | apply Kd.R_drew)); exact HO_443000.out))) (Kd.R_lt (by (with_reducible repeat (first | apply Kd.R_alloc | apply Kd.R_drewN | apply Kd.R_drew)); exact HO_443002.out))) (Kd.R_lt (by (with_reducible repeat (first | apply Kd.R_alloc | apply Kd.R_drewN | apply Kd.R_drew)); exact HO460.out))) (below_size (by repeat (first | (with_reducible first | exact HB.out | apply below_alloc | apply pw_below_drewN | apply below_drew1 | refine below_set ?_ GE442.out) | exact HB.out)))); replace HO_443000 := K_ (Kd.R_elder' (by (with_reducible repeat (first | apply Kd.R_alloc | apply Kd.R_drewN | apply Kd.R_drew)); exact HO_443000.out) (Kd.R_base ho0) hb); replace HO_443001 := K_ (Kd.N_elder' (by (with_reducible repeat (first | apply Kd.N_alloc | apply Kd.N_drewN | apply Kd.N_drew)); exact HO_443001.out) (Kd.R_base ho0) hb); replace HO_443002 := K_ (Kd.R_elder' (by (with_reducible repeat (first | apply Kd.R_alloc | apply Kd.R_drewN | apply Kd.R_drew)); exact HO_443002.out) (Kd.R_base ho0) hb); replace HO460 := K_ (Kd.R_elder' (by (with_reducible repeat (first | apply Kd.R_alloc | apply Kd.R_drewN | apply Kd.R_drew)); exact HO460.out) (Kd.R_base ho0) hb); replace BK442 := K_ (blk_below (g := gb442) (o := .cells #[.slice Ao47 x443000_2.length co47, .slice Ao46 x443001_2.length co46, .slice Ao48 x443002_2.length co48] 26 (0, 0)) (by (with_reducible repeat (first | refine blk_drewN ?_ _ | refine blk_drew ?_ | refine blk_alloc ?_ _)); exact BK442.out) hb); replace HB := K_ (below_step (by repeat (first | (with_reducible first | exact HB.out | apply below_alloc | apply pw_below_drewN | apply below_drew1 | refine below_set ?_ GE442.out) | exact HB.out)) hb); clear hb ho0; obtain ⟨Ao61, co61, eo61⟩ := Kd.R_slice HO460.out; subst eo61; obtain ⟨Ao62, co62, eo62⟩ := Kd.R_slice HO463.out; subst eo62) | ((with_reducible refine gate_callee (f := 21) rfl ?_); refine goesL_ (some 56) rfl rfl Try.func21 (by kernel_rfl) rfl #[.slice Ao61 t458.length co61, .slice Ao62 t461.length co62] rfl (by (try simp only [List.map_toArray, List.map_cons, List.map_nil]); first | done | rfl | (simp only [List.length_drop, List.length_take]; rfl)) ?_; (with_reducible refine (laws_wInts.calls k2 _ _ t458 _ _ t461 true _ ?side1 ?side2 ?side3 ?side4 A51.out).mono ?_); (case side1 => repeat (first | exact (Kd.R_reads' HO460.out).2.2 | (with_reducible refine Kd.C_alloc ?_ _) | (with_reducible refine Kd.C_drewN ?_ _) | (with_reducible refine Kd.C_drew ?_))); (case side2 => exact (Kd.R_reads' HO460.out).2.1); (case side3 => repeat (first | exact (Kd.R_reads' HO463.out).2.2 | (with_reducible refine Kd.C_alloc ?_ _) | (with_reducible refine Kd.C_drewN ?_ _) | (with_reducible refine Kd.C_drew ?_))); (case side4 => exact (Kd.R_reads' HO463.out).2.1); rintro e w' ⟨rfl, ⟨nd, rfl⟩⟩; refine ⟨_, rfl, ?_⟩; obtain ⟨hcz63_0, hcz63_1, hcz63_2, hfz63_0, hfz63_1, hfz63_2⟩ := blkf3_ BK442.out) | (go_at_call 40; (with_reducible refine (impl_Stuck.calls k2 _ _ x443000_2 _ _ x443001_2 _ _ x443002_2 t465 _ ?side1 ?side2 ?side3 ?side4 ?side5 ?side6 A58.out).mono ?_); (case side1 => repeat (first | exact (Kd.R_reads' HO_443000.out).2.2 | (with_reducible refine Kd.C_alloc ?_ _) | (with_reducible refine Kd.C_drewN ?_ _) | (with_reducible refine Kd.C_drew ?_))); (case side2 => exact (Kd.R_reads' HO_443000.out).2.1); (case side3 => repeat (first | exact (Kd.N_reads' HO_443001.out).2.2 | (with_reducible refine Kd.C_alloc ?_ _) | (with_reducible refine Kd.C_drewN ?_ _) | (with_reducible refine Kd.C_drew ?_))); (case side4 => exact (Kd.N_reads' HO_443001.out).2.1); (case side5 => repeat (first | exact (Kd.R_reads' HO_443002.out).2.2 | (with_reducible refine Kd.C_alloc ?_ _) | (with_reducible refine Kd.C_drewN ?_ _) | (with_reducible refine Kd.C_drew ?_))); (case side6 => exact (Kd.R_reads' HO_443002.out).2.1); rintro e w64 ⟨rfl, hb⟩; replace HO_443000 := K_ (Kd.R_below (by (with_reducible repeat (first | apply Kd.R_alloc | apply Kd.R_drewN | apply Kd.R_drew)); exact HO_443000.out) hb); replace HO_443001 := K_ (Kd.N_below (by (with_reducible repeat (first | apply Kd.N_alloc | apply Kd.N_drewN | apply Kd.N_drew)); exact HO_443001.out) hb); replace HO_443002 := K_ (Kd.R_below (by exact HO_443002.out) hb); replace HO460 := K_ (Kd.R_below (by exact HO460.out) hb); replace HO463 := K_ (Kd.R_below (by exact HO463.out) hb); replace BK442 := K_ (blk_below (g := gb442) (o := .cells #[.slice Ao47 x443000_2.length co47, .slice Ao46 x443001_2.length co46, .slice Ao48 x443002_2.length co48] 26 (0, 0)) (by (with_reducible repeat (first | refine blk_drewN ?_ _ | refine blk_drew ?_ | refine blk_alloc ?_ _)); exact BK442.out) hb); replace HB := K_ (below_step (by repeat (first | (with_reducible first | exact HB.out | apply below_alloc | apply pw_below_drewN | apply below_drew1 | refine below_set ?_ GE442.out) | exact HB.out)) hb); clear hb))
      go_meet
      case rel => exact ⟨_, (t465), rfl, H', ⟨by have := HJ2.out; have := HK2.out; first | omega | exact Nat.le_refl _⟩, ⟨by exact Kd.R_mono HO460.out (fun _ hk => ⟨hk.1.1.2, hk.1.2⟩)⟩, ⟨by exact Kd.R_mono HO_443000.out (fun _ hk => ⟨hk.1.2, hk.1.1⟩)⟩, ⟨by exact Kd.N_mono HO_443001.out (fun _ hk => ⟨hk.1.2, ⟨hk.1.1.1, ⟨hk.1.1.2.1, hk.1.1.2.2⟩⟩⟩)⟩, ⟨by (with_reducible repeat (first | apply Kd.R_alloc | apply Kd.R_drewN | apply Kd.R_drew)); exact Kd.R_mono HO_443002.out (fun _ hk => ⟨hk.1.2, hk.1.1⟩)⟩, ⟨BK442.out⟩, ⟨HB.out⟩⟩
     case rest =>
      clear HC44
      skip
      obtain ⟨kq, x66_43, rfl, HA, HJ43, HO_7, HO_443000, HO_443001, HO_443002, BK442, HB⟩ := hcut
      cases kq with
      | zero => exact absurd HA.out (by simp [laws_FnNever.j2])
      | succ kj43 =>
       have H := HA.out
       clear HA
       simp only [laws_FnNever.j2] at H
       by_cases c69 : x66_43 = true
       case pos =>
        subst c69
        have H1 : (some false) = some r := by rw [if_pos rfl] at H; exact H
        clear H
        have H := H1
        exact absurd (H.trans (congrArg some hT_.out)) (by simp)
       replace c69 := Bool.eq_false_iff.mpr c69
       subst c69
       rw [if_neg (show ¬ (false = true) by decide)] at H
       replace H := Option.bind_eq_some_iff.mp H
       obtain ⟨t466, A700, H⟩ := H
       try dsimp only at H
       have A70 := K_ A700
       clear A700
       replace H := nn_ H
       obtain ⟨c71, H⟩ := H
       have c71b0 := beq_eq_false_iff_ne.mpr c71
       have c71b1 := bne_iff_ne.mpr c71
       have c71b2 : ¬ (t458 = []) := fun h_ => c71 (by rw [h_]; rfl)
       obtain ⟨ji72, hji72⟩ : ∃ j_ : Int, (Int.tmod t466 (t458.length : Int)) = j_ := ⟨_, rfl⟩
       replace H : (if 0 ≤ (ji72) then (if (ji72) < (t458.length : Int) then ((impl_Step.f kj43 x443000_2 x443001_2 x443002_2 (rd t458 (ji72))).bind fun bt468 => ((impl_StateOk.f kj43 bt468.1 bt468.2.1 bt468.2.2).bind fun t477 => (if t477 = 0 then ((impl_Safe.f kj43 bt468.1 bt468.2.1 bt468.2.2).bind fun t478 => (if t478 = true then (laws_FnNever.l0 kj43 l1 (wrap64 (x6_2 + 1)) bt468.1 bt468.2.1 bt468.2.2) else (some false))) else (some false)))) else (none)) else (none)) = some r := by first | (rw [hji72] at H; exact H) | (simp only [hji72] at H ⊢; exact H)
       (try rw [hji72] at A70)
       replace H := dn_ H
       obtain ⟨c73b0, H⟩ := H
       replace H := dn_ H
       obtain ⟨c74b0, H⟩ := H
       replace H := Option.bind_eq_some_iff.mp H
       obtain ⟨⟨t468, t471, t474⟩, A750, H⟩ := H
       try dsimp only at H
       have A75 := K_ A750
       clear A750
       replace H := Option.bind_eq_some_iff.mp H
       obtain ⟨t477, A760, H⟩ := H
       try dsimp only at H
       have A76 := K_ A760
       clear A760
       replace H := ps_ H
       rcases H with ⟨c77, H⟩ | ⟨c77, H⟩
       case inr =>
        exact absurd (H.trans (congrArg some hT_.out)) (by simp)
       have c77b0 := beq_iff_eq.mpr c77
       have c77b1 := bne_eq_false_iff_eq.mpr c77
       clear c77
       replace H := Option.bind_eq_some_iff.mp H
       obtain ⟨t478, A780, H⟩ := H
       try dsimp only at H
       have A78 := K_ A780
       clear A780
       by_cases c79 : t478 = true
       case neg =>
        replace c79 := Bool.eq_false_iff.mpr c79
        subst c79
        have H1 : (some false) = some r := by rw [if_neg (show ¬ (false = true) by decide)] at H; exact H
        clear H
        have H := H1
        exact absurd (H.trans (congrArg some hT_.out)) (by simp)
       subst c79
       rw [if_pos rfl] at H
       have H' := K_ H
       clear H
       try go_wp2
       have n0_ := K_ (Kd.R_drew HO_7.out)
       have n1_ := K_ (Kd.R_drew HO_443000.out)
       have n2_ := K_ (Kd.N_drew HO_443001.out)
       have n3_ := K_ (Kd.R_drew HO_443002.out)
       have n4_ := K_ (blk_drew BK442.out)
       have n5_ := K_ (below_drew1 HB.out)
       clear HO_7
       clear HO_443000
       clear HO_443001
       clear HO_443002
       clear BK442
       clear HB
       have HO_7 := n0_
       have HO_443000 := n1_
       have HO_443001 := n2_
       have HO_443002 := n3_
       have BK442 := n4_
       have HB := n5_
       clear n0_ n1_ n2_ n3_ n4_ n5_
       obtain ⟨Ao81, co81, eo81⟩ := Kd.R_slice HO_7.out
       (first | subst eo81 | (injection eo81 with f1_ f2_ f3_; have f4_ := f1_.symm; have f5_ := f3_.symm; clear f1_ f2_ f3_; subst f4_; subst f5_))
       have p467 : 0 ≤ ((ji72) : Int) := of_decide_eq_true (by assumption)
       have q467 : (ji72) < (t458.length : Int) := of_decide_eq_true (by assumption)
       obtain ⟨ad467, e467, hx467_0⟩ := Kd.at_int (Kd.R_reads' HO_7.out).2.2 (ji72) p467 q467
       cases e467
       replace p467 := eq_true p467
       replace q467 := eq_true q467
       refine start_ (n := 12) (S := fun w' => w'.cell? ⟨gb442, 0, none⟩ = some (.slice Ao47 x443000_2.length co47) ∧ w'.cell? ⟨gb442, 1, none⟩ = some (.slice Ao46 x443001_2.length co46) ∧ w'.cell? ⟨gb442, 2, none⟩ = some (.slice Ao48 x443002_2.length co48) ∧ w'.cell? (ad467.add ((ji72)).toNat) = some (.int .i64 (rd t458 (ji72)))) (ds := [11]) #[ff, ff, ff, ff, ff, ff, ff, ff, ff, ff, ff, ff] (by kernel_rfl) rfl rfl ⟨(blk_cell BK442.out 0).trans rfl, (blk_cell BK442.out 1).trans rfl, (blk_cell BK442.out 2).trans rfl, hx467_0⟩ (fun hHeld => ?_); refine with_tabW laws_FnNever.tab16 laws_FnNever.bits16 (fun HT_ HW_ => ?_)
       generalize wc.drew = w80 at HO_7 HO_443000 HO_443001 HO_443002 BK442 HB hx467_0 hHeld ⊢
       refine pure_ (i := 1) (N := some 68) (v := ?_) (a' := ?_) (M_ 12 2) rfl rfl (any_of HT_.out (by kernel_rfl)) (fun _ _ _ h => h) (Or.inl ⟨by rfl, ?_⟩) ?_ ?_
       rotate_left
       ·intro w'
        go_simp
        with_reducible rfl
       rotate_left
       ·simp only [P_, i64_w, i32_w]
        rfl
       refine pure_ (i := 2) (N := some 69) (v := ?_) (a' := ?_) (M_ 12 6) rfl rfl (any_of HT_.out (by kernel_rfl)) (fun _ _ _ h => h) (Or.inl ⟨by rfl, ?_⟩) ?_ ?_
       rotate_left
       ·intro w'
        go_simp
        with_reducible rfl
       rotate_left
       ·simp only [P_, i64_w, i32_w]
        rfl
       refine pure_ (i := 3) (N := some 70) (v := ?_) (a' := ?_) (M_ 12 14) rfl rfl (any_of HT_.out (by kernel_rfl)) (fun _ _ _ h => h) (Or.inl ⟨by rfl, ?_⟩) ?_ ?_
       rotate_left
       ·intro w'
        go_simp
        with_reducible rfl
       rotate_left
       ·simp only [P_, i64_w, i32_w]
        rfl
       refine pure_ (i := 5) (N := some 72) (v := ?_) (a' := ?_) (M_ 12 46) rfl rfl (any_of HT_.out (by kernel_rfl)) (fun _ _ _ h => h) (Or.inl ⟨by rfl, ?_⟩) ?_ ?_
       rotate_left
       ·intro w'
        go_simp
        with_reducible rfl
       rotate_left
       ·simp only [P_, i64_w, i32_w]
        rfl
       refine pure_ (i := 6) (N := some 73) (v := ?_) (a' := ?_) (M_ 12 110) rfl rfl (any_of HT_.out (by kernel_rfl)) (fun _ _ _ h => h) (Or.inl ⟨by rfl, ?_⟩) ?_ ?_
       rotate_left
       ·intro w'
        go_simp
        with_reducible rfl
       rotate_left
       ·simp only [P_, i64_w, i32_w]
        rfl
       refine take_ (i := 0) (N := some 67) (v := ?_) (a' := ?_) (M_ 12 111) rfl rfl (take_ofW HT_.out HW_.out (by kernel_rfl)) (fun _ _ _ h => h) (Or.inl ⟨by rfl, ?_⟩) hHeld ?_ ?_
       rotate_left
       ·rintro w' ⟨s0, s1, s2, s3⟩
        go_simp
        with_reducible rfl
       rotate_left
       ·simp only [P_, i64_w, i32_w]
        rfl
       refine one_ (i := 4) (N := some 71) (M_ 12 127) rfl rfl (one_of HT_.out (by kernel_rfl)) (by decide) (fun K hK => ?_)
       refine goes_ Try.func25 (by kernel_rfl) rfl #[.slice A1 l1.length c1, .int .i64 x6_2] (by rfl) rfl rfl (by simp only [List.map_toArray, List.map_cons, List.map_nil]; try rfl) ?_
       with_reducible refine (laws_wByte.calls _ _ l1 x6_2 t466 _ ?side1 ?side2 A70.out).mono ?_
       (case side1 => exact (Kd.C_below HR1.out HB.out))
       (case side2 => exact HC1.out)
       rintro e w' ⟨rfl, ⟨nd, rfl⟩⟩
       refine ⟨_, rfl, ?_⟩
       refine hK.out _ _ ⟨(blk_cell BK442.out 0).trans rfl, (blk_cell BK442.out 1).trans rfl, (blk_cell BK442.out 2).trans rfl, hHeld.2.2.2⟩ (fun hHeld => ?_)
       clear hK K
       refine norm_ (a' := ?_) ?_ ?_
       rotate_left
       ·show Act.put _ (some 71) _ = _
        simp only [P_, i64_w, i32_w]
        rfl
       refine pure_ (i := 7) (N := some 74) (v := ?_) (a' := ?_) (M_ 12 255) rfl rfl (any_of HT_.out (by kernel_rfl)) (fun _ _ _ h => h) (Or.inl ⟨by rfl, ?_⟩) ?_ ?_
       rotate_left
       ·intro w'
        go_simp
        with_reducible rfl
       rotate_left
       ·simp only [P_, i64_w, i32_w]
        rfl
       refine pure_ (i := 8) (N := some 75) (v := ?_) (a' := ?_) (M_ 12 511) rfl rfl (any_of HT_.out (by kernel_rfl)) (fun _ _ _ h => h) (Or.inl ⟨by rfl, ?_⟩) ?_ ?_
       rotate_left
       ·intro w'
        go_simp
        with_reducible rfl
       rotate_left
       ·simp only [P_, i64_w, i32_w]
        rfl
       refine take_ (i := 9) (N := some 76) (v := ?_) (a' := ?_) (M_ 12 1023) rfl rfl (take_ofW HT_.out HW_.out (by kernel_rfl)) (fun _ _ _ h => h) (Or.inl ⟨by rfl, ?_⟩) hHeld ?_ ?_
       rotate_left
       ·rintro w' ⟨s0, s1, s2, s3⟩
        go_simp
        with_reducible rfl
       rotate_left
       ·simp only [P_, i64_w, i32_w]
        rfl
       refine one_ (i := 10) (N := some 77) (M_ 12 2047) rfl rfl (one_of HT_.out (by kernel_rfl)) (by decide) (fun K hK => ?_)
       refine goes_ Try.func33 (by kernel_rfl) rfl #[.agg #[.slice Ao47 x443000_2.length co47, .slice Ao46 x443001_2.length co46, .slice Ao48 x443002_2.length co48], .int .i64 (rd t458 (ji72))] (by rfl) rfl rfl (by (try simp only [List.map_toArray, List.map_cons, List.map_nil]); first | done | (simp only [hji72]; rfl) | rfl | (simp only [List.length_drop, List.length_take]; rfl)) ?_
       with_reducible refine (impl_Step.calls kj43 _ _ x443000_2 _ _ x443001_2 _ _ x443002_2 (rd t458 (ji72)) t468 t471 t474 _ ?side1 ?side2 ?side3 ?side4 ?side5 ?side6 A75.out).mono ?_
       (case side1 => exact (Kd.R_reads' HO_443000.out).2.2)
       (case side2 => exact (Kd.R_reads' HO_443000.out).2.1)
       (case side3 => exact (Kd.N_reads' HO_443001.out).2.2)
       (case side4 => exact (Kd.N_reads' HO_443001.out).2.1)
       (case side5 => exact (Kd.R_reads' HO_443002.out).2.2)
       (case side6 => exact (Kd.R_reads' HO_443002.out).2.1)
       rintro e w82 ⟨v469, v472, v475, rfl, ho0, ho1, ho2, hb⟩
       have HS3_ := (hb.cell (World.block_lt_of_cell? _ _ (hHeld.2.2.2))).trans (hHeld.2.2.2)
       refine ⟨_, rfl, ?_⟩
       have n0_ := K_ (Kd.R_mono (Kd.R_told (Kd.R_told (Kd.R_old (by (with_reducible repeat (first | apply Kd.R_alloc | apply Kd.R_drewN | apply Kd.R_drew)); exact HO_7.out) hb) (Kd.R_base ho0)) (Kd.R_base ho2)) (fun _ h_ => h_.1))
       have n1_ := K_ (Kd.R_mono (Kd.R_told (Kd.R_told (Kd.R_old (by (with_reducible repeat (first | apply Kd.R_alloc | apply Kd.R_drewN | apply Kd.R_drew)); exact HO_443000.out) hb) (Kd.R_base ho0)) (Kd.R_base ho2)) (fun _ h_ => h_.1))
       have n2_ := K_ (Kd.N_mono (Kd.N_told (Kd.N_told (Kd.N_told (Kd.N_old (by (with_reducible repeat (first | apply Kd.N_alloc | apply Kd.N_drewN | apply Kd.N_drew)); exact HO_443001.out) hb) (Kd.R_base ho0)) (Kd.N_base ho1)) (Kd.R_base ho2)) (fun _ h_ => h_.1))
       have n3_ := K_ (Kd.R_mono (Kd.R_told (Kd.R_told (Kd.R_old (by (with_reducible repeat (first | apply Kd.R_alloc | apply Kd.R_drewN | apply Kd.R_drew)); exact HO_443002.out) hb) (Kd.R_base ho0)) (Kd.R_base ho2)) (fun _ h_ => h_.1))
       have n4_ := K_ (Kd.R_lower (Kd.R_new' (Kd.R_new' (Kd.R_new' (Kd.R_mono (ok' := fun k_ => some k_ ≠ (v475 : Value).ownBlock) ho0 (fun _ hk_ => hk_.2)) (Kd.R_lt (by (with_reducible repeat (first | apply Kd.R_alloc | apply Kd.R_drewN | apply Kd.R_drew)); exact HO_7.out))) (Kd.R_lt (by (with_reducible repeat (first | apply Kd.R_alloc | apply Kd.R_drewN | apply Kd.R_drew)); exact HO_443000.out))) (Kd.R_lt (by (with_reducible repeat (first | apply Kd.R_alloc | apply Kd.R_drewN | apply Kd.R_drew)); exact HO_443002.out))) (below_size (by repeat (first | (with_reducible first | exact HB.out | apply below_alloc | apply pw_below_drewN | apply below_drew1 | refine below_set ?_ GE442.out) | exact HB.out))))
       have n5_ := K_ (Kd.N_lower (Kd.N_mono (ok' := fun k_ => some k_ ≠ (v469 : Value).ownBlock ∧ some k_ ≠ (v475 : Value).ownBlock ∧ some k_ ≠ (.slice (some ad467) t458.length co81 : Value).ownBlock ∧ some k_ ≠ (.slice Ao47 x443000_2.length co47 : Value).ownBlock ∧ some k_ ≠ (.slice Ao46 x443001_2.length co46 : Value).ownBlock ∧ some k_ ≠ (.slice Ao48 x443002_2.length co48 : Value).ownBlock ∧ k_ ≠ gb442) ho1 (fun k_ hk_ => ⟨hk_.2.1, hk_.2.2, (Kd.fresh' (Kd.R_lt (by (with_reducible repeat (first | apply Kd.R_alloc | apply Kd.R_drewN | apply Kd.R_drew)); exact HO_7.out)) k_ hk_.1), (Kd.fresh' (Kd.R_lt (by (with_reducible repeat (first | apply Kd.R_alloc | apply Kd.R_drewN | apply Kd.R_drew)); exact HO_443000.out)) k_ hk_.1), (Kd.fresh' (Kd.N_lt (by (with_reducible repeat (first | apply Kd.N_alloc | apply Kd.N_drewN | apply Kd.N_drew)); exact HO_443001.out)) k_ hk_.1), (Kd.fresh' (Kd.R_lt (by (with_reducible repeat (first | apply Kd.R_alloc | apply Kd.R_drewN | apply Kd.R_drew)); exact HO_443002.out)) k_ hk_.1), (Kd.freshB (g := gb442) (o := .cells #[.slice Ao47 x443000_2.length co47, .slice Ao46 x443001_2.length co46, .slice Ao48 x443002_2.length co48] 26 (0, 0)) (by (with_reducible repeat (first | refine blk_drewN ?_ _ | refine blk_drew ?_ | refine blk_alloc ?_ _)); exact BK442.out) k_ hk_.1)⟩)) (below_size (by repeat (first | (with_reducible first | exact HB.out | apply below_alloc | apply pw_below_drewN | apply below_drew1 | refine below_set ?_ GE442.out) | exact HB.out))))
       have n6_ := K_ (Kd.R_lower (Kd.R_new' (Kd.R_new' (Kd.R_new' (Kd.R_mono (ok' := fun k_ => some k_ ≠ (v469 : Value).ownBlock) ho2 (fun _ hk_ => hk_.2)) (Kd.R_lt (by (with_reducible repeat (first | apply Kd.R_alloc | apply Kd.R_drewN | apply Kd.R_drew)); exact HO_7.out))) (Kd.R_lt (by (with_reducible repeat (first | apply Kd.R_alloc | apply Kd.R_drewN | apply Kd.R_drew)); exact HO_443000.out))) (Kd.R_lt (by (with_reducible repeat (first | apply Kd.R_alloc | apply Kd.R_drewN | apply Kd.R_drew)); exact HO_443002.out))) (below_size (by repeat (first | (with_reducible first | exact HB.out | apply below_alloc | apply pw_below_drewN | apply below_drew1 | refine below_set ?_ GE442.out) | exact HB.out))))
       have n7_ := K_ (blk_below (g := gb442) (o := .cells #[.slice Ao47 x443000_2.length co47, .slice Ao46 x443001_2.length co46, .slice Ao48 x443002_2.length co48] 26 (0, 0)) (by (with_reducible repeat (first | refine blk_drewN ?_ _ | refine blk_drew ?_ | refine blk_alloc ?_ _)); exact BK442.out) hb)
       have n8_ := K_ (below_step (by repeat (first | (with_reducible first | exact HB.out | apply below_alloc | apply pw_below_drewN | apply below_drew1 | refine below_set ?_ GE442.out) | exact HB.out)) hb)
       clear HO_7
       clear HO_443000
       clear HO_443001
       clear HO_443002
       clear BK442
       clear HB
       have HO_7 := n0_
       have HO_443000 := n1_
       have HO_443001 := n2_
       have HO_443002 := n3_
       have HO470 := n4_
       have HO473 := n5_
       have HO476 := n6_
       have BK442 := n7_
       have HB := n8_
       clear n0_ n1_ n2_ n3_ n4_ n5_ n6_ n7_ n8_
       (try clear hb)
       (try clear hb2)
       (try clear hk)
       (try clear hi)
       clear ho0
       clear ho1
       (try clear ho2)
       obtain ⟨Ao83, co83, eo83⟩ := Kd.R_slice HO470.out
       (first | subst eo83 | (injection eo83 with f1_ f2_ f3_; have f4_ := f1_.symm; have f5_ := f3_.symm; clear f1_ f2_ f3_; subst f4_; subst f5_))
       obtain ⟨Ao85, co85, eo85⟩ := Kd.N_slice HO473.out
       (first | subst eo85 | (injection eo85 with f1_ f2_ f3_; have f4_ := f1_.symm; have f5_ := f3_.symm; clear f1_ f2_ f3_; subst f4_; subst f5_))
       obtain ⟨Ao87, co87, eo87⟩ := Kd.R_slice HO476.out
       (first | subst eo87 | (injection eo87 with f1_ f2_ f3_; have f4_ := f1_.symm; have f5_ := f3_.symm; clear f1_ f2_ f3_; subst f4_; subst f5_))
       refine hK.out _ _ ⟨(blk_cell BK442.out 0).trans rfl, (blk_cell BK442.out 1).trans rfl, (blk_cell BK442.out 2).trans rfl, HS3_⟩ (fun hHeld => ?_)
       clear hK K
       refine norm_ (a' := ?_) ?_ ?_
       rotate_left
       ·show Act.put _ (some 77) _ = _
        simp only [P_, i64_w, i32_w]
        rfl
       refine last_ (i := 11) (N := none) (M_ 12 4095) rfl rfl (one_of HT_.out (by kernel_rfl)) (by decide) (fun K hK => ?_)
       have hs84 : w82.cell? ⟨gb442, 0, none⟩ = some (.slice Ao47 x443000_2.length co47) := (blk_cell BK442.out 0).trans rfl
       have hfs84 := blk_frozen BK442.out 0
       have hs86 : w82.cell? ⟨gb442, 1, none⟩ = some (.slice Ao46 x443001_2.length co46) := (blk_cell BK442.out 1).trans rfl
       have hfs86 := blk_frozen BK442.out 1
       have hs88 : w82.cell? ⟨gb442, 2, none⟩ = some (.slice Ao48 x443002_2.length co48) := (blk_cell BK442.out 2).trans rfl
       have hfs88 := blk_frozen BK442.out 2
       refine skip_ (w1 := ?_) (by rfl) rfl ?_ ?_
       rotate_left
       ·go_simp
        rfl
       refine hK.out _ _ ?_
       clear hK K
       refine done_ (done_of HT_.out (by kernel_rfl)) ?_
       obtain ⟨hcz89_0, hcz89_1, hcz89_2, hfz89_0, hfz89_1, hfz89_2⟩ := blkf3_ BK442.out
       try go_wp2_with (first | ((with_reducible refine gate_callee (f := 41) rfl ?_); refine goesL_ (some 79) rfl rfl Try.func41 (by kernel_rfl) rfl #[.agg #[.slice Ao83 t468.length co83, .slice Ao85 t471.length co85, .slice Ao87 t474.length co87]] rfl (by (try simp only [List.map_toArray, List.map_cons, List.map_nil]); first | done | rfl | (simp only [List.length_drop, List.length_take]; rfl)) ?_; (with_reducible refine (impl_StateOk.calls kj43 _ _ t468 _ _ t471 _ _ t474 t477 _ ?side1 ?side2 ?side3 ?side4 ?side5 ?side6 A76.out).mono ?_); (case side1 => refine (Kd.R_reads' (e := 3) (base := w.heap.size) (ok := fun k_ => (((some k_ ≠ (.slice Ao87 t474.length co87 : Value).ownBlock ∧ some k_ ≠ (.slice (some ad467) t458.length co81 : Value).ownBlock) ∧ some k_ ≠ (.slice Ao47 x443000_2.length co47 : Value).ownBlock) ∧ some k_ ≠ (.slice Ao48 x443002_2.length co48 : Value).ownBlock)) (n := t468.length) (c := co83) ?_).2.2; exact (by (with_reducible repeat (first | apply Kd.R_alloc | apply Kd.R_drewN | apply Kd.R_drew)); exact (Kd.R_mono (Kd.R_far (p := ⟨gb442, 2, none⟩) (Kd.R_far (p := ⟨gb442, 1, none⟩) (Kd.R_far (p := ⟨gb442, 0, none⟩) (Kd.R_types HO470.out BK442.out (by decide)) (fun _ hk => hk.2) (.slice Ao83 t468.length co83)) (fun _ hk => hk.2) (.slice Ao85 t471.length co85)) (fun _ hk => hk.2) (.slice Ao87 t474.length co87)) (fun _ h_ => h_.1)))); (case side2 => exact (Kd.R_reads' HO470.out).2.1); (case side3 => refine (Kd.N_reads' (e := 35) (base := w.heap.size) (ok := fun k_ => (some k_ ≠ (.slice Ao83 t468.length co83 : Value).ownBlock ∧ (some k_ ≠ (.slice Ao87 t474.length co87 : Value).ownBlock ∧ (some k_ ≠ (.slice (some ad467) t458.length co81 : Value).ownBlock ∧ (some k_ ≠ (.slice Ao47 x443000_2.length co47 : Value).ownBlock ∧ (some k_ ≠ (.slice Ao46 x443001_2.length co46 : Value).ownBlock ∧ (some k_ ≠ (.slice Ao48 x443002_2.length co48 : Value).ownBlock ∧ k_ ≠ gb442))))))) (n := t471.length) (c := co85) ?_).2.2; exact (by (with_reducible repeat (first | apply Kd.N_alloc | apply Kd.N_drewN | apply Kd.N_drew)); exact (Kd.N_mono (Kd.N_far (p := ⟨gb442, 2, none⟩) (Kd.N_far (p := ⟨gb442, 1, none⟩) (Kd.N_far (p := ⟨gb442, 0, none⟩) (Kd.N_mono HO473.out (fun k_ hk => (⟨hk, hk.2.2.2.2.2.2⟩ : _ ∧ k_ ≠ gb442))) (fun _ hk => hk.2) (.slice Ao83 t468.length co83)) (fun _ hk => hk.2) (.slice Ao85 t471.length co85)) (fun _ hk => hk.2) (.slice Ao87 t474.length co87)) (fun _ h_ => h_.1)))); (case side4 => exact (Kd.N_reads' HO473.out).2.1); (case side5 => refine (Kd.R_reads' (e := 3) (base := w.heap.size) (ok := fun k_ => (((some k_ ≠ (.slice Ao83 t468.length co83 : Value).ownBlock ∧ some k_ ≠ (.slice (some ad467) t458.length co81 : Value).ownBlock) ∧ some k_ ≠ (.slice Ao47 x443000_2.length co47 : Value).ownBlock) ∧ some k_ ≠ (.slice Ao48 x443002_2.length co48 : Value).ownBlock)) (n := t474.length) (c := co87) ?_).2.2; exact (by (with_reducible repeat (first | apply Kd.R_alloc | apply Kd.R_drewN | apply Kd.R_drew)); exact (Kd.R_mono (Kd.R_far (p := ⟨gb442, 2, none⟩) (Kd.R_far (p := ⟨gb442, 1, none⟩) (Kd.R_far (p := ⟨gb442, 0, none⟩) (Kd.R_types HO476.out BK442.out (by decide)) (fun _ hk => hk.2) (.slice Ao83 t468.length co83)) (fun _ hk => hk.2) (.slice Ao85 t471.length co85)) (fun _ hk => hk.2) (.slice Ao87 t474.length co87)) (fun _ h_ => h_.1)))); (case side6 => exact (Kd.R_reads' HO476.out).2.1); rintro e w90 ⟨rfl, hb⟩; refine ⟨_, rfl, ?_⟩; replace HO_7 := K_ (Kd.R_below (by (with_reducible repeat (first | apply Kd.R_alloc | apply Kd.R_drewN | apply Kd.R_drew)); exact (Kd.R_mono (Kd.R_far (p := ⟨gb442, 2, none⟩) (Kd.R_far (p := ⟨gb442, 1, none⟩) (Kd.R_far (p := ⟨gb442, 0, none⟩) (Kd.R_types HO_7.out BK442.out (by decide)) (fun _ hk => hk.2) (.slice Ao83 t468.length co83)) (fun _ hk => hk.2) (.slice Ao85 t471.length co85)) (fun _ hk => hk.2) (.slice Ao87 t474.length co87)) (fun _ h_ => h_.1))) hb); replace HO_443000 := K_ (Kd.R_below (by (with_reducible repeat (first | apply Kd.R_alloc | apply Kd.R_drewN | apply Kd.R_drew)); exact (Kd.R_mono (Kd.R_far (p := ⟨gb442, 2, none⟩) (Kd.R_far (p := ⟨gb442, 1, none⟩) (Kd.R_far (p := ⟨gb442, 0, none⟩) (Kd.R_types HO_443000.out BK442.out (by decide)) (fun _ hk => hk.2) (.slice Ao83 t468.length co83)) (fun _ hk => hk.2) (.slice Ao85 t471.length co85)) (fun _ hk => hk.2) (.slice Ao87 t474.length co87)) (fun _ h_ => h_.1))) hb); replace HO_443001 := K_ (Kd.N_below (by (with_reducible repeat (first | apply Kd.N_alloc | apply Kd.N_drewN | apply Kd.N_drew)); exact (Kd.N_mono (Kd.N_far (p := ⟨gb442, 2, none⟩) (Kd.N_far (p := ⟨gb442, 1, none⟩) (Kd.N_far (p := ⟨gb442, 0, none⟩) (Kd.N_mono HO_443001.out (fun k_ hk => (⟨hk, hk.1.1.1.2.2.2⟩ : _ ∧ k_ ≠ gb442))) (fun _ hk => hk.2) (.slice Ao83 t468.length co83)) (fun _ hk => hk.2) (.slice Ao85 t471.length co85)) (fun _ hk => hk.2) (.slice Ao87 t474.length co87)) (fun _ h_ => h_.1))) hb); replace HO_443002 := K_ (Kd.R_below (by (with_reducible repeat (first | apply Kd.R_alloc | apply Kd.R_drewN | apply Kd.R_drew)); exact (Kd.R_mono (Kd.R_far (p := ⟨gb442, 2, none⟩) (Kd.R_far (p := ⟨gb442, 1, none⟩) (Kd.R_far (p := ⟨gb442, 0, none⟩) (Kd.R_types HO_443002.out BK442.out (by decide)) (fun _ hk => hk.2) (.slice Ao83 t468.length co83)) (fun _ hk => hk.2) (.slice Ao85 t471.length co85)) (fun _ hk => hk.2) (.slice Ao87 t474.length co87)) (fun _ h_ => h_.1))) hb); replace HO470 := K_ (Kd.R_below (by (with_reducible repeat (first | apply Kd.R_alloc | apply Kd.R_drewN | apply Kd.R_drew)); exact (Kd.R_mono (Kd.R_far (p := ⟨gb442, 2, none⟩) (Kd.R_far (p := ⟨gb442, 1, none⟩) (Kd.R_far (p := ⟨gb442, 0, none⟩) (Kd.R_types HO470.out BK442.out (by decide)) (fun _ hk => hk.2) (.slice Ao83 t468.length co83)) (fun _ hk => hk.2) (.slice Ao85 t471.length co85)) (fun _ hk => hk.2) (.slice Ao87 t474.length co87)) (fun _ h_ => h_.1))) hb); replace HO473 := K_ (Kd.N_below (by (with_reducible repeat (first | apply Kd.N_alloc | apply Kd.N_drewN | apply Kd.N_drew)); exact (Kd.N_mono (Kd.N_far (p := ⟨gb442, 2, none⟩) (Kd.N_far (p := ⟨gb442, 1, none⟩) (Kd.N_far (p := ⟨gb442, 0, none⟩) (Kd.N_mono HO473.out (fun k_ hk => (⟨hk, hk.2.2.2.2.2.2⟩ : _ ∧ k_ ≠ gb442))) (fun _ hk => hk.2) (.slice Ao83 t468.length co83)) (fun _ hk => hk.2) (.slice Ao85 t471.length co85)) (fun _ hk => hk.2) (.slice Ao87 t474.length co87)) (fun _ h_ => h_.1))) hb); replace HO476 := K_ (Kd.R_below (by (with_reducible repeat (first | apply Kd.R_alloc | apply Kd.R_drewN | apply Kd.R_drew)); exact (Kd.R_mono (Kd.R_far (p := ⟨gb442, 2, none⟩) (Kd.R_far (p := ⟨gb442, 1, none⟩) (Kd.R_far (p := ⟨gb442, 0, none⟩) (Kd.R_types HO476.out BK442.out (by decide)) (fun _ hk => hk.2) (.slice Ao83 t468.length co83)) (fun _ hk => hk.2) (.slice Ao85 t471.length co85)) (fun _ hk => hk.2) (.slice Ao87 t474.length co87)) (fun _ h_ => h_.1))) hb); replace BK442 := K_ (blk_below (g := gb442) (o := .cells #[.slice Ao83 t468.length co83, .slice Ao85 t471.length co85, .slice Ao87 t474.length co87] 26 (0, 0)) (by (with_reducible repeat (first | refine blk_drewN ?_ _ | refine blk_drew ?_ | refine blk_alloc ?_ _)); refine blk_put (cs := #[.slice Ao83 t468.length co83, .slice Ao85 t471.length co85, .slice Ao48 x443002_2.length co48]) ?_ 2 _ rfl; (with_reducible repeat (first | refine blk_drewN ?_ _ | refine blk_drew ?_ | refine blk_alloc ?_ _)); refine blk_put (cs := #[.slice Ao83 t468.length co83, .slice Ao46 x443001_2.length co46, .slice Ao48 x443002_2.length co48]) ?_ 1 _ rfl; (with_reducible repeat (first | refine blk_drewN ?_ _ | refine blk_drew ?_ | refine blk_alloc ?_ _)); refine blk_put (cs := #[.slice Ao47 x443000_2.length co47, .slice Ao46 x443001_2.length co46, .slice Ao48 x443002_2.length co48]) ?_ 0 _ rfl; (with_reducible repeat (first | refine blk_drewN ?_ _ | refine blk_drew ?_ | refine blk_alloc ?_ _)); exact BK442.out) hb); replace HB := K_ (below_step (by repeat (first | (with_reducible first | exact HB.out | apply below_alloc | apply pw_below_drewN | apply below_drew1 | refine below_set ?_ GE442.out) | exact HB.out)) hb); (try clear hb); (try clear hb2); (try clear hk); (try clear hi); obtain ⟨hcz91_0, hcz91_1, hcz91_2, hfz91_0, hfz91_1, hfz91_2⟩ := blkf3_ BK442.out) | (go_at_call 30; (with_reducible refine (impl_Safe.calls kj43 _ _ t468 _ _ t471 _ _ t474 true _ ?side1 ?side2 ?side3 ?side4 ?side5 ?side6 A78.out).mono ?_); (case side1 => repeat (first | exact (Kd.R_reads' HO470.out).2.2 | (with_reducible refine Kd.C_alloc ?_ _) | (with_reducible refine Kd.C_drewN ?_ _) | (with_reducible refine Kd.C_drew ?_))); (case side2 => exact (Kd.R_reads' HO470.out).2.1); (case side3 => repeat (first | exact (Kd.N_reads' HO473.out).2.2 | (with_reducible refine Kd.C_alloc ?_ _) | (with_reducible refine Kd.C_drewN ?_ _) | (with_reducible refine Kd.C_drew ?_))); (case side4 => exact (Kd.N_reads' HO473.out).2.1); (case side5 => repeat (first | exact (Kd.R_reads' HO476.out).2.2 | (with_reducible refine Kd.C_alloc ?_ _) | (with_reducible refine Kd.C_drewN ?_ _) | (with_reducible refine Kd.C_drew ?_))); (case side6 => exact (Kd.R_reads' HO476.out).2.1); rintro e w92 ⟨rfl, hb⟩; replace HO_7 := K_ (Kd.R_below (by (with_reducible repeat (first | apply Kd.R_alloc | apply Kd.R_drewN | apply Kd.R_drew)); exact HO_7.out) hb); replace HO_443000 := K_ (Kd.R_below (by (with_reducible repeat (first | apply Kd.R_alloc | apply Kd.R_drewN | apply Kd.R_drew)); exact HO_443000.out) hb); replace HO_443001 := K_ (Kd.N_below (by (with_reducible repeat (first | apply Kd.N_alloc | apply Kd.N_drewN | apply Kd.N_drew)); exact HO_443001.out) hb); replace HO_443002 := K_ (Kd.R_below (by (with_reducible repeat (first | apply Kd.R_alloc | apply Kd.R_drewN | apply Kd.R_drew)); exact HO_443002.out) hb); replace HO470 := K_ (Kd.R_below (by (with_reducible repeat (first | apply Kd.R_alloc | apply Kd.R_drewN | apply Kd.R_drew)); exact HO470.out) hb); replace HO473 := K_ (Kd.N_below (by (with_reducible repeat (first | apply Kd.N_alloc | apply Kd.N_drewN | apply Kd.N_drew)); exact HO473.out) hb); replace HO476 := K_ (Kd.R_below (by (with_reducible repeat (first | apply Kd.R_alloc | apply Kd.R_drewN | apply Kd.R_drew)); exact HO476.out) hb); replace BK442 := K_ (blk_below (g := gb442) (o := .cells #[.slice Ao83 t468.length co83, .slice Ao85 t471.length co85, .slice Ao87 t474.length co87] 26 (0, 0)) (by (with_reducible repeat (first | refine blk_drewN ?_ _ | refine blk_drew ?_ | refine blk_alloc ?_ _)); exact BK442.out) hb); replace HB := K_ (below_step (by repeat (first | (with_reducible first | exact HB.out | apply below_alloc | apply pw_below_drewN | apply below_drew1 | refine below_set ?_ GE442.out) | exact HB.out)) hb); (try clear hb); (try clear hb2); (try clear hk); (try clear hi)))
       go_roundg kj43
       case measure => have := HJ2.out; have := HK2.out; have := HJ43.out; omega
       case rel => exact ⟨(wrap64 (x6_2 + 1)), (t468), (t471), (t474), (.slice Ao83 t468.length co83), (.slice Ao85 t471.length co85), (.slice Ao87 t474.length co87), rfl, H', ⟨by have := HJ2.out; have := HK2.out; have := HJ43.out; omega⟩, ⟨by exact Kd.R_mono HO470.out (fun _ hk => hk.1.1.1)⟩, ⟨by exact Kd.N_mono HO473.out (fun _ hk => ⟨hk.1, ⟨hk.2.1, hk.2.2.2.2.2.2⟩⟩)⟩, ⟨by (with_reducible repeat (first | apply Kd.R_alloc | apply Kd.R_drewN | apply Kd.R_drew)); exact Kd.R_mono HO476.out (fun _ hk => hk.1.1.1)⟩, ⟨BK442.out⟩, ⟨HB.out⟩⟩
/-- THE ONE PURE STATEMENT of laws_FnNever: yours. -/
def laws_FnNever.Pure : Prop := ∀ (l0 : List Int) (l1 : List Int), l0.length ≤ maxLen → l0.length * 1 ≤ 140737488351232 → (∀ x ∈ l0, (Lit.int .u8 x).wf = true) → l1.length ≤ maxLen → l1.length * 1 ≤ 140737488351232 → (∀ x ∈ l1, (Lit.int .u8 x).wf = true) → ∃ k, laws_FnNever.f k l0 l1 = some true
theorem laws_FnNever.walk (P : laws_FnNever.Pure) (a0 : Option Addr) (len0 cap0 : Nat) (z0 : List Int) (a1 : Option Addr) (len1 cap1 : Nat) (z1 : List Int) (w : World) (w0 : (a0 = none ∧ len0 = 0 ∧ cap0 = 0 ∧ z0 = []) ∨ ∃ x, a0 = some x ∧ len0 ≤ cap0 ∧ cap0 ≤ maxLen ∧ z0.length = cap0 ∧ (∀ i, i < z0.length → w.cell? (x.add i) = some (.int .u8 (z0.getD i 0))) ∧ ∀ n ∈ z0, (Lit.int .u8 n).wf = true) (y0 : len0 * 1 ≤ 140737488351232) (w1 : (a1 = none ∧ len1 = 0 ∧ cap1 = 0 ∧ z1 = []) ∨ ∃ x, a1 = some x ∧ len1 ≤ cap1 ∧ cap1 ≤ maxLen ∧ z1.length = cap1 ∧ (∀ i, i < z1.length → w.cell? (x.add i) = some (.int .u8 (z1.getD i 0))) ∧ ∀ n ∈ z1, (Lit.int .u8 n).wf = true) (y1 : len1 * 1 ≤ 140737488351232) :
  Calls Try.prog 9 #[.slice a0 len0 cap0, .slice a1 len1 cap1] w fun e w' => e = .returned (.bool true) ∧ Below w.heap.size w w' := by
 obtain ⟨l0, rfl, hr0, hm0, hw0, hc0⟩ := ReadsInt.ofRowC w0
 obtain ⟨l1, rfl, hr1, hm1, hw1, hc1⟩ := ReadsInt.ofRowC w1
 obtain ⟨k, h⟩ := P l0 l1 hm0 y0 hw0 hm1 y1 hw1
 refine (laws_FnNever.calls k _ _ l0 _ _ l1 true w (Kd.C_of_reads (d := (0 : Int)) (h1 := fun _ => rfl) hr0) hc0 (Kd.C_of_reads (d := (0 : Int)) (h1 := fun _ => rfl) hr1) hc1 ⟨rfl⟩ h).mono ?_
 rintro e w' ⟨rfl, hd⟩
 exact ⟨rfl, hd⟩


end Go.Proofs.Ytpbclogjoangfaa.Q
