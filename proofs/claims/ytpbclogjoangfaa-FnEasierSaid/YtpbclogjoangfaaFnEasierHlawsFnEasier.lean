-- Written by programs of this session (wip/drv.py, wip/hx.py) over the kit's print; not trusted: Lean checks it.
import Derived.Test.YtpbclogjoangfaaFnEasierQ0
import Derived.Test.YtpbclogjoangfaaFnEasierQ4
import Derived.Test.YtpbclogjoangfaaFnEasierSp6
import Derived.Test.YtpbclogjoangfaaFnEasierHkb
import Derived.Test.YtpbclogjoangfaaFnEasierSo2
import Derived.Test.YtpbclogjoangfaaFnEasierHke
import Derived.Test.YtpbclogjoangfaaFnEasierSo4
import Derived.Test.YtpbclogjoangfaaFnEasierHkf
import Derived.Test.YtpbclogjoangfaaFnEasierSt0
import Derived.Test.YtpbclogjoangfaaFnEasierH0
namespace Go.Proofs.Ytpbclogjoangfaa.Q
open Go.RowKit Go.Proofs.YtpbclogjoangfaaW.PrintWords Go.Proofs.YtpbclogjoangfaaW.PrintLast Go.Proofs.YtpbclogjoangfaaW.PrintMore
attribute [local go_sem] max2_int min2_int max_two min_two max_three min_three max_four min_four   -- for this text's walks alone
set_option linter.unusedVariables false
set_option linter.unusedSimpArgs false

theorem own_sl_ (A : Option Addr) (n c : Nat) : (Value.slice A n c).ownBlock = A.map (fun a => a.block) := by cases A <;> rfl
theorem add0_ (g n : Nat) : (⟨g, 0, none⟩ : Addr).add n = ⟨g, n, none⟩ := by unfold Addr.add; by_cases h : n = 0 <;> simp [h]
open Go.Proofs.Ytpbclogjoangfaa.Sp Go.Proofs.Ytpbclogjoangfaa.So Go.Proofs.Ytpbclogjoangfaa.St
/-! ### laws_FnEasier: function 5 -/
mutual
def laws_FnEasier.j0 : Nat → List Int → List Int → Bool → Option (Bool)
 | 0, _, _, _ => none
 | k + 1, x0, x1, x16 => if x16 = true then (some true) else ((spec_States.f k x0).bind fun bt303 => ((impl_Solve.f k bt303.1 bt303.2.1 bt303.2.2).bind fun bt313 => (if bt313.1 = true then ((spec_States.f k x0).bind fun bt320 => ((laws_wByte.f x1 0).bind fun t330 => (if (Int.tmod t330 2) = 0 then (laws_FnEasier.j1 k x1 true bt313.1 bt313.2.1 bt313.2.2 bt320.1 bt320.2.1 bt320.2.2) else (laws_FnEasier.j1 k x1 ((bt320.2.1.length : Int) == 0) bt313.1 bt313.2.1 bt313.2.2 bt320.1 bt320.2.1 bt320.2.2)))) else ((spec_Safe.f k bt303.1 bt303.2.1 bt303.2.2).bind fun t319 => (some (!t319))))))
def laws_FnEasier.j1 : Nat → List Int → Bool → Bool → Int → List Int → List Int → List (S35) → List Int → Option (Bool)
 | 0, _, _, _, _, _, _, _, _ => none
 | k + 1, x1, x38, x319000, x319001, x319002, x330000, x330001, x330002 => if x38 = true then ((laws_wByte.f x1 1).bind fun t331 => (if (x330000.length : Int) = 0 then (none) else (if 0 ≤ (Int.tmod t331 (x330000.length : Int)) then (if (Int.tmod t331 (x330000.length : Int)) < (x330000.length : Int) then ((some (x330000.set ((Int.tmod t331 (x330000.length : Int)) : Int).toNat (wrap64 ((rd x330000 (Int.tmod t331 (x330000.length : Int))) + 1)) : List Int)).bind fun y333 => ((impl_Solve.f k y333 x330001 x330002).bind fun bt334 => (if bt334.1 = true then (if bt334.2.1 ≤ x319001 then ((spec_Solve.f k y333 x330001 x330002).bind fun bt340 => (some (bt334.2.1 == bt340.2.1))) else (some false)) else (some false)))) else (none)) else (none)))) else (if 0 ≤ (wrap64 ((x330001.length : Int) - 1)) then (if (wrap64 ((x330001.length : Int) - 1)) ≤ (x330001.length : Int) then ((some (x330001.take ((wrap64 ((x330001.length : Int) - 1)) : Int).toNat : List (S35))).bind fun y345 => (if 0 ≤ (wrap64 ((x330002.length : Int) - 1)) then (if (wrap64 ((x330002.length : Int) - 1)) ≤ (x330002.length : Int) then ((some (x330002.take ((wrap64 ((x330002.length : Int) - 1)) : Int).toNat : List Int)).bind fun y348 => ((impl_Solve.f k x330000 y345 y348).bind fun bt351 => (if bt351.1 = true then (if bt351.2.1 ≤ x319001 then ((spec_Solve.f k x330000 y345 y348).bind fun bt357 => (some (bt351.2.1 == bt357.2.1))) else (some false)) else (some false)))) else (none)) else (none))) else (none)) else (none))
end
def laws_FnEasier.f (k : Nat) (l0 : List Int) (l1 : List Int) : Option (Bool) := if (l0.length : Int) > 1048576 then (laws_FnEasier.j0 k l0 l1 true) else (laws_FnEasier.j0 k l0 l1 (decide ((l1.length : Int) > 1048576)))
def laws_FnEasier.T9 : Bool × List (List Nat × List Nat) := (true, [([], []), ([0], [0]), ([], []), ([2], [2]), ([], []), ([4], [4]), ([5], [5]), ([3, 6], [3, 6]), ([1, 7], [1, 7]), ([8], [8]), ([9], [9]), ([1, 7, 0, 1, 2, 3, 4, 5, 6, 7, 8, 9, 10], [1, 7]), ([11, 10, 3, 0, 1, 2, 3, 4, 5, 6, 7, 8, 9, 10], [10, 11])])
def laws_FnEasier.B9 : List Nat := [0, 1, 0, 4, 0, 16, 48, 124, 255, 511, 1023, 2047, 4095]
theorem laws_FnEasier.tab9 : rtab .any (opsOf Try.f5 9) = laws_FnEasier.T9 := by kernel_rfl
theorem laws_FnEasier.bits9 : waitsOk laws_FnEasier.T9.2 laws_FnEasier.B9 = true := by kernel_rfl
def laws_FnEasier.T13 : Bool × List (List Nat × List Nat) := (true, [([], []), ([0], [0]), ([1], [1]), ([2], [2]), ([3, 2], [2, 3]), ([2], [2]), ([5, 2], [2, 5]), ([4, 6, 2], [2, 4, 6]), ([2, 7], [2, 7]), ([8, 2], [8]), ([9], [9]), ([10, 9], [9, 10]), ([9], [9]), ([12, 9, 9], [9, 12]), ([13, 9], [9, 13]), ([11, 14, 9], [9, 11, 14]), ([9, 15], [9, 15]), ([16, 13, 0, 1, 2, 3, 4, 5, 6, 7, 8, 9, 10, 11, 12, 13, 14, 15, 16], [16])])
def laws_FnEasier.B13 : List Nat := [0, 1, 3, 7, 15, 7, 39, 127, 255, 511, 1023, 2047, 1023, 5119, 13311, 32767, 65535, 131071]
theorem laws_FnEasier.tab13 : rtab .any (opsOf Try.f5 13) = laws_FnEasier.T13 := by kernel_rfl
theorem laws_FnEasier.bits13 : waitsOk laws_FnEasier.T13.2 laws_FnEasier.B13 = true := by kernel_rfl
set_option maxHeartbeats 8000000 in
set_option maxRecDepth 100000 in
theorem laws_FnEasier.calls (k : Nat) (A0 : Option Addr) (c0 : Nat) (l0 : List Int) (A1 : Option Addr) (c1 : Nat) (l1 : List Int) (r : Bool) (w : World) (hr0 : Kd.C (Kd.int .u8) w A0 l0.length l0) (hc0 : l0.length ≤ c0) (hr1 : Kd.C (Kd.int .u8) w A1 l1.length l1) (hc1 : l1.length ≤ c1) (hT_ : Aside0 (r = true)) (h : laws_FnEasier.f k l0 l1 = some r) :
  Calls Try.prog 5 #[.slice A0 l0.length c0, .slice A1 l1.length c1] w fun e w' => e = .returned (.bool r) ∧ Below w.heap.size w w' := by
 have hu41_ := @So.field41
 have hu410_ := @So.field41_0
 have hu412_ := @So.field41_2
 have hu26 := Try.underlying26
 have hu41 := Try.underlying41
 have HR0 := Aside0.mk hr0
 have HC0 := Aside0.mk hc0
 clear hr0 hc0
 have HR1 := Aside0.mk hr1
 have HC1 := Aside0.mk hc1
 clear hr1 hc1
 have HB := Aside0.mk (Below.refl w.heap.size w)
 have H : (if (l0.length : Int) > 1048576 then (laws_FnEasier.j0 k l0 l1 true) else (laws_FnEasier.j0 k l0 l1 (decide ((l1.length : Int) > 1048576)))) = some r := h
 clear h
 have HC3 := Aside0.mk H
 clear H
 go_enter Try.func5, Try.ntmps5
 go_upto_region 1 with (fail)
 go_cut [16] (fun v16 wc => ∃ (kq : Nat) (x16_2 : Bool), v16 = .bool x16_2 ∧ Aside0 (laws_FnEasier.j0 kq l0 l1 x16_2 = some r) ∧ Aside0 (kq ≤ k) ∧ Aside0 (Below w.heap.size w wc))
 case first =>
  have H := HC3.out
  clear HC3
  by_cases c4 : (l0.length : Int) > 1048576
  ·rw [if_pos c4] at H
   have c4b0 : decide (1048576 < (l0.length : Int)) = true := decide_eq_true c4
   have c4b1 : decide (1048576 < l0.length) = true := decide_eq_true (by omega)
   clear c4
   (first | rw [c4b0] | (simp only [i64_w, i32_w]; rw [c4b0]) | skip)
   have H' := Aside0.mk H
   clear H
   go_wp2
   go_meet
   case rel => exact ⟨_, (true), (by first | rfl | (simp; done) | (simp [*]; done)), H', ⟨by first | omega | exact Nat.le_refl _⟩, ⟨by repeat (first | (with_reducible first | exact HB.out | apply below_alloc | apply pw_below_drewN | apply below_drew1) | exact HB.out)⟩⟩
  ·rw [if_neg c4] at H
   have c4b0 : decide (1048576 < (l0.length : Int)) = false := decide_eq_false c4
   have c4b1 : decide (1048576 < l0.length) = false := decide_eq_false (by omega)
   clear c4
   (first | rw [c4b0] | (simp only [i64_w, i32_w]; rw [c4b0]) | skip)
   have H' := Aside0.mk H
   clear H
   go_wp2
   go_meet
   case rel => exact ⟨_, (decide ((l1.length : Int) > 1048576)), (by first | rfl | (simp; done) | (simp [*]; done)), H', ⟨by first | omega | exact Nat.le_refl _⟩, ⟨by repeat (first | (with_reducible first | exact HB.out | apply below_alloc | apply pw_below_drewN | apply below_drew1) | exact HB.out)⟩⟩
 case rest =>
  clear HC3
  try clear c1
  try clear p2
  try clear c4
  try clear c4b0
  try clear c4b1
  obtain ⟨kq, x16_2, rfl, HA, HJ2, HB⟩ := hcut
  cases kq with
  | zero => exact absurd HA.out (by simp [laws_FnEasier.j0])
  | succ kj2 =>
   have H := HA.out
   clear HA
   simp only [laws_FnEasier.j0] at H
   by_cases c5 : x16_2 = true
   ·subst c5
    have H1 : (some true) = some r := by rw [if_pos rfl] at H; exact H
    clear H
    have H := H1
    clear H1
    obtain rfl := Option.some.inj H
    go_wp2
    go_ret
    exact ⟨by first | rfl | (simp [errW_none, errW_some] <;> rfl) | (simp [*, errW_none, errW_some] <;> rfl), by repeat (first | (with_reducible first | exact HB.out | apply below_alloc | apply pw_below_drewN | apply below_drew1) | exact HB.out)⟩
   ·replace c5 := Bool.eq_false_iff.mpr c5
    subst c5
    have H1 : ((spec_States.f kj2 l0).bind fun bt303 => ((impl_Solve.f kj2 bt303.1 bt303.2.1 bt303.2.2).bind fun bt313 => (if bt313.1 = true then ((spec_States.f kj2 l0).bind fun bt320 => ((laws_wByte.f l1 0).bind fun t330 => (if (Int.tmod t330 2) = 0 then (laws_FnEasier.j1 kj2 l1 true bt313.1 bt313.2.1 bt313.2.2 bt320.1 bt320.2.1 bt320.2.2) else (laws_FnEasier.j1 kj2 l1 ((bt320.2.1.length : Int) == 0) bt313.1 bt313.2.1 bt313.2.2 bt320.1 bt320.2.1 bt320.2.2)))) else ((spec_Safe.f kj2 bt303.1 bt303.2.1 bt303.2.2).bind fun t319 => (some (!t319)))))) = some r := by rw [if_neg (show ¬ (false = true) by decide)] at H; exact H
    clear H
    have H := H1
    clear H1
    replace H := Option.bind_eq_some_iff.mp H
    obtain ⟨⟨t303, t306, t309⟩, A60, H⟩ := H
    replace H : ((impl_Solve.f kj2 t303 t306 t309).bind fun bt313 => (if bt313.1 = true then ((spec_States.f kj2 l0).bind fun bt320 => ((laws_wByte.f l1 0).bind fun t330 => (if (Int.tmod t330 2) = 0 then (laws_FnEasier.j1 kj2 l1 true bt313.1 bt313.2.1 bt313.2.2 bt320.1 bt320.2.1 bt320.2.2) else (laws_FnEasier.j1 kj2 l1 ((bt320.2.1.length : Int) == 0) bt313.1 bt313.2.1 bt313.2.2 bt320.1 bt320.2.1 bt320.2.2)))) else ((spec_Safe.f kj2 t303 t306 t309).bind fun t319 => (some (!t319))))) = some r := H
    have A6 := Aside0.mk A60
    clear A60
    replace H := Option.bind_eq_some_iff.mp H
    obtain ⟨⟨t313, t314, t315⟩, A70, H⟩ := H
    replace H : (if t313 = true then ((spec_States.f kj2 l0).bind fun bt320 => ((laws_wByte.f l1 0).bind fun t330 => (if (Int.tmod t330 2) = 0 then (laws_FnEasier.j1 kj2 l1 true t313 t314 t315 bt320.1 bt320.2.1 bt320.2.2) else (laws_FnEasier.j1 kj2 l1 ((bt320.2.1.length : Int) == 0) t313 t314 t315 bt320.1 bt320.2.1 bt320.2.2)))) else ((spec_Safe.f kj2 t303 t306 t309).bind fun t319 => (some (!t319)))) = some r := H
    have A7 := Aside0.mk A70
    clear A70
    by_cases c8 : t313 = true
    ·subst c8
     have H1 : ((spec_States.f kj2 l0).bind fun bt320 => ((laws_wByte.f l1 0).bind fun t330 => (if (Int.tmod t330 2) = 0 then (laws_FnEasier.j1 kj2 l1 true true t314 t315 bt320.1 bt320.2.1 bt320.2.2) else (laws_FnEasier.j1 kj2 l1 ((bt320.2.1.length : Int) == 0) true t314 t315 bt320.1 bt320.2.1 bt320.2.2)))) = some r := by rw [if_pos rfl] at H; exact H
     clear H
     have H := H1
     clear H1
     replace H := Option.bind_eq_some_iff.mp H
     obtain ⟨⟨t320, t323, t326⟩, A90, H⟩ := H
     replace H : ((laws_wByte.f l1 0).bind fun t330 => (if (Int.tmod t330 2) = 0 then (laws_FnEasier.j1 kj2 l1 true true t314 t315 t320 t323 t326) else (laws_FnEasier.j1 kj2 l1 ((t323.length : Int) == 0) true t314 t315 t320 t323 t326))) = some r := H
     have A9 := Aside0.mk A90
     clear A90
     have HC10 := Aside0.mk H
     clear H
     go_upto_region 8 with (first | ((with_reducible refine gate_callee (f := 14) rfl ?_); refine goesL_ (some 18) rfl rfl Try.func14 (by kernel_rfl) rfl #[.slice A0 l0.length c0] rfl (by (try simp only [List.map_toArray, List.map_cons, List.map_nil]); first | done | rfl | (simp only [List.length_drop, List.length_take]; rfl)) ?_; (with_reducible refine (spec_States.calls kj2 _ _ l0 t303 t306 t309 _ ?side1 ?side2 A6.out).mono ?_); (case side1 => repeat (first | exact (Kd.C_below HR0.out HB.out) | (with_reducible refine Kd.C_alloc ?_ _) | (with_reducible refine Kd.C_drewN ?_ _) | (with_reducible refine Kd.C_drew ?_))); (case side2 => exact HC0.out); rintro e w11 ⟨v304, v307, v310, rfl, ho0, ho1, ho2, hb⟩; refine ⟨_, rfl, ?_⟩; have n0_ := Aside0.mk (Kd.R_lower ho0 (below_size (by repeat (first | (with_reducible first | exact HB.out | apply below_alloc | apply pw_below_drewN | apply below_drew1) | exact HB.out)))); have n1_ := Aside0.mk (Kd.S_lower ho1 (below_size (by repeat (first | (with_reducible first | exact HB.out | apply below_alloc | apply pw_below_drewN | apply below_drew1) | exact HB.out)))); have n2_ := Aside0.mk (Kd.R_lower ho2 (below_size (by repeat (first | (with_reducible first | exact HB.out | apply below_alloc | apply pw_below_drewN | apply below_drew1) | exact HB.out)))); have n3_ := Aside0.mk (below_step (by repeat (first | (with_reducible first | exact HB.out | apply below_alloc | apply pw_below_drewN | apply below_drew1) | exact HB.out)) hb); clear HB; have HO305 := n0_; have HO308 := n1_; have HO311 := n2_; have HB := n3_; clear n0_ n1_ n2_ n3_; (try clear hb); (try clear hb2); (try clear hk); (try clear hi); (try clear ho0); (try clear ho1); (try clear ho2)) | ((with_reducible refine gate_dst (N := 5) rfl ?_); (try (refine gate_guard (by rfl) ?_; dsimp only)); refine box_event ?hg (N := 5) ?hd (cs := #[.slice none 0 0, .slice none 0 0, .slice none 0 0]) (t := 26) ?hr ?_; (case hd => rfl); (case hg => rfl); (case hr => first | (go_simp; done) | (go_simp; rfl)); intro gb312 hg w12 hbox hb; have n0_ := Aside0.mk (Kd.R_below (by (with_reducible repeat (first | apply Kd.R_alloc | apply Kd.R_drewN | apply Kd.R_drew)); exact HO305.out) hb); have n1_ := Aside0.mk (Kd.S_below (by (with_reducible repeat (first | apply Kd.S_alloc | apply Kd.S_drewN | apply Kd.S_drew)); exact HO308.out) hb); have n2_ := Aside0.mk (Kd.R_below (by (with_reducible repeat (first | apply Kd.R_alloc | apply Kd.R_drewN | apply Kd.R_drew)); exact HO311.out) hb); have n3_ := Aside0.mk (below_step (by repeat (first | (with_reducible first | exact HB.out | apply below_alloc | apply pw_below_drewN | apply below_drew1) | exact HB.out)) hb); have n4_ := Aside0.mk (hbox); have n5_ := Aside0.mk ((by rw [hg]; exact (below_size (by repeat (first | (with_reducible first | exact HB.out | apply below_alloc | apply pw_below_drewN | apply below_drew1) | exact HB.out))) : w.heap.size ≤ gb312)); have n6_ := Aside0.mk ((by rw [hg]; exact (below_size (by repeat (first | (with_reducible first | exact HB.out | apply below_alloc | apply pw_below_drewN | apply below_drew1) | exact HB.out))) : w.heap.size ≤ gb312)); clear HO305; clear HO308; clear HO311; clear HB; have HO305 := n0_; have HO308 := n1_; have HO311 := n2_; have HB := n3_; have BK312 := n4_; have GW312 := n5_; have GE312 := n6_; clear n0_ n1_ n2_ n3_ n4_ n5_ n6_; clear hb hbox hg; obtain ⟨Ao13, co13, eo13⟩ := Kd.R_slice HO305.out; subst eo13; have hcz14_0 : w12.cell? ⟨gb312, 0, none⟩ = some (.slice none 0 0) := (blk_cell BK312.out 0).trans rfl; have hcz14_1 : w12.cell? ⟨gb312, 1, none⟩ = some (.slice none 0 0) := (blk_cell BK312.out 1).trans rfl; have hcz14_2 : w12.cell? ⟨gb312, 2, none⟩ = some (.slice none 0 0) := (blk_cell BK312.out 2).trans rfl; have hfz14_0 := blk_frozen BK312.out 0; have hfz14_1 := blk_frozen BK312.out 1; have hfz14_2 := blk_frozen BK312.out 2; obtain ⟨Ao15, co15, eo15⟩ := Kd.S_slice HO308.out; subst eo15; obtain ⟨Ao16, co16, eo16⟩ := Kd.R_slice HO311.out; subst eo16) | ((with_reducible refine gate_callee (f := 24) rfl ?_); refine goesL_ (some 20) rfl rfl Try.func24 (by kernel_rfl) rfl #[.agg #[.slice Ao13 t303.length co13, .slice Ao15 t306.length co15, .slice Ao16 t309.length co16]] rfl (by (try simp only [List.map_toArray, List.map_cons, List.map_nil]); first | done | rfl | (simp only [List.length_drop, List.length_take]; rfl)) ?_; (with_reducible refine (impl_Solve.calls kj2 _ _ t303 _ _ t306 _ _ t309 true t314 t315 _ ?side1 ?side2 ?side3 ?side4 ?side5 ?side6 A7.out).mono ?_); (case side1 => refine (Kd.R_reads' (e := 3) (base := w.heap.size) (ok := fun k_ => some k_ ≠ (.slice Ao16 t309.length co16 : Value).ownBlock) (n := t303.length) (c := co13) ?_).2.2; exact (by (with_reducible repeat (first | apply Kd.R_alloc | apply Kd.R_drewN | apply Kd.R_drew)); exact (Kd.R_mono (Kd.R_far (p := ⟨gb312, 2, none⟩) (Kd.R_far (p := ⟨gb312, 1, none⟩) (Kd.R_far (p := ⟨gb312, 0, none⟩) (Kd.R_types HO305.out BK312.out (by decide)) (fun _ hk => hk.2) (.slice Ao13 t303.length co13)) (fun _ hk => hk.2) (.slice Ao15 t306.length co15)) (fun _ hk => hk.2) (.slice Ao16 t309.length co16)) (fun _ h_ => h_.1)))); (case side2 => exact (Kd.R_reads' HO305.out).2.1); (case side3 => refine (Kd.S_reads' (e := 35) (base := w.heap.size) (ok := fun k_ => (some k_ ≠ (.slice Ao13 t303.length co13 : Value).ownBlock ∧ some k_ ≠ (.slice Ao16 t309.length co16 : Value).ownBlock)) (n := t306.length) (c := co15) ?_).2.2; exact (by (with_reducible repeat (first | apply Kd.S_alloc | apply Kd.S_drewN | apply Kd.S_drew)); exact (Kd.S_mono (Kd.S_far (p := ⟨gb312, 2, none⟩) (Kd.S_far (p := ⟨gb312, 1, none⟩) (Kd.S_far (p := ⟨gb312, 0, none⟩) (Kd.S_types HO308.out BK312.out (by decide)) (fun _ hk => hk.2) (.slice Ao13 t303.length co13)) (fun _ hk => hk.2) (.slice Ao15 t306.length co15)) (fun _ hk => hk.2) (.slice Ao16 t309.length co16)) (fun _ h_ => h_.1)))); (case side4 => exact (Kd.S_reads' HO308.out).2.1); (case side5 => refine (Kd.R_reads' (e := 3) (base := w.heap.size) (ok := fun k_ => some k_ ≠ (.slice Ao13 t303.length co13 : Value).ownBlock) (n := t309.length) (c := co16) ?_).2.2; exact (by (with_reducible repeat (first | apply Kd.R_alloc | apply Kd.R_drewN | apply Kd.R_drew)); exact (Kd.R_mono (Kd.R_far (p := ⟨gb312, 2, none⟩) (Kd.R_far (p := ⟨gb312, 1, none⟩) (Kd.R_far (p := ⟨gb312, 0, none⟩) (Kd.R_types HO311.out BK312.out (by decide)) (fun _ hk => hk.2) (.slice Ao13 t303.length co13)) (fun _ hk => hk.2) (.slice Ao15 t306.length co15)) (fun _ hk => hk.2) (.slice Ao16 t309.length co16)) (fun _ h_ => h_.1)))); (case side6 => exact (Kd.R_reads' HO311.out).2.1); rintro e w17 ⟨v316, rfl, ho0, hb⟩; refine ⟨_, rfl, ?_⟩; have n0_ := Aside0.mk (Kd.R_elder' (by (with_reducible repeat (first | apply Kd.R_alloc | apply Kd.R_drewN | apply Kd.R_drew)); exact (Kd.R_mono (Kd.R_far (p := ⟨gb312, 2, none⟩) (Kd.R_far (p := ⟨gb312, 1, none⟩) (Kd.R_far (p := ⟨gb312, 0, none⟩) (Kd.R_types HO305.out BK312.out (by decide)) (fun _ hk => hk.2) (.slice Ao13 t303.length co13)) (fun _ hk => hk.2) (.slice Ao15 t306.length co15)) (fun _ hk => hk.2) (.slice Ao16 t309.length co16)) (fun _ h_ => h_.1))) (Kd.R_base ho0) hb); have n1_ := Aside0.mk (Kd.S_elder' (by (with_reducible repeat (first | apply Kd.S_alloc | apply Kd.S_drewN | apply Kd.S_drew)); exact (Kd.S_mono (Kd.S_far (p := ⟨gb312, 2, none⟩) (Kd.S_far (p := ⟨gb312, 1, none⟩) (Kd.S_far (p := ⟨gb312, 0, none⟩) (Kd.S_types HO308.out BK312.out (by decide)) (fun _ hk => hk.2) (.slice Ao13 t303.length co13)) (fun _ hk => hk.2) (.slice Ao15 t306.length co15)) (fun _ hk => hk.2) (.slice Ao16 t309.length co16)) (fun _ h_ => h_.1))) (Kd.R_base ho0) hb); have n2_ := Aside0.mk (Kd.R_elder' (by (with_reducible repeat (first | apply Kd.R_alloc | apply Kd.R_drewN | apply Kd.R_drew)); exact (Kd.R_mono (Kd.R_far (p := ⟨gb312, 2, none⟩) (Kd.R_far (p := ⟨gb312, 1, none⟩) (Kd.R_far (p := ⟨gb312, 0, none⟩) (Kd.R_types HO311.out BK312.out (by decide)) (fun _ hk => hk.2) (.slice Ao13 t303.length co13)) (fun _ hk => hk.2) (.slice Ao15 t306.length co15)) (fun _ hk => hk.2) (.slice Ao16 t309.length co16)) (fun _ h_ => h_.1))) (Kd.R_base ho0) hb); have n3_ := Aside0.mk (Kd.R_lower (Kd.R_new' (Kd.R_new' ho0 (Kd.R_lt (by (with_reducible repeat (first | apply Kd.R_alloc | apply Kd.R_drewN | apply Kd.R_drew)); exact (Kd.R_mono (Kd.R_far (p := ⟨gb312, 2, none⟩) (Kd.R_far (p := ⟨gb312, 1, none⟩) (Kd.R_far (p := ⟨gb312, 0, none⟩) (Kd.R_types HO305.out BK312.out (by decide)) (fun _ hk => hk.2) (.slice Ao13 t303.length co13)) (fun _ hk => hk.2) (.slice Ao15 t306.length co15)) (fun _ hk => hk.2) (.slice Ao16 t309.length co16)) (fun _ h_ => h_.1))))) (Kd.R_lt (by (with_reducible repeat (first | apply Kd.R_alloc | apply Kd.R_drewN | apply Kd.R_drew)); exact (Kd.R_mono (Kd.R_far (p := ⟨gb312, 2, none⟩) (Kd.R_far (p := ⟨gb312, 1, none⟩) (Kd.R_far (p := ⟨gb312, 0, none⟩) (Kd.R_types HO311.out BK312.out (by decide)) (fun _ hk => hk.2) (.slice Ao13 t303.length co13)) (fun _ hk => hk.2) (.slice Ao15 t306.length co15)) (fun _ hk => hk.2) (.slice Ao16 t309.length co16)) (fun _ h_ => h_.1))))) (below_size (by repeat (first | (with_reducible first | exact HB.out | apply below_alloc | apply pw_below_drewN | apply below_drew1 | refine below_set ?_ GE312.out) | exact HB.out)))); have n4_ := Aside0.mk (blk_below (g := gb312) (o := .cells #[.slice Ao13 t303.length co13, .slice Ao15 t306.length co15, .slice Ao16 t309.length co16] 26 (0, 0)) (by (with_reducible repeat (first | refine blk_drewN ?_ _ | refine blk_drew ?_ | refine blk_alloc ?_ _)); refine blk_put (cs := #[.slice Ao13 t303.length co13, .slice Ao15 t306.length co15, .slice none 0 0]) ?_ 2 _ rfl; (with_reducible repeat (first | refine blk_drewN ?_ _ | refine blk_drew ?_ | refine blk_alloc ?_ _)); refine blk_put (cs := #[.slice Ao13 t303.length co13, .slice none 0 0, .slice none 0 0]) ?_ 1 _ rfl; (with_reducible repeat (first | refine blk_drewN ?_ _ | refine blk_drew ?_ | refine blk_alloc ?_ _)); refine blk_put (cs := #[.slice none 0 0, .slice none 0 0, .slice none 0 0]) ?_ 0 _ rfl; (with_reducible repeat (first | refine blk_drewN ?_ _ | refine blk_drew ?_ | refine blk_alloc ?_ _)); exact BK312.out) hb); have n5_ := Aside0.mk (below_step (by repeat (first | (with_reducible first | exact HB.out | apply below_alloc | apply pw_below_drewN | apply below_drew1 | refine below_set ?_ GE312.out) | exact HB.out)) hb); clear HO305; clear HO308; clear HO311; clear BK312; clear HB; have HO305 := n0_; have HO308 := n1_; have HO311 := n2_; have HO317 := n3_; have BK312 := n4_; have HB := n5_; clear n0_ n1_ n2_ n3_ n4_ n5_; (try clear hb); (try clear hb2); (try clear hk); (try clear hi); (try clear ho0)) | ((with_reducible refine gate_dst (N := 6) rfl ?_); (try (refine gate_guard (by rfl) ?_; dsimp only)); refine box_event ?hg (N := 6) ?hd (cs := #[.bool false, .int .i64 0, .slice none 0 0]) (t := 41) ?hr ?_; (case hd => rfl); (case hg => rfl); (case hr => first | (go_simp; done) | (go_simp; rfl)); intro gb318 hg w18 hbox hb; have n0_ := Aside0.mk (Kd.R_below (by (with_reducible repeat (first | apply Kd.R_alloc | apply Kd.R_drewN | apply Kd.R_drew)); exact HO305.out) hb); have n1_ := Aside0.mk (Kd.S_below (by (with_reducible repeat (first | apply Kd.S_alloc | apply Kd.S_drewN | apply Kd.S_drew)); exact HO308.out) hb); have n2_ := Aside0.mk (Kd.R_below (by (with_reducible repeat (first | apply Kd.R_alloc | apply Kd.R_drewN | apply Kd.R_drew)); exact HO311.out) hb); have n3_ := Aside0.mk (Kd.R_below (by (with_reducible repeat (first | apply Kd.R_alloc | apply Kd.R_drewN | apply Kd.R_drew)); exact HO317.out) hb); have n4_ := Aside0.mk (blk_below (g := gb312) (o := .cells #[.slice Ao13 t303.length co13, .slice Ao15 t306.length co15, .slice Ao16 t309.length co16] 26 (0, 0)) (by (with_reducible repeat (first | refine blk_drewN ?_ _ | refine blk_drew ?_ | refine blk_alloc ?_ _)); exact BK312.out) hb); have n5_ := Aside0.mk (below_step (by repeat (first | (with_reducible first | exact HB.out | apply below_alloc | apply pw_below_drewN | apply below_drew1 | refine below_set ?_ GE312.out) | exact HB.out)) hb); have n6_ := Aside0.mk (hbox); have n7_ := Aside0.mk ((by rw [hg]; exact (below_size (by repeat (first | (with_reducible first | exact HB.out | apply below_alloc | apply pw_below_drewN | apply below_drew1 | refine below_set ?_ GE312.out) | exact HB.out))) : w.heap.size ≤ gb318)); have n8_ := Aside0.mk ((by rw [hg]; exact (below_size (by repeat (first | (with_reducible first | exact HB.out | apply below_alloc | apply pw_below_drewN | apply below_drew1 | refine below_set ?_ GE312.out) | exact HB.out))) : w.heap.size ≤ gb318)); have n9_ := Aside0.mk ((by rw [hg]; exact Nat.ne_of_lt (blk_lt (g := gb312) (o := .cells #[.slice Ao13 t303.length co13, .slice Ao15 t306.length co15, .slice Ao16 t309.length co16] 26 (0, 0)) (by (with_reducible repeat (first | refine blk_drewN ?_ _ | refine blk_drew ?_ | refine blk_alloc ?_ _)); exact BK312.out)) : gb312 ≠ gb318)); have n10_ := Aside0.mk ((by rw [hg]; exact Nat.ne_of_gt (blk_lt (g := gb312) (o := .cells #[.slice Ao13 t303.length co13, .slice Ao15 t306.length co15, .slice Ao16 t309.length co16] 26 (0, 0)) (by (with_reducible repeat (first | refine blk_drewN ?_ _ | refine blk_drew ?_ | refine blk_alloc ?_ _)); exact BK312.out)) : gb318 ≠ gb312)); clear HO305; clear HO308; clear HO311; clear HO317; clear BK312; clear HB; have HO305 := n0_; have HO308 := n1_; have HO311 := n2_; have HO317 := n3_; have BK312 := n4_; have HB := n5_; have BK318 := n6_; have GW318 := n7_; have GE318 := n8_; have NB312_318 := n9_; have NB318_312 := n10_; clear n0_ n1_ n2_ n3_ n4_ n5_ n6_ n7_ n8_ n9_ n10_; clear hb hbox hg; have hnb19 := NB318_312.out; have hnc19 := NB312_318.out; have hcz20_0 : w18.cell? ⟨gb318, 0, none⟩ = some (.bool false) := (blk_cell BK318.out 0).trans rfl; have hcz20_1 : w18.cell? ⟨gb318, 1, none⟩ = some (.int .i64 0) := (blk_cell BK318.out 1).trans rfl; have hcz20_2 : w18.cell? ⟨gb318, 2, none⟩ = some (.slice none 0 0) := (blk_cell BK318.out 2).trans rfl; have hfz20_0 := blk_frozen BK318.out 0; have hfz20_1 := blk_frozen BK318.out 1; have hfz20_2 := blk_frozen BK318.out 2; obtain ⟨Ao21, co21, eo21⟩ := Kd.R_slice HO317.out; subst eo21) | ((with_reducible refine gate_callee (f := 14) rfl ?_); refine goesL_ (some 28) rfl rfl Try.func14 (by kernel_rfl) rfl #[.slice A0 l0.length c0] rfl (by (try simp only [List.map_toArray, List.map_cons, List.map_nil]); first | done | rfl | (simp only [List.length_drop, List.length_take]; rfl)) ?_; (with_reducible refine (spec_States.calls kj2 _ _ l0 t320 t323 t326 _ ?side1 ?side2 A9.out).mono ?_); (case side1 => exact Kd.C_below HR0.out (by repeat (first | (with_reducible first | exact HB.out | apply below_alloc | apply pw_below_drewN | apply below_drew1 | refine below_set ?_ GE312.out | refine below_set ?_ GE318.out) | exact HB.out))); (case side2 => exact HC0.out); rintro e w22 ⟨v321, v324, v327, rfl, ho0, ho1, ho2, hb⟩; refine ⟨_, rfl, ?_⟩; have n0_ := Aside0.mk (Kd.R_mono (Kd.R_told (Kd.R_told (Kd.R_old (by (with_reducible repeat (first | apply Kd.R_alloc | apply Kd.R_drewN | apply Kd.R_drew)); exact (Kd.R_mono (Kd.R_far (p := ⟨gb318, 2, none⟩) (Kd.R_far (p := ⟨gb318, 1, none⟩) (Kd.R_far (p := ⟨gb318, 0, none⟩) (Kd.R_types HO305.out BK318.out (by decide)) (fun _ hk => hk.2) (.bool true)) (fun _ hk => hk.2) (.int .i64 t314)) (fun _ hk => hk.2) (.slice Ao21 t315.length co21)) (fun _ h_ => h_.1))) hb) (Kd.R_base ho0)) (Kd.R_base ho2)) (fun _ h_ => h_.1)); have n1_ := Aside0.mk (Kd.S_mono (Kd.S_told (Kd.S_told (Kd.S_told (Kd.S_old (by (with_reducible repeat (first | apply Kd.S_alloc | apply Kd.S_drewN | apply Kd.S_drew)); exact (Kd.S_mono (Kd.S_far (p := ⟨gb318, 2, none⟩) (Kd.S_far (p := ⟨gb318, 1, none⟩) (Kd.S_far (p := ⟨gb318, 0, none⟩) (Kd.S_types HO308.out BK318.out (by decide)) (fun _ hk => hk.2) (.bool true)) (fun _ hk => hk.2) (.int .i64 t314)) (fun _ hk => hk.2) (.slice Ao21 t315.length co21)) (fun _ h_ => h_.1))) hb) (Kd.R_base ho0)) (Kd.S_base ho1)) (Kd.R_base ho2)) (fun _ h_ => h_.1)); have n2_ := Aside0.mk (Kd.R_mono (Kd.R_told (Kd.R_told (Kd.R_old (by (with_reducible repeat (first | apply Kd.R_alloc | apply Kd.R_drewN | apply Kd.R_drew)); exact (Kd.R_mono (Kd.R_far (p := ⟨gb318, 2, none⟩) (Kd.R_far (p := ⟨gb318, 1, none⟩) (Kd.R_far (p := ⟨gb318, 0, none⟩) (Kd.R_types HO311.out BK318.out (by decide)) (fun _ hk => hk.2) (.bool true)) (fun _ hk => hk.2) (.int .i64 t314)) (fun _ hk => hk.2) (.slice Ao21 t315.length co21)) (fun _ h_ => h_.1))) hb) (Kd.R_base ho0)) (Kd.R_base ho2)) (fun _ h_ => h_.1)); have n3_ := Aside0.mk (Kd.R_mono (Kd.R_told (Kd.R_told (Kd.R_old (by (with_reducible repeat (first | apply Kd.R_alloc | apply Kd.R_drewN | apply Kd.R_drew)); exact (Kd.R_mono (Kd.R_far (p := ⟨gb318, 2, none⟩) (Kd.R_far (p := ⟨gb318, 1, none⟩) (Kd.R_far (p := ⟨gb318, 0, none⟩) (Kd.R_types HO317.out BK318.out (by decide)) (fun _ hk => hk.2) (.bool true)) (fun _ hk => hk.2) (.int .i64 t314)) (fun _ hk => hk.2) (.slice Ao21 t315.length co21)) (fun _ h_ => h_.1))) hb) (Kd.R_base ho0)) (Kd.R_base ho2)) (fun _ h_ => h_.1)); have n4_ := Aside0.mk (Kd.R_lower (Kd.R_new' (Kd.R_new' (Kd.R_new' ho0 (Kd.R_lt (by (with_reducible repeat (first | apply Kd.R_alloc | apply Kd.R_drewN | apply Kd.R_drew)); exact (Kd.R_mono (Kd.R_far (p := ⟨gb318, 2, none⟩) (Kd.R_far (p := ⟨gb318, 1, none⟩) (Kd.R_far (p := ⟨gb318, 0, none⟩) (Kd.R_types HO305.out BK318.out (by decide)) (fun _ hk => hk.2) (.bool true)) (fun _ hk => hk.2) (.int .i64 t314)) (fun _ hk => hk.2) (.slice Ao21 t315.length co21)) (fun _ h_ => h_.1))))) (Kd.R_lt (by (with_reducible repeat (first | apply Kd.R_alloc | apply Kd.R_drewN | apply Kd.R_drew)); exact (Kd.R_mono (Kd.R_far (p := ⟨gb318, 2, none⟩) (Kd.R_far (p := ⟨gb318, 1, none⟩) (Kd.R_far (p := ⟨gb318, 0, none⟩) (Kd.R_types HO311.out BK318.out (by decide)) (fun _ hk => hk.2) (.bool true)) (fun _ hk => hk.2) (.int .i64 t314)) (fun _ hk => hk.2) (.slice Ao21 t315.length co21)) (fun _ h_ => h_.1))))) (Kd.R_lt (by (with_reducible repeat (first | apply Kd.R_alloc | apply Kd.R_drewN | apply Kd.R_drew)); exact (Kd.R_mono (Kd.R_far (p := ⟨gb318, 2, none⟩) (Kd.R_far (p := ⟨gb318, 1, none⟩) (Kd.R_far (p := ⟨gb318, 0, none⟩) (Kd.R_types HO317.out BK318.out (by decide)) (fun _ hk => hk.2) (.bool true)) (fun _ hk => hk.2) (.int .i64 t314)) (fun _ hk => hk.2) (.slice Ao21 t315.length co21)) (fun _ h_ => h_.1))))) (below_size (by repeat (first | (with_reducible first | exact HB.out | apply below_alloc | apply pw_below_drewN | apply below_drew1 | refine below_set ?_ GE312.out | refine below_set ?_ GE318.out) | exact HB.out)))); have n5_ := Aside0.mk (Kd.S_lower (Kd.S_new' (Kd.S_new' (Kd.S_new' (Kd.S_new' ho1 (Kd.R_lt (by (with_reducible repeat (first | apply Kd.R_alloc | apply Kd.R_drewN | apply Kd.R_drew)); exact (Kd.R_mono (Kd.R_far (p := ⟨gb318, 2, none⟩) (Kd.R_far (p := ⟨gb318, 1, none⟩) (Kd.R_far (p := ⟨gb318, 0, none⟩) (Kd.R_types HO305.out BK318.out (by decide)) (fun _ hk => hk.2) (.bool true)) (fun _ hk => hk.2) (.int .i64 t314)) (fun _ hk => hk.2) (.slice Ao21 t315.length co21)) (fun _ h_ => h_.1))))) (Kd.S_lt (by (with_reducible repeat (first | apply Kd.S_alloc | apply Kd.S_drewN | apply Kd.S_drew)); exact (Kd.S_mono (Kd.S_far (p := ⟨gb318, 2, none⟩) (Kd.S_far (p := ⟨gb318, 1, none⟩) (Kd.S_far (p := ⟨gb318, 0, none⟩) (Kd.S_types HO308.out BK318.out (by decide)) (fun _ hk => hk.2) (.bool true)) (fun _ hk => hk.2) (.int .i64 t314)) (fun _ hk => hk.2) (.slice Ao21 t315.length co21)) (fun _ h_ => h_.1))))) (Kd.R_lt (by (with_reducible repeat (first | apply Kd.R_alloc | apply Kd.R_drewN | apply Kd.R_drew)); exact (Kd.R_mono (Kd.R_far (p := ⟨gb318, 2, none⟩) (Kd.R_far (p := ⟨gb318, 1, none⟩) (Kd.R_far (p := ⟨gb318, 0, none⟩) (Kd.R_types HO311.out BK318.out (by decide)) (fun _ hk => hk.2) (.bool true)) (fun _ hk => hk.2) (.int .i64 t314)) (fun _ hk => hk.2) (.slice Ao21 t315.length co21)) (fun _ h_ => h_.1))))) (Kd.R_lt (by (with_reducible repeat (first | apply Kd.R_alloc | apply Kd.R_drewN | apply Kd.R_drew)); exact (Kd.R_mono (Kd.R_far (p := ⟨gb318, 2, none⟩) (Kd.R_far (p := ⟨gb318, 1, none⟩) (Kd.R_far (p := ⟨gb318, 0, none⟩) (Kd.R_types HO317.out BK318.out (by decide)) (fun _ hk => hk.2) (.bool true)) (fun _ hk => hk.2) (.int .i64 t314)) (fun _ hk => hk.2) (.slice Ao21 t315.length co21)) (fun _ h_ => h_.1))))) (below_size (by repeat (first | (with_reducible first | exact HB.out | apply below_alloc | apply pw_below_drewN | apply below_drew1 | refine below_set ?_ GE312.out | refine below_set ?_ GE318.out) | exact HB.out)))); have n6_ := Aside0.mk (Kd.R_lower (Kd.R_new' (Kd.R_new' (Kd.R_new' ho2 (Kd.R_lt (by (with_reducible repeat (first | apply Kd.R_alloc | apply Kd.R_drewN | apply Kd.R_drew)); exact (Kd.R_mono (Kd.R_far (p := ⟨gb318, 2, none⟩) (Kd.R_far (p := ⟨gb318, 1, none⟩) (Kd.R_far (p := ⟨gb318, 0, none⟩) (Kd.R_types HO305.out BK318.out (by decide)) (fun _ hk => hk.2) (.bool true)) (fun _ hk => hk.2) (.int .i64 t314)) (fun _ hk => hk.2) (.slice Ao21 t315.length co21)) (fun _ h_ => h_.1))))) (Kd.R_lt (by (with_reducible repeat (first | apply Kd.R_alloc | apply Kd.R_drewN | apply Kd.R_drew)); exact (Kd.R_mono (Kd.R_far (p := ⟨gb318, 2, none⟩) (Kd.R_far (p := ⟨gb318, 1, none⟩) (Kd.R_far (p := ⟨gb318, 0, none⟩) (Kd.R_types HO311.out BK318.out (by decide)) (fun _ hk => hk.2) (.bool true)) (fun _ hk => hk.2) (.int .i64 t314)) (fun _ hk => hk.2) (.slice Ao21 t315.length co21)) (fun _ h_ => h_.1))))) (Kd.R_lt (by (with_reducible repeat (first | apply Kd.R_alloc | apply Kd.R_drewN | apply Kd.R_drew)); exact (Kd.R_mono (Kd.R_far (p := ⟨gb318, 2, none⟩) (Kd.R_far (p := ⟨gb318, 1, none⟩) (Kd.R_far (p := ⟨gb318, 0, none⟩) (Kd.R_types HO317.out BK318.out (by decide)) (fun _ hk => hk.2) (.bool true)) (fun _ hk => hk.2) (.int .i64 t314)) (fun _ hk => hk.2) (.slice Ao21 t315.length co21)) (fun _ h_ => h_.1))))) (below_size (by repeat (first | (with_reducible first | exact HB.out | apply below_alloc | apply pw_below_drewN | apply below_drew1 | refine below_set ?_ GE312.out | refine below_set ?_ GE318.out) | exact HB.out)))); have n7_ := Aside0.mk (blk_below (g := gb312) (o := .cells #[.slice Ao13 t303.length co13, .slice Ao15 t306.length co15, .slice Ao16 t309.length co16] 26 (0, 0)) (by (with_reducible repeat (first | refine blk_drewN ?_ _ | refine blk_drew ?_ | refine blk_alloc ?_ _)); refine blk_far ?_ NB312_318.out _; (with_reducible repeat (first | refine blk_drewN ?_ _ | refine blk_drew ?_ | refine blk_alloc ?_ _)); refine blk_far ?_ NB312_318.out _; (with_reducible repeat (first | refine blk_drewN ?_ _ | refine blk_drew ?_ | refine blk_alloc ?_ _)); refine blk_far ?_ NB312_318.out _; (with_reducible repeat (first | refine blk_drewN ?_ _ | refine blk_drew ?_ | refine blk_alloc ?_ _)); exact BK312.out) hb); have n8_ := Aside0.mk (blk_below (g := gb318) (o := .cells #[.bool true, .int .i64 t314, .slice Ao21 t315.length co21] 41 (0, 0)) (by (with_reducible repeat (first | refine blk_drewN ?_ _ | refine blk_drew ?_ | refine blk_alloc ?_ _)); refine blk_put (cs := #[.bool true, .int .i64 t314, .slice none 0 0]) ?_ 2 _ rfl; (with_reducible repeat (first | refine blk_drewN ?_ _ | refine blk_drew ?_ | refine blk_alloc ?_ _)); refine blk_put (cs := #[.bool true, .int .i64 0, .slice none 0 0]) ?_ 1 _ rfl; (with_reducible repeat (first | refine blk_drewN ?_ _ | refine blk_drew ?_ | refine blk_alloc ?_ _)); refine blk_put (cs := #[.bool false, .int .i64 0, .slice none 0 0]) ?_ 0 _ rfl; (with_reducible repeat (first | refine blk_drewN ?_ _ | refine blk_drew ?_ | refine blk_alloc ?_ _)); exact BK318.out) hb); have n9_ := Aside0.mk (below_step (by repeat (first | (with_reducible first | exact HB.out | apply below_alloc | apply pw_below_drewN | apply below_drew1 | refine below_set ?_ GE312.out | refine below_set ?_ GE318.out) | exact HB.out)) hb); clear HO305; clear HO308; clear HO311; clear HO317; clear BK312; clear BK318; clear HB; have HO305 := n0_; have HO308 := n1_; have HO311 := n2_; have HO317 := n3_; have HO322 := n4_; have HO325 := n5_; have HO328 := n6_; have BK312 := n7_; have BK318 := n8_; have HB := n9_; clear n0_ n1_ n2_ n3_ n4_ n5_ n6_ n7_ n8_ n9_; (try clear hb); (try clear hb2); (try clear hk); (try clear hi); (try clear ho0); (try clear ho1); (try clear ho2)) | ((with_reducible refine gate_dst (N := 7) rfl ?_); (try (refine gate_guard (by rfl) ?_; dsimp only)); refine box_event ?hg (N := 7) ?hd (cs := #[.slice none 0 0, .slice none 0 0, .slice none 0 0]) (t := 26) ?hr ?_; (case hd => rfl); (case hg => rfl); (case hr => first | (go_simp; done) | (go_simp; rfl)); intro gb329 hg w23 hbox hb; have n0_ := Aside0.mk (Kd.R_below (by (with_reducible repeat (first | apply Kd.R_alloc | apply Kd.R_drewN | apply Kd.R_drew)); exact HO305.out) hb); have n1_ := Aside0.mk (Kd.S_below (by (with_reducible repeat (first | apply Kd.S_alloc | apply Kd.S_drewN | apply Kd.S_drew)); exact HO308.out) hb); have n2_ := Aside0.mk (Kd.R_below (by (with_reducible repeat (first | apply Kd.R_alloc | apply Kd.R_drewN | apply Kd.R_drew)); exact HO311.out) hb); have n3_ := Aside0.mk (Kd.R_below (by (with_reducible repeat (first | apply Kd.R_alloc | apply Kd.R_drewN | apply Kd.R_drew)); exact HO317.out) hb); have n4_ := Aside0.mk (Kd.R_below (by (with_reducible repeat (first | apply Kd.R_alloc | apply Kd.R_drewN | apply Kd.R_drew)); exact HO322.out) hb); have n5_ := Aside0.mk (Kd.S_below (by (with_reducible repeat (first | apply Kd.S_alloc | apply Kd.S_drewN | apply Kd.S_drew)); exact HO325.out) hb); have n6_ := Aside0.mk (Kd.R_below (by (with_reducible repeat (first | apply Kd.R_alloc | apply Kd.R_drewN | apply Kd.R_drew)); exact HO328.out) hb); have n7_ := Aside0.mk (blk_below (g := gb312) (o := .cells #[.slice Ao13 t303.length co13, .slice Ao15 t306.length co15, .slice Ao16 t309.length co16] 26 (0, 0)) (by (with_reducible repeat (first | refine blk_drewN ?_ _ | refine blk_drew ?_ | refine blk_alloc ?_ _)); exact BK312.out) hb); have n8_ := Aside0.mk (blk_below (g := gb318) (o := .cells #[.bool true, .int .i64 t314, .slice Ao21 t315.length co21] 41 (0, 0)) (by (with_reducible repeat (first | refine blk_drewN ?_ _ | refine blk_drew ?_ | refine blk_alloc ?_ _)); exact BK318.out) hb); have n9_ := Aside0.mk (below_step (by repeat (first | (with_reducible first | exact HB.out | apply below_alloc | apply pw_below_drewN | apply below_drew1 | refine below_set ?_ GE312.out | refine below_set ?_ GE318.out) | exact HB.out)) hb); have n10_ := Aside0.mk (hbox); have n11_ := Aside0.mk ((by rw [hg]; exact (below_size (by repeat (first | (with_reducible first | exact HB.out | apply below_alloc | apply pw_below_drewN | apply below_drew1 | refine below_set ?_ GE312.out | refine below_set ?_ GE318.out) | exact HB.out))) : w.heap.size ≤ gb329)); have n12_ := Aside0.mk ((by rw [hg]; exact (below_size (by repeat (first | (with_reducible first | exact HB.out | apply below_alloc | apply pw_below_drewN | apply below_drew1 | refine below_set ?_ GE312.out | refine below_set ?_ GE318.out) | exact HB.out))) : w.heap.size ≤ gb329)); have n13_ := Aside0.mk ((by rw [hg]; exact Nat.ne_of_lt (blk_lt (g := gb312) (o := .cells #[.slice Ao13 t303.length co13, .slice Ao15 t306.length co15, .slice Ao16 t309.length co16] 26 (0, 0)) (by (with_reducible repeat (first | refine blk_drewN ?_ _ | refine blk_drew ?_ | refine blk_alloc ?_ _)); exact BK312.out)) : gb312 ≠ gb329)); have n14_ := Aside0.mk ((by rw [hg]; exact Nat.ne_of_gt (blk_lt (g := gb312) (o := .cells #[.slice Ao13 t303.length co13, .slice Ao15 t306.length co15, .slice Ao16 t309.length co16] 26 (0, 0)) (by (with_reducible repeat (first | refine blk_drewN ?_ _ | refine blk_drew ?_ | refine blk_alloc ?_ _)); exact BK312.out)) : gb329 ≠ gb312)); have n15_ := Aside0.mk ((by rw [hg]; exact Nat.ne_of_lt (blk_lt (g := gb318) (o := .cells #[.bool true, .int .i64 t314, .slice Ao21 t315.length co21] 41 (0, 0)) (by (with_reducible repeat (first | refine blk_drewN ?_ _ | refine blk_drew ?_ | refine blk_alloc ?_ _)); exact BK318.out)) : gb318 ≠ gb329)); have n16_ := Aside0.mk ((by rw [hg]; exact Nat.ne_of_gt (blk_lt (g := gb318) (o := .cells #[.bool true, .int .i64 t314, .slice Ao21 t315.length co21] 41 (0, 0)) (by (with_reducible repeat (first | refine blk_drewN ?_ _ | refine blk_drew ?_ | refine blk_alloc ?_ _)); exact BK318.out)) : gb329 ≠ gb318)); clear HO305; clear HO308; clear HO311; clear HO317; clear HO322; clear HO325; clear HO328; clear BK312; clear BK318; clear HB; have HO305 := n0_; have HO308 := n1_; have HO311 := n2_; have HO317 := n3_; have HO322 := n4_; have HO325 := n5_; have HO328 := n6_; have BK312 := n7_; have BK318 := n8_; have HB := n9_; have BK329 := n10_; have GW329 := n11_; have GE329 := n12_; have NB312_329 := n13_; have NB329_312 := n14_; have NB318_329 := n15_; have NB329_318 := n16_; clear n0_ n1_ n2_ n3_ n4_ n5_ n6_ n7_ n8_ n9_ n10_ n11_ n12_ n13_ n14_ n15_ n16_; clear hb hbox hg; obtain ⟨Ao24, co24, eo24⟩ := Kd.R_slice HO322.out; subst eo24; have hnb25 := NB329_312.out; have hnc25 := NB312_329.out; have hnb26 := NB329_318.out; have hnc26 := NB318_329.out; have hcz27_0 : w23.cell? ⟨gb329, 0, none⟩ = some (.slice none 0 0) := (blk_cell BK329.out 0).trans rfl; have hcz27_1 : w23.cell? ⟨gb329, 1, none⟩ = some (.slice none 0 0) := (blk_cell BK329.out 1).trans rfl; have hcz27_2 : w23.cell? ⟨gb329, 2, none⟩ = some (.slice none 0 0) := (blk_cell BK329.out 2).trans rfl; have hfz27_0 := blk_frozen BK329.out 0; have hfz27_1 := blk_frozen BK329.out 1; have hfz27_2 := blk_frozen BK329.out 2; obtain ⟨Ao28, co28, eo28⟩ := Kd.S_slice HO325.out; subst eo28; obtain ⟨Ao29, co29, eo29⟩ := Kd.R_slice HO328.out; subst eo29))
     (try simp only [Act.put, List.setIfInBounds_toArray, List.set_cons_zero, List.set_cons_succ])
     go_cut [38] (fun v38 wc => ∃ (kq : Nat) (x38_9 : Bool), v38 = .bool x38_9 ∧ Aside0 (laws_FnEasier.j1 kq l1 x38_9 true t314 t315 t320 t323 t326 = some r) ∧ Aside0 (kq ≤ kj2) ∧ Aside0 (Kd.R (Kd.int .i64) 3 wc w.heap.size (fun k_ => some k_ ≠ ((.slice Ao16 t309.length co16) : Value).ownBlock ∧ some k_ ≠ ((.slice Ao21 t315.length co21) : Value).ownBlock ∧ some k_ ≠ ((.slice Ao24 t320.length co24) : Value).ownBlock ∧ some k_ ≠ ((.slice Ao29 t326.length co29) : Value).ownBlock) (.slice Ao13 t303.length co13) t303) ∧ Aside0 (Kd.S k35 35 wc w.heap.size (fun k_ => some k_ ≠ ((.slice Ao13 t303.length co13) : Value).ownBlock ∧ some k_ ≠ ((.slice Ao16 t309.length co16) : Value).ownBlock ∧ some k_ ≠ ((.slice Ao21 t315.length co21) : Value).ownBlock ∧ some k_ ≠ ((.slice Ao24 t320.length co24) : Value).ownBlock ∧ some k_ ≠ ((.slice Ao28 t323.length co28) : Value).ownBlock ∧ some k_ ≠ ((.slice Ao29 t326.length co29) : Value).ownBlock) (.slice Ao15 t306.length co15) t306) ∧ Aside0 (Kd.R (Kd.int .i64) 3 wc w.heap.size (fun k_ => some k_ ≠ ((.slice Ao13 t303.length co13) : Value).ownBlock ∧ some k_ ≠ ((.slice Ao21 t315.length co21) : Value).ownBlock ∧ some k_ ≠ ((.slice Ao24 t320.length co24) : Value).ownBlock ∧ some k_ ≠ ((.slice Ao29 t326.length co29) : Value).ownBlock) (.slice Ao16 t309.length co16) t309) ∧ Aside0 (Kd.R (Kd.int .i64) 3 wc w.heap.size (fun k_ => some k_ ≠ ((.slice Ao13 t303.length co13) : Value).ownBlock ∧ some k_ ≠ ((.slice Ao16 t309.length co16) : Value).ownBlock ∧ some k_ ≠ ((.slice Ao24 t320.length co24) : Value).ownBlock ∧ some k_ ≠ ((.slice Ao29 t326.length co29) : Value).ownBlock) (.slice Ao21 t315.length co21) t315) ∧ Aside0 (Kd.R (Kd.int .i64) 3 wc w.heap.size (fun k_ => some k_ ≠ ((.slice Ao13 t303.length co13) : Value).ownBlock ∧ some k_ ≠ ((.slice Ao16 t309.length co16) : Value).ownBlock ∧ some k_ ≠ ((.slice Ao21 t315.length co21) : Value).ownBlock ∧ some k_ ≠ ((.slice Ao29 t326.length co29) : Value).ownBlock) (.slice Ao24 t320.length co24) t320) ∧ Aside0 (Kd.S k35 35 wc w.heap.size (fun k_ => some k_ ≠ ((.slice Ao13 t303.length co13) : Value).ownBlock ∧ some k_ ≠ ((.slice Ao15 t306.length co15) : Value).ownBlock ∧ some k_ ≠ ((.slice Ao16 t309.length co16) : Value).ownBlock ∧ some k_ ≠ ((.slice Ao21 t315.length co21) : Value).ownBlock ∧ some k_ ≠ ((.slice Ao24 t320.length co24) : Value).ownBlock ∧ some k_ ≠ ((.slice Ao29 t326.length co29) : Value).ownBlock) (.slice Ao28 t323.length co28) t323) ∧ Aside0 (Kd.R (Kd.int .i64) 3 wc w.heap.size (fun k_ => some k_ ≠ ((.slice Ao13 t303.length co13) : Value).ownBlock ∧ some k_ ≠ ((.slice Ao16 t309.length co16) : Value).ownBlock ∧ some k_ ≠ ((.slice Ao21 t315.length co21) : Value).ownBlock ∧ some k_ ≠ ((.slice Ao24 t320.length co24) : Value).ownBlock) (.slice Ao29 t326.length co29) t326) ∧ Aside0 (wc.heap[gb312]? = some (.cells #[(.slice Ao13 t303.length co13), (.slice Ao15 t306.length co15), (.slice Ao16 t309.length co16)] 26 (0, 0))) ∧ Aside0 (wc.heap[gb318]? = some (.cells #[.bool true, .int .i64 t314, (.slice Ao21 t315.length co21)] 41 (0, 0))) ∧ Aside0 (wc.heap[gb329]? = some (.cells #[(.slice Ao24 t320.length co24), (.slice Ao28 t323.length co28), (.slice Ao29 t326.length co29)] 26 (0, 0))) ∧ Aside0 (Below w.heap.size w wc))
     case first =>
      have H := HC10.out
      clear HC10
      replace H := Option.bind_eq_some_iff.mp H
      obtain ⟨t330, A300, H⟩ := H
      replace H : (if (Int.tmod t330 2) = 0 then (laws_FnEasier.j1 kj2 l1 true true t314 t315 t320 t323 t326) else (laws_FnEasier.j1 kj2 l1 ((t323.length : Int) == 0) true t314 t315 t320 t323 t326)) = some r := H
      have A30 := Aside0.mk A300
      clear A300
      by_cases c31 : (Int.tmod t330 2) = 0
      ·rw [if_pos c31] at H
       have c31b0 : ((Int.tmod t330 2) == 0) = true := beq_iff_eq.mpr c31
       have c31b1 : ((Int.tmod t330 2) != 0) = false := bne_eq_false_iff_eq.mpr c31
       clear c31
       (first | rw [c31b0] | (simp only [i64_w, i32_w]; rw [c31b0]) | skip)
       have H' := Aside0.mk H
       clear H
       go_wp2_with (first | ((with_reducible refine gate_callee (f := 25) rfl ?_); refine goesL_ (some 30) rfl rfl Try.func25 (by kernel_rfl) rfl #[.slice A1 l1.length c1, .int .i64 0] rfl (by (try simp only [List.map_toArray, List.map_cons, List.map_nil]); first | done | rfl | (simp only [List.length_drop, List.length_take]; rfl)) ?_; (with_reducible refine (laws_wByte.calls _ _ l1 0 t330 _ ?side1 ?side2 A30.out).mono ?_); (case side1 => exact Kd.C_below HR1.out (by repeat (first | (with_reducible first | exact HB.out | apply below_alloc | apply pw_below_drewN | apply below_drew1 | refine below_set ?_ GE312.out | refine below_set ?_ GE318.out | refine below_set ?_ GE329.out) | exact HB.out))); (case side2 => exact HC1.out); rintro e w' ⟨rfl, ⟨nd, rfl⟩⟩; refine ⟨_, rfl, ?_⟩))
       go_meet
       case rel => exact ⟨_, (true), (by first | rfl | (simp; done) | (simp [*]; done)), H', ⟨by have := HJ2.out; first | omega | exact Nat.le_refl _⟩, ⟨by (with_reducible repeat (first | apply Kd.R_alloc | apply Kd.R_drewN | apply Kd.R_drew)); exact Kd.R_mono (Kd.R_far (p := ⟨gb329, 2, none⟩) (Kd.R_far (p := ⟨gb329, 1, none⟩) (Kd.R_far (p := ⟨gb329, 0, none⟩) (Kd.R_types HO305.out BK329.out (by decide)) (fun _ hk => hk.2) (.slice Ao24 t320.length co24)) (fun _ hk => hk.2) (.slice Ao28 t323.length co28)) (fun _ hk => hk.2) (.slice Ao29 t326.length co29)) (fun _ hk => ⟨hk.1.1.1.1, ⟨hk.1.1.1.2, ⟨hk.1.1.2, hk.1.2⟩⟩⟩)⟩, ⟨by (with_reducible repeat (first | apply Kd.S_alloc | apply Kd.S_drewN | apply Kd.S_drew)); exact Kd.S_mono (Kd.S_far (p := ⟨gb329, 2, none⟩) (Kd.S_far (p := ⟨gb329, 1, none⟩) (Kd.S_far (p := ⟨gb329, 0, none⟩) (Kd.S_types HO308.out BK329.out (by decide)) (fun _ hk => hk.2) (.slice Ao24 t320.length co24)) (fun _ hk => hk.2) (.slice Ao28 t323.length co28)) (fun _ hk => hk.2) (.slice Ao29 t326.length co29)) (fun _ hk => ⟨hk.1.1.1.1.1.1, ⟨hk.1.1.1.1.1.2, ⟨hk.1.1.1.1.2, ⟨hk.1.1.1.2, ⟨hk.1.1.2, hk.1.2⟩⟩⟩⟩⟩)⟩, ⟨by (with_reducible repeat (first | apply Kd.R_alloc | apply Kd.R_drewN | apply Kd.R_drew)); exact Kd.R_mono (Kd.R_far (p := ⟨gb329, 2, none⟩) (Kd.R_far (p := ⟨gb329, 1, none⟩) (Kd.R_far (p := ⟨gb329, 0, none⟩) (Kd.R_types HO311.out BK329.out (by decide)) (fun _ hk => hk.2) (.slice Ao24 t320.length co24)) (fun _ hk => hk.2) (.slice Ao28 t323.length co28)) (fun _ hk => hk.2) (.slice Ao29 t326.length co29)) (fun _ hk => ⟨hk.1.1.1.1, ⟨hk.1.1.1.2, ⟨hk.1.1.2, hk.1.2⟩⟩⟩)⟩, ⟨by (with_reducible repeat (first | apply Kd.R_alloc | apply Kd.R_drewN | apply Kd.R_drew)); exact Kd.R_mono (Kd.R_far (p := ⟨gb329, 2, none⟩) (Kd.R_far (p := ⟨gb329, 1, none⟩) (Kd.R_far (p := ⟨gb329, 0, none⟩) (Kd.R_types HO317.out BK329.out (by decide)) (fun _ hk => hk.2) (.slice Ao24 t320.length co24)) (fun _ hk => hk.2) (.slice Ao28 t323.length co28)) (fun _ hk => hk.2) (.slice Ao29 t326.length co29)) (fun _ hk => ⟨hk.1.1.1.1.2, ⟨hk.1.1.1.2, ⟨hk.1.1.2, hk.1.2⟩⟩⟩)⟩, ⟨by (with_reducible repeat (first | apply Kd.R_alloc | apply Kd.R_drewN | apply Kd.R_drew)); exact Kd.R_mono (Kd.R_far (p := ⟨gb329, 2, none⟩) (Kd.R_far (p := ⟨gb329, 1, none⟩) (Kd.R_far (p := ⟨gb329, 0, none⟩) (Kd.R_types HO322.out BK329.out (by decide)) (fun _ hk => hk.2) (.slice Ao24 t320.length co24)) (fun _ hk => hk.2) (.slice Ao28 t323.length co28)) (fun _ hk => hk.2) (.slice Ao29 t326.length co29)) (fun _ hk => ⟨hk.1.1.1.2, ⟨hk.1.1.2, ⟨hk.1.2, hk.1.1.1.1⟩⟩⟩)⟩, ⟨by (with_reducible repeat (first | apply Kd.S_alloc | apply Kd.S_drewN | apply Kd.S_drew)); exact Kd.S_mono (Kd.S_far (p := ⟨gb329, 2, none⟩) (Kd.S_far (p := ⟨gb329, 1, none⟩) (Kd.S_far (p := ⟨gb329, 0, none⟩) (Kd.S_types HO325.out BK329.out (by decide)) (fun _ hk => hk.2) (.slice Ao24 t320.length co24)) (fun _ hk => hk.2) (.slice Ao28 t323.length co28)) (fun _ hk => hk.2) (.slice Ao29 t326.length co29)) (fun _ hk => ⟨hk.1.1.1.1.2, ⟨hk.1.1.1.2, ⟨hk.1.1.2, ⟨hk.1.2, ⟨hk.1.1.1.1.1.1, hk.1.1.1.1.1.2⟩⟩⟩⟩⟩)⟩, ⟨by (with_reducible repeat (first | apply Kd.R_alloc | apply Kd.R_drewN | apply Kd.R_drew)); exact Kd.R_mono (Kd.R_far (p := ⟨gb329, 2, none⟩) (Kd.R_far (p := ⟨gb329, 1, none⟩) (Kd.R_far (p := ⟨gb329, 0, none⟩) (Kd.R_types HO328.out BK329.out (by decide)) (fun _ hk => hk.2) (.slice Ao24 t320.length co24)) (fun _ hk => hk.2) (.slice Ao28 t323.length co28)) (fun _ hk => hk.2) (.slice Ao29 t326.length co29)) (fun _ hk => ⟨hk.1.1.1.2, ⟨hk.1.1.2, ⟨hk.1.2, hk.1.1.1.1⟩⟩⟩)⟩, ⟨by (with_reducible repeat (first | refine blk_drewN ?_ _ | refine blk_drew ?_ | refine blk_alloc ?_ _)); refine blk_far ?_ NB312_329.out _; (with_reducible repeat (first | refine blk_drewN ?_ _ | refine blk_drew ?_ | refine blk_alloc ?_ _)); refine blk_far ?_ NB312_329.out _; (with_reducible repeat (first | refine blk_drewN ?_ _ | refine blk_drew ?_ | refine blk_alloc ?_ _)); refine blk_far ?_ NB312_329.out _; (with_reducible repeat (first | refine blk_drewN ?_ _ | refine blk_drew ?_ | refine blk_alloc ?_ _)); exact BK312.out⟩, ⟨by (with_reducible repeat (first | refine blk_drewN ?_ _ | refine blk_drew ?_ | refine blk_alloc ?_ _)); refine blk_far ?_ NB318_329.out _; (with_reducible repeat (first | refine blk_drewN ?_ _ | refine blk_drew ?_ | refine blk_alloc ?_ _)); refine blk_far ?_ NB318_329.out _; (with_reducible repeat (first | refine blk_drewN ?_ _ | refine blk_drew ?_ | refine blk_alloc ?_ _)); refine blk_far ?_ NB318_329.out _; (with_reducible repeat (first | refine blk_drewN ?_ _ | refine blk_drew ?_ | refine blk_alloc ?_ _)); exact BK318.out⟩, ⟨by (with_reducible repeat (first | refine blk_drewN ?_ _ | refine blk_drew ?_ | refine blk_alloc ?_ _)); refine blk_put (cs := #[.slice Ao24 t320.length co24, .slice Ao28 t323.length co28, .slice none 0 0]) ?_ 2 _ rfl; (with_reducible repeat (first | refine blk_drewN ?_ _ | refine blk_drew ?_ | refine blk_alloc ?_ _)); refine blk_put (cs := #[.slice Ao24 t320.length co24, .slice none 0 0, .slice none 0 0]) ?_ 1 _ rfl; (with_reducible repeat (first | refine blk_drewN ?_ _ | refine blk_drew ?_ | refine blk_alloc ?_ _)); refine blk_put (cs := #[.slice none 0 0, .slice none 0 0, .slice none 0 0]) ?_ 0 _ rfl; (with_reducible repeat (first | refine blk_drewN ?_ _ | refine blk_drew ?_ | refine blk_alloc ?_ _)); exact BK329.out⟩, ⟨by repeat (first | (with_reducible first | exact HB.out | apply below_alloc | apply pw_below_drewN | apply below_drew1 | refine below_set ?_ GE312.out | refine below_set ?_ GE318.out | refine below_set ?_ GE329.out) | exact HB.out)⟩⟩
      ·rw [if_neg c31] at H
       have c31b0 : ((Int.tmod t330 2) == 0) = false := beq_eq_false_iff_ne.mpr c31
       have c31b1 : ((Int.tmod t330 2) != 0) = true := bne_iff_ne.mpr c31
       (first | rw [c31b0] | (simp only [i64_w, i32_w]; rw [c31b0]) | skip)
       have H' := Aside0.mk H
       clear H
       go_wp2_with (first | ((with_reducible refine gate_callee (f := 25) rfl ?_); refine goesL_ (some 30) rfl rfl Try.func25 (by kernel_rfl) rfl #[.slice A1 l1.length c1, .int .i64 0] rfl (by (try simp only [List.map_toArray, List.map_cons, List.map_nil]); first | done | rfl | (simp only [List.length_drop, List.length_take]; rfl)) ?_; (with_reducible refine (laws_wByte.calls _ _ l1 0 t330 _ ?side1 ?side2 A30.out).mono ?_); (case side1 => exact Kd.C_below HR1.out (by repeat (first | (with_reducible first | exact HB.out | apply below_alloc | apply pw_below_drewN | apply below_drew1 | refine below_set ?_ GE312.out | refine below_set ?_ GE318.out | refine below_set ?_ GE329.out) | exact HB.out))); (case side2 => exact HC1.out); rintro e w' ⟨rfl, ⟨nd, rfl⟩⟩; refine ⟨_, rfl, ?_⟩; have hnb32 := NB329_312.out; have hnc32 := NB312_329.out; have hnb33 := NB329_318.out; have hnc33 := NB318_329.out; have hcz34_0 : w23.cell? ⟨gb329, 0, none⟩ = some (.slice none 0 0) := (blk_cell BK329.out 0).trans rfl; have hcz34_1 : w23.cell? ⟨gb329, 1, none⟩ = some (.slice none 0 0) := (blk_cell BK329.out 1).trans rfl; have hcz34_2 : w23.cell? ⟨gb329, 2, none⟩ = some (.slice none 0 0) := (blk_cell BK329.out 2).trans rfl; have hfz34_0 := blk_frozen BK329.out 0; have hfz34_1 := blk_frozen BK329.out 1; have hfz34_2 := blk_frozen BK329.out 2))
       go_meet
       case rel => exact ⟨_, (((t323.length : Int) == 0)), (by first | rfl | (simp; done) | (simp [*]; done)), H', ⟨by have := HJ2.out; first | omega | exact Nat.le_refl _⟩, ⟨by (with_reducible repeat (first | apply Kd.R_alloc | apply Kd.R_drewN | apply Kd.R_drew)); exact Kd.R_mono (Kd.R_far (p := ⟨gb329, 2, none⟩) (Kd.R_far (p := ⟨gb329, 1, none⟩) (Kd.R_far (p := ⟨gb329, 0, none⟩) (Kd.R_types HO305.out BK329.out (by decide)) (fun _ hk => hk.2) (.slice Ao24 t320.length co24)) (fun _ hk => hk.2) (.slice Ao28 t323.length co28)) (fun _ hk => hk.2) (.slice Ao29 t326.length co29)) (fun _ hk => ⟨hk.1.1.1.1, ⟨hk.1.1.1.2, ⟨hk.1.1.2, hk.1.2⟩⟩⟩)⟩, ⟨by (with_reducible repeat (first | apply Kd.S_alloc | apply Kd.S_drewN | apply Kd.S_drew)); exact Kd.S_mono (Kd.S_far (p := ⟨gb329, 2, none⟩) (Kd.S_far (p := ⟨gb329, 1, none⟩) (Kd.S_far (p := ⟨gb329, 0, none⟩) (Kd.S_types HO308.out BK329.out (by decide)) (fun _ hk => hk.2) (.slice Ao24 t320.length co24)) (fun _ hk => hk.2) (.slice Ao28 t323.length co28)) (fun _ hk => hk.2) (.slice Ao29 t326.length co29)) (fun _ hk => ⟨hk.1.1.1.1.1.1, ⟨hk.1.1.1.1.1.2, ⟨hk.1.1.1.1.2, ⟨hk.1.1.1.2, ⟨hk.1.1.2, hk.1.2⟩⟩⟩⟩⟩)⟩, ⟨by (with_reducible repeat (first | apply Kd.R_alloc | apply Kd.R_drewN | apply Kd.R_drew)); exact Kd.R_mono (Kd.R_far (p := ⟨gb329, 2, none⟩) (Kd.R_far (p := ⟨gb329, 1, none⟩) (Kd.R_far (p := ⟨gb329, 0, none⟩) (Kd.R_types HO311.out BK329.out (by decide)) (fun _ hk => hk.2) (.slice Ao24 t320.length co24)) (fun _ hk => hk.2) (.slice Ao28 t323.length co28)) (fun _ hk => hk.2) (.slice Ao29 t326.length co29)) (fun _ hk => ⟨hk.1.1.1.1, ⟨hk.1.1.1.2, ⟨hk.1.1.2, hk.1.2⟩⟩⟩)⟩, ⟨by (with_reducible repeat (first | apply Kd.R_alloc | apply Kd.R_drewN | apply Kd.R_drew)); exact Kd.R_mono (Kd.R_far (p := ⟨gb329, 2, none⟩) (Kd.R_far (p := ⟨gb329, 1, none⟩) (Kd.R_far (p := ⟨gb329, 0, none⟩) (Kd.R_types HO317.out BK329.out (by decide)) (fun _ hk => hk.2) (.slice Ao24 t320.length co24)) (fun _ hk => hk.2) (.slice Ao28 t323.length co28)) (fun _ hk => hk.2) (.slice Ao29 t326.length co29)) (fun _ hk => ⟨hk.1.1.1.1.2, ⟨hk.1.1.1.2, ⟨hk.1.1.2, hk.1.2⟩⟩⟩)⟩, ⟨by (with_reducible repeat (first | apply Kd.R_alloc | apply Kd.R_drewN | apply Kd.R_drew)); exact Kd.R_mono (Kd.R_far (p := ⟨gb329, 2, none⟩) (Kd.R_far (p := ⟨gb329, 1, none⟩) (Kd.R_far (p := ⟨gb329, 0, none⟩) (Kd.R_types HO322.out BK329.out (by decide)) (fun _ hk => hk.2) (.slice Ao24 t320.length co24)) (fun _ hk => hk.2) (.slice Ao28 t323.length co28)) (fun _ hk => hk.2) (.slice Ao29 t326.length co29)) (fun _ hk => ⟨hk.1.1.1.2, ⟨hk.1.1.2, ⟨hk.1.2, hk.1.1.1.1⟩⟩⟩)⟩, ⟨by (with_reducible repeat (first | apply Kd.S_alloc | apply Kd.S_drewN | apply Kd.S_drew)); exact Kd.S_mono (Kd.S_far (p := ⟨gb329, 2, none⟩) (Kd.S_far (p := ⟨gb329, 1, none⟩) (Kd.S_far (p := ⟨gb329, 0, none⟩) (Kd.S_types HO325.out BK329.out (by decide)) (fun _ hk => hk.2) (.slice Ao24 t320.length co24)) (fun _ hk => hk.2) (.slice Ao28 t323.length co28)) (fun _ hk => hk.2) (.slice Ao29 t326.length co29)) (fun _ hk => ⟨hk.1.1.1.1.2, ⟨hk.1.1.1.2, ⟨hk.1.1.2, ⟨hk.1.2, ⟨hk.1.1.1.1.1.1, hk.1.1.1.1.1.2⟩⟩⟩⟩⟩)⟩, ⟨by (with_reducible repeat (first | apply Kd.R_alloc | apply Kd.R_drewN | apply Kd.R_drew)); exact Kd.R_mono (Kd.R_far (p := ⟨gb329, 2, none⟩) (Kd.R_far (p := ⟨gb329, 1, none⟩) (Kd.R_far (p := ⟨gb329, 0, none⟩) (Kd.R_types HO328.out BK329.out (by decide)) (fun _ hk => hk.2) (.slice Ao24 t320.length co24)) (fun _ hk => hk.2) (.slice Ao28 t323.length co28)) (fun _ hk => hk.2) (.slice Ao29 t326.length co29)) (fun _ hk => ⟨hk.1.1.1.2, ⟨hk.1.1.2, ⟨hk.1.2, hk.1.1.1.1⟩⟩⟩)⟩, ⟨by (with_reducible repeat (first | refine blk_drewN ?_ _ | refine blk_drew ?_ | refine blk_alloc ?_ _)); refine blk_far ?_ NB312_329.out _; (with_reducible repeat (first | refine blk_drewN ?_ _ | refine blk_drew ?_ | refine blk_alloc ?_ _)); refine blk_far ?_ NB312_329.out _; (with_reducible repeat (first | refine blk_drewN ?_ _ | refine blk_drew ?_ | refine blk_alloc ?_ _)); refine blk_far ?_ NB312_329.out _; (with_reducible repeat (first | refine blk_drewN ?_ _ | refine blk_drew ?_ | refine blk_alloc ?_ _)); exact BK312.out⟩, ⟨by (with_reducible repeat (first | refine blk_drewN ?_ _ | refine blk_drew ?_ | refine blk_alloc ?_ _)); refine blk_far ?_ NB318_329.out _; (with_reducible repeat (first | refine blk_drewN ?_ _ | refine blk_drew ?_ | refine blk_alloc ?_ _)); refine blk_far ?_ NB318_329.out _; (with_reducible repeat (first | refine blk_drewN ?_ _ | refine blk_drew ?_ | refine blk_alloc ?_ _)); refine blk_far ?_ NB318_329.out _; (with_reducible repeat (first | refine blk_drewN ?_ _ | refine blk_drew ?_ | refine blk_alloc ?_ _)); exact BK318.out⟩, ⟨by (with_reducible repeat (first | refine blk_drewN ?_ _ | refine blk_drew ?_ | refine blk_alloc ?_ _)); refine blk_put (cs := #[.slice Ao24 t320.length co24, .slice Ao28 t323.length co28, .slice none 0 0]) ?_ 2 _ rfl; (with_reducible repeat (first | refine blk_drewN ?_ _ | refine blk_drew ?_ | refine blk_alloc ?_ _)); refine blk_put (cs := #[.slice Ao24 t320.length co24, .slice none 0 0, .slice none 0 0]) ?_ 1 _ rfl; (with_reducible repeat (first | refine blk_drewN ?_ _ | refine blk_drew ?_ | refine blk_alloc ?_ _)); refine blk_put (cs := #[.slice none 0 0, .slice none 0 0, .slice none 0 0]) ?_ 0 _ rfl; (with_reducible repeat (first | refine blk_drewN ?_ _ | refine blk_drew ?_ | refine blk_alloc ?_ _)); exact BK329.out⟩, ⟨by repeat (first | (with_reducible first | exact HB.out | apply below_alloc | apply pw_below_drewN | apply below_drew1 | refine below_set ?_ GE312.out | refine below_set ?_ GE318.out | refine below_set ?_ GE329.out) | exact HB.out)⟩⟩
     case rest =>
      clear HC10
      try clear c1
      try clear c2
      try clear p2
      try clear c3
      try clear c4
      try clear c4b0
      try clear c4b1
      try clear c5
      try clear c8
      try clear c14
      try clear c19
      try clear c24
      try clear c25
      try clear c26
      try clear c31
      try clear c31b0
      try clear c31b1
      try clear c32
      try clear c33
      try clear hcz14_0
      try clear hcz14_1
      try clear hcz14_2
      try clear hcz20_0
      try clear hcz20_1
      try clear hcz20_2
      try clear hcz27_0
      try clear hcz27_1
      try clear hcz27_2
      try clear hcz34_0
      try clear hcz34_1
      try clear hcz34_2
      try clear hfz14_0
      try clear hfz14_1
      try clear hfz14_2
      try clear hfz20_0
      try clear hfz20_1
      try clear hfz20_2
      try clear hfz27_0
      try clear hfz27_1
      try clear hfz27_2
      try clear hfz34_0
      try clear hfz34_1
      try clear hfz34_2
      try clear p2
      obtain ⟨kq, x38_9, rfl, HA, HJ9, HO_313000, HO_313001, HO_313002, HO_319002, HO_330000, HO_330001, HO_330002, BK312, BK318, BK329, HB⟩ := hcut
      cases kq with
      | zero => exact absurd HA.out (by simp [laws_FnEasier.j1])
      | succ kj9 =>
       have H := HA.out
       clear HA
       simp only [laws_FnEasier.j1] at H
       by_cases c35 : x38_9 = true
       ·subst c35
        have H1 : ((laws_wByte.f l1 1).bind fun t331 => (if (t320.length : Int) = 0 then (none) else (if 0 ≤ (Int.tmod t331 (t320.length : Int)) then (if (Int.tmod t331 (t320.length : Int)) < (t320.length : Int) then ((some (t320.set ((Int.tmod t331 (t320.length : Int)) : Int).toNat (wrap64 ((rd t320 (Int.tmod t331 (t320.length : Int))) + 1)) : List Int)).bind fun y333 => ((impl_Solve.f kj9 y333 t323 t326).bind fun bt334 => (if bt334.1 = true then (if bt334.2.1 ≤ t314 then ((spec_Solve.f kj9 y333 t323 t326).bind fun bt340 => (some (bt334.2.1 == bt340.2.1))) else (some false)) else (some false)))) else (none)) else (none)))) = some r := by rw [if_pos rfl] at H; exact H
        clear H
        have H := H1
        clear H1
        replace H := Option.bind_eq_some_iff.mp H
        obtain ⟨t331, A360, H⟩ := H
        replace H : (if (t320.length : Int) = 0 then (none) else (if 0 ≤ (Int.tmod t331 (t320.length : Int)) then (if (Int.tmod t331 (t320.length : Int)) < (t320.length : Int) then ((some (t320.set ((Int.tmod t331 (t320.length : Int)) : Int).toNat (wrap64 ((rd t320 (Int.tmod t331 (t320.length : Int))) + 1)) : List Int)).bind fun y333 => ((impl_Solve.f kj9 y333 t323 t326).bind fun bt334 => (if bt334.1 = true then (if bt334.2.1 ≤ t314 then ((spec_Solve.f kj9 y333 t323 t326).bind fun bt340 => (some (bt334.2.1 == bt340.2.1))) else (some false)) else (some false)))) else (none)) else (none))) = some r := H
        have A36 := Aside0.mk A360
        clear A360
        by_cases c37 : (t320.length : Int) = 0
        ·rw [if_pos c37] at H
         exact absurd H (by simp)
        ·rw [if_neg c37] at H
         have c37b0 : ((t320.length : Int) == 0) = false := beq_eq_false_iff_ne.mpr c37
         have c37b1 : ((t320.length : Int) != 0) = true := bne_iff_ne.mpr c37
         have c37b2 : ¬ (t320 = []) := fun h_ => c37 (by rw [h_]; rfl)
         obtain ⟨ji38, hji38⟩ : ∃ j_ : Int, (Int.tmod t331 (t320.length : Int)) = j_ := ⟨_, rfl⟩
         replace H : (if 0 ≤ (ji38) then (if (ji38) < (t320.length : Int) then ((some (t320.set ((ji38) : Int).toNat (wrap64 ((rd t320 (ji38)) + 1)) : List Int)).bind fun y333 => ((impl_Solve.f kj9 y333 t323 t326).bind fun bt334 => (if bt334.1 = true then (if bt334.2.1 ≤ t314 then ((spec_Solve.f kj9 y333 t323 t326).bind fun bt340 => (some (bt334.2.1 == bt340.2.1))) else (some false)) else (some false)))) else (none)) else (none)) = some r := by first | (rw [hji38] at H; exact H) | (simp only [hji38] at H ⊢; exact H)
         (try rw [hji38] at A36)
         by_cases c39 : 0 ≤ (ji38)
         ·rw [if_pos c39] at H
          have c39b0 : decide (0 ≤ (ji38)) = true := decide_eq_true c39
          clear c39
          by_cases c40 : (ji38) < (t320.length : Int)
          ·rw [if_pos c40] at H
           have c40b0 : decide ((ji38) < (t320.length : Int)) = true := decide_eq_true c40
           clear c40
           obtain ⟨y333, hy333⟩ : ∃ y_ : List Int, y_ = (t320.set ((ji38) : Int).toNat (wrap64 ((rd t320 (ji38)) + 1))) := ⟨_, rfl⟩
           replace H : ((impl_Solve.f kj9 y333 t323 t326).bind fun bt334 => (if bt334.1 = true then (if bt334.2.1 ≤ t314 then ((spec_Solve.f kj9 y333 t323 t326).bind fun bt340 => (some (bt334.2.1 == bt340.2.1))) else (some false)) else (some false))) = some r := by first | (rw [hy333]; with_reducible exact H) | (have H2_ := (Option.bind_some _ _).symm.trans H; rw [hy333]; with_reducible exact H2_) | (have H2_ := (Option.bind_some _ _).symm.trans H; with_reducible exact H2_) | with_reducible exact H | (rw [hy333]; exact H) | exact H
           have Ny333 := Aside0.mk hy333
           clear hy333
           replace H := Option.bind_eq_some_iff.mp H
           obtain ⟨⟨t334, t335, t336⟩, A420, H⟩ := H
           replace H : (if t334 = true then (if t335 ≤ t314 then ((spec_Solve.f kj9 y333 t323 t326).bind fun bt340 => (some (t335 == bt340.2.1))) else (some false)) else (some false)) = some r := H
           have A42 := Aside0.mk A420
           clear A420
           by_cases c43 : t334 = true
           ·subst c43
            have H1 : (if t335 ≤ t314 then ((spec_Solve.f kj9 y333 t323 t326).bind fun bt340 => (some (t335 == bt340.2.1))) else (some false)) = some r := by rw [if_pos rfl] at H; exact H
            clear H
            have H := H1
            clear H1
            by_cases c44 : t335 ≤ t314
            ·rw [if_pos c44] at H
             have c44b0 : decide (t335 ≤ t314) = true := decide_eq_true c44
             clear c44
             replace H := Option.bind_eq_some_iff.mp H
             obtain ⟨⟨t340, t341, t342⟩, A450, H⟩ := H
             replace H : (some (t335 == t341)) = some r := H
             have A45 := Aside0.mk A450
             clear A450
             obtain rfl := Option.some.inj H
             try go_wp2
             have n0_ := Aside0.mk (Kd.R_drew HO_313000.out)
             have n1_ := Aside0.mk (Kd.S_drew HO_313001.out)
             have n2_ := Aside0.mk (Kd.R_drew HO_313002.out)
             have n3_ := Aside0.mk (Kd.R_drew HO_319002.out)
             have n4_ := Aside0.mk (Kd.R_drew HO_330000.out)
             have n5_ := Aside0.mk (Kd.S_drew HO_330001.out)
             have n6_ := Aside0.mk (Kd.R_drew HO_330002.out)
             have n7_ := Aside0.mk (blk_drew BK312.out)
             have n8_ := Aside0.mk (blk_drew BK318.out)
             have n9_ := Aside0.mk (blk_drew BK329.out)
             have n10_ := Aside0.mk (below_drew1 HB.out)
             clear HO_313000
             clear HO_313001
             clear HO_313002
             clear HO_319002
             clear HO_330000
             clear HO_330001
             clear HO_330002
             clear BK312
             clear BK318
             clear BK329
             clear HB
             have HO_313000 := n0_
             have HO_313001 := n1_
             have HO_313002 := n2_
             have HO_319002 := n3_
             have HO_330000 := n4_
             have HO_330001 := n5_
             have HO_330002 := n6_
             have BK312 := n7_
             have BK318 := n8_
             have BK329 := n9_
             have HB := n10_
             clear n0_ n1_ n2_ n3_ n4_ n5_ n6_ n7_ n8_ n9_ n10_
             have p332 : 0 ≤ ((ji38) : Int) := of_decide_eq_true (by assumption)
             have q332 : (ji38) < (t320.length : Int) := of_decide_eq_true (by assumption)
             obtain ⟨ad332, e332, hx332_0⟩ := Kd.at_int (Kd.R_reads' HO_330000.out).2.2 (ji38) p332 q332
             cases e332
             replace p332 := eq_true p332
             replace q332 := eq_true q332
             refine start_ (n := 13) (S := fun w' => w'.cell? ⟨gb329, 0, none⟩ = some (.slice (some ad332) t320.length co24) ∧ w'.cell? ⟨gb329, 1, none⟩ = some (.slice Ao28 t323.length co28) ∧ w'.cell? ⟨gb329, 2, none⟩ = some (.slice Ao29 t326.length co29) ∧ w'.cell? (ad332.add ((ji38)).toNat) = some (.int .i64 (rd t320 (ji38)))) (ds := [12]) #[false, false, false, false, false, false, false, false, false, false, false, false, false] (by kernel_rfl) rfl rfl ⟨(blk_cell BK329.out 0).trans rfl, (blk_cell BK329.out 1).trans rfl, (blk_cell BK329.out 2).trans rfl, hx332_0⟩ (fun hHeld => ?_); refine with_tabW laws_FnEasier.tab9 laws_FnEasier.bits9 (fun HT_ HW_ => ?_)
             generalize wc.drew = w46 at HO_313000 HO_313001 HO_313002 HO_319002 HO_330000 HO_330001 HO_330002 BK312 BK318 BK329 HB hx332_0 hHeld ⊢
             refine pure_ (i := 0) (N := some 39) (v := ?_) (a' := ?_) #[true, false, false, false, false, false, false, false, false, false, false, false, false] rfl rfl (any_of HT_.out (by kernel_rfl)) (fun _ _ _ h => h) (Or.inl ⟨by rfl, ?_⟩) ?_ ?_
             rotate_left
             ·intro w'
              go_simp
              with_reducible rfl
             rotate_left
             ·simp only [Act.put, List.setIfInBounds_toArray, List.set_cons_zero, List.set_cons_succ, i64_w, i32_w]
              rfl
             refine pure_ (i := 2) (N := some 41) (v := ?_) (a' := ?_) #[true, false, true, false, false, false, false, false, false, false, false, false, false] rfl rfl (any_of HT_.out (by kernel_rfl)) (fun _ _ _ h => h) (Or.inl ⟨by rfl, ?_⟩) ?_ ?_
             rotate_left
             ·intro w'
              go_simp
              with_reducible rfl
             rotate_left
             ·simp only [Act.put, List.setIfInBounds_toArray, List.set_cons_zero, List.set_cons_succ, i64_w, i32_w]
              rfl
             refine pure_ (i := 4) (N := some 43) (v := ?_) (a' := ?_) #[true, false, true, false, true, false, false, false, false, false, false, false, false] rfl rfl (any_of HT_.out (by kernel_rfl)) (fun _ _ _ h => h) (Or.inl ⟨by rfl, ?_⟩) ?_ ?_
             rotate_left
             ·intro w'
              go_simp
              with_reducible rfl
             rotate_left
             ·simp only [Act.put, List.setIfInBounds_toArray, List.set_cons_zero, List.set_cons_succ, i64_w, i32_w]
              rfl
             refine take_ (i := 1) (N := some 40) (v := ?_) (a' := ?_) #[true, true, true, false, true, false, false, false, false, false, false, false, false] rfl rfl (take_ofW HT_.out HW_.out (by kernel_rfl)) (fun _ _ _ h => h) (Or.inl ⟨by rfl, ?_⟩) hHeld ?_ ?_
             rotate_left
             ·rintro w' ⟨s0, s1, s2, s3⟩
              try rw [add0_] at s3
              go_simp
              with_reducible rfl
             rotate_left
             ·simp only [Act.put, List.setIfInBounds_toArray, List.set_cons_zero, List.set_cons_succ, i64_w, i32_w]
              rfl
             refine take_ (i := 5) (N := some 44) (v := ?_) (a' := ?_) #[true, true, true, false, true, true, false, false, false, false, false, false, false] rfl rfl (take_ofW HT_.out HW_.out (by kernel_rfl)) (fun _ _ _ h => h) (Or.inl ⟨by rfl, ?_⟩) hHeld ?_ ?_
             rotate_left
             ·rintro w' ⟨s0, s1, s2, s3⟩
              try rw [add0_] at s3
              go_simp
              with_reducible rfl
             rotate_left
             ·simp only [Act.put, List.setIfInBounds_toArray, List.set_cons_zero, List.set_cons_succ, i64_w, i32_w]
              rfl
             refine pure_ (i := 6) (N := some 45) (v := ?_) (a' := ?_) #[true, true, true, false, true, true, true, false, false, false, false, false, false] rfl rfl (any_of HT_.out (by kernel_rfl)) (fun _ _ _ h => h) (Or.inl ⟨by rfl, ?_⟩) ?_ ?_
             rotate_left
             ·intro w'
              go_simp
              with_reducible rfl
             rotate_left
             ·simp only [Act.put, List.setIfInBounds_toArray, List.set_cons_zero, List.set_cons_succ, i64_w, i32_w]
              rfl
             refine one_ (i := 3) (N := some 42) #[true, true, true, true, true, true, true, false, false, false, false, false, false] rfl rfl (one_of HT_.out (by kernel_rfl)) (by decide) (fun K hK => ?_)
             refine goes_ Try.func25 (by kernel_rfl) rfl #[.slice A1 l1.length c1, .int .i64 1] (by rfl) rfl rfl (by (try simp only [List.map_toArray, List.map_cons, List.map_nil]); first | done | rfl | (simp only [List.length_drop, List.length_take]; rfl)) ?_
             with_reducible refine (laws_wByte.calls _ _ l1 1 t331 _ ?side1 ?side2 A36.out).mono ?_
             (case side1 => repeat (first | exact (Kd.C_below HR1.out HB.out) | (with_reducible refine Kd.C_alloc ?_ _) | (with_reducible refine Kd.C_drewN ?_ _) | (with_reducible refine Kd.C_drew ?_)))
             (case side2 => exact HC1.out)
             rintro e w' ⟨rfl, ⟨nd, rfl⟩⟩
             refine ⟨_, rfl, ?_⟩
             replace HO_313000 := Aside0.mk (Kd.R_drewN HO_313000.out nd)
             replace HO_313001 := Aside0.mk (Kd.S_drewN HO_313001.out nd)
             replace HO_313002 := Aside0.mk (Kd.R_drewN HO_313002.out nd)
             replace HO_319002 := Aside0.mk (Kd.R_drewN HO_319002.out nd)
             replace HO_330000 := Aside0.mk (Kd.R_drewN HO_330000.out nd)
             replace HO_330001 := Aside0.mk (Kd.S_drewN HO_330001.out nd)
             replace HO_330002 := Aside0.mk (Kd.R_drewN HO_330002.out nd)
             replace BK312 := Aside0.mk (blk_drewN BK312.out nd)
             replace BK318 := Aside0.mk (blk_drewN BK318.out nd)
             replace BK329 := Aside0.mk (blk_drewN BK329.out nd)
             replace HB := Aside0.mk (pw_below_drewN HB.out nd)
             have p41 : 0 ≤ ((ji38) : Int) := of_decide_eq_true (by assumption)
             have q41 : ((ji38) : Int) < ((t320.length : Int) : Int) := of_decide_eq_true (by assumption)
             obtain ⟨go41, co41, eo41, gb41, gl41, cl41, HG41⟩ := Kd.R_form HO_330000.out (by omega)
             (first | cases eo41 | (injection eo41 with ea_ en_ ec_; (first | subst ea_ | (injection ea_ with ea_; subst ea_)); subst ec_; clear en_))
             have GB41 := Aside0.mk gb41
             have GG41 := Aside0.mk HG41
             clear gb41 gl41 HG41
             (first | simp only [add_plain] at hx332_0 | skip)
             obtain ⟨hx41_0, hf41_0⟩ := Kd.R_celln 0 HO_330000.out ((ji38) : Int) p41 q41
             replace p41 := eq_true p41
             replace q41 := eq_true q41
             have HP47 := Kd.R_putn HO_330000.out ((ji38) : Int) (wrap64 ((rd t320 (ji38)) + 1))
             rw [← Ny333.out] at HP47
             have HQ47 := Aside0.mk HP47
             clear HP47
             refine hK.out _ _ ⟨(blk_cell BK329.out 0).trans rfl, (blk_cell BK329.out 1).trans rfl, (blk_cell BK329.out 2).trans rfl, hHeld.2.2.2⟩ (fun hHeld => ?_)
             clear hK K
             refine norm_ (a' := ?_) ?_ ?_
             rotate_left
             ·show Act.put _ (some 42) _ = _
              simp only [Act.put, List.setIfInBounds_toArray, List.set_cons_zero, List.set_cons_succ, i64_w, i32_w]
              rfl
             refine pure_ (i := 7) (N := some 46) (v := ?_) (a' := ?_) #[true, true, true, true, true, true, true, true, false, false, false, false, false] rfl rfl (any_of HT_.out (by kernel_rfl)) (fun _ _ _ h => h) (Or.inl ⟨by rfl, ?_⟩) ?_ ?_
             rotate_left
             ·intro w'
              go_simp
              with_reducible rfl
             rotate_left
             ·simp only [Act.put, List.setIfInBounds_toArray, List.set_cons_zero, List.set_cons_succ, i64_w, i32_w]
              rfl
             refine pure_ (i := 8) (N := some 47) (v := ?_) (a' := ?_) #[true, true, true, true, true, true, true, true, true, false, false, false, false] rfl rfl (any_of HT_.out (by kernel_rfl)) (fun _ _ _ h => h) (Or.inl ⟨by rfl, ?_⟩) ?_ ?_
             rotate_left
             ·intro w'
              go_simp
              with_reducible rfl
             rotate_left
             ·simp only [Act.put, List.setIfInBounds_toArray, List.set_cons_zero, List.set_cons_succ, i64_w, i32_w]
              rfl
             refine take_ (i := 9) (N := some 48) (v := ?_) (a' := ?_) #[true, true, true, true, true, true, true, true, true, true, false, false, false] rfl rfl (take_ofW HT_.out HW_.out (by kernel_rfl)) (fun _ _ _ h => h) (Or.inl ⟨by rfl, ?_⟩) hHeld ?_ ?_
             rotate_left
             ·rintro w' ⟨s0, s1, s2, s3⟩
              try rw [add0_] at s3
              go_simp
              with_reducible rfl
             rotate_left
             ·simp only [Act.put, List.setIfInBounds_toArray, List.set_cons_zero, List.set_cons_succ, i64_w, i32_w]
              rfl
             refine pure_ (i := 10) (N := some 49) (v := ?_) (a' := ?_) #[true, true, true, true, true, true, true, true, true, true, true, false, false] rfl rfl (any_of HT_.out (by kernel_rfl)) (fun _ _ _ h => h) (Or.inl ⟨by rfl, ?_⟩) ?_ ?_
             rotate_left
             ·intro w'
              go_simp
              with_reducible rfl
             rotate_left
             ·simp only [Act.put, List.setIfInBounds_toArray, List.set_cons_zero, List.set_cons_succ, i64_w, i32_w]
              rfl
             refine pure_ (i := 11) (N := some 50) (v := ?_) (a' := ?_) #[true, true, true, true, true, true, true, true, true, true, true, true, false] rfl rfl (any_of HT_.out (by kernel_rfl)) (fun _ _ _ h => h) (Or.inl ⟨by rfl, ?_⟩) ?_ ?_
             rotate_left
             ·intro w'
              go_simp
              with_reducible rfl
             rotate_left
             ·simp only [Act.put, List.setIfInBounds_toArray, List.set_cons_zero, List.set_cons_succ, i64_w, i32_w]
              rfl
             refine last_ (i := 12) (N := none) #[true, true, true, true, true, true, true, true, true, true, true, true, true] rfl rfl (one_of HT_.out (by kernel_rfl)) (by decide) (fun K hK => ?_)
             refine skip_ (w1 := ?_) (by rfl) rfl ?_ ?_
             rotate_left
             ·go_simp
              rfl
             refine hK.out _ _ ?_
             clear hK K
             refine done_ (done_of HT_.out (by kernel_rfl)) ?_
             have n0_ : Aside0 (Kd.R (Kd.int .i64) 3 ((w46.drewN nd).setCell ⟨go41, ((ji38) : Int).toNat, none⟩ (.int .i64 (wrap64 ((rd t320 (ji38)) + 1)))) w.heap.size (fun k_ => some k_ ≠ (.slice Ao16 t309.length co16 : Value).ownBlock ∧ some k_ ≠ (.slice Ao21 t315.length co21 : Value).ownBlock ∧ some k_ ≠ (.slice (some ⟨go41, 0, none⟩) t320.length co24 : Value).ownBlock ∧ some k_ ≠ (.slice Ao29 t326.length co29 : Value).ownBlock) (.slice Ao13 t303.length co13) t303) := ⟨by (with_reducible repeat (first | apply Kd.R_alloc | apply Kd.R_drewN | apply Kd.R_drew)); exact Kd.R_mono (Kd.R_far (p := ⟨go41, ((ji38) : Int).toNat, none⟩) (Kd.R_mono HO_313000.out (fun k_ hk => (⟨hk, fun e_ => hk.2.2.1 (by rw [e_]; rfl)⟩ : _ ∧ k_ ≠ go41))) (fun _ hk => hk.2) (.int .i64 (wrap64 ((rd t320 (ji38)) + 1)))) (fun _ hk => ⟨hk.1.1, ⟨hk.1.2.1, ⟨hk.1.2.2.1, hk.1.2.2.2⟩⟩⟩)⟩
             have n1_ : Aside0 (Kd.S k35 35 ((w46.drewN nd).setCell ⟨go41, ((ji38) : Int).toNat, none⟩ (.int .i64 (wrap64 ((rd t320 (ji38)) + 1)))) w.heap.size (fun k_ => some k_ ≠ (.slice Ao13 t303.length co13 : Value).ownBlock ∧ some k_ ≠ (.slice Ao16 t309.length co16 : Value).ownBlock ∧ some k_ ≠ (.slice Ao21 t315.length co21 : Value).ownBlock ∧ some k_ ≠ (.slice (some ⟨go41, 0, none⟩) t320.length co24 : Value).ownBlock ∧ some k_ ≠ (.slice Ao28 t323.length co28 : Value).ownBlock ∧ some k_ ≠ (.slice Ao29 t326.length co29 : Value).ownBlock) (.slice Ao15 t306.length co15) t306) := ⟨by (with_reducible repeat (first | apply Kd.S_alloc | apply Kd.S_drewN | apply Kd.S_drew)); exact Kd.S_mono (Kd.S_far (p := ⟨go41, ((ji38) : Int).toNat, none⟩) (Kd.S_mono HO_313001.out (fun k_ hk => (⟨hk, fun e_ => hk.2.2.2.1 (by rw [e_]; rfl)⟩ : _ ∧ k_ ≠ go41))) (fun _ hk => hk.2) (.int .i64 (wrap64 ((rd t320 (ji38)) + 1)))) (fun _ hk => ⟨hk.1.1, ⟨hk.1.2.1, ⟨hk.1.2.2.1, ⟨hk.1.2.2.2.1, ⟨hk.1.2.2.2.2.1, hk.1.2.2.2.2.2⟩⟩⟩⟩⟩)⟩
             have n2_ : Aside0 (Kd.R (Kd.int .i64) 3 ((w46.drewN nd).setCell ⟨go41, ((ji38) : Int).toNat, none⟩ (.int .i64 (wrap64 ((rd t320 (ji38)) + 1)))) w.heap.size (fun k_ => some k_ ≠ (.slice Ao13 t303.length co13 : Value).ownBlock ∧ some k_ ≠ (.slice Ao21 t315.length co21 : Value).ownBlock ∧ some k_ ≠ (.slice (some ⟨go41, 0, none⟩) t320.length co24 : Value).ownBlock ∧ some k_ ≠ (.slice Ao29 t326.length co29 : Value).ownBlock) (.slice Ao16 t309.length co16) t309) := ⟨by (with_reducible repeat (first | apply Kd.R_alloc | apply Kd.R_drewN | apply Kd.R_drew)); exact Kd.R_mono (Kd.R_far (p := ⟨go41, ((ji38) : Int).toNat, none⟩) (Kd.R_mono HO_313002.out (fun k_ hk => (⟨hk, fun e_ => hk.2.2.1 (by rw [e_]; rfl)⟩ : _ ∧ k_ ≠ go41))) (fun _ hk => hk.2) (.int .i64 (wrap64 ((rd t320 (ji38)) + 1)))) (fun _ hk => ⟨hk.1.1, ⟨hk.1.2.1, ⟨hk.1.2.2.1, hk.1.2.2.2⟩⟩⟩)⟩
             have n3_ : Aside0 (Kd.R (Kd.int .i64) 3 ((w46.drewN nd).setCell ⟨go41, ((ji38) : Int).toNat, none⟩ (.int .i64 (wrap64 ((rd t320 (ji38)) + 1)))) w.heap.size (fun k_ => some k_ ≠ (.slice Ao13 t303.length co13 : Value).ownBlock ∧ some k_ ≠ (.slice Ao16 t309.length co16 : Value).ownBlock ∧ some k_ ≠ (.slice (some ⟨go41, 0, none⟩) t320.length co24 : Value).ownBlock ∧ some k_ ≠ (.slice Ao29 t326.length co29 : Value).ownBlock) (.slice Ao21 t315.length co21) t315) := ⟨by (with_reducible repeat (first | apply Kd.R_alloc | apply Kd.R_drewN | apply Kd.R_drew)); exact Kd.R_mono (Kd.R_far (p := ⟨go41, ((ji38) : Int).toNat, none⟩) (Kd.R_mono HO_319002.out (fun k_ hk => (⟨hk, fun e_ => hk.2.2.1 (by rw [e_]; rfl)⟩ : _ ∧ k_ ≠ go41))) (fun _ hk => hk.2) (.int .i64 (wrap64 ((rd t320 (ji38)) + 1)))) (fun _ hk => ⟨hk.1.1, ⟨hk.1.2.1, ⟨hk.1.2.2.1, hk.1.2.2.2⟩⟩⟩)⟩
             have n4_ : Aside0 (Kd.R (Kd.int .i64) 3 ((w46.drewN nd).setCell ⟨go41, ((ji38) : Int).toNat, none⟩ (.int .i64 (wrap64 ((rd t320 (ji38)) + 1)))) w.heap.size (fun k_ => some k_ ≠ (.slice Ao13 t303.length co13 : Value).ownBlock ∧ some k_ ≠ (.slice Ao16 t309.length co16 : Value).ownBlock ∧ some k_ ≠ (.slice Ao21 t315.length co21 : Value).ownBlock ∧ some k_ ≠ (.slice Ao29 t326.length co29 : Value).ownBlock) (.slice (some ⟨go41, 0, none⟩) t320.length co24) y333) := ⟨by (with_reducible repeat (first | apply Kd.R_alloc | apply Kd.R_drewN | apply Kd.R_drew)); exact HQ47.out⟩
             have n5_ : Aside0 (Kd.S k35 35 ((w46.drewN nd).setCell ⟨go41, ((ji38) : Int).toNat, none⟩ (.int .i64 (wrap64 ((rd t320 (ji38)) + 1)))) w.heap.size (fun k_ => some k_ ≠ (.slice Ao13 t303.length co13 : Value).ownBlock ∧ some k_ ≠ (.slice Ao15 t306.length co15 : Value).ownBlock ∧ some k_ ≠ (.slice Ao16 t309.length co16 : Value).ownBlock ∧ some k_ ≠ (.slice Ao21 t315.length co21 : Value).ownBlock ∧ some k_ ≠ (.slice (some ⟨go41, 0, none⟩) t320.length co24 : Value).ownBlock ∧ some k_ ≠ (.slice Ao29 t326.length co29 : Value).ownBlock) (.slice Ao28 t323.length co28) t323) := ⟨by (with_reducible repeat (first | apply Kd.S_alloc | apply Kd.S_drewN | apply Kd.S_drew)); exact Kd.S_mono (Kd.S_far (p := ⟨go41, ((ji38) : Int).toNat, none⟩) (Kd.S_mono HO_330001.out (fun k_ hk => (⟨hk, fun e_ => hk.2.2.2.2.1 (by rw [e_]; rfl)⟩ : _ ∧ k_ ≠ go41))) (fun _ hk => hk.2) (.int .i64 (wrap64 ((rd t320 (ji38)) + 1)))) (fun _ hk => ⟨hk.1.1, ⟨hk.1.2.1, ⟨hk.1.2.2.1, ⟨hk.1.2.2.2.1, ⟨hk.1.2.2.2.2.1, hk.1.2.2.2.2.2⟩⟩⟩⟩⟩)⟩
             have n6_ : Aside0 (Kd.R (Kd.int .i64) 3 ((w46.drewN nd).setCell ⟨go41, ((ji38) : Int).toNat, none⟩ (.int .i64 (wrap64 ((rd t320 (ji38)) + 1)))) w.heap.size (fun k_ => some k_ ≠ (.slice Ao13 t303.length co13 : Value).ownBlock ∧ some k_ ≠ (.slice Ao16 t309.length co16 : Value).ownBlock ∧ some k_ ≠ (.slice Ao21 t315.length co21 : Value).ownBlock ∧ some k_ ≠ (.slice (some ⟨go41, 0, none⟩) t320.length co24 : Value).ownBlock) (.slice Ao29 t326.length co29) t326) := ⟨by (with_reducible repeat (first | apply Kd.R_alloc | apply Kd.R_drewN | apply Kd.R_drew)); exact Kd.R_mono (Kd.R_far (p := ⟨go41, ((ji38) : Int).toNat, none⟩) (Kd.R_mono HO_330002.out (fun k_ hk => (⟨hk, fun e_ => hk.2.2.2 (by rw [e_]; rfl)⟩ : _ ∧ k_ ≠ go41))) (fun _ hk => hk.2) (.int .i64 (wrap64 ((rd t320 (ji38)) + 1)))) (fun _ hk => ⟨hk.1.1, ⟨hk.1.2.1, ⟨hk.1.2.2.1, hk.1.2.2.2⟩⟩⟩)⟩
             have n7_ : Aside0 (((w46.drewN nd).setCell ⟨go41, ((ji38) : Int).toNat, none⟩ (.int .i64 (wrap64 ((rd t320 (ji38)) + 1)))).heap[gb312]? = some (.cells #[.slice Ao13 t303.length co13, .slice Ao15 t306.length co15, .slice Ao16 t309.length co16] 26 (0, 0))) := ⟨by (with_reducible repeat (first | refine blk_drewN ?_ _ | refine blk_drew ?_ | refine blk_alloc ?_ _)); refine blk_far ?_ (by have h_ := Kd.R_ne HO_330000.out BK312.out (by decide); intro e_; exact h_ (by rw [e_]; rfl)) _; (with_reducible repeat (first | refine blk_drewN ?_ _ | refine blk_drew ?_ | refine blk_alloc ?_ _)); exact BK312.out⟩
             have n8_ : Aside0 (((w46.drewN nd).setCell ⟨go41, ((ji38) : Int).toNat, none⟩ (.int .i64 (wrap64 ((rd t320 (ji38)) + 1)))).heap[gb318]? = some (.cells #[.bool true, .int .i64 t314, .slice Ao21 t315.length co21] 41 (0, 0))) := ⟨by (with_reducible repeat (first | refine blk_drewN ?_ _ | refine blk_drew ?_ | refine blk_alloc ?_ _)); refine blk_far ?_ (by have h_ := Kd.R_ne HO_330000.out BK318.out (by decide); intro e_; exact h_ (by rw [e_]; rfl)) _; (with_reducible repeat (first | refine blk_drewN ?_ _ | refine blk_drew ?_ | refine blk_alloc ?_ _)); exact BK318.out⟩
             have n9_ : Aside0 (((w46.drewN nd).setCell ⟨go41, ((ji38) : Int).toNat, none⟩ (.int .i64 (wrap64 ((rd t320 (ji38)) + 1)))).heap[gb329]? = some (.cells #[.slice (some ⟨go41, 0, none⟩) t320.length co24, .slice Ao28 t323.length co28, .slice Ao29 t326.length co29] 26 (0, 0))) := ⟨by (with_reducible repeat (first | refine blk_drewN ?_ _ | refine blk_drew ?_ | refine blk_alloc ?_ _)); refine blk_far ?_ (by have h_ := Kd.R_ne HO_330000.out BK329.out (by decide); intro e_; exact h_ (by rw [e_]; rfl)) _; (with_reducible repeat (first | refine blk_drewN ?_ _ | refine blk_drew ?_ | refine blk_alloc ?_ _)); exact BK329.out⟩
             have n10_ : Aside0 (Below w.heap.size w ((w46.drewN nd).setCell ⟨go41, ((ji38) : Int).toNat, none⟩ (.int .i64 (wrap64 ((rd t320 (ji38)) + 1))))) := ⟨by repeat (first | (with_reducible first | exact HB.out | apply below_alloc | apply pw_below_drewN | apply below_drew1 | refine below_set ?_ GB41.out | refine below_set ?_ GE312.out | refine below_set ?_ GE318.out | refine below_set ?_ GE329.out) | exact HB.out)⟩
             (try clear HO_313000)
             (try clear HO_313001)
             (try clear HO_313002)
             (try clear HO_319002)
             (try clear HO_330000)
             (try clear HO_330001)
             (try clear HO_330002)
             (try clear BK312)
             (try clear BK318)
             (try clear BK329)
             (try clear HB)
             generalize ((w46.drewN nd).setCell ⟨go41, ((ji38) : Int).toNat, none⟩ (.int .i64 (wrap64 ((rd t320 (ji38)) + 1)))) = w48 at n0_ n1_ n2_ n3_ n4_ n5_ n6_ n7_ n8_ n9_ n10_ ⊢
             have HO_313000 := n0_
             have HO_313001 := n1_
             have HO_313002 := n2_
             have HO_319002 := n3_
             have HO_330000 := n4_
             have HO_330001 := n5_
             have HO_330002 := n6_
             have BK312 := n7_
             have BK318 := n8_
             have BK329 := n9_
             have HB := n10_
             clear n0_ n1_ n2_ n3_ n4_ n5_ n6_ n7_ n8_ n9_ n10_
             have hnb49 := NB329_312.out
             have hnc49 := NB312_329.out
             have hnb50 := NB329_318.out
             have hnc50 := NB318_329.out
             have hcz51_0 : w48.cell? ⟨gb329, 0, none⟩ = some (.slice (some ⟨go41, 0, none⟩) t320.length co24) := (blk_cell BK329.out 0).trans rfl
             have hcz51_1 : w48.cell? ⟨gb329, 1, none⟩ = some (.slice Ao28 t323.length co28) := (blk_cell BK329.out 1).trans rfl
             have hcz51_2 : w48.cell? ⟨gb329, 2, none⟩ = some (.slice Ao29 t326.length co29) := (blk_cell BK329.out 2).trans rfl
             have hfz51_0 := blk_frozen BK329.out 0
             have hfz51_1 := blk_frozen BK329.out 1
             have hfz51_2 := blk_frozen BK329.out 2
             try go_wp2_with (first | ((with_reducible refine gate_callee (f := 24) rfl ?_); refine goesL_ (some 68) rfl rfl Try.func24 (by kernel_rfl) rfl #[.agg #[.slice (some ⟨go41, 0, none⟩) y333.length co24, .slice Ao28 t323.length co28, .slice Ao29 t326.length co29]] rfl (by (try simp only [List.map_toArray, List.map_cons, List.map_nil]); first | done | (rw [show y333.length = t320.length from (Kd.R_reads' HO_330000.out).1.symm] <;> rfl) | rfl | (simp only [List.length_drop, List.length_take]; rfl)) ?_; (with_reducible refine (impl_Solve.calls kj9 _ _ y333 _ _ t323 _ _ t326 true t335 t336 _ ?side1 ?side2 ?side3 ?side4 ?side5 ?side6 A42.out).mono ?_); (case side1 => repeat (first | exact (Kd.R_reads' HO_330000.out).2.2 | (with_reducible refine Kd.C_alloc ?_ _) | (with_reducible refine Kd.C_drewN ?_ _) | (with_reducible refine Kd.C_drew ?_))); (case side2 => rw [show y333.length = t320.length from (Kd.R_reads' HO_330000.out).1.symm]; exact (Kd.R_reads' HO_330000.out).2.1); (case side3 => repeat (first | exact (Kd.S_reads' HO_330001.out).2.2 | (with_reducible refine Kd.C_alloc ?_ _) | (with_reducible refine Kd.C_drewN ?_ _) | (with_reducible refine Kd.C_drew ?_))); (case side4 => exact (Kd.S_reads' HO_330001.out).2.1); (case side5 => repeat (first | exact (Kd.R_reads' HO_330002.out).2.2 | (with_reducible refine Kd.C_alloc ?_ _) | (with_reducible refine Kd.C_drewN ?_ _) | (with_reducible refine Kd.C_drew ?_))); (case side6 => exact (Kd.R_reads' HO_330002.out).2.1); rintro e w52 ⟨v337, rfl, ho0, hb⟩; refine ⟨_, rfl, ?_⟩; have n0_ := Aside0.mk (Kd.R_elder' (by (with_reducible repeat (first | apply Kd.R_alloc | apply Kd.R_drewN | apply Kd.R_drew)); exact HO_313000.out) (Kd.R_base ho0) hb); have n1_ := Aside0.mk (Kd.S_elder' (by (with_reducible repeat (first | apply Kd.S_alloc | apply Kd.S_drewN | apply Kd.S_drew)); exact HO_313001.out) (Kd.R_base ho0) hb); have n2_ := Aside0.mk (Kd.R_elder' (by (with_reducible repeat (first | apply Kd.R_alloc | apply Kd.R_drewN | apply Kd.R_drew)); exact HO_313002.out) (Kd.R_base ho0) hb); have n3_ := Aside0.mk (Kd.R_elder' (by (with_reducible repeat (first | apply Kd.R_alloc | apply Kd.R_drewN | apply Kd.R_drew)); exact HO_319002.out) (Kd.R_base ho0) hb); have n4_ := Aside0.mk (Kd.R_elder' (by (with_reducible repeat (first | apply Kd.R_alloc | apply Kd.R_drewN | apply Kd.R_drew)); exact HO_330000.out) (Kd.R_base ho0) hb); have n5_ := Aside0.mk (Kd.S_elder' (by (with_reducible repeat (first | apply Kd.S_alloc | apply Kd.S_drewN | apply Kd.S_drew)); exact HO_330001.out) (Kd.R_base ho0) hb); have n6_ := Aside0.mk (Kd.R_elder' (by (with_reducible repeat (first | apply Kd.R_alloc | apply Kd.R_drewN | apply Kd.R_drew)); exact HO_330002.out) (Kd.R_base ho0) hb); have n7_ := Aside0.mk (Kd.R_lower (Kd.R_new' (Kd.R_new' (Kd.R_new' (Kd.R_new' (Kd.R_new' ho0 (Kd.R_lt (by (with_reducible repeat (first | apply Kd.R_alloc | apply Kd.R_drewN | apply Kd.R_drew)); exact HO_313000.out))) (Kd.R_lt (by (with_reducible repeat (first | apply Kd.R_alloc | apply Kd.R_drewN | apply Kd.R_drew)); exact HO_313002.out))) (Kd.R_lt (by (with_reducible repeat (first | apply Kd.R_alloc | apply Kd.R_drewN | apply Kd.R_drew)); exact HO_319002.out))) (Kd.R_lt (by (with_reducible repeat (first | apply Kd.R_alloc | apply Kd.R_drewN | apply Kd.R_drew)); exact HO_330000.out))) (Kd.R_lt (by (with_reducible repeat (first | apply Kd.R_alloc | apply Kd.R_drewN | apply Kd.R_drew)); exact HO_330002.out))) (below_size (by repeat (first | (with_reducible first | exact HB.out | apply below_alloc | apply pw_below_drewN | apply below_drew1 | refine below_set ?_ GE312.out | refine below_set ?_ GE318.out | refine below_set ?_ GE329.out) | exact HB.out)))); have n8_ := Aside0.mk (blk_below (g := gb312) (o := .cells #[.slice Ao13 t303.length co13, .slice Ao15 t306.length co15, .slice Ao16 t309.length co16] 26 (0, 0)) (by (with_reducible repeat (first | refine blk_drewN ?_ _ | refine blk_drew ?_ | refine blk_alloc ?_ _)); exact BK312.out) hb); have n9_ := Aside0.mk (blk_below (g := gb318) (o := .cells #[.bool true, .int .i64 t314, .slice Ao21 t315.length co21] 41 (0, 0)) (by (with_reducible repeat (first | refine blk_drewN ?_ _ | refine blk_drew ?_ | refine blk_alloc ?_ _)); exact BK318.out) hb); have n10_ := Aside0.mk (blk_below (g := gb329) (o := .cells #[.slice (some ⟨go41, 0, none⟩) t320.length co24, .slice Ao28 t323.length co28, .slice Ao29 t326.length co29] 26 (0, 0)) (by (with_reducible repeat (first | refine blk_drewN ?_ _ | refine blk_drew ?_ | refine blk_alloc ?_ _)); exact BK329.out) hb); have n11_ := Aside0.mk (below_step (by repeat (first | (with_reducible first | exact HB.out | apply below_alloc | apply pw_below_drewN | apply below_drew1 | refine below_set ?_ GE312.out | refine below_set ?_ GE318.out | refine below_set ?_ GE329.out) | exact HB.out)) hb); clear HO_313000; clear HO_313001; clear HO_313002; clear HO_319002; clear HO_330000; clear HO_330001; clear HO_330002; clear BK312; clear BK318; clear BK329; clear HB; have HO_313000 := n0_; have HO_313001 := n1_; have HO_313002 := n2_; have HO_319002 := n3_; have HO_330000 := n4_; have HO_330001 := n5_; have HO_330002 := n6_; have HO338 := n7_; have BK312 := n8_; have BK318 := n9_; have BK329 := n10_; have HB := n11_; clear n0_ n1_ n2_ n3_ n4_ n5_ n6_ n7_ n8_ n9_ n10_ n11_; (try clear hb); (try clear hb2); (try clear hk); (try clear hi); (try clear ho0)) | ((with_reducible refine gate_dst (N := 8) rfl ?_); (try (refine gate_guard (by rfl) ?_; dsimp only)); refine box_event ?hg (N := 8) ?hd (cs := #[.bool false, .int .i64 0, .slice none 0 0]) (t := 41) ?hr ?_; (case hd => rfl); (case hg => rfl); (case hr => first | (go_simp; done) | (go_simp; rfl)); intro gb339 hg w53 hbox hb; have n0_ := Aside0.mk (Kd.R_below (by (with_reducible repeat (first | apply Kd.R_alloc | apply Kd.R_drewN | apply Kd.R_drew)); exact HO_313000.out) hb); have n1_ := Aside0.mk (Kd.S_below (by (with_reducible repeat (first | apply Kd.S_alloc | apply Kd.S_drewN | apply Kd.S_drew)); exact HO_313001.out) hb); have n2_ := Aside0.mk (Kd.R_below (by (with_reducible repeat (first | apply Kd.R_alloc | apply Kd.R_drewN | apply Kd.R_drew)); exact HO_313002.out) hb); have n3_ := Aside0.mk (Kd.R_below (by (with_reducible repeat (first | apply Kd.R_alloc | apply Kd.R_drewN | apply Kd.R_drew)); exact HO_319002.out) hb); have n4_ := Aside0.mk (Kd.R_below (by (with_reducible repeat (first | apply Kd.R_alloc | apply Kd.R_drewN | apply Kd.R_drew)); exact HO_330000.out) hb); have n5_ := Aside0.mk (Kd.S_below (by (with_reducible repeat (first | apply Kd.S_alloc | apply Kd.S_drewN | apply Kd.S_drew)); exact HO_330001.out) hb); have n6_ := Aside0.mk (Kd.R_below (by (with_reducible repeat (first | apply Kd.R_alloc | apply Kd.R_drewN | apply Kd.R_drew)); exact HO_330002.out) hb); have n7_ := Aside0.mk (Kd.R_below (by (with_reducible repeat (first | apply Kd.R_alloc | apply Kd.R_drewN | apply Kd.R_drew)); exact HO338.out) hb); have n8_ := Aside0.mk (blk_below (g := gb312) (o := .cells #[.slice Ao13 t303.length co13, .slice Ao15 t306.length co15, .slice Ao16 t309.length co16] 26 (0, 0)) (by (with_reducible repeat (first | refine blk_drewN ?_ _ | refine blk_drew ?_ | refine blk_alloc ?_ _)); exact BK312.out) hb); have n9_ := Aside0.mk (blk_below (g := gb318) (o := .cells #[.bool true, .int .i64 t314, .slice Ao21 t315.length co21] 41 (0, 0)) (by (with_reducible repeat (first | refine blk_drewN ?_ _ | refine blk_drew ?_ | refine blk_alloc ?_ _)); exact BK318.out) hb); have n10_ := Aside0.mk (blk_below (g := gb329) (o := .cells #[.slice (some ⟨go41, 0, none⟩) t320.length co24, .slice Ao28 t323.length co28, .slice Ao29 t326.length co29] 26 (0, 0)) (by (with_reducible repeat (first | refine blk_drewN ?_ _ | refine blk_drew ?_ | refine blk_alloc ?_ _)); exact BK329.out) hb); have n11_ := Aside0.mk (below_step (by repeat (first | (with_reducible first | exact HB.out | apply below_alloc | apply pw_below_drewN | apply below_drew1 | refine below_set ?_ GE312.out | refine below_set ?_ GE318.out | refine below_set ?_ GE329.out) | exact HB.out)) hb); have n12_ := Aside0.mk (hbox); have n13_ := Aside0.mk ((by rw [hg]; exact (below_size (by repeat (first | (with_reducible first | exact HB.out | apply below_alloc | apply pw_below_drewN | apply below_drew1 | refine below_set ?_ GE312.out | refine below_set ?_ GE318.out | refine below_set ?_ GE329.out) | exact HB.out))) : w.heap.size ≤ gb339)); have n14_ := Aside0.mk ((by rw [hg]; exact (below_size (by repeat (first | (with_reducible first | exact HB.out | apply below_alloc | apply pw_below_drewN | apply below_drew1 | refine below_set ?_ GE312.out | refine below_set ?_ GE318.out | refine below_set ?_ GE329.out) | exact HB.out))) : w.heap.size ≤ gb339)); have n15_ := Aside0.mk ((by rw [hg]; exact Nat.ne_of_lt (blk_lt (g := gb312) (o := .cells #[.slice Ao13 t303.length co13, .slice Ao15 t306.length co15, .slice Ao16 t309.length co16] 26 (0, 0)) (by (with_reducible repeat (first | refine blk_drewN ?_ _ | refine blk_drew ?_ | refine blk_alloc ?_ _)); exact BK312.out)) : gb312 ≠ gb339)); have n16_ := Aside0.mk ((by rw [hg]; exact Nat.ne_of_gt (blk_lt (g := gb312) (o := .cells #[.slice Ao13 t303.length co13, .slice Ao15 t306.length co15, .slice Ao16 t309.length co16] 26 (0, 0)) (by (with_reducible repeat (first | refine blk_drewN ?_ _ | refine blk_drew ?_ | refine blk_alloc ?_ _)); exact BK312.out)) : gb339 ≠ gb312)); have n17_ := Aside0.mk ((by rw [hg]; exact Nat.ne_of_lt (blk_lt (g := gb318) (o := .cells #[.bool true, .int .i64 t314, .slice Ao21 t315.length co21] 41 (0, 0)) (by (with_reducible repeat (first | refine blk_drewN ?_ _ | refine blk_drew ?_ | refine blk_alloc ?_ _)); exact BK318.out)) : gb318 ≠ gb339)); have n18_ := Aside0.mk ((by rw [hg]; exact Nat.ne_of_gt (blk_lt (g := gb318) (o := .cells #[.bool true, .int .i64 t314, .slice Ao21 t315.length co21] 41 (0, 0)) (by (with_reducible repeat (first | refine blk_drewN ?_ _ | refine blk_drew ?_ | refine blk_alloc ?_ _)); exact BK318.out)) : gb339 ≠ gb318)); have n19_ := Aside0.mk ((by rw [hg]; exact Nat.ne_of_lt (blk_lt (g := gb329) (o := .cells #[.slice (some ⟨go41, 0, none⟩) t320.length co24, .slice Ao28 t323.length co28, .slice Ao29 t326.length co29] 26 (0, 0)) (by (with_reducible repeat (first | refine blk_drewN ?_ _ | refine blk_drew ?_ | refine blk_alloc ?_ _)); exact BK329.out)) : gb329 ≠ gb339)); have n20_ := Aside0.mk ((by rw [hg]; exact Nat.ne_of_gt (blk_lt (g := gb329) (o := .cells #[.slice (some ⟨go41, 0, none⟩) t320.length co24, .slice Ao28 t323.length co28, .slice Ao29 t326.length co29] 26 (0, 0)) (by (with_reducible repeat (first | refine blk_drewN ?_ _ | refine blk_drew ?_ | refine blk_alloc ?_ _)); exact BK329.out)) : gb339 ≠ gb329)); clear HO_313000; clear HO_313001; clear HO_313002; clear HO_319002; clear HO_330000; clear HO_330001; clear HO_330002; clear HO338; clear BK312; clear BK318; clear BK329; clear HB; have HO_313000 := n0_; have HO_313001 := n1_; have HO_313002 := n2_; have HO_319002 := n3_; have HO_330000 := n4_; have HO_330001 := n5_; have HO_330002 := n6_; have HO338 := n7_; have BK312 := n8_; have BK318 := n9_; have BK329 := n10_; have HB := n11_; have BK339 := n12_; have GW339 := n13_; have GE339 := n14_; have NB312_339 := n15_; have NB339_312 := n16_; have NB318_339 := n17_; have NB339_318 := n18_; have NB329_339 := n19_; have NB339_329 := n20_; clear n0_ n1_ n2_ n3_ n4_ n5_ n6_ n7_ n8_ n9_ n10_ n11_ n12_ n13_ n14_ n15_ n16_ n17_ n18_ n19_ n20_; clear hb hbox hg; have hnb54 := NB339_312.out; have hnc54 := NB312_339.out; have hnb55 := NB339_318.out; have hnc55 := NB318_339.out; have hnb56 := NB339_329.out; have hnc56 := NB329_339.out; have hcz57_0 : w53.cell? ⟨gb339, 0, none⟩ = some (.bool false) := (blk_cell BK339.out 0).trans rfl; have hcz57_1 : w53.cell? ⟨gb339, 1, none⟩ = some (.int .i64 0) := (blk_cell BK339.out 1).trans rfl; have hcz57_2 : w53.cell? ⟨gb339, 2, none⟩ = some (.slice none 0 0) := (blk_cell BK339.out 2).trans rfl; have hfz57_0 := blk_frozen BK339.out 0; have hfz57_1 := blk_frozen BK339.out 1; have hfz57_2 := blk_frozen BK339.out 2; obtain ⟨Ao58, co58, eo58⟩ := Kd.R_slice HO338.out; subst eo58))
             have n0_ : Aside0 (Kd.R (Kd.int .i64) 3 (((w53.setCell ⟨gb339, 0, none⟩ (.bool true)).setCell ⟨gb339, 1, none⟩ (.int .i64 t335)).setCell ⟨gb339, 2, none⟩ (.slice Ao58 t336.length co58)) w.heap.size (fun k_ => some k_ ≠ (.slice Ao16 t309.length co16 : Value).ownBlock ∧ some k_ ≠ (.slice Ao21 t315.length co21 : Value).ownBlock ∧ some k_ ≠ (.slice (some ⟨go41, 0, none⟩) t320.length co24 : Value).ownBlock ∧ some k_ ≠ (.slice Ao29 t326.length co29 : Value).ownBlock ∧ some k_ ≠ (.slice Ao58 t336.length co58 : Value).ownBlock) (.slice Ao13 t303.length co13) t303) := ⟨by (with_reducible repeat (first | apply Kd.R_alloc | apply Kd.R_drewN | apply Kd.R_drew)); exact Kd.R_mono (Kd.R_far (p := ⟨gb339, 2, none⟩) (Kd.R_far (p := ⟨gb339, 1, none⟩) (Kd.R_far (p := ⟨gb339, 0, none⟩) (Kd.R_types HO_313000.out BK339.out (by decide)) (fun _ hk => hk.2) (.bool true)) (fun _ hk => hk.2) (.int .i64 t335)) (fun _ hk => hk.2) (.slice Ao58 t336.length co58)) (fun _ hk => ⟨hk.1.1.1, ⟨hk.1.1.2.1, ⟨hk.1.1.2.2.1, ⟨hk.1.1.2.2.2, hk.1.2⟩⟩⟩⟩)⟩
             have n1_ : Aside0 (Kd.S k35 35 (((w53.setCell ⟨gb339, 0, none⟩ (.bool true)).setCell ⟨gb339, 1, none⟩ (.int .i64 t335)).setCell ⟨gb339, 2, none⟩ (.slice Ao58 t336.length co58)) w.heap.size (fun k_ => some k_ ≠ (.slice Ao13 t303.length co13 : Value).ownBlock ∧ some k_ ≠ (.slice Ao16 t309.length co16 : Value).ownBlock ∧ some k_ ≠ (.slice Ao21 t315.length co21 : Value).ownBlock ∧ some k_ ≠ (.slice (some ⟨go41, 0, none⟩) t320.length co24 : Value).ownBlock ∧ some k_ ≠ (.slice Ao28 t323.length co28 : Value).ownBlock ∧ some k_ ≠ (.slice Ao29 t326.length co29 : Value).ownBlock ∧ some k_ ≠ (.slice Ao58 t336.length co58 : Value).ownBlock) (.slice Ao15 t306.length co15) t306) := ⟨by (with_reducible repeat (first | apply Kd.S_alloc | apply Kd.S_drewN | apply Kd.S_drew)); exact Kd.S_mono (Kd.S_far (p := ⟨gb339, 2, none⟩) (Kd.S_far (p := ⟨gb339, 1, none⟩) (Kd.S_far (p := ⟨gb339, 0, none⟩) (Kd.S_types HO_313001.out BK339.out (by decide)) (fun _ hk => hk.2) (.bool true)) (fun _ hk => hk.2) (.int .i64 t335)) (fun _ hk => hk.2) (.slice Ao58 t336.length co58)) (fun _ hk => ⟨hk.1.1.1, ⟨hk.1.1.2.1, ⟨hk.1.1.2.2.1, ⟨hk.1.1.2.2.2.1, ⟨hk.1.1.2.2.2.2.1, ⟨hk.1.1.2.2.2.2.2, hk.1.2⟩⟩⟩⟩⟩⟩)⟩
             have n2_ : Aside0 (Kd.R (Kd.int .i64) 3 (((w53.setCell ⟨gb339, 0, none⟩ (.bool true)).setCell ⟨gb339, 1, none⟩ (.int .i64 t335)).setCell ⟨gb339, 2, none⟩ (.slice Ao58 t336.length co58)) w.heap.size (fun k_ => some k_ ≠ (.slice Ao13 t303.length co13 : Value).ownBlock ∧ some k_ ≠ (.slice Ao21 t315.length co21 : Value).ownBlock ∧ some k_ ≠ (.slice (some ⟨go41, 0, none⟩) t320.length co24 : Value).ownBlock ∧ some k_ ≠ (.slice Ao29 t326.length co29 : Value).ownBlock ∧ some k_ ≠ (.slice Ao58 t336.length co58 : Value).ownBlock) (.slice Ao16 t309.length co16) t309) := ⟨by (with_reducible repeat (first | apply Kd.R_alloc | apply Kd.R_drewN | apply Kd.R_drew)); exact Kd.R_mono (Kd.R_far (p := ⟨gb339, 2, none⟩) (Kd.R_far (p := ⟨gb339, 1, none⟩) (Kd.R_far (p := ⟨gb339, 0, none⟩) (Kd.R_types HO_313002.out BK339.out (by decide)) (fun _ hk => hk.2) (.bool true)) (fun _ hk => hk.2) (.int .i64 t335)) (fun _ hk => hk.2) (.slice Ao58 t336.length co58)) (fun _ hk => ⟨hk.1.1.1, ⟨hk.1.1.2.1, ⟨hk.1.1.2.2.1, ⟨hk.1.1.2.2.2, hk.1.2⟩⟩⟩⟩)⟩
             have n3_ : Aside0 (Kd.R (Kd.int .i64) 3 (((w53.setCell ⟨gb339, 0, none⟩ (.bool true)).setCell ⟨gb339, 1, none⟩ (.int .i64 t335)).setCell ⟨gb339, 2, none⟩ (.slice Ao58 t336.length co58)) w.heap.size (fun k_ => some k_ ≠ (.slice Ao13 t303.length co13 : Value).ownBlock ∧ some k_ ≠ (.slice Ao16 t309.length co16 : Value).ownBlock ∧ some k_ ≠ (.slice (some ⟨go41, 0, none⟩) t320.length co24 : Value).ownBlock ∧ some k_ ≠ (.slice Ao29 t326.length co29 : Value).ownBlock ∧ some k_ ≠ (.slice Ao58 t336.length co58 : Value).ownBlock) (.slice Ao21 t315.length co21) t315) := ⟨by (with_reducible repeat (first | apply Kd.R_alloc | apply Kd.R_drewN | apply Kd.R_drew)); exact Kd.R_mono (Kd.R_far (p := ⟨gb339, 2, none⟩) (Kd.R_far (p := ⟨gb339, 1, none⟩) (Kd.R_far (p := ⟨gb339, 0, none⟩) (Kd.R_types HO_319002.out BK339.out (by decide)) (fun _ hk => hk.2) (.bool true)) (fun _ hk => hk.2) (.int .i64 t335)) (fun _ hk => hk.2) (.slice Ao58 t336.length co58)) (fun _ hk => ⟨hk.1.1.1, ⟨hk.1.1.2.1, ⟨hk.1.1.2.2.1, ⟨hk.1.1.2.2.2, hk.1.2⟩⟩⟩⟩)⟩
             have n4_ : Aside0 (Kd.R (Kd.int .i64) 3 (((w53.setCell ⟨gb339, 0, none⟩ (.bool true)).setCell ⟨gb339, 1, none⟩ (.int .i64 t335)).setCell ⟨gb339, 2, none⟩ (.slice Ao58 t336.length co58)) w.heap.size (fun k_ => some k_ ≠ (.slice Ao13 t303.length co13 : Value).ownBlock ∧ some k_ ≠ (.slice Ao16 t309.length co16 : Value).ownBlock ∧ some k_ ≠ (.slice Ao21 t315.length co21 : Value).ownBlock ∧ some k_ ≠ (.slice Ao29 t326.length co29 : Value).ownBlock ∧ some k_ ≠ (.slice Ao58 t336.length co58 : Value).ownBlock) (.slice (some ⟨go41, 0, none⟩) t320.length co24) y333) := ⟨by (with_reducible repeat (first | apply Kd.R_alloc | apply Kd.R_drewN | apply Kd.R_drew)); exact Kd.R_mono (Kd.R_far (p := ⟨gb339, 2, none⟩) (Kd.R_far (p := ⟨gb339, 1, none⟩) (Kd.R_far (p := ⟨gb339, 0, none⟩) (Kd.R_types HO_330000.out BK339.out (by decide)) (fun _ hk => hk.2) (.bool true)) (fun _ hk => hk.2) (.int .i64 t335)) (fun _ hk => hk.2) (.slice Ao58 t336.length co58)) (fun _ hk => ⟨hk.1.1.1, ⟨hk.1.1.2.1, ⟨hk.1.1.2.2.1, ⟨hk.1.1.2.2.2, hk.1.2⟩⟩⟩⟩)⟩
             have n5_ : Aside0 (Kd.S k35 35 (((w53.setCell ⟨gb339, 0, none⟩ (.bool true)).setCell ⟨gb339, 1, none⟩ (.int .i64 t335)).setCell ⟨gb339, 2, none⟩ (.slice Ao58 t336.length co58)) w.heap.size (fun k_ => some k_ ≠ (.slice Ao13 t303.length co13 : Value).ownBlock ∧ some k_ ≠ (.slice Ao15 t306.length co15 : Value).ownBlock ∧ some k_ ≠ (.slice Ao16 t309.length co16 : Value).ownBlock ∧ some k_ ≠ (.slice Ao21 t315.length co21 : Value).ownBlock ∧ some k_ ≠ (.slice (some ⟨go41, 0, none⟩) t320.length co24 : Value).ownBlock ∧ some k_ ≠ (.slice Ao29 t326.length co29 : Value).ownBlock ∧ some k_ ≠ (.slice Ao58 t336.length co58 : Value).ownBlock) (.slice Ao28 t323.length co28) t323) := ⟨by (with_reducible repeat (first | apply Kd.S_alloc | apply Kd.S_drewN | apply Kd.S_drew)); exact Kd.S_mono (Kd.S_far (p := ⟨gb339, 2, none⟩) (Kd.S_far (p := ⟨gb339, 1, none⟩) (Kd.S_far (p := ⟨gb339, 0, none⟩) (Kd.S_types HO_330001.out BK339.out (by decide)) (fun _ hk => hk.2) (.bool true)) (fun _ hk => hk.2) (.int .i64 t335)) (fun _ hk => hk.2) (.slice Ao58 t336.length co58)) (fun _ hk => ⟨hk.1.1.1, ⟨hk.1.1.2.1, ⟨hk.1.1.2.2.1, ⟨hk.1.1.2.2.2.1, ⟨hk.1.1.2.2.2.2.1, ⟨hk.1.1.2.2.2.2.2, hk.1.2⟩⟩⟩⟩⟩⟩)⟩
             have n6_ : Aside0 (Kd.R (Kd.int .i64) 3 (((w53.setCell ⟨gb339, 0, none⟩ (.bool true)).setCell ⟨gb339, 1, none⟩ (.int .i64 t335)).setCell ⟨gb339, 2, none⟩ (.slice Ao58 t336.length co58)) w.heap.size (fun k_ => some k_ ≠ (.slice Ao13 t303.length co13 : Value).ownBlock ∧ some k_ ≠ (.slice Ao16 t309.length co16 : Value).ownBlock ∧ some k_ ≠ (.slice Ao21 t315.length co21 : Value).ownBlock ∧ some k_ ≠ (.slice (some ⟨go41, 0, none⟩) t320.length co24 : Value).ownBlock ∧ some k_ ≠ (.slice Ao58 t336.length co58 : Value).ownBlock) (.slice Ao29 t326.length co29) t326) := ⟨by (with_reducible repeat (first | apply Kd.R_alloc | apply Kd.R_drewN | apply Kd.R_drew)); exact Kd.R_mono (Kd.R_far (p := ⟨gb339, 2, none⟩) (Kd.R_far (p := ⟨gb339, 1, none⟩) (Kd.R_far (p := ⟨gb339, 0, none⟩) (Kd.R_types HO_330002.out BK339.out (by decide)) (fun _ hk => hk.2) (.bool true)) (fun _ hk => hk.2) (.int .i64 t335)) (fun _ hk => hk.2) (.slice Ao58 t336.length co58)) (fun _ hk => ⟨hk.1.1.1, ⟨hk.1.1.2.1, ⟨hk.1.1.2.2.1, ⟨hk.1.1.2.2.2, hk.1.2⟩⟩⟩⟩)⟩
             have n7_ : Aside0 (Kd.R (Kd.int .i64) 3 (((w53.setCell ⟨gb339, 0, none⟩ (.bool true)).setCell ⟨gb339, 1, none⟩ (.int .i64 t335)).setCell ⟨gb339, 2, none⟩ (.slice Ao58 t336.length co58)) w.heap.size (fun k_ => some k_ ≠ (.slice Ao13 t303.length co13 : Value).ownBlock ∧ some k_ ≠ (.slice Ao16 t309.length co16 : Value).ownBlock ∧ some k_ ≠ (.slice Ao21 t315.length co21 : Value).ownBlock ∧ some k_ ≠ (.slice (some ⟨go41, 0, none⟩) t320.length co24 : Value).ownBlock ∧ some k_ ≠ (.slice Ao29 t326.length co29 : Value).ownBlock) (.slice Ao58 t336.length co58) t336) := ⟨by (with_reducible repeat (first | apply Kd.R_alloc | apply Kd.R_drewN | apply Kd.R_drew)); exact Kd.R_mono (Kd.R_far (p := ⟨gb339, 2, none⟩) (Kd.R_far (p := ⟨gb339, 1, none⟩) (Kd.R_far (p := ⟨gb339, 0, none⟩) (Kd.R_types HO338.out BK339.out (by decide)) (fun _ hk => hk.2) (.bool true)) (fun _ hk => hk.2) (.int .i64 t335)) (fun _ hk => hk.2) (.slice Ao58 t336.length co58)) (fun _ hk => ⟨hk.1.1.1.1.1.2, ⟨hk.1.1.1.1.2, ⟨hk.1.1.1.2, ⟨hk.1.1.2, hk.1.2⟩⟩⟩⟩)⟩
             have n8_ : Aside0 ((((w53.setCell ⟨gb339, 0, none⟩ (.bool true)).setCell ⟨gb339, 1, none⟩ (.int .i64 t335)).setCell ⟨gb339, 2, none⟩ (.slice Ao58 t336.length co58)).heap[gb312]? = some (.cells #[.slice Ao13 t303.length co13, .slice Ao15 t306.length co15, .slice Ao16 t309.length co16] 26 (0, 0))) := ⟨by (with_reducible repeat (first | refine blk_drewN ?_ _ | refine blk_drew ?_ | refine blk_alloc ?_ _)); refine blk_far ?_ NB312_339.out _; (with_reducible repeat (first | refine blk_drewN ?_ _ | refine blk_drew ?_ | refine blk_alloc ?_ _)); refine blk_far ?_ NB312_339.out _; (with_reducible repeat (first | refine blk_drewN ?_ _ | refine blk_drew ?_ | refine blk_alloc ?_ _)); refine blk_far ?_ NB312_339.out _; (with_reducible repeat (first | refine blk_drewN ?_ _ | refine blk_drew ?_ | refine blk_alloc ?_ _)); exact BK312.out⟩
             have n9_ : Aside0 ((((w53.setCell ⟨gb339, 0, none⟩ (.bool true)).setCell ⟨gb339, 1, none⟩ (.int .i64 t335)).setCell ⟨gb339, 2, none⟩ (.slice Ao58 t336.length co58)).heap[gb318]? = some (.cells #[.bool true, .int .i64 t314, .slice Ao21 t315.length co21] 41 (0, 0))) := ⟨by (with_reducible repeat (first | refine blk_drewN ?_ _ | refine blk_drew ?_ | refine blk_alloc ?_ _)); refine blk_far ?_ NB318_339.out _; (with_reducible repeat (first | refine blk_drewN ?_ _ | refine blk_drew ?_ | refine blk_alloc ?_ _)); refine blk_far ?_ NB318_339.out _; (with_reducible repeat (first | refine blk_drewN ?_ _ | refine blk_drew ?_ | refine blk_alloc ?_ _)); refine blk_far ?_ NB318_339.out _; (with_reducible repeat (first | refine blk_drewN ?_ _ | refine blk_drew ?_ | refine blk_alloc ?_ _)); exact BK318.out⟩
             have n10_ : Aside0 ((((w53.setCell ⟨gb339, 0, none⟩ (.bool true)).setCell ⟨gb339, 1, none⟩ (.int .i64 t335)).setCell ⟨gb339, 2, none⟩ (.slice Ao58 t336.length co58)).heap[gb329]? = some (.cells #[.slice (some ⟨go41, 0, none⟩) t320.length co24, .slice Ao28 t323.length co28, .slice Ao29 t326.length co29] 26 (0, 0))) := ⟨by (with_reducible repeat (first | refine blk_drewN ?_ _ | refine blk_drew ?_ | refine blk_alloc ?_ _)); refine blk_far ?_ NB329_339.out _; (with_reducible repeat (first | refine blk_drewN ?_ _ | refine blk_drew ?_ | refine blk_alloc ?_ _)); refine blk_far ?_ NB329_339.out _; (with_reducible repeat (first | refine blk_drewN ?_ _ | refine blk_drew ?_ | refine blk_alloc ?_ _)); refine blk_far ?_ NB329_339.out _; (with_reducible repeat (first | refine blk_drewN ?_ _ | refine blk_drew ?_ | refine blk_alloc ?_ _)); exact BK329.out⟩
             have n11_ : Aside0 ((((w53.setCell ⟨gb339, 0, none⟩ (.bool true)).setCell ⟨gb339, 1, none⟩ (.int .i64 t335)).setCell ⟨gb339, 2, none⟩ (.slice Ao58 t336.length co58)).heap[gb339]? = some (.cells #[.bool true, .int .i64 t335, .slice Ao58 t336.length co58] 41 (0, 0))) := ⟨by (with_reducible repeat (first | refine blk_drewN ?_ _ | refine blk_drew ?_ | refine blk_alloc ?_ _)); refine blk_put (cs := #[.bool true, .int .i64 t335, .slice none 0 0]) ?_ 2 _ rfl; (with_reducible repeat (first | refine blk_drewN ?_ _ | refine blk_drew ?_ | refine blk_alloc ?_ _)); refine blk_put (cs := #[.bool true, .int .i64 0, .slice none 0 0]) ?_ 1 _ rfl; (with_reducible repeat (first | refine blk_drewN ?_ _ | refine blk_drew ?_ | refine blk_alloc ?_ _)); refine blk_put (cs := #[.bool false, .int .i64 0, .slice none 0 0]) ?_ 0 _ rfl; (with_reducible repeat (first | refine blk_drewN ?_ _ | refine blk_drew ?_ | refine blk_alloc ?_ _)); exact BK339.out⟩
             have n12_ : Aside0 (Below w.heap.size w (((w53.setCell ⟨gb339, 0, none⟩ (.bool true)).setCell ⟨gb339, 1, none⟩ (.int .i64 t335)).setCell ⟨gb339, 2, none⟩ (.slice Ao58 t336.length co58))) := ⟨by repeat (first | (with_reducible first | exact HB.out | apply below_alloc | apply pw_below_drewN | apply below_drew1 | refine below_set ?_ GE312.out | refine below_set ?_ GE318.out | refine below_set ?_ GE329.out | refine below_set ?_ GE339.out) | exact HB.out)⟩
             (try clear HO_313000)
             (try clear HO_313001)
             (try clear HO_313002)
             (try clear HO_319002)
             (try clear HO_330000)
             (try clear HO_330001)
             (try clear HO_330002)
             (try clear HO338)
             (try clear BK312)
             (try clear BK318)
             (try clear BK329)
             (try clear BK339)
             (try clear HB)
             generalize (((w53.setCell ⟨gb339, 0, none⟩ (.bool true)).setCell ⟨gb339, 1, none⟩ (.int .i64 t335)).setCell ⟨gb339, 2, none⟩ (.slice Ao58 t336.length co58)) = w59 at n0_ n1_ n2_ n3_ n4_ n5_ n6_ n7_ n8_ n9_ n10_ n11_ n12_ ⊢
             have HO_313000 := n0_
             have HO_313001 := n1_
             have HO_313002 := n2_
             have HO_319002 := n3_
             have HO_330000 := n4_
             have HO_330001 := n5_
             have HO_330002 := n6_
             have HO338 := n7_
             have BK312 := n8_
             have BK318 := n9_
             have BK329 := n10_
             have BK339 := n11_
             have HB := n12_
             clear n0_ n1_ n2_ n3_ n4_ n5_ n6_ n7_ n8_ n9_ n10_ n11_ n12_
             have n0_ := Aside0.mk (Kd.R_drew HO_313000.out)
             have n1_ := Aside0.mk (Kd.S_drew HO_313001.out)
             have n2_ := Aside0.mk (Kd.R_drew HO_313002.out)
             have n3_ := Aside0.mk (Kd.R_drew HO_319002.out)
             have n4_ := Aside0.mk (Kd.R_drew HO_330000.out)
             have n5_ := Aside0.mk (Kd.S_drew HO_330001.out)
             have n6_ := Aside0.mk (Kd.R_drew HO_330002.out)
             have n7_ := Aside0.mk (Kd.R_drew HO338.out)
             have n8_ := Aside0.mk (blk_drew BK312.out)
             have n9_ := Aside0.mk (blk_drew BK318.out)
             have n10_ := Aside0.mk (blk_drew BK329.out)
             have n11_ := Aside0.mk (blk_drew BK339.out)
             have n12_ := Aside0.mk (below_drew1 HB.out)
             clear HO_313000
             clear HO_313001
             clear HO_313002
             clear HO_319002
             clear HO_330000
             clear HO_330001
             clear HO_330002
             clear HO338
             clear BK312
             clear BK318
             clear BK329
             clear BK339
             clear HB
             have HO_313000 := n0_
             have HO_313001 := n1_
             have HO_313002 := n2_
             have HO_319002 := n3_
             have HO_330000 := n4_
             have HO_330001 := n5_
             have HO_330002 := n6_
             have HO338 := n7_
             have BK312 := n8_
             have BK318 := n9_
             have BK329 := n10_
             have BK339 := n11_
             have HB := n12_
             clear n0_ n1_ n2_ n3_ n4_ n5_ n6_ n7_ n8_ n9_ n10_ n11_ n12_
             refine start_ (n := 18) (S := fun w' => w'.cell? ⟨gb339, 0, none⟩ = some (.bool true) ∧ w'.cell? ⟨gb339, 1, none⟩ = some (.int .i64 t335) ∧ w'.cell? ⟨gb339, 2, none⟩ = some (.slice Ao58 t336.length co58) ∧ w'.cell? ⟨gb318, 0, none⟩ = some (.bool true) ∧ w'.cell? ⟨gb318, 1, none⟩ = some (.int .i64 t314) ∧ w'.cell? ⟨gb318, 2, none⟩ = some (.slice Ao21 t315.length co21) ∧ w'.cell? ⟨gb329, 0, none⟩ = some (.slice (some ⟨go41, 0, none⟩) t320.length co24) ∧ w'.cell? ⟨gb329, 1, none⟩ = some (.slice Ao28 t323.length co28) ∧ w'.cell? ⟨gb329, 2, none⟩ = some (.slice Ao29 t326.length co29)) (ds := []) #[false, false, false, false, false, false, false, false, false, false, false, false, false, false, false, false, false, false] (by kernel_rfl) rfl rfl ⟨(blk_cell BK339.out 0).trans rfl, (blk_cell BK339.out 1).trans rfl, (blk_cell BK339.out 2).trans rfl, (blk_cell BK318.out 0).trans rfl, (blk_cell BK318.out 1).trans rfl, (blk_cell BK318.out 2).trans rfl, (blk_cell BK329.out 0).trans rfl, (blk_cell BK329.out 1).trans rfl, (blk_cell BK329.out 2).trans rfl⟩ (fun hHeld => ?_); refine with_tabW laws_FnEasier.tab13 laws_FnEasier.bits13 (fun HT_ HW_ => ?_)
             generalize w59.drew = w60 at HO_313000 HO_313001 HO_313002 HO_319002 HO_330000 HO_330001 HO_330002 HO338 BK312 BK318 BK329 BK339 HB hHeld ⊢
             refine pure_ (i := 0) (N := some 69) (v := ?_) (a' := ?_) #[true, false, false, false, false, false, false, false, false, false, false, false, false, false, false, false, false, false] rfl rfl (any_of HT_.out (by kernel_rfl)) (fun _ _ _ h => h) (Or.inl ⟨by rfl, ?_⟩) ?_ ?_
             rotate_left
             ·intro w'
              go_simp
              with_reducible rfl
             rotate_left
             ·simp only [Act.put, List.setIfInBounds_toArray, List.set_cons_zero, List.set_cons_succ, i64_w, i32_w]
              rfl
             refine take_ (i := 1) (N := some 70) (v := ?_) (a' := ?_) #[true, true, false, false, false, false, false, false, false, false, false, false, false, false, false, false, false, false] rfl rfl (take_ofW HT_.out HW_.out (by kernel_rfl)) (fun _ _ _ h => h) (Or.inl ⟨by rfl, ?_⟩) hHeld ?_ ?_
             rotate_left
             ·rintro w' ⟨s0, s1, s2, s3, s4, s5, s6, s7, s8⟩
              go_simp
              with_reducible rfl
             rotate_left
             ·simp only [Act.put, List.setIfInBounds_toArray, List.set_cons_zero, List.set_cons_succ, i64_w, i32_w]
              rfl
             refine pure_ (i := 2) (N := some 71) (v := ?_) (a' := ?_) #[true, true, true, false, false, false, false, false, false, false, false, false, false, false, false, false, false, false] rfl rfl (any_of HT_.out (by kernel_rfl)) (fun _ _ _ h => h) (Or.inl ⟨by rfl, ?_⟩) ?_ ?_
             rotate_left
             ·intro w'
              go_simp
              with_reducible rfl
             rotate_left
             ·simp only [Act.put, List.setIfInBounds_toArray, List.set_cons_zero, List.set_cons_succ, i64_w, i32_w]
              rfl
             refine pure_ (i := 3) (N := some 72) (v := ?_) (a' := ?_) #[true, true, true, true, false, false, false, false, false, false, false, false, false, false, false, false, false, false] rfl rfl (any_of HT_.out (by kernel_rfl)) (fun _ _ _ h => h) (Or.inl ⟨by rfl, ?_⟩) ?_ ?_
             rotate_left
             ·intro w'
              go_simp
              with_reducible rfl
             rotate_left
             ·simp only [Act.put, List.setIfInBounds_toArray, List.set_cons_zero, List.set_cons_succ, i64_w, i32_w]
              rfl
             refine pure_ (i := 5) (N := some 74) (v := ?_) (a' := ?_) #[true, true, true, true, false, true, false, false, false, false, false, false, false, false, false, false, false, false] rfl rfl (any_of HT_.out (by kernel_rfl)) (fun _ _ _ h => h) (Or.inl ⟨by rfl, ?_⟩) ?_ ?_
             rotate_left
             ·intro w'
              go_simp
              with_reducible rfl
             rotate_left
             ·simp only [Act.put, List.setIfInBounds_toArray, List.set_cons_zero, List.set_cons_succ, i64_w, i32_w]
              rfl
             refine take_ (i := 4) (N := some 73) (v := ?_) (a' := ?_) #[true, true, true, true, true, true, false, false, false, false, false, false, false, false, false, false, false, false] rfl rfl (take_ofW HT_.out HW_.out (by kernel_rfl)) (fun _ _ _ h => h) (Or.inl ⟨by rfl, ?_⟩) hHeld ?_ ?_
             rotate_left
             ·rintro w' ⟨s0, s1, s2, s3, s4, s5, s6, s7, s8⟩
              go_simp
              with_reducible rfl
             rotate_left
             ·simp only [Act.put, List.setIfInBounds_toArray, List.set_cons_zero, List.set_cons_succ, i64_w, i32_w]
              rfl
             refine take_ (i := 6) (N := some 75) (v := ?_) (a' := ?_) #[true, true, true, true, true, true, true, false, false, false, false, false, false, false, false, false, false, false] rfl rfl (take_ofW HT_.out HW_.out (by kernel_rfl)) (fun _ _ _ h => h) (Or.inl ⟨by rfl, ?_⟩) hHeld ?_ ?_
             rotate_left
             ·rintro w' ⟨s0, s1, s2, s3, s4, s5, s6, s7, s8⟩
              go_simp
              with_reducible rfl
             rotate_left
             ·simp only [Act.put, List.setIfInBounds_toArray, List.set_cons_zero, List.set_cons_succ, i64_w, i32_w]
              rfl
             refine pure_ (i := 7) (N := some 76) (v := ?_) (a' := ?_) #[true, true, true, true, true, true, true, true, false, false, false, false, false, false, false, false, false, false] rfl rfl (any_of HT_.out (by kernel_rfl)) (fun _ _ _ h => h) (Or.inl ⟨by rfl, ?_⟩) ?_ ?_
             rotate_left
             ·intro w'
              go_simp
              with_reducible rfl
             rotate_left
             ·simp only [Act.put, List.setIfInBounds_toArray, List.set_cons_zero, List.set_cons_succ, i64_w, i32_w]
              rfl
             refine pure_ (i := 8) (N := some 77) (v := ?_) (a' := ?_) #[true, true, true, true, true, true, true, true, true, false, false, false, false, false, false, false, false, false] rfl rfl (any_of HT_.out (by kernel_rfl)) (fun _ _ _ h => h) (Or.inl ⟨by rfl, ?_⟩) ?_ ?_
             rotate_left
             ·intro w'
              go_simp
              with_reducible rfl
             rotate_left
             ·simp only [Act.put, List.setIfInBounds_toArray, List.set_cons_zero, List.set_cons_succ, i64_w, i32_w]
              rfl
             refine pure_ (i := 9) (N := some 78) (v := ?_) (a' := ?_) #[true, true, true, true, true, true, true, true, true, true, false, false, false, false, false, false, false, false] rfl rfl (any_of HT_.out (by kernel_rfl)) (fun _ _ _ h => h) (Or.inl ⟨by rfl, ?_⟩) ?_ ?_
             rotate_left
             ·intro w'
              go_simp
              with_reducible rfl
             rotate_left
             ·simp only [Act.put, List.setIfInBounds_toArray, List.set_cons_zero, List.set_cons_succ, i64_w, i32_w]
              rfl
             refine pure_ (i := 10) (N := some 79) (v := ?_) (a' := ?_) #[true, true, true, true, true, true, true, true, true, true, true, false, false, false, false, false, false, false] rfl rfl (any_of HT_.out (by kernel_rfl)) (fun _ _ _ h => h) (Or.inl ⟨by rfl, ?_⟩) ?_ ?_
             rotate_left
             ·intro w'
              go_simp
              with_reducible rfl
             rotate_left
             ·simp only [Act.put, List.setIfInBounds_toArray, List.set_cons_zero, List.set_cons_succ, i64_w, i32_w]
              rfl
             refine take_ (i := 11) (N := some 80) (v := ?_) (a' := ?_) #[true, true, true, true, true, true, true, true, true, true, true, true, false, false, false, false, false, false] rfl rfl (take_ofW HT_.out HW_.out (by kernel_rfl)) (fun _ _ _ h => h) (Or.inl ⟨by rfl, ?_⟩) hHeld ?_ ?_
             rotate_left
             ·rintro w' ⟨s0, s1, s2, s3, s4, s5, s6, s7, s8⟩
              go_simp
              with_reducible rfl
             rotate_left
             ·simp only [Act.put, List.setIfInBounds_toArray, List.set_cons_zero, List.set_cons_succ, i64_w, i32_w]
              rfl
             refine take_ (i := 12) (N := some 81) (v := ?_) (a' := ?_) #[true, true, true, true, true, true, true, true, true, true, true, true, true, false, false, false, false, false] rfl rfl (take_ofW HT_.out HW_.out (by kernel_rfl)) (fun _ _ _ h => h) (Or.inl ⟨by rfl, ?_⟩) hHeld ?_ ?_
             rotate_left
             ·rintro w' ⟨s0, s1, s2, s3, s4, s5, s6, s7, s8⟩
              go_simp
              with_reducible rfl
             rotate_left
             ·simp only [Act.put, List.setIfInBounds_toArray, List.set_cons_zero, List.set_cons_succ, i64_w, i32_w]
              rfl
             refine one_ (i := 13) (N := some 82) #[true, true, true, true, true, true, true, true, true, true, true, true, true, true, false, false, false, false] rfl rfl (one_of HT_.out (by kernel_rfl)) (by decide) (fun K hK => ?_)
             refine goes_ Try.func27 (by kernel_rfl) rfl #[.agg #[.slice (some ⟨go41, 0, none⟩) y333.length co24, .slice Ao28 t323.length co28, .slice Ao29 t326.length co29]] (by rfl) rfl rfl (by (try simp only [List.map_toArray, List.map_cons, List.map_nil]); first | done | (rw [show y333.length = t320.length from (Kd.R_reads' HO_330000.out).1.symm] <;> rfl) | rfl | (simp only [List.length_drop, List.length_take]; rfl)) ?_
             with_reducible refine (spec_Solve.calls kj9 _ _ y333 _ _ t323 _ _ t326 t340 t341 t342 _ ?side1 ?side2 ?side3 ?side4 ?side5 ?side6 A45.out).mono ?_
             (case side1 => repeat (first | exact (Kd.R_reads' HO_330000.out).2.2 | (with_reducible refine Kd.C_alloc ?_ _) | (with_reducible refine Kd.C_drewN ?_ _) | (with_reducible refine Kd.C_drew ?_)))
             (case side2 => rw [show y333.length = t320.length from (Kd.R_reads' HO_330000.out).1.symm]; exact (Kd.R_reads' HO_330000.out).2.1)
             (case side3 => repeat (first | exact (Kd.S_reads' HO_330001.out).2.2 | (with_reducible refine Kd.C_alloc ?_ _) | (with_reducible refine Kd.C_drewN ?_ _) | (with_reducible refine Kd.C_drew ?_)))
             (case side4 => exact (Kd.S_reads' HO_330001.out).2.1)
             (case side5 => repeat (first | exact (Kd.R_reads' HO_330002.out).2.2 | (with_reducible refine Kd.C_alloc ?_ _) | (with_reducible refine Kd.C_drewN ?_ _) | (with_reducible refine Kd.C_drew ?_)))
             (case side6 => exact (Kd.R_reads' HO_330002.out).2.1)
             rintro e w61 ⟨v343, rfl, ho0, hb⟩
             refine ⟨_, rfl, ?_⟩
             have n0_ := Aside0.mk (Kd.R_elder' (by (with_reducible repeat (first | apply Kd.R_alloc | apply Kd.R_drewN | apply Kd.R_drew)); exact HO_313000.out) (Kd.R_base ho0) hb)
             have n1_ := Aside0.mk (Kd.S_elder' (by (with_reducible repeat (first | apply Kd.S_alloc | apply Kd.S_drewN | apply Kd.S_drew)); exact HO_313001.out) (Kd.R_base ho0) hb)
             have n2_ := Aside0.mk (Kd.R_elder' (by (with_reducible repeat (first | apply Kd.R_alloc | apply Kd.R_drewN | apply Kd.R_drew)); exact HO_313002.out) (Kd.R_base ho0) hb)
             have n3_ := Aside0.mk (Kd.R_elder' (by (with_reducible repeat (first | apply Kd.R_alloc | apply Kd.R_drewN | apply Kd.R_drew)); exact HO_319002.out) (Kd.R_base ho0) hb)
             have n4_ := Aside0.mk (Kd.R_elder' (by (with_reducible repeat (first | apply Kd.R_alloc | apply Kd.R_drewN | apply Kd.R_drew)); exact HO_330000.out) (Kd.R_base ho0) hb)
             have n5_ := Aside0.mk (Kd.S_elder' (by (with_reducible repeat (first | apply Kd.S_alloc | apply Kd.S_drewN | apply Kd.S_drew)); exact HO_330001.out) (Kd.R_base ho0) hb)
             have n6_ := Aside0.mk (Kd.R_elder' (by (with_reducible repeat (first | apply Kd.R_alloc | apply Kd.R_drewN | apply Kd.R_drew)); exact HO_330002.out) (Kd.R_base ho0) hb)
             have n7_ := Aside0.mk (Kd.R_elder' (by (with_reducible repeat (first | apply Kd.R_alloc | apply Kd.R_drewN | apply Kd.R_drew)); exact HO338.out) (Kd.R_base ho0) hb)
             have n8_ := Aside0.mk (Kd.R_lower (Kd.R_new' (Kd.R_new' (Kd.R_new' (Kd.R_new' (Kd.R_new' (Kd.R_new' ho0 (Kd.R_lt (by (with_reducible repeat (first | apply Kd.R_alloc | apply Kd.R_drewN | apply Kd.R_drew)); exact HO_313000.out))) (Kd.R_lt (by (with_reducible repeat (first | apply Kd.R_alloc | apply Kd.R_drewN | apply Kd.R_drew)); exact HO_313002.out))) (Kd.R_lt (by (with_reducible repeat (first | apply Kd.R_alloc | apply Kd.R_drewN | apply Kd.R_drew)); exact HO_319002.out))) (Kd.R_lt (by (with_reducible repeat (first | apply Kd.R_alloc | apply Kd.R_drewN | apply Kd.R_drew)); exact HO_330000.out))) (Kd.R_lt (by (with_reducible repeat (first | apply Kd.R_alloc | apply Kd.R_drewN | apply Kd.R_drew)); exact HO_330002.out))) (Kd.R_lt (by (with_reducible repeat (first | apply Kd.R_alloc | apply Kd.R_drewN | apply Kd.R_drew)); exact HO338.out))) (below_size (by repeat (first | (with_reducible first | exact HB.out | apply below_alloc | apply pw_below_drewN | apply below_drew1 | refine below_set ?_ GE312.out | refine below_set ?_ GE318.out | refine below_set ?_ GE329.out | refine below_set ?_ GE339.out) | exact HB.out))))
             have n9_ := Aside0.mk (blk_below (g := gb312) (o := .cells #[.slice Ao13 t303.length co13, .slice Ao15 t306.length co15, .slice Ao16 t309.length co16] 26 (0, 0)) (by (with_reducible repeat (first | refine blk_drewN ?_ _ | refine blk_drew ?_ | refine blk_alloc ?_ _)); exact BK312.out) hb)
             have n10_ := Aside0.mk (blk_below (g := gb318) (o := .cells #[.bool true, .int .i64 t314, .slice Ao21 t315.length co21] 41 (0, 0)) (by (with_reducible repeat (first | refine blk_drewN ?_ _ | refine blk_drew ?_ | refine blk_alloc ?_ _)); exact BK318.out) hb)
             have n11_ := Aside0.mk (blk_below (g := gb329) (o := .cells #[.slice (some ⟨go41, 0, none⟩) t320.length co24, .slice Ao28 t323.length co28, .slice Ao29 t326.length co29] 26 (0, 0)) (by (with_reducible repeat (first | refine blk_drewN ?_ _ | refine blk_drew ?_ | refine blk_alloc ?_ _)); exact BK329.out) hb)
             have n12_ := Aside0.mk (blk_below (g := gb339) (o := .cells #[.bool true, .int .i64 t335, .slice Ao58 t336.length co58] 41 (0, 0)) (by (with_reducible repeat (first | refine blk_drewN ?_ _ | refine blk_drew ?_ | refine blk_alloc ?_ _)); exact BK339.out) hb)
             have n13_ := Aside0.mk (below_step (by repeat (first | (with_reducible first | exact HB.out | apply below_alloc | apply pw_below_drewN | apply below_drew1 | refine below_set ?_ GE312.out | refine below_set ?_ GE318.out | refine below_set ?_ GE329.out | refine below_set ?_ GE339.out) | exact HB.out)) hb)
             clear HO_313000
             clear HO_313001
             clear HO_313002
             clear HO_319002
             clear HO_330000
             clear HO_330001
             clear HO_330002
             clear HO338
             clear BK312
             clear BK318
             clear BK329
             clear BK339
             clear HB
             have HO_313000 := n0_
             have HO_313001 := n1_
             have HO_313002 := n2_
             have HO_319002 := n3_
             have HO_330000 := n4_
             have HO_330001 := n5_
             have HO_330002 := n6_
             have HO338 := n7_
             have HO344 := n8_
             have BK312 := n9_
             have BK318 := n10_
             have BK329 := n11_
             have BK339 := n12_
             have HB := n13_
             clear n0_ n1_ n2_ n3_ n4_ n5_ n6_ n7_ n8_ n9_ n10_ n11_ n12_ n13_
             (try clear hb)
             (try clear hb2)
             (try clear hk)
             (try clear hi)
             (try clear ho0)
             refine hK.out _ _ ⟨(blk_cell BK339.out 0).trans rfl, (blk_cell BK339.out 1).trans rfl, (blk_cell BK339.out 2).trans rfl, (blk_cell BK318.out 0).trans rfl, (blk_cell BK318.out 1).trans rfl, (blk_cell BK318.out 2).trans rfl, (blk_cell BK329.out 0).trans rfl, (blk_cell BK329.out 1).trans rfl, (blk_cell BK329.out 2).trans rfl⟩ (fun hHeld => ?_)
             clear hK K
             refine norm_ (a' := ?_) ?_ ?_
             rotate_left
             ·show Act.put _ (some 82) _ = _
              simp only [Act.put, List.setIfInBounds_toArray, List.set_cons_zero, List.set_cons_succ, i64_w, i32_w]
              rfl
             refine pure_ (i := 14) (N := some 83) (v := ?_) (a' := ?_) #[true, true, true, true, true, true, true, true, true, true, true, true, true, true, true, false, false, false] rfl rfl (any_of HT_.out (by kernel_rfl)) (fun _ _ _ h => h) (Or.inl ⟨by rfl, ?_⟩) ?_ ?_
             rotate_left
             ·intro w'
              go_simp
              with_reducible rfl
             rotate_left
             ·simp only [Act.put, List.setIfInBounds_toArray, List.set_cons_zero, List.set_cons_succ, i64_w, i32_w]
              rfl
             refine pure_ (i := 15) (N := some 84) (v := ?_) (a' := ?_) #[true, true, true, true, true, true, true, true, true, true, true, true, true, true, true, true, false, false] rfl rfl (any_of HT_.out (by kernel_rfl)) (fun _ _ _ h => h) (Or.inl ⟨by rfl, ?_⟩) ?_ ?_
             rotate_left
             ·intro w'
              go_simp
              with_reducible rfl
             rotate_left
             ·simp only [Act.put, List.setIfInBounds_toArray, List.set_cons_zero, List.set_cons_succ, i64_w, i32_w]
              rfl
             refine pure_ (i := 16) (N := some 85) (v := ?_) (a' := ?_) #[true, true, true, true, true, true, true, true, true, true, true, true, true, true, true, true, true, false] rfl rfl (any_of HT_.out (by kernel_rfl)) (fun _ _ _ h => h) (Or.inl ⟨by rfl, ?_⟩) ?_ ?_
             rotate_left
             ·intro w'
              go_simp
              with_reducible rfl
             rotate_left
             ·simp only [Act.put, List.setIfInBounds_toArray, List.set_cons_zero, List.set_cons_succ, i64_w, i32_w]
              rfl
             refine pure_ (i := 17) (N := some 4) (v := ?_) (a' := ?_) #[true, true, true, true, true, true, true, true, true, true, true, true, true, true, true, true, true, true] rfl rfl (any_of HT_.out (by kernel_rfl)) (fun _ _ _ h => h) (Or.inl ⟨by rfl, ?_⟩) ?_ ?_
             rotate_left
             ·intro w'
              go_simp
              with_reducible rfl
             rotate_left
             ·simp only [Act.put, List.setIfInBounds_toArray, List.set_cons_zero, List.set_cons_succ, i64_w, i32_w]
              rfl
             refine done_ (done_of HT_.out (by kernel_rfl)) ?_
             try go_wp2
             go_ret
             exact ⟨by first | rfl | (simp [errW_none, errW_some] <;> rfl) | (simp only [← hji38]; first | rfl | (simp [errW_none, errW_some] <;> rfl)) | (simp [*, errW_none, errW_some] <;> rfl), by repeat (first | (with_reducible first | exact HB.out | apply below_alloc | apply pw_below_drewN | apply below_drew1 | refine below_set ?_ GE312.out | refine below_set ?_ GE318.out | refine below_set ?_ GE329.out | refine below_set ?_ GE339.out) | exact HB.out)⟩
            ·rw [if_neg c44] at H
             exact absurd (H.trans (congrArg some hT_.out)) (by simp)
           ·replace c43 := Bool.eq_false_iff.mpr c43
            subst c43
            have H1 : (some false) = some r := by rw [if_neg (show ¬ (false = true) by decide)] at H; exact H
            clear H
            have H := H1
            exact absurd (H.trans (congrArg some hT_.out)) (by simp)
          ·rw [if_neg c40] at H
           exact absurd H (by simp)
         ·rw [if_neg c39] at H
          exact absurd H (by simp)
       ·replace c35 := Bool.eq_false_iff.mpr c35
        subst c35
        have H1 : (if 0 ≤ (wrap64 ((t323.length : Int) - 1)) then (if (wrap64 ((t323.length : Int) - 1)) ≤ (t323.length : Int) then ((some (t323.take ((wrap64 ((t323.length : Int) - 1)) : Int).toNat : List (S35))).bind fun y345 => (if 0 ≤ (wrap64 ((t326.length : Int) - 1)) then (if (wrap64 ((t326.length : Int) - 1)) ≤ (t326.length : Int) then ((some (t326.take ((wrap64 ((t326.length : Int) - 1)) : Int).toNat : List Int)).bind fun y348 => ((impl_Solve.f kj9 t320 y345 y348).bind fun bt351 => (if bt351.1 = true then (if bt351.2.1 ≤ t314 then ((spec_Solve.f kj9 t320 y345 y348).bind fun bt357 => (some (bt351.2.1 == bt357.2.1))) else (some false)) else (some false)))) else (none)) else (none))) else (none)) else (none)) = some r := by rw [if_neg (show ¬ (false = true) by decide)] at H; exact H
        clear H
        have H := H1
        clear H1
        obtain ⟨ji92, hji92⟩ : ∃ j_ : Int, (wrap64 ((t323.length : Int) - 1)) = j_ := ⟨_, rfl⟩
        replace H : (if 0 ≤ (ji92) then (if (ji92) ≤ (t323.length : Int) then ((some (t323.take ((ji92) : Int).toNat : List (S35))).bind fun y345 => (if 0 ≤ (wrap64 ((t326.length : Int) - 1)) then (if (wrap64 ((t326.length : Int) - 1)) ≤ (t326.length : Int) then ((some (t326.take ((wrap64 ((t326.length : Int) - 1)) : Int).toNat : List Int)).bind fun y348 => ((impl_Solve.f kj9 t320 y345 y348).bind fun bt351 => (if bt351.1 = true then (if bt351.2.1 ≤ t314 then ((spec_Solve.f kj9 t320 y345 y348).bind fun bt357 => (some (bt351.2.1 == bt357.2.1))) else (some false)) else (some false)))) else (none)) else (none))) else (none)) else (none)) = some r := by first | (rw [hji92] at H; exact H) | (simp only [hji92] at H ⊢; exact H)
        have hji92w : (IntKind.i64.wrap ((t323.length : Int) - 1)) = ji92 := (i64_w _).trans hji92
        by_cases c93 : 0 ≤ (ji92)
        ·rw [if_pos c93] at H
         have c93b0 := eq_true c93
         have c93b1 : decide (0 ≤ (ji92)) = true := decide_eq_true c93
         clear c93
         by_cases c94 : (ji92) ≤ (t323.length : Int)
         ·rw [if_pos c94] at H
          have c94b0 := eq_true c94
          have c94b1 : decide ((ji92) ≤ (t323.length : Int)) = true := decide_eq_true c94
          clear c94
          obtain ⟨y345, hy345⟩ : ∃ y_ : List (S35), y_ = (t323.take ((ji92) : Int).toNat) := ⟨_, rfl⟩
          replace H : (if 0 ≤ (wrap64 ((t326.length : Int) - 1)) then (if (wrap64 ((t326.length : Int) - 1)) ≤ (t326.length : Int) then ((some (t326.take ((wrap64 ((t326.length : Int) - 1)) : Int).toNat : List Int)).bind fun y348 => ((impl_Solve.f kj9 t320 y345 y348).bind fun bt351 => (if bt351.1 = true then (if bt351.2.1 ≤ t314 then ((spec_Solve.f kj9 t320 y345 y348).bind fun bt357 => (some (bt351.2.1 == bt357.2.1))) else (some false)) else (some false)))) else (none)) else (none)) = some r := by first | (rw [hy345]; with_reducible exact H) | (have H2_ := (Option.bind_some _ _).symm.trans H; rw [hy345]; with_reducible exact H2_) | (have H2_ := (Option.bind_some _ _).symm.trans H; with_reducible exact H2_) | with_reducible exact H | (rw [hy345]; exact H) | exact H
          have Ny345 := Aside0.mk hy345
          clear hy345
          obtain ⟨ji95, hji95⟩ : ∃ j_ : Int, (wrap64 ((t326.length : Int) - 1)) = j_ := ⟨_, rfl⟩
          replace H : (if 0 ≤ (ji95) then (if (ji95) ≤ (t326.length : Int) then ((some (t326.take ((ji95) : Int).toNat : List Int)).bind fun y348 => ((impl_Solve.f kj9 t320 y345 y348).bind fun bt351 => (if bt351.1 = true then (if bt351.2.1 ≤ t314 then ((spec_Solve.f kj9 t320 y345 y348).bind fun bt357 => (some (bt351.2.1 == bt357.2.1))) else (some false)) else (some false)))) else (none)) else (none)) = some r := by first | (rw [hji95] at H; exact H) | (simp only [hji95] at H ⊢; exact H)
          have hji95w : (IntKind.i64.wrap ((t326.length : Int) - 1)) = ji95 := (i64_w _).trans hji95
          by_cases c96 : 0 ≤ (ji95)
          ·rw [if_pos c96] at H
           have c96b0 := eq_true c96
           have c96b1 : decide (0 ≤ (ji95)) = true := decide_eq_true c96
           clear c96
           by_cases c97 : (ji95) ≤ (t326.length : Int)
           ·rw [if_pos c97] at H
            have c97b0 := eq_true c97
            have c97b1 : decide ((ji95) ≤ (t326.length : Int)) = true := decide_eq_true c97
            clear c97
            obtain ⟨y348, hy348⟩ : ∃ y_ : List Int, y_ = (t326.take ((ji95) : Int).toNat) := ⟨_, rfl⟩
            replace H : ((impl_Solve.f kj9 t320 y345 y348).bind fun bt351 => (if bt351.1 = true then (if bt351.2.1 ≤ t314 then ((spec_Solve.f kj9 t320 y345 y348).bind fun bt357 => (some (bt351.2.1 == bt357.2.1))) else (some false)) else (some false))) = some r := by first | (rw [hy348]; with_reducible exact H) | (have H2_ := (Option.bind_some _ _).symm.trans H; rw [hy348]; with_reducible exact H2_) | (have H2_ := (Option.bind_some _ _).symm.trans H; with_reducible exact H2_) | with_reducible exact H | (rw [hy348]; exact H) | exact H
            have Ny348 := Aside0.mk hy348
            clear hy348
            replace H := Option.bind_eq_some_iff.mp H
            obtain ⟨⟨t351, t352, t353⟩, A980, H⟩ := H
            replace H : (if t351 = true then (if t352 ≤ t314 then ((spec_Solve.f kj9 t320 y345 y348).bind fun bt357 => (some (t352 == bt357.2.1))) else (some false)) else (some false)) = some r := H
            have A98 := Aside0.mk A980
            clear A980
            by_cases c99 : t351 = true
            ·subst c99
             have H1 : (if t352 ≤ t314 then ((spec_Solve.f kj9 t320 y345 y348).bind fun bt357 => (some (t352 == bt357.2.1))) else (some false)) = some r := by rw [if_pos rfl] at H; exact H
             clear H
             have H := H1
             clear H1
             by_cases c100 : t352 ≤ t314
             ·rw [if_pos c100] at H
              have c100b0 : decide (t352 ≤ t314) = true := decide_eq_true c100
              clear c100
              replace H := Option.bind_eq_some_iff.mp H
              obtain ⟨⟨t357, t358, t359⟩, A1010, H⟩ := H
              replace H : (some (t352 == t358)) = some r := H
              have A101 := Aside0.mk A1010
              clear A1010
              obtain rfl := Option.some.inj H
              have hnb102 := NB329_312.out
              have hnc102 := NB312_329.out
              have hnb103 := NB329_318.out
              have hnc103 := NB318_329.out
              have hcz104_0 : wc.cell? ⟨gb329, 0, none⟩ = some (.slice Ao24 t320.length co24) := (blk_cell BK329.out 0).trans rfl
              have hcz104_1 : wc.cell? ⟨gb329, 1, none⟩ = some (.slice Ao28 t323.length co28) := (blk_cell BK329.out 1).trans rfl
              have hcz104_2 : wc.cell? ⟨gb329, 2, none⟩ = some (.slice Ao29 t326.length co29) := (blk_cell BK329.out 2).trans rfl
              have hfz104_0 := blk_frozen BK329.out 0
              have hfz104_1 := blk_frozen BK329.out 1
              have hfz104_2 := blk_frozen BK329.out 2
              have q105 : ((ji92) : Int) ≤ ((t323.length : Int) : Int) := of_decide_eq_true (by assumption)
              obtain ⟨i0105, hi0105, _, hsz105, _⟩ := info_parts info35
              have hcut105 := cut_to (P := Try.prog) 24 35 .i64 Try.underlying24 hi0105 Ao28 t323.length co28 (ji92) (of_decide_eq_true (by assumption)) q105 (Kd.S_reads' HO_330001.out).2.1
              have hr105 := Kd.S_take (m := ((ji92) : Int).toNat) HO_330001.out (by omega)
              have hy105 : y345.length = ((ji92) : Int).toNat := (by rw [Ny345.out, List.length_take]; omega)
              rw [← Ny345.out] at hr105
              rw [← hy105] at hr105 hcut105
              clear hy105 hi0105 hsz105 HO_330001
              have HO347 := Aside0.mk hr105
              clear hr105
              replace q105 := eq_true q105
              try go_wp2_with (first | ((with_reducible refine gate_store (t := 24) (p := 58) rfl ?_); refine store_event (t := 24) (p := 58) (v := ?vo_w106) (w1 := (wc.setCell ⟨gb329, 1, none⟩ (.slice Ao28 y345.length co28))) ?hg ?ho ?hn ?hr ?_; (case ho => rfl); (case hg => rfl); (case hn => rfl); (case hr => first | (go_simp; done) | (go_simp; rfl)); intro w106 hw; have n0_ : Aside0 (Kd.R (Kd.int .i64) 3 w106 w.heap.size (fun k_ => some k_ ≠ (.slice Ao16 t309.length co16 : Value).ownBlock ∧ some k_ ≠ (.slice Ao21 t315.length co21 : Value).ownBlock ∧ some k_ ≠ (.slice Ao24 t320.length co24 : Value).ownBlock ∧ some k_ ≠ (.slice Ao29 t326.length co29 : Value).ownBlock) (.slice Ao13 t303.length co13) t303) := ⟨(by rw [hw]; exact (by (with_reducible repeat (first | apply Kd.R_alloc | apply Kd.R_drewN | apply Kd.R_drew)); exact Kd.R_mono (Kd.R_far (p := ⟨gb329, 1, none⟩) (Kd.R_types HO_313000.out BK329.out (by decide)) (fun _ hk => hk.2) (.slice Ao28 y345.length co28)) (fun _ hk => by first | exact ⟨hk.1.1, ⟨hk.1.2.1, ⟨hk.1.2.2.1, hk.1.2.2.2⟩⟩⟩ | (simp only [own_sl_] at hk ⊢; exact ⟨hk.1.1, ⟨hk.1.2.1, ⟨hk.1.2.2.1, hk.1.2.2.2⟩⟩⟩))))⟩; have n1_ : Aside0 (Kd.S k35 35 w106 w.heap.size (fun k_ => some k_ ≠ (.slice Ao13 t303.length co13 : Value).ownBlock ∧ some k_ ≠ (.slice Ao16 t309.length co16 : Value).ownBlock ∧ some k_ ≠ (.slice Ao21 t315.length co21 : Value).ownBlock ∧ some k_ ≠ (.slice Ao24 t320.length co24 : Value).ownBlock ∧ some k_ ≠ (.slice Ao28 y345.length co28 : Value).ownBlock ∧ some k_ ≠ (.slice Ao29 t326.length co29 : Value).ownBlock) (.slice Ao15 t306.length co15) t306) := ⟨(by rw [hw]; exact (by (with_reducible repeat (first | apply Kd.S_alloc | apply Kd.S_drewN | apply Kd.S_drew)); exact Kd.S_mono (Kd.S_far (p := ⟨gb329, 1, none⟩) (Kd.S_types HO_313001.out BK329.out (by decide)) (fun _ hk => hk.2) (.slice Ao28 y345.length co28)) (fun _ hk => by first | exact ⟨hk.1.1, ⟨hk.1.2.1, ⟨hk.1.2.2.1, ⟨hk.1.2.2.2.1, ⟨hk.1.2.2.2.2.1, hk.1.2.2.2.2.2⟩⟩⟩⟩⟩ | (simp only [own_sl_] at hk ⊢; exact ⟨hk.1.1, ⟨hk.1.2.1, ⟨hk.1.2.2.1, ⟨hk.1.2.2.2.1, ⟨hk.1.2.2.2.2.1, hk.1.2.2.2.2.2⟩⟩⟩⟩⟩))))⟩; have n2_ : Aside0 (Kd.R (Kd.int .i64) 3 w106 w.heap.size (fun k_ => some k_ ≠ (.slice Ao13 t303.length co13 : Value).ownBlock ∧ some k_ ≠ (.slice Ao21 t315.length co21 : Value).ownBlock ∧ some k_ ≠ (.slice Ao24 t320.length co24 : Value).ownBlock ∧ some k_ ≠ (.slice Ao29 t326.length co29 : Value).ownBlock) (.slice Ao16 t309.length co16) t309) := ⟨(by rw [hw]; exact (by (with_reducible repeat (first | apply Kd.R_alloc | apply Kd.R_drewN | apply Kd.R_drew)); exact Kd.R_mono (Kd.R_far (p := ⟨gb329, 1, none⟩) (Kd.R_types HO_313002.out BK329.out (by decide)) (fun _ hk => hk.2) (.slice Ao28 y345.length co28)) (fun _ hk => by first | exact ⟨hk.1.1, ⟨hk.1.2.1, ⟨hk.1.2.2.1, hk.1.2.2.2⟩⟩⟩ | (simp only [own_sl_] at hk ⊢; exact ⟨hk.1.1, ⟨hk.1.2.1, ⟨hk.1.2.2.1, hk.1.2.2.2⟩⟩⟩))))⟩; have n3_ : Aside0 (Kd.R (Kd.int .i64) 3 w106 w.heap.size (fun k_ => some k_ ≠ (.slice Ao13 t303.length co13 : Value).ownBlock ∧ some k_ ≠ (.slice Ao16 t309.length co16 : Value).ownBlock ∧ some k_ ≠ (.slice Ao24 t320.length co24 : Value).ownBlock ∧ some k_ ≠ (.slice Ao29 t326.length co29 : Value).ownBlock) (.slice Ao21 t315.length co21) t315) := ⟨(by rw [hw]; exact (by (with_reducible repeat (first | apply Kd.R_alloc | apply Kd.R_drewN | apply Kd.R_drew)); exact Kd.R_mono (Kd.R_far (p := ⟨gb329, 1, none⟩) (Kd.R_types HO_319002.out BK329.out (by decide)) (fun _ hk => hk.2) (.slice Ao28 y345.length co28)) (fun _ hk => by first | exact ⟨hk.1.1, ⟨hk.1.2.1, ⟨hk.1.2.2.1, hk.1.2.2.2⟩⟩⟩ | (simp only [own_sl_] at hk ⊢; exact ⟨hk.1.1, ⟨hk.1.2.1, ⟨hk.1.2.2.1, hk.1.2.2.2⟩⟩⟩))))⟩; have n4_ : Aside0 (Kd.R (Kd.int .i64) 3 w106 w.heap.size (fun k_ => some k_ ≠ (.slice Ao13 t303.length co13 : Value).ownBlock ∧ some k_ ≠ (.slice Ao16 t309.length co16 : Value).ownBlock ∧ some k_ ≠ (.slice Ao21 t315.length co21 : Value).ownBlock ∧ some k_ ≠ (.slice Ao29 t326.length co29 : Value).ownBlock) (.slice Ao24 t320.length co24) t320) := ⟨(by rw [hw]; exact (by (with_reducible repeat (first | apply Kd.R_alloc | apply Kd.R_drewN | apply Kd.R_drew)); exact Kd.R_mono (Kd.R_far (p := ⟨gb329, 1, none⟩) (Kd.R_types HO_330000.out BK329.out (by decide)) (fun _ hk => hk.2) (.slice Ao28 y345.length co28)) (fun _ hk => by first | exact ⟨hk.1.1, ⟨hk.1.2.1, ⟨hk.1.2.2.1, hk.1.2.2.2⟩⟩⟩ | (simp only [own_sl_] at hk ⊢; exact ⟨hk.1.1, ⟨hk.1.2.1, ⟨hk.1.2.2.1, hk.1.2.2.2⟩⟩⟩))))⟩; have n5_ : Aside0 (Kd.S k35 35 w106 w.heap.size (fun k_ => some k_ ≠ (.slice Ao13 t303.length co13 : Value).ownBlock ∧ some k_ ≠ (.slice Ao15 t306.length co15 : Value).ownBlock ∧ some k_ ≠ (.slice Ao16 t309.length co16 : Value).ownBlock ∧ some k_ ≠ (.slice Ao21 t315.length co21 : Value).ownBlock ∧ some k_ ≠ (.slice Ao24 t320.length co24 : Value).ownBlock ∧ some k_ ≠ (.slice Ao29 t326.length co29 : Value).ownBlock) (.slice Ao28 y345.length co28) y345) := ⟨(by rw [hw]; exact (by (with_reducible repeat (first | apply Kd.S_alloc | apply Kd.S_drewN | apply Kd.S_drew)); exact Kd.S_mono (Kd.S_far (p := ⟨gb329, 1, none⟩) (Kd.S_types HO347.out BK329.out (by decide)) (fun _ hk => hk.2) (.slice Ao28 y345.length co28)) (fun _ hk => by first | exact ⟨hk.1.1, ⟨hk.1.2.1, ⟨hk.1.2.2.1, ⟨hk.1.2.2.2.1, ⟨hk.1.2.2.2.2.1, hk.1.2.2.2.2.2⟩⟩⟩⟩⟩ | (simp only [own_sl_] at hk ⊢; exact ⟨hk.1.1, ⟨hk.1.2.1, ⟨hk.1.2.2.1, ⟨hk.1.2.2.2.1, ⟨hk.1.2.2.2.2.1, hk.1.2.2.2.2.2⟩⟩⟩⟩⟩))))⟩; have n6_ : Aside0 (Kd.R (Kd.int .i64) 3 w106 w.heap.size (fun k_ => some k_ ≠ (.slice Ao13 t303.length co13 : Value).ownBlock ∧ some k_ ≠ (.slice Ao16 t309.length co16 : Value).ownBlock ∧ some k_ ≠ (.slice Ao21 t315.length co21 : Value).ownBlock ∧ some k_ ≠ (.slice Ao24 t320.length co24 : Value).ownBlock) (.slice Ao29 t326.length co29) t326) := ⟨(by rw [hw]; exact (by (with_reducible repeat (first | apply Kd.R_alloc | apply Kd.R_drewN | apply Kd.R_drew)); exact Kd.R_mono (Kd.R_far (p := ⟨gb329, 1, none⟩) (Kd.R_types HO_330002.out BK329.out (by decide)) (fun _ hk => hk.2) (.slice Ao28 y345.length co28)) (fun _ hk => by first | exact ⟨hk.1.1, ⟨hk.1.2.1, ⟨hk.1.2.2.1, hk.1.2.2.2⟩⟩⟩ | (simp only [own_sl_] at hk ⊢; exact ⟨hk.1.1, ⟨hk.1.2.1, ⟨hk.1.2.2.1, hk.1.2.2.2⟩⟩⟩))))⟩; have n7_ : Aside0 (w106.heap[gb312]? = some (.cells #[.slice Ao13 t303.length co13, .slice Ao15 t306.length co15, .slice Ao16 t309.length co16] 26 (0, 0))) := ⟨(by rw [hw]; exact (by (with_reducible repeat (first | refine blk_drewN ?_ _ | refine blk_drew ?_ | refine blk_alloc ?_ _)); refine blk_far ?_ NB312_329.out _; (with_reducible repeat (first | refine blk_drewN ?_ _ | refine blk_drew ?_ | refine blk_alloc ?_ _)); exact BK312.out))⟩; have n8_ : Aside0 (w106.heap[gb318]? = some (.cells #[.bool true, .int .i64 t314, .slice Ao21 t315.length co21] 41 (0, 0))) := ⟨(by rw [hw]; exact (by (with_reducible repeat (first | refine blk_drewN ?_ _ | refine blk_drew ?_ | refine blk_alloc ?_ _)); refine blk_far ?_ NB318_329.out _; (with_reducible repeat (first | refine blk_drewN ?_ _ | refine blk_drew ?_ | refine blk_alloc ?_ _)); exact BK318.out))⟩; have n9_ : Aside0 (w106.heap[gb329]? = some (.cells #[.slice Ao24 t320.length co24, .slice Ao28 y345.length co28, .slice Ao29 t326.length co29] 26 (0, 0))) := ⟨(by rw [hw]; exact (by (with_reducible repeat (first | refine blk_drewN ?_ _ | refine blk_drew ?_ | refine blk_alloc ?_ _)); refine blk_put (cs := #[.slice Ao24 t320.length co24, .slice Ao28 t323.length co28, .slice Ao29 t326.length co29]) ?_ 1 _ rfl; (with_reducible repeat (first | refine blk_drewN ?_ _ | refine blk_drew ?_ | refine blk_alloc ?_ _)); exact BK329.out))⟩; have n10_ : Aside0 (Below w.heap.size w w106) := ⟨(by rw [hw]; exact (by repeat (first | (with_reducible first | exact HB.out | apply below_alloc | apply pw_below_drewN | apply below_drew1 | refine below_set ?_ GE312.out | refine below_set ?_ GE318.out | refine below_set ?_ GE329.out) | exact HB.out)))⟩; clear hw; clear HO_313000; clear HO_313001; clear HO_313002; clear HO_319002; clear HO_330000; clear HO347; clear HO_330002; clear BK312; clear BK318; clear BK329; clear HB; have HO_313000 := n0_; have HO_313001 := n1_; have HO_313002 := n2_; have HO_319002 := n3_; have HO_330000 := n4_; have HO347 := n5_; have HO_330002 := n6_; have BK312 := n7_; have BK318 := n8_; have BK329 := n9_; have HB := n10_; clear n0_ n1_ n2_ n3_ n4_ n5_ n6_ n7_ n8_ n9_ n10_; have hcz107_0 : w106.cell? ⟨gb329, 0, none⟩ = some (.slice Ao24 t320.length co24) := (blk_cell BK329.out 0).trans rfl; have hcz107_1 : w106.cell? ⟨gb329, 1, none⟩ = some (.slice Ao28 y345.length co28) := (blk_cell BK329.out 1).trans rfl; have hcz107_2 : w106.cell? ⟨gb329, 2, none⟩ = some (.slice Ao29 t326.length co29) := (blk_cell BK329.out 2).trans rfl; have hfz107_0 := blk_frozen BK329.out 0; have hfz107_1 := blk_frozen BK329.out 1; have hfz107_2 := blk_frozen BK329.out 2; have q108 : ((ji95) : Int) ≤ ((t326.length : Int) : Int) := of_decide_eq_true (by assumption); obtain ⟨i0108, hi0108, _, hsz108, _⟩ := info_parts info3; have hcut108 := cut_to (P := Try.prog) 23 3 .i64 Try.underlying23 hi0108 Ao29 t326.length co29 (ji95) (of_decide_eq_true (by assumption)) q108 (Kd.R_reads' HO_330002.out).2.1; have hr108 := Kd.R_take (m := ((ji95) : Int).toNat) HO_330002.out (by omega); have hy108 : y348.length = ((ji95) : Int).toNat := (by rw [Ny348.out, List.length_take]; omega); rw [← Ny348.out] at hr108; rw [← hy108] at hr108 hcut108; clear hy108 hi0108 hsz108 HO_330002; have HO350 := Aside0.mk hr108; clear hr108; replace q108 := eq_true q108) | ((with_reducible refine gate_callee (f := 24) rfl ?_); refine goesL_ (some 68) rfl rfl Try.func24 (by kernel_rfl) rfl #[.agg #[.slice Ao24 t320.length co24, .slice Ao28 y345.length co28, .slice Ao29 y348.length co29]] rfl (by (try simp only [List.map_toArray, List.map_cons, List.map_nil]); first | done | rfl | (simp only [List.length_drop, List.length_take]; rfl)) ?_; (with_reducible refine (impl_Solve.calls kj9 _ _ t320 _ _ y345 _ _ y348 true t352 t353 _ ?side1 ?side2 ?side3 ?side4 ?side5 ?side6 A98.out).mono ?_); (case side1 => refine (Kd.R_reads' (e := 3) (base := w.heap.size) (ok := fun k_ => (some k_ ≠ (.slice Ao13 t303.length co13 : Value).ownBlock ∧ (some k_ ≠ (.slice Ao16 t309.length co16 : Value).ownBlock ∧ (some k_ ≠ (.slice Ao21 t315.length co21 : Value).ownBlock ∧ some k_ ≠ (.slice Ao29 y348.length co29 : Value).ownBlock)))) (n := t320.length) (c := co24) ?_).2.2; exact (by (with_reducible repeat (first | apply Kd.R_alloc | apply Kd.R_drewN | apply Kd.R_drew)); exact (Kd.R_mono (Kd.R_far (p := ⟨gb329, 2, none⟩) (Kd.R_types HO_330000.out BK329.out (by decide)) (fun _ hk => hk.2) (.slice Ao29 y348.length co29)) (fun _ h_ => by first | exact h_.1 | (simp only [own_sl_] at h_ ⊢; exact h_.1))))); (case side2 => exact (Kd.R_reads' HO_330000.out).2.1); (case side3 => refine (Kd.S_reads' (e := 35) (base := w.heap.size) (ok := fun k_ => (some k_ ≠ (.slice Ao13 t303.length co13 : Value).ownBlock ∧ (some k_ ≠ (.slice Ao15 t306.length co15 : Value).ownBlock ∧ (some k_ ≠ (.slice Ao16 t309.length co16 : Value).ownBlock ∧ (some k_ ≠ (.slice Ao21 t315.length co21 : Value).ownBlock ∧ (some k_ ≠ (.slice Ao24 t320.length co24 : Value).ownBlock ∧ some k_ ≠ (.slice Ao29 y348.length co29 : Value).ownBlock)))))) (n := y345.length) (c := co28) ?_).2.2; exact (by (with_reducible repeat (first | apply Kd.S_alloc | apply Kd.S_drewN | apply Kd.S_drew)); exact (Kd.S_mono (Kd.S_far (p := ⟨gb329, 2, none⟩) (Kd.S_types HO347.out BK329.out (by decide)) (fun _ hk => hk.2) (.slice Ao29 y348.length co29)) (fun _ h_ => by first | exact h_.1 | (simp only [own_sl_] at h_ ⊢; exact h_.1))))); (case side4 => exact (Kd.S_reads' HO347.out).2.1); (case side5 => refine (Kd.R_reads' (e := 3) (base := w.heap.size) (ok := fun k_ => (some k_ ≠ (.slice Ao13 t303.length co13 : Value).ownBlock ∧ (some k_ ≠ (.slice Ao16 t309.length co16 : Value).ownBlock ∧ (some k_ ≠ (.slice Ao21 t315.length co21 : Value).ownBlock ∧ some k_ ≠ (.slice Ao24 t320.length co24 : Value).ownBlock)))) (n := y348.length) (c := co29) ?_).2.2; exact (by (with_reducible repeat (first | apply Kd.R_alloc | apply Kd.R_drewN | apply Kd.R_drew)); exact (Kd.R_mono (Kd.R_far (p := ⟨gb329, 2, none⟩) (Kd.R_types HO350.out BK329.out (by decide)) (fun _ hk => hk.2) (.slice Ao29 y348.length co29)) (fun _ h_ => by first | exact h_.1 | (simp only [own_sl_] at h_ ⊢; exact h_.1))))); (case side6 => exact (Kd.R_reads' HO350.out).2.1); rintro e w109 ⟨v354, rfl, ho0, hb⟩; refine ⟨_, rfl, ?_⟩; have n0_ := Aside0.mk (Kd.R_elder' (by (with_reducible repeat (first | apply Kd.R_alloc | apply Kd.R_drewN | apply Kd.R_drew)); exact (Kd.R_mono (Kd.R_far (p := ⟨gb329, 2, none⟩) (Kd.R_types HO_313000.out BK329.out (by decide)) (fun _ hk => hk.2) (.slice Ao29 y348.length co29)) (fun _ h_ => by first | exact h_.1 | (simp only [own_sl_] at h_ ⊢; exact h_.1)))) (Kd.R_base ho0) hb); have n1_ := Aside0.mk (Kd.S_elder' (by (with_reducible repeat (first | apply Kd.S_alloc | apply Kd.S_drewN | apply Kd.S_drew)); exact (Kd.S_mono (Kd.S_far (p := ⟨gb329, 2, none⟩) (Kd.S_types HO_313001.out BK329.out (by decide)) (fun _ hk => hk.2) (.slice Ao29 y348.length co29)) (fun _ h_ => by first | exact h_.1 | (simp only [own_sl_] at h_ ⊢; exact h_.1)))) (Kd.R_base ho0) hb); have n2_ := Aside0.mk (Kd.R_elder' (by (with_reducible repeat (first | apply Kd.R_alloc | apply Kd.R_drewN | apply Kd.R_drew)); exact (Kd.R_mono (Kd.R_far (p := ⟨gb329, 2, none⟩) (Kd.R_types HO_313002.out BK329.out (by decide)) (fun _ hk => hk.2) (.slice Ao29 y348.length co29)) (fun _ h_ => by first | exact h_.1 | (simp only [own_sl_] at h_ ⊢; exact h_.1)))) (Kd.R_base ho0) hb); have n3_ := Aside0.mk (Kd.R_elder' (by (with_reducible repeat (first | apply Kd.R_alloc | apply Kd.R_drewN | apply Kd.R_drew)); exact (Kd.R_mono (Kd.R_far (p := ⟨gb329, 2, none⟩) (Kd.R_types HO_319002.out BK329.out (by decide)) (fun _ hk => hk.2) (.slice Ao29 y348.length co29)) (fun _ h_ => by first | exact h_.1 | (simp only [own_sl_] at h_ ⊢; exact h_.1)))) (Kd.R_base ho0) hb); have n4_ := Aside0.mk (Kd.R_elder' (by (with_reducible repeat (first | apply Kd.R_alloc | apply Kd.R_drewN | apply Kd.R_drew)); exact (Kd.R_mono (Kd.R_far (p := ⟨gb329, 2, none⟩) (Kd.R_types HO_330000.out BK329.out (by decide)) (fun _ hk => hk.2) (.slice Ao29 y348.length co29)) (fun _ h_ => by first | exact h_.1 | (simp only [own_sl_] at h_ ⊢; exact h_.1)))) (Kd.R_base ho0) hb); have n5_ := Aside0.mk (Kd.S_elder' (by (with_reducible repeat (first | apply Kd.S_alloc | apply Kd.S_drewN | apply Kd.S_drew)); exact (Kd.S_mono (Kd.S_far (p := ⟨gb329, 2, none⟩) (Kd.S_types HO347.out BK329.out (by decide)) (fun _ hk => hk.2) (.slice Ao29 y348.length co29)) (fun _ h_ => by first | exact h_.1 | (simp only [own_sl_] at h_ ⊢; exact h_.1)))) (Kd.R_base ho0) hb); have n6_ := Aside0.mk (Kd.R_elder' (by (with_reducible repeat (first | apply Kd.R_alloc | apply Kd.R_drewN | apply Kd.R_drew)); exact (Kd.R_mono (Kd.R_far (p := ⟨gb329, 2, none⟩) (Kd.R_types HO350.out BK329.out (by decide)) (fun _ hk => hk.2) (.slice Ao29 y348.length co29)) (fun _ h_ => by first | exact h_.1 | (simp only [own_sl_] at h_ ⊢; exact h_.1)))) (Kd.R_base ho0) hb); have n7_ := Aside0.mk (Kd.R_lower (Kd.R_new' (Kd.R_new' (Kd.R_new' (Kd.R_new' (Kd.R_new' ho0 (Kd.R_lt (by (with_reducible repeat (first | apply Kd.R_alloc | apply Kd.R_drewN | apply Kd.R_drew)); exact (Kd.R_mono (Kd.R_far (p := ⟨gb329, 2, none⟩) (Kd.R_types HO_313000.out BK329.out (by decide)) (fun _ hk => hk.2) (.slice Ao29 y348.length co29)) (fun _ h_ => by first | exact h_.1 | (simp only [own_sl_] at h_ ⊢; exact h_.1)))))) (Kd.R_lt (by (with_reducible repeat (first | apply Kd.R_alloc | apply Kd.R_drewN | apply Kd.R_drew)); exact (Kd.R_mono (Kd.R_far (p := ⟨gb329, 2, none⟩) (Kd.R_types HO_313002.out BK329.out (by decide)) (fun _ hk => hk.2) (.slice Ao29 y348.length co29)) (fun _ h_ => by first | exact h_.1 | (simp only [own_sl_] at h_ ⊢; exact h_.1)))))) (Kd.R_lt (by (with_reducible repeat (first | apply Kd.R_alloc | apply Kd.R_drewN | apply Kd.R_drew)); exact (Kd.R_mono (Kd.R_far (p := ⟨gb329, 2, none⟩) (Kd.R_types HO_319002.out BK329.out (by decide)) (fun _ hk => hk.2) (.slice Ao29 y348.length co29)) (fun _ h_ => by first | exact h_.1 | (simp only [own_sl_] at h_ ⊢; exact h_.1)))))) (Kd.R_lt (by (with_reducible repeat (first | apply Kd.R_alloc | apply Kd.R_drewN | apply Kd.R_drew)); exact (Kd.R_mono (Kd.R_far (p := ⟨gb329, 2, none⟩) (Kd.R_types HO_330000.out BK329.out (by decide)) (fun _ hk => hk.2) (.slice Ao29 y348.length co29)) (fun _ h_ => by first | exact h_.1 | (simp only [own_sl_] at h_ ⊢; exact h_.1)))))) (Kd.R_lt (by (with_reducible repeat (first | apply Kd.R_alloc | apply Kd.R_drewN | apply Kd.R_drew)); exact (Kd.R_mono (Kd.R_far (p := ⟨gb329, 2, none⟩) (Kd.R_types HO350.out BK329.out (by decide)) (fun _ hk => hk.2) (.slice Ao29 y348.length co29)) (fun _ h_ => by first | exact h_.1 | (simp only [own_sl_] at h_ ⊢; exact h_.1)))))) (below_size (by repeat (first | (with_reducible first | exact HB.out | apply below_alloc | apply pw_below_drewN | apply below_drew1 | refine below_set ?_ GE312.out | refine below_set ?_ GE318.out | refine below_set ?_ GE329.out) | exact HB.out)))); have n8_ := Aside0.mk (blk_below (g := gb312) (o := .cells #[.slice Ao13 t303.length co13, .slice Ao15 t306.length co15, .slice Ao16 t309.length co16] 26 (0, 0)) (by (with_reducible repeat (first | refine blk_drewN ?_ _ | refine blk_drew ?_ | refine blk_alloc ?_ _)); refine blk_far ?_ NB312_329.out _; (with_reducible repeat (first | refine blk_drewN ?_ _ | refine blk_drew ?_ | refine blk_alloc ?_ _)); exact BK312.out) hb); have n9_ := Aside0.mk (blk_below (g := gb318) (o := .cells #[.bool true, .int .i64 t314, .slice Ao21 t315.length co21] 41 (0, 0)) (by (with_reducible repeat (first | refine blk_drewN ?_ _ | refine blk_drew ?_ | refine blk_alloc ?_ _)); refine blk_far ?_ NB318_329.out _; (with_reducible repeat (first | refine blk_drewN ?_ _ | refine blk_drew ?_ | refine blk_alloc ?_ _)); exact BK318.out) hb); have n10_ := Aside0.mk (blk_below (g := gb329) (o := .cells #[.slice Ao24 t320.length co24, .slice Ao28 y345.length co28, .slice Ao29 y348.length co29] 26 (0, 0)) (by (with_reducible repeat (first | refine blk_drewN ?_ _ | refine blk_drew ?_ | refine blk_alloc ?_ _)); refine blk_put (cs := #[.slice Ao24 t320.length co24, .slice Ao28 y345.length co28, .slice Ao29 t326.length co29]) ?_ 2 _ rfl; (with_reducible repeat (first | refine blk_drewN ?_ _ | refine blk_drew ?_ | refine blk_alloc ?_ _)); exact BK329.out) hb); have n11_ := Aside0.mk (below_step (by repeat (first | (with_reducible first | exact HB.out | apply below_alloc | apply pw_below_drewN | apply below_drew1 | refine below_set ?_ GE312.out | refine below_set ?_ GE318.out | refine below_set ?_ GE329.out) | exact HB.out)) hb); clear HO_313000; clear HO_313001; clear HO_313002; clear HO_319002; clear HO_330000; clear HO347; clear HO350; clear BK312; clear BK318; clear BK329; clear HB; have HO_313000 := n0_; have HO_313001 := n1_; have HO_313002 := n2_; have HO_319002 := n3_; have HO_330000 := n4_; have HO347 := n5_; have HO350 := n6_; have HO355 := n7_; have BK312 := n8_; have BK318 := n9_; have BK329 := n10_; have HB := n11_; clear n0_ n1_ n2_ n3_ n4_ n5_ n6_ n7_ n8_ n9_ n10_ n11_; (try clear hb); (try clear hb2); (try clear hk); (try clear hi); (try clear ho0)) | ((with_reducible refine gate_dst (N := 8) rfl ?_); (try (refine gate_guard (by rfl) ?_; dsimp only)); refine box_event ?hg (N := 8) ?hd (cs := #[.bool false, .int .i64 0, .slice none 0 0]) (t := 41) ?hr ?_; (case hd => rfl); (case hg => rfl); (case hr => first | (go_simp; done) | (go_simp; rfl)); intro gb356 hg w110 hbox hb; have n0_ := Aside0.mk (Kd.R_below (by (with_reducible repeat (first | apply Kd.R_alloc | apply Kd.R_drewN | apply Kd.R_drew)); exact HO_313000.out) hb); have n1_ := Aside0.mk (Kd.S_below (by (with_reducible repeat (first | apply Kd.S_alloc | apply Kd.S_drewN | apply Kd.S_drew)); exact HO_313001.out) hb); have n2_ := Aside0.mk (Kd.R_below (by (with_reducible repeat (first | apply Kd.R_alloc | apply Kd.R_drewN | apply Kd.R_drew)); exact HO_313002.out) hb); have n3_ := Aside0.mk (Kd.R_below (by (with_reducible repeat (first | apply Kd.R_alloc | apply Kd.R_drewN | apply Kd.R_drew)); exact HO_319002.out) hb); have n4_ := Aside0.mk (Kd.R_below (by (with_reducible repeat (first | apply Kd.R_alloc | apply Kd.R_drewN | apply Kd.R_drew)); exact HO_330000.out) hb); have n5_ := Aside0.mk (Kd.S_below (by (with_reducible repeat (first | apply Kd.S_alloc | apply Kd.S_drewN | apply Kd.S_drew)); exact HO347.out) hb); have n6_ := Aside0.mk (Kd.R_below (by (with_reducible repeat (first | apply Kd.R_alloc | apply Kd.R_drewN | apply Kd.R_drew)); exact HO350.out) hb); have n7_ := Aside0.mk (Kd.R_below (by (with_reducible repeat (first | apply Kd.R_alloc | apply Kd.R_drewN | apply Kd.R_drew)); exact HO355.out) hb); have n8_ := Aside0.mk (blk_below (g := gb312) (o := .cells #[.slice Ao13 t303.length co13, .slice Ao15 t306.length co15, .slice Ao16 t309.length co16] 26 (0, 0)) (by (with_reducible repeat (first | refine blk_drewN ?_ _ | refine blk_drew ?_ | refine blk_alloc ?_ _)); exact BK312.out) hb); have n9_ := Aside0.mk (blk_below (g := gb318) (o := .cells #[.bool true, .int .i64 t314, .slice Ao21 t315.length co21] 41 (0, 0)) (by (with_reducible repeat (first | refine blk_drewN ?_ _ | refine blk_drew ?_ | refine blk_alloc ?_ _)); exact BK318.out) hb); have n10_ := Aside0.mk (blk_below (g := gb329) (o := .cells #[.slice Ao24 t320.length co24, .slice Ao28 y345.length co28, .slice Ao29 y348.length co29] 26 (0, 0)) (by (with_reducible repeat (first | refine blk_drewN ?_ _ | refine blk_drew ?_ | refine blk_alloc ?_ _)); exact BK329.out) hb); have n11_ := Aside0.mk (below_step (by repeat (first | (with_reducible first | exact HB.out | apply below_alloc | apply pw_below_drewN | apply below_drew1 | refine below_set ?_ GE312.out | refine below_set ?_ GE318.out | refine below_set ?_ GE329.out) | exact HB.out)) hb); have n12_ := Aside0.mk (hbox); have n13_ := Aside0.mk ((by rw [hg]; exact (below_size (by repeat (first | (with_reducible first | exact HB.out | apply below_alloc | apply pw_below_drewN | apply below_drew1 | refine below_set ?_ GE312.out | refine below_set ?_ GE318.out | refine below_set ?_ GE329.out) | exact HB.out))) : w.heap.size ≤ gb356)); have n14_ := Aside0.mk ((by rw [hg]; exact (below_size (by repeat (first | (with_reducible first | exact HB.out | apply below_alloc | apply pw_below_drewN | apply below_drew1 | refine below_set ?_ GE312.out | refine below_set ?_ GE318.out | refine below_set ?_ GE329.out) | exact HB.out))) : w.heap.size ≤ gb356)); have n15_ := Aside0.mk ((by rw [hg]; exact Nat.ne_of_lt (blk_lt (g := gb312) (o := .cells #[.slice Ao13 t303.length co13, .slice Ao15 t306.length co15, .slice Ao16 t309.length co16] 26 (0, 0)) (by (with_reducible repeat (first | refine blk_drewN ?_ _ | refine blk_drew ?_ | refine blk_alloc ?_ _)); exact BK312.out)) : gb312 ≠ gb356)); have n16_ := Aside0.mk ((by rw [hg]; exact Nat.ne_of_gt (blk_lt (g := gb312) (o := .cells #[.slice Ao13 t303.length co13, .slice Ao15 t306.length co15, .slice Ao16 t309.length co16] 26 (0, 0)) (by (with_reducible repeat (first | refine blk_drewN ?_ _ | refine blk_drew ?_ | refine blk_alloc ?_ _)); exact BK312.out)) : gb356 ≠ gb312)); have n17_ := Aside0.mk ((by rw [hg]; exact Nat.ne_of_lt (blk_lt (g := gb318) (o := .cells #[.bool true, .int .i64 t314, .slice Ao21 t315.length co21] 41 (0, 0)) (by (with_reducible repeat (first | refine blk_drewN ?_ _ | refine blk_drew ?_ | refine blk_alloc ?_ _)); exact BK318.out)) : gb318 ≠ gb356)); have n18_ := Aside0.mk ((by rw [hg]; exact Nat.ne_of_gt (blk_lt (g := gb318) (o := .cells #[.bool true, .int .i64 t314, .slice Ao21 t315.length co21] 41 (0, 0)) (by (with_reducible repeat (first | refine blk_drewN ?_ _ | refine blk_drew ?_ | refine blk_alloc ?_ _)); exact BK318.out)) : gb356 ≠ gb318)); have n19_ := Aside0.mk ((by rw [hg]; exact Nat.ne_of_lt (blk_lt (g := gb329) (o := .cells #[.slice Ao24 t320.length co24, .slice Ao28 y345.length co28, .slice Ao29 y348.length co29] 26 (0, 0)) (by (with_reducible repeat (first | refine blk_drewN ?_ _ | refine blk_drew ?_ | refine blk_alloc ?_ _)); exact BK329.out)) : gb329 ≠ gb356)); have n20_ := Aside0.mk ((by rw [hg]; exact Nat.ne_of_gt (blk_lt (g := gb329) (o := .cells #[.slice Ao24 t320.length co24, .slice Ao28 y345.length co28, .slice Ao29 y348.length co29] 26 (0, 0)) (by (with_reducible repeat (first | refine blk_drewN ?_ _ | refine blk_drew ?_ | refine blk_alloc ?_ _)); exact BK329.out)) : gb356 ≠ gb329)); clear HO_313000; clear HO_313001; clear HO_313002; clear HO_319002; clear HO_330000; clear HO347; clear HO350; clear HO355; clear BK312; clear BK318; clear BK329; clear HB; have HO_313000 := n0_; have HO_313001 := n1_; have HO_313002 := n2_; have HO_319002 := n3_; have HO_330000 := n4_; have HO347 := n5_; have HO350 := n6_; have HO355 := n7_; have BK312 := n8_; have BK318 := n9_; have BK329 := n10_; have HB := n11_; have BK356 := n12_; have GW356 := n13_; have GE356 := n14_; have NB312_356 := n15_; have NB356_312 := n16_; have NB318_356 := n17_; have NB356_318 := n18_; have NB329_356 := n19_; have NB356_329 := n20_; clear n0_ n1_ n2_ n3_ n4_ n5_ n6_ n7_ n8_ n9_ n10_ n11_ n12_ n13_ n14_ n15_ n16_ n17_ n18_ n19_ n20_; clear hb hbox hg; have hnb111 := NB356_312.out; have hnc111 := NB312_356.out; have hnb112 := NB356_318.out; have hnc112 := NB318_356.out; have hnb113 := NB356_329.out; have hnc113 := NB329_356.out; have hcz114_0 : w110.cell? ⟨gb356, 0, none⟩ = some (.bool false) := (blk_cell BK356.out 0).trans rfl; have hcz114_1 : w110.cell? ⟨gb356, 1, none⟩ = some (.int .i64 0) := (blk_cell BK356.out 1).trans rfl; have hcz114_2 : w110.cell? ⟨gb356, 2, none⟩ = some (.slice none 0 0) := (blk_cell BK356.out 2).trans rfl; have hfz114_0 := blk_frozen BK356.out 0; have hfz114_1 := blk_frozen BK356.out 1; have hfz114_2 := blk_frozen BK356.out 2; obtain ⟨Ao115, co115, eo115⟩ := Kd.R_slice HO355.out; subst eo115))
              have n0_ : Aside0 (Kd.R (Kd.int .i64) 3 (((w110.setCell ⟨gb356, 0, none⟩ (.bool true)).setCell ⟨gb356, 1, none⟩ (.int .i64 t352)).setCell ⟨gb356, 2, none⟩ (.slice Ao115 t353.length co115)) w.heap.size (fun k_ => some k_ ≠ (.slice Ao16 t309.length co16 : Value).ownBlock ∧ some k_ ≠ (.slice Ao21 t315.length co21 : Value).ownBlock ∧ some k_ ≠ (.slice Ao24 t320.length co24 : Value).ownBlock ∧ some k_ ≠ (.slice Ao29 y348.length co29 : Value).ownBlock ∧ some k_ ≠ (.slice Ao115 t353.length co115 : Value).ownBlock) (.slice Ao13 t303.length co13) t303) := ⟨by (with_reducible repeat (first | apply Kd.R_alloc | apply Kd.R_drewN | apply Kd.R_drew)); exact Kd.R_mono (Kd.R_far (p := ⟨gb356, 2, none⟩) (Kd.R_far (p := ⟨gb356, 1, none⟩) (Kd.R_far (p := ⟨gb356, 0, none⟩) (Kd.R_types HO_313000.out BK356.out (by decide)) (fun _ hk => hk.2) (.bool true)) (fun _ hk => hk.2) (.int .i64 t352)) (fun _ hk => hk.2) (.slice Ao115 t353.length co115)) (fun _ hk => by first | exact ⟨hk.1.1.1, ⟨hk.1.1.2.1, ⟨hk.1.1.2.2.1, ⟨hk.1.1.2.2.2, hk.1.2⟩⟩⟩⟩ | (simp only [own_sl_] at hk ⊢; exact ⟨hk.1.1.1, ⟨hk.1.1.2.1, ⟨hk.1.1.2.2.1, ⟨hk.1.1.2.2.2, hk.1.2⟩⟩⟩⟩))⟩
              have n1_ : Aside0 (Kd.S k35 35 (((w110.setCell ⟨gb356, 0, none⟩ (.bool true)).setCell ⟨gb356, 1, none⟩ (.int .i64 t352)).setCell ⟨gb356, 2, none⟩ (.slice Ao115 t353.length co115)) w.heap.size (fun k_ => some k_ ≠ (.slice Ao13 t303.length co13 : Value).ownBlock ∧ some k_ ≠ (.slice Ao16 t309.length co16 : Value).ownBlock ∧ some k_ ≠ (.slice Ao21 t315.length co21 : Value).ownBlock ∧ some k_ ≠ (.slice Ao24 t320.length co24 : Value).ownBlock ∧ some k_ ≠ (.slice Ao28 y345.length co28 : Value).ownBlock ∧ some k_ ≠ (.slice Ao29 y348.length co29 : Value).ownBlock ∧ some k_ ≠ (.slice Ao115 t353.length co115 : Value).ownBlock) (.slice Ao15 t306.length co15) t306) := ⟨by (with_reducible repeat (first | apply Kd.S_alloc | apply Kd.S_drewN | apply Kd.S_drew)); exact Kd.S_mono (Kd.S_far (p := ⟨gb356, 2, none⟩) (Kd.S_far (p := ⟨gb356, 1, none⟩) (Kd.S_far (p := ⟨gb356, 0, none⟩) (Kd.S_types HO_313001.out BK356.out (by decide)) (fun _ hk => hk.2) (.bool true)) (fun _ hk => hk.2) (.int .i64 t352)) (fun _ hk => hk.2) (.slice Ao115 t353.length co115)) (fun _ hk => by first | exact ⟨hk.1.1.1, ⟨hk.1.1.2.1, ⟨hk.1.1.2.2.1, ⟨hk.1.1.2.2.2.1, ⟨hk.1.1.2.2.2.2.1, ⟨hk.1.1.2.2.2.2.2, hk.1.2⟩⟩⟩⟩⟩⟩ | (simp only [own_sl_] at hk ⊢; exact ⟨hk.1.1.1, ⟨hk.1.1.2.1, ⟨hk.1.1.2.2.1, ⟨hk.1.1.2.2.2.1, ⟨hk.1.1.2.2.2.2.1, ⟨hk.1.1.2.2.2.2.2, hk.1.2⟩⟩⟩⟩⟩⟩))⟩
              have n2_ : Aside0 (Kd.R (Kd.int .i64) 3 (((w110.setCell ⟨gb356, 0, none⟩ (.bool true)).setCell ⟨gb356, 1, none⟩ (.int .i64 t352)).setCell ⟨gb356, 2, none⟩ (.slice Ao115 t353.length co115)) w.heap.size (fun k_ => some k_ ≠ (.slice Ao13 t303.length co13 : Value).ownBlock ∧ some k_ ≠ (.slice Ao21 t315.length co21 : Value).ownBlock ∧ some k_ ≠ (.slice Ao24 t320.length co24 : Value).ownBlock ∧ some k_ ≠ (.slice Ao29 y348.length co29 : Value).ownBlock ∧ some k_ ≠ (.slice Ao115 t353.length co115 : Value).ownBlock) (.slice Ao16 t309.length co16) t309) := ⟨by (with_reducible repeat (first | apply Kd.R_alloc | apply Kd.R_drewN | apply Kd.R_drew)); exact Kd.R_mono (Kd.R_far (p := ⟨gb356, 2, none⟩) (Kd.R_far (p := ⟨gb356, 1, none⟩) (Kd.R_far (p := ⟨gb356, 0, none⟩) (Kd.R_types HO_313002.out BK356.out (by decide)) (fun _ hk => hk.2) (.bool true)) (fun _ hk => hk.2) (.int .i64 t352)) (fun _ hk => hk.2) (.slice Ao115 t353.length co115)) (fun _ hk => by first | exact ⟨hk.1.1.1, ⟨hk.1.1.2.1, ⟨hk.1.1.2.2.1, ⟨hk.1.1.2.2.2, hk.1.2⟩⟩⟩⟩ | (simp only [own_sl_] at hk ⊢; exact ⟨hk.1.1.1, ⟨hk.1.1.2.1, ⟨hk.1.1.2.2.1, ⟨hk.1.1.2.2.2, hk.1.2⟩⟩⟩⟩))⟩
              have n3_ : Aside0 (Kd.R (Kd.int .i64) 3 (((w110.setCell ⟨gb356, 0, none⟩ (.bool true)).setCell ⟨gb356, 1, none⟩ (.int .i64 t352)).setCell ⟨gb356, 2, none⟩ (.slice Ao115 t353.length co115)) w.heap.size (fun k_ => some k_ ≠ (.slice Ao13 t303.length co13 : Value).ownBlock ∧ some k_ ≠ (.slice Ao16 t309.length co16 : Value).ownBlock ∧ some k_ ≠ (.slice Ao24 t320.length co24 : Value).ownBlock ∧ some k_ ≠ (.slice Ao29 y348.length co29 : Value).ownBlock ∧ some k_ ≠ (.slice Ao115 t353.length co115 : Value).ownBlock) (.slice Ao21 t315.length co21) t315) := ⟨by (with_reducible repeat (first | apply Kd.R_alloc | apply Kd.R_drewN | apply Kd.R_drew)); exact Kd.R_mono (Kd.R_far (p := ⟨gb356, 2, none⟩) (Kd.R_far (p := ⟨gb356, 1, none⟩) (Kd.R_far (p := ⟨gb356, 0, none⟩) (Kd.R_types HO_319002.out BK356.out (by decide)) (fun _ hk => hk.2) (.bool true)) (fun _ hk => hk.2) (.int .i64 t352)) (fun _ hk => hk.2) (.slice Ao115 t353.length co115)) (fun _ hk => by first | exact ⟨hk.1.1.1, ⟨hk.1.1.2.1, ⟨hk.1.1.2.2.1, ⟨hk.1.1.2.2.2, hk.1.2⟩⟩⟩⟩ | (simp only [own_sl_] at hk ⊢; exact ⟨hk.1.1.1, ⟨hk.1.1.2.1, ⟨hk.1.1.2.2.1, ⟨hk.1.1.2.2.2, hk.1.2⟩⟩⟩⟩))⟩
              have n4_ : Aside0 (Kd.R (Kd.int .i64) 3 (((w110.setCell ⟨gb356, 0, none⟩ (.bool true)).setCell ⟨gb356, 1, none⟩ (.int .i64 t352)).setCell ⟨gb356, 2, none⟩ (.slice Ao115 t353.length co115)) w.heap.size (fun k_ => some k_ ≠ (.slice Ao13 t303.length co13 : Value).ownBlock ∧ some k_ ≠ (.slice Ao16 t309.length co16 : Value).ownBlock ∧ some k_ ≠ (.slice Ao21 t315.length co21 : Value).ownBlock ∧ some k_ ≠ (.slice Ao29 y348.length co29 : Value).ownBlock ∧ some k_ ≠ (.slice Ao115 t353.length co115 : Value).ownBlock) (.slice Ao24 t320.length co24) t320) := ⟨by (with_reducible repeat (first | apply Kd.R_alloc | apply Kd.R_drewN | apply Kd.R_drew)); exact Kd.R_mono (Kd.R_far (p := ⟨gb356, 2, none⟩) (Kd.R_far (p := ⟨gb356, 1, none⟩) (Kd.R_far (p := ⟨gb356, 0, none⟩) (Kd.R_types HO_330000.out BK356.out (by decide)) (fun _ hk => hk.2) (.bool true)) (fun _ hk => hk.2) (.int .i64 t352)) (fun _ hk => hk.2) (.slice Ao115 t353.length co115)) (fun _ hk => by first | exact ⟨hk.1.1.1, ⟨hk.1.1.2.1, ⟨hk.1.1.2.2.1, ⟨hk.1.1.2.2.2, hk.1.2⟩⟩⟩⟩ | (simp only [own_sl_] at hk ⊢; exact ⟨hk.1.1.1, ⟨hk.1.1.2.1, ⟨hk.1.1.2.2.1, ⟨hk.1.1.2.2.2, hk.1.2⟩⟩⟩⟩))⟩
              have n5_ : Aside0 (Kd.S k35 35 (((w110.setCell ⟨gb356, 0, none⟩ (.bool true)).setCell ⟨gb356, 1, none⟩ (.int .i64 t352)).setCell ⟨gb356, 2, none⟩ (.slice Ao115 t353.length co115)) w.heap.size (fun k_ => some k_ ≠ (.slice Ao13 t303.length co13 : Value).ownBlock ∧ some k_ ≠ (.slice Ao15 t306.length co15 : Value).ownBlock ∧ some k_ ≠ (.slice Ao16 t309.length co16 : Value).ownBlock ∧ some k_ ≠ (.slice Ao21 t315.length co21 : Value).ownBlock ∧ some k_ ≠ (.slice Ao24 t320.length co24 : Value).ownBlock ∧ some k_ ≠ (.slice Ao29 y348.length co29 : Value).ownBlock ∧ some k_ ≠ (.slice Ao115 t353.length co115 : Value).ownBlock) (.slice Ao28 y345.length co28) y345) := ⟨by (with_reducible repeat (first | apply Kd.S_alloc | apply Kd.S_drewN | apply Kd.S_drew)); exact Kd.S_mono (Kd.S_far (p := ⟨gb356, 2, none⟩) (Kd.S_far (p := ⟨gb356, 1, none⟩) (Kd.S_far (p := ⟨gb356, 0, none⟩) (Kd.S_types HO347.out BK356.out (by decide)) (fun _ hk => hk.2) (.bool true)) (fun _ hk => hk.2) (.int .i64 t352)) (fun _ hk => hk.2) (.slice Ao115 t353.length co115)) (fun _ hk => by first | exact ⟨hk.1.1.1, ⟨hk.1.1.2.1, ⟨hk.1.1.2.2.1, ⟨hk.1.1.2.2.2.1, ⟨hk.1.1.2.2.2.2.1, ⟨hk.1.1.2.2.2.2.2, hk.1.2⟩⟩⟩⟩⟩⟩ | (simp only [own_sl_] at hk ⊢; exact ⟨hk.1.1.1, ⟨hk.1.1.2.1, ⟨hk.1.1.2.2.1, ⟨hk.1.1.2.2.2.1, ⟨hk.1.1.2.2.2.2.1, ⟨hk.1.1.2.2.2.2.2, hk.1.2⟩⟩⟩⟩⟩⟩))⟩
              have n6_ : Aside0 (Kd.R (Kd.int .i64) 3 (((w110.setCell ⟨gb356, 0, none⟩ (.bool true)).setCell ⟨gb356, 1, none⟩ (.int .i64 t352)).setCell ⟨gb356, 2, none⟩ (.slice Ao115 t353.length co115)) w.heap.size (fun k_ => some k_ ≠ (.slice Ao13 t303.length co13 : Value).ownBlock ∧ some k_ ≠ (.slice Ao16 t309.length co16 : Value).ownBlock ∧ some k_ ≠ (.slice Ao21 t315.length co21 : Value).ownBlock ∧ some k_ ≠ (.slice Ao24 t320.length co24 : Value).ownBlock ∧ some k_ ≠ (.slice Ao115 t353.length co115 : Value).ownBlock) (.slice Ao29 y348.length co29) y348) := ⟨by (with_reducible repeat (first | apply Kd.R_alloc | apply Kd.R_drewN | apply Kd.R_drew)); exact Kd.R_mono (Kd.R_far (p := ⟨gb356, 2, none⟩) (Kd.R_far (p := ⟨gb356, 1, none⟩) (Kd.R_far (p := ⟨gb356, 0, none⟩) (Kd.R_types HO350.out BK356.out (by decide)) (fun _ hk => hk.2) (.bool true)) (fun _ hk => hk.2) (.int .i64 t352)) (fun _ hk => hk.2) (.slice Ao115 t353.length co115)) (fun _ hk => by first | exact ⟨hk.1.1.1, ⟨hk.1.1.2.1, ⟨hk.1.1.2.2.1, ⟨hk.1.1.2.2.2, hk.1.2⟩⟩⟩⟩ | (simp only [own_sl_] at hk ⊢; exact ⟨hk.1.1.1, ⟨hk.1.1.2.1, ⟨hk.1.1.2.2.1, ⟨hk.1.1.2.2.2, hk.1.2⟩⟩⟩⟩))⟩
              have n7_ : Aside0 (Kd.R (Kd.int .i64) 3 (((w110.setCell ⟨gb356, 0, none⟩ (.bool true)).setCell ⟨gb356, 1, none⟩ (.int .i64 t352)).setCell ⟨gb356, 2, none⟩ (.slice Ao115 t353.length co115)) w.heap.size (fun k_ => some k_ ≠ (.slice Ao13 t303.length co13 : Value).ownBlock ∧ some k_ ≠ (.slice Ao16 t309.length co16 : Value).ownBlock ∧ some k_ ≠ (.slice Ao21 t315.length co21 : Value).ownBlock ∧ some k_ ≠ (.slice Ao24 t320.length co24 : Value).ownBlock ∧ some k_ ≠ (.slice Ao29 y348.length co29 : Value).ownBlock) (.slice Ao115 t353.length co115) t353) := ⟨by (with_reducible repeat (first | apply Kd.R_alloc | apply Kd.R_drewN | apply Kd.R_drew)); exact Kd.R_mono (Kd.R_far (p := ⟨gb356, 2, none⟩) (Kd.R_far (p := ⟨gb356, 1, none⟩) (Kd.R_far (p := ⟨gb356, 0, none⟩) (Kd.R_types HO355.out BK356.out (by decide)) (fun _ hk => hk.2) (.bool true)) (fun _ hk => hk.2) (.int .i64 t352)) (fun _ hk => hk.2) (.slice Ao115 t353.length co115)) (fun _ hk => by first | exact ⟨hk.1.1.1.1.1.2, ⟨hk.1.1.1.1.2, ⟨hk.1.1.1.2, ⟨hk.1.1.2, hk.1.2⟩⟩⟩⟩ | (simp only [own_sl_] at hk ⊢; exact ⟨hk.1.1.1.1.1.2, ⟨hk.1.1.1.1.2, ⟨hk.1.1.1.2, ⟨hk.1.1.2, hk.1.2⟩⟩⟩⟩))⟩
              have n8_ : Aside0 ((((w110.setCell ⟨gb356, 0, none⟩ (.bool true)).setCell ⟨gb356, 1, none⟩ (.int .i64 t352)).setCell ⟨gb356, 2, none⟩ (.slice Ao115 t353.length co115)).heap[gb312]? = some (.cells #[.slice Ao13 t303.length co13, .slice Ao15 t306.length co15, .slice Ao16 t309.length co16] 26 (0, 0))) := ⟨by (with_reducible repeat (first | refine blk_drewN ?_ _ | refine blk_drew ?_ | refine blk_alloc ?_ _)); refine blk_far ?_ NB312_356.out _; (with_reducible repeat (first | refine blk_drewN ?_ _ | refine blk_drew ?_ | refine blk_alloc ?_ _)); refine blk_far ?_ NB312_356.out _; (with_reducible repeat (first | refine blk_drewN ?_ _ | refine blk_drew ?_ | refine blk_alloc ?_ _)); refine blk_far ?_ NB312_356.out _; (with_reducible repeat (first | refine blk_drewN ?_ _ | refine blk_drew ?_ | refine blk_alloc ?_ _)); exact BK312.out⟩
              have n9_ : Aside0 ((((w110.setCell ⟨gb356, 0, none⟩ (.bool true)).setCell ⟨gb356, 1, none⟩ (.int .i64 t352)).setCell ⟨gb356, 2, none⟩ (.slice Ao115 t353.length co115)).heap[gb318]? = some (.cells #[.bool true, .int .i64 t314, .slice Ao21 t315.length co21] 41 (0, 0))) := ⟨by (with_reducible repeat (first | refine blk_drewN ?_ _ | refine blk_drew ?_ | refine blk_alloc ?_ _)); refine blk_far ?_ NB318_356.out _; (with_reducible repeat (first | refine blk_drewN ?_ _ | refine blk_drew ?_ | refine blk_alloc ?_ _)); refine blk_far ?_ NB318_356.out _; (with_reducible repeat (first | refine blk_drewN ?_ _ | refine blk_drew ?_ | refine blk_alloc ?_ _)); refine blk_far ?_ NB318_356.out _; (with_reducible repeat (first | refine blk_drewN ?_ _ | refine blk_drew ?_ | refine blk_alloc ?_ _)); exact BK318.out⟩
              have n10_ : Aside0 ((((w110.setCell ⟨gb356, 0, none⟩ (.bool true)).setCell ⟨gb356, 1, none⟩ (.int .i64 t352)).setCell ⟨gb356, 2, none⟩ (.slice Ao115 t353.length co115)).heap[gb329]? = some (.cells #[.slice Ao24 t320.length co24, .slice Ao28 y345.length co28, .slice Ao29 y348.length co29] 26 (0, 0))) := ⟨by (with_reducible repeat (first | refine blk_drewN ?_ _ | refine blk_drew ?_ | refine blk_alloc ?_ _)); refine blk_far ?_ NB329_356.out _; (with_reducible repeat (first | refine blk_drewN ?_ _ | refine blk_drew ?_ | refine blk_alloc ?_ _)); refine blk_far ?_ NB329_356.out _; (with_reducible repeat (first | refine blk_drewN ?_ _ | refine blk_drew ?_ | refine blk_alloc ?_ _)); refine blk_far ?_ NB329_356.out _; (with_reducible repeat (first | refine blk_drewN ?_ _ | refine blk_drew ?_ | refine blk_alloc ?_ _)); exact BK329.out⟩
              have n11_ : Aside0 ((((w110.setCell ⟨gb356, 0, none⟩ (.bool true)).setCell ⟨gb356, 1, none⟩ (.int .i64 t352)).setCell ⟨gb356, 2, none⟩ (.slice Ao115 t353.length co115)).heap[gb356]? = some (.cells #[.bool true, .int .i64 t352, .slice Ao115 t353.length co115] 41 (0, 0))) := ⟨by (with_reducible repeat (first | refine blk_drewN ?_ _ | refine blk_drew ?_ | refine blk_alloc ?_ _)); refine blk_put (cs := #[.bool true, .int .i64 t352, .slice none 0 0]) ?_ 2 _ rfl; (with_reducible repeat (first | refine blk_drewN ?_ _ | refine blk_drew ?_ | refine blk_alloc ?_ _)); refine blk_put (cs := #[.bool true, .int .i64 0, .slice none 0 0]) ?_ 1 _ rfl; (with_reducible repeat (first | refine blk_drewN ?_ _ | refine blk_drew ?_ | refine blk_alloc ?_ _)); refine blk_put (cs := #[.bool false, .int .i64 0, .slice none 0 0]) ?_ 0 _ rfl; (with_reducible repeat (first | refine blk_drewN ?_ _ | refine blk_drew ?_ | refine blk_alloc ?_ _)); exact BK356.out⟩
              have n12_ : Aside0 (Below w.heap.size w (((w110.setCell ⟨gb356, 0, none⟩ (.bool true)).setCell ⟨gb356, 1, none⟩ (.int .i64 t352)).setCell ⟨gb356, 2, none⟩ (.slice Ao115 t353.length co115))) := ⟨by repeat (first | (with_reducible first | exact HB.out | apply below_alloc | apply pw_below_drewN | apply below_drew1 | refine below_set ?_ GE312.out | refine below_set ?_ GE318.out | refine below_set ?_ GE329.out | refine below_set ?_ GE356.out) | exact HB.out)⟩
              (try clear HO_313000)
              (try clear HO_313001)
              (try clear HO_313002)
              (try clear HO_319002)
              (try clear HO_330000)
              (try clear HO347)
              (try clear HO350)
              (try clear HO355)
              (try clear BK312)
              (try clear BK318)
              (try clear BK329)
              (try clear BK356)
              (try clear HB)
              generalize (((w110.setCell ⟨gb356, 0, none⟩ (.bool true)).setCell ⟨gb356, 1, none⟩ (.int .i64 t352)).setCell ⟨gb356, 2, none⟩ (.slice Ao115 t353.length co115)) = w116 at n0_ n1_ n2_ n3_ n4_ n5_ n6_ n7_ n8_ n9_ n10_ n11_ n12_ ⊢
              have HO_313000 := n0_
              have HO_313001 := n1_
              have HO_313002 := n2_
              have HO_319002 := n3_
              have HO_330000 := n4_
              have HO347 := n5_
              have HO350 := n6_
              have HO355 := n7_
              have BK312 := n8_
              have BK318 := n9_
              have BK329 := n10_
              have BK356 := n11_
              have HB := n12_
              clear n0_ n1_ n2_ n3_ n4_ n5_ n6_ n7_ n8_ n9_ n10_ n11_ n12_
              have n0_ := Aside0.mk (Kd.R_drew HO_313000.out)
              have n1_ := Aside0.mk (Kd.S_drew HO_313001.out)
              have n2_ := Aside0.mk (Kd.R_drew HO_313002.out)
              have n3_ := Aside0.mk (Kd.R_drew HO_319002.out)
              have n4_ := Aside0.mk (Kd.R_drew HO_330000.out)
              have n5_ := Aside0.mk (Kd.S_drew HO347.out)
              have n6_ := Aside0.mk (Kd.R_drew HO350.out)
              have n7_ := Aside0.mk (Kd.R_drew HO355.out)
              have n8_ := Aside0.mk (blk_drew BK312.out)
              have n9_ := Aside0.mk (blk_drew BK318.out)
              have n10_ := Aside0.mk (blk_drew BK329.out)
              have n11_ := Aside0.mk (blk_drew BK356.out)
              have n12_ := Aside0.mk (below_drew1 HB.out)
              clear HO_313000
              clear HO_313001
              clear HO_313002
              clear HO_319002
              clear HO_330000
              clear HO347
              clear HO350
              clear HO355
              clear BK312
              clear BK318
              clear BK329
              clear BK356
              clear HB
              have HO_313000 := n0_
              have HO_313001 := n1_
              have HO_313002 := n2_
              have HO_319002 := n3_
              have HO_330000 := n4_
              have HO347 := n5_
              have HO350 := n6_
              have HO355 := n7_
              have BK312 := n8_
              have BK318 := n9_
              have BK329 := n10_
              have BK356 := n11_
              have HB := n12_
              clear n0_ n1_ n2_ n3_ n4_ n5_ n6_ n7_ n8_ n9_ n10_ n11_ n12_
              refine start_ (n := 18) (S := fun w' => w'.cell? ⟨gb356, 0, none⟩ = some (.bool true) ∧ w'.cell? ⟨gb356, 1, none⟩ = some (.int .i64 t352) ∧ w'.cell? ⟨gb356, 2, none⟩ = some (.slice Ao115 t353.length co115) ∧ w'.cell? ⟨gb318, 0, none⟩ = some (.bool true) ∧ w'.cell? ⟨gb318, 1, none⟩ = some (.int .i64 t314) ∧ w'.cell? ⟨gb318, 2, none⟩ = some (.slice Ao21 t315.length co21) ∧ w'.cell? ⟨gb329, 0, none⟩ = some (.slice Ao24 t320.length co24) ∧ w'.cell? ⟨gb329, 1, none⟩ = some (.slice Ao28 y345.length co28) ∧ w'.cell? ⟨gb329, 2, none⟩ = some (.slice Ao29 y348.length co29)) (ds := []) #[false, false, false, false, false, false, false, false, false, false, false, false, false, false, false, false, false, false] (by kernel_rfl) rfl rfl ⟨(blk_cell BK356.out 0).trans rfl, (blk_cell BK356.out 1).trans rfl, (blk_cell BK356.out 2).trans rfl, (blk_cell BK318.out 0).trans rfl, (blk_cell BK318.out 1).trans rfl, (blk_cell BK318.out 2).trans rfl, (blk_cell BK329.out 0).trans rfl, (blk_cell BK329.out 1).trans rfl, (blk_cell BK329.out 2).trans rfl⟩ (fun hHeld => ?_); refine with_tabW laws_FnEasier.tab13 laws_FnEasier.bits13 (fun HT_ HW_ => ?_)
              generalize w116.drew = w117 at HO_313000 HO_313001 HO_313002 HO_319002 HO_330000 HO347 HO350 HO355 BK312 BK318 BK329 BK356 HB hHeld ⊢
              refine pure_ (i := 0) (N := some 69) (v := ?_) (a' := ?_) #[true, false, false, false, false, false, false, false, false, false, false, false, false, false, false, false, false, false] rfl rfl (any_of HT_.out (by kernel_rfl)) (fun _ _ _ h => h) (Or.inl ⟨by rfl, ?_⟩) ?_ ?_
              rotate_left
              ·intro w'
               go_simp
               with_reducible rfl
              rotate_left
              ·simp only [Act.put, List.setIfInBounds_toArray, List.set_cons_zero, List.set_cons_succ, i64_w, i32_w]
               rfl
              refine take_ (i := 1) (N := some 70) (v := ?_) (a' := ?_) #[true, true, false, false, false, false, false, false, false, false, false, false, false, false, false, false, false, false] rfl rfl (take_ofW HT_.out HW_.out (by kernel_rfl)) (fun _ _ _ h => h) (Or.inl ⟨by rfl, ?_⟩) hHeld ?_ ?_
              rotate_left
              ·rintro w' ⟨s0, s1, s2, s3, s4, s5, s6, s7, s8⟩
               go_simp
               with_reducible rfl
              rotate_left
              ·simp only [Act.put, List.setIfInBounds_toArray, List.set_cons_zero, List.set_cons_succ, i64_w, i32_w]
               rfl
              refine pure_ (i := 2) (N := some 71) (v := ?_) (a' := ?_) #[true, true, true, false, false, false, false, false, false, false, false, false, false, false, false, false, false, false] rfl rfl (any_of HT_.out (by kernel_rfl)) (fun _ _ _ h => h) (Or.inl ⟨by rfl, ?_⟩) ?_ ?_
              rotate_left
              ·intro w'
               go_simp
               with_reducible rfl
              rotate_left
              ·simp only [Act.put, List.setIfInBounds_toArray, List.set_cons_zero, List.set_cons_succ, i64_w, i32_w]
               rfl
              refine pure_ (i := 3) (N := some 72) (v := ?_) (a' := ?_) #[true, true, true, true, false, false, false, false, false, false, false, false, false, false, false, false, false, false] rfl rfl (any_of HT_.out (by kernel_rfl)) (fun _ _ _ h => h) (Or.inl ⟨by rfl, ?_⟩) ?_ ?_
              rotate_left
              ·intro w'
               go_simp
               with_reducible rfl
              rotate_left
              ·simp only [Act.put, List.setIfInBounds_toArray, List.set_cons_zero, List.set_cons_succ, i64_w, i32_w]
               rfl
              refine pure_ (i := 5) (N := some 74) (v := ?_) (a' := ?_) #[true, true, true, true, false, true, false, false, false, false, false, false, false, false, false, false, false, false] rfl rfl (any_of HT_.out (by kernel_rfl)) (fun _ _ _ h => h) (Or.inl ⟨by rfl, ?_⟩) ?_ ?_
              rotate_left
              ·intro w'
               go_simp
               with_reducible rfl
              rotate_left
              ·simp only [Act.put, List.setIfInBounds_toArray, List.set_cons_zero, List.set_cons_succ, i64_w, i32_w]
               rfl
              refine take_ (i := 4) (N := some 73) (v := ?_) (a' := ?_) #[true, true, true, true, true, true, false, false, false, false, false, false, false, false, false, false, false, false] rfl rfl (take_ofW HT_.out HW_.out (by kernel_rfl)) (fun _ _ _ h => h) (Or.inl ⟨by rfl, ?_⟩) hHeld ?_ ?_
              rotate_left
              ·rintro w' ⟨s0, s1, s2, s3, s4, s5, s6, s7, s8⟩
               go_simp
               with_reducible rfl
              rotate_left
              ·simp only [Act.put, List.setIfInBounds_toArray, List.set_cons_zero, List.set_cons_succ, i64_w, i32_w]
               rfl
              refine take_ (i := 6) (N := some 75) (v := ?_) (a' := ?_) #[true, true, true, true, true, true, true, false, false, false, false, false, false, false, false, false, false, false] rfl rfl (take_ofW HT_.out HW_.out (by kernel_rfl)) (fun _ _ _ h => h) (Or.inl ⟨by rfl, ?_⟩) hHeld ?_ ?_
              rotate_left
              ·rintro w' ⟨s0, s1, s2, s3, s4, s5, s6, s7, s8⟩
               go_simp
               with_reducible rfl
              rotate_left
              ·simp only [Act.put, List.setIfInBounds_toArray, List.set_cons_zero, List.set_cons_succ, i64_w, i32_w]
               rfl
              refine pure_ (i := 7) (N := some 76) (v := ?_) (a' := ?_) #[true, true, true, true, true, true, true, true, false, false, false, false, false, false, false, false, false, false] rfl rfl (any_of HT_.out (by kernel_rfl)) (fun _ _ _ h => h) (Or.inl ⟨by rfl, ?_⟩) ?_ ?_
              rotate_left
              ·intro w'
               go_simp
               with_reducible rfl
              rotate_left
              ·simp only [Act.put, List.setIfInBounds_toArray, List.set_cons_zero, List.set_cons_succ, i64_w, i32_w]
               rfl
              refine pure_ (i := 8) (N := some 77) (v := ?_) (a' := ?_) #[true, true, true, true, true, true, true, true, true, false, false, false, false, false, false, false, false, false] rfl rfl (any_of HT_.out (by kernel_rfl)) (fun _ _ _ h => h) (Or.inl ⟨by rfl, ?_⟩) ?_ ?_
              rotate_left
              ·intro w'
               go_simp
               with_reducible rfl
              rotate_left
              ·simp only [Act.put, List.setIfInBounds_toArray, List.set_cons_zero, List.set_cons_succ, i64_w, i32_w]
               rfl
              refine pure_ (i := 9) (N := some 78) (v := ?_) (a' := ?_) #[true, true, true, true, true, true, true, true, true, true, false, false, false, false, false, false, false, false] rfl rfl (any_of HT_.out (by kernel_rfl)) (fun _ _ _ h => h) (Or.inl ⟨by rfl, ?_⟩) ?_ ?_
              rotate_left
              ·intro w'
               go_simp
               with_reducible rfl
              rotate_left
              ·simp only [Act.put, List.setIfInBounds_toArray, List.set_cons_zero, List.set_cons_succ, i64_w, i32_w]
               rfl
              refine pure_ (i := 10) (N := some 79) (v := ?_) (a' := ?_) #[true, true, true, true, true, true, true, true, true, true, true, false, false, false, false, false, false, false] rfl rfl (any_of HT_.out (by kernel_rfl)) (fun _ _ _ h => h) (Or.inl ⟨by rfl, ?_⟩) ?_ ?_
              rotate_left
              ·intro w'
               go_simp
               with_reducible rfl
              rotate_left
              ·simp only [Act.put, List.setIfInBounds_toArray, List.set_cons_zero, List.set_cons_succ, i64_w, i32_w]
               rfl
              refine take_ (i := 11) (N := some 80) (v := ?_) (a' := ?_) #[true, true, true, true, true, true, true, true, true, true, true, true, false, false, false, false, false, false] rfl rfl (take_ofW HT_.out HW_.out (by kernel_rfl)) (fun _ _ _ h => h) (Or.inl ⟨by rfl, ?_⟩) hHeld ?_ ?_
              rotate_left
              ·rintro w' ⟨s0, s1, s2, s3, s4, s5, s6, s7, s8⟩
               go_simp
               with_reducible rfl
              rotate_left
              ·simp only [Act.put, List.setIfInBounds_toArray, List.set_cons_zero, List.set_cons_succ, i64_w, i32_w]
               rfl
              refine take_ (i := 12) (N := some 81) (v := ?_) (a' := ?_) #[true, true, true, true, true, true, true, true, true, true, true, true, true, false, false, false, false, false] rfl rfl (take_ofW HT_.out HW_.out (by kernel_rfl)) (fun _ _ _ h => h) (Or.inl ⟨by rfl, ?_⟩) hHeld ?_ ?_
              rotate_left
              ·rintro w' ⟨s0, s1, s2, s3, s4, s5, s6, s7, s8⟩
               go_simp
               with_reducible rfl
              rotate_left
              ·simp only [Act.put, List.setIfInBounds_toArray, List.set_cons_zero, List.set_cons_succ, i64_w, i32_w]
               rfl
              refine one_ (i := 13) (N := some 82) #[true, true, true, true, true, true, true, true, true, true, true, true, true, true, false, false, false, false] rfl rfl (one_of HT_.out (by kernel_rfl)) (by decide) (fun K hK => ?_)
              refine goes_ Try.func27 (by kernel_rfl) rfl #[.agg #[.slice Ao24 t320.length co24, .slice Ao28 y345.length co28, .slice Ao29 y348.length co29]] (by rfl) rfl rfl (by (try simp only [List.map_toArray, List.map_cons, List.map_nil]); first | done | rfl | (simp only [List.length_drop, List.length_take]; rfl)) ?_
              with_reducible refine (spec_Solve.calls kj9 _ _ t320 _ _ y345 _ _ y348 t357 t358 t359 _ ?side1 ?side2 ?side3 ?side4 ?side5 ?side6 A101.out).mono ?_
              (case side1 => repeat (first | exact (Kd.R_reads' HO_330000.out).2.2 | (with_reducible refine Kd.C_alloc ?_ _) | (with_reducible refine Kd.C_drewN ?_ _) | (with_reducible refine Kd.C_drew ?_)))
              (case side2 => exact (Kd.R_reads' HO_330000.out).2.1)
              (case side3 => repeat (first | exact (Kd.S_reads' HO347.out).2.2 | (with_reducible refine Kd.C_alloc ?_ _) | (with_reducible refine Kd.C_drewN ?_ _) | (with_reducible refine Kd.C_drew ?_)))
              (case side4 => exact (Kd.S_reads' HO347.out).2.1)
              (case side5 => repeat (first | exact (Kd.R_reads' HO350.out).2.2 | (with_reducible refine Kd.C_alloc ?_ _) | (with_reducible refine Kd.C_drewN ?_ _) | (with_reducible refine Kd.C_drew ?_)))
              (case side6 => exact (Kd.R_reads' HO350.out).2.1)
              rintro e w118 ⟨v360, rfl, ho0, hb⟩
              refine ⟨_, rfl, ?_⟩
              have n0_ := Aside0.mk (Kd.R_elder' (by (with_reducible repeat (first | apply Kd.R_alloc | apply Kd.R_drewN | apply Kd.R_drew)); exact HO_313000.out) (Kd.R_base ho0) hb)
              have n1_ := Aside0.mk (Kd.S_elder' (by (with_reducible repeat (first | apply Kd.S_alloc | apply Kd.S_drewN | apply Kd.S_drew)); exact HO_313001.out) (Kd.R_base ho0) hb)
              have n2_ := Aside0.mk (Kd.R_elder' (by (with_reducible repeat (first | apply Kd.R_alloc | apply Kd.R_drewN | apply Kd.R_drew)); exact HO_313002.out) (Kd.R_base ho0) hb)
              have n3_ := Aside0.mk (Kd.R_elder' (by (with_reducible repeat (first | apply Kd.R_alloc | apply Kd.R_drewN | apply Kd.R_drew)); exact HO_319002.out) (Kd.R_base ho0) hb)
              have n4_ := Aside0.mk (Kd.R_elder' (by (with_reducible repeat (first | apply Kd.R_alloc | apply Kd.R_drewN | apply Kd.R_drew)); exact HO_330000.out) (Kd.R_base ho0) hb)
              have n5_ := Aside0.mk (Kd.S_elder' (by (with_reducible repeat (first | apply Kd.S_alloc | apply Kd.S_drewN | apply Kd.S_drew)); exact HO347.out) (Kd.R_base ho0) hb)
              have n6_ := Aside0.mk (Kd.R_elder' (by (with_reducible repeat (first | apply Kd.R_alloc | apply Kd.R_drewN | apply Kd.R_drew)); exact HO350.out) (Kd.R_base ho0) hb)
              have n7_ := Aside0.mk (Kd.R_elder' (by (with_reducible repeat (first | apply Kd.R_alloc | apply Kd.R_drewN | apply Kd.R_drew)); exact HO355.out) (Kd.R_base ho0) hb)
              have n8_ := Aside0.mk (Kd.R_lower (Kd.R_new' (Kd.R_new' (Kd.R_new' (Kd.R_new' (Kd.R_new' (Kd.R_new' ho0 (Kd.R_lt (by (with_reducible repeat (first | apply Kd.R_alloc | apply Kd.R_drewN | apply Kd.R_drew)); exact HO_313000.out))) (Kd.R_lt (by (with_reducible repeat (first | apply Kd.R_alloc | apply Kd.R_drewN | apply Kd.R_drew)); exact HO_313002.out))) (Kd.R_lt (by (with_reducible repeat (first | apply Kd.R_alloc | apply Kd.R_drewN | apply Kd.R_drew)); exact HO_319002.out))) (Kd.R_lt (by (with_reducible repeat (first | apply Kd.R_alloc | apply Kd.R_drewN | apply Kd.R_drew)); exact HO_330000.out))) (Kd.R_lt (by (with_reducible repeat (first | apply Kd.R_alloc | apply Kd.R_drewN | apply Kd.R_drew)); exact HO350.out))) (Kd.R_lt (by (with_reducible repeat (first | apply Kd.R_alloc | apply Kd.R_drewN | apply Kd.R_drew)); exact HO355.out))) (below_size (by repeat (first | (with_reducible first | exact HB.out | apply below_alloc | apply pw_below_drewN | apply below_drew1 | refine below_set ?_ GE312.out | refine below_set ?_ GE318.out | refine below_set ?_ GE329.out | refine below_set ?_ GE356.out) | exact HB.out))))
              have n9_ := Aside0.mk (blk_below (g := gb312) (o := .cells #[.slice Ao13 t303.length co13, .slice Ao15 t306.length co15, .slice Ao16 t309.length co16] 26 (0, 0)) (by (with_reducible repeat (first | refine blk_drewN ?_ _ | refine blk_drew ?_ | refine blk_alloc ?_ _)); exact BK312.out) hb)
              have n10_ := Aside0.mk (blk_below (g := gb318) (o := .cells #[.bool true, .int .i64 t314, .slice Ao21 t315.length co21] 41 (0, 0)) (by (with_reducible repeat (first | refine blk_drewN ?_ _ | refine blk_drew ?_ | refine blk_alloc ?_ _)); exact BK318.out) hb)
              have n11_ := Aside0.mk (blk_below (g := gb329) (o := .cells #[.slice Ao24 t320.length co24, .slice Ao28 y345.length co28, .slice Ao29 y348.length co29] 26 (0, 0)) (by (with_reducible repeat (first | refine blk_drewN ?_ _ | refine blk_drew ?_ | refine blk_alloc ?_ _)); exact BK329.out) hb)
              have n12_ := Aside0.mk (blk_below (g := gb356) (o := .cells #[.bool true, .int .i64 t352, .slice Ao115 t353.length co115] 41 (0, 0)) (by (with_reducible repeat (first | refine blk_drewN ?_ _ | refine blk_drew ?_ | refine blk_alloc ?_ _)); exact BK356.out) hb)
              have n13_ := Aside0.mk (below_step (by repeat (first | (with_reducible first | exact HB.out | apply below_alloc | apply pw_below_drewN | apply below_drew1 | refine below_set ?_ GE312.out | refine below_set ?_ GE318.out | refine below_set ?_ GE329.out | refine below_set ?_ GE356.out) | exact HB.out)) hb)
              clear HO_313000
              clear HO_313001
              clear HO_313002
              clear HO_319002
              clear HO_330000
              clear HO347
              clear HO350
              clear HO355
              clear BK312
              clear BK318
              clear BK329
              clear BK356
              clear HB
              have HO_313000 := n0_
              have HO_313001 := n1_
              have HO_313002 := n2_
              have HO_319002 := n3_
              have HO_330000 := n4_
              have HO347 := n5_
              have HO350 := n6_
              have HO355 := n7_
              have HO361 := n8_
              have BK312 := n9_
              have BK318 := n10_
              have BK329 := n11_
              have BK356 := n12_
              have HB := n13_
              clear n0_ n1_ n2_ n3_ n4_ n5_ n6_ n7_ n8_ n9_ n10_ n11_ n12_ n13_
              (try clear hb)
              (try clear hb2)
              (try clear hk)
              (try clear hi)
              (try clear ho0)
              refine hK.out _ _ ⟨(blk_cell BK356.out 0).trans rfl, (blk_cell BK356.out 1).trans rfl, (blk_cell BK356.out 2).trans rfl, (blk_cell BK318.out 0).trans rfl, (blk_cell BK318.out 1).trans rfl, (blk_cell BK318.out 2).trans rfl, (blk_cell BK329.out 0).trans rfl, (blk_cell BK329.out 1).trans rfl, (blk_cell BK329.out 2).trans rfl⟩ (fun hHeld => ?_)
              clear hK K
              refine norm_ (a' := ?_) ?_ ?_
              rotate_left
              ·show Act.put _ (some 82) _ = _
               simp only [Act.put, List.setIfInBounds_toArray, List.set_cons_zero, List.set_cons_succ, i64_w, i32_w]
               rfl
              refine pure_ (i := 14) (N := some 83) (v := ?_) (a' := ?_) #[true, true, true, true, true, true, true, true, true, true, true, true, true, true, true, false, false, false] rfl rfl (any_of HT_.out (by kernel_rfl)) (fun _ _ _ h => h) (Or.inl ⟨by rfl, ?_⟩) ?_ ?_
              rotate_left
              ·intro w'
               go_simp
               with_reducible rfl
              rotate_left
              ·simp only [Act.put, List.setIfInBounds_toArray, List.set_cons_zero, List.set_cons_succ, i64_w, i32_w]
               rfl
              refine pure_ (i := 15) (N := some 84) (v := ?_) (a' := ?_) #[true, true, true, true, true, true, true, true, true, true, true, true, true, true, true, true, false, false] rfl rfl (any_of HT_.out (by kernel_rfl)) (fun _ _ _ h => h) (Or.inl ⟨by rfl, ?_⟩) ?_ ?_
              rotate_left
              ·intro w'
               go_simp
               with_reducible rfl
              rotate_left
              ·simp only [Act.put, List.setIfInBounds_toArray, List.set_cons_zero, List.set_cons_succ, i64_w, i32_w]
               rfl
              refine pure_ (i := 16) (N := some 85) (v := ?_) (a' := ?_) #[true, true, true, true, true, true, true, true, true, true, true, true, true, true, true, true, true, false] rfl rfl (any_of HT_.out (by kernel_rfl)) (fun _ _ _ h => h) (Or.inl ⟨by rfl, ?_⟩) ?_ ?_
              rotate_left
              ·intro w'
               go_simp
               with_reducible rfl
              rotate_left
              ·simp only [Act.put, List.setIfInBounds_toArray, List.set_cons_zero, List.set_cons_succ, i64_w, i32_w]
               rfl
              refine pure_ (i := 17) (N := some 4) (v := ?_) (a' := ?_) #[true, true, true, true, true, true, true, true, true, true, true, true, true, true, true, true, true, true] rfl rfl (any_of HT_.out (by kernel_rfl)) (fun _ _ _ h => h) (Or.inl ⟨by rfl, ?_⟩) ?_ ?_
              rotate_left
              ·intro w'
               go_simp
               with_reducible rfl
              rotate_left
              ·simp only [Act.put, List.setIfInBounds_toArray, List.set_cons_zero, List.set_cons_succ, i64_w, i32_w]
               rfl
              refine done_ (done_of HT_.out (by kernel_rfl)) ?_
              try go_wp2
              go_ret
              exact ⟨by first | rfl | (simp [errW_none, errW_some] <;> rfl) | (simp only [← hji92, ← hji95]; first | rfl | (simp [errW_none, errW_some] <;> rfl)) | (simp [*, errW_none, errW_some] <;> rfl), by repeat (first | (with_reducible first | exact HB.out | apply below_alloc | apply pw_below_drewN | apply below_drew1 | refine below_set ?_ GE312.out | refine below_set ?_ GE318.out | refine below_set ?_ GE329.out | refine below_set ?_ GE356.out) | exact HB.out)⟩
             ·rw [if_neg c100] at H
              exact absurd (H.trans (congrArg some hT_.out)) (by simp)
            ·replace c99 := Bool.eq_false_iff.mpr c99
             subst c99
             have H1 : (some false) = some r := by rw [if_neg (show ¬ (false = true) by decide)] at H; exact H
             clear H
             have H := H1
             exact absurd (H.trans (congrArg some hT_.out)) (by simp)
           ·rw [if_neg c97] at H
            exact absurd H (by simp)
          ·rw [if_neg c96] at H
           exact absurd H (by simp)
         ·rw [if_neg c94] at H
          exact absurd H (by simp)
        ·rw [if_neg c93] at H
         exact absurd H (by simp)
    ·replace c8 := Bool.eq_false_iff.mpr c8
     subst c8
     have H1 : ((spec_Safe.f kj2 t303 t306 t309).bind fun t319 => (some (!t319))) = some r := by rw [if_neg (show ¬ (false = true) by decide)] at H; exact H
     clear H
     have H := H1
     clear H1
     replace H := Option.bind_eq_some_iff.mp H
     obtain ⟨t319, A1510, H⟩ := H
     replace H : (some (!t319)) = some r := H
     have A151 := Aside0.mk A1510
     clear A1510
     obtain rfl := Option.some.inj H
     go_wp2_with (first | ((with_reducible refine gate_callee (f := 14) rfl ?_); refine goesL_ (some 18) rfl rfl Try.func14 (by kernel_rfl) rfl #[.slice A0 l0.length c0] rfl (by (try simp only [List.map_toArray, List.map_cons, List.map_nil]); first | done | rfl | (simp only [List.length_drop, List.length_take]; rfl)) ?_; (with_reducible refine (spec_States.calls kj2 _ _ l0 t303 t306 t309 _ ?side1 ?side2 A6.out).mono ?_); (case side1 => repeat (first | exact (Kd.C_below HR0.out HB.out) | (with_reducible refine Kd.C_alloc ?_ _) | (with_reducible refine Kd.C_drewN ?_ _) | (with_reducible refine Kd.C_drew ?_))); (case side2 => exact HC0.out); rintro e w152 ⟨v304, v307, v310, rfl, ho0, ho1, ho2, hb⟩; refine ⟨_, rfl, ?_⟩; have n0_ := Aside0.mk (Kd.R_lower ho0 (below_size (by repeat (first | (with_reducible first | exact HB.out | apply below_alloc | apply pw_below_drewN | apply below_drew1) | exact HB.out)))); have n1_ := Aside0.mk (Kd.S_lower ho1 (below_size (by repeat (first | (with_reducible first | exact HB.out | apply below_alloc | apply pw_below_drewN | apply below_drew1) | exact HB.out)))); have n2_ := Aside0.mk (Kd.R_lower ho2 (below_size (by repeat (first | (with_reducible first | exact HB.out | apply below_alloc | apply pw_below_drewN | apply below_drew1) | exact HB.out)))); have n3_ := Aside0.mk (below_step (by repeat (first | (with_reducible first | exact HB.out | apply below_alloc | apply pw_below_drewN | apply below_drew1) | exact HB.out)) hb); clear HB; have HO305 := n0_; have HO308 := n1_; have HO311 := n2_; have HB := n3_; clear n0_ n1_ n2_ n3_; (try clear hb); (try clear hb2); (try clear hk); (try clear hi); (try clear ho0); (try clear ho1); (try clear ho2)) | ((with_reducible refine gate_dst (N := 5) rfl ?_); (try (refine gate_guard (by rfl) ?_; dsimp only)); refine box_event ?hg (N := 5) ?hd (cs := #[.slice none 0 0, .slice none 0 0, .slice none 0 0]) (t := 26) ?hr ?_; (case hd => rfl); (case hg => rfl); (case hr => first | (go_simp; done) | (go_simp; rfl)); intro gb312 hg w153 hbox hb; have n0_ := Aside0.mk (Kd.R_below (by (with_reducible repeat (first | apply Kd.R_alloc | apply Kd.R_drewN | apply Kd.R_drew)); exact HO305.out) hb); have n1_ := Aside0.mk (Kd.S_below (by (with_reducible repeat (first | apply Kd.S_alloc | apply Kd.S_drewN | apply Kd.S_drew)); exact HO308.out) hb); have n2_ := Aside0.mk (Kd.R_below (by (with_reducible repeat (first | apply Kd.R_alloc | apply Kd.R_drewN | apply Kd.R_drew)); exact HO311.out) hb); have n3_ := Aside0.mk (below_step (by repeat (first | (with_reducible first | exact HB.out | apply below_alloc | apply pw_below_drewN | apply below_drew1) | exact HB.out)) hb); have n4_ := Aside0.mk (hbox); have n5_ := Aside0.mk ((by rw [hg]; exact (below_size (by repeat (first | (with_reducible first | exact HB.out | apply below_alloc | apply pw_below_drewN | apply below_drew1) | exact HB.out))) : w.heap.size ≤ gb312)); have n6_ := Aside0.mk ((by rw [hg]; exact (below_size (by repeat (first | (with_reducible first | exact HB.out | apply below_alloc | apply pw_below_drewN | apply below_drew1) | exact HB.out))) : w.heap.size ≤ gb312)); clear HO305; clear HO308; clear HO311; clear HB; have HO305 := n0_; have HO308 := n1_; have HO311 := n2_; have HB := n3_; have BK312 := n4_; have GW312 := n5_; have GE312 := n6_; clear n0_ n1_ n2_ n3_ n4_ n5_ n6_; clear hb hbox hg; obtain ⟨Ao154, co154, eo154⟩ := Kd.R_slice HO305.out; subst eo154; have hcz155_0 : w153.cell? ⟨gb312, 0, none⟩ = some (.slice none 0 0) := (blk_cell BK312.out 0).trans rfl; have hcz155_1 : w153.cell? ⟨gb312, 1, none⟩ = some (.slice none 0 0) := (blk_cell BK312.out 1).trans rfl; have hcz155_2 : w153.cell? ⟨gb312, 2, none⟩ = some (.slice none 0 0) := (blk_cell BK312.out 2).trans rfl; have hfz155_0 := blk_frozen BK312.out 0; have hfz155_1 := blk_frozen BK312.out 1; have hfz155_2 := blk_frozen BK312.out 2; obtain ⟨Ao156, co156, eo156⟩ := Kd.S_slice HO308.out; subst eo156; obtain ⟨Ao157, co157, eo157⟩ := Kd.R_slice HO311.out; subst eo157) | ((with_reducible refine gate_callee (f := 24) rfl ?_); refine goesL_ (some 20) rfl rfl Try.func24 (by kernel_rfl) rfl #[.agg #[.slice Ao154 t303.length co154, .slice Ao156 t306.length co156, .slice Ao157 t309.length co157]] rfl (by (try simp only [List.map_toArray, List.map_cons, List.map_nil]); first | done | rfl | (simp only [List.length_drop, List.length_take]; rfl)) ?_; (with_reducible refine (impl_Solve.calls kj2 _ _ t303 _ _ t306 _ _ t309 false t314 t315 _ ?side1 ?side2 ?side3 ?side4 ?side5 ?side6 A7.out).mono ?_); (case side1 => refine (Kd.R_reads' (e := 3) (base := w.heap.size) (ok := fun k_ => some k_ ≠ (.slice Ao157 t309.length co157 : Value).ownBlock) (n := t303.length) (c := co154) ?_).2.2; exact (by (with_reducible repeat (first | apply Kd.R_alloc | apply Kd.R_drewN | apply Kd.R_drew)); exact (Kd.R_mono (Kd.R_far (p := ⟨gb312, 2, none⟩) (Kd.R_far (p := ⟨gb312, 1, none⟩) (Kd.R_far (p := ⟨gb312, 0, none⟩) (Kd.R_types HO305.out BK312.out (by decide)) (fun _ hk => hk.2) (.slice Ao154 t303.length co154)) (fun _ hk => hk.2) (.slice Ao156 t306.length co156)) (fun _ hk => hk.2) (.slice Ao157 t309.length co157)) (fun _ h_ => by first | exact h_.1 | (simp only [own_sl_] at h_ ⊢; exact h_.1))))); (case side2 => exact (Kd.R_reads' HO305.out).2.1); (case side3 => refine (Kd.S_reads' (e := 35) (base := w.heap.size) (ok := fun k_ => (some k_ ≠ (.slice Ao154 t303.length co154 : Value).ownBlock ∧ some k_ ≠ (.slice Ao157 t309.length co157 : Value).ownBlock)) (n := t306.length) (c := co156) ?_).2.2; exact (by (with_reducible repeat (first | apply Kd.S_alloc | apply Kd.S_drewN | apply Kd.S_drew)); exact (Kd.S_mono (Kd.S_far (p := ⟨gb312, 2, none⟩) (Kd.S_far (p := ⟨gb312, 1, none⟩) (Kd.S_far (p := ⟨gb312, 0, none⟩) (Kd.S_types HO308.out BK312.out (by decide)) (fun _ hk => hk.2) (.slice Ao154 t303.length co154)) (fun _ hk => hk.2) (.slice Ao156 t306.length co156)) (fun _ hk => hk.2) (.slice Ao157 t309.length co157)) (fun _ h_ => by first | exact h_.1 | (simp only [own_sl_] at h_ ⊢; exact h_.1))))); (case side4 => exact (Kd.S_reads' HO308.out).2.1); (case side5 => refine (Kd.R_reads' (e := 3) (base := w.heap.size) (ok := fun k_ => some k_ ≠ (.slice Ao154 t303.length co154 : Value).ownBlock) (n := t309.length) (c := co157) ?_).2.2; exact (by (with_reducible repeat (first | apply Kd.R_alloc | apply Kd.R_drewN | apply Kd.R_drew)); exact (Kd.R_mono (Kd.R_far (p := ⟨gb312, 2, none⟩) (Kd.R_far (p := ⟨gb312, 1, none⟩) (Kd.R_far (p := ⟨gb312, 0, none⟩) (Kd.R_types HO311.out BK312.out (by decide)) (fun _ hk => hk.2) (.slice Ao154 t303.length co154)) (fun _ hk => hk.2) (.slice Ao156 t306.length co156)) (fun _ hk => hk.2) (.slice Ao157 t309.length co157)) (fun _ h_ => by first | exact h_.1 | (simp only [own_sl_] at h_ ⊢; exact h_.1))))); (case side6 => exact (Kd.R_reads' HO311.out).2.1); rintro e w158 ⟨v316, rfl, ho0, hb⟩; refine ⟨_, rfl, ?_⟩; have n0_ := Aside0.mk (Kd.R_elder' (by (with_reducible repeat (first | apply Kd.R_alloc | apply Kd.R_drewN | apply Kd.R_drew)); exact (Kd.R_mono (Kd.R_far (p := ⟨gb312, 2, none⟩) (Kd.R_far (p := ⟨gb312, 1, none⟩) (Kd.R_far (p := ⟨gb312, 0, none⟩) (Kd.R_types HO305.out BK312.out (by decide)) (fun _ hk => hk.2) (.slice Ao154 t303.length co154)) (fun _ hk => hk.2) (.slice Ao156 t306.length co156)) (fun _ hk => hk.2) (.slice Ao157 t309.length co157)) (fun _ h_ => by first | exact h_.1 | (simp only [own_sl_] at h_ ⊢; exact h_.1)))) (Kd.R_base ho0) hb); have n1_ := Aside0.mk (Kd.S_elder' (by (with_reducible repeat (first | apply Kd.S_alloc | apply Kd.S_drewN | apply Kd.S_drew)); exact (Kd.S_mono (Kd.S_far (p := ⟨gb312, 2, none⟩) (Kd.S_far (p := ⟨gb312, 1, none⟩) (Kd.S_far (p := ⟨gb312, 0, none⟩) (Kd.S_types HO308.out BK312.out (by decide)) (fun _ hk => hk.2) (.slice Ao154 t303.length co154)) (fun _ hk => hk.2) (.slice Ao156 t306.length co156)) (fun _ hk => hk.2) (.slice Ao157 t309.length co157)) (fun _ h_ => by first | exact h_.1 | (simp only [own_sl_] at h_ ⊢; exact h_.1)))) (Kd.R_base ho0) hb); have n2_ := Aside0.mk (Kd.R_elder' (by (with_reducible repeat (first | apply Kd.R_alloc | apply Kd.R_drewN | apply Kd.R_drew)); exact (Kd.R_mono (Kd.R_far (p := ⟨gb312, 2, none⟩) (Kd.R_far (p := ⟨gb312, 1, none⟩) (Kd.R_far (p := ⟨gb312, 0, none⟩) (Kd.R_types HO311.out BK312.out (by decide)) (fun _ hk => hk.2) (.slice Ao154 t303.length co154)) (fun _ hk => hk.2) (.slice Ao156 t306.length co156)) (fun _ hk => hk.2) (.slice Ao157 t309.length co157)) (fun _ h_ => by first | exact h_.1 | (simp only [own_sl_] at h_ ⊢; exact h_.1)))) (Kd.R_base ho0) hb); have n3_ := Aside0.mk (Kd.R_lower (Kd.R_new' (Kd.R_new' ho0 (Kd.R_lt (by (with_reducible repeat (first | apply Kd.R_alloc | apply Kd.R_drewN | apply Kd.R_drew)); exact (Kd.R_mono (Kd.R_far (p := ⟨gb312, 2, none⟩) (Kd.R_far (p := ⟨gb312, 1, none⟩) (Kd.R_far (p := ⟨gb312, 0, none⟩) (Kd.R_types HO305.out BK312.out (by decide)) (fun _ hk => hk.2) (.slice Ao154 t303.length co154)) (fun _ hk => hk.2) (.slice Ao156 t306.length co156)) (fun _ hk => hk.2) (.slice Ao157 t309.length co157)) (fun _ h_ => by first | exact h_.1 | (simp only [own_sl_] at h_ ⊢; exact h_.1)))))) (Kd.R_lt (by (with_reducible repeat (first | apply Kd.R_alloc | apply Kd.R_drewN | apply Kd.R_drew)); exact (Kd.R_mono (Kd.R_far (p := ⟨gb312, 2, none⟩) (Kd.R_far (p := ⟨gb312, 1, none⟩) (Kd.R_far (p := ⟨gb312, 0, none⟩) (Kd.R_types HO311.out BK312.out (by decide)) (fun _ hk => hk.2) (.slice Ao154 t303.length co154)) (fun _ hk => hk.2) (.slice Ao156 t306.length co156)) (fun _ hk => hk.2) (.slice Ao157 t309.length co157)) (fun _ h_ => by first | exact h_.1 | (simp only [own_sl_] at h_ ⊢; exact h_.1)))))) (below_size (by repeat (first | (with_reducible first | exact HB.out | apply below_alloc | apply pw_below_drewN | apply below_drew1 | refine below_set ?_ GE312.out) | exact HB.out)))); have n4_ := Aside0.mk (blk_below (g := gb312) (o := .cells #[.slice Ao154 t303.length co154, .slice Ao156 t306.length co156, .slice Ao157 t309.length co157] 26 (0, 0)) (by (with_reducible repeat (first | refine blk_drewN ?_ _ | refine blk_drew ?_ | refine blk_alloc ?_ _)); refine blk_put (cs := #[.slice Ao154 t303.length co154, .slice Ao156 t306.length co156, .slice none 0 0]) ?_ 2 _ rfl; (with_reducible repeat (first | refine blk_drewN ?_ _ | refine blk_drew ?_ | refine blk_alloc ?_ _)); refine blk_put (cs := #[.slice Ao154 t303.length co154, .slice none 0 0, .slice none 0 0]) ?_ 1 _ rfl; (with_reducible repeat (first | refine blk_drewN ?_ _ | refine blk_drew ?_ | refine blk_alloc ?_ _)); refine blk_put (cs := #[.slice none 0 0, .slice none 0 0, .slice none 0 0]) ?_ 0 _ rfl; (with_reducible repeat (first | refine blk_drewN ?_ _ | refine blk_drew ?_ | refine blk_alloc ?_ _)); exact BK312.out) hb); have n5_ := Aside0.mk (below_step (by repeat (first | (with_reducible first | exact HB.out | apply below_alloc | apply pw_below_drewN | apply below_drew1 | refine below_set ?_ GE312.out) | exact HB.out)) hb); clear HO305; clear HO308; clear HO311; clear BK312; clear HB; have HO305 := n0_; have HO308 := n1_; have HO311 := n2_; have HO317 := n3_; have BK312 := n4_; have HB := n5_; clear n0_ n1_ n2_ n3_ n4_ n5_; (try clear hb); (try clear hb2); (try clear hk); (try clear hi); (try clear ho0)) | ((with_reducible refine gate_dst (N := 6) rfl ?_); (try (refine gate_guard (by rfl) ?_; dsimp only)); refine box_event ?hg (N := 6) ?hd (cs := #[.bool false, .int .i64 0, .slice none 0 0]) (t := 41) ?hr ?_; (case hd => rfl); (case hg => rfl); (case hr => first | (go_simp; done) | (go_simp; rfl)); intro gb318 hg w159 hbox hb; have n0_ := Aside0.mk (Kd.R_below (by (with_reducible repeat (first | apply Kd.R_alloc | apply Kd.R_drewN | apply Kd.R_drew)); exact HO305.out) hb); have n1_ := Aside0.mk (Kd.S_below (by (with_reducible repeat (first | apply Kd.S_alloc | apply Kd.S_drewN | apply Kd.S_drew)); exact HO308.out) hb); have n2_ := Aside0.mk (Kd.R_below (by (with_reducible repeat (first | apply Kd.R_alloc | apply Kd.R_drewN | apply Kd.R_drew)); exact HO311.out) hb); have n3_ := Aside0.mk (Kd.R_below (by (with_reducible repeat (first | apply Kd.R_alloc | apply Kd.R_drewN | apply Kd.R_drew)); exact HO317.out) hb); have n4_ := Aside0.mk (blk_below (g := gb312) (o := .cells #[.slice Ao154 t303.length co154, .slice Ao156 t306.length co156, .slice Ao157 t309.length co157] 26 (0, 0)) (by (with_reducible repeat (first | refine blk_drewN ?_ _ | refine blk_drew ?_ | refine blk_alloc ?_ _)); exact BK312.out) hb); have n5_ := Aside0.mk (below_step (by repeat (first | (with_reducible first | exact HB.out | apply below_alloc | apply pw_below_drewN | apply below_drew1 | refine below_set ?_ GE312.out) | exact HB.out)) hb); have n6_ := Aside0.mk (hbox); have n7_ := Aside0.mk ((by rw [hg]; exact (below_size (by repeat (first | (with_reducible first | exact HB.out | apply below_alloc | apply pw_below_drewN | apply below_drew1 | refine below_set ?_ GE312.out) | exact HB.out))) : w.heap.size ≤ gb318)); have n8_ := Aside0.mk ((by rw [hg]; exact (below_size (by repeat (first | (with_reducible first | exact HB.out | apply below_alloc | apply pw_below_drewN | apply below_drew1 | refine below_set ?_ GE312.out) | exact HB.out))) : w.heap.size ≤ gb318)); have n9_ := Aside0.mk ((by rw [hg]; exact Nat.ne_of_lt (blk_lt (g := gb312) (o := .cells #[.slice Ao154 t303.length co154, .slice Ao156 t306.length co156, .slice Ao157 t309.length co157] 26 (0, 0)) (by (with_reducible repeat (first | refine blk_drewN ?_ _ | refine blk_drew ?_ | refine blk_alloc ?_ _)); exact BK312.out)) : gb312 ≠ gb318)); have n10_ := Aside0.mk ((by rw [hg]; exact Nat.ne_of_gt (blk_lt (g := gb312) (o := .cells #[.slice Ao154 t303.length co154, .slice Ao156 t306.length co156, .slice Ao157 t309.length co157] 26 (0, 0)) (by (with_reducible repeat (first | refine blk_drewN ?_ _ | refine blk_drew ?_ | refine blk_alloc ?_ _)); exact BK312.out)) : gb318 ≠ gb312)); clear HO305; clear HO308; clear HO311; clear HO317; clear BK312; clear HB; have HO305 := n0_; have HO308 := n1_; have HO311 := n2_; have HO317 := n3_; have BK312 := n4_; have HB := n5_; have BK318 := n6_; have GW318 := n7_; have GE318 := n8_; have NB312_318 := n9_; have NB318_312 := n10_; clear n0_ n1_ n2_ n3_ n4_ n5_ n6_ n7_ n8_ n9_ n10_; clear hb hbox hg; have hnb160 := NB318_312.out; have hnc160 := NB312_318.out; have hcz161_0 : w159.cell? ⟨gb318, 0, none⟩ = some (.bool false) := (blk_cell BK318.out 0).trans rfl; have hcz161_1 : w159.cell? ⟨gb318, 1, none⟩ = some (.int .i64 0) := (blk_cell BK318.out 1).trans rfl; have hcz161_2 : w159.cell? ⟨gb318, 2, none⟩ = some (.slice none 0 0) := (blk_cell BK318.out 2).trans rfl; have hfz161_0 := blk_frozen BK318.out 0; have hfz161_1 := blk_frozen BK318.out 1; have hfz161_2 := blk_frozen BK318.out 2; obtain ⟨Ao162, co162, eo162⟩ := Kd.R_slice HO317.out; subst eo162; have hcz163_0 : w159.cell? ⟨gb312, 0, none⟩ = some (.slice Ao154 t303.length co154) := (blk_cell BK312.out 0).trans rfl; have hcz163_1 : w159.cell? ⟨gb312, 1, none⟩ = some (.slice Ao156 t306.length co156) := (blk_cell BK312.out 1).trans rfl; have hcz163_2 : w159.cell? ⟨gb312, 2, none⟩ = some (.slice Ao157 t309.length co157) := (blk_cell BK312.out 2).trans rfl; have hfz163_0 := blk_frozen BK312.out 0; have hfz163_1 := blk_frozen BK312.out 1; have hfz163_2 := blk_frozen BK312.out 2) | ((with_reducible refine gate_callee (f := 26) rfl ?_); refine goesL_ (some 25) rfl rfl Try.func26 (by kernel_rfl) rfl #[.agg #[.slice Ao154 t303.length co154, .slice Ao156 t306.length co156, .slice Ao157 t309.length co157]] rfl (by (try simp only [List.map_toArray, List.map_cons, List.map_nil]); first | done | rfl | (simp only [List.length_drop, List.length_take]; rfl)) ?_; (with_reducible refine (spec_Safe.calls kj2 _ _ t303 _ _ t306 _ _ t309 t319 _ ?side1 ?side2 ?side3 ?side4 ?side5 ?side6 A151.out).mono ?_); (case side1 => refine (Kd.R_reads' (e := 3) (base := w.heap.size) (ok := fun k_ => (some k_ ≠ (.slice Ao157 t309.length co157 : Value).ownBlock ∧ some k_ ≠ (.slice Ao162 t315.length co162 : Value).ownBlock)) (n := t303.length) (c := co154) ?_).2.2; exact (by (with_reducible repeat (first | apply Kd.R_alloc | apply Kd.R_drewN | apply Kd.R_drew)); exact (Kd.R_mono (Kd.R_far (p := ⟨gb318, 2, none⟩) (Kd.R_far (p := ⟨gb318, 1, none⟩) (Kd.R_far (p := ⟨gb318, 0, none⟩) (Kd.R_types HO305.out BK318.out (by decide)) (fun _ hk => hk.2) (.bool false)) (fun _ hk => hk.2) (.int .i64 t314)) (fun _ hk => hk.2) (.slice Ao162 t315.length co162)) (fun _ h_ => by first | exact h_.1 | (simp only [own_sl_] at h_ ⊢; exact h_.1))))); (case side2 => exact (Kd.R_reads' HO305.out).2.1); (case side3 => refine (Kd.S_reads' (e := 35) (base := w.heap.size) (ok := fun k_ => ((some k_ ≠ (.slice Ao154 t303.length co154 : Value).ownBlock ∧ some k_ ≠ (.slice Ao157 t309.length co157 : Value).ownBlock) ∧ some k_ ≠ (.slice Ao162 t315.length co162 : Value).ownBlock)) (n := t306.length) (c := co156) ?_).2.2; exact (by (with_reducible repeat (first | apply Kd.S_alloc | apply Kd.S_drewN | apply Kd.S_drew)); exact (Kd.S_mono (Kd.S_far (p := ⟨gb318, 2, none⟩) (Kd.S_far (p := ⟨gb318, 1, none⟩) (Kd.S_far (p := ⟨gb318, 0, none⟩) (Kd.S_types HO308.out BK318.out (by decide)) (fun _ hk => hk.2) (.bool false)) (fun _ hk => hk.2) (.int .i64 t314)) (fun _ hk => hk.2) (.slice Ao162 t315.length co162)) (fun _ h_ => by first | exact h_.1 | (simp only [own_sl_] at h_ ⊢; exact h_.1))))); (case side4 => exact (Kd.S_reads' HO308.out).2.1); (case side5 => refine (Kd.R_reads' (e := 3) (base := w.heap.size) (ok := fun k_ => (some k_ ≠ (.slice Ao154 t303.length co154 : Value).ownBlock ∧ some k_ ≠ (.slice Ao162 t315.length co162 : Value).ownBlock)) (n := t309.length) (c := co157) ?_).2.2; exact (by (with_reducible repeat (first | apply Kd.R_alloc | apply Kd.R_drewN | apply Kd.R_drew)); exact (Kd.R_mono (Kd.R_far (p := ⟨gb318, 2, none⟩) (Kd.R_far (p := ⟨gb318, 1, none⟩) (Kd.R_far (p := ⟨gb318, 0, none⟩) (Kd.R_types HO311.out BK318.out (by decide)) (fun _ hk => hk.2) (.bool false)) (fun _ hk => hk.2) (.int .i64 t314)) (fun _ hk => hk.2) (.slice Ao162 t315.length co162)) (fun _ h_ => by first | exact h_.1 | (simp only [own_sl_] at h_ ⊢; exact h_.1))))); (case side6 => exact (Kd.R_reads' HO311.out).2.1); rintro e w164 ⟨rfl, hb⟩; refine ⟨_, rfl, ?_⟩; have n0_ := Aside0.mk (Kd.R_below (by (with_reducible repeat (first | apply Kd.R_alloc | apply Kd.R_drewN | apply Kd.R_drew)); exact (Kd.R_mono (Kd.R_far (p := ⟨gb318, 2, none⟩) (Kd.R_far (p := ⟨gb318, 1, none⟩) (Kd.R_far (p := ⟨gb318, 0, none⟩) (Kd.R_types HO305.out BK318.out (by decide)) (fun _ hk => hk.2) (.bool false)) (fun _ hk => hk.2) (.int .i64 t314)) (fun _ hk => hk.2) (.slice Ao162 t315.length co162)) (fun _ h_ => by first | exact h_.1 | (simp only [own_sl_] at h_ ⊢; exact h_.1)))) hb); have n1_ := Aside0.mk (Kd.S_below (by (with_reducible repeat (first | apply Kd.S_alloc | apply Kd.S_drewN | apply Kd.S_drew)); exact (Kd.S_mono (Kd.S_far (p := ⟨gb318, 2, none⟩) (Kd.S_far (p := ⟨gb318, 1, none⟩) (Kd.S_far (p := ⟨gb318, 0, none⟩) (Kd.S_types HO308.out BK318.out (by decide)) (fun _ hk => hk.2) (.bool false)) (fun _ hk => hk.2) (.int .i64 t314)) (fun _ hk => hk.2) (.slice Ao162 t315.length co162)) (fun _ h_ => by first | exact h_.1 | (simp only [own_sl_] at h_ ⊢; exact h_.1)))) hb); have n2_ := Aside0.mk (Kd.R_below (by (with_reducible repeat (first | apply Kd.R_alloc | apply Kd.R_drewN | apply Kd.R_drew)); exact (Kd.R_mono (Kd.R_far (p := ⟨gb318, 2, none⟩) (Kd.R_far (p := ⟨gb318, 1, none⟩) (Kd.R_far (p := ⟨gb318, 0, none⟩) (Kd.R_types HO311.out BK318.out (by decide)) (fun _ hk => hk.2) (.bool false)) (fun _ hk => hk.2) (.int .i64 t314)) (fun _ hk => hk.2) (.slice Ao162 t315.length co162)) (fun _ h_ => by first | exact h_.1 | (simp only [own_sl_] at h_ ⊢; exact h_.1)))) hb); have n3_ := Aside0.mk (Kd.R_below (by (with_reducible repeat (first | apply Kd.R_alloc | apply Kd.R_drewN | apply Kd.R_drew)); exact (Kd.R_mono (Kd.R_far (p := ⟨gb318, 2, none⟩) (Kd.R_far (p := ⟨gb318, 1, none⟩) (Kd.R_far (p := ⟨gb318, 0, none⟩) (Kd.R_types HO317.out BK318.out (by decide)) (fun _ hk => hk.2) (.bool false)) (fun _ hk => hk.2) (.int .i64 t314)) (fun _ hk => hk.2) (.slice Ao162 t315.length co162)) (fun _ h_ => by first | exact h_.1 | (simp only [own_sl_] at h_ ⊢; exact h_.1)))) hb); have n4_ := Aside0.mk (blk_below (g := gb312) (o := .cells #[.slice Ao154 t303.length co154, .slice Ao156 t306.length co156, .slice Ao157 t309.length co157] 26 (0, 0)) (by (with_reducible repeat (first | refine blk_drewN ?_ _ | refine blk_drew ?_ | refine blk_alloc ?_ _)); refine blk_far ?_ NB312_318.out _; (with_reducible repeat (first | refine blk_drewN ?_ _ | refine blk_drew ?_ | refine blk_alloc ?_ _)); refine blk_far ?_ NB312_318.out _; (with_reducible repeat (first | refine blk_drewN ?_ _ | refine blk_drew ?_ | refine blk_alloc ?_ _)); refine blk_far ?_ NB312_318.out _; (with_reducible repeat (first | refine blk_drewN ?_ _ | refine blk_drew ?_ | refine blk_alloc ?_ _)); exact BK312.out) hb); have n5_ := Aside0.mk (blk_below (g := gb318) (o := .cells #[.bool false, .int .i64 t314, .slice Ao162 t315.length co162] 41 (0, 0)) (by (with_reducible repeat (first | refine blk_drewN ?_ _ | refine blk_drew ?_ | refine blk_alloc ?_ _)); refine blk_put (cs := #[.bool false, .int .i64 t314, .slice none 0 0]) ?_ 2 _ rfl; (with_reducible repeat (first | refine blk_drewN ?_ _ | refine blk_drew ?_ | refine blk_alloc ?_ _)); refine blk_put (cs := #[.bool false, .int .i64 0, .slice none 0 0]) ?_ 1 _ rfl; (with_reducible repeat (first | refine blk_drewN ?_ _ | refine blk_drew ?_ | refine blk_alloc ?_ _)); refine blk_put (cs := #[.bool false, .int .i64 0, .slice none 0 0]) ?_ 0 _ rfl; (with_reducible repeat (first | refine blk_drewN ?_ _ | refine blk_drew ?_ | refine blk_alloc ?_ _)); exact BK318.out) hb); have n6_ := Aside0.mk (below_step (by repeat (first | (with_reducible first | exact HB.out | apply below_alloc | apply pw_below_drewN | apply below_drew1 | refine below_set ?_ GE312.out | refine below_set ?_ GE318.out) | exact HB.out)) hb); clear HO305; clear HO308; clear HO311; clear HO317; clear BK312; clear BK318; clear HB; have HO305 := n0_; have HO308 := n1_; have HO311 := n2_; have HO317 := n3_; have BK312 := n4_; have BK318 := n5_; have HB := n6_; clear n0_ n1_ n2_ n3_ n4_ n5_ n6_; (try clear hb); (try clear hb2); (try clear hk); (try clear hi)))
     go_ret
     exact ⟨by first | rfl | (simp [errW_none, errW_some] <;> rfl) | (simp [*, errW_none, errW_some] <;> rfl), by repeat (first | (with_reducible first | exact HB.out | apply below_alloc | apply pw_below_drewN | apply below_drew1 | refine below_set ?_ GE312.out | refine below_set ?_ GE318.out) | exact HB.out)⟩

/-- THE ONE PURE STATEMENT of laws_FnEasier: yours. -/
def laws_FnEasier.Pure : Prop := ∀ (l0 : List Int) (l1 : List Int), l0.length ≤ maxLen → l0.length * 1 ≤ 140737488351232 → (∀ x ∈ l0, (Lit.int .u8 x).wf = true) → l1.length ≤ maxLen → l1.length * 1 ≤ 140737488351232 → (∀ x ∈ l1, (Lit.int .u8 x).wf = true) → ∃ k, laws_FnEasier.f k l0 l1 = some true
theorem laws_FnEasier.walk (P : laws_FnEasier.Pure) (a0 : Option Addr) (len0 cap0 : Nat) (z0 : List Int) (a1 : Option Addr) (len1 cap1 : Nat) (z1 : List Int) (w : World) (w0 : (a0 = none ∧ len0 = 0 ∧ cap0 = 0 ∧ z0 = []) ∨ ∃ x, a0 = some x ∧ len0 ≤ cap0 ∧ cap0 ≤ maxLen ∧ z0.length = cap0 ∧ (∀ i, i < z0.length → w.cell? (x.add i) = some (.int .u8 (z0.getD i 0))) ∧ ∀ n ∈ z0, (Lit.int .u8 n).wf = true) (y0 : len0 * 1 ≤ 140737488351232) (w1 : (a1 = none ∧ len1 = 0 ∧ cap1 = 0 ∧ z1 = []) ∨ ∃ x, a1 = some x ∧ len1 ≤ cap1 ∧ cap1 ≤ maxLen ∧ z1.length = cap1 ∧ (∀ i, i < z1.length → w.cell? (x.add i) = some (.int .u8 (z1.getD i 0))) ∧ ∀ n ∈ z1, (Lit.int .u8 n).wf = true) (y1 : len1 * 1 ≤ 140737488351232) :
  Calls Try.prog 5 #[.slice a0 len0 cap0, .slice a1 len1 cap1] w fun e w' => e = .returned (.bool true) ∧ Below w.heap.size w w' := by
 have hu41_ := @So.field41
 have hu410_ := @So.field41_0
 have hu412_ := @So.field41_2
 obtain ⟨l0, rfl, hr0, hm0, hw0, hc0⟩ := ReadsInt.ofRowC w0
 obtain ⟨l1, rfl, hr1, hm1, hw1, hc1⟩ := ReadsInt.ofRowC w1
 obtain ⟨k, h⟩ := P l0 l1 hm0 y0 hw0 hm1 y1 hw1
 refine (laws_FnEasier.calls k _ _ l0 _ _ l1 true w (Kd.C_of_reads (d := (0 : Int)) (h1 := fun _ => rfl) hr0) hc0 (Kd.C_of_reads (d := (0 : Int)) (h1 := fun _ => rfl) hr1) hc1 ⟨rfl⟩ h).mono ?_
 rintro e w' ⟨rfl, hd⟩
 exact ⟨rfl, hd⟩


end Go.Proofs.Ytpbclogjoangfaa.Q
