-- Written by programs of this session (wip/drv.py, wip/mkclaim.py) over the kit's print; not trusted: Lean checks it.
import Derived.Test.YtpbclogjoangfaaFnTopQ0
import Derived.Test.YtpbclogjoangfaaFnTopQ2
import Derived.Test.YtpbclogjoangfaaFnTopQ3
import Derived.Test.YtpbclogjoangfaaFnTopQ4
import Derived.Test.YtpbclogjoangfaaFnTopQ5
import Derived.Test.YtpbclogjoangfaaFnTopQ6
namespace Go.Proofs.Ytpbclogjoangfaa.Q
open Go.RowKit Go.Proofs.YtpbclogjoangfaaW.PrintWords Go.Proofs.YtpbclogjoangfaaW.PrintLast Go.Proofs.YtpbclogjoangfaaW.PrintMore
attribute [local go_sem] max2_int min2_int max_two min_two max_three min_three max_four min_four   -- for this text's walks alone
set_option linter.unusedVariables false
set_option linter.unusedSimpArgs false

/-! ### laws_eqIntS: function 36 -/
def laws_eqIntS.l0 : Nat → List Int → List Int → Int → Option (Bool)
 | 0, _, _, _ => none
 | k + 1, x0, x1, x5 => if x5 < (x0.length : Int) then (if 0 ≤ x5 then (if x5 < (x1.length : Int) then (if (rd x0 x5) = (rd x1 x5) then (laws_eqIntS.l0 k x0 x1 (wrap64 (x5 + 1))) else (some false)) else (none)) else (none)) else (some true)
def laws_eqIntS.f (k : Nat) (l0 : List Int) (l1 : List Int) : Option (Bool) := if (l0.length : Int) = (l1.length : Int) then (laws_eqIntS.l0 k l0 l1 0) else (some false)
theorem laws_eqIntS.mono_l : ∀ k, (∀ y0 y1 y2, LeO (laws_eqIntS.l0 k y0 y1 y2) (laws_eqIntS.l0 (k + 1) y0 y1 y2))
 | 0 => fun _ _ _ r h => by simp [laws_eqIntS.l0] at h
 | k + 1 => by
  have ih0 := laws_eqIntS.mono_l k
  ·intro y0 y1 y2
   unfold laws_eqIntS.l0
   repeat' first
   | (with_reducible exact ih0 _ _ _)
   | (with_reducible exact LeO.refl _)
   | (with_reducible exact LeO.none _)
   | (with_reducible refine LeO.ite ?_ ?_)
   | (with_reducible refine LeO.bind ?_ (fun _ => ?_))
   | exact ih0 _ _ _
   | exact LeO.none _
   | refine LeO.ite ?_ ?_
   | refine LeO.bind ?_ (fun _ => ?_)
theorem laws_eqIntS.mono : ∀ a0 a1 k, LeO (laws_eqIntS.f k a0 a1) (laws_eqIntS.f (k + 1) a0 a1) := by
 intro a0 a1 k
 have ih0 := laws_eqIntS.mono_l k
 unfold laws_eqIntS.f
 repeat' first
   | (with_reducible exact ih0 _ _ _)
   | (with_reducible exact LeO.refl _)
   | (with_reducible exact LeO.none _)
   | (with_reducible refine LeO.ite ?_ ?_)
   | (with_reducible refine LeO.bind ?_ (fun _ => ?_))
   | exact ih0 _ _ _
   | exact LeO.none _
   | refine LeO.ite ?_ ?_
   | refine LeO.bind ?_ (fun _ => ?_)

/-! ### laws_eqTrain: function 90 -/
def laws_eqTrain.f (k : Nat) (a0_0 : Int) (l0_1 : List Int) (a0_2 : Int) (a1_0 : Int) (l1_1 : List Int) (a1_2 : Int) : Option (Bool) := if a0_0 = a1_0 then ((laws_eqIntS.f k l0_1 l1_1).bind fun t523 => (if t523 = true then (if a0_2 = a1_2 then (some true) else (some false)) else (some false))) else (some false)
theorem laws_eqTrain.mono : ∀ a0 a1 a2 a3 a4 a5 k, LeO (laws_eqTrain.f k a0 a1 a2 a3 a4 a5) (laws_eqTrain.f (k + 1) a0 a1 a2 a3 a4 a5) := by
 intro a0 a1 a2 a3 a4 a5 k
 unfold laws_eqTrain.f
 repeat' first
   | (with_reducible exact laws_eqIntS.mono _ _ _)
   | (with_reducible exact LeO.refl _)
   | (with_reducible exact LeO.none _)
   | (with_reducible refine LeO.ite ?_ ?_)
   | (with_reducible refine LeO.bind ?_ (fun _ => ?_))
   | exact laws_eqIntS.mono _ _ _
   | exact LeO.none _
   | refine LeO.ite ?_ ?_
   | refine LeO.bind ?_ (fun _ => ?_)

/-! ### laws_eqTrainS: function 75 -/
def laws_eqTrainS.l0 : Nat → List (S35) → List (S35) → Int → Option (Bool)
 | 0, _, _, _ => none
 | k + 1, x0, x1, x5 => if x5 < (x0.length : Int) then (if 0 ≤ x5 then (if x5 < (x1.length : Int) then ((laws_eqTrain.f k ((rd_T35 x0 x5).f0) ((rd_T35 x0 x5).f1) ((rd_T35 x0 x5).f2) ((rd_T35 x1 x5).f0) ((rd_T35 x1 x5).f1) ((rd_T35 x1 x5).f2)).bind fun t526 => (if t526 = true then (laws_eqTrainS.l0 k x0 x1 (wrap64 (x5 + 1))) else (some false))) else (none)) else (none)) else (some true)
def laws_eqTrainS.f (k : Nat) (l0 : List (S35)) (l1 : List (S35)) : Option (Bool) := if (l0.length : Int) = (l1.length : Int) then (laws_eqTrainS.l0 k l0 l1 0) else (some false)
theorem laws_eqTrainS.mono_l : ∀ k, (∀ y0 y1 y2, LeO (laws_eqTrainS.l0 k y0 y1 y2) (laws_eqTrainS.l0 (k + 1) y0 y1 y2))
 | 0 => fun _ _ _ r h => by simp [laws_eqTrainS.l0] at h
 | k + 1 => by
  have ih0 := laws_eqTrainS.mono_l k
  ·intro y0 y1 y2
   unfold laws_eqTrainS.l0
   repeat' first
   | (with_reducible exact ih0 _ _ _)
   | (with_reducible exact laws_eqTrain.mono _ _ _ _ _ _ _)
   | (with_reducible exact LeO.refl _)
   | (with_reducible exact LeO.none _)
   | (with_reducible refine LeO.ite ?_ ?_)
   | (with_reducible refine LeO.bind ?_ (fun _ => ?_))
   | exact ih0 _ _ _
   | exact laws_eqTrain.mono _ _ _ _ _ _ _
   | exact LeO.none _
   | refine LeO.ite ?_ ?_
   | refine LeO.bind ?_ (fun _ => ?_)
theorem laws_eqTrainS.mono : ∀ a0 a1 k, LeO (laws_eqTrainS.f k a0 a1) (laws_eqTrainS.f (k + 1) a0 a1) := by
 intro a0 a1 k
 have ih0 := laws_eqTrainS.mono_l k
 unfold laws_eqTrainS.f
 repeat' first
   | (with_reducible exact ih0 _ _ _)
   | (with_reducible exact laws_eqTrain.mono _ _ _ _ _ _ _)
   | (with_reducible exact LeO.refl _)
   | (with_reducible exact LeO.none _)
   | (with_reducible refine LeO.ite ?_ ?_)
   | (with_reducible refine LeO.bind ?_ (fun _ => ?_))
   | exact ih0 _ _ _
   | exact laws_eqTrain.mono _ _ _ _ _ _ _
   | exact LeO.none _
   | refine LeO.ite ?_ ?_
   | refine LeO.bind ?_ (fun _ => ?_)
def laws_eqTrainS.T6 : Bool × List (List Nat × List Nat) := (true, [([], []), ([], []), ([0, 1], [0, 1]), ([2], [2]), ([], []), ([], []), ([4, 5], [4, 5]), ([6], [6]), ([3, 7], [3, 7]), ([8], [8])])
def laws_eqTrainS.B6 : List Nat := [0, 0, 3, 7, 0, 0, 48, 112, 255, 511]
theorem laws_eqTrainS.tab6 : rtab .any (opsOf Try.f75 6) = laws_eqTrainS.T6 := by kernel_rfl
theorem laws_eqTrainS.bits6 : waitsOk laws_eqTrainS.T6.2 laws_eqTrainS.B6 = true := by kernel_rfl

/-! ### laws_eqState: function 31 -/
def laws_eqState.f (k : Nat) (l0_0 : List Int) (l0_1 : List (S35)) (l0_2 : List Int) (l1_0 : List Int) (l1_1 : List (S35)) (l1_2 : List Int) : Option (Bool) := (laws_eqIntS.f k l0_0 l1_0).bind fun t529 => (if t529 = true then ((laws_eqTrainS.f k l0_1 l1_1).bind fun t530 => (if t530 = true then ((laws_eqIntS.f k l0_2 l1_2).bind fun t531 => (if t531 = true then (some true) else (some false))) else (some false))) else (some false))
theorem laws_eqState.mono : ∀ a0 a1 a2 a3 a4 a5 k, LeO (laws_eqState.f k a0 a1 a2 a3 a4 a5) (laws_eqState.f (k + 1) a0 a1 a2 a3 a4 a5) := by
 intro a0 a1 a2 a3 a4 a5 k
 unfold laws_eqState.f
 repeat' first
   | (with_reducible exact laws_eqIntS.mono _ _ _)
   | (with_reducible exact laws_eqTrainS.mono _ _ _)
   | (with_reducible exact LeO.refl _)
   | (with_reducible exact LeO.none _)
   | (with_reducible refine LeO.ite ?_ ?_)
   | (with_reducible refine LeO.bind ?_ (fun _ => ?_))
   | exact laws_eqIntS.mono _ _ _
   | exact laws_eqTrainS.mono _ _ _
   | exact LeO.none _
   | refine LeO.ite ?_ ?_
   | refine LeO.bind ?_ (fun _ => ?_)

/-! ### impl_Step: function 33 -/
def impl_Step.f (k : Nat) (l0_0 : List Int) (l0_1 : List (S35)) (l0_2 : List Int) (a1 : Int) : Option (List Int × (List (S35)) × List Int) := (impl_StateOk.f k l0_0 l0_1 l0_2).bind fun t576 => (if t576 = 0 then ((impl_find.f k l0_0 l0_1 l0_2 a1).bind fun t577 => (if t577 < 0 then (some (([] : List Int), ([] : List (S35)), ([] : List Int))) else ((impl_can.f k l0_0 l0_1 l0_2 t577).bind fun t578 => (if t578 = true then ((impl_step.f k l0_0 l0_1 l0_2 t577).bind fun bt579 => (some (bt579.1, bt579.2.1, bt579.2.2))) else (some (([] : List Int), ([] : List (S35)), ([] : List Int))))))) else (some (([] : List Int), ([] : List (S35)), ([] : List Int))))
theorem impl_Step.mono : ∀ a0 a1 a2 a3 k, LeO (impl_Step.f k a0 a1 a2 a3) (impl_Step.f (k + 1) a0 a1 a2 a3) := by
 intro a0 a1 a2 a3 k
 unfold impl_Step.f
 repeat' first
   | (with_reducible exact impl_StateOk.mono _ _ _ _)
   | (with_reducible exact impl_can.mono _ _ _ _ _)
   | (with_reducible exact impl_find.mono _ _ _ _ _)
   | (with_reducible exact impl_step.mono _ _ _ _ _)
   | (with_reducible exact LeO.refl _)
   | (with_reducible exact LeO.none _)
   | (with_reducible refine LeO.ite ?_ ?_)
   | (with_reducible refine LeO.bind ?_ (fun _ => ?_))
   | exact impl_StateOk.mono _ _ _ _
   | exact impl_can.mono _ _ _ _ _
   | exact impl_find.mono _ _ _ _ _
   | exact impl_step.mono _ _ _ _ _
   | exact LeO.none _
   | refine LeO.ite ?_ ?_
   | refine LeO.bind ?_ (fun _ => ?_)

/-! ### laws_markIntS: function 38 -/
def laws_markIntS.l0 : Nat → List Int → Int → Int → Option (Int × List Int)
 | 0, _, _, _ => none
 | k + 1, x0, x1, x5 => if x5 < (x0.length : Int) then (if 0 ≤ x5 then (laws_markIntS.l0 k (x0.set (x5 : Int).toNat x1) (wrap64 (x1 + 1)) (wrap64 (x5 + 1))) else (none)) else (some (x1, x0))
def laws_markIntS.f (k : Nat) (l0 : List Int) (a1 : Int) : Option (Int × List Int) := laws_markIntS.l0 k l0 a1 0
theorem laws_markIntS.mono_l : ∀ k, (∀ y0 y1 y2, LeO (laws_markIntS.l0 k y0 y1 y2) (laws_markIntS.l0 (k + 1) y0 y1 y2))
 | 0 => fun _ _ _ r h => by simp [laws_markIntS.l0] at h
 | k + 1 => by
  have ih0 := laws_markIntS.mono_l k
  ·intro y0 y1 y2
   unfold laws_markIntS.l0
   repeat' with_reducible first | exact ih0 _ _ _ | exact LeO.refl _ | exact LeO.none _ | refine LeO.ite ?_ ?_ | refine LeO.bind ?_ (fun _ => ?_)
theorem laws_markIntS.mono : ∀ a0 a1 k, LeO (laws_markIntS.f k a0 a1) (laws_markIntS.f (k + 1) a0 a1) := by
 intro a0 a1 k
 have ih0 := laws_markIntS.mono_l k
 unfold laws_markIntS.f
 repeat' with_reducible first | exact ih0 _ _ _ | exact LeO.refl _ | exact LeO.none _ | refine LeO.ite ?_ ?_ | refine LeO.bind ?_ (fun _ => ?_)
set_option maxHeartbeats 8000000 in
set_option maxRecDepth 100000 in
theorem laws_markIntS.calls (k : Nat) (P0_ : Nat → Prop) (u9000_ : Value) (l0 : List Int) (a1 : Int) (r1 : Int) (r2 : List Int) (w0 w : World) (hB : Below w0.heap.size w0 w) (ho0 : Kd.R (Kd.int .i64) 3 w w0.heap.size P0_ u9000_ l0) (h : laws_markIntS.f k l0 a1 = some (r1, r2)) :
  Calls Try.prog 38 #[u9000_, .int .i64 a1] w fun e w' => e = .returned (.int .i64 r1) ∧ Kd.R (Kd.int .i64) 3 w' w0.heap.size (fun k_ => (P0_ k_ ∨ w.heap.size ≤ k_)) u9000_ r2 ∧ Below w0.heap.size w0 w' ∧ Kept w w' (fun k_ => P0_ k_) := by
 have HO0 := K_ (show Kd.R (Kd.int .i64) 3 w w0.heap.size (fun k_ => (P0_ k_ ∨ w.heap.size ≤ k_)) u9000_ l0 from Kd.R_mono ho0 (fun k_ hk => (.inl hk)))
 have HK := K_ (Kept.refl w (fun k_ => P0_ k_))
 have HW0 := K_ hB.size
 have HB := K_ hB
 clear hB
 unfold laws_markIntS.f at h
 have H := h
 clear h
 have H' := K_ H
 clear H
 go_enter Try.func38, Try.ntmps38
 go_wp2
 go_loopg [1, 5] k (fun kq v1 v5 w' => ∃ (x0_1 : List Int) (x1_1 : Int) (x5_1 : Int), v1 = .int .i64 x1_1 ∧ v5 = .int .i64 x5_1 ∧ Aside0 (laws_markIntS.l0 kq x0_1 x1_1 x5_1 = some (r1, r2)) ∧ Aside0 (kq ≤ k) ∧ Aside0 (Kd.R (Kd.int .i64) 3 w' w0.heap.size (fun k_ => (P0_ k_ ∨ w.heap.size ≤ k_)) u9000_ x0_1) ∧ Aside0 (Kept w w' (fun k_ => P0_ k_)) ∧ Aside0 (Below w0.heap.size w0 w'))
 case atStart => exact ⟨(l0), (a1), (0), rfl, rfl, H', ⟨Nat.le_refl _⟩, ⟨HO0.out⟩, ⟨by repeat (first | (with_reducible first | exact HK.out | apply Kept.alloc | apply Kept.drewN | apply Kept.drew) | exact HK.out)⟩, ⟨HB.out⟩⟩
 case round =>
  clear H'
  skip
  obtain ⟨x0_1, x1_1, x5_1, rfl, rfl, HA, HK1, HO_0, HK, HB⟩ := hrel
  cases gk with
  | zero => exact absurd HA.out (by simp [laws_markIntS.l0])
  | succ k1 =>
   have H := HA.out
   clear HA
   simp only [laws_markIntS.l0] at H
   replace H := ds_ H
   rcases H with ⟨c3b0, H⟩ | ⟨c3b0, H⟩
   case inr =>
    simp only [Option.some.injEq, Prod.mk.injEq] at H
    obtain ⟨rfl, rfl⟩ := H
    obtain ⟨Ao9, co9, eo9⟩ := Kd.R_slice HO_0.out
    subst eo9
    go_wp2
    go_ret
    exact ⟨rfl, by exact HO_0.out, by exact HB.out, by repeat (first | (with_reducible first | exact HK.out | apply Kept.alloc | apply Kept.drewN | apply Kept.drew) | exact HK.out)⟩
   replace H := dn_ H
   obtain ⟨c4b0, H⟩ := H
   obtain ⟨y616, hy616⟩ : ∃ y_ : List Int, y_ = (x0_1.set (x5_1 : Int).toNat x1_1) := ⟨_, rfl⟩
   rw [← hy616] at H
   have Ny616 := K_ hy616
   clear hy616
   have H' := K_ H
   clear H
   obtain ⟨Ao6, co6, eo6⟩ := Kd.R_slice HO_0.out
   subst eo6
   have p5 : 0 ≤ (x5_1 : Int) := of_decide_eq_true (by assumption)
   have q5 : (x5_1 : Int) < ((x0_1.length : Int) : Int) := of_decide_eq_true (by assumption)
   obtain ⟨go5, co5, eo5, gb5, gl5, cl5, HG5⟩ := Kd.R_form HO_0.out (by omega)
   (first | cases eo5 | (injection eo5 with ea_ en_ ec_; (first | subst ea_ | (injection ea_ with ea_; subst ea_)); subst ec_; clear en_))
   have GB5 := K_ gb5
   have GG5 := K_ HG5
   clear gb5 gl5 HG5
   have HMgo5 := K_ (show (P0_ go5 ∨ w.heap.size ≤ go5) from (HO_0.out.1 _ rfl))
   obtain ⟨hx5_0, hf5_0⟩ := Kd.R_celln 0 HO_0.out (x5_1 : Int) p5 q5
   replace p5 := eq_true p5
   replace q5 := eq_true q5
   have HP7 := Kd.R_putg HO_0.out (x5_1 : Int) x1_1
   go_wp2_with (first | ((with_reducible refine gate_store (t := 3) (p := 15) rfl ?_); refine store_event (t := 3) (p := 15) (v := ?vo_w8) (w1 := (wr.setCell ⟨go5, (x5_1 : Int).toNat, none⟩ (.int .i64 x1_1))) ?hg ?ho ?hn ?hr ?_; (case ho => rfl); (case hg => rfl); (case hn => rfl); (case hr => go_simp; try rfl); intro w8 hw; have hg : wr.grownBy w8 (some go5) := (by rw [hw]; exact HP7.2); have hp_ : Kd.R (Kd.int .i64) 3 w8 w0.heap.size (fun k_ => (P0_ k_ ∨ w.heap.size ≤ k_)) (.slice (some ⟨go5, 0, none⟩) x0_1.length co6) y616 := (by rw [hw, Ny616.out]; exact HP7.1); clear HP7; replace HB := K_ ((by rw [hw]; exact below_set (HB.out) GB5.out : Below w0.heap.size w0 w8)); replace HK := K_ (Kept.of_grown (S := (fun k_ => P0_ k_)) hg (by repeat (first | (with_reducible first | exact HK.out | apply Kept.alloc | apply Kept.drewN | apply Kept.drew) | exact HK.out)) (fun k_ e_ => (HO_0.out.1 k_ e_))); replace HO_0 := K_ (hp_); clear hg hw hp_))
   go_roundg k1
   case measure => have := HK1.out; omega
   case rel => exact ⟨(y616), (wrap64 (x1_1 + 1)), (wrap64 (x5_1 + 1)), rfl, rfl, H', ⟨by have := HK1.out; omega⟩, ⟨HO_0.out⟩, ⟨by repeat (first | (with_reducible first | exact HK.out | apply Kept.alloc | apply Kept.drewN | apply Kept.drew) | exact HK.out)⟩, ⟨HB.out⟩⟩

-- NOT PRINTED: function 76 (laws_markTrainS)

-- NOT PRINTED: function 37 (laws_markState)

/-! ### laws_heldIntS: function 39 -/
def laws_heldIntS.l0 : Nat → List Int → Int → Int → Option (Int)
 | 0, _, _, _ => none
 | k + 1, x0, x1, x5 => if x5 < (x0.length : Int) then (if 0 ≤ x5 then (if (rd x0 x5) = x1 then (laws_heldIntS.l0 k x0 (wrap64 (x1 + 1)) (wrap64 (x5 + 1))) else (some (-1))) else (none)) else (some x1)
def laws_heldIntS.f (k : Nat) (l0 : List Int) (a1 : Int) : Option (Int) := laws_heldIntS.l0 k l0 a1 0
theorem laws_heldIntS.mono_l : ∀ k, (∀ y0 y1 y2, LeO (laws_heldIntS.l0 k y0 y1 y2) (laws_heldIntS.l0 (k + 1) y0 y1 y2))
 | 0 => fun _ _ _ r h => by simp [laws_heldIntS.l0] at h
 | k + 1 => by
  have ih0 := laws_heldIntS.mono_l k
  ·intro y0 y1 y2
   unfold laws_heldIntS.l0
   repeat' first
   | (with_reducible exact ih0 _ _ _)
   | (with_reducible exact LeO.refl _)
   | (with_reducible exact LeO.none _)
   | (with_reducible refine LeO.ite ?_ ?_)
   | (with_reducible refine LeO.bind ?_ (fun _ => ?_))
   | exact ih0 _ _ _
   | exact LeO.none _
   | refine LeO.ite ?_ ?_
   | refine LeO.bind ?_ (fun _ => ?_)
theorem laws_heldIntS.mono : ∀ a0 a1 k, LeO (laws_heldIntS.f k a0 a1) (laws_heldIntS.f (k + 1) a0 a1) := by
 intro a0 a1 k
 have ih0 := laws_heldIntS.mono_l k
 unfold laws_heldIntS.f
 repeat' first
   | (with_reducible exact ih0 _ _ _)
   | (with_reducible exact LeO.refl _)
   | (with_reducible exact LeO.none _)
   | (with_reducible refine LeO.ite ?_ ?_)
   | (with_reducible refine LeO.bind ?_ (fun _ => ?_))
   | exact ih0 _ _ _
   | exact LeO.none _
   | refine LeO.ite ?_ ?_
   | refine LeO.bind ?_ (fun _ => ?_)

/-! ### impl_Stuck: function 40 -/
def impl_Stuck.f (k : Nat) (l0_0 : List Int) (l0_1 : List (S35)) (l0_2 : List Int) : Option (Bool) := (impl_StateOk.f k l0_0 l0_1 l0_2).bind fun t633 => (if t633 = 0 then (if (l0_1.length : Int) > 0 then ((impl_Moves.f k l0_0 l0_1 l0_2).bind fun t634 => (some ((t634.length : Int) == 0))) else (some false)) else (some false))
theorem impl_Stuck.mono : ∀ a0 a1 a2 k, LeO (impl_Stuck.f k a0 a1 a2) (impl_Stuck.f (k + 1) a0 a1 a2) := by
 intro a0 a1 a2 k
 unfold impl_Stuck.f
 repeat' first
   | (with_reducible exact impl_Moves.mono _ _ _ _)
   | (with_reducible exact impl_StateOk.mono _ _ _ _)
   | (with_reducible exact LeO.refl _)
   | (with_reducible exact LeO.none _)
   | (with_reducible refine LeO.ite ?_ ?_)
   | (with_reducible refine LeO.bind ?_ (fun _ => ?_))
   | exact impl_Moves.mono _ _ _ _
   | exact impl_StateOk.mono _ _ _ _
   | exact LeO.none _
   | refine LeO.ite ?_ ?_
   | refine LeO.bind ?_ (fun _ => ?_)

/-! ### spec_Cost: function 45 -/
mutual
def spec_Cost.j0 : Nat → List Int → Bool → List Int → List (S35) → List Int → Option (Int)
 | 0, _, _, _, _, _ => none
 | k + 1, x1, x16, x657000, x657001, x657002 => if x16 = true then (some (-1)) else (spec_Cost.l0 k 0 x1 (x1.length : Int) 0 x657000 x657001 x657002)
def spec_Cost.l0 : Nat → Int → List Int → Int → Int → List Int → List (S35) → List Int → Option (Int)
 | 0, _, _, _, _, _, _, _ => none
 | k + 1, x5, x17, x18, x19, x657000, x657001, x657002 => if x19 < x18 then (if 0 ≤ x19 then (if x19 < (x17.length : Int) then ((spec_l1name.f k x657000 x657001 x657002 (rd x17 x19)).bind fun t659 => (if t659 < 0 then (spec_Cost.j2 k x5 t659 x17 x18 x19 true x657000 x657001 x657002) else ((spec_l1can.f k x657000 x657001 x657002 t659).bind fun t660 => (spec_Cost.j2 k x5 t659 x17 x18 x19 (!t660) x657000 x657001 x657002)))) else (none)) else (none)) else (if (x657001.length : Int) > 0 then (some (-1)) else (some x5))
def spec_Cost.j2 : Nat → Int → Int → List Int → Int → Int → Bool → List Int → List (S35) → List Int → Option (Int)
 | 0, _, _, _, _, _, _, _, _, _ => none
 | k + 1, x5, x8, x17, x18, x19, x33, x657000, x657001, x657002 => if x33 = true then (some (-1)) else ((spec_l2weight.f k x657000 x657001 x657002).bind fun t661 => ((spec_l1step.f k x657000 x657001 x657002 x8).bind fun bt662 => (spec_Cost.l0 k (wrap64 (x5 + t661)) x17 x18 (wrap64 (x19 + 1)) bt662.1 bt662.2.1 bt662.2.2)))
end
def spec_Cost.f (k : Nat) (l0_0 : List Int) (l0_1 : List (S35)) (l0_2 : List Int) (l1 : List Int) : Option (Int) := (spec_StateOk.f k l0_0 l0_1 l0_2).bind fun t657 => (if t657 = 0 then (spec_Cost.j0 k l1 (decide ((l1.length : Int) > 45)) l0_0 l0_1 l0_2) else (spec_Cost.j0 k l1 true l0_0 l0_1 l0_2))
theorem spec_Cost.mono_l : ∀ k, (∀ y0 y1 y2 y3 y4, LeO (spec_Cost.j0 k y0 y1 y2 y3 y4) (spec_Cost.j0 (k + 1) y0 y1 y2 y3 y4)) ∧ (∀ y0 y1 y2 y3 y4 y5 y6, LeO (spec_Cost.l0 k y0 y1 y2 y3 y4 y5 y6) (spec_Cost.l0 (k + 1) y0 y1 y2 y3 y4 y5 y6)) ∧ (∀ y0 y1 y2 y3 y4 y5 y6 y7 y8, LeO (spec_Cost.j2 k y0 y1 y2 y3 y4 y5 y6 y7 y8) (spec_Cost.j2 (k + 1) y0 y1 y2 y3 y4 y5 y6 y7 y8))
 | 0 => ⟨fun _ _ _ _ _ r h => by simp [spec_Cost.j0] at h, fun _ _ _ _ _ _ _ r h => by simp [spec_Cost.l0] at h, fun _ _ _ _ _ _ _ _ _ r h => by simp [spec_Cost.j2] at h⟩
 | k + 1 => by
  obtain ⟨ih0, ih1, ih2⟩ := spec_Cost.mono_l k
  refine ⟨?_, ?_, ?_⟩
  ·intro y0 y1 y2 y3 y4
   unfold spec_Cost.j0
   repeat' first
   | (with_reducible exact ih0 _ _ _ _ _)
   | (with_reducible exact ih1 _ _ _ _ _ _ _)
   | (with_reducible exact ih2 _ _ _ _ _ _ _ _ _)
   | (with_reducible exact spec_StateOk.mono _ _ _ _)
   | (with_reducible exact spec_l1can.mono _ _ _ _ _)
   | (with_reducible exact spec_l1name.mono _ _ _ _ _)
   | (with_reducible exact spec_l1step.mono _ _ _ _ _)
   | (with_reducible exact spec_l2weight.mono _ _ _ _)
   | (with_reducible exact LeO.refl _)
   | (with_reducible exact LeO.none _)
   | (with_reducible refine LeO.ite ?_ ?_)
   | (with_reducible refine LeO.bind ?_ (fun _ => ?_))
   | exact ih0 _ _ _ _ _
   | exact ih1 _ _ _ _ _ _ _
   | exact ih2 _ _ _ _ _ _ _ _ _
   | exact spec_StateOk.mono _ _ _ _
   | exact spec_l1can.mono _ _ _ _ _
   | exact spec_l1name.mono _ _ _ _ _
   | exact spec_l1step.mono _ _ _ _ _
   | exact spec_l2weight.mono _ _ _ _
   | exact LeO.none _
   | refine LeO.ite ?_ ?_
   | refine LeO.bind ?_ (fun _ => ?_)
  ·intro y0 y1 y2 y3 y4 y5 y6
   unfold spec_Cost.l0
   repeat' first
   | (with_reducible exact ih0 _ _ _ _ _)
   | (with_reducible exact ih1 _ _ _ _ _ _ _)
   | (with_reducible exact ih2 _ _ _ _ _ _ _ _ _)
   | (with_reducible exact spec_StateOk.mono _ _ _ _)
   | (with_reducible exact spec_l1can.mono _ _ _ _ _)
   | (with_reducible exact spec_l1name.mono _ _ _ _ _)
   | (with_reducible exact spec_l1step.mono _ _ _ _ _)
   | (with_reducible exact spec_l2weight.mono _ _ _ _)
   | (with_reducible exact LeO.refl _)
   | (with_reducible exact LeO.none _)
   | (with_reducible refine LeO.ite ?_ ?_)
   | (with_reducible refine LeO.bind ?_ (fun _ => ?_))
   | exact ih0 _ _ _ _ _
   | exact ih1 _ _ _ _ _ _ _
   | exact ih2 _ _ _ _ _ _ _ _ _
   | exact spec_StateOk.mono _ _ _ _
   | exact spec_l1can.mono _ _ _ _ _
   | exact spec_l1name.mono _ _ _ _ _
   | exact spec_l1step.mono _ _ _ _ _
   | exact spec_l2weight.mono _ _ _ _
   | exact LeO.none _
   | refine LeO.ite ?_ ?_
   | refine LeO.bind ?_ (fun _ => ?_)
  ·intro y0 y1 y2 y3 y4 y5 y6 y7 y8
   unfold spec_Cost.j2
   repeat' first
   | (with_reducible exact ih0 _ _ _ _ _)
   | (with_reducible exact ih1 _ _ _ _ _ _ _)
   | (with_reducible exact ih2 _ _ _ _ _ _ _ _ _)
   | (with_reducible exact spec_StateOk.mono _ _ _ _)
   | (with_reducible exact spec_l1can.mono _ _ _ _ _)
   | (with_reducible exact spec_l1name.mono _ _ _ _ _)
   | (with_reducible exact spec_l1step.mono _ _ _ _ _)
   | (with_reducible exact spec_l2weight.mono _ _ _ _)
   | (with_reducible exact LeO.refl _)
   | (with_reducible exact LeO.none _)
   | (with_reducible refine LeO.ite ?_ ?_)
   | (with_reducible refine LeO.bind ?_ (fun _ => ?_))
   | exact ih0 _ _ _ _ _
   | exact ih1 _ _ _ _ _ _ _
   | exact ih2 _ _ _ _ _ _ _ _ _
   | exact spec_StateOk.mono _ _ _ _
   | exact spec_l1can.mono _ _ _ _ _
   | exact spec_l1name.mono _ _ _ _ _
   | exact spec_l1step.mono _ _ _ _ _
   | exact spec_l2weight.mono _ _ _ _
   | exact LeO.none _
   | refine LeO.ite ?_ ?_
   | refine LeO.bind ?_ (fun _ => ?_)
theorem spec_Cost.mono : ∀ a0 a1 a2 a3 k, LeO (spec_Cost.f k a0 a1 a2 a3) (spec_Cost.f (k + 1) a0 a1 a2 a3) := by
 intro a0 a1 a2 a3 k
 obtain ⟨ih0, ih1, ih2⟩ := spec_Cost.mono_l k
 unfold spec_Cost.f
 repeat' first
   | (with_reducible exact ih0 _ _ _ _ _)
   | (with_reducible exact ih1 _ _ _ _ _ _ _)
   | (with_reducible exact ih2 _ _ _ _ _ _ _ _ _)
   | (with_reducible exact spec_StateOk.mono _ _ _ _)
   | (with_reducible exact spec_l1can.mono _ _ _ _ _)
   | (with_reducible exact spec_l1name.mono _ _ _ _ _)
   | (with_reducible exact spec_l1step.mono _ _ _ _ _)
   | (with_reducible exact spec_l2weight.mono _ _ _ _)
   | (with_reducible exact LeO.refl _)
   | (with_reducible exact LeO.none _)
   | (with_reducible refine LeO.ite ?_ ?_)
   | (with_reducible refine LeO.bind ?_ (fun _ => ?_))
   | exact ih0 _ _ _ _ _
   | exact ih1 _ _ _ _ _ _ _
   | exact ih2 _ _ _ _ _ _ _ _ _
   | exact spec_StateOk.mono _ _ _ _
   | exact spec_l1can.mono _ _ _ _ _
   | exact spec_l1name.mono _ _ _ _ _
   | exact spec_l1step.mono _ _ _ _ _
   | exact spec_l2weight.mono _ _ _ _
   | exact LeO.none _
   | refine LeO.ite ?_ ?_
   | refine LeO.bind ?_ (fun _ => ?_)

/-! ### laws_eqAsked: function 81 -/
def laws_eqAsked.f (k : Nat) (a0_0 : Int) (l0_1 : List Int) (l0_2 : List (S35)) (l0_3 : List Int) (a1_0 : Int) (l1_1 : List Int) (l1_2 : List (S35)) (l1_3 : List Int) : Option (Bool) := if a0_0 = a1_0 then ((laws_eqState.f k l0_1 l0_2 l0_3 l1_1 l1_2 l1_3).bind fun t838 => (if t838 = true then (some true) else (some false))) else (some false)
theorem laws_eqAsked.mono : ∀ a0 a1 a2 a3 a4 a5 a6 a7 k, LeO (laws_eqAsked.f k a0 a1 a2 a3 a4 a5 a6 a7) (laws_eqAsked.f (k + 1) a0 a1 a2 a3 a4 a5 a6 a7) := by
 intro a0 a1 a2 a3 a4 a5 a6 a7 k
 unfold laws_eqAsked.f
 repeat' first
   | (with_reducible exact laws_eqState.mono _ _ _ _ _ _ _)
   | (with_reducible exact LeO.refl _)
   | (with_reducible exact LeO.none _)
   | (with_reducible refine LeO.ite ?_ ?_)
   | (with_reducible refine LeO.bind ?_ (fun _ => ?_))
   | exact laws_eqState.mono _ _ _ _ _ _ _
   | exact LeO.none _
   | refine LeO.ite ?_ ?_
   | refine LeO.bind ?_ (fun _ => ?_)

/-! ### laws_eqAskedS: function 51 -/
def laws_eqAskedS.l0 : Nat → List (S33) → List (S33) → Int → Option (Bool)
 | 0, _, _, _ => none
 | k + 1, x0, x1, x5 => if x5 < (x0.length : Int) then (if 0 ≤ x5 then (if x5 < (x1.length : Int) then ((laws_eqAsked.f k ((rd_T33 x0 x5).f0) ((rd_T33 x0 x5).f1.f0) ((rd_T33 x0 x5).f1.f1) ((rd_T33 x0 x5).f1.f2) ((rd_T33 x1 x5).f0) ((rd_T33 x1 x5).f1.f0) ((rd_T33 x1 x5).f1.f1) ((rd_T33 x1 x5).f1.f2)).bind fun t841 => (if t841 = true then (laws_eqAskedS.l0 k x0 x1 (wrap64 (x5 + 1))) else (some false))) else (none)) else (none)) else (some true)
def laws_eqAskedS.f (k : Nat) (l0 : List (S33)) (l1 : List (S33)) : Option (Bool) := if (l0.length : Int) = (l1.length : Int) then (laws_eqAskedS.l0 k l0 l1 0) else (some false)
theorem laws_eqAskedS.mono_l : ∀ k, (∀ y0 y1 y2, LeO (laws_eqAskedS.l0 k y0 y1 y2) (laws_eqAskedS.l0 (k + 1) y0 y1 y2))
 | 0 => fun _ _ _ r h => by simp [laws_eqAskedS.l0] at h
 | k + 1 => by
  have ih0 := laws_eqAskedS.mono_l k
  ·intro y0 y1 y2
   unfold laws_eqAskedS.l0
   repeat' first
   | (with_reducible exact ih0 _ _ _)
   | (with_reducible exact laws_eqAsked.mono _ _ _ _ _ _ _ _ _)
   | (with_reducible exact LeO.refl _)
   | (with_reducible exact LeO.none _)
   | (with_reducible refine LeO.ite ?_ ?_)
   | (with_reducible refine LeO.bind ?_ (fun _ => ?_))
   | exact ih0 _ _ _
   | exact laws_eqAsked.mono _ _ _ _ _ _ _ _ _
   | exact LeO.none _
   | refine LeO.ite ?_ ?_
   | refine LeO.bind ?_ (fun _ => ?_)
theorem laws_eqAskedS.mono : ∀ a0 a1 k, LeO (laws_eqAskedS.f k a0 a1) (laws_eqAskedS.f (k + 1) a0 a1) := by
 intro a0 a1 k
 have ih0 := laws_eqAskedS.mono_l k
 unfold laws_eqAskedS.f
 repeat' first
   | (with_reducible exact ih0 _ _ _)
   | (with_reducible exact laws_eqAsked.mono _ _ _ _ _ _ _ _ _)
   | (with_reducible exact LeO.refl _)
   | (with_reducible exact LeO.none _)
   | (with_reducible refine LeO.ite ?_ ?_)
   | (with_reducible refine LeO.bind ?_ (fun _ => ?_))
   | exact ih0 _ _ _
   | exact laws_eqAsked.mono _ _ _ _ _ _ _ _ _
   | exact LeO.none _
   | refine LeO.ite ?_ ?_
   | refine LeO.bind ?_ (fun _ => ?_)
def laws_eqAskedS.T6 : Bool × List (List Nat × List Nat) := (true, [([], []), ([], []), ([0, 1], [0, 1]), ([2], [2]), ([], []), ([], []), ([4, 5], [4, 5]), ([6], [6]), ([3, 7], [3, 7]), ([8], [8])])
def laws_eqAskedS.B6 : List Nat := [0, 0, 3, 7, 0, 0, 48, 112, 255, 511]
theorem laws_eqAskedS.tab6 : rtab .any (opsOf Try.f51 6) = laws_eqAskedS.T6 := by kernel_rfl
theorem laws_eqAskedS.bits6 : waitsOk laws_eqAskedS.T6.2 laws_eqAskedS.B6 = true := by kernel_rfl

/-! ### laws_heldTrainS: function 82 -/
def laws_heldTrainS.l0 : Nat → List (S35) → Int → Int → Option (Int)
 | 0, _, _, _ => none
 | k + 1, x0, x1, x5 => if x5 < (x0.length : Int) then (if 0 ≤ x5 then (if ((rd_T35 x0 x5).f0) = x1 then ((laws_heldIntS.f k ((rd_T35 x0 x5).f1) (wrap64 (x1 + 1))).bind fun t844 => (if t844 < 0 then (some (-1)) else (if ((rd_T35 x0 x5).f2) = t844 then (laws_heldTrainS.l0 k x0 (wrap64 (t844 + 1)) (wrap64 (x5 + 1))) else (some (-1))))) else (some (-1))) else (none)) else (some x1)
def laws_heldTrainS.f (k : Nat) (l0 : List (S35)) (a1 : Int) : Option (Int) := laws_heldTrainS.l0 k l0 a1 0
theorem laws_heldTrainS.mono_l : ∀ k, (∀ y0 y1 y2, LeO (laws_heldTrainS.l0 k y0 y1 y2) (laws_heldTrainS.l0 (k + 1) y0 y1 y2))
 | 0 => fun _ _ _ r h => by simp [laws_heldTrainS.l0] at h
 | k + 1 => by
  have ih0 := laws_heldTrainS.mono_l k
  ·intro y0 y1 y2
   unfold laws_heldTrainS.l0
   repeat' first
   | (with_reducible exact ih0 _ _ _)
   | (with_reducible exact laws_heldIntS.mono _ _ _)
   | (with_reducible exact LeO.refl _)
   | (with_reducible exact LeO.none _)
   | (with_reducible refine LeO.ite ?_ ?_)
   | (with_reducible refine LeO.bind ?_ (fun _ => ?_))
   | exact ih0 _ _ _
   | exact laws_heldIntS.mono _ _ _
   | exact LeO.none _
   | refine LeO.ite ?_ ?_
   | refine LeO.bind ?_ (fun _ => ?_)
theorem laws_heldTrainS.mono : ∀ a0 a1 k, LeO (laws_heldTrainS.f k a0 a1) (laws_heldTrainS.f (k + 1) a0 a1) := by
 intro a0 a1 k
 have ih0 := laws_heldTrainS.mono_l k
 unfold laws_heldTrainS.f
 repeat' first
   | (with_reducible exact ih0 _ _ _)
   | (with_reducible exact laws_heldIntS.mono _ _ _)
   | (with_reducible exact LeO.refl _)
   | (with_reducible exact LeO.none _)
   | (with_reducible refine LeO.ite ?_ ?_)
   | (with_reducible refine LeO.bind ?_ (fun _ => ?_))
   | exact ih0 _ _ _
   | exact laws_heldIntS.mono _ _ _
   | exact LeO.none _
   | refine LeO.ite ?_ ?_
   | refine LeO.bind ?_ (fun _ => ?_)

/-! ### impl_Cost: function 34 -/
mutual
def impl_Cost.j0 : Nat → List Int → Bool → List Int → List (S35) → List Int → Option (Int)
 | 0, _, _, _, _, _ => none
 | k + 1, x1, x18, x589000, x589001, x589002 => if x18 = true then (some (-1)) else (impl_Cost.l0 k 0 x1 (x1.length : Int) 0 x589000 x589001 x589002)
def impl_Cost.l0 : Nat → Int → List Int → Int → Int → List Int → List (S35) → List Int → Option (Int)
 | 0, _, _, _, _, _, _, _ => none
 | k + 1, x5, x19, x20, x21, x589000, x589001, x589002 => if x21 < x20 then (if 0 ≤ x21 then (if x21 < (x19.length : Int) then ((impl_find.f k x589000 x589001 x589002 (rd x19 x21)).bind fun t591 => (if t591 < 0 then (impl_Cost.j2 k x5 t591 x19 x20 x21 true x589000 x589001 x589002) else ((impl_can.f k x589000 x589001 x589002 t591).bind fun t592 => (impl_Cost.j2 k x5 t591 x19 x20 x21 (!t592) x589000 x589001 x589002)))) else (none)) else (none)) else (if (x589001.length : Int) > 0 then (some (-1)) else (some x5))
def impl_Cost.j2 : Nat → Int → Int → List Int → Int → Int → Bool → List Int → List (S35) → List Int → Option (Int)
 | 0, _, _, _, _, _, _, _, _, _ => none
 | k + 1, x5, x8, x19, x20, x21, x35, x589000, x589001, x589002 => if x35 = true then (some (-1)) else (impl_Cost.l1 k x5 x8 x19 x20 x21 x589001 (x589001.length : Int) 0 x589000 x589001 x589002)
def impl_Cost.l1 : Nat → Int → Int → List Int → Int → Int → List (S35) → Int → Int → List Int → List (S35) → List Int → Option (Int)
 | 0, _, _, _, _, _, _, _, _, _, _, _ => none
 | k + 1, x5, x8, x19, x20, x21, x37, x38, x39, x589000, x589001, x589002 => if x39 < x38 then (if 0 ≤ x39 then (if x39 < (x37.length : Int) then (impl_Cost.l1 k (wrap64 (x5 + ((rd_T35 x37 x39).f2))) x8 x19 x20 x21 x37 x38 (wrap64 (x39 + 1)) x589000 x589001 x589002) else (none)) else (none)) else ((impl_step.f k x589000 x589001 x589002 x8).bind fun bt595 => (impl_Cost.l0 k x5 x19 x20 (wrap64 (x21 + 1)) bt595.1 bt595.2.1 bt595.2.2))
end
def impl_Cost.f (k : Nat) (l0_0 : List Int) (l0_1 : List (S35)) (l0_2 : List Int) (l1 : List Int) : Option (Int) := (impl_StateOk.f k l0_0 l0_1 l0_2).bind fun t589 => (if t589 = 0 then (impl_Cost.j0 k l1 (decide ((l1.length : Int) > 45)) l0_0 l0_1 l0_2) else (impl_Cost.j0 k l1 true l0_0 l0_1 l0_2))
theorem impl_Cost.mono_l : ∀ k, (∀ y0 y1 y2 y3 y4, LeO (impl_Cost.j0 k y0 y1 y2 y3 y4) (impl_Cost.j0 (k + 1) y0 y1 y2 y3 y4)) ∧ (∀ y0 y1 y2 y3 y4 y5 y6, LeO (impl_Cost.l0 k y0 y1 y2 y3 y4 y5 y6) (impl_Cost.l0 (k + 1) y0 y1 y2 y3 y4 y5 y6)) ∧ (∀ y0 y1 y2 y3 y4 y5 y6 y7 y8, LeO (impl_Cost.j2 k y0 y1 y2 y3 y4 y5 y6 y7 y8) (impl_Cost.j2 (k + 1) y0 y1 y2 y3 y4 y5 y6 y7 y8)) ∧ (∀ y0 y1 y2 y3 y4 y5 y6 y7 y8 y9 y10, LeO (impl_Cost.l1 k y0 y1 y2 y3 y4 y5 y6 y7 y8 y9 y10) (impl_Cost.l1 (k + 1) y0 y1 y2 y3 y4 y5 y6 y7 y8 y9 y10))
 | 0 => ⟨fun _ _ _ _ _ r h => by simp [impl_Cost.j0] at h, fun _ _ _ _ _ _ _ r h => by simp [impl_Cost.l0] at h, fun _ _ _ _ _ _ _ _ _ r h => by simp [impl_Cost.j2] at h, fun _ _ _ _ _ _ _ _ _ _ _ r h => by simp [impl_Cost.l1] at h⟩
 | k + 1 => by
  obtain ⟨ih0, ih1, ih2, ih3⟩ := impl_Cost.mono_l k
  refine ⟨?_, ?_, ?_, ?_⟩
  ·intro y0 y1 y2 y3 y4
   unfold impl_Cost.j0
   repeat' first
   | (with_reducible exact ih0 _ _ _ _ _)
   | (with_reducible exact ih1 _ _ _ _ _ _ _)
   | (with_reducible exact ih2 _ _ _ _ _ _ _ _ _)
   | (with_reducible exact ih3 _ _ _ _ _ _ _ _ _ _ _)
   | (with_reducible exact impl_StateOk.mono _ _ _ _)
   | (with_reducible exact impl_can.mono _ _ _ _ _)
   | (with_reducible exact impl_find.mono _ _ _ _ _)
   | (with_reducible exact impl_step.mono _ _ _ _ _)
   | (with_reducible exact LeO.refl _)
   | (with_reducible exact LeO.none _)
   | (with_reducible refine LeO.ite ?_ ?_)
   | (with_reducible refine LeO.bind ?_ (fun _ => ?_))
   | exact ih0 _ _ _ _ _
   | exact ih1 _ _ _ _ _ _ _
   | exact ih2 _ _ _ _ _ _ _ _ _
   | exact ih3 _ _ _ _ _ _ _ _ _ _ _
   | exact impl_StateOk.mono _ _ _ _
   | exact impl_can.mono _ _ _ _ _
   | exact impl_find.mono _ _ _ _ _
   | exact impl_step.mono _ _ _ _ _
   | exact LeO.none _
   | refine LeO.ite ?_ ?_
   | refine LeO.bind ?_ (fun _ => ?_)
  ·intro y0 y1 y2 y3 y4 y5 y6
   unfold impl_Cost.l0
   repeat' first
   | (with_reducible exact ih0 _ _ _ _ _)
   | (with_reducible exact ih1 _ _ _ _ _ _ _)
   | (with_reducible exact ih2 _ _ _ _ _ _ _ _ _)
   | (with_reducible exact ih3 _ _ _ _ _ _ _ _ _ _ _)
   | (with_reducible exact impl_StateOk.mono _ _ _ _)
   | (with_reducible exact impl_can.mono _ _ _ _ _)
   | (with_reducible exact impl_find.mono _ _ _ _ _)
   | (with_reducible exact impl_step.mono _ _ _ _ _)
   | (with_reducible exact LeO.refl _)
   | (with_reducible exact LeO.none _)
   | (with_reducible refine LeO.ite ?_ ?_)
   | (with_reducible refine LeO.bind ?_ (fun _ => ?_))
   | exact ih0 _ _ _ _ _
   | exact ih1 _ _ _ _ _ _ _
   | exact ih2 _ _ _ _ _ _ _ _ _
   | exact ih3 _ _ _ _ _ _ _ _ _ _ _
   | exact impl_StateOk.mono _ _ _ _
   | exact impl_can.mono _ _ _ _ _
   | exact impl_find.mono _ _ _ _ _
   | exact impl_step.mono _ _ _ _ _
   | exact LeO.none _
   | refine LeO.ite ?_ ?_
   | refine LeO.bind ?_ (fun _ => ?_)
  ·intro y0 y1 y2 y3 y4 y5 y6 y7 y8
   unfold impl_Cost.j2
   repeat' first
   | (with_reducible exact ih0 _ _ _ _ _)
   | (with_reducible exact ih1 _ _ _ _ _ _ _)
   | (with_reducible exact ih2 _ _ _ _ _ _ _ _ _)
   | (with_reducible exact ih3 _ _ _ _ _ _ _ _ _ _ _)
   | (with_reducible exact impl_StateOk.mono _ _ _ _)
   | (with_reducible exact impl_can.mono _ _ _ _ _)
   | (with_reducible exact impl_find.mono _ _ _ _ _)
   | (with_reducible exact impl_step.mono _ _ _ _ _)
   | (with_reducible exact LeO.refl _)
   | (with_reducible exact LeO.none _)
   | (with_reducible refine LeO.ite ?_ ?_)
   | (with_reducible refine LeO.bind ?_ (fun _ => ?_))
   | exact ih0 _ _ _ _ _
   | exact ih1 _ _ _ _ _ _ _
   | exact ih2 _ _ _ _ _ _ _ _ _
   | exact ih3 _ _ _ _ _ _ _ _ _ _ _
   | exact impl_StateOk.mono _ _ _ _
   | exact impl_can.mono _ _ _ _ _
   | exact impl_find.mono _ _ _ _ _
   | exact impl_step.mono _ _ _ _ _
   | exact LeO.none _
   | refine LeO.ite ?_ ?_
   | refine LeO.bind ?_ (fun _ => ?_)
  ·intro y0 y1 y2 y3 y4 y5 y6 y7 y8 y9 y10
   unfold impl_Cost.l1
   repeat' first
   | (with_reducible exact ih0 _ _ _ _ _)
   | (with_reducible exact ih1 _ _ _ _ _ _ _)
   | (with_reducible exact ih2 _ _ _ _ _ _ _ _ _)
   | (with_reducible exact ih3 _ _ _ _ _ _ _ _ _ _ _)
   | (with_reducible exact impl_StateOk.mono _ _ _ _)
   | (with_reducible exact impl_can.mono _ _ _ _ _)
   | (with_reducible exact impl_find.mono _ _ _ _ _)
   | (with_reducible exact impl_step.mono _ _ _ _ _)
   | (with_reducible exact LeO.refl _)
   | (with_reducible exact LeO.none _)
   | (with_reducible refine LeO.ite ?_ ?_)
   | (with_reducible refine LeO.bind ?_ (fun _ => ?_))
   | exact ih0 _ _ _ _ _
   | exact ih1 _ _ _ _ _ _ _
   | exact ih2 _ _ _ _ _ _ _ _ _
   | exact ih3 _ _ _ _ _ _ _ _ _ _ _
   | exact impl_StateOk.mono _ _ _ _
   | exact impl_can.mono _ _ _ _ _
   | exact impl_find.mono _ _ _ _ _
   | exact impl_step.mono _ _ _ _ _
   | exact LeO.none _
   | refine LeO.ite ?_ ?_
   | refine LeO.bind ?_ (fun _ => ?_)
theorem impl_Cost.mono : ∀ a0 a1 a2 a3 k, LeO (impl_Cost.f k a0 a1 a2 a3) (impl_Cost.f (k + 1) a0 a1 a2 a3) := by
 intro a0 a1 a2 a3 k
 obtain ⟨ih0, ih1, ih2, ih3⟩ := impl_Cost.mono_l k
 unfold impl_Cost.f
 repeat' first
   | (with_reducible exact ih0 _ _ _ _ _)
   | (with_reducible exact ih1 _ _ _ _ _ _ _)
   | (with_reducible exact ih2 _ _ _ _ _ _ _ _ _)
   | (with_reducible exact ih3 _ _ _ _ _ _ _ _ _ _ _)
   | (with_reducible exact impl_StateOk.mono _ _ _ _)
   | (with_reducible exact impl_can.mono _ _ _ _ _)
   | (with_reducible exact impl_find.mono _ _ _ _ _)
   | (with_reducible exact impl_step.mono _ _ _ _ _)
   | (with_reducible exact LeO.refl _)
   | (with_reducible exact LeO.none _)
   | (with_reducible refine LeO.ite ?_ ?_)
   | (with_reducible refine LeO.bind ?_ (fun _ => ?_))
   | exact ih0 _ _ _ _ _
   | exact ih1 _ _ _ _ _ _ _
   | exact ih2 _ _ _ _ _ _ _ _ _
   | exact ih3 _ _ _ _ _ _ _ _ _ _ _
   | exact impl_StateOk.mono _ _ _ _
   | exact impl_can.mono _ _ _ _ _
   | exact impl_find.mono _ _ _ _ _
   | exact impl_step.mono _ _ _ _ _
   | exact LeO.none _
   | refine LeO.ite ?_ ?_
   | refine LeO.bind ?_ (fun _ => ?_)

/-! ### laws_wInts: function 21 -/
def laws_wInts.l0 : Nat → List Int → List Int → Int → Int → Option (Bool)
 | 0, _, _, _, _ => none
 | k + 1, x0, x1, x12, x13 => if x13 < x12 then (if 0 ≤ x13 then (if x13 < (x0.length : Int) then (if x13 < (x1.length : Int) then (if (rd x0 x13) = (rd x1 x13) then (laws_wInts.l0 k x0 x1 x12 (wrap64 (x13 + 1))) else (some false)) else (none)) else (none)) else (none)) else (some true)
def laws_wInts.f (k : Nat) (l0 : List Int) (l1 : List Int) : Option (Bool) := if (l0.length : Int) = (l1.length : Int) then (laws_wInts.l0 k l0 l1 (l0.length : Int) 0) else (some false)
theorem laws_wInts.mono_l : ∀ k, (∀ y0 y1 y2 y3, LeO (laws_wInts.l0 k y0 y1 y2 y3) (laws_wInts.l0 (k + 1) y0 y1 y2 y3))
 | 0 => fun _ _ _ _ r h => by simp [laws_wInts.l0] at h
 | k + 1 => by
  have ih0 := laws_wInts.mono_l k
  ·intro y0 y1 y2 y3
   unfold laws_wInts.l0
   repeat' with_reducible first | exact ih0 _ _ _ _ | exact LeO.refl _ | exact LeO.none _ | refine LeO.ite ?_ ?_ | refine LeO.bind ?_ (fun _ => ?_)
theorem laws_wInts.mono : ∀ a0 a1 k, LeO (laws_wInts.f k a0 a1) (laws_wInts.f (k + 1) a0 a1) := by
 intro a0 a1 k
 have ih0 := laws_wInts.mono_l k
 unfold laws_wInts.f
 repeat' with_reducible first | exact ih0 _ _ _ _ | exact LeO.refl _ | exact LeO.none _ | refine LeO.ite ?_ ?_ | refine LeO.bind ?_ (fun _ => ?_)
set_option maxHeartbeats 8000000 in
set_option maxRecDepth 100000 in
theorem laws_wInts.calls (k : Nat) (A0 : Option Addr) (c0 : Nat) (l0 : List Int) (A1 : Option Addr) (c1 : Nat) (l1 : List Int) (r : Bool) (w : World) (hr0 : Kd.C (Kd.int .i64) w A0 l0.length l0) (hc0 : l0.length ≤ c0) (hr1 : Kd.C (Kd.int .i64) w A1 l1.length l1) (hc1 : l1.length ≤ c1) (h : laws_wInts.f k l0 l1 = some r) :
  Calls Try.prog 21 #[.slice A0 l0.length c0, .slice A1 l1.length c1] w fun e w' => e = .returned (.bool r) ∧ Drawn0 w w' := by
 have HR0 := K_ hr0
 have HC0 := K_ hc0
 clear hr0 hc0
 have HR1 := K_ hr1
 have HC1 := K_ hc1
 clear hr1 hc1
 unfold laws_wInts.f at h
 have H := h
 clear h
 replace H := ps_ H
 rcases H with ⟨c3, H⟩ | ⟨c3, H⟩
 case inr =>
  have c3b0 := beq_eq_false_iff_ne.mpr c3
  have c3b1 := bne_iff_ne.mpr c3
  have c3b2 : (l0.length == l1.length) = false := by first | simpa using c3 | (simp at c3 ⊢; omega)
  obtain rfl := Option.some.inj H
  go_enter Try.func21, Try.ntmps21
  go_wp2
  repeat (go_quiet (fail); try go_wp2)
  go_ret
  exact ⟨by first | rfl | (simp; done) | (simp [*]; done), by repeat (first | exact Drawn0.refl _ | apply Drawn0.step)⟩
 have c3b0 := beq_iff_eq.mpr c3
 have c3b1 := bne_eq_false_iff_eq.mpr c3
 have c3b2 : (l0.length == l1.length) = true := by first | simpa using c3 | (simp at c3 ⊢; omega)
 clear c3
 have H' := K_ H
 clear H
 go_enter Try.func21, Try.ntmps21
 go_wp2
 repeat (go_quiet (fail); try go_wp2)
 go_loopg [13] k (fun kq v13 w' => ∃ (x13_1 : Int), v13 = .int .i64 x13_1 ∧ Aside0 (laws_wInts.l0 kq l0 l1 (l0.length : Int) x13_1 = some r) ∧ Aside0 (kq ≤ k) ∧ Drawn0 w w')
 case atStart => exact ⟨(0), rfl, H', ⟨Nat.le_refl _⟩, by repeat (first | exact Drawn0.refl _ | apply Drawn0.step)⟩
 case round =>
  clear H'
  clear c3b0 c3b1 c3b2
  obtain ⟨x13_1, rfl, HA, HK1, ⟨m1, rfl⟩⟩ := hrel
  cases gk with
  | zero => exact absurd HA.out (by simp [laws_wInts.l0])
  | succ k1 =>
   have H := HA.out
   clear HA
   simp only [laws_wInts.l0] at H
   replace H := ds_ H
   rcases H with ⟨c4b0, H⟩ | ⟨c4b0, H⟩
   case inr =>
    obtain rfl := Option.some.inj H
    go_wp2
    repeat (go_quiet (fail); try go_wp2)
    go_ret
    exact ⟨by first | rfl | (simp; done) | (simp [*]; done), by repeat (first | exact Drawn0.refl _ | apply Drawn0.step)⟩
   replace H := dn_ H
   obtain ⟨c5b0, H⟩ := H
   replace H := dn_ H
   obtain ⟨c6b0, H⟩ := H
   replace H := dn_ H
   obtain ⟨c7b0, H⟩ := H
   replace H := ps_ H
   rcases H with ⟨c8, H⟩ | ⟨c8, H⟩
   case inr =>
    have c8b0 := beq_eq_false_iff_ne.mpr c8
    have c8b1 := bne_iff_ne.mpr c8
    obtain rfl := Option.some.inj H
    have p430 : 0 ≤ (x13_1 : Int) := of_decide_eq_true (by assumption)
    have q430 : x13_1 < (l0.length : Int) := of_decide_eq_true (by assumption)
    obtain ⟨ad430, e430, hx430_0⟩ := Kd.at_int HR0.out x13_1 p430 q430
    cases e430
    replace p430 := eq_true p430
    replace q430 := eq_true q430
    have p431 : 0 ≤ (x13_1 : Int) := of_decide_eq_true (by assumption)
    have q431 : x13_1 < (l1.length : Int) := of_decide_eq_true (by assumption)
    obtain ⟨ad431, e431, hx431_0⟩ := Kd.at_int HR1.out x13_1 p431 q431
    cases e431
    replace p431 := eq_true p431
    replace q431 := eq_true q431
    go_wp2
    repeat (go_quiet (fail); try go_wp2)
    go_ret
    exact ⟨by first | rfl | (simp; done) | (simp [*]; done), by repeat (first | exact Drawn0.refl _ | apply Drawn0.step)⟩
   have c8b0 := beq_iff_eq.mpr c8
   have c8b1 := bne_eq_false_iff_eq.mpr c8
   clear c8
   have H' := K_ H
   clear H
   have p430 : 0 ≤ (x13_1 : Int) := of_decide_eq_true (by assumption)
   have q430 : x13_1 < (l0.length : Int) := of_decide_eq_true (by assumption)
   obtain ⟨ad430, e430, hx430_0⟩ := Kd.at_int HR0.out x13_1 p430 q430
   cases e430
   replace p430 := eq_true p430
   replace q430 := eq_true q430
   have p431 : 0 ≤ (x13_1 : Int) := of_decide_eq_true (by assumption)
   have q431 : x13_1 < (l1.length : Int) := of_decide_eq_true (by assumption)
   obtain ⟨ad431, e431, hx431_0⟩ := Kd.at_int HR1.out x13_1 p431 q431
   cases e431
   replace p431 := eq_true p431
   replace q431 := eq_true q431
   go_wp2
   repeat (go_quiet (fail); try go_wp2)
   go_roundg k1
   case measure => have := HK1.out; omega
   case rel => exact ⟨(wrap64 (x13_1 + 1)), rfl, H', ⟨by have := HK1.out; omega⟩, by repeat (first | exact Drawn0.refl _ | apply Drawn0.step)⟩

/-! ### laws_wState: function 18 -/
mutual
def laws_wState.j0 : Nat → Bool → List Int → List (S35) → List Int → List Int → List (S35) → List Int → Option (Bool)
 | 0, _, _, _, _, _, _, _ => none
 | k + 1, x30, x433000, x433001, x433002, x434000, x434001, x434002 => if x30 = true then (some false) else (laws_wState.l0 k (x433001.length : Int) 0 x433000 x433001 x433002 x434000 x434001 x434002)
def laws_wState.l0 : Nat → Int → Int → List Int → List (S35) → List Int → List Int → List (S35) → List Int → Option (Bool)
 | 0, _, _, _, _, _, _, _, _ => none
 | k + 1, x33, x34, x433000, x433001, x433002, x434000, x434001, x434002 => if x34 < x33 then (if 0 ≤ x34 then (if x34 < (x433001.length : Int) then (if x34 < (x434001.length : Int) then (if ((rd_T35 x433001 x34).f0) = ((rd_T35 x434001 x34).f0) then (if ((rd_T35 x433001 x34).f2) = ((rd_T35 x434001 x34).f2) then ((laws_wInts.f k ((rd_T35 x433001 x34).f1) ((rd_T35 x434001 x34).f1)).bind fun t440 => (if t440 = true then (laws_wState.l0 k x33 (wrap64 (x34 + 1)) x433000 x433001 x433002 x434000 x434001 x434002) else (some false))) else (some false)) else (some false)) else (none)) else (none)) else (none)) else (some true)
end
def laws_wState.f (k : Nat) (l0_0 : List Int) (l0_1 : List (S35)) (l0_2 : List Int) (l1_0 : List Int) (l1_1 : List (S35)) (l1_2 : List Int) : Option (Bool) := (laws_wInts.f k l0_0 l1_0).bind fun t434 => (if t434 = true then ((laws_wInts.f k l0_2 l1_2).bind fun t435 => (if t435 = true then (laws_wState.j0 k ((l0_1.length : Int) != (l1_1.length : Int)) l0_0 l0_1 l0_2 l1_0 l1_1 l1_2) else (laws_wState.j0 k true l0_0 l0_1 l0_2 l1_0 l1_1 l1_2))) else (laws_wState.j0 k true l0_0 l0_1 l0_2 l1_0 l1_1 l1_2))
theorem laws_wState.mono_l : ∀ k, (∀ y0 y1 y2 y3 y4 y5 y6, LeO (laws_wState.j0 k y0 y1 y2 y3 y4 y5 y6) (laws_wState.j0 (k + 1) y0 y1 y2 y3 y4 y5 y6)) ∧ (∀ y0 y1 y2 y3 y4 y5 y6 y7, LeO (laws_wState.l0 k y0 y1 y2 y3 y4 y5 y6 y7) (laws_wState.l0 (k + 1) y0 y1 y2 y3 y4 y5 y6 y7))
 | 0 => ⟨fun _ _ _ _ _ _ _ r h => by simp [laws_wState.j0] at h, fun _ _ _ _ _ _ _ _ r h => by simp [laws_wState.l0] at h⟩
 | k + 1 => by
  obtain ⟨ih0, ih1⟩ := laws_wState.mono_l k
  refine ⟨?_, ?_⟩
  ·intro y0 y1 y2 y3 y4 y5 y6
   unfold laws_wState.j0
   repeat' first
   | (with_reducible exact ih0 _ _ _ _ _ _ _)
   | (with_reducible exact ih1 _ _ _ _ _ _ _ _)
   | (with_reducible exact laws_wInts.mono _ _ _)
   | (with_reducible exact LeO.refl _)
   | (with_reducible exact LeO.none _)
   | (with_reducible refine LeO.ite ?_ ?_)
   | (with_reducible refine LeO.bind ?_ (fun _ => ?_))
   | exact ih0 _ _ _ _ _ _ _
   | exact ih1 _ _ _ _ _ _ _ _
   | exact laws_wInts.mono _ _ _
   | exact LeO.none _
   | refine LeO.ite ?_ ?_
   | refine LeO.bind ?_ (fun _ => ?_)
  ·intro y0 y1 y2 y3 y4 y5 y6 y7
   unfold laws_wState.l0
   repeat' first
   | (with_reducible exact ih0 _ _ _ _ _ _ _)
   | (with_reducible exact ih1 _ _ _ _ _ _ _ _)
   | (with_reducible exact laws_wInts.mono _ _ _)
   | (with_reducible exact LeO.refl _)
   | (with_reducible exact LeO.none _)
   | (with_reducible refine LeO.ite ?_ ?_)
   | (with_reducible refine LeO.bind ?_ (fun _ => ?_))
   | exact ih0 _ _ _ _ _ _ _
   | exact ih1 _ _ _ _ _ _ _ _
   | exact laws_wInts.mono _ _ _
   | exact LeO.none _
   | refine LeO.ite ?_ ?_
   | refine LeO.bind ?_ (fun _ => ?_)
theorem laws_wState.mono : ∀ a0 a1 a2 a3 a4 a5 k, LeO (laws_wState.f k a0 a1 a2 a3 a4 a5) (laws_wState.f (k + 1) a0 a1 a2 a3 a4 a5) := by
 intro a0 a1 a2 a3 a4 a5 k
 obtain ⟨ih0, ih1⟩ := laws_wState.mono_l k
 unfold laws_wState.f
 repeat' first
   | (with_reducible exact ih0 _ _ _ _ _ _ _)
   | (with_reducible exact ih1 _ _ _ _ _ _ _ _)
   | (with_reducible exact laws_wInts.mono _ _ _)
   | (with_reducible exact LeO.refl _)
   | (with_reducible exact LeO.none _)
   | (with_reducible refine LeO.ite ?_ ?_)
   | (with_reducible refine LeO.bind ?_ (fun _ => ?_))
   | exact ih0 _ _ _ _ _ _ _
   | exact ih1 _ _ _ _ _ _ _ _
   | exact laws_wInts.mono _ _ _
   | exact LeO.none _
   | refine LeO.ite ?_ ?_
   | refine LeO.bind ?_ (fun _ => ?_)
set_option maxHeartbeats 8000000 in
set_option maxRecDepth 100000 in
theorem laws_wState.calls (k : Nat) (A0_0 : Option Addr) (c0_0 : Nat) (l0_0 : List Int) (A0_1 : Option Addr) (c0_1 : Nat) (l0_1 : List (S35)) (A0_2 : Option Addr) (c0_2 : Nat) (l0_2 : List Int) (A1_0 : Option Addr) (c1_0 : Nat) (l1_0 : List Int) (A1_1 : Option Addr) (c1_1 : Nat) (l1_1 : List (S35)) (A1_2 : Option Addr) (c1_2 : Nat) (l1_2 : List Int) (r : Bool) (w : World) (hr0_0 : Kd.C (Kd.int .i64) w A0_0 l0_0.length l0_0) (hc0_0 : l0_0.length ≤ c0_0) (hr0_1 : Kd.C k35 w A0_1 l0_1.length l0_1) (hc0_1 : l0_1.length ≤ c0_1) (hr0_2 : Kd.C (Kd.int .i64) w A0_2 l0_2.length l0_2) (hc0_2 : l0_2.length ≤ c0_2) (hr1_0 : Kd.C (Kd.int .i64) w A1_0 l1_0.length l1_0) (hc1_0 : l1_0.length ≤ c1_0) (hr1_1 : Kd.C k35 w A1_1 l1_1.length l1_1) (hc1_1 : l1_1.length ≤ c1_1) (hr1_2 : Kd.C (Kd.int .i64) w A1_2 l1_2.length l1_2) (hc1_2 : l1_2.length ≤ c1_2) (h : laws_wState.f k l0_0 l0_1 l0_2 l1_0 l1_1 l1_2 = some r) :
  Calls Try.prog 18 #[.agg #[.slice A0_0 l0_0.length c0_0, .slice A0_1 l0_1.length c0_1, .slice A0_2 l0_2.length c0_2], .agg #[.slice A1_0 l1_0.length c1_0, .slice A1_1 l1_1.length c1_1, .slice A1_2 l1_2.length c1_2]] w fun e w' => e = .returned (.bool r) ∧ Below w.heap.size w w' := by
 have hu26 := Try.underlying26
 have hu35 := Try.underlying35
 have HR0_0 := Aside0.mk hr0_0
 have HC0_0 := Aside0.mk hc0_0
 clear hr0_0 hc0_0
 have HR0_1 := Aside0.mk hr0_1
 have HC0_1 := Aside0.mk hc0_1
 clear hr0_1 hc0_1
 have HR0_2 := Aside0.mk hr0_2
 have HC0_2 := Aside0.mk hc0_2
 clear hr0_2 hc0_2
 have HR1_0 := Aside0.mk hr1_0
 have HC1_0 := Aside0.mk hc1_0
 clear hr1_0 hc1_0
 have HR1_1 := Aside0.mk hr1_1
 have HC1_1 := Aside0.mk hc1_1
 clear hr1_1 hc1_1
 have HR1_2 := Aside0.mk hr1_2
 have HC1_2 := Aside0.mk hc1_2
 clear hr1_2 hc1_2
 have HB := Aside0.mk (Below.refl w.heap.size w)
 have H : ((laws_wInts.f k l0_0 l1_0).bind fun t434 => (if t434 = true then ((laws_wInts.f k l0_2 l1_2).bind fun t435 => (if t435 = true then (laws_wState.j0 k ((l0_1.length : Int) != (l1_1.length : Int)) l0_0 l0_1 l0_2 l1_0 l1_1 l1_2) else (laws_wState.j0 k true l0_0 l0_1 l0_2 l1_0 l1_1 l1_2))) else (laws_wState.j0 k true l0_0 l0_1 l0_2 l1_0 l1_1 l1_2))) = some r := h
 clear h
 have HC3 := Aside0.mk H
 clear H
 go_enter Try.func18, Try.ntmps18
 go_upto_region 1 with (first | ((with_reducible refine gate_dst (N := 2) rfl ?_); (try (refine gate_guard (by rfl) ?_; dsimp only)); refine box_event ?hg (N := 2) ?hd (cs := #[.slice A0_0 l0_0.length c0_0, .slice A0_1 l0_1.length c0_1, .slice A0_2 l0_2.length c0_2]) (t := 26) ?hr ?_; (case hd => rfl); (case hg => rfl); (case hr => first | (go_simp; done) | (go_simp; rfl)); intro gb432 hg w4 hbox hb; have n0_ := Aside0.mk (below_step (by exact HB.out) hb); have n1_ := Aside0.mk (hbox); have n2_ := Aside0.mk ((by rw [hg]; exact (below_size (by exact HB.out)) : w.heap.size ≤ gb432)); have n3_ := Aside0.mk ((by rw [hg]; exact (below_size (by exact HB.out)) : w.heap.size ≤ gb432)); clear HB; have HB := n0_; have BK432 := n1_; have GW432 := n2_; have GE432 := n3_; clear n0_ n1_ n2_ n3_; clear hb hbox hg) | ((with_reducible refine gate_dst (N := 3) rfl ?_); (try (refine gate_guard (by rfl) ?_; dsimp only)); refine box_event ?hg (N := 3) ?hd (cs := #[.slice A1_0 l1_0.length c1_0, .slice A1_1 l1_1.length c1_1, .slice A1_2 l1_2.length c1_2]) (t := 26) ?hr ?_; (case hd => rfl); (case hg => rfl); (case hr => first | (go_simp; done) | (go_simp; rfl)); intro gb433 hg w5 hbox hb; have n0_ := Aside0.mk (blk_below (g := gb432) (o := .cells #[.slice A0_0 l0_0.length c0_0, .slice A0_1 l0_1.length c0_1, .slice A0_2 l0_2.length c0_2] 26 (0, 0)) (by exact BK432.out) hb); have n1_ := Aside0.mk (below_step (by exact HB.out) hb); have n2_ := Aside0.mk (hbox); have n3_ := Aside0.mk ((by rw [hg]; exact (below_size (by exact HB.out)) : w.heap.size ≤ gb433)); have n4_ := Aside0.mk ((by rw [hg]; exact (below_size (by exact HB.out)) : w.heap.size ≤ gb433)); have n5_ := Aside0.mk ((by rw [hg]; exact Nat.ne_of_lt (blk_lt (g := gb432) (o := .cells #[.slice A0_0 l0_0.length c0_0, .slice A0_1 l0_1.length c0_1, .slice A0_2 l0_2.length c0_2] 26 (0, 0)) (by exact BK432.out)) : gb432 ≠ gb433)); have n6_ := Aside0.mk ((by rw [hg]; exact Nat.ne_of_gt (blk_lt (g := gb432) (o := .cells #[.slice A0_0 l0_0.length c0_0, .slice A0_1 l0_1.length c0_1, .slice A0_2 l0_2.length c0_2] 26 (0, 0)) (by exact BK432.out)) : gb433 ≠ gb432)); clear BK432; clear HB; have BK432 := n0_; have HB := n1_; have BK433 := n2_; have GW433 := n3_; have GE433 := n4_; have NB432_433 := n5_; have NB433_432 := n6_; clear n0_ n1_ n2_ n3_ n4_ n5_ n6_; clear hb hbox hg))
 (try simp only [Act.put, List.setIfInBounds_toArray, List.set_cons_zero, List.set_cons_succ])
 go_cut [30] (fun v30 wc => ∃ (kq : Nat) (x30_2 : Bool), v30 = .bool x30_2 ∧ Aside0 (laws_wState.j0 kq x30_2 l0_0 l0_1 l0_2 l1_0 l1_1 l1_2 = some r) ∧ Aside0 (kq ≤ k) ∧ Aside0 (wc.heap[gb432]? = some (.cells #[(.slice A0_0 l0_0.length c0_0), (.slice A0_1 l0_1.length c0_1), (.slice A0_2 l0_2.length c0_2)] 26 (0, 0))) ∧ Aside0 (wc.heap[gb433]? = some (.cells #[(.slice A1_0 l1_0.length c1_0), (.slice A1_1 l1_1.length c1_1), (.slice A1_2 l1_2.length c1_2)] 26 (0, 0))) ∧ Aside0 (Below w.heap.size w wc))
 case first =>
  have H := HC3.out
  clear HC3
  replace H := Option.bind_eq_some_iff.mp H
  obtain ⟨t434, A60, H⟩ := H
  replace H : (if t434 = true then ((laws_wInts.f k l0_2 l1_2).bind fun t435 => (if t435 = true then (laws_wState.j0 k ((l0_1.length : Int) != (l1_1.length : Int)) l0_0 l0_1 l0_2 l1_0 l1_1 l1_2) else (laws_wState.j0 k true l0_0 l0_1 l0_2 l1_0 l1_1 l1_2))) else (laws_wState.j0 k true l0_0 l0_1 l0_2 l1_0 l1_1 l1_2)) = some r := H
  have A6 := Aside0.mk A60
  clear A60
  by_cases c7 : t434 = true
  ·subst c7
   have H1 : ((laws_wInts.f k l0_2 l1_2).bind fun t435 => (if t435 = true then (laws_wState.j0 k ((l0_1.length : Int) != (l1_1.length : Int)) l0_0 l0_1 l0_2 l1_0 l1_1 l1_2) else (laws_wState.j0 k true l0_0 l0_1 l0_2 l1_0 l1_1 l1_2))) = some r := by rw [if_pos rfl] at H; exact H
   clear H
   have H := H1
   clear H1
   replace H := Option.bind_eq_some_iff.mp H
   obtain ⟨t435, A80, H⟩ := H
   replace H : (if t435 = true then (laws_wState.j0 k ((l0_1.length : Int) != (l1_1.length : Int)) l0_0 l0_1 l0_2 l1_0 l1_1 l1_2) else (laws_wState.j0 k true l0_0 l0_1 l0_2 l1_0 l1_1 l1_2)) = some r := H
   have A8 := Aside0.mk A80
   clear A80
   by_cases c9 : t435 = true
   ·subst c9
    have H1 : (laws_wState.j0 k ((l0_1.length : Int) != (l1_1.length : Int)) l0_0 l0_1 l0_2 l1_0 l1_1 l1_2) = some r := by rw [if_pos rfl] at H; exact H
    clear H
    have H := H1
    clear H1
    have H' := Aside0.mk H
    clear H
    have hnb10 := NB432_433.out
    have hnc10 := NB433_432.out
    have hcz11_0 : w5.cell? ⟨gb432, 0, none⟩ = some (.slice A0_0 l0_0.length c0_0) := (blk_cell BK432.out 0).trans rfl
    have hcz11_1 : w5.cell? ⟨gb432, 1, none⟩ = some (.slice A0_1 l0_1.length c0_1) := (blk_cell BK432.out 1).trans rfl
    have hcz11_2 : w5.cell? ⟨gb432, 2, none⟩ = some (.slice A0_2 l0_2.length c0_2) := (blk_cell BK432.out 2).trans rfl
    have hfz11_0 := blk_frozen BK432.out 0
    have hfz11_1 := blk_frozen BK432.out 1
    have hfz11_2 := blk_frozen BK432.out 2
    have hcz12_0 : w5.cell? ⟨gb433, 0, none⟩ = some (.slice A1_0 l1_0.length c1_0) := (blk_cell BK433.out 0).trans rfl
    have hcz12_1 : w5.cell? ⟨gb433, 1, none⟩ = some (.slice A1_1 l1_1.length c1_1) := (blk_cell BK433.out 1).trans rfl
    have hcz12_2 : w5.cell? ⟨gb433, 2, none⟩ = some (.slice A1_2 l1_2.length c1_2) := (blk_cell BK433.out 2).trans rfl
    have hfz12_0 := blk_frozen BK433.out 0
    have hfz12_1 := blk_frozen BK433.out 1
    have hfz12_2 := blk_frozen BK433.out 2
    go_wp2_with (first | ((with_reducible refine gate_callee (f := 21) rfl ?_); refine goesL_ (some 12) rfl rfl Try.func21 (by kernel_rfl) rfl #[.slice A0_0 l0_0.length c0_0, .slice A1_0 l1_0.length c1_0] rfl (by (try simp only [List.map_toArray, List.map_cons, List.map_nil]); first | done | rfl | (simp only [List.length_drop, List.length_take]; rfl)) ?_; (with_reducible refine (laws_wInts.calls k _ _ l0_0 _ _ l1_0 true _ ?side1 ?side2 ?side3 ?side4 A6.out).mono ?_); (case side1 => repeat (first | exact (Kd.C_below HR0_0.out HB.out) | (with_reducible refine Kd.C_alloc ?_ _) | (with_reducible refine Kd.C_drewN ?_ _) | (with_reducible refine Kd.C_drew ?_))); (case side2 => exact HC0_0.out); (case side3 => repeat (first | exact (Kd.C_below HR1_0.out HB.out) | (with_reducible refine Kd.C_alloc ?_ _) | (with_reducible refine Kd.C_drewN ?_ _) | (with_reducible refine Kd.C_drew ?_))); (case side4 => exact HC1_0.out); rintro e w' ⟨rfl, ⟨nd, rfl⟩⟩; refine ⟨_, rfl, ?_⟩) | (go_at_call 21; (with_reducible refine (laws_wInts.calls k _ _ l0_2 _ _ l1_2 true _ ?side1 ?side2 ?side3 ?side4 A8.out).mono ?_); (case side1 => repeat (first | exact (Kd.C_below HR0_2.out (by repeat (first | (with_reducible first | exact HB.out | apply below_alloc | apply pw_below_drewN | apply below_drew1 | refine below_set ?_ GE432.out | refine below_set ?_ GE433.out) | exact HB.out))) | (with_reducible refine Kd.C_alloc ?_ _) | (with_reducible refine Kd.C_drewN ?_ _) | (with_reducible refine Kd.C_drew ?_))); (case side2 => exact HC0_2.out); (case side3 => repeat (first | exact (Kd.C_below HR1_2.out (by repeat (first | (with_reducible first | exact HB.out | apply below_alloc | apply pw_below_drewN | apply below_drew1 | refine below_set ?_ GE432.out | refine below_set ?_ GE433.out) | exact HB.out))) | (with_reducible refine Kd.C_alloc ?_ _) | (with_reducible refine Kd.C_drewN ?_ _) | (with_reducible refine Kd.C_drew ?_))); (case side4 => exact HC1_2.out); rintro e w' ⟨rfl, ⟨nd, rfl⟩⟩))
    go_meet
    case rel => exact ⟨_, (((l0_1.length : Int) != (l1_1.length : Int))), (by first | rfl | (simp; done) | (simp [*]; done)), H', ⟨by first | omega | exact Nat.le_refl _⟩, ⟨by (with_reducible repeat (first | refine blk_drewN ?_ _ | refine blk_drew ?_ | refine blk_alloc ?_ _)); exact BK432.out⟩, ⟨by (with_reducible repeat (first | refine blk_drewN ?_ _ | refine blk_drew ?_ | refine blk_alloc ?_ _)); exact BK433.out⟩, ⟨by repeat (first | (with_reducible first | exact HB.out | apply below_alloc | apply pw_below_drewN | apply below_drew1 | refine below_set ?_ GE432.out | refine below_set ?_ GE433.out) | exact HB.out)⟩⟩
   ·replace c9 := Bool.eq_false_iff.mpr c9
    subst c9
    have H1 : (laws_wState.j0 k true l0_0 l0_1 l0_2 l1_0 l1_1 l1_2) = some r := by rw [if_neg (show ¬ (false = true) by decide)] at H; exact H
    clear H
    have H := H1
    clear H1
    have H' := Aside0.mk H
    clear H
    have hnb13 := NB432_433.out
    have hnc13 := NB433_432.out
    have hcz14_0 : w5.cell? ⟨gb432, 0, none⟩ = some (.slice A0_0 l0_0.length c0_0) := (blk_cell BK432.out 0).trans rfl
    have hcz14_1 : w5.cell? ⟨gb432, 1, none⟩ = some (.slice A0_1 l0_1.length c0_1) := (blk_cell BK432.out 1).trans rfl
    have hcz14_2 : w5.cell? ⟨gb432, 2, none⟩ = some (.slice A0_2 l0_2.length c0_2) := (blk_cell BK432.out 2).trans rfl
    have hfz14_0 := blk_frozen BK432.out 0
    have hfz14_1 := blk_frozen BK432.out 1
    have hfz14_2 := blk_frozen BK432.out 2
    have hcz15_0 : w5.cell? ⟨gb433, 0, none⟩ = some (.slice A1_0 l1_0.length c1_0) := (blk_cell BK433.out 0).trans rfl
    have hcz15_1 : w5.cell? ⟨gb433, 1, none⟩ = some (.slice A1_1 l1_1.length c1_1) := (blk_cell BK433.out 1).trans rfl
    have hcz15_2 : w5.cell? ⟨gb433, 2, none⟩ = some (.slice A1_2 l1_2.length c1_2) := (blk_cell BK433.out 2).trans rfl
    have hfz15_0 := blk_frozen BK433.out 0
    have hfz15_1 := blk_frozen BK433.out 1
    have hfz15_2 := blk_frozen BK433.out 2
    go_wp2_with (first | ((with_reducible refine gate_callee (f := 21) rfl ?_); refine goesL_ (some 12) rfl rfl Try.func21 (by kernel_rfl) rfl #[.slice A0_0 l0_0.length c0_0, .slice A1_0 l1_0.length c1_0] rfl (by (try simp only [List.map_toArray, List.map_cons, List.map_nil]); first | done | rfl | (simp only [List.length_drop, List.length_take]; rfl)) ?_; (with_reducible refine (laws_wInts.calls k _ _ l0_0 _ _ l1_0 true _ ?side1 ?side2 ?side3 ?side4 A6.out).mono ?_); (case side1 => repeat (first | exact (Kd.C_below HR0_0.out HB.out) | (with_reducible refine Kd.C_alloc ?_ _) | (with_reducible refine Kd.C_drewN ?_ _) | (with_reducible refine Kd.C_drew ?_))); (case side2 => exact HC0_0.out); (case side3 => repeat (first | exact (Kd.C_below HR1_0.out HB.out) | (with_reducible refine Kd.C_alloc ?_ _) | (with_reducible refine Kd.C_drewN ?_ _) | (with_reducible refine Kd.C_drew ?_))); (case side4 => exact HC1_0.out); rintro e w' ⟨rfl, ⟨nd, rfl⟩⟩; refine ⟨_, rfl, ?_⟩) | (go_at_call 21; (with_reducible refine (laws_wInts.calls k _ _ l0_2 _ _ l1_2 false _ ?side1 ?side2 ?side3 ?side4 A8.out).mono ?_); (case side1 => repeat (first | exact (Kd.C_below HR0_2.out (by repeat (first | (with_reducible first | exact HB.out | apply below_alloc | apply pw_below_drewN | apply below_drew1 | refine below_set ?_ GE432.out | refine below_set ?_ GE433.out) | exact HB.out))) | (with_reducible refine Kd.C_alloc ?_ _) | (with_reducible refine Kd.C_drewN ?_ _) | (with_reducible refine Kd.C_drew ?_))); (case side2 => exact HC0_2.out); (case side3 => repeat (first | exact (Kd.C_below HR1_2.out (by repeat (first | (with_reducible first | exact HB.out | apply below_alloc | apply pw_below_drewN | apply below_drew1 | refine below_set ?_ GE432.out | refine below_set ?_ GE433.out) | exact HB.out))) | (with_reducible refine Kd.C_alloc ?_ _) | (with_reducible refine Kd.C_drewN ?_ _) | (with_reducible refine Kd.C_drew ?_))); (case side4 => exact HC1_2.out); rintro e w' ⟨rfl, ⟨nd, rfl⟩⟩))
    go_meet
    case rel => exact ⟨_, (true), (by first | rfl | (simp; done) | (simp [*]; done)), H', ⟨by first | omega | exact Nat.le_refl _⟩, ⟨by (with_reducible repeat (first | refine blk_drewN ?_ _ | refine blk_drew ?_ | refine blk_alloc ?_ _)); exact BK432.out⟩, ⟨by (with_reducible repeat (first | refine blk_drewN ?_ _ | refine blk_drew ?_ | refine blk_alloc ?_ _)); exact BK433.out⟩, ⟨by repeat (first | (with_reducible first | exact HB.out | apply below_alloc | apply pw_below_drewN | apply below_drew1 | refine below_set ?_ GE432.out | refine below_set ?_ GE433.out) | exact HB.out)⟩⟩
  ·replace c7 := Bool.eq_false_iff.mpr c7
   subst c7
   have H1 : (laws_wState.j0 k true l0_0 l0_1 l0_2 l1_0 l1_1 l1_2) = some r := by rw [if_neg (show ¬ (false = true) by decide)] at H; exact H
   clear H
   have H := H1
   clear H1
   have H' := Aside0.mk H
   clear H
   have hnb16 := NB432_433.out
   have hnc16 := NB433_432.out
   have hcz17_0 : w5.cell? ⟨gb432, 0, none⟩ = some (.slice A0_0 l0_0.length c0_0) := (blk_cell BK432.out 0).trans rfl
   have hcz17_1 : w5.cell? ⟨gb432, 1, none⟩ = some (.slice A0_1 l0_1.length c0_1) := (blk_cell BK432.out 1).trans rfl
   have hcz17_2 : w5.cell? ⟨gb432, 2, none⟩ = some (.slice A0_2 l0_2.length c0_2) := (blk_cell BK432.out 2).trans rfl
   have hfz17_0 := blk_frozen BK432.out 0
   have hfz17_1 := blk_frozen BK432.out 1
   have hfz17_2 := blk_frozen BK432.out 2
   have hcz18_0 : w5.cell? ⟨gb433, 0, none⟩ = some (.slice A1_0 l1_0.length c1_0) := (blk_cell BK433.out 0).trans rfl
   have hcz18_1 : w5.cell? ⟨gb433, 1, none⟩ = some (.slice A1_1 l1_1.length c1_1) := (blk_cell BK433.out 1).trans rfl
   have hcz18_2 : w5.cell? ⟨gb433, 2, none⟩ = some (.slice A1_2 l1_2.length c1_2) := (blk_cell BK433.out 2).trans rfl
   have hfz18_0 := blk_frozen BK433.out 0
   have hfz18_1 := blk_frozen BK433.out 1
   have hfz18_2 := blk_frozen BK433.out 2
   go_wp2_with (first | ((with_reducible refine gate_callee (f := 21) rfl ?_); refine goesL_ (some 12) rfl rfl Try.func21 (by kernel_rfl) rfl #[.slice A0_0 l0_0.length c0_0, .slice A1_0 l1_0.length c1_0] rfl (by (try simp only [List.map_toArray, List.map_cons, List.map_nil]); first | done | rfl | (simp only [List.length_drop, List.length_take]; rfl)) ?_; (with_reducible refine (laws_wInts.calls k _ _ l0_0 _ _ l1_0 false _ ?side1 ?side2 ?side3 ?side4 A6.out).mono ?_); (case side1 => repeat (first | exact (Kd.C_below HR0_0.out HB.out) | (with_reducible refine Kd.C_alloc ?_ _) | (with_reducible refine Kd.C_drewN ?_ _) | (with_reducible refine Kd.C_drew ?_))); (case side2 => exact HC0_0.out); (case side3 => repeat (first | exact (Kd.C_below HR1_0.out HB.out) | (with_reducible refine Kd.C_alloc ?_ _) | (with_reducible refine Kd.C_drewN ?_ _) | (with_reducible refine Kd.C_drew ?_))); (case side4 => exact HC1_0.out); rintro e w' ⟨rfl, ⟨nd, rfl⟩⟩; refine ⟨_, rfl, ?_⟩))
   go_meet
   case rel => exact ⟨_, (true), (by first | rfl | (simp; done) | (simp [*]; done)), H', ⟨by first | omega | exact Nat.le_refl _⟩, ⟨by (with_reducible repeat (first | refine blk_drewN ?_ _ | refine blk_drew ?_ | refine blk_alloc ?_ _)); exact BK432.out⟩, ⟨by (with_reducible repeat (first | refine blk_drewN ?_ _ | refine blk_drew ?_ | refine blk_alloc ?_ _)); exact BK433.out⟩, ⟨by repeat (first | (with_reducible first | exact HB.out | apply below_alloc | apply pw_below_drewN | apply below_drew1 | refine below_set ?_ GE432.out | refine below_set ?_ GE433.out) | exact HB.out)⟩⟩
 case rest =>
  clear HC3
  try clear c1
  try clear c2
  try clear p2
  try clear c7
  try clear c9
  try clear c10
  try clear c13
  try clear c16
  try clear c18
  try clear hcz11_0
  try clear hcz11_1
  try clear hcz11_2
  try clear hcz12_0
  try clear hcz12_1
  try clear hcz12_2
  try clear hcz14_0
  try clear hcz14_1
  try clear hcz14_2
  try clear hcz15_0
  try clear hcz15_1
  try clear hcz15_2
  try clear hcz17_0
  try clear hcz17_1
  try clear hcz17_2
  try clear hcz18_0
  try clear hcz18_1
  try clear hcz18_2
  try clear hfz11_0
  try clear hfz11_1
  try clear hfz11_2
  try clear hfz12_0
  try clear hfz12_1
  try clear hfz12_2
  try clear hfz14_0
  try clear hfz14_1
  try clear hfz14_2
  try clear hfz15_0
  try clear hfz15_1
  try clear hfz15_2
  try clear hfz17_0
  try clear hfz17_1
  try clear hfz17_2
  try clear hfz18_0
  try clear hfz18_1
  try clear hfz18_2
  obtain ⟨kq, x30_2, rfl, HA, HJ2, BK432, BK433, HB⟩ := hcut
  cases kq with
  | zero => exact absurd HA.out (by simp [laws_wState.j0])
  | succ kj2 =>
   have H := HA.out
   clear HA
   simp only [laws_wState.j0] at H
   by_cases c19 : x30_2 = true
   ·subst c19
    have H1 : (some false) = some r := by rw [if_pos rfl] at H; exact H
    clear H
    have H := H1
    clear H1
    obtain rfl := Option.some.inj H
    go_wp2
    go_ret
    exact ⟨by first | rfl | (simp [errW_none, errW_some] <;> rfl) | (simp [*, errW_none, errW_some] <;> rfl), by exact HB.out⟩
   ·replace c19 := Bool.eq_false_iff.mpr c19
    subst c19
    have H1 : (laws_wState.l0 kj2 (l0_1.length : Int) 0 l0_0 l0_1 l0_2 l1_0 l1_1 l1_2) = some r := by rw [if_neg (show ¬ (false = true) by decide)] at H; exact H
    clear H
    have H := H1
    clear H1
    have H' := Aside0.mk H
    clear H
    have hnb20 := NB432_433.out
    have hnc20 := NB433_432.out
    have hcz21_0 : wc.cell? ⟨gb432, 0, none⟩ = some (.slice A0_0 l0_0.length c0_0) := (blk_cell BK432.out 0).trans rfl
    have hcz21_1 : wc.cell? ⟨gb432, 1, none⟩ = some (.slice A0_1 l0_1.length c0_1) := (blk_cell BK432.out 1).trans rfl
    have hcz21_2 : wc.cell? ⟨gb432, 2, none⟩ = some (.slice A0_2 l0_2.length c0_2) := (blk_cell BK432.out 2).trans rfl
    have hfz21_0 := blk_frozen BK432.out 0
    have hfz21_1 := blk_frozen BK432.out 1
    have hfz21_2 := blk_frozen BK432.out 2
    go_wp2
    go_loopg [34] kj2 (fun kq v34 w' => ∃ (x34_2 : Int), v34 = .int .i64 x34_2 ∧ Aside0 (laws_wState.l0 kq (l0_1.length : Int) x34_2 l0_0 l0_1 l0_2 l1_0 l1_1 l1_2 = some r) ∧ Aside0 (kq ≤ kj2) ∧ Aside0 (w'.heap[gb432]? = some (.cells #[(.slice A0_0 l0_0.length c0_0), (.slice A0_1 l0_1.length c0_1), (.slice A0_2 l0_2.length c0_2)] 26 (0, 0))) ∧ Aside0 (w'.heap[gb433]? = some (.cells #[(.slice A1_0 l1_0.length c1_0), (.slice A1_1 l1_1.length c1_1), (.slice A1_2 l1_2.length c1_2)] 26 (0, 0))) ∧ Aside0 (Below w.heap.size w w'))
    case atStart => exact ⟨(0), (by first | rfl | (simp; done) | (simp [*]; done)), H', ⟨Nat.le_refl _⟩, ⟨by exact BK432.out⟩, ⟨by exact BK433.out⟩, ⟨by exact HB.out⟩⟩
    case round =>
     clear H'
     try clear c1
     try clear c2
     try clear p2
     try clear c7
     try clear c9
     try clear c10
     try clear c13
     try clear c16
     try clear c18
     try clear c19
     try clear c20
     try clear c21
     try clear hcz11_0
     try clear hcz11_1
     try clear hcz11_2
     try clear hcz12_0
     try clear hcz12_1
     try clear hcz12_2
     try clear hcz14_0
     try clear hcz14_1
     try clear hcz14_2
     try clear hcz15_0
     try clear hcz15_1
     try clear hcz15_2
     try clear hcz17_0
     try clear hcz17_1
     try clear hcz17_2
     try clear hcz18_0
     try clear hcz18_1
     try clear hcz18_2
     try clear hcz21_0
     try clear hcz21_1
     try clear hcz21_2
     try clear hfz11_0
     try clear hfz11_1
     try clear hfz11_2
     try clear hfz12_0
     try clear hfz12_1
     try clear hfz12_2
     try clear hfz14_0
     try clear hfz14_1
     try clear hfz14_2
     try clear hfz15_0
     try clear hfz15_1
     try clear hfz15_2
     try clear hfz17_0
     try clear hfz17_1
     try clear hfz17_2
     try clear hfz18_0
     try clear hfz18_1
     try clear hfz18_2
     try clear hfz21_0
     try clear hfz21_1
     try clear hfz21_2
     try clear p2
     obtain ⟨x34_2, rfl, HA, HK2, BK432, BK433, HB⟩ := hrel
     cases gk with
     | zero => exact absurd HA.out (by simp [laws_wState.l0])
     | succ k2 =>
      have H := HA.out
      clear HA
      simp only [laws_wState.l0] at H
      by_cases c22 : x34_2 < (l0_1.length : Int)
      ·rw [if_pos c22] at H
       have c22b0 : decide (x34_2 < (l0_1.length : Int)) = true := decide_eq_true c22
       clear c22
       by_cases c23 : 0 ≤ x34_2
       ·rw [if_pos c23] at H
        have c23b0 : decide (0 ≤ x34_2) = true := decide_eq_true c23
        clear c23
        by_cases c24 : x34_2 < (l0_1.length : Int)
        ·rw [if_pos c24] at H
         have c24b0 : decide (x34_2 < (l0_1.length : Int)) = true := decide_eq_true c24
         clear c24
         by_cases c25 : x34_2 < (l1_1.length : Int)
         ·rw [if_pos c25] at H
          have c25b0 : decide (x34_2 < (l1_1.length : Int)) = true := decide_eq_true c25
          clear c25
          by_cases c26 : ((rd_T35 l0_1 x34_2).f0) = ((rd_T35 l1_1 x34_2).f0)
          ·rw [if_pos c26] at H
           have c26b0 : (((rd_T35 l0_1 x34_2).f0) == ((rd_T35 l1_1 x34_2).f0)) = true := beq_iff_eq.mpr c26
           have c26b1 : (((rd_T35 l0_1 x34_2).f0) != ((rd_T35 l1_1 x34_2).f0)) = false := bne_eq_false_iff_eq.mpr c26
           clear c26
           by_cases c27 : ((rd_T35 l0_1 x34_2).f2) = ((rd_T35 l1_1 x34_2).f2)
           ·rw [if_pos c27] at H
            have c27b0 : (((rd_T35 l0_1 x34_2).f2) == ((rd_T35 l1_1 x34_2).f2)) = true := beq_iff_eq.mpr c27
            have c27b1 : (((rd_T35 l0_1 x34_2).f2) != ((rd_T35 l1_1 x34_2).f2)) = false := bne_eq_false_iff_eq.mpr c27
            clear c27
            replace H := Option.bind_eq_some_iff.mp H
            obtain ⟨t440, A280, H⟩ := H
            replace H : (if t440 = true then (laws_wState.l0 k2 (l0_1.length : Int) (wrap64 (x34_2 + 1)) l0_0 l0_1 l0_2 l1_0 l1_1 l1_2) else (some false)) = some r := H
            have A28 := Aside0.mk A280
            clear A280
            by_cases c29 : t440 = true
            ·subst c29
             have H1 : (laws_wState.l0 k2 (l0_1.length : Int) (wrap64 (x34_2 + 1)) l0_0 l0_1 l0_2 l1_0 l1_1 l1_2) = some r := by rw [if_pos rfl] at H; exact H
             clear H
             have H := H1
             clear H1
             have H' := Aside0.mk H
             clear H
             have hnb30 := NB432_433.out
             have hnc30 := NB433_432.out
             have hcz31_0 : wr.cell? ⟨gb432, 0, none⟩ = some (.slice A0_0 l0_0.length c0_0) := (blk_cell BK432.out 0).trans rfl
             have hcz31_1 : wr.cell? ⟨gb432, 1, none⟩ = some (.slice A0_1 l0_1.length c0_1) := (blk_cell BK432.out 1).trans rfl
             have hcz31_2 : wr.cell? ⟨gb432, 2, none⟩ = some (.slice A0_2 l0_2.length c0_2) := (blk_cell BK432.out 2).trans rfl
             have hfz31_0 := blk_frozen BK432.out 0
             have hfz31_1 := blk_frozen BK432.out 1
             have hfz31_2 := blk_frozen BK432.out 2
             have p436 : 0 ≤ (x34_2 : Int) := of_decide_eq_true (by assumption)
             have q436 : x34_2 < (l0_1.length : Int) := of_decide_eq_true (by assumption)
             obtain ⟨ad436, A436_1, c436_1, e436, hx436_0, hx436_1, hx436_2, hl436_1, hi436_1⟩ := at_T35 HR0_1.out x34_2 p436 q436
             cases e436
             replace hx436_0 := (HB.out.cell (World.block_lt_of_cell? w _ hx436_0)).trans hx436_0
             replace hx436_1 := (HB.out.cell (World.block_lt_of_cell? w _ hx436_1)).trans hx436_1
             replace hx436_2 := (HB.out.cell (World.block_lt_of_cell? w _ hx436_2)).trans hx436_2
             have HR436_1 := Aside0.mk hi436_1
             have HC436_1 := Aside0.mk hl436_1
             clear hi436_1 hl436_1
             replace p436 := eq_true p436
             replace q436 := eq_true q436
             go_wp2_with (first | ((with_reducible refine gate_dst (N := 6) rfl ?_); (try (refine gate_guard (by rfl) ?_; dsimp only)); refine box_event ?hg (N := 6) ?hd (cs := #[.int .i64 0, .slice none 0 0, .int .i64 0]) (t := 35) ?hr ?_; (case hd => rfl); (case hg => rfl); (case hr => first | (go_simp; done) | (go_simp; rfl)); intro gb437 hg w32 hbox hb; have n0_ := Aside0.mk (blk_below (g := gb432) (o := .cells #[.slice A0_0 l0_0.length c0_0, .slice (some ad436) l0_1.length c0_1, .slice A0_2 l0_2.length c0_2] 26 (0, 0)) (by exact BK432.out) hb); have n1_ := Aside0.mk (blk_below (g := gb433) (o := .cells #[.slice A1_0 l1_0.length c1_0, .slice A1_1 l1_1.length c1_1, .slice A1_2 l1_2.length c1_2] 26 (0, 0)) (by exact BK433.out) hb); have n2_ := Aside0.mk (below_step (by exact HB.out) hb); have n3_ := Aside0.mk (hbox); have n4_ := Aside0.mk ((by rw [hg]; exact (below_size (by exact HB.out)) : w.heap.size ≤ gb437)); have n5_ := Aside0.mk ((by rw [hg]; exact (below_size (by exact HB.out)) : w.heap.size ≤ gb437)); have n6_ := Aside0.mk ((by rw [hg]; exact Nat.ne_of_lt (blk_lt (g := gb432) (o := .cells #[.slice A0_0 l0_0.length c0_0, .slice (some ad436) l0_1.length c0_1, .slice A0_2 l0_2.length c0_2] 26 (0, 0)) (by exact BK432.out)) : gb432 ≠ gb437)); have n7_ := Aside0.mk ((by rw [hg]; exact Nat.ne_of_gt (blk_lt (g := gb432) (o := .cells #[.slice A0_0 l0_0.length c0_0, .slice (some ad436) l0_1.length c0_1, .slice A0_2 l0_2.length c0_2] 26 (0, 0)) (by exact BK432.out)) : gb437 ≠ gb432)); have n8_ := Aside0.mk ((by rw [hg]; exact Nat.ne_of_lt (blk_lt (g := gb433) (o := .cells #[.slice A1_0 l1_0.length c1_0, .slice A1_1 l1_1.length c1_1, .slice A1_2 l1_2.length c1_2] 26 (0, 0)) (by exact BK433.out)) : gb433 ≠ gb437)); have n9_ := Aside0.mk ((by rw [hg]; exact Nat.ne_of_gt (blk_lt (g := gb433) (o := .cells #[.slice A1_0 l1_0.length c1_0, .slice A1_1 l1_1.length c1_1, .slice A1_2 l1_2.length c1_2] 26 (0, 0)) (by exact BK433.out)) : gb437 ≠ gb433)); clear BK432; clear BK433; clear HB; have BK432 := n0_; have BK433 := n1_; have HB := n2_; have BK437 := n3_; have GW437 := n4_; have GE437 := n5_; have NB432_437 := n6_; have NB437_432 := n7_; have NB433_437 := n8_; have NB437_433 := n9_; clear n0_ n1_ n2_ n3_ n4_ n5_ n6_ n7_ n8_ n9_; clear hb hbox hg; have hnb33 := NB437_432.out; have hnc33 := NB432_437.out; have hnb34 := NB437_433.out; have hnc34 := NB433_437.out; have hcz35_0 : w32.cell? ⟨gb437, 0, none⟩ = some (.int .i64 0) := (blk_cell BK437.out 0).trans rfl; have hcz35_1 : w32.cell? ⟨gb437, 1, none⟩ = some (.slice none 0 0) := (blk_cell BK437.out 1).trans rfl; have hcz35_2 : w32.cell? ⟨gb437, 2, none⟩ = some (.int .i64 0) := (blk_cell BK437.out 2).trans rfl; have hfz35_0 := blk_frozen BK437.out 0; have hfz35_1 := blk_frozen BK437.out 1; have hfz35_2 := blk_frozen BK437.out 2; have hcz36_0 : w32.cell? ⟨gb433, 0, none⟩ = some (.slice A1_0 l1_0.length c1_0) := (blk_cell BK433.out 0).trans rfl; have hcz36_1 : w32.cell? ⟨gb433, 1, none⟩ = some (.slice A1_1 l1_1.length c1_1) := (blk_cell BK433.out 1).trans rfl; have hcz36_2 : w32.cell? ⟨gb433, 2, none⟩ = some (.slice A1_2 l1_2.length c1_2) := (blk_cell BK433.out 2).trans rfl; have hfz36_0 := blk_frozen BK433.out 0; have hfz36_1 := blk_frozen BK433.out 1; have hfz36_2 := blk_frozen BK433.out 2; have p438 : 0 ≤ (x34_2 : Int) := of_decide_eq_true (by assumption); have q438 : x34_2 < (l1_1.length : Int) := of_decide_eq_true (by assumption); obtain ⟨ad438, A438_1, c438_1, e438, hx438_0, hx438_1, hx438_2, hl438_1, hi438_1⟩ := at_T35 HR1_1.out x34_2 p438 q438; cases e438; have hn438_0 : ad438.block ≠ gb437 := Nat.ne_of_lt (Nat.lt_of_lt_of_le (by have := World.block_lt_of_cell? _ _ hx438_0; first | rwa [add_block] at this | exact this) GW437.out); have hn438_1 : ad438.block ≠ gb437 := Nat.ne_of_lt (Nat.lt_of_lt_of_le (by have := World.block_lt_of_cell? _ _ hx438_0; first | rwa [add_block] at this | exact this) GW437.out); have hn438_2 : ad438.block ≠ gb437 := Nat.ne_of_lt (Nat.lt_of_lt_of_le (by have := World.block_lt_of_cell? _ _ hx438_0; first | rwa [add_block] at this | exact this) GW437.out); replace hx438_0 := (HB.out.cell (World.block_lt_of_cell? w _ hx438_0)).trans hx438_0; replace hx438_1 := (HB.out.cell (World.block_lt_of_cell? w _ hx438_1)).trans hx438_1; replace hx438_2 := (HB.out.cell (World.block_lt_of_cell? w _ hx438_2)).trans hx438_2; have HR438_1 := Aside0.mk hi438_1; have HC438_1 := Aside0.mk hl438_1; clear hi438_1 hl438_1; replace hx438_0 := (cell_far (p := ⟨gb437, 0, none⟩) (by first | (rw [add_block]; exact hn438_0) | (show (Addr.add _ _).block ≠ _; rw [add_block]; exact hn438_0) | exact hn438_0) (.int .i64 ((rd_T35 l0_1 x34_2).f0))).trans hx438_0; replace hx438_1 := (cell_far (p := ⟨gb437, 0, none⟩) (by first | (rw [add_block]; exact hn438_0) | (show (Addr.add _ _).block ≠ _; rw [add_block]; exact hn438_0) | exact hn438_0) (.int .i64 ((rd_T35 l0_1 x34_2).f0))).trans hx438_1; replace hx438_2 := (cell_far (p := ⟨gb437, 0, none⟩) (by first | (rw [add_block]; exact hn438_0) | (show (Addr.add _ _).block ≠ _; rw [add_block]; exact hn438_0) | exact hn438_0) (.int .i64 ((rd_T35 l0_1 x34_2).f0))).trans hx438_2; replace hx438_0 := (cell_far (p := ⟨gb437, 1, none⟩) (by first | (rw [add_block]; exact hn438_1) | (show (Addr.add _ _).block ≠ _; rw [add_block]; exact hn438_1) | exact hn438_1) (.slice A436_1 ((rd_T35 l0_1 x34_2).f1).length c436_1)).trans hx438_0; replace hx438_1 := (cell_far (p := ⟨gb437, 1, none⟩) (by first | (rw [add_block]; exact hn438_1) | (show (Addr.add _ _).block ≠ _; rw [add_block]; exact hn438_1) | exact hn438_1) (.slice A436_1 ((rd_T35 l0_1 x34_2).f1).length c436_1)).trans hx438_1; replace hx438_2 := (cell_far (p := ⟨gb437, 1, none⟩) (by first | (rw [add_block]; exact hn438_1) | (show (Addr.add _ _).block ≠ _; rw [add_block]; exact hn438_1) | exact hn438_1) (.slice A436_1 ((rd_T35 l0_1 x34_2).f1).length c436_1)).trans hx438_2; replace hx438_0 := (cell_far (p := ⟨gb437, 2, none⟩) (by first | (rw [add_block]; exact hn438_2) | (show (Addr.add _ _).block ≠ _; rw [add_block]; exact hn438_2) | exact hn438_2) (.int .i64 ((rd_T35 l0_1 x34_2).f2))).trans hx438_0; replace hx438_1 := (cell_far (p := ⟨gb437, 2, none⟩) (by first | (rw [add_block]; exact hn438_2) | (show (Addr.add _ _).block ≠ _; rw [add_block]; exact hn438_2) | exact hn438_2) (.int .i64 ((rd_T35 l0_1 x34_2).f2))).trans hx438_1; replace hx438_2 := (cell_far (p := ⟨gb437, 2, none⟩) (by first | (rw [add_block]; exact hn438_2) | (show (Addr.add _ _).block ≠ _; rw [add_block]; exact hn438_2) | exact hn438_2) (.int .i64 ((rd_T35 l0_1 x34_2).f2))).trans hx438_2; clear hn438_0; clear hn438_1; clear hn438_2; replace p438 := eq_true p438; replace q438 := eq_true q438) | ((with_reducible refine gate_dst (N := 7) rfl ?_); (try (refine gate_guard (by rfl) ?_; dsimp only)); refine box_event ?hg (N := 7) ?hd (cs := #[.int .i64 0, .slice none 0 0, .int .i64 0]) (t := 35) ?hr ?_; (case hd => rfl); (case hg => rfl); (case hr => first | (go_simp; done) | (go_simp; rfl)); intro gb439 hg w37 hbox hb; have n0_ := Aside0.mk (blk_below (g := gb432) (o := .cells #[.slice A0_0 l0_0.length c0_0, .slice (some ad436) l0_1.length c0_1, .slice A0_2 l0_2.length c0_2] 26 (0, 0)) (by refine blk_far ?_ NB432_437.out _; refine blk_far ?_ NB432_437.out _; refine blk_far ?_ NB432_437.out _; exact BK432.out) hb); have n1_ := Aside0.mk (blk_below (g := gb433) (o := .cells #[.slice A1_0 l1_0.length c1_0, .slice (some ad438) l1_1.length c1_1, .slice A1_2 l1_2.length c1_2] 26 (0, 0)) (by refine blk_far ?_ NB433_437.out _; refine blk_far ?_ NB433_437.out _; refine blk_far ?_ NB433_437.out _; exact BK433.out) hb); have n2_ := Aside0.mk (blk_below (g := gb437) (o := .cells #[.int .i64 ((rd_T35 l0_1 x34_2).f0), .slice A436_1 ((rd_T35 l0_1 x34_2).f1).length c436_1, .int .i64 ((rd_T35 l0_1 x34_2).f2)] 35 (0, 0)) (by refine blk_put (cs := #[.int .i64 ((rd_T35 l0_1 x34_2).f0), .slice A436_1 ((rd_T35 l0_1 x34_2).f1).length c436_1, .int .i64 0]) ?_ 2 _ rfl; refine blk_put (cs := #[.int .i64 ((rd_T35 l0_1 x34_2).f0), .slice none 0 0, .int .i64 0]) ?_ 1 _ rfl; refine blk_put (cs := #[.int .i64 0, .slice none 0 0, .int .i64 0]) ?_ 0 _ rfl; exact BK437.out) hb); have n3_ := Aside0.mk (below_step (by repeat (first | (with_reducible first | exact HB.out | apply below_alloc | apply pw_below_drewN | apply below_drew1 | refine below_set ?_ GE432.out | refine below_set ?_ GE433.out | refine below_set ?_ GE437.out) | exact HB.out)) hb); have n4_ := Aside0.mk (hbox); have n5_ := Aside0.mk ((by rw [hg]; exact (below_size (by repeat (first | (with_reducible first | exact HB.out | apply below_alloc | apply pw_below_drewN | apply below_drew1 | refine below_set ?_ GE432.out | refine below_set ?_ GE433.out | refine below_set ?_ GE437.out) | exact HB.out))) : w.heap.size ≤ gb439)); have n6_ := Aside0.mk ((by rw [hg]; exact (below_size (by repeat (first | (with_reducible first | exact HB.out | apply below_alloc | apply pw_below_drewN | apply below_drew1 | refine below_set ?_ GE432.out | refine below_set ?_ GE433.out | refine below_set ?_ GE437.out) | exact HB.out))) : w.heap.size ≤ gb439)); have n7_ := Aside0.mk ((by rw [hg]; exact Nat.ne_of_lt (blk_lt (g := gb432) (o := .cells #[.slice A0_0 l0_0.length c0_0, .slice (some ad436) l0_1.length c0_1, .slice A0_2 l0_2.length c0_2] 26 (0, 0)) (by refine blk_far ?_ NB432_437.out _; refine blk_far ?_ NB432_437.out _; refine blk_far ?_ NB432_437.out _; exact BK432.out)) : gb432 ≠ gb439)); have n8_ := Aside0.mk ((by rw [hg]; exact Nat.ne_of_gt (blk_lt (g := gb432) (o := .cells #[.slice A0_0 l0_0.length c0_0, .slice (some ad436) l0_1.length c0_1, .slice A0_2 l0_2.length c0_2] 26 (0, 0)) (by refine blk_far ?_ NB432_437.out _; refine blk_far ?_ NB432_437.out _; refine blk_far ?_ NB432_437.out _; exact BK432.out)) : gb439 ≠ gb432)); have n9_ := Aside0.mk ((by rw [hg]; exact Nat.ne_of_lt (blk_lt (g := gb433) (o := .cells #[.slice A1_0 l1_0.length c1_0, .slice (some ad438) l1_1.length c1_1, .slice A1_2 l1_2.length c1_2] 26 (0, 0)) (by refine blk_far ?_ NB433_437.out _; refine blk_far ?_ NB433_437.out _; refine blk_far ?_ NB433_437.out _; exact BK433.out)) : gb433 ≠ gb439)); have n10_ := Aside0.mk ((by rw [hg]; exact Nat.ne_of_gt (blk_lt (g := gb433) (o := .cells #[.slice A1_0 l1_0.length c1_0, .slice (some ad438) l1_1.length c1_1, .slice A1_2 l1_2.length c1_2] 26 (0, 0)) (by refine blk_far ?_ NB433_437.out _; refine blk_far ?_ NB433_437.out _; refine blk_far ?_ NB433_437.out _; exact BK433.out)) : gb439 ≠ gb433)); have n11_ := Aside0.mk ((by rw [hg]; exact Nat.ne_of_lt (blk_lt (g := gb437) (o := .cells #[.int .i64 ((rd_T35 l0_1 x34_2).f0), .slice A436_1 ((rd_T35 l0_1 x34_2).f1).length c436_1, .int .i64 ((rd_T35 l0_1 x34_2).f2)] 35 (0, 0)) (by refine blk_put (cs := #[.int .i64 ((rd_T35 l0_1 x34_2).f0), .slice A436_1 ((rd_T35 l0_1 x34_2).f1).length c436_1, .int .i64 0]) ?_ 2 _ rfl; refine blk_put (cs := #[.int .i64 ((rd_T35 l0_1 x34_2).f0), .slice none 0 0, .int .i64 0]) ?_ 1 _ rfl; refine blk_put (cs := #[.int .i64 0, .slice none 0 0, .int .i64 0]) ?_ 0 _ rfl; exact BK437.out)) : gb437 ≠ gb439)); have n12_ := Aside0.mk ((by rw [hg]; exact Nat.ne_of_gt (blk_lt (g := gb437) (o := .cells #[.int .i64 ((rd_T35 l0_1 x34_2).f0), .slice A436_1 ((rd_T35 l0_1 x34_2).f1).length c436_1, .int .i64 ((rd_T35 l0_1 x34_2).f2)] 35 (0, 0)) (by refine blk_put (cs := #[.int .i64 ((rd_T35 l0_1 x34_2).f0), .slice A436_1 ((rd_T35 l0_1 x34_2).f1).length c436_1, .int .i64 0]) ?_ 2 _ rfl; refine blk_put (cs := #[.int .i64 ((rd_T35 l0_1 x34_2).f0), .slice none 0 0, .int .i64 0]) ?_ 1 _ rfl; refine blk_put (cs := #[.int .i64 0, .slice none 0 0, .int .i64 0]) ?_ 0 _ rfl; exact BK437.out)) : gb439 ≠ gb437)); clear BK432; clear BK433; clear BK437; clear HB; have BK432 := n0_; have BK433 := n1_; have BK437 := n2_; have HB := n3_; have BK439 := n4_; have GW439 := n5_; have GE439 := n6_; have NB432_439 := n7_; have NB439_432 := n8_; have NB433_439 := n9_; have NB439_433 := n10_; have NB437_439 := n11_; have NB439_437 := n12_; clear n0_ n1_ n2_ n3_ n4_ n5_ n6_ n7_ n8_ n9_ n10_ n11_ n12_; clear hb hbox hg; have hnb38 := NB439_432.out; have hnc38 := NB432_439.out; have hnb39 := NB439_433.out; have hnc39 := NB433_439.out; have hnb40 := NB439_437.out; have hnc40 := NB437_439.out; have hcz41_0 : w37.cell? ⟨gb439, 0, none⟩ = some (.int .i64 0) := (blk_cell BK439.out 0).trans rfl; have hcz41_1 : w37.cell? ⟨gb439, 1, none⟩ = some (.slice none 0 0) := (blk_cell BK439.out 1).trans rfl; have hcz41_2 : w37.cell? ⟨gb439, 2, none⟩ = some (.int .i64 0) := (blk_cell BK439.out 2).trans rfl; have hfz41_0 := blk_frozen BK439.out 0; have hfz41_1 := blk_frozen BK439.out 1; have hfz41_2 := blk_frozen BK439.out 2; have hcz42_0 : w37.cell? ⟨gb437, 0, none⟩ = some (.int .i64 ((rd_T35 l0_1 x34_2).f0)) := (blk_cell BK437.out 0).trans rfl; have hcz42_1 : w37.cell? ⟨gb437, 1, none⟩ = some (.slice A436_1 ((rd_T35 l0_1 x34_2).f1).length c436_1) := (blk_cell BK437.out 1).trans rfl; have hcz42_2 : w37.cell? ⟨gb437, 2, none⟩ = some (.int .i64 ((rd_T35 l0_1 x34_2).f2)) := (blk_cell BK437.out 2).trans rfl; have hfz42_0 := blk_frozen BK437.out 0; have hfz42_1 := blk_frozen BK437.out 1; have hfz42_2 := blk_frozen BK437.out 2) | (go_at_call 21; (with_reducible refine (laws_wInts.calls k2 _ _ ((rd_T35 l0_1 x34_2).f1) _ _ ((rd_T35 l1_1 x34_2).f1) true _ ?side1 ?side2 ?side3 ?side4 A28.out).mono ?_); (case side1 => exact Kd.C_below HR436_1.out (by repeat (first | (with_reducible first | exact HB.out | apply below_alloc | apply pw_below_drewN | apply below_drew1 | refine below_set ?_ GE432.out | refine below_set ?_ GE433.out | refine below_set ?_ GE437.out | refine below_set ?_ GE439.out) | exact HB.out))); (case side2 => exact HC436_1.out); (case side3 => exact Kd.C_below HR438_1.out (by repeat (first | (with_reducible first | exact HB.out | apply below_alloc | apply pw_below_drewN | apply below_drew1 | refine below_set ?_ GE432.out | refine below_set ?_ GE433.out | refine below_set ?_ GE437.out | refine below_set ?_ GE439.out) | exact HB.out))); (case side4 => exact HC438_1.out); rintro e w' ⟨rfl, ⟨nd, rfl⟩⟩))
             go_roundg k2
             case measure => have := HJ2.out; have := HK2.out; omega
             case rel => exact ⟨(wrap64 (x34_2 + 1)), (by first | rfl | (simp; done) | (simp [*]; done)), H', ⟨by have := HJ2.out; have := HK2.out; omega⟩, ⟨by (with_reducible repeat (first | refine blk_drewN ?_ _ | refine blk_drew ?_ | refine blk_alloc ?_ _)); refine blk_far ?_ NB432_439.out _; refine blk_far ?_ NB432_439.out _; refine blk_far ?_ NB432_439.out _; exact BK432.out⟩, ⟨by (with_reducible repeat (first | refine blk_drewN ?_ _ | refine blk_drew ?_ | refine blk_alloc ?_ _)); refine blk_far ?_ NB433_439.out _; refine blk_far ?_ NB433_439.out _; refine blk_far ?_ NB433_439.out _; exact BK433.out⟩, ⟨by repeat (first | (with_reducible first | exact HB.out | apply below_alloc | apply pw_below_drewN | apply below_drew1 | refine below_set ?_ GE432.out | refine below_set ?_ GE433.out | refine below_set ?_ GE437.out | refine below_set ?_ GE439.out) | exact HB.out)⟩⟩
            ·replace c29 := Bool.eq_false_iff.mpr c29
             subst c29
             have H1 : (some false) = some r := by rw [if_neg (show ¬ (false = true) by decide)] at H; exact H
             clear H
             have H := H1
             clear H1
             obtain rfl := Option.some.inj H
             have hnb43 := NB432_433.out
             have hnc43 := NB433_432.out
             have hcz44_0 : wr.cell? ⟨gb432, 0, none⟩ = some (.slice A0_0 l0_0.length c0_0) := (blk_cell BK432.out 0).trans rfl
             have hcz44_1 : wr.cell? ⟨gb432, 1, none⟩ = some (.slice A0_1 l0_1.length c0_1) := (blk_cell BK432.out 1).trans rfl
             have hcz44_2 : wr.cell? ⟨gb432, 2, none⟩ = some (.slice A0_2 l0_2.length c0_2) := (blk_cell BK432.out 2).trans rfl
             have hfz44_0 := blk_frozen BK432.out 0
             have hfz44_1 := blk_frozen BK432.out 1
             have hfz44_2 := blk_frozen BK432.out 2
             have p436 : 0 ≤ (x34_2 : Int) := of_decide_eq_true (by assumption)
             have q436 : x34_2 < (l0_1.length : Int) := of_decide_eq_true (by assumption)
             obtain ⟨ad436, A436_1, c436_1, e436, hx436_0, hx436_1, hx436_2, hl436_1, hi436_1⟩ := at_T35 HR0_1.out x34_2 p436 q436
             cases e436
             replace hx436_0 := (HB.out.cell (World.block_lt_of_cell? w _ hx436_0)).trans hx436_0
             replace hx436_1 := (HB.out.cell (World.block_lt_of_cell? w _ hx436_1)).trans hx436_1
             replace hx436_2 := (HB.out.cell (World.block_lt_of_cell? w _ hx436_2)).trans hx436_2
             have HR436_1 := Aside0.mk hi436_1
             have HC436_1 := Aside0.mk hl436_1
             clear hi436_1 hl436_1
             replace p436 := eq_true p436
             replace q436 := eq_true q436
             go_wp2_with (first | ((with_reducible refine gate_dst (N := 6) rfl ?_); (try (refine gate_guard (by rfl) ?_; dsimp only)); refine box_event ?hg (N := 6) ?hd (cs := #[.int .i64 0, .slice none 0 0, .int .i64 0]) (t := 35) ?hr ?_; (case hd => rfl); (case hg => rfl); (case hr => first | (go_simp; done) | (go_simp; rfl)); intro gb437 hg w45 hbox hb; have n0_ := Aside0.mk (blk_below (g := gb432) (o := .cells #[.slice A0_0 l0_0.length c0_0, .slice (some ad436) l0_1.length c0_1, .slice A0_2 l0_2.length c0_2] 26 (0, 0)) (by exact BK432.out) hb); have n1_ := Aside0.mk (blk_below (g := gb433) (o := .cells #[.slice A1_0 l1_0.length c1_0, .slice A1_1 l1_1.length c1_1, .slice A1_2 l1_2.length c1_2] 26 (0, 0)) (by exact BK433.out) hb); have n2_ := Aside0.mk (below_step (by exact HB.out) hb); have n3_ := Aside0.mk (hbox); have n4_ := Aside0.mk ((by rw [hg]; exact (below_size (by exact HB.out)) : w.heap.size ≤ gb437)); have n5_ := Aside0.mk ((by rw [hg]; exact (below_size (by exact HB.out)) : w.heap.size ≤ gb437)); have n6_ := Aside0.mk ((by rw [hg]; exact Nat.ne_of_lt (blk_lt (g := gb432) (o := .cells #[.slice A0_0 l0_0.length c0_0, .slice (some ad436) l0_1.length c0_1, .slice A0_2 l0_2.length c0_2] 26 (0, 0)) (by exact BK432.out)) : gb432 ≠ gb437)); have n7_ := Aside0.mk ((by rw [hg]; exact Nat.ne_of_gt (blk_lt (g := gb432) (o := .cells #[.slice A0_0 l0_0.length c0_0, .slice (some ad436) l0_1.length c0_1, .slice A0_2 l0_2.length c0_2] 26 (0, 0)) (by exact BK432.out)) : gb437 ≠ gb432)); have n8_ := Aside0.mk ((by rw [hg]; exact Nat.ne_of_lt (blk_lt (g := gb433) (o := .cells #[.slice A1_0 l1_0.length c1_0, .slice A1_1 l1_1.length c1_1, .slice A1_2 l1_2.length c1_2] 26 (0, 0)) (by exact BK433.out)) : gb433 ≠ gb437)); have n9_ := Aside0.mk ((by rw [hg]; exact Nat.ne_of_gt (blk_lt (g := gb433) (o := .cells #[.slice A1_0 l1_0.length c1_0, .slice A1_1 l1_1.length c1_1, .slice A1_2 l1_2.length c1_2] 26 (0, 0)) (by exact BK433.out)) : gb437 ≠ gb433)); clear BK432; clear BK433; clear HB; have BK432 := n0_; have BK433 := n1_; have HB := n2_; have BK437 := n3_; have GW437 := n4_; have GE437 := n5_; have NB432_437 := n6_; have NB437_432 := n7_; have NB433_437 := n8_; have NB437_433 := n9_; clear n0_ n1_ n2_ n3_ n4_ n5_ n6_ n7_ n8_ n9_; clear hb hbox hg; have hnb46 := NB437_432.out; have hnc46 := NB432_437.out; have hnb47 := NB437_433.out; have hnc47 := NB433_437.out; have hcz48_0 : w45.cell? ⟨gb437, 0, none⟩ = some (.int .i64 0) := (blk_cell BK437.out 0).trans rfl; have hcz48_1 : w45.cell? ⟨gb437, 1, none⟩ = some (.slice none 0 0) := (blk_cell BK437.out 1).trans rfl; have hcz48_2 : w45.cell? ⟨gb437, 2, none⟩ = some (.int .i64 0) := (blk_cell BK437.out 2).trans rfl; have hfz48_0 := blk_frozen BK437.out 0; have hfz48_1 := blk_frozen BK437.out 1; have hfz48_2 := blk_frozen BK437.out 2; have hcz49_0 : w45.cell? ⟨gb433, 0, none⟩ = some (.slice A1_0 l1_0.length c1_0) := (blk_cell BK433.out 0).trans rfl; have hcz49_1 : w45.cell? ⟨gb433, 1, none⟩ = some (.slice A1_1 l1_1.length c1_1) := (blk_cell BK433.out 1).trans rfl; have hcz49_2 : w45.cell? ⟨gb433, 2, none⟩ = some (.slice A1_2 l1_2.length c1_2) := (blk_cell BK433.out 2).trans rfl; have hfz49_0 := blk_frozen BK433.out 0; have hfz49_1 := blk_frozen BK433.out 1; have hfz49_2 := blk_frozen BK433.out 2; have p438 : 0 ≤ (x34_2 : Int) := of_decide_eq_true (by assumption); have q438 : x34_2 < (l1_1.length : Int) := of_decide_eq_true (by assumption); obtain ⟨ad438, A438_1, c438_1, e438, hx438_0, hx438_1, hx438_2, hl438_1, hi438_1⟩ := at_T35 HR1_1.out x34_2 p438 q438; cases e438; have hn438_0 : ad438.block ≠ gb437 := Nat.ne_of_lt (Nat.lt_of_lt_of_le (by have := World.block_lt_of_cell? _ _ hx438_0; first | rwa [add_block] at this | exact this) GW437.out); have hn438_1 : ad438.block ≠ gb437 := Nat.ne_of_lt (Nat.lt_of_lt_of_le (by have := World.block_lt_of_cell? _ _ hx438_0; first | rwa [add_block] at this | exact this) GW437.out); have hn438_2 : ad438.block ≠ gb437 := Nat.ne_of_lt (Nat.lt_of_lt_of_le (by have := World.block_lt_of_cell? _ _ hx438_0; first | rwa [add_block] at this | exact this) GW437.out); replace hx438_0 := (HB.out.cell (World.block_lt_of_cell? w _ hx438_0)).trans hx438_0; replace hx438_1 := (HB.out.cell (World.block_lt_of_cell? w _ hx438_1)).trans hx438_1; replace hx438_2 := (HB.out.cell (World.block_lt_of_cell? w _ hx438_2)).trans hx438_2; have HR438_1 := Aside0.mk hi438_1; have HC438_1 := Aside0.mk hl438_1; clear hi438_1 hl438_1; replace hx438_0 := (cell_far (p := ⟨gb437, 0, none⟩) (by first | (rw [add_block]; exact hn438_0) | (show (Addr.add _ _).block ≠ _; rw [add_block]; exact hn438_0) | exact hn438_0) (.int .i64 ((rd_T35 l0_1 x34_2).f0))).trans hx438_0; replace hx438_1 := (cell_far (p := ⟨gb437, 0, none⟩) (by first | (rw [add_block]; exact hn438_0) | (show (Addr.add _ _).block ≠ _; rw [add_block]; exact hn438_0) | exact hn438_0) (.int .i64 ((rd_T35 l0_1 x34_2).f0))).trans hx438_1; replace hx438_2 := (cell_far (p := ⟨gb437, 0, none⟩) (by first | (rw [add_block]; exact hn438_0) | (show (Addr.add _ _).block ≠ _; rw [add_block]; exact hn438_0) | exact hn438_0) (.int .i64 ((rd_T35 l0_1 x34_2).f0))).trans hx438_2; replace hx438_0 := (cell_far (p := ⟨gb437, 1, none⟩) (by first | (rw [add_block]; exact hn438_1) | (show (Addr.add _ _).block ≠ _; rw [add_block]; exact hn438_1) | exact hn438_1) (.slice A436_1 ((rd_T35 l0_1 x34_2).f1).length c436_1)).trans hx438_0; replace hx438_1 := (cell_far (p := ⟨gb437, 1, none⟩) (by first | (rw [add_block]; exact hn438_1) | (show (Addr.add _ _).block ≠ _; rw [add_block]; exact hn438_1) | exact hn438_1) (.slice A436_1 ((rd_T35 l0_1 x34_2).f1).length c436_1)).trans hx438_1; replace hx438_2 := (cell_far (p := ⟨gb437, 1, none⟩) (by first | (rw [add_block]; exact hn438_1) | (show (Addr.add _ _).block ≠ _; rw [add_block]; exact hn438_1) | exact hn438_1) (.slice A436_1 ((rd_T35 l0_1 x34_2).f1).length c436_1)).trans hx438_2; replace hx438_0 := (cell_far (p := ⟨gb437, 2, none⟩) (by first | (rw [add_block]; exact hn438_2) | (show (Addr.add _ _).block ≠ _; rw [add_block]; exact hn438_2) | exact hn438_2) (.int .i64 ((rd_T35 l0_1 x34_2).f2))).trans hx438_0; replace hx438_1 := (cell_far (p := ⟨gb437, 2, none⟩) (by first | (rw [add_block]; exact hn438_2) | (show (Addr.add _ _).block ≠ _; rw [add_block]; exact hn438_2) | exact hn438_2) (.int .i64 ((rd_T35 l0_1 x34_2).f2))).trans hx438_1; replace hx438_2 := (cell_far (p := ⟨gb437, 2, none⟩) (by first | (rw [add_block]; exact hn438_2) | (show (Addr.add _ _).block ≠ _; rw [add_block]; exact hn438_2) | exact hn438_2) (.int .i64 ((rd_T35 l0_1 x34_2).f2))).trans hx438_2; clear hn438_0; clear hn438_1; clear hn438_2; replace p438 := eq_true p438; replace q438 := eq_true q438) | ((with_reducible refine gate_dst (N := 7) rfl ?_); (try (refine gate_guard (by rfl) ?_; dsimp only)); refine box_event ?hg (N := 7) ?hd (cs := #[.int .i64 0, .slice none 0 0, .int .i64 0]) (t := 35) ?hr ?_; (case hd => rfl); (case hg => rfl); (case hr => first | (go_simp; done) | (go_simp; rfl)); intro gb439 hg w50 hbox hb; have n0_ := Aside0.mk (blk_below (g := gb432) (o := .cells #[.slice A0_0 l0_0.length c0_0, .slice (some ad436) l0_1.length c0_1, .slice A0_2 l0_2.length c0_2] 26 (0, 0)) (by refine blk_far ?_ NB432_437.out _; refine blk_far ?_ NB432_437.out _; refine blk_far ?_ NB432_437.out _; exact BK432.out) hb); have n1_ := Aside0.mk (blk_below (g := gb433) (o := .cells #[.slice A1_0 l1_0.length c1_0, .slice (some ad438) l1_1.length c1_1, .slice A1_2 l1_2.length c1_2] 26 (0, 0)) (by refine blk_far ?_ NB433_437.out _; refine blk_far ?_ NB433_437.out _; refine blk_far ?_ NB433_437.out _; exact BK433.out) hb); have n2_ := Aside0.mk (blk_below (g := gb437) (o := .cells #[.int .i64 ((rd_T35 l0_1 x34_2).f0), .slice A436_1 ((rd_T35 l0_1 x34_2).f1).length c436_1, .int .i64 ((rd_T35 l0_1 x34_2).f2)] 35 (0, 0)) (by refine blk_put (cs := #[.int .i64 ((rd_T35 l0_1 x34_2).f0), .slice A436_1 ((rd_T35 l0_1 x34_2).f1).length c436_1, .int .i64 0]) ?_ 2 _ rfl; refine blk_put (cs := #[.int .i64 ((rd_T35 l0_1 x34_2).f0), .slice none 0 0, .int .i64 0]) ?_ 1 _ rfl; refine blk_put (cs := #[.int .i64 0, .slice none 0 0, .int .i64 0]) ?_ 0 _ rfl; exact BK437.out) hb); have n3_ := Aside0.mk (below_step (by repeat (first | (with_reducible first | exact HB.out | apply below_alloc | apply pw_below_drewN | apply below_drew1 | refine below_set ?_ GE432.out | refine below_set ?_ GE433.out | refine below_set ?_ GE437.out) | exact HB.out)) hb); have n4_ := Aside0.mk (hbox); have n5_ := Aside0.mk ((by rw [hg]; exact (below_size (by repeat (first | (with_reducible first | exact HB.out | apply below_alloc | apply pw_below_drewN | apply below_drew1 | refine below_set ?_ GE432.out | refine below_set ?_ GE433.out | refine below_set ?_ GE437.out) | exact HB.out))) : w.heap.size ≤ gb439)); have n6_ := Aside0.mk ((by rw [hg]; exact (below_size (by repeat (first | (with_reducible first | exact HB.out | apply below_alloc | apply pw_below_drewN | apply below_drew1 | refine below_set ?_ GE432.out | refine below_set ?_ GE433.out | refine below_set ?_ GE437.out) | exact HB.out))) : w.heap.size ≤ gb439)); have n7_ := Aside0.mk ((by rw [hg]; exact Nat.ne_of_lt (blk_lt (g := gb432) (o := .cells #[.slice A0_0 l0_0.length c0_0, .slice (some ad436) l0_1.length c0_1, .slice A0_2 l0_2.length c0_2] 26 (0, 0)) (by refine blk_far ?_ NB432_437.out _; refine blk_far ?_ NB432_437.out _; refine blk_far ?_ NB432_437.out _; exact BK432.out)) : gb432 ≠ gb439)); have n8_ := Aside0.mk ((by rw [hg]; exact Nat.ne_of_gt (blk_lt (g := gb432) (o := .cells #[.slice A0_0 l0_0.length c0_0, .slice (some ad436) l0_1.length c0_1, .slice A0_2 l0_2.length c0_2] 26 (0, 0)) (by refine blk_far ?_ NB432_437.out _; refine blk_far ?_ NB432_437.out _; refine blk_far ?_ NB432_437.out _; exact BK432.out)) : gb439 ≠ gb432)); have n9_ := Aside0.mk ((by rw [hg]; exact Nat.ne_of_lt (blk_lt (g := gb433) (o := .cells #[.slice A1_0 l1_0.length c1_0, .slice (some ad438) l1_1.length c1_1, .slice A1_2 l1_2.length c1_2] 26 (0, 0)) (by refine blk_far ?_ NB433_437.out _; refine blk_far ?_ NB433_437.out _; refine blk_far ?_ NB433_437.out _; exact BK433.out)) : gb433 ≠ gb439)); have n10_ := Aside0.mk ((by rw [hg]; exact Nat.ne_of_gt (blk_lt (g := gb433) (o := .cells #[.slice A1_0 l1_0.length c1_0, .slice (some ad438) l1_1.length c1_1, .slice A1_2 l1_2.length c1_2] 26 (0, 0)) (by refine blk_far ?_ NB433_437.out _; refine blk_far ?_ NB433_437.out _; refine blk_far ?_ NB433_437.out _; exact BK433.out)) : gb439 ≠ gb433)); have n11_ := Aside0.mk ((by rw [hg]; exact Nat.ne_of_lt (blk_lt (g := gb437) (o := .cells #[.int .i64 ((rd_T35 l0_1 x34_2).f0), .slice A436_1 ((rd_T35 l0_1 x34_2).f1).length c436_1, .int .i64 ((rd_T35 l0_1 x34_2).f2)] 35 (0, 0)) (by refine blk_put (cs := #[.int .i64 ((rd_T35 l0_1 x34_2).f0), .slice A436_1 ((rd_T35 l0_1 x34_2).f1).length c436_1, .int .i64 0]) ?_ 2 _ rfl; refine blk_put (cs := #[.int .i64 ((rd_T35 l0_1 x34_2).f0), .slice none 0 0, .int .i64 0]) ?_ 1 _ rfl; refine blk_put (cs := #[.int .i64 0, .slice none 0 0, .int .i64 0]) ?_ 0 _ rfl; exact BK437.out)) : gb437 ≠ gb439)); have n12_ := Aside0.mk ((by rw [hg]; exact Nat.ne_of_gt (blk_lt (g := gb437) (o := .cells #[.int .i64 ((rd_T35 l0_1 x34_2).f0), .slice A436_1 ((rd_T35 l0_1 x34_2).f1).length c436_1, .int .i64 ((rd_T35 l0_1 x34_2).f2)] 35 (0, 0)) (by refine blk_put (cs := #[.int .i64 ((rd_T35 l0_1 x34_2).f0), .slice A436_1 ((rd_T35 l0_1 x34_2).f1).length c436_1, .int .i64 0]) ?_ 2 _ rfl; refine blk_put (cs := #[.int .i64 ((rd_T35 l0_1 x34_2).f0), .slice none 0 0, .int .i64 0]) ?_ 1 _ rfl; refine blk_put (cs := #[.int .i64 0, .slice none 0 0, .int .i64 0]) ?_ 0 _ rfl; exact BK437.out)) : gb439 ≠ gb437)); clear BK432; clear BK433; clear BK437; clear HB; have BK432 := n0_; have BK433 := n1_; have BK437 := n2_; have HB := n3_; have BK439 := n4_; have GW439 := n5_; have GE439 := n6_; have NB432_439 := n7_; have NB439_432 := n8_; have NB433_439 := n9_; have NB439_433 := n10_; have NB437_439 := n11_; have NB439_437 := n12_; clear n0_ n1_ n2_ n3_ n4_ n5_ n6_ n7_ n8_ n9_ n10_ n11_ n12_; clear hb hbox hg; have hnb51 := NB439_432.out; have hnc51 := NB432_439.out; have hnb52 := NB439_433.out; have hnc52 := NB433_439.out; have hnb53 := NB439_437.out; have hnc53 := NB437_439.out; have hcz54_0 : w50.cell? ⟨gb439, 0, none⟩ = some (.int .i64 0) := (blk_cell BK439.out 0).trans rfl; have hcz54_1 : w50.cell? ⟨gb439, 1, none⟩ = some (.slice none 0 0) := (blk_cell BK439.out 1).trans rfl; have hcz54_2 : w50.cell? ⟨gb439, 2, none⟩ = some (.int .i64 0) := (blk_cell BK439.out 2).trans rfl; have hfz54_0 := blk_frozen BK439.out 0; have hfz54_1 := blk_frozen BK439.out 1; have hfz54_2 := blk_frozen BK439.out 2; have hcz55_0 : w50.cell? ⟨gb437, 0, none⟩ = some (.int .i64 ((rd_T35 l0_1 x34_2).f0)) := (blk_cell BK437.out 0).trans rfl; have hcz55_1 : w50.cell? ⟨gb437, 1, none⟩ = some (.slice A436_1 ((rd_T35 l0_1 x34_2).f1).length c436_1) := (blk_cell BK437.out 1).trans rfl; have hcz55_2 : w50.cell? ⟨gb437, 2, none⟩ = some (.int .i64 ((rd_T35 l0_1 x34_2).f2)) := (blk_cell BK437.out 2).trans rfl; have hfz55_0 := blk_frozen BK437.out 0; have hfz55_1 := blk_frozen BK437.out 1; have hfz55_2 := blk_frozen BK437.out 2) | (go_at_call 21; (with_reducible refine (laws_wInts.calls k2 _ _ ((rd_T35 l0_1 x34_2).f1) _ _ ((rd_T35 l1_1 x34_2).f1) false _ ?side1 ?side2 ?side3 ?side4 A28.out).mono ?_); (case side1 => exact Kd.C_below HR436_1.out (by repeat (first | (with_reducible first | exact HB.out | apply below_alloc | apply pw_below_drewN | apply below_drew1 | refine below_set ?_ GE432.out | refine below_set ?_ GE433.out | refine below_set ?_ GE437.out | refine below_set ?_ GE439.out) | exact HB.out))); (case side2 => exact HC436_1.out); (case side3 => exact Kd.C_below HR438_1.out (by repeat (first | (with_reducible first | exact HB.out | apply below_alloc | apply pw_below_drewN | apply below_drew1 | refine below_set ?_ GE432.out | refine below_set ?_ GE433.out | refine below_set ?_ GE437.out | refine below_set ?_ GE439.out) | exact HB.out))); (case side4 => exact HC438_1.out); rintro e w' ⟨rfl, ⟨nd, rfl⟩⟩))
             go_ret
             exact ⟨by first | rfl | (simp [errW_none, errW_some] <;> rfl) | (simp [*, errW_none, errW_some] <;> rfl), by repeat (first | (with_reducible first | exact HB.out | apply below_alloc | apply pw_below_drewN | apply below_drew1 | refine below_set ?_ GE432.out | refine below_set ?_ GE433.out | refine below_set ?_ GE437.out | refine below_set ?_ GE439.out) | exact HB.out)⟩
           ·rw [if_neg c27] at H
            have c27b0 : (((rd_T35 l0_1 x34_2).f2) == ((rd_T35 l1_1 x34_2).f2)) = false := beq_eq_false_iff_ne.mpr c27
            have c27b1 : (((rd_T35 l0_1 x34_2).f2) != ((rd_T35 l1_1 x34_2).f2)) = true := bne_iff_ne.mpr c27
            obtain rfl := Option.some.inj H
            have hnb56 := NB432_433.out
            have hnc56 := NB433_432.out
            have hcz57_0 : wr.cell? ⟨gb432, 0, none⟩ = some (.slice A0_0 l0_0.length c0_0) := (blk_cell BK432.out 0).trans rfl
            have hcz57_1 : wr.cell? ⟨gb432, 1, none⟩ = some (.slice A0_1 l0_1.length c0_1) := (blk_cell BK432.out 1).trans rfl
            have hcz57_2 : wr.cell? ⟨gb432, 2, none⟩ = some (.slice A0_2 l0_2.length c0_2) := (blk_cell BK432.out 2).trans rfl
            have hfz57_0 := blk_frozen BK432.out 0
            have hfz57_1 := blk_frozen BK432.out 1
            have hfz57_2 := blk_frozen BK432.out 2
            have p436 : 0 ≤ (x34_2 : Int) := of_decide_eq_true (by assumption)
            have q436 : x34_2 < (l0_1.length : Int) := of_decide_eq_true (by assumption)
            obtain ⟨ad436, A436_1, c436_1, e436, hx436_0, hx436_1, hx436_2, hl436_1, hi436_1⟩ := at_T35 HR0_1.out x34_2 p436 q436
            cases e436
            replace hx436_0 := (HB.out.cell (World.block_lt_of_cell? w _ hx436_0)).trans hx436_0
            replace hx436_1 := (HB.out.cell (World.block_lt_of_cell? w _ hx436_1)).trans hx436_1
            replace hx436_2 := (HB.out.cell (World.block_lt_of_cell? w _ hx436_2)).trans hx436_2
            have HR436_1 := Aside0.mk hi436_1
            have HC436_1 := Aside0.mk hl436_1
            clear hi436_1 hl436_1
            replace p436 := eq_true p436
            replace q436 := eq_true q436
            go_wp2_with (first | ((with_reducible refine gate_dst (N := 6) rfl ?_); (try (refine gate_guard (by rfl) ?_; dsimp only)); refine box_event ?hg (N := 6) ?hd (cs := #[.int .i64 0, .slice none 0 0, .int .i64 0]) (t := 35) ?hr ?_; (case hd => rfl); (case hg => rfl); (case hr => first | (go_simp; done) | (go_simp; rfl)); intro gb437 hg w58 hbox hb; have n0_ := Aside0.mk (blk_below (g := gb432) (o := .cells #[.slice A0_0 l0_0.length c0_0, .slice (some ad436) l0_1.length c0_1, .slice A0_2 l0_2.length c0_2] 26 (0, 0)) (by exact BK432.out) hb); have n1_ := Aside0.mk (blk_below (g := gb433) (o := .cells #[.slice A1_0 l1_0.length c1_0, .slice A1_1 l1_1.length c1_1, .slice A1_2 l1_2.length c1_2] 26 (0, 0)) (by exact BK433.out) hb); have n2_ := Aside0.mk (below_step (by exact HB.out) hb); have n3_ := Aside0.mk (hbox); have n4_ := Aside0.mk ((by rw [hg]; exact (below_size (by exact HB.out)) : w.heap.size ≤ gb437)); have n5_ := Aside0.mk ((by rw [hg]; exact (below_size (by exact HB.out)) : w.heap.size ≤ gb437)); have n6_ := Aside0.mk ((by rw [hg]; exact Nat.ne_of_lt (blk_lt (g := gb432) (o := .cells #[.slice A0_0 l0_0.length c0_0, .slice (some ad436) l0_1.length c0_1, .slice A0_2 l0_2.length c0_2] 26 (0, 0)) (by exact BK432.out)) : gb432 ≠ gb437)); have n7_ := Aside0.mk ((by rw [hg]; exact Nat.ne_of_gt (blk_lt (g := gb432) (o := .cells #[.slice A0_0 l0_0.length c0_0, .slice (some ad436) l0_1.length c0_1, .slice A0_2 l0_2.length c0_2] 26 (0, 0)) (by exact BK432.out)) : gb437 ≠ gb432)); have n8_ := Aside0.mk ((by rw [hg]; exact Nat.ne_of_lt (blk_lt (g := gb433) (o := .cells #[.slice A1_0 l1_0.length c1_0, .slice A1_1 l1_1.length c1_1, .slice A1_2 l1_2.length c1_2] 26 (0, 0)) (by exact BK433.out)) : gb433 ≠ gb437)); have n9_ := Aside0.mk ((by rw [hg]; exact Nat.ne_of_gt (blk_lt (g := gb433) (o := .cells #[.slice A1_0 l1_0.length c1_0, .slice A1_1 l1_1.length c1_1, .slice A1_2 l1_2.length c1_2] 26 (0, 0)) (by exact BK433.out)) : gb437 ≠ gb433)); clear BK432; clear BK433; clear HB; have BK432 := n0_; have BK433 := n1_; have HB := n2_; have BK437 := n3_; have GW437 := n4_; have GE437 := n5_; have NB432_437 := n6_; have NB437_432 := n7_; have NB433_437 := n8_; have NB437_433 := n9_; clear n0_ n1_ n2_ n3_ n4_ n5_ n6_ n7_ n8_ n9_; clear hb hbox hg; have hnb59 := NB437_432.out; have hnc59 := NB432_437.out; have hnb60 := NB437_433.out; have hnc60 := NB433_437.out; have hcz61_0 : w58.cell? ⟨gb437, 0, none⟩ = some (.int .i64 0) := (blk_cell BK437.out 0).trans rfl; have hcz61_1 : w58.cell? ⟨gb437, 1, none⟩ = some (.slice none 0 0) := (blk_cell BK437.out 1).trans rfl; have hcz61_2 : w58.cell? ⟨gb437, 2, none⟩ = some (.int .i64 0) := (blk_cell BK437.out 2).trans rfl; have hfz61_0 := blk_frozen BK437.out 0; have hfz61_1 := blk_frozen BK437.out 1; have hfz61_2 := blk_frozen BK437.out 2; have hcz62_0 : w58.cell? ⟨gb433, 0, none⟩ = some (.slice A1_0 l1_0.length c1_0) := (blk_cell BK433.out 0).trans rfl; have hcz62_1 : w58.cell? ⟨gb433, 1, none⟩ = some (.slice A1_1 l1_1.length c1_1) := (blk_cell BK433.out 1).trans rfl; have hcz62_2 : w58.cell? ⟨gb433, 2, none⟩ = some (.slice A1_2 l1_2.length c1_2) := (blk_cell BK433.out 2).trans rfl; have hfz62_0 := blk_frozen BK433.out 0; have hfz62_1 := blk_frozen BK433.out 1; have hfz62_2 := blk_frozen BK433.out 2; have p438 : 0 ≤ (x34_2 : Int) := of_decide_eq_true (by assumption); have q438 : x34_2 < (l1_1.length : Int) := of_decide_eq_true (by assumption); obtain ⟨ad438, A438_1, c438_1, e438, hx438_0, hx438_1, hx438_2, hl438_1, hi438_1⟩ := at_T35 HR1_1.out x34_2 p438 q438; cases e438; have hn438_0 : ad438.block ≠ gb437 := Nat.ne_of_lt (Nat.lt_of_lt_of_le (by have := World.block_lt_of_cell? _ _ hx438_0; first | rwa [add_block] at this | exact this) GW437.out); have hn438_1 : ad438.block ≠ gb437 := Nat.ne_of_lt (Nat.lt_of_lt_of_le (by have := World.block_lt_of_cell? _ _ hx438_0; first | rwa [add_block] at this | exact this) GW437.out); have hn438_2 : ad438.block ≠ gb437 := Nat.ne_of_lt (Nat.lt_of_lt_of_le (by have := World.block_lt_of_cell? _ _ hx438_0; first | rwa [add_block] at this | exact this) GW437.out); replace hx438_0 := (HB.out.cell (World.block_lt_of_cell? w _ hx438_0)).trans hx438_0; replace hx438_1 := (HB.out.cell (World.block_lt_of_cell? w _ hx438_1)).trans hx438_1; replace hx438_2 := (HB.out.cell (World.block_lt_of_cell? w _ hx438_2)).trans hx438_2; have HR438_1 := Aside0.mk hi438_1; have HC438_1 := Aside0.mk hl438_1; clear hi438_1 hl438_1; replace hx438_0 := (cell_far (p := ⟨gb437, 0, none⟩) (by first | (rw [add_block]; exact hn438_0) | (show (Addr.add _ _).block ≠ _; rw [add_block]; exact hn438_0) | exact hn438_0) (.int .i64 ((rd_T35 l0_1 x34_2).f0))).trans hx438_0; replace hx438_1 := (cell_far (p := ⟨gb437, 0, none⟩) (by first | (rw [add_block]; exact hn438_0) | (show (Addr.add _ _).block ≠ _; rw [add_block]; exact hn438_0) | exact hn438_0) (.int .i64 ((rd_T35 l0_1 x34_2).f0))).trans hx438_1; replace hx438_2 := (cell_far (p := ⟨gb437, 0, none⟩) (by first | (rw [add_block]; exact hn438_0) | (show (Addr.add _ _).block ≠ _; rw [add_block]; exact hn438_0) | exact hn438_0) (.int .i64 ((rd_T35 l0_1 x34_2).f0))).trans hx438_2; replace hx438_0 := (cell_far (p := ⟨gb437, 1, none⟩) (by first | (rw [add_block]; exact hn438_1) | (show (Addr.add _ _).block ≠ _; rw [add_block]; exact hn438_1) | exact hn438_1) (.slice A436_1 ((rd_T35 l0_1 x34_2).f1).length c436_1)).trans hx438_0; replace hx438_1 := (cell_far (p := ⟨gb437, 1, none⟩) (by first | (rw [add_block]; exact hn438_1) | (show (Addr.add _ _).block ≠ _; rw [add_block]; exact hn438_1) | exact hn438_1) (.slice A436_1 ((rd_T35 l0_1 x34_2).f1).length c436_1)).trans hx438_1; replace hx438_2 := (cell_far (p := ⟨gb437, 1, none⟩) (by first | (rw [add_block]; exact hn438_1) | (show (Addr.add _ _).block ≠ _; rw [add_block]; exact hn438_1) | exact hn438_1) (.slice A436_1 ((rd_T35 l0_1 x34_2).f1).length c436_1)).trans hx438_2; replace hx438_0 := (cell_far (p := ⟨gb437, 2, none⟩) (by first | (rw [add_block]; exact hn438_2) | (show (Addr.add _ _).block ≠ _; rw [add_block]; exact hn438_2) | exact hn438_2) (.int .i64 ((rd_T35 l0_1 x34_2).f2))).trans hx438_0; replace hx438_1 := (cell_far (p := ⟨gb437, 2, none⟩) (by first | (rw [add_block]; exact hn438_2) | (show (Addr.add _ _).block ≠ _; rw [add_block]; exact hn438_2) | exact hn438_2) (.int .i64 ((rd_T35 l0_1 x34_2).f2))).trans hx438_1; replace hx438_2 := (cell_far (p := ⟨gb437, 2, none⟩) (by first | (rw [add_block]; exact hn438_2) | (show (Addr.add _ _).block ≠ _; rw [add_block]; exact hn438_2) | exact hn438_2) (.int .i64 ((rd_T35 l0_1 x34_2).f2))).trans hx438_2; clear hn438_0; clear hn438_1; clear hn438_2; replace p438 := eq_true p438; replace q438 := eq_true q438) | ((with_reducible refine gate_dst (N := 7) rfl ?_); (try (refine gate_guard (by rfl) ?_; dsimp only)); refine box_event ?hg (N := 7) ?hd (cs := #[.int .i64 0, .slice none 0 0, .int .i64 0]) (t := 35) ?hr ?_; (case hd => rfl); (case hg => rfl); (case hr => first | (go_simp; done) | (go_simp; rfl)); intro gb439 hg w63 hbox hb; have n0_ := Aside0.mk (blk_below (g := gb432) (o := .cells #[.slice A0_0 l0_0.length c0_0, .slice (some ad436) l0_1.length c0_1, .slice A0_2 l0_2.length c0_2] 26 (0, 0)) (by refine blk_far ?_ NB432_437.out _; refine blk_far ?_ NB432_437.out _; refine blk_far ?_ NB432_437.out _; exact BK432.out) hb); have n1_ := Aside0.mk (blk_below (g := gb433) (o := .cells #[.slice A1_0 l1_0.length c1_0, .slice (some ad438) l1_1.length c1_1, .slice A1_2 l1_2.length c1_2] 26 (0, 0)) (by refine blk_far ?_ NB433_437.out _; refine blk_far ?_ NB433_437.out _; refine blk_far ?_ NB433_437.out _; exact BK433.out) hb); have n2_ := Aside0.mk (blk_below (g := gb437) (o := .cells #[.int .i64 ((rd_T35 l0_1 x34_2).f0), .slice A436_1 ((rd_T35 l0_1 x34_2).f1).length c436_1, .int .i64 ((rd_T35 l0_1 x34_2).f2)] 35 (0, 0)) (by refine blk_put (cs := #[.int .i64 ((rd_T35 l0_1 x34_2).f0), .slice A436_1 ((rd_T35 l0_1 x34_2).f1).length c436_1, .int .i64 0]) ?_ 2 _ rfl; refine blk_put (cs := #[.int .i64 ((rd_T35 l0_1 x34_2).f0), .slice none 0 0, .int .i64 0]) ?_ 1 _ rfl; refine blk_put (cs := #[.int .i64 0, .slice none 0 0, .int .i64 0]) ?_ 0 _ rfl; exact BK437.out) hb); have n3_ := Aside0.mk (below_step (by repeat (first | (with_reducible first | exact HB.out | apply below_alloc | apply pw_below_drewN | apply below_drew1 | refine below_set ?_ GE432.out | refine below_set ?_ GE433.out | refine below_set ?_ GE437.out) | exact HB.out)) hb); have n4_ := Aside0.mk (hbox); have n5_ := Aside0.mk ((by rw [hg]; exact (below_size (by repeat (first | (with_reducible first | exact HB.out | apply below_alloc | apply pw_below_drewN | apply below_drew1 | refine below_set ?_ GE432.out | refine below_set ?_ GE433.out | refine below_set ?_ GE437.out) | exact HB.out))) : w.heap.size ≤ gb439)); have n6_ := Aside0.mk ((by rw [hg]; exact (below_size (by repeat (first | (with_reducible first | exact HB.out | apply below_alloc | apply pw_below_drewN | apply below_drew1 | refine below_set ?_ GE432.out | refine below_set ?_ GE433.out | refine below_set ?_ GE437.out) | exact HB.out))) : w.heap.size ≤ gb439)); have n7_ := Aside0.mk ((by rw [hg]; exact Nat.ne_of_lt (blk_lt (g := gb432) (o := .cells #[.slice A0_0 l0_0.length c0_0, .slice (some ad436) l0_1.length c0_1, .slice A0_2 l0_2.length c0_2] 26 (0, 0)) (by refine blk_far ?_ NB432_437.out _; refine blk_far ?_ NB432_437.out _; refine blk_far ?_ NB432_437.out _; exact BK432.out)) : gb432 ≠ gb439)); have n8_ := Aside0.mk ((by rw [hg]; exact Nat.ne_of_gt (blk_lt (g := gb432) (o := .cells #[.slice A0_0 l0_0.length c0_0, .slice (some ad436) l0_1.length c0_1, .slice A0_2 l0_2.length c0_2] 26 (0, 0)) (by refine blk_far ?_ NB432_437.out _; refine blk_far ?_ NB432_437.out _; refine blk_far ?_ NB432_437.out _; exact BK432.out)) : gb439 ≠ gb432)); have n9_ := Aside0.mk ((by rw [hg]; exact Nat.ne_of_lt (blk_lt (g := gb433) (o := .cells #[.slice A1_0 l1_0.length c1_0, .slice (some ad438) l1_1.length c1_1, .slice A1_2 l1_2.length c1_2] 26 (0, 0)) (by refine blk_far ?_ NB433_437.out _; refine blk_far ?_ NB433_437.out _; refine blk_far ?_ NB433_437.out _; exact BK433.out)) : gb433 ≠ gb439)); have n10_ := Aside0.mk ((by rw [hg]; exact Nat.ne_of_gt (blk_lt (g := gb433) (o := .cells #[.slice A1_0 l1_0.length c1_0, .slice (some ad438) l1_1.length c1_1, .slice A1_2 l1_2.length c1_2] 26 (0, 0)) (by refine blk_far ?_ NB433_437.out _; refine blk_far ?_ NB433_437.out _; refine blk_far ?_ NB433_437.out _; exact BK433.out)) : gb439 ≠ gb433)); have n11_ := Aside0.mk ((by rw [hg]; exact Nat.ne_of_lt (blk_lt (g := gb437) (o := .cells #[.int .i64 ((rd_T35 l0_1 x34_2).f0), .slice A436_1 ((rd_T35 l0_1 x34_2).f1).length c436_1, .int .i64 ((rd_T35 l0_1 x34_2).f2)] 35 (0, 0)) (by refine blk_put (cs := #[.int .i64 ((rd_T35 l0_1 x34_2).f0), .slice A436_1 ((rd_T35 l0_1 x34_2).f1).length c436_1, .int .i64 0]) ?_ 2 _ rfl; refine blk_put (cs := #[.int .i64 ((rd_T35 l0_1 x34_2).f0), .slice none 0 0, .int .i64 0]) ?_ 1 _ rfl; refine blk_put (cs := #[.int .i64 0, .slice none 0 0, .int .i64 0]) ?_ 0 _ rfl; exact BK437.out)) : gb437 ≠ gb439)); have n12_ := Aside0.mk ((by rw [hg]; exact Nat.ne_of_gt (blk_lt (g := gb437) (o := .cells #[.int .i64 ((rd_T35 l0_1 x34_2).f0), .slice A436_1 ((rd_T35 l0_1 x34_2).f1).length c436_1, .int .i64 ((rd_T35 l0_1 x34_2).f2)] 35 (0, 0)) (by refine blk_put (cs := #[.int .i64 ((rd_T35 l0_1 x34_2).f0), .slice A436_1 ((rd_T35 l0_1 x34_2).f1).length c436_1, .int .i64 0]) ?_ 2 _ rfl; refine blk_put (cs := #[.int .i64 ((rd_T35 l0_1 x34_2).f0), .slice none 0 0, .int .i64 0]) ?_ 1 _ rfl; refine blk_put (cs := #[.int .i64 0, .slice none 0 0, .int .i64 0]) ?_ 0 _ rfl; exact BK437.out)) : gb439 ≠ gb437)); clear BK432; clear BK433; clear BK437; clear HB; have BK432 := n0_; have BK433 := n1_; have BK437 := n2_; have HB := n3_; have BK439 := n4_; have GW439 := n5_; have GE439 := n6_; have NB432_439 := n7_; have NB439_432 := n8_; have NB433_439 := n9_; have NB439_433 := n10_; have NB437_439 := n11_; have NB439_437 := n12_; clear n0_ n1_ n2_ n3_ n4_ n5_ n6_ n7_ n8_ n9_ n10_ n11_ n12_; clear hb hbox hg; have hnb64 := NB439_432.out; have hnc64 := NB432_439.out; have hnb65 := NB439_433.out; have hnc65 := NB433_439.out; have hnb66 := NB439_437.out; have hnc66 := NB437_439.out; have hcz67_0 : w63.cell? ⟨gb439, 0, none⟩ = some (.int .i64 0) := (blk_cell BK439.out 0).trans rfl; have hcz67_1 : w63.cell? ⟨gb439, 1, none⟩ = some (.slice none 0 0) := (blk_cell BK439.out 1).trans rfl; have hcz67_2 : w63.cell? ⟨gb439, 2, none⟩ = some (.int .i64 0) := (blk_cell BK439.out 2).trans rfl; have hfz67_0 := blk_frozen BK439.out 0; have hfz67_1 := blk_frozen BK439.out 1; have hfz67_2 := blk_frozen BK439.out 2; have hcz68_0 : w63.cell? ⟨gb437, 0, none⟩ = some (.int .i64 ((rd_T35 l0_1 x34_2).f0)) := (blk_cell BK437.out 0).trans rfl; have hcz68_1 : w63.cell? ⟨gb437, 1, none⟩ = some (.slice A436_1 ((rd_T35 l0_1 x34_2).f1).length c436_1) := (blk_cell BK437.out 1).trans rfl; have hcz68_2 : w63.cell? ⟨gb437, 2, none⟩ = some (.int .i64 ((rd_T35 l0_1 x34_2).f2)) := (blk_cell BK437.out 2).trans rfl; have hfz68_0 := blk_frozen BK437.out 0; have hfz68_1 := blk_frozen BK437.out 1; have hfz68_2 := blk_frozen BK437.out 2))
            go_ret
            exact ⟨by first | rfl | (simp [errW_none, errW_some] <;> rfl) | (simp [*, errW_none, errW_some] <;> rfl), by repeat (first | (with_reducible first | exact HB.out | apply below_alloc | apply pw_below_drewN | apply below_drew1 | refine below_set ?_ GE432.out | refine below_set ?_ GE433.out | refine below_set ?_ GE437.out | refine below_set ?_ GE439.out) | exact HB.out)⟩
          ·rw [if_neg c26] at H
           have c26b0 : (((rd_T35 l0_1 x34_2).f0) == ((rd_T35 l1_1 x34_2).f0)) = false := beq_eq_false_iff_ne.mpr c26
           have c26b1 : (((rd_T35 l0_1 x34_2).f0) != ((rd_T35 l1_1 x34_2).f0)) = true := bne_iff_ne.mpr c26
           obtain rfl := Option.some.inj H
           have hnb69 := NB432_433.out
           have hnc69 := NB433_432.out
           have hcz70_0 : wr.cell? ⟨gb432, 0, none⟩ = some (.slice A0_0 l0_0.length c0_0) := (blk_cell BK432.out 0).trans rfl
           have hcz70_1 : wr.cell? ⟨gb432, 1, none⟩ = some (.slice A0_1 l0_1.length c0_1) := (blk_cell BK432.out 1).trans rfl
           have hcz70_2 : wr.cell? ⟨gb432, 2, none⟩ = some (.slice A0_2 l0_2.length c0_2) := (blk_cell BK432.out 2).trans rfl
           have hfz70_0 := blk_frozen BK432.out 0
           have hfz70_1 := blk_frozen BK432.out 1
           have hfz70_2 := blk_frozen BK432.out 2
           have p436 : 0 ≤ (x34_2 : Int) := of_decide_eq_true (by assumption)
           have q436 : x34_2 < (l0_1.length : Int) := of_decide_eq_true (by assumption)
           obtain ⟨ad436, A436_1, c436_1, e436, hx436_0, hx436_1, hx436_2, hl436_1, hi436_1⟩ := at_T35 HR0_1.out x34_2 p436 q436
           cases e436
           replace hx436_0 := (HB.out.cell (World.block_lt_of_cell? w _ hx436_0)).trans hx436_0
           replace hx436_1 := (HB.out.cell (World.block_lt_of_cell? w _ hx436_1)).trans hx436_1
           replace hx436_2 := (HB.out.cell (World.block_lt_of_cell? w _ hx436_2)).trans hx436_2
           have HR436_1 := Aside0.mk hi436_1
           have HC436_1 := Aside0.mk hl436_1
           clear hi436_1 hl436_1
           replace p436 := eq_true p436
           replace q436 := eq_true q436
           go_wp2_with (first | ((with_reducible refine gate_dst (N := 6) rfl ?_); (try (refine gate_guard (by rfl) ?_; dsimp only)); refine box_event ?hg (N := 6) ?hd (cs := #[.int .i64 0, .slice none 0 0, .int .i64 0]) (t := 35) ?hr ?_; (case hd => rfl); (case hg => rfl); (case hr => first | (go_simp; done) | (go_simp; rfl)); intro gb437 hg w71 hbox hb; have n0_ := Aside0.mk (blk_below (g := gb432) (o := .cells #[.slice A0_0 l0_0.length c0_0, .slice (some ad436) l0_1.length c0_1, .slice A0_2 l0_2.length c0_2] 26 (0, 0)) (by exact BK432.out) hb); have n1_ := Aside0.mk (blk_below (g := gb433) (o := .cells #[.slice A1_0 l1_0.length c1_0, .slice A1_1 l1_1.length c1_1, .slice A1_2 l1_2.length c1_2] 26 (0, 0)) (by exact BK433.out) hb); have n2_ := Aside0.mk (below_step (by exact HB.out) hb); have n3_ := Aside0.mk (hbox); have n4_ := Aside0.mk ((by rw [hg]; exact (below_size (by exact HB.out)) : w.heap.size ≤ gb437)); have n5_ := Aside0.mk ((by rw [hg]; exact (below_size (by exact HB.out)) : w.heap.size ≤ gb437)); have n6_ := Aside0.mk ((by rw [hg]; exact Nat.ne_of_lt (blk_lt (g := gb432) (o := .cells #[.slice A0_0 l0_0.length c0_0, .slice (some ad436) l0_1.length c0_1, .slice A0_2 l0_2.length c0_2] 26 (0, 0)) (by exact BK432.out)) : gb432 ≠ gb437)); have n7_ := Aside0.mk ((by rw [hg]; exact Nat.ne_of_gt (blk_lt (g := gb432) (o := .cells #[.slice A0_0 l0_0.length c0_0, .slice (some ad436) l0_1.length c0_1, .slice A0_2 l0_2.length c0_2] 26 (0, 0)) (by exact BK432.out)) : gb437 ≠ gb432)); have n8_ := Aside0.mk ((by rw [hg]; exact Nat.ne_of_lt (blk_lt (g := gb433) (o := .cells #[.slice A1_0 l1_0.length c1_0, .slice A1_1 l1_1.length c1_1, .slice A1_2 l1_2.length c1_2] 26 (0, 0)) (by exact BK433.out)) : gb433 ≠ gb437)); have n9_ := Aside0.mk ((by rw [hg]; exact Nat.ne_of_gt (blk_lt (g := gb433) (o := .cells #[.slice A1_0 l1_0.length c1_0, .slice A1_1 l1_1.length c1_1, .slice A1_2 l1_2.length c1_2] 26 (0, 0)) (by exact BK433.out)) : gb437 ≠ gb433)); clear BK432; clear BK433; clear HB; have BK432 := n0_; have BK433 := n1_; have HB := n2_; have BK437 := n3_; have GW437 := n4_; have GE437 := n5_; have NB432_437 := n6_; have NB437_432 := n7_; have NB433_437 := n8_; have NB437_433 := n9_; clear n0_ n1_ n2_ n3_ n4_ n5_ n6_ n7_ n8_ n9_; clear hb hbox hg; have hnb72 := NB437_432.out; have hnc72 := NB432_437.out; have hnb73 := NB437_433.out; have hnc73 := NB433_437.out; have hcz74_0 : w71.cell? ⟨gb437, 0, none⟩ = some (.int .i64 0) := (blk_cell BK437.out 0).trans rfl; have hcz74_1 : w71.cell? ⟨gb437, 1, none⟩ = some (.slice none 0 0) := (blk_cell BK437.out 1).trans rfl; have hcz74_2 : w71.cell? ⟨gb437, 2, none⟩ = some (.int .i64 0) := (blk_cell BK437.out 2).trans rfl; have hfz74_0 := blk_frozen BK437.out 0; have hfz74_1 := blk_frozen BK437.out 1; have hfz74_2 := blk_frozen BK437.out 2; have hcz75_0 : w71.cell? ⟨gb433, 0, none⟩ = some (.slice A1_0 l1_0.length c1_0) := (blk_cell BK433.out 0).trans rfl; have hcz75_1 : w71.cell? ⟨gb433, 1, none⟩ = some (.slice A1_1 l1_1.length c1_1) := (blk_cell BK433.out 1).trans rfl; have hcz75_2 : w71.cell? ⟨gb433, 2, none⟩ = some (.slice A1_2 l1_2.length c1_2) := (blk_cell BK433.out 2).trans rfl; have hfz75_0 := blk_frozen BK433.out 0; have hfz75_1 := blk_frozen BK433.out 1; have hfz75_2 := blk_frozen BK433.out 2; have p438 : 0 ≤ (x34_2 : Int) := of_decide_eq_true (by assumption); have q438 : x34_2 < (l1_1.length : Int) := of_decide_eq_true (by assumption); obtain ⟨ad438, A438_1, c438_1, e438, hx438_0, hx438_1, hx438_2, hl438_1, hi438_1⟩ := at_T35 HR1_1.out x34_2 p438 q438; cases e438; have hn438_0 : ad438.block ≠ gb437 := Nat.ne_of_lt (Nat.lt_of_lt_of_le (by have := World.block_lt_of_cell? _ _ hx438_0; first | rwa [add_block] at this | exact this) GW437.out); have hn438_1 : ad438.block ≠ gb437 := Nat.ne_of_lt (Nat.lt_of_lt_of_le (by have := World.block_lt_of_cell? _ _ hx438_0; first | rwa [add_block] at this | exact this) GW437.out); have hn438_2 : ad438.block ≠ gb437 := Nat.ne_of_lt (Nat.lt_of_lt_of_le (by have := World.block_lt_of_cell? _ _ hx438_0; first | rwa [add_block] at this | exact this) GW437.out); replace hx438_0 := (HB.out.cell (World.block_lt_of_cell? w _ hx438_0)).trans hx438_0; replace hx438_1 := (HB.out.cell (World.block_lt_of_cell? w _ hx438_1)).trans hx438_1; replace hx438_2 := (HB.out.cell (World.block_lt_of_cell? w _ hx438_2)).trans hx438_2; have HR438_1 := Aside0.mk hi438_1; have HC438_1 := Aside0.mk hl438_1; clear hi438_1 hl438_1; replace hx438_0 := (cell_far (p := ⟨gb437, 0, none⟩) (by first | (rw [add_block]; exact hn438_0) | (show (Addr.add _ _).block ≠ _; rw [add_block]; exact hn438_0) | exact hn438_0) (.int .i64 ((rd_T35 l0_1 x34_2).f0))).trans hx438_0; replace hx438_1 := (cell_far (p := ⟨gb437, 0, none⟩) (by first | (rw [add_block]; exact hn438_0) | (show (Addr.add _ _).block ≠ _; rw [add_block]; exact hn438_0) | exact hn438_0) (.int .i64 ((rd_T35 l0_1 x34_2).f0))).trans hx438_1; replace hx438_2 := (cell_far (p := ⟨gb437, 0, none⟩) (by first | (rw [add_block]; exact hn438_0) | (show (Addr.add _ _).block ≠ _; rw [add_block]; exact hn438_0) | exact hn438_0) (.int .i64 ((rd_T35 l0_1 x34_2).f0))).trans hx438_2; replace hx438_0 := (cell_far (p := ⟨gb437, 1, none⟩) (by first | (rw [add_block]; exact hn438_1) | (show (Addr.add _ _).block ≠ _; rw [add_block]; exact hn438_1) | exact hn438_1) (.slice A436_1 ((rd_T35 l0_1 x34_2).f1).length c436_1)).trans hx438_0; replace hx438_1 := (cell_far (p := ⟨gb437, 1, none⟩) (by first | (rw [add_block]; exact hn438_1) | (show (Addr.add _ _).block ≠ _; rw [add_block]; exact hn438_1) | exact hn438_1) (.slice A436_1 ((rd_T35 l0_1 x34_2).f1).length c436_1)).trans hx438_1; replace hx438_2 := (cell_far (p := ⟨gb437, 1, none⟩) (by first | (rw [add_block]; exact hn438_1) | (show (Addr.add _ _).block ≠ _; rw [add_block]; exact hn438_1) | exact hn438_1) (.slice A436_1 ((rd_T35 l0_1 x34_2).f1).length c436_1)).trans hx438_2; replace hx438_0 := (cell_far (p := ⟨gb437, 2, none⟩) (by first | (rw [add_block]; exact hn438_2) | (show (Addr.add _ _).block ≠ _; rw [add_block]; exact hn438_2) | exact hn438_2) (.int .i64 ((rd_T35 l0_1 x34_2).f2))).trans hx438_0; replace hx438_1 := (cell_far (p := ⟨gb437, 2, none⟩) (by first | (rw [add_block]; exact hn438_2) | (show (Addr.add _ _).block ≠ _; rw [add_block]; exact hn438_2) | exact hn438_2) (.int .i64 ((rd_T35 l0_1 x34_2).f2))).trans hx438_1; replace hx438_2 := (cell_far (p := ⟨gb437, 2, none⟩) (by first | (rw [add_block]; exact hn438_2) | (show (Addr.add _ _).block ≠ _; rw [add_block]; exact hn438_2) | exact hn438_2) (.int .i64 ((rd_T35 l0_1 x34_2).f2))).trans hx438_2; clear hn438_0; clear hn438_1; clear hn438_2; replace p438 := eq_true p438; replace q438 := eq_true q438) | ((with_reducible refine gate_dst (N := 7) rfl ?_); (try (refine gate_guard (by rfl) ?_; dsimp only)); refine box_event ?hg (N := 7) ?hd (cs := #[.int .i64 0, .slice none 0 0, .int .i64 0]) (t := 35) ?hr ?_; (case hd => rfl); (case hg => rfl); (case hr => first | (go_simp; done) | (go_simp; rfl)); intro gb439 hg w76 hbox hb; have n0_ := Aside0.mk (blk_below (g := gb432) (o := .cells #[.slice A0_0 l0_0.length c0_0, .slice (some ad436) l0_1.length c0_1, .slice A0_2 l0_2.length c0_2] 26 (0, 0)) (by refine blk_far ?_ NB432_437.out _; refine blk_far ?_ NB432_437.out _; refine blk_far ?_ NB432_437.out _; exact BK432.out) hb); have n1_ := Aside0.mk (blk_below (g := gb433) (o := .cells #[.slice A1_0 l1_0.length c1_0, .slice (some ad438) l1_1.length c1_1, .slice A1_2 l1_2.length c1_2] 26 (0, 0)) (by refine blk_far ?_ NB433_437.out _; refine blk_far ?_ NB433_437.out _; refine blk_far ?_ NB433_437.out _; exact BK433.out) hb); have n2_ := Aside0.mk (blk_below (g := gb437) (o := .cells #[.int .i64 ((rd_T35 l0_1 x34_2).f0), .slice A436_1 ((rd_T35 l0_1 x34_2).f1).length c436_1, .int .i64 ((rd_T35 l0_1 x34_2).f2)] 35 (0, 0)) (by refine blk_put (cs := #[.int .i64 ((rd_T35 l0_1 x34_2).f0), .slice A436_1 ((rd_T35 l0_1 x34_2).f1).length c436_1, .int .i64 0]) ?_ 2 _ rfl; refine blk_put (cs := #[.int .i64 ((rd_T35 l0_1 x34_2).f0), .slice none 0 0, .int .i64 0]) ?_ 1 _ rfl; refine blk_put (cs := #[.int .i64 0, .slice none 0 0, .int .i64 0]) ?_ 0 _ rfl; exact BK437.out) hb); have n3_ := Aside0.mk (below_step (by repeat (first | (with_reducible first | exact HB.out | apply below_alloc | apply pw_below_drewN | apply below_drew1 | refine below_set ?_ GE432.out | refine below_set ?_ GE433.out | refine below_set ?_ GE437.out) | exact HB.out)) hb); have n4_ := Aside0.mk (hbox); have n5_ := Aside0.mk ((by rw [hg]; exact (below_size (by repeat (first | (with_reducible first | exact HB.out | apply below_alloc | apply pw_below_drewN | apply below_drew1 | refine below_set ?_ GE432.out | refine below_set ?_ GE433.out | refine below_set ?_ GE437.out) | exact HB.out))) : w.heap.size ≤ gb439)); have n6_ := Aside0.mk ((by rw [hg]; exact (below_size (by repeat (first | (with_reducible first | exact HB.out | apply below_alloc | apply pw_below_drewN | apply below_drew1 | refine below_set ?_ GE432.out | refine below_set ?_ GE433.out | refine below_set ?_ GE437.out) | exact HB.out))) : w.heap.size ≤ gb439)); have n7_ := Aside0.mk ((by rw [hg]; exact Nat.ne_of_lt (blk_lt (g := gb432) (o := .cells #[.slice A0_0 l0_0.length c0_0, .slice (some ad436) l0_1.length c0_1, .slice A0_2 l0_2.length c0_2] 26 (0, 0)) (by refine blk_far ?_ NB432_437.out _; refine blk_far ?_ NB432_437.out _; refine blk_far ?_ NB432_437.out _; exact BK432.out)) : gb432 ≠ gb439)); have n8_ := Aside0.mk ((by rw [hg]; exact Nat.ne_of_gt (blk_lt (g := gb432) (o := .cells #[.slice A0_0 l0_0.length c0_0, .slice (some ad436) l0_1.length c0_1, .slice A0_2 l0_2.length c0_2] 26 (0, 0)) (by refine blk_far ?_ NB432_437.out _; refine blk_far ?_ NB432_437.out _; refine blk_far ?_ NB432_437.out _; exact BK432.out)) : gb439 ≠ gb432)); have n9_ := Aside0.mk ((by rw [hg]; exact Nat.ne_of_lt (blk_lt (g := gb433) (o := .cells #[.slice A1_0 l1_0.length c1_0, .slice (some ad438) l1_1.length c1_1, .slice A1_2 l1_2.length c1_2] 26 (0, 0)) (by refine blk_far ?_ NB433_437.out _; refine blk_far ?_ NB433_437.out _; refine blk_far ?_ NB433_437.out _; exact BK433.out)) : gb433 ≠ gb439)); have n10_ := Aside0.mk ((by rw [hg]; exact Nat.ne_of_gt (blk_lt (g := gb433) (o := .cells #[.slice A1_0 l1_0.length c1_0, .slice (some ad438) l1_1.length c1_1, .slice A1_2 l1_2.length c1_2] 26 (0, 0)) (by refine blk_far ?_ NB433_437.out _; refine blk_far ?_ NB433_437.out _; refine blk_far ?_ NB433_437.out _; exact BK433.out)) : gb439 ≠ gb433)); have n11_ := Aside0.mk ((by rw [hg]; exact Nat.ne_of_lt (blk_lt (g := gb437) (o := .cells #[.int .i64 ((rd_T35 l0_1 x34_2).f0), .slice A436_1 ((rd_T35 l0_1 x34_2).f1).length c436_1, .int .i64 ((rd_T35 l0_1 x34_2).f2)] 35 (0, 0)) (by refine blk_put (cs := #[.int .i64 ((rd_T35 l0_1 x34_2).f0), .slice A436_1 ((rd_T35 l0_1 x34_2).f1).length c436_1, .int .i64 0]) ?_ 2 _ rfl; refine blk_put (cs := #[.int .i64 ((rd_T35 l0_1 x34_2).f0), .slice none 0 0, .int .i64 0]) ?_ 1 _ rfl; refine blk_put (cs := #[.int .i64 0, .slice none 0 0, .int .i64 0]) ?_ 0 _ rfl; exact BK437.out)) : gb437 ≠ gb439)); have n12_ := Aside0.mk ((by rw [hg]; exact Nat.ne_of_gt (blk_lt (g := gb437) (o := .cells #[.int .i64 ((rd_T35 l0_1 x34_2).f0), .slice A436_1 ((rd_T35 l0_1 x34_2).f1).length c436_1, .int .i64 ((rd_T35 l0_1 x34_2).f2)] 35 (0, 0)) (by refine blk_put (cs := #[.int .i64 ((rd_T35 l0_1 x34_2).f0), .slice A436_1 ((rd_T35 l0_1 x34_2).f1).length c436_1, .int .i64 0]) ?_ 2 _ rfl; refine blk_put (cs := #[.int .i64 ((rd_T35 l0_1 x34_2).f0), .slice none 0 0, .int .i64 0]) ?_ 1 _ rfl; refine blk_put (cs := #[.int .i64 0, .slice none 0 0, .int .i64 0]) ?_ 0 _ rfl; exact BK437.out)) : gb439 ≠ gb437)); clear BK432; clear BK433; clear BK437; clear HB; have BK432 := n0_; have BK433 := n1_; have BK437 := n2_; have HB := n3_; have BK439 := n4_; have GW439 := n5_; have GE439 := n6_; have NB432_439 := n7_; have NB439_432 := n8_; have NB433_439 := n9_; have NB439_433 := n10_; have NB437_439 := n11_; have NB439_437 := n12_; clear n0_ n1_ n2_ n3_ n4_ n5_ n6_ n7_ n8_ n9_ n10_ n11_ n12_; clear hb hbox hg; have hnb77 := NB439_432.out; have hnc77 := NB432_439.out; have hnb78 := NB439_433.out; have hnc78 := NB433_439.out; have hnb79 := NB439_437.out; have hnc79 := NB437_439.out; have hcz80_0 : w76.cell? ⟨gb439, 0, none⟩ = some (.int .i64 0) := (blk_cell BK439.out 0).trans rfl; have hcz80_1 : w76.cell? ⟨gb439, 1, none⟩ = some (.slice none 0 0) := (blk_cell BK439.out 1).trans rfl; have hcz80_2 : w76.cell? ⟨gb439, 2, none⟩ = some (.int .i64 0) := (blk_cell BK439.out 2).trans rfl; have hfz80_0 := blk_frozen BK439.out 0; have hfz80_1 := blk_frozen BK439.out 1; have hfz80_2 := blk_frozen BK439.out 2; have hcz81_0 : w76.cell? ⟨gb437, 0, none⟩ = some (.int .i64 ((rd_T35 l0_1 x34_2).f0)) := (blk_cell BK437.out 0).trans rfl; have hcz81_1 : w76.cell? ⟨gb437, 1, none⟩ = some (.slice A436_1 ((rd_T35 l0_1 x34_2).f1).length c436_1) := (blk_cell BK437.out 1).trans rfl; have hcz81_2 : w76.cell? ⟨gb437, 2, none⟩ = some (.int .i64 ((rd_T35 l0_1 x34_2).f2)) := (blk_cell BK437.out 2).trans rfl; have hfz81_0 := blk_frozen BK437.out 0; have hfz81_1 := blk_frozen BK437.out 1; have hfz81_2 := blk_frozen BK437.out 2))
           go_ret
           exact ⟨by first | rfl | (simp [errW_none, errW_some] <;> rfl) | (simp [*, errW_none, errW_some] <;> rfl), by repeat (first | (with_reducible first | exact HB.out | apply below_alloc | apply pw_below_drewN | apply below_drew1 | refine below_set ?_ GE432.out | refine below_set ?_ GE433.out | refine below_set ?_ GE437.out | refine below_set ?_ GE439.out) | exact HB.out)⟩
         ·rw [if_neg c25] at H
          exact absurd H (by simp)
        ·rw [if_neg c24] at H
         exact absurd H (by simp)
       ·rw [if_neg c23] at H
        exact absurd H (by simp)
      ·rw [if_neg c22] at H
       have c22b0 : decide (x34_2 < (l0_1.length : Int)) = false := decide_eq_false c22
       clear c22
       obtain rfl := Option.some.inj H
       go_wp2
       go_ret
       exact ⟨by first | rfl | (simp [errW_none, errW_some] <;> rfl) | (simp [*, errW_none, errW_some] <;> rfl), by exact HB.out⟩

-- NOT PRINTED: function 3 (laws_FnTop)


/-! ### laws_heldAskedS: function 53 -/
def laws_heldAskedS.l0 : Nat → List (S33) → Int → Int → Option (Int)
  | 0, _, _, _ => none
  | k + 1, x0, x1, x5 => if x5 < (x0.length : Int) then (if 0 ≤ x5 then (if ((rd_T33 x0 x5).f0) = x1 then ((laws_heldIntS.f k ((rd_T33 x0 x5).f1.f0) (wrap64 (x1 + 1))).bind fun t848 => (if t848 < 0 then (some (-1)) else ((laws_heldTrainS.f k ((rd_T33 x0 x5).f1.f1) t848).bind fun t850 => (if t850 < 0 then (some (-1)) else ((laws_heldIntS.f k ((rd_T33 x0 x5).f1.f2) t850).bind fun t852 => (if t852 < 0 then (some (-1)) else (laws_heldAskedS.l0 k x0 t852 (wrap64 (x5 + 1))))))))) else (some (-1))) else (none)) else (some x1)
def laws_heldAskedS.f (k : Nat) (l0 : List (S33)) (a1 : Int) : Option (Int) := laws_heldAskedS.l0 k l0 a1 0
theorem laws_heldAskedS.mono_l : ∀ k, (∀ y0 y1 y2, LeO (laws_heldAskedS.l0 k y0 y1 y2) (laws_heldAskedS.l0 (k + 1) y0 y1 y2))
  | 0 => fun _ _ _ r h => by simp [laws_heldAskedS.l0] at h
  | k + 1 => by
    have ih0 := laws_heldAskedS.mono_l k
    · intro y0 y1 y2
      unfold laws_heldAskedS.l0
      repeat' first
      | (with_reducible exact ih0 _ _ _)
      | (with_reducible exact laws_heldIntS.mono _ _ _)
      | (with_reducible exact laws_heldTrainS.mono _ _ _)
      | (with_reducible exact LeO.refl _)
      | (with_reducible exact LeO.none _)
      | (with_reducible refine LeO.ite ?_ ?_)
      | (with_reducible refine LeO.bind ?_ (fun _ => ?_))
      | exact ih0 _ _ _
      | exact laws_heldIntS.mono _ _ _
      | exact laws_heldTrainS.mono _ _ _
      | exact LeO.none _
      | refine LeO.ite ?_ ?_
      | refine LeO.bind ?_ (fun _ => ?_)
theorem laws_heldAskedS.mono : ∀ a0 a1 k, LeO (laws_heldAskedS.f k a0 a1) (laws_heldAskedS.f (k + 1) a0 a1) := by
  intro a0 a1 k
  have ih0 := laws_heldAskedS.mono_l k
  unfold laws_heldAskedS.f
  repeat' first
      | (with_reducible exact ih0 _ _ _)
      | (with_reducible exact laws_heldIntS.mono _ _ _)
      | (with_reducible exact laws_heldTrainS.mono _ _ _)
      | (with_reducible exact LeO.refl _)
      | (with_reducible exact LeO.none _)
      | (with_reducible refine LeO.ite ?_ ?_)
      | (with_reducible refine LeO.bind ?_ (fun _ => ?_))
      | exact ih0 _ _ _
      | exact laws_heldIntS.mono _ _ _
      | exact laws_heldTrainS.mono _ _ _
      | exact LeO.none _
      | refine LeO.ite ?_ ?_
      | refine LeO.bind ?_ (fun _ => ?_)

end Go.Proofs.Ytpbclogjoangfaa.Q
