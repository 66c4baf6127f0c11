-- Written by programs of this session (wip/drv.py, wip/mkclaim.py) over the kit's print; not trusted: Lean checks it.
import Derived.Test.YtncckjibiffnaaaFnExactStepQ0
namespace Go.Proofs.Ytncckjibiffnaaa.Q
open Go.RowKit Go.Proofs.YtncckjibiffnaaaW.PrintWords Go.Proofs.YtncckjibiffnaaaW.PrintLast Go.Proofs.YtncckjibiffnaaaW.PrintMore
attribute [local go_sem] max2_int min2_int max_two min_two max_three min_three max_four min_four   -- for this text's walks alone
set_option linter.unusedVariables false
set_option linter.unusedSimpArgs false

/-! ### laws_markIntS: function 25 -/
def laws_markIntS.l0 : Nat → List Int → Int → Int → Option (Int × List Int)
 | 0, _, _, _ => none
 | k + 1, x0, x1, x5 => if x5 < (x0.length : Int) then (if 0 ≤ x5 then (laws_markIntS.l0 k (x0.set (x5 : Int).toNat x1) (wrap64 (x1 + 1)) (wrap64 (x5 + 1))) else (none)) else (some (x1, x0))
def laws_markIntS.f (k : Nat) (l0 : List Int) (a1 : Int) : Option (Int × List Int) := laws_markIntS.l0 k l0 a1 0
theorem laws_markIntS.mono_l : ∀ k, (∀ y0 y1 y2, LeO (laws_markIntS.l0 k y0 y1 y2) (laws_markIntS.l0 (k + 1) y0 y1 y2))
 | 0 => fun _ _ _ r h => by simp [laws_markIntS.l0] at h
 | k + 1 => by
  have ih0 := laws_markIntS.mono_l k
  ·intro y0 y1 y2
   unfold laws_markIntS.l0
   repeat' first
   | (with_reducible exact ih0 _ _ _)
   | (with_reducible exact LeO.refl _)
   | (with_reducible exact LeO.none _)
   | (with_reducible refine LeO.ite ?_ ?_)
   | (with_reducible refine LeO.bind ?_ (fun _ => ?_))
   | exact ih0 _ _ _
   | exact LeO.none _
   | refine LeO.ite ?_ ?_
   | refine LeO.bind ?_ (fun _ => ?_)
theorem laws_markIntS.mono : ∀ a0 a1 k, LeO (laws_markIntS.f k a0 a1) (laws_markIntS.f (k + 1) a0 a1) := by
 intro a0 a1 k
 have ih0 := laws_markIntS.mono_l k
 unfold laws_markIntS.f
 repeat' first
   | (with_reducible exact ih0 _ _ _)
   | (with_reducible exact LeO.refl _)
   | (with_reducible exact LeO.none _)
   | (with_reducible refine LeO.ite ?_ ?_)
   | (with_reducible refine LeO.bind ?_ (fun _ => ?_))
   | exact ih0 _ _ _
   | exact LeO.none _
   | refine LeO.ite ?_ ?_
   | refine LeO.bind ?_ (fun _ => ?_)
set_option maxHeartbeats 8000000 in
set_option maxRecDepth 100000 in
theorem laws_markIntS.calls (k : Nat) (P0_ : Nat → Prop) (u9000_ : Value) (l0 : List Int) (a1 : Int) (r1 : Int) (r2 : List Int) (w0 w : World) (hB : Below w0.heap.size w0 w) (ho0 : Kd.R (Kd.int .i64) 3 w w0.heap.size P0_ u9000_ l0) (h : laws_markIntS.f k l0 a1 = some (r1, r2)) :
  Calls Try.prog 25 #[u9000_, .int .i64 a1] w fun e w' => e = .returned (.int .i64 r1) ∧ Kd.R (Kd.int .i64) 3 w' w0.heap.size (fun k_ => (P0_ k_ ∨ w.heap.size ≤ k_)) u9000_ r2 ∧ Below w0.heap.size w0 w' ∧ Kept w w' (fun k_ => P0_ k_) := by
 have HO0 := Aside0.mk (show Kd.R (Kd.int .i64) 3 w w0.heap.size (fun k_ => (P0_ k_ ∨ w.heap.size ≤ k_)) u9000_ l0 from Kd.R_mono ho0 (fun k_ hk => (.inl hk)))
 have HK := Aside0.mk (Kept.refl w (fun k_ => P0_ k_))
 have HW0 := Aside0.mk hB.size
 have HB := Aside0.mk hB
 clear hB
 have H : (laws_markIntS.l0 k l0 a1 0) = some (r1, r2) := h
 clear h
 have H' := Aside0.mk H
 clear H
 go_enter Try.func25, Try.ntmps25
 go_wp2
 go_loopg [1, 5] k (fun kq v1 v5 w' => ∃ (x0_1 : List Int) (x1_1 : Int) (x5_1 : Int), v1 = .int .i64 x1_1 ∧ v5 = .int .i64 x5_1 ∧ Aside0 (laws_markIntS.l0 kq x0_1 x1_1 x5_1 = some (r1, r2)) ∧ Aside0 (kq ≤ k) ∧ Aside0 (Kd.R (Kd.int .i64) 3 w' w0.heap.size (fun k_ => (P0_ k_ ∨ w.heap.size ≤ k_)) u9000_ x0_1) ∧ Aside0 (Kept w w' (fun k_ => P0_ k_)) ∧ Aside0 (Below w0.heap.size w0 w'))
 case atStart => exact ⟨(l0), (a1), (0), (by first | rfl | (simp; done) | (simp [*]; done)), (by first | rfl | (simp; done) | (simp [*]; done)), H', ⟨Nat.le_refl _⟩, ⟨by exact HO0.out⟩, ⟨by repeat (first | (with_reducible first | exact HK.out | apply Kept.alloc | apply Kept.drewN | apply Kept.drew) | exact HK.out)⟩, ⟨by exact HB.out⟩⟩
 case round =>
  clear H'
  try clear c2
  try clear p2
  obtain ⟨x0_1, x1_1, x5_1, rfl, rfl, HA, HK1, HO_0, HK, HB⟩ := hrel
  cases gk with
  | zero => exact absurd HA.out (by simp [laws_markIntS.l0])
  | succ k1 =>
   have H := HA.out
   clear HA
   simp only [laws_markIntS.l0] at H
   by_cases c3 : x5_1 < (x0_1.length : Int)
   ·rw [if_pos c3] at H
    have c3b0 : decide (x5_1 < (x0_1.length : Int)) = true := decide_eq_true c3
    clear c3
    by_cases c4 : 0 ≤ x5_1
    ·rw [if_pos c4] at H
     have c4b0 : decide (0 ≤ x5_1) = true := decide_eq_true c4
     clear c4
     obtain ⟨y334, hy334⟩ : ∃ y_ : List Int, y_ = (x0_1.set (x5_1 : Int).toNat x1_1) := ⟨_, rfl⟩
     replace H : (laws_markIntS.l0 k1 y334 (wrap64 (x1_1 + 1)) (wrap64 (x5_1 + 1))) = some (r1, r2) := by first | (rw [hy334]; with_reducible exact H) | (have H2_ := (Option.bind_some _ _).symm.trans H; rw [hy334]; with_reducible exact H2_) | (have H2_ := (Option.bind_some _ _).symm.trans H; with_reducible exact H2_) | with_reducible exact H | (rw [hy334]; exact H) | exact H
     have Ny334 := Aside0.mk hy334
     clear hy334
     have H' := Aside0.mk H
     clear H
     obtain ⟨Ao6, co6, eo6⟩ := Kd.R_slice HO_0.out
     subst eo6
     have p5 : 0 ≤ (x5_1 : Int) := of_decide_eq_true (by assumption)
     have q5 : (x5_1 : Int) < ((x0_1.length : Int) : Int) := of_decide_eq_true (by assumption)
     obtain ⟨go5, co5, eo5, gb5, gl5, cl5, HG5⟩ := Kd.R_form HO_0.out (by omega)
     (first | cases eo5 | (injection eo5 with ea_ en_ ec_; (first | subst ea_ | (injection ea_ with ea_; subst ea_)); subst ec_; clear en_))
     have GB5 := Aside0.mk gb5
     have GG5 := Aside0.mk HG5
     clear gb5 gl5 HG5
     have HMgo5 := Aside0.mk (show (P0_ go5 ∨ w.heap.size ≤ go5) from (HO_0.out.1 _ rfl))
     obtain ⟨hx5_0, hf5_0⟩ := Kd.R_celln 0 HO_0.out (x5_1 : Int) p5 q5
     replace p5 := eq_true p5
     replace q5 := eq_true q5
     have HP7 := Kd.R_putg HO_0.out (x5_1 : Int) x1_1
     go_wp2_with (first | ((with_reducible refine gate_store (t := 3) (p := 15) rfl ?_); refine store_event (t := 3) (p := 15) (v := ?vo_w8) (w1 := (wr.setCell ⟨go5, (x5_1 : Int).toNat, none⟩ (.int .i64 x1_1))) ?hg ?ho ?hn ?hr ?_; (case ho => rfl); (case hg => rfl); (case hn => rfl); (case hr => first | (go_simp; done) | (go_simp; rfl)); intro w8 hw; have hg : wr.grownBy w8 (some go5) := (by rw [hw]; exact HP7.2); have hp_ : Kd.R (Kd.int .i64) 3 w8 w0.heap.size (fun k_ => (P0_ k_ ∨ w.heap.size ≤ k_)) (.slice (some ⟨go5, 0, none⟩) x0_1.length co6) y334 := (by rw [hw, Ny334.out]; exact HP7.1); clear HP7; have n0_ := Aside0.mk (hp_); have n1_ := Aside0.mk ((by rw [hw]; exact below_set (HB.out) GB5.out : Below w0.heap.size w0 w8)); have n2_ := Aside0.mk (Kept.of_grown (S := (fun k_ => P0_ k_)) hg (by repeat (first | (with_reducible first | exact HK.out | apply Kept.alloc | apply Kept.drewN | apply Kept.drew) | exact HK.out)) (fun k_ e_ => (HO_0.out.1 k_ e_))); clear HO_0; clear HB; clear HK; have HO_0 := n0_; have HB := n1_; have HK := n2_; clear n0_ n1_ n2_; clear hg hw hp_))
     go_roundg k1
     case measure => have := HK1.out; omega
     case rel => exact ⟨(y334), (wrap64 (x1_1 + 1)), (wrap64 (x5_1 + 1)), (by first | rfl | (simp; done) | (simp [*]; done)), (by first | rfl | (simp; done) | (simp [*]; done)), H', ⟨by have := HK1.out; omega⟩, ⟨by exact HO_0.out⟩, ⟨by repeat (first | (with_reducible first | exact HK.out | apply Kept.alloc | apply Kept.drewN | apply Kept.drew) | exact HK.out)⟩, ⟨by exact HB.out⟩⟩
    ·rw [if_neg c4] at H
     exact absurd H (by simp)
   ·rw [if_neg c3] at H
    have c3b0 : decide (x5_1 < (x0_1.length : Int)) = false := decide_eq_false c3
    clear c3
    simp only [Option.some.injEq, Prod.mk.injEq] at H
    obtain ⟨rfl, rfl⟩ := H
    obtain ⟨Ao9, co9, eo9⟩ := Kd.R_slice HO_0.out
    subst eo9
    go_wp2
    go_ret
    exact ⟨by first | rfl | (simp [errW_none, errW_some] <;> rfl) | (simp [*, errW_none, errW_some] <;> rfl), by exact HO_0.out, by exact HB.out, by repeat (first | (with_reducible first | exact HK.out | apply Kept.alloc | apply Kept.drewN | apply Kept.drew) | exact HK.out)⟩

-- NOT PRINTED: function 46 (laws_markTrainS)

-- NOT PRINTED: function 24 (laws_markState)


/-! ### laws_heldIntS: function 26 -/
def laws_heldIntS.l0 : Nat → List Int → Int → Int → Option (Int)
 | 0, _, _, _ => none
 | k + 1, x0, x1, x5 => if x5 < (x0.length : Int) then (if 0 ≤ x5 then (if (rd x0 x5) = x1 then (laws_heldIntS.l0 k x0 (wrap64 (x1 + 1)) (wrap64 (x5 + 1))) else (some (-1))) else (none)) else (some x1)
def laws_heldIntS.f (k : Nat) (l0 : List Int) (a1 : Int) : Option (Int) := laws_heldIntS.l0 k l0 a1 0
theorem laws_heldIntS.mono_l : ∀ k, (∀ y0 y1 y2, LeO (laws_heldIntS.l0 k y0 y1 y2) (laws_heldIntS.l0 (k + 1) y0 y1 y2))
 | 0 => fun _ _ _ r h => by simp [laws_heldIntS.l0] at h
 | k + 1 => by
  have ih0 := laws_heldIntS.mono_l k
  ·intro y0 y1 y2
   unfold laws_heldIntS.l0
   repeat' first
   | (with_reducible exact ih0 _ _ _)
   | (with_reducible exact LeO.refl _)
   | (with_reducible exact LeO.none _)
   | (with_reducible refine LeO.ite ?_ ?_)
   | (with_reducible refine LeO.bind ?_ (fun _ => ?_))
   | exact ih0 _ _ _
   | exact LeO.none _
   | refine LeO.ite ?_ ?_
   | refine LeO.bind ?_ (fun _ => ?_)
theorem laws_heldIntS.mono : ∀ a0 a1 k, LeO (laws_heldIntS.f k a0 a1) (laws_heldIntS.f (k + 1) a0 a1) := by
 intro a0 a1 k
 have ih0 := laws_heldIntS.mono_l k
 unfold laws_heldIntS.f
 repeat' first
   | (with_reducible exact ih0 _ _ _)
   | (with_reducible exact LeO.refl _)
   | (with_reducible exact LeO.none _)
   | (with_reducible refine LeO.ite ?_ ?_)
   | (with_reducible refine LeO.bind ?_ (fun _ => ?_))
   | exact ih0 _ _ _
   | exact LeO.none _
   | refine LeO.ite ?_ ?_
   | refine LeO.bind ?_ (fun _ => ?_)
set_option maxHeartbeats 8000000 in
set_option maxRecDepth 100000 in
theorem laws_heldIntS.calls (k : Nat) (A0 : Option Addr) (c0 : Nat) (l0 : List Int) (a1 : Int) (r : Int) (w : World) (hr0 : Kd.C (Kd.int .i64) w A0 l0.length l0) (hc0 : l0.length ≤ c0) (h : laws_heldIntS.f k l0 a1 = some r) :
  Calls Try.prog 26 #[.slice A0 l0.length c0, .int .i64 a1] w fun e w' => e = .returned (.int .i64 r) ∧ Drawn0 w w' := by
 have HR0 := Aside0.mk hr0
 have HC0 := Aside0.mk hc0
 clear hr0 hc0
 have H : (laws_heldIntS.l0 k l0 a1 0) = some r := h
 clear h
 have H' := Aside0.mk H
 clear H
 go_enter Try.func26, Try.ntmps26
 go_wp2
 go_loopg [1, 5] k (fun kq v1 v5 w' => ∃ (x1_1 : Int) (x5_1 : Int), v1 = .int .i64 x1_1 ∧ v5 = .int .i64 x5_1 ∧ Aside0 (laws_heldIntS.l0 kq l0 x1_1 x5_1 = some r) ∧ Aside0 (kq ≤ k) ∧ Drawn0 w w')
 case atStart => exact ⟨(a1), (0), (by first | rfl | (simp; done) | (simp [*]; done)), (by first | rfl | (simp; done) | (simp [*]; done)), H', ⟨Nat.le_refl _⟩, by repeat (first | exact Drawn0.refl _ | apply Drawn0.step)⟩
 case round =>
  clear H'
  try clear c2
  try clear p2
  obtain ⟨x1_1, x5_1, rfl, rfl, HA, HK1, ⟨m1, rfl⟩⟩ := hrel
  cases gk with
  | zero => exact absurd HA.out (by simp [laws_heldIntS.l0])
  | succ k1 =>
   have H := HA.out
   clear HA
   simp only [laws_heldIntS.l0] at H
   by_cases c3 : x5_1 < (l0.length : Int)
   ·rw [if_pos c3] at H
    have c3b0 : decide (x5_1 < (l0.length : Int)) = true := decide_eq_true c3
    clear c3
    by_cases c4 : 0 ≤ x5_1
    ·rw [if_pos c4] at H
     have c4b0 : decide (0 ≤ x5_1) = true := decide_eq_true c4
     clear c4
     by_cases c5 : (rd l0 x5_1) = x1_1
     ·rw [if_pos c5] at H
      have c5b0 : ((rd l0 x5_1) == x1_1) = true := beq_iff_eq.mpr c5
      have c5b1 : ((rd l0 x5_1) != x1_1) = false := bne_eq_false_iff_eq.mpr c5
      clear c5
      have H' := Aside0.mk H
      clear H
      have p338 : 0 ≤ (x5_1 : Int) := of_decide_eq_true (by assumption)
      have q338 : x5_1 < (l0.length : Int) := of_decide_eq_true (by assumption)
      obtain ⟨ad338, e338, hx338_0⟩ := Kd.at_int HR0.out x5_1 p338 q338
      cases e338
      replace p338 := eq_true p338
      replace q338 := eq_true q338
      go_wp2
      go_roundg k1
      case measure => have := HK1.out; omega
      case rel => exact ⟨(wrap64 (x1_1 + 1)), (wrap64 (x5_1 + 1)), (by first | rfl | (simp; done) | (simp [*]; done)), (by first | rfl | (simp; done) | (simp [*]; done)), H', ⟨by have := HK1.out; omega⟩, by repeat (first | exact Drawn0.refl _ | apply Drawn0.step)⟩
     ·rw [if_neg c5] at H
      have c5b0 : ((rd l0 x5_1) == x1_1) = false := beq_eq_false_iff_ne.mpr c5
      have c5b1 : ((rd l0 x5_1) != x1_1) = true := bne_iff_ne.mpr c5
      obtain rfl := Option.some.inj H
      have p338 : 0 ≤ (x5_1 : Int) := of_decide_eq_true (by assumption)
      have q338 : x5_1 < (l0.length : Int) := of_decide_eq_true (by assumption)
      obtain ⟨ad338, e338, hx338_0⟩ := Kd.at_int HR0.out x5_1 p338 q338
      cases e338
      replace p338 := eq_true p338
      replace q338 := eq_true q338
      go_wp2
      go_ret
      exact ⟨by first | rfl | (simp; done) | (simp [*]; done), by repeat (first | exact Drawn0.refl _ | apply Drawn0.step)⟩
    ·rw [if_neg c4] at H
     exact absurd H (by simp)
   ·rw [if_neg c3] at H
    have c3b0 : decide (x5_1 < (l0.length : Int)) = false := decide_eq_false c3
    clear c3
    obtain rfl := Option.some.inj H
    go_wp2
    go_ret
    exact ⟨by first | rfl | (simp; done) | (simp [*]; done), by repeat (first | exact Drawn0.refl _ | apply Drawn0.step)⟩

-- NOT PRINTED: function 7 (laws_FnExactMoves)


/-! ### spec_l1name: function 47 -/
def spec_l1name.l0 : Nat → Int → List Int → Int → Int → Option (Int)
 | 0, _, _, _, _ => none
 | k + 1, x1, x8, x9, x10 => if x10 < x9 then (if 0 ≤ x10 then (if x10 < (x8.length : Int) then (if (rd x8 x10) = x1 then (some x10) else (spec_l1name.l0 k x1 x8 x9 (wrap64 (x10 + 1)))) else (none)) else (none)) else (some (-1))
def spec_l1name.f (k : Nat) (l0_0 : List Int) (l0_1 : List (S49)) (l0_2 : List Int) (a1 : Int) : Option (Int) := spec_l1name.l0 k a1 l0_2 (l0_2.length : Int) 0
theorem spec_l1name.mono_l : ∀ k, (∀ y0 y1 y2 y3, LeO (spec_l1name.l0 k y0 y1 y2 y3) (spec_l1name.l0 (k + 1) y0 y1 y2 y3))
 | 0 => fun _ _ _ _ r h => by simp [spec_l1name.l0] at h
 | k + 1 => by
  have ih0 := spec_l1name.mono_l k
  ·intro y0 y1 y2 y3
   unfold spec_l1name.l0
   repeat' first
   | (with_reducible exact ih0 _ _ _ _)
   | (with_reducible exact LeO.refl _)
   | (with_reducible exact LeO.none _)
   | (with_reducible refine LeO.ite ?_ ?_)
   | (with_reducible refine LeO.bind ?_ (fun _ => ?_))
   | exact ih0 _ _ _ _
   | exact LeO.none _
   | refine LeO.ite ?_ ?_
   | refine LeO.bind ?_ (fun _ => ?_)
theorem spec_l1name.mono : ∀ a0 a1 a2 a3 k, LeO (spec_l1name.f k a0 a1 a2 a3) (spec_l1name.f (k + 1) a0 a1 a2 a3) := by
 intro a0 a1 a2 a3 k
 have ih0 := spec_l1name.mono_l k
 unfold spec_l1name.f
 repeat' first
   | (with_reducible exact ih0 _ _ _ _)
   | (with_reducible exact LeO.refl _)
   | (with_reducible exact LeO.none _)
   | (with_reducible refine LeO.ite ?_ ?_)
   | (with_reducible refine LeO.bind ?_ (fun _ => ?_))
   | exact ih0 _ _ _ _
   | exact LeO.none _
   | refine LeO.ite ?_ ?_
   | refine LeO.bind ?_ (fun _ => ?_)
set_option maxHeartbeats 8000000 in
set_option maxRecDepth 100000 in
theorem spec_l1name.calls (k : Nat) (A0_0 : Option Addr) (c0_0 : Nat) (l0_0 : List Int) (A0_1 : Option Addr) (c0_1 : Nat) (l0_1 : List (S49)) (A0_2 : Option Addr) (c0_2 : Nat) (l0_2 : List Int) (a1 : Int) (r : Int) (w : World) (hr0_0 : Kd.C (Kd.int .i64) w A0_0 l0_0.length l0_0) (hc0_0 : l0_0.length ≤ c0_0) (hr0_1 : Kd.C k49 w A0_1 l0_1.length l0_1) (hc0_1 : l0_1.length ≤ c0_1) (hr0_2 : Kd.C (Kd.int .i64) w A0_2 l0_2.length l0_2) (hc0_2 : l0_2.length ≤ c0_2) (h : spec_l1name.f k l0_0 l0_1 l0_2 a1 = some r) :
  Calls Try.prog 47 #[.agg #[.slice A0_0 l0_0.length c0_0, .slice A0_1 l0_1.length c0_1, .slice A0_2 l0_2.length c0_2], .int .i64 a1] w fun e w' => e = .returned (.int .i64 r) ∧ Below w.heap.size w w' := by
 have hu31 := Try.underlying31
 have HR0_0 := Aside0.mk hr0_0
 have HC0_0 := Aside0.mk hc0_0
 clear hr0_0 hc0_0
 have HR0_1 := Aside0.mk hr0_1
 have HC0_1 := Aside0.mk hc0_1
 clear hr0_1 hc0_1
 have HR0_2 := Aside0.mk hr0_2
 have HC0_2 := Aside0.mk hc0_2
 clear hr0_2 hc0_2
 have HB := Aside0.mk (Below.refl w.heap.size w)
 have H : (spec_l1name.l0 k a1 l0_2 (l0_2.length : Int) 0) = some r := h
 clear h
 have H' := Aside0.mk H
 clear H
 go_enter Try.func47, Try.ntmps47
 go_wp2_with (first | ((with_reducible refine gate_dst (N := 2) rfl ?_); refine box_event ?hg (N := 2) ?hd (cs := #[.slice A0_0 l0_0.length c0_0, .slice A0_1 l0_1.length c0_1, .slice A0_2 l0_2.length c0_2]) (t := 31) ?hr ?_; (case hd => rfl); (case hg => rfl); (case hr => first | (go_simp; done) | (go_simp; rfl)); intro gb377 hg w3 hbox hb; have n0_ := Aside0.mk (below_step (by exact HB.out) hb); have n1_ := Aside0.mk (hbox); have n2_ := Aside0.mk ((by rw [hg]; exact (below_size (by exact HB.out)) : w.heap.size ≤ gb377)); have n3_ := Aside0.mk ((by rw [hg]; exact (below_size (by exact HB.out)) : w.heap.size ≤ gb377)); clear HB; have HB := n0_; have BK377 := n1_; have GW377 := n2_; have GE377 := n3_; clear n0_ n1_ n2_ n3_; clear hb hbox hg; have hcz4_0 : w3.cell? ⟨gb377, 0, none⟩ = some (.slice A0_0 l0_0.length c0_0) := (blk_cell BK377.out 0).trans rfl; have hcz4_1 : w3.cell? ⟨gb377, 1, none⟩ = some (.slice A0_1 l0_1.length c0_1) := (blk_cell BK377.out 1).trans rfl; have hcz4_2 : w3.cell? ⟨gb377, 2, none⟩ = some (.slice A0_2 l0_2.length c0_2) := (blk_cell BK377.out 2).trans rfl; have hfz4_0 := blk_frozen BK377.out 0; have hfz4_1 := blk_frozen BK377.out 1; have hfz4_2 := blk_frozen BK377.out 2))
 go_loopg [10] k (fun kq v10 w' => ∃ (x10_1 : Int), v10 = .int .i64 x10_1 ∧ Aside0 (spec_l1name.l0 kq a1 l0_2 (l0_2.length : Int) x10_1 = some r) ∧ Aside0 (kq ≤ k) ∧ Aside0 (w'.heap[gb377]? = some (.cells #[(.slice A0_0 l0_0.length c0_0), (.slice A0_1 l0_1.length c0_1), (.slice A0_2 l0_2.length c0_2)] 31 (0, 0))) ∧ Aside0 (Below w.heap.size w w'))
 case atStart => exact ⟨(0), (by first | rfl | (simp; done) | (simp [*]; done)), H', ⟨Nat.le_refl _⟩, ⟨by exact BK377.out⟩, ⟨by exact HB.out⟩⟩
 case round =>
  clear H'
  try clear p2
  try clear c4
  try clear hcz4_0
  try clear hcz4_1
  try clear hcz4_2
  try clear hfz4_0
  try clear hfz4_1
  try clear hfz4_2
  obtain ⟨x10_1, rfl, HA, HK1, BK377, HB⟩ := hrel
  cases gk with
  | zero => exact absurd HA.out (by simp [spec_l1name.l0])
  | succ k1 =>
   have H := HA.out
   clear HA
   simp only [spec_l1name.l0] at H
   by_cases c5 : x10_1 < (l0_2.length : Int)
   ·rw [if_pos c5] at H
    have c5b0 : decide (x10_1 < (l0_2.length : Int)) = true := decide_eq_true c5
    clear c5
    by_cases c6 : 0 ≤ x10_1
    ·rw [if_pos c6] at H
     have c6b0 : decide (0 ≤ x10_1) = true := decide_eq_true c6
     clear c6
     by_cases c7 : x10_1 < (l0_2.length : Int)
     ·rw [if_pos c7] at H
      have c7b0 : decide (x10_1 < (l0_2.length : Int)) = true := decide_eq_true c7
      clear c7
      by_cases c8 : (rd l0_2 x10_1) = a1
      ·rw [if_pos c8] at H
       have c8b0 : ((rd l0_2 x10_1) == a1) = true := beq_iff_eq.mpr c8
       have c8b1 : ((rd l0_2 x10_1) != a1) = false := bne_eq_false_iff_eq.mpr c8
       clear c8
       obtain rfl := Option.some.inj H
       have p378 : 0 ≤ (x10_1 : Int) := of_decide_eq_true (by assumption)
       have q378 : x10_1 < (l0_2.length : Int) := of_decide_eq_true (by assumption)
       obtain ⟨ad378, e378, hx378_0⟩ := Kd.at_int HR0_2.out x10_1 p378 q378
       cases e378
       replace hx378_0 := (HB.out.cell (World.block_lt_of_cell? w _ hx378_0)).trans hx378_0
       replace p378 := eq_true p378
       replace q378 := eq_true q378
       go_wp2
       go_ret
       exact ⟨by first | rfl | (simp [errW_none, errW_some] <;> rfl) | (simp [*, errW_none, errW_some] <;> rfl), by exact HB.out⟩
      ·rw [if_neg c8] at H
       have c8b0 : ((rd l0_2 x10_1) == a1) = false := beq_eq_false_iff_ne.mpr c8
       have c8b1 : ((rd l0_2 x10_1) != a1) = true := bne_iff_ne.mpr c8
       have H' := Aside0.mk H
       clear H
       have p378 : 0 ≤ (x10_1 : Int) := of_decide_eq_true (by assumption)
       have q378 : x10_1 < (l0_2.length : Int) := of_decide_eq_true (by assumption)
       obtain ⟨ad378, e378, hx378_0⟩ := Kd.at_int HR0_2.out x10_1 p378 q378
       cases e378
       replace hx378_0 := (HB.out.cell (World.block_lt_of_cell? w _ hx378_0)).trans hx378_0
       replace p378 := eq_true p378
       replace q378 := eq_true q378
       go_wp2
       go_roundg k1
       case measure => have := HK1.out; omega
       case rel => exact ⟨(wrap64 (x10_1 + 1)), (by first | rfl | (simp; done) | (simp [*]; done)), H', ⟨by have := HK1.out; omega⟩, ⟨by exact BK377.out⟩, ⟨by exact HB.out⟩⟩
     ·rw [if_neg c7] at H
      exact absurd H (by simp)
    ·rw [if_neg c6] at H
     exact absurd H (by simp)
   ·rw [if_neg c5] at H
    have c5b0 : decide (x10_1 < (l0_2.length : Int)) = false := decide_eq_false c5
    clear c5
    obtain rfl := Option.some.inj H
    go_wp2
    go_ret
    exact ⟨by first | rfl | (simp [errW_none, errW_some] <;> rfl) | (simp [*, errW_none, errW_some] <;> rfl), by exact HB.out⟩


/-! ### impl_find: function 48 -/
def impl_find.l0 : Nat → Int → List Int → Int → Int → Option (Int)
 | 0, _, _, _, _ => none
 | k + 1, x1, x8, x9, x10 => if x10 < x9 then (if 0 ≤ x10 then (if x10 < (x8.length : Int) then (if (rd x8 x10) = x1 then (some x10) else (impl_find.l0 k x1 x8 x9 (wrap64 (x10 + 1)))) else (none)) else (none)) else (some (-1))
def impl_find.f (k : Nat) (l0_0 : List Int) (l0_1 : List (S49)) (l0_2 : List Int) (a1 : Int) : Option (Int) := impl_find.l0 k a1 l0_2 (l0_2.length : Int) 0
theorem impl_find.mono_l : ∀ k, (∀ y0 y1 y2 y3, LeO (impl_find.l0 k y0 y1 y2 y3) (impl_find.l0 (k + 1) y0 y1 y2 y3))
 | 0 => fun _ _ _ _ r h => by simp [impl_find.l0] at h
 | k + 1 => by
  have ih0 := impl_find.mono_l k
  ·intro y0 y1 y2 y3
   unfold impl_find.l0
   repeat' first
   | (with_reducible exact ih0 _ _ _ _)
   | (with_reducible exact LeO.refl _)
   | (with_reducible exact LeO.none _)
   | (with_reducible refine LeO.ite ?_ ?_)
   | (with_reducible refine LeO.bind ?_ (fun _ => ?_))
   | exact ih0 _ _ _ _
   | exact LeO.none _
   | refine LeO.ite ?_ ?_
   | refine LeO.bind ?_ (fun _ => ?_)
theorem impl_find.mono : ∀ a0 a1 a2 a3 k, LeO (impl_find.f k a0 a1 a2 a3) (impl_find.f (k + 1) a0 a1 a2 a3) := by
 intro a0 a1 a2 a3 k
 have ih0 := impl_find.mono_l k
 unfold impl_find.f
 repeat' first
   | (with_reducible exact ih0 _ _ _ _)
   | (with_reducible exact LeO.refl _)
   | (with_reducible exact LeO.none _)
   | (with_reducible refine LeO.ite ?_ ?_)
   | (with_reducible refine LeO.bind ?_ (fun _ => ?_))
   | exact ih0 _ _ _ _
   | exact LeO.none _
   | refine LeO.ite ?_ ?_
   | refine LeO.bind ?_ (fun _ => ?_)
set_option maxHeartbeats 8000000 in
set_option maxRecDepth 100000 in
theorem impl_find.calls (k : Nat) (A0_0 : Option Addr) (c0_0 : Nat) (l0_0 : List Int) (A0_1 : Option Addr) (c0_1 : Nat) (l0_1 : List (S49)) (A0_2 : Option Addr) (c0_2 : Nat) (l0_2 : List Int) (a1 : Int) (r : Int) (w : World) (hr0_0 : Kd.C (Kd.int .i64) w A0_0 l0_0.length l0_0) (hc0_0 : l0_0.length ≤ c0_0) (hr0_1 : Kd.C k49 w A0_1 l0_1.length l0_1) (hc0_1 : l0_1.length ≤ c0_1) (hr0_2 : Kd.C (Kd.int .i64) w A0_2 l0_2.length l0_2) (hc0_2 : l0_2.length ≤ c0_2) (h : impl_find.f k l0_0 l0_1 l0_2 a1 = some r) :
  Calls Try.prog 48 #[.agg #[.slice A0_0 l0_0.length c0_0, .slice A0_1 l0_1.length c0_1, .slice A0_2 l0_2.length c0_2], .int .i64 a1] w fun e w' => e = .returned (.int .i64 r) ∧ Below w.heap.size w w' := by
 have hu31 := Try.underlying31
 have HR0_0 := Aside0.mk hr0_0
 have HC0_0 := Aside0.mk hc0_0
 clear hr0_0 hc0_0
 have HR0_1 := Aside0.mk hr0_1
 have HC0_1 := Aside0.mk hc0_1
 clear hr0_1 hc0_1
 have HR0_2 := Aside0.mk hr0_2
 have HC0_2 := Aside0.mk hc0_2
 clear hr0_2 hc0_2
 have HB := Aside0.mk (Below.refl w.heap.size w)
 have H : (impl_find.l0 k a1 l0_2 (l0_2.length : Int) 0) = some r := h
 clear h
 have H' := Aside0.mk H
 clear H
 go_enter Try.func48, Try.ntmps48
 go_wp2_with (first | ((with_reducible refine gate_dst (N := 2) rfl ?_); refine box_event ?hg (N := 2) ?hd (cs := #[.slice A0_0 l0_0.length c0_0, .slice A0_1 l0_1.length c0_1, .slice A0_2 l0_2.length c0_2]) (t := 31) ?hr ?_; (case hd => rfl); (case hg => rfl); (case hr => first | (go_simp; done) | (go_simp; rfl)); intro gb391 hg w3 hbox hb; have n0_ := Aside0.mk (below_step (by exact HB.out) hb); have n1_ := Aside0.mk (hbox); have n2_ := Aside0.mk ((by rw [hg]; exact (below_size (by exact HB.out)) : w.heap.size ≤ gb391)); have n3_ := Aside0.mk ((by rw [hg]; exact (below_size (by exact HB.out)) : w.heap.size ≤ gb391)); clear HB; have HB := n0_; have BK391 := n1_; have GW391 := n2_; have GE391 := n3_; clear n0_ n1_ n2_ n3_; clear hb hbox hg; have hcz4_0 : w3.cell? ⟨gb391, 0, none⟩ = some (.slice A0_0 l0_0.length c0_0) := (blk_cell BK391.out 0).trans rfl; have hcz4_1 : w3.cell? ⟨gb391, 1, none⟩ = some (.slice A0_1 l0_1.length c0_1) := (blk_cell BK391.out 1).trans rfl; have hcz4_2 : w3.cell? ⟨gb391, 2, none⟩ = some (.slice A0_2 l0_2.length c0_2) := (blk_cell BK391.out 2).trans rfl; have hfz4_0 := blk_frozen BK391.out 0; have hfz4_1 := blk_frozen BK391.out 1; have hfz4_2 := blk_frozen BK391.out 2))
 go_loopg [10] k (fun kq v10 w' => ∃ (x10_1 : Int), v10 = .int .i64 x10_1 ∧ Aside0 (impl_find.l0 kq a1 l0_2 (l0_2.length : Int) x10_1 = some r) ∧ Aside0 (kq ≤ k) ∧ Aside0 (w'.heap[gb391]? = some (.cells #[(.slice A0_0 l0_0.length c0_0), (.slice A0_1 l0_1.length c0_1), (.slice A0_2 l0_2.length c0_2)] 31 (0, 0))) ∧ Aside0 (Below w.heap.size w w'))
 case atStart => exact ⟨(0), (by first | rfl | (simp; done) | (simp [*]; done)), H', ⟨Nat.le_refl _⟩, ⟨by exact BK391.out⟩, ⟨by exact HB.out⟩⟩
 case round =>
  clear H'
  try clear p2
  try clear c4
  try clear hcz4_0
  try clear hcz4_1
  try clear hcz4_2
  try clear hfz4_0
  try clear hfz4_1
  try clear hfz4_2
  obtain ⟨x10_1, rfl, HA, HK1, BK391, HB⟩ := hrel
  cases gk with
  | zero => exact absurd HA.out (by simp [impl_find.l0])
  | succ k1 =>
   have H := HA.out
   clear HA
   simp only [impl_find.l0] at H
   by_cases c5 : x10_1 < (l0_2.length : Int)
   ·rw [if_pos c5] at H
    have c5b0 : decide (x10_1 < (l0_2.length : Int)) = true := decide_eq_true c5
    clear c5
    by_cases c6 : 0 ≤ x10_1
    ·rw [if_pos c6] at H
     have c6b0 : decide (0 ≤ x10_1) = true := decide_eq_true c6
     clear c6
     by_cases c7 : x10_1 < (l0_2.length : Int)
     ·rw [if_pos c7] at H
      have c7b0 : decide (x10_1 < (l0_2.length : Int)) = true := decide_eq_true c7
      clear c7
      by_cases c8 : (rd l0_2 x10_1) = a1
      ·rw [if_pos c8] at H
       have c8b0 : ((rd l0_2 x10_1) == a1) = true := beq_iff_eq.mpr c8
       have c8b1 : ((rd l0_2 x10_1) != a1) = false := bne_eq_false_iff_eq.mpr c8
       clear c8
       obtain rfl := Option.some.inj H
       have p392 : 0 ≤ (x10_1 : Int) := of_decide_eq_true (by assumption)
       have q392 : x10_1 < (l0_2.length : Int) := of_decide_eq_true (by assumption)
       obtain ⟨ad392, e392, hx392_0⟩ := Kd.at_int HR0_2.out x10_1 p392 q392
       cases e392
       replace hx392_0 := (HB.out.cell (World.block_lt_of_cell? w _ hx392_0)).trans hx392_0
       replace p392 := eq_true p392
       replace q392 := eq_true q392
       go_wp2
       go_ret
       exact ⟨by first | rfl | (simp [errW_none, errW_some] <;> rfl) | (simp [*, errW_none, errW_some] <;> rfl), by exact HB.out⟩
      ·rw [if_neg c8] at H
       have c8b0 : ((rd l0_2 x10_1) == a1) = false := beq_eq_false_iff_ne.mpr c8
       have c8b1 : ((rd l0_2 x10_1) != a1) = true := bne_iff_ne.mpr c8
       have H' := Aside0.mk H
       clear H
       have p392 : 0 ≤ (x10_1 : Int) := of_decide_eq_true (by assumption)
       have q392 : x10_1 < (l0_2.length : Int) := of_decide_eq_true (by assumption)
       obtain ⟨ad392, e392, hx392_0⟩ := Kd.at_int HR0_2.out x10_1 p392 q392
       cases e392
       replace hx392_0 := (HB.out.cell (World.block_lt_of_cell? w _ hx392_0)).trans hx392_0
       replace p392 := eq_true p392
       replace q392 := eq_true q392
       go_wp2
       go_roundg k1
       case measure => have := HK1.out; omega
       case rel => exact ⟨(wrap64 (x10_1 + 1)), (by first | rfl | (simp; done) | (simp [*]; done)), H', ⟨by have := HK1.out; omega⟩, ⟨by exact BK391.out⟩, ⟨by exact HB.out⟩⟩
     ·rw [if_neg c7] at H
      exact absurd H (by simp)
    ·rw [if_neg c6] at H
     exact absurd H (by simp)
   ·rw [if_neg c5] at H
    have c5b0 : decide (x10_1 < (l0_2.length : Int)) = false := decide_eq_false c5
    clear c5
    obtain rfl := Option.some.inj H
    go_wp2
    go_ret
    exact ⟨by first | rfl | (simp [errW_none, errW_some] <;> rfl) | (simp [*, errW_none, errW_some] <;> rfl), by exact HB.out⟩


/-! ### spec_l2weight: function 50 -/
def spec_l2weight.l0 : Nat → Int → List (S49) → Int → Int → Option (Int)
 | 0, _, _, _, _ => none
 | k + 1, x3, x7, x8, x9 => if x9 < x8 then (if 0 ≤ x9 then (if x9 < (x7.length : Int) then (spec_l2weight.l0 k (wrap64 (x3 + ((rd_T49 x7 x9).f2))) x7 x8 (wrap64 (x9 + 1))) else (none)) else (none)) else (some x3)
def spec_l2weight.f (k : Nat) (l0_0 : List Int) (l0_1 : List (S49)) (l0_2 : List Int) : Option (Int) := spec_l2weight.l0 k 0 l0_1 (l0_1.length : Int) 0
theorem spec_l2weight.mono_l : ∀ k, (∀ y0 y1 y2 y3, LeO (spec_l2weight.l0 k y0 y1 y2 y3) (spec_l2weight.l0 (k + 1) y0 y1 y2 y3))
 | 0 => fun _ _ _ _ r h => by simp [spec_l2weight.l0] at h
 | k + 1 => by
  have ih0 := spec_l2weight.mono_l k
  ·intro y0 y1 y2 y3
   unfold spec_l2weight.l0
   repeat' first
   | (with_reducible exact ih0 _ _ _ _)
   | (with_reducible exact LeO.refl _)
   | (with_reducible exact LeO.none _)
   | (with_reducible refine LeO.ite ?_ ?_)
   | (with_reducible refine LeO.bind ?_ (fun _ => ?_))
   | exact ih0 _ _ _ _
   | exact LeO.none _
   | refine LeO.ite ?_ ?_
   | refine LeO.bind ?_ (fun _ => ?_)
theorem spec_l2weight.mono : ∀ a0 a1 a2 k, LeO (spec_l2weight.f k a0 a1 a2) (spec_l2weight.f (k + 1) a0 a1 a2) := by
 intro a0 a1 a2 k
 have ih0 := spec_l2weight.mono_l k
 unfold spec_l2weight.f
 repeat' first
   | (with_reducible exact ih0 _ _ _ _)
   | (with_reducible exact LeO.refl _)
   | (with_reducible exact LeO.none _)
   | (with_reducible refine LeO.ite ?_ ?_)
   | (with_reducible refine LeO.bind ?_ (fun _ => ?_))
   | exact ih0 _ _ _ _
   | exact LeO.none _
   | refine LeO.ite ?_ ?_
   | refine LeO.bind ?_ (fun _ => ?_)

/-! ### spec_l1copy: function 59 -/
def spec_l1copy.l0 : Nat → List (S49) → Int → Int → List Int → List (S49) → List Int → Option (List Int × (List (S49)) × List Int)
 | 0, _, _, _, _, _, _ => none
 | k + 1, x20, x21, x22, x457000, x457001, x457002 => if x22 < x21 then (if 0 ≤ x22 then (if x22 < (x20.length : Int) then ((some (([] : List Int) : List Int)).bind fun y466 => (if y466.length + ((rd_T49 x20 x22).f1).length < 17592186044416 then (if x457001.length < 3518437208883 then (spec_l1copy.l0 k x20 x21 (wrap64 (x22 + 1)) x457000 (x457001 ++ [(⟨(rd_T49 x20 x22).f0, (y466 ++ ((rd_T49 x20 x22).f1)), (rd_T49 x20 x22).f2⟩ : S49)]) x457002) else (none)) else (none))) else (none)) else (none)) else (some (x457000, x457001, x457002))
def spec_l1copy.f (k : Nat) (l0_0 : List Int) (l0_1 : List (S49)) (l0_2 : List Int) : Option (List Int × (List (S49)) × List Int) := if ([] : List Int).length + l0_0.length < 17592186044416 then (if ([] : List Int).length + l0_2.length < 17592186044416 then (spec_l1copy.l0 k l0_1 (l0_1.length : Int) 0 (([] : List Int) ++ l0_0) ([] : List (S49)) (([] : List Int) ++ l0_2)) else (none)) else (none)
theorem spec_l1copy.mono_l : ∀ k, (∀ y0 y1 y2 y3 y4 y5, LeO (spec_l1copy.l0 k y0 y1 y2 y3 y4 y5) (spec_l1copy.l0 (k + 1) y0 y1 y2 y3 y4 y5))
 | 0 => fun _ _ _ _ _ _ r h => by simp [spec_l1copy.l0] at h
 | k + 1 => by
  have ih0 := spec_l1copy.mono_l k
  ·intro y0 y1 y2 y3 y4 y5
   unfold spec_l1copy.l0
   repeat' first
   | (with_reducible exact ih0 _ _ _ _ _ _)
   | (with_reducible exact LeO.refl _)
   | (with_reducible exact LeO.none _)
   | (with_reducible refine LeO.ite ?_ ?_)
   | (with_reducible refine LeO.bind ?_ (fun _ => ?_))
   | exact ih0 _ _ _ _ _ _
   | exact LeO.none _
   | refine LeO.ite ?_ ?_
   | refine LeO.bind ?_ (fun _ => ?_)
theorem spec_l1copy.mono : ∀ a0 a1 a2 k, LeO (spec_l1copy.f k a0 a1 a2) (spec_l1copy.f (k + 1) a0 a1 a2) := by
 intro a0 a1 a2 k
 have ih0 := spec_l1copy.mono_l k
 unfold spec_l1copy.f
 repeat' first
   | (with_reducible exact ih0 _ _ _ _ _ _)
   | (with_reducible exact LeO.refl _)
   | (with_reducible exact LeO.none _)
   | (with_reducible refine LeO.ite ?_ ?_)
   | (with_reducible refine LeO.bind ?_ (fun _ => ?_))
   | exact ih0 _ _ _ _ _ _
   | exact LeO.none _
   | refine LeO.ite ?_ ?_
   | refine LeO.bind ?_ (fun _ => ?_)
set_option maxHeartbeats 8000000 in
set_option maxRecDepth 100000 in
theorem spec_l1copy.calls (k : Nat) (A0_0 : Option Addr) (c0_0 : Nat) (l0_0 : List Int) (A0_1 : Option Addr) (c0_1 : Nat) (l0_1 : List (S49)) (A0_2 : Option Addr) (c0_2 : Nat) (l0_2 : List Int) (r1 : List Int) (r2 : List (S49)) (r3 : List Int) (w : World) (hr0_0 : Kd.C (Kd.int .i64) w A0_0 l0_0.length l0_0) (hc0_0 : l0_0.length ≤ c0_0) (hr0_1 : Kd.C k49 w A0_1 l0_1.length l0_1) (hc0_1 : l0_1.length ≤ c0_1) (hr0_2 : Kd.C (Kd.int .i64) w A0_2 l0_2.length l0_2) (hc0_2 : l0_2.length ≤ c0_2) (h : spec_l1copy.f k l0_0 l0_1 l0_2 = some (r1, r2, r3)) :
  Calls Try.prog 59 #[.agg #[.slice A0_0 l0_0.length c0_0, .slice A0_1 l0_1.length c0_1, .slice A0_2 l0_2.length c0_2]] w fun e w' => ∃ v0_ v1_ v2_ : Value, e = .returned (.agg #[v0_, v1_, v2_]) ∧ Kd.R (Kd.int .i64) 3 w' w.heap.size (fun k_ => some k_ ≠ (v2_ : Value).ownBlock) v0_ r1 ∧ Kd.S k49 49 w' w.heap.size (fun k_ => some k_ ≠ (v0_ : Value).ownBlock ∧ some k_ ≠ (v2_ : Value).ownBlock) v1_ r2 ∧ Kd.R (Kd.int .i64) 3 w' w.heap.size (fun k_ => some k_ ≠ (v0_ : Value).ownBlock) v2_ r3 ∧ Below w.heap.size w w' := by
 have hu31 := Try.underlying31
 have hu49 := Try.underlying49
 have HR0_0 := Aside0.mk hr0_0
 have HC0_0 := Aside0.mk hc0_0
 clear hr0_0 hc0_0
 have HR0_1 := Aside0.mk hr0_1
 have HC0_1 := Aside0.mk hc0_1
 clear hr0_1 hc0_1
 have HR0_2 := Aside0.mk hr0_2
 have HC0_2 := Aside0.mk hc0_2
 clear hr0_2 hc0_2
 have HB := Aside0.mk (Below.refl w.heap.size w)
 have H : (if ([] : List Int).length + l0_0.length < 17592186044416 then (if ([] : List Int).length + l0_2.length < 17592186044416 then (spec_l1copy.l0 k l0_1 (l0_1.length : Int) 0 (([] : List Int) ++ l0_0) ([] : List (S49)) (([] : List Int) ++ l0_2)) else (none)) else (none)) = some (r1, r2, r3) := h
 clear h
 by_cases c2 : ([] : List Int).length + l0_0.length < 17592186044416
 ·rw [if_pos c2] at H
  have LMc2 := Aside0.mk c2
  clear c2
  obtain ⟨y457, hy457⟩ : ∃ y_ : List Int, y_ = (([] : List Int) ++ l0_0) := ⟨_, rfl⟩
  replace H : (if ([] : List Int).length + l0_2.length < 17592186044416 then (spec_l1copy.l0 k l0_1 (l0_1.length : Int) 0 y457 ([] : List (S49)) (([] : List Int) ++ l0_2)) else (none)) = some (r1, r2, r3) := by first | (rw [hy457]; with_reducible exact H) | (have H2_ := (Option.bind_some _ _).symm.trans H; rw [hy457]; with_reducible exact H2_) | (have H2_ := (Option.bind_some _ _).symm.trans H; with_reducible exact H2_) | with_reducible exact H | (rw [hy457]; exact H) | exact H
  have Ny457 := Aside0.mk hy457
  clear hy457
  by_cases c3 : ([] : List Int).length + l0_2.length < 17592186044416
  ·rw [if_pos c3] at H
   have LMc3 := Aside0.mk c3
   clear c3
   obtain ⟨y460, hy460⟩ : ∃ y_ : List Int, y_ = (([] : List Int) ++ l0_2) := ⟨_, rfl⟩
   replace H : (spec_l1copy.l0 k l0_1 (l0_1.length : Int) 0 y457 ([] : List (S49)) y460) = some (r1, r2, r3) := by first | (rw [hy460]; with_reducible exact H) | (have H2_ := (Option.bind_some _ _).symm.trans H; rw [hy460]; with_reducible exact H2_) | (have H2_ := (Option.bind_some _ _).symm.trans H; with_reducible exact H2_) | with_reducible exact H | (rw [hy460]; exact H) | exact H
   have Ny460 := Aside0.mk hy460
   clear hy460
   have H' := Aside0.mk H
   clear H
   go_enter Try.func59, Try.ntmps59
   go_wp2_with (first | ((with_reducible refine gate_dst (N := 1) rfl ?_); refine box_event ?hg (N := 1) ?hd (cs := #[.slice A0_0 l0_0.length c0_0, .slice A0_1 l0_1.length c0_1, .slice A0_2 l0_2.length c0_2]) (t := 31) ?hr ?_; (case hd => rfl); (case hg => rfl); (case hr => first | (go_simp; done) | (go_simp; rfl)); intro gb454 hg w4 hbox hb; have n0_ := Aside0.mk (below_step (by exact HB.out) hb); have n1_ := Aside0.mk (hbox); have n2_ := Aside0.mk ((by rw [hg]; exact (below_size (by exact HB.out)) : w.heap.size ≤ gb454)); have n3_ := Aside0.mk ((by rw [hg]; exact (below_size (by exact HB.out)) : w.heap.size ≤ gb454)); clear HB; have HB := n0_; have BK454 := n1_; have GW454 := n2_; have GE454 := n3_; clear n0_ n1_ n2_ n3_; clear hb hbox hg) | ((with_reducible refine gate_dst (N := 2) rfl ?_); refine box_event ?hg (N := 2) ?hd (cs := #[.slice none 0 0, .slice none 0 0, .slice none 0 0]) (t := 31) ?hr ?_; (case hd => rfl); (case hg => rfl); (case hr => first | (go_simp; done) | (go_simp; rfl)); intro gb455 hg w5 hbox hb; have n0_ := Aside0.mk (blk_below (g := gb454) (o := .cells #[.slice A0_0 l0_0.length c0_0, .slice A0_1 l0_1.length c0_1, .slice A0_2 l0_2.length c0_2] 31 (0, 0)) (by exact BK454.out) hb); have n1_ := Aside0.mk (below_step (by exact HB.out) hb); have n2_ := Aside0.mk (hbox); have n3_ := Aside0.mk ((by rw [hg]; exact (below_size (by exact HB.out)) : w.heap.size ≤ gb455)); have n4_ := Aside0.mk ((by rw [hg]; exact (below_size (by exact HB.out)) : w.heap.size ≤ gb455)); have n5_ := Aside0.mk ((by rw [hg]; exact Nat.ne_of_lt (blk_lt (g := gb454) (o := .cells #[.slice A0_0 l0_0.length c0_0, .slice A0_1 l0_1.length c0_1, .slice A0_2 l0_2.length c0_2] 31 (0, 0)) (by exact BK454.out)) : gb454 ≠ gb455)); have n6_ := Aside0.mk ((by rw [hg]; exact Nat.ne_of_gt (blk_lt (g := gb454) (o := .cells #[.slice A0_0 l0_0.length c0_0, .slice A0_1 l0_1.length c0_1, .slice A0_2 l0_2.length c0_2] 31 (0, 0)) (by exact BK454.out)) : gb455 ≠ gb454)); clear BK454; clear HB; have BK454 := n0_; have HB := n1_; have BK455 := n2_; have GW455 := n3_; have GE455 := n4_; have NB454_455 := n5_; have NB455_454 := n6_; clear n0_ n1_ n2_ n3_ n4_ n5_ n6_; clear hb hbox hg) | ((with_reducible refine gate_dst (N := 3) rfl ?_); refine box_event ?hg (N := 3) ?hd (cs := #[.slice none 0 0, .slice none 0 0, .slice none 0 0]) (t := 31) ?hr ?_; (case hd => rfl); (case hg => rfl); (case hr => first | (go_simp; done) | (go_simp; rfl)); intro gb456 hg w6 hbox hb; have n0_ := Aside0.mk (blk_below (g := gb454) (o := .cells #[.slice A0_0 l0_0.length c0_0, .slice A0_1 l0_1.length c0_1, .slice A0_2 l0_2.length c0_2] 31 (0, 0)) (by exact BK454.out) hb); have n1_ := Aside0.mk (blk_below (g := gb455) (o := .cells #[.slice none 0 0, .slice none 0 0, .slice none 0 0] 31 (0, 0)) (by exact BK455.out) hb); have n2_ := Aside0.mk (below_step (by exact HB.out) hb); have n3_ := Aside0.mk (hbox); have n4_ := Aside0.mk ((by rw [hg]; exact (below_size (by exact HB.out)) : w.heap.size ≤ gb456)); have n5_ := Aside0.mk ((by rw [hg]; exact (below_size (by exact HB.out)) : w.heap.size ≤ gb456)); have n6_ := Aside0.mk ((by rw [hg]; exact Nat.ne_of_lt (blk_lt (g := gb454) (o := .cells #[.slice A0_0 l0_0.length c0_0, .slice A0_1 l0_1.length c0_1, .slice A0_2 l0_2.length c0_2] 31 (0, 0)) (by exact BK454.out)) : gb454 ≠ gb456)); have n7_ := Aside0.mk ((by rw [hg]; exact Nat.ne_of_gt (blk_lt (g := gb454) (o := .cells #[.slice A0_0 l0_0.length c0_0, .slice A0_1 l0_1.length c0_1, .slice A0_2 l0_2.length c0_2] 31 (0, 0)) (by exact BK454.out)) : gb456 ≠ gb454)); have n8_ := Aside0.mk ((by rw [hg]; exact Nat.ne_of_lt (blk_lt (g := gb455) (o := .cells #[.slice none 0 0, .slice none 0 0, .slice none 0 0] 31 (0, 0)) (by exact BK455.out)) : gb455 ≠ gb456)); have n9_ := Aside0.mk ((by rw [hg]; exact Nat.ne_of_gt (blk_lt (g := gb455) (o := .cells #[.slice none 0 0, .slice none 0 0, .slice none 0 0] 31 (0, 0)) (by exact BK455.out)) : gb456 ≠ gb455)); clear BK454; clear BK455; clear HB; have BK454 := n0_; have BK455 := n1_; have HB := n2_; have BK456 := n3_; have GW456 := n4_; have GE456 := n5_; have NB454_456 := n6_; have NB456_454 := n7_; have NB455_456 := n8_; have NB456_455 := n9_; clear n0_ n1_ n2_ n3_ n4_ n5_ n6_ n7_ n8_ n9_; clear hb hbox hg; have hnb7 := NB456_454.out; have hnc7 := NB454_456.out; have hnb8 := NB456_455.out; have hnc8 := NB455_456.out; have hcz9_0 : w6.cell? ⟨gb456, 0, none⟩ = some (.slice none 0 0) := (blk_cell BK456.out 0).trans rfl; have hcz9_1 : w6.cell? ⟨gb456, 1, none⟩ = some (.slice none 0 0) := (blk_cell BK456.out 1).trans rfl; have hcz9_2 : w6.cell? ⟨gb456, 2, none⟩ = some (.slice none 0 0) := (blk_cell BK456.out 2).trans rfl; have hfz9_0 := blk_frozen BK456.out 0; have hfz9_1 := blk_frozen BK456.out 1; have hfz9_2 := blk_frozen BK456.out 2; have hnb10 := NB454_455.out; have hnc10 := NB455_454.out; have hcz11_0 : w6.cell? ⟨gb454, 0, none⟩ = some (.slice A0_0 l0_0.length c0_0) := (blk_cell BK454.out 0).trans rfl; have hcz11_1 : w6.cell? ⟨gb454, 1, none⟩ = some (.slice A0_1 l0_1.length c0_1) := (blk_cell BK454.out 1).trans rfl; have hcz11_2 : w6.cell? ⟨gb454, 2, none⟩ = some (.slice A0_2 l0_2.length c0_2) := (blk_cell BK454.out 2).trans rfl; have hfz11_0 := blk_frozen BK454.out 0; have hfz11_1 := blk_frozen BK454.out 1; have hfz11_2 := blk_frozen BK454.out 2) | ((with_reducible refine gate_builtin (b := .append) (xs := #[.tmp 8, .tmp 10]) rfl ?_); at_builtin; refine Kd.R_append_rows (Kd.int .i64) (w0 := w) w.heap.size rfl (.tmp 8) (.tmp 10) 23 3 (.int .i64 0) 8 rfl Try.underlying23 info3 rfl (by decide) (by omega) (.slice none 0 0) ([] : List Int) l0_0 _ _ _ (fun _ => True) (fun _ => False) rfl rfl ?aO ?aR (fun _ _ h => h) (fun _ h => h.elim) ?aF ?aB ?aS ?aL ?_; (case aR => repeat (first | exact (Kd.C_below HR0_0.out HB.out) | (with_reducible refine Kd.C_alloc ?_ _) | (with_reducible refine Kd.C_drewN ?_ _) | (with_reducible refine Kd.C_drew ?_))); (case aB => exact (by exact HB.out)); (case aF => exact (fun _ _ => trivial)); (case aO => exact ((Kd.R_nil _ _ _ _ (fun _ => True)))); (case aS => exact (below_size (by exact HB.out))); (case aL => have := LMc2.out; omega); intro v458 w12 ho hb hg hat; rw [← Ny457.out] at ho; have n0_ := Aside0.mk (blk_grown (g := gb454) (o := .cells #[.slice A0_0 l0_0.length c0_0, .slice A0_1 l0_1.length c0_1, .slice A0_2 l0_2.length c0_2] 31 (0, 0)) (by exact BK454.out) hg (by simp [Value.ownBlock])); have n1_ := Aside0.mk (blk_grown (g := gb455) (o := .cells #[.slice none 0 0, .slice none 0 0, .slice none 0 0] 31 (0, 0)) (by exact BK455.out) hg (by simp [Value.ownBlock])); have n2_ := Aside0.mk (blk_grown (g := gb456) (o := .cells #[.slice none 0 0, .slice none 0 0, .slice none 0 0] 31 (0, 0)) (by exact BK456.out) hg (by simp [Value.ownBlock])); have n3_ := Aside0.mk (hb); have n4_ := Aside0.mk (ho); clear BK454; clear BK455; clear BK456; clear HB; have BK454 := n0_; have BK455 := n1_; have BK456 := n2_; have HB := n3_; have HO459 := n4_; clear n0_ n1_ n2_ n3_ n4_; clear ho hb hg hat; obtain ⟨Ao13, co13, eo13⟩ := Kd.R_slice HO459.out; subst eo13; have hcz14_0 : w12.cell? ⟨gb456, 0, none⟩ = some (.slice none 0 0) := (blk_cell BK456.out 0).trans rfl; have hcz14_1 : w12.cell? ⟨gb456, 1, none⟩ = some (.slice none 0 0) := (blk_cell BK456.out 1).trans rfl; have hcz14_2 : w12.cell? ⟨gb456, 2, none⟩ = some (.slice none 0 0) := (blk_cell BK456.out 2).trans rfl; have hfz14_0 := blk_frozen BK456.out 0; have hfz14_1 := blk_frozen BK456.out 1; have hfz14_2 := blk_frozen BK456.out 2; have hcz15_0 : w12.cell? ⟨gb454, 0, none⟩ = some (.slice A0_0 l0_0.length c0_0) := (blk_cell BK454.out 0).trans rfl; have hcz15_1 : w12.cell? ⟨gb454, 1, none⟩ = some (.slice A0_1 l0_1.length c0_1) := (blk_cell BK454.out 1).trans rfl; have hcz15_2 : w12.cell? ⟨gb454, 2, none⟩ = some (.slice A0_2 l0_2.length c0_2) := (blk_cell BK454.out 2).trans rfl; have hfz15_0 := blk_frozen BK454.out 0; have hfz15_1 := blk_frozen BK454.out 1; have hfz15_2 := blk_frozen BK454.out 2) | ((with_reducible refine gate_builtin (b := .append) (xs := #[.tmp 14, .tmp 16]) rfl ?_); at_builtin; refine Kd.R_append_rows (Kd.int .i64) (w0 := w) w.heap.size rfl (.tmp 14) (.tmp 16) 23 3 (.int .i64 0) 8 rfl Try.underlying23 info3 rfl (by decide) (by omega) (.slice none 0 0) ([] : List Int) l0_2 _ _ _ (fun k_ => some k_ ≠ (.slice Ao13 y457.length co13 : Value).ownBlock) (fun _ => False) rfl rfl ?aO ?aR (fun _ _ h => h) (fun _ h => h.elim) ?aF ?aB ?aS ?aL ?_; (case aR => exact Kd.C_below HR0_2.out (by repeat (first | (with_reducible first | exact HB.out | apply below_alloc | apply pw_below_drewN | apply below_drew1 | refine below_set ?_ GE454.out | refine below_set ?_ GE455.out | refine below_set ?_ GE456.out) | exact HB.out))); (case aB => exact (by repeat (first | (with_reducible first | exact HB.out | apply below_alloc | apply pw_below_drewN | apply below_drew1 | refine below_set ?_ GE454.out | refine below_set ?_ GE455.out | refine below_set ?_ GE456.out) | exact HB.out))); (case aF => exact (fun k_ hk => Kd.fresh' (Kd.R_lt (by exact (Kd.R_mono (Kd.R_far (p := ⟨gb456, 0, none⟩) (Kd.R_types HO459.out BK456.out (by decide)) (fun _ hk => hk.2) (.slice Ao13 y457.length co13)) (fun _ h_ => h_.1)))) k_ hk)); (case aO => exact ((Kd.R_nil _ _ _ _ (fun k_ => some k_ ≠ (.slice Ao13 y457.length co13 : Value).ownBlock)))); (case aS => exact (below_size (by repeat (first | (with_reducible first | exact HB.out | apply below_alloc | apply pw_below_drewN | apply below_drew1 | refine below_set ?_ GE454.out | refine below_set ?_ GE455.out | refine below_set ?_ GE456.out) | exact HB.out)))); (case aL => have := LMc3.out; omega); intro v461 w16 ho hb hg hat; rw [← Ny460.out] at ho; have n0_ := Aside0.mk (blk_grown (g := gb454) (o := .cells #[.slice A0_0 l0_0.length c0_0, .slice A0_1 l0_1.length c0_1, .slice A0_2 l0_2.length c0_2] 31 (0, 0)) (by refine blk_far ?_ NB454_456.out _; exact BK454.out) hg (by simp [Value.ownBlock])); have n1_ := Aside0.mk (blk_grown (g := gb455) (o := .cells #[.slice none 0 0, .slice none 0 0, .slice none 0 0] 31 (0, 0)) (by refine blk_far ?_ NB455_456.out _; exact BK455.out) hg (by simp [Value.ownBlock])); have n2_ := Aside0.mk (blk_grown (g := gb456) (o := .cells #[.slice Ao13 y457.length co13, .slice none 0 0, .slice none 0 0] 31 (0, 0)) (by refine blk_put (cs := #[.slice none 0 0, .slice none 0 0, .slice none 0 0]) ?_ 0 _ rfl; exact BK456.out) hg (by simp [Value.ownBlock])); have n3_ := Aside0.mk (Kd.R_after (Kd.R_apart_nil (by exact (Kd.R_mono (Kd.R_far (p := ⟨gb456, 0, none⟩) (Kd.R_types HO459.out BK456.out (by decide)) (fun _ hk => hk.2) (.slice Ao13 y457.length co13)) (fun _ h_ => h_.1)))) hg hat); have n4_ := Aside0.mk (hb); have n5_ := Aside0.mk (ho); clear BK454; clear BK455; clear BK456; clear HO459; clear HB; have BK454 := n0_; have BK455 := n1_; have BK456 := n2_; have HO459 := n3_; have HB := n4_; have HO462 := n5_; clear n0_ n1_ n2_ n3_ n4_ n5_; clear ho hb hg hat; obtain ⟨Ao17, co17, eo17⟩ := Kd.R_slice HO462.out; subst eo17; have hcz18_0 : w16.cell? ⟨gb456, 0, none⟩ = some (.slice Ao13 y457.length co13) := (blk_cell BK456.out 0).trans rfl; have hcz18_1 : w16.cell? ⟨gb456, 1, none⟩ = some (.slice none 0 0) := (blk_cell BK456.out 1).trans rfl; have hcz18_2 : w16.cell? ⟨gb456, 2, none⟩ = some (.slice none 0 0) := (blk_cell BK456.out 2).trans rfl; have hfz18_0 := blk_frozen BK456.out 0; have hfz18_1 := blk_frozen BK456.out 1; have hfz18_2 := blk_frozen BK456.out 2; have hcz19_0 : w16.cell? ⟨gb454, 0, none⟩ = some (.slice A0_0 l0_0.length c0_0) := (blk_cell BK454.out 0).trans rfl; have hcz19_1 : w16.cell? ⟨gb454, 1, none⟩ = some (.slice A0_1 l0_1.length c0_1) := (blk_cell BK454.out 1).trans rfl; have hcz19_2 : w16.cell? ⟨gb454, 2, none⟩ = some (.slice A0_2 l0_2.length c0_2) := (blk_cell BK454.out 2).trans rfl; have hfz19_0 := blk_frozen BK454.out 0; have hfz19_1 := blk_frozen BK454.out 1; have hfz19_2 := blk_frozen BK454.out 2))
   go_loopg [22] k (fun kq v22 w' => ∃ (x22_1 : Int) (x457001_1 : List (S49)) (u457001 : Value), v22 = .int .i64 x22_1 ∧ Aside0 (spec_l1copy.l0 kq l0_1 (l0_1.length : Int) x22_1 y457 x457001_1 y460 = some (r1, r2, r3)) ∧ Aside0 (kq ≤ k) ∧ Aside0 (Kd.R (Kd.int .i64) 3 w' w.heap.size (fun k_ => some k_ ≠ ((.slice Ao17 y460.length co17) : Value).ownBlock) (.slice Ao13 y457.length co13) y457) ∧ Aside0 (Kd.S k49 49 w' w.heap.size (fun k_ => some k_ ≠ ((.slice Ao13 y457.length co13) : Value).ownBlock ∧ some k_ ≠ ((.slice Ao17 y460.length co17) : Value).ownBlock) u457001 x457001_1) ∧ Aside0 (Kd.R (Kd.int .i64) 3 w' w.heap.size (fun k_ => some k_ ≠ ((.slice Ao13 y457.length co13) : Value).ownBlock) (.slice Ao17 y460.length co17) y460) ∧ Aside0 (w'.heap[gb454]? = some (.cells #[(.slice A0_0 l0_0.length c0_0), (.slice A0_1 l0_1.length c0_1), (.slice A0_2 l0_2.length c0_2)] 31 (0, 0))) ∧ Aside0 (w'.heap[gb455]? = some (.cells #[(.slice none 0 0), (.slice none 0 0), (.slice none 0 0)] 31 (0, 0))) ∧ Aside0 (w'.heap[gb456]? = some (.cells #[(.slice Ao13 y457.length co13), u457001, (.slice Ao17 y460.length co17)] 31 (0, 0))) ∧ Aside0 (Below w.heap.size w w'))
   case atStart => exact ⟨(0), (([] : List (S49))), (.slice none 0 0), (by first | rfl | (simp; done) | (simp [*]; done)), H', ⟨Nat.le_refl _⟩, ⟨by exact Kd.R_mono (Kd.R_far (p := ⟨gb456, 2, none⟩) (Kd.R_types HO459.out BK456.out (by decide)) (fun _ hk => hk.2) (.slice Ao17 y460.length co17)) (fun _ hk => hk.1.2)⟩, ⟨by first | exact Kd.S_nil _ _ _ _ _ | exact Kd.N_nil _ _ _ _ _ | exact Kd.V_nil _ _ _ _ _ | exact Kd.Q_nil _ _ _ _ _ | exact Kd.R_nil _ _ _ _ _⟩, ⟨by exact Kd.R_mono (Kd.R_far (p := ⟨gb456, 2, none⟩) (Kd.R_types HO462.out BK456.out (by decide)) (fun _ hk => hk.2) (.slice Ao17 y460.length co17)) (fun _ hk => hk.1)⟩, ⟨by refine blk_far ?_ NB454_456.out _; exact BK454.out⟩, ⟨by refine blk_far ?_ NB455_456.out _; exact BK455.out⟩, ⟨by refine blk_put (cs := #[.slice Ao13 y457.length co13, .slice none 0 0, .slice none 0 0]) ?_ 2 _ rfl; exact BK456.out⟩, ⟨by repeat (first | (with_reducible first | exact HB.out | apply below_alloc | apply pw_below_drewN | apply below_drew1 | refine below_set ?_ GE454.out | refine below_set ?_ GE455.out | refine below_set ?_ GE456.out) | exact HB.out)⟩⟩
   case round =>
    clear H'
    try clear c1
    try clear c2
    try clear p2
    try clear c3
    try clear c5
    try clear c7
    try clear c8
    try clear c10
    try clear hcz11_0
    try clear hcz11_1
    try clear hcz11_2
    try clear hcz14_0
    try clear hcz14_1
    try clear hcz14_2
    try clear hcz15_0
    try clear hcz15_1
    try clear hcz15_2
    try clear hcz18_0
    try clear hcz18_1
    try clear hcz18_2
    try clear hcz19_0
    try clear hcz19_1
    try clear hcz19_2
    try clear hcz9_0
    try clear hcz9_1
    try clear hcz9_2
    try clear hfz11_0
    try clear hfz11_1
    try clear hfz11_2
    try clear hfz14_0
    try clear hfz14_1
    try clear hfz14_2
    try clear hfz15_0
    try clear hfz15_1
    try clear hfz15_2
    try clear hfz18_0
    try clear hfz18_1
    try clear hfz18_2
    try clear hfz19_0
    try clear hfz19_1
    try clear hfz19_2
    try clear hfz9_0
    try clear hfz9_1
    try clear hfz9_2
    obtain ⟨x22_1, x457001_1, u457001, rfl, HA, HK1, HO_457000, HO_457001, HO_457002, BK454, BK455, BK456, HB⟩ := hrel
    cases gk with
    | zero => exact absurd HA.out (by simp [spec_l1copy.l0])
    | succ k1 =>
     have H := HA.out
     clear HA
     simp only [spec_l1copy.l0] at H
     by_cases c20 : x22_1 < (l0_1.length : Int)
     ·rw [if_pos c20] at H
      have c20b0 : decide (x22_1 < (l0_1.length : Int)) = true := decide_eq_true c20
      clear c20
      by_cases c21 : 0 ≤ x22_1
      ·rw [if_pos c21] at H
       have c21b0 : decide (0 ≤ x22_1) = true := decide_eq_true c21
       clear c21
       by_cases c22 : x22_1 < (l0_1.length : Int)
       ·rw [if_pos c22] at H
        have c22b0 : decide (x22_1 < (l0_1.length : Int)) = true := decide_eq_true c22
        clear c22
        obtain ⟨y466, hy466⟩ : ∃ y_ : List Int, y_ = (([] : List Int)) := ⟨_, rfl⟩
        replace H : (if y466.length + ((rd_T49 l0_1 x22_1).f1).length < 17592186044416 then (if x457001_1.length < 3518437208883 then (spec_l1copy.l0 k1 l0_1 (l0_1.length : Int) (wrap64 (x22_1 + 1)) y457 (x457001_1 ++ [(⟨(rd_T49 l0_1 x22_1).f0, (y466 ++ ((rd_T49 l0_1 x22_1).f1)), (rd_T49 l0_1 x22_1).f2⟩ : S49)]) y460) else (none)) else (none)) = some (r1, r2, r3) := by first | (rw [hy466]; with_reducible exact H) | (have H2_ := (Option.bind_some _ _).symm.trans H; rw [hy466]; with_reducible exact H2_) | (have H2_ := (Option.bind_some _ _).symm.trans H; with_reducible exact H2_) | with_reducible exact H | (rw [hy466]; exact H) | exact H
        have Ny466 := Aside0.mk hy466
        clear hy466
        by_cases c23 : y466.length + ((rd_T49 l0_1 x22_1).f1).length < 17592186044416
        ·rw [if_pos c23] at H
         have LMc23 := Aside0.mk c23
         clear c23
         obtain ⟨y469, hy469⟩ : ∃ y_ : List Int, y_ = (y466 ++ ((rd_T49 l0_1 x22_1).f1)) := ⟨_, rfl⟩
         replace H : (if x457001_1.length < 3518437208883 then (spec_l1copy.l0 k1 l0_1 (l0_1.length : Int) (wrap64 (x22_1 + 1)) y457 (x457001_1 ++ [(⟨(rd_T49 l0_1 x22_1).f0, y469, (rd_T49 l0_1 x22_1).f2⟩ : S49)]) y460) else (none)) = some (r1, r2, r3) := by first | (rw [hy469]; with_reducible exact H) | (have H2_ := (Option.bind_some _ _).symm.trans H; rw [hy469]; with_reducible exact H2_) | (have H2_ := (Option.bind_some _ _).symm.trans H; with_reducible exact H2_) | with_reducible exact H | (rw [hy469]; exact H) | exact H
         have Ny469 := Aside0.mk hy469
         clear hy469
         by_cases c24 : x457001_1.length < 3518437208883
         ·rw [if_pos c24] at H
          have LMc24 := Aside0.mk c24
          clear c24
          obtain ⟨y472, hy472⟩ : ∃ y_ : List (S49), y_ = (x457001_1 ++ [(⟨(rd_T49 l0_1 x22_1).f0, y469, (rd_T49 l0_1 x22_1).f2⟩ : S49)]) := ⟨_, rfl⟩
          replace H : (spec_l1copy.l0 k1 l0_1 (l0_1.length : Int) (wrap64 (x22_1 + 1)) y457 y472 y460) = some (r1, r2, r3) := by first | (rw [hy472]; with_reducible exact H) | (have H2_ := (Option.bind_some _ _).symm.trans H; rw [hy472]; with_reducible exact H2_) | (have H2_ := (Option.bind_some _ _).symm.trans H; with_reducible exact H2_) | with_reducible exact H | (rw [hy472]; exact H) | exact H
          have Ny472 := Aside0.mk hy472
          clear hy472
          have H' := Aside0.mk H
          clear H
          have p463 : 0 ≤ (x22_1 : Int) := of_decide_eq_true (by assumption)
          have q463 : x22_1 < (l0_1.length : Int) := of_decide_eq_true (by assumption)
          obtain ⟨ad463, A463_1, c463_1, e463, hx463_0, hx463_1, hx463_2, hl463_1, hi463_1⟩ := at_T49 HR0_1.out x22_1 p463 q463
          cases e463
          replace hx463_0 := (HB.out.cell (World.block_lt_of_cell? w _ hx463_0)).trans hx463_0
          replace hx463_1 := (HB.out.cell (World.block_lt_of_cell? w _ hx463_1)).trans hx463_1
          replace hx463_2 := (HB.out.cell (World.block_lt_of_cell? w _ hx463_2)).trans hx463_2
          have HR463_1 := Aside0.mk hi463_1
          have HC463_1 := Aside0.mk hl463_1
          clear hi463_1 hl463_1
          replace p463 := eq_true p463
          replace q463 := eq_true q463
          go_wp2_with (first | ((with_reducible refine gate_dst (N := 5) rfl ?_); refine box_event ?hg (N := 5) ?hd (cs := #[.int .i64 0, .slice none 0 0, .int .i64 0]) (t := 49) ?hr ?_; (case hd => rfl); (case hg => rfl); (case hr => first | (go_simp; done) | (go_simp; rfl)); intro gb464 hg w25 hbox hb; have n0_ := Aside0.mk (Kd.R_below (by exact HO_457000.out) hb); have n1_ := Aside0.mk (Kd.S_below (Kd.S_elderB (by exact HO_457001.out) gb464 (Nat.le_of_eq hg.symm)) hb); have n2_ := Aside0.mk (Kd.R_below (by exact HO_457002.out) hb); have n3_ := Aside0.mk (blk_below (g := gb454) (o := .cells #[.slice A0_0 l0_0.length c0_0, .slice (some ad463) l0_1.length c0_1, .slice A0_2 l0_2.length c0_2] 31 (0, 0)) (by exact BK454.out) hb); have n4_ := Aside0.mk (blk_below (g := gb455) (o := .cells #[.slice none 0 0, .slice none 0 0, .slice none 0 0] 31 (0, 0)) (by exact BK455.out) hb); have n5_ := Aside0.mk (blk_below (g := gb456) (o := .cells #[.slice Ao13 y457.length co13, u457001, .slice Ao17 y460.length co17] 31 (0, 0)) (by exact BK456.out) hb); have n6_ := Aside0.mk (below_step (by exact HB.out) hb); have n7_ := Aside0.mk (hbox); have n8_ := Aside0.mk ((by rw [hg]; exact (below_size (by exact HB.out)) : w.heap.size ≤ gb464)); have n9_ := Aside0.mk ((by rw [hg]; exact (below_size (by exact HB.out)) : w.heap.size ≤ gb464)); have n10_ := Aside0.mk ((by rw [hg]; exact Nat.ne_of_lt (blk_lt (g := gb454) (o := .cells #[.slice A0_0 l0_0.length c0_0, .slice (some ad463) l0_1.length c0_1, .slice A0_2 l0_2.length c0_2] 31 (0, 0)) (by exact BK454.out)) : gb454 ≠ gb464)); have n11_ := Aside0.mk ((by rw [hg]; exact Nat.ne_of_gt (blk_lt (g := gb454) (o := .cells #[.slice A0_0 l0_0.length c0_0, .slice (some ad463) l0_1.length c0_1, .slice A0_2 l0_2.length c0_2] 31 (0, 0)) (by exact BK454.out)) : gb464 ≠ gb454)); have n12_ := Aside0.mk ((by rw [hg]; exact Nat.ne_of_lt (blk_lt (g := gb455) (o := .cells #[.slice none 0 0, .slice none 0 0, .slice none 0 0] 31 (0, 0)) (by exact BK455.out)) : gb455 ≠ gb464)); have n13_ := Aside0.mk ((by rw [hg]; exact Nat.ne_of_gt (blk_lt (g := gb455) (o := .cells #[.slice none 0 0, .slice none 0 0, .slice none 0 0] 31 (0, 0)) (by exact BK455.out)) : gb464 ≠ gb455)); have n14_ := Aside0.mk ((by rw [hg]; exact Nat.ne_of_lt (blk_lt (g := gb456) (o := .cells #[.slice Ao13 y457.length co13, u457001, .slice Ao17 y460.length co17] 31 (0, 0)) (by exact BK456.out)) : gb456 ≠ gb464)); have n15_ := Aside0.mk ((by rw [hg]; exact Nat.ne_of_gt (blk_lt (g := gb456) (o := .cells #[.slice Ao13 y457.length co13, u457001, .slice Ao17 y460.length co17] 31 (0, 0)) (by exact BK456.out)) : gb464 ≠ gb456)); clear HO_457000; clear HO_457001; clear HO_457002; clear BK454; clear BK455; clear BK456; clear HB; have HO_457000 := n0_; have HO_457001 := n1_; have HO_457002 := n2_; have BK454 := n3_; have BK455 := n4_; have BK456 := n5_; have HB := n6_; have BK464 := n7_; have GW464 := n8_; have GE464 := n9_; have NB454_464 := n10_; have NB464_454 := n11_; have NB455_464 := n12_; have NB464_455 := n13_; have NB456_464 := n14_; have NB464_456 := n15_; clear n0_ n1_ n2_ n3_ n4_ n5_ n6_ n7_ n8_ n9_ n10_ n11_ n12_ n13_ n14_ n15_; clear hb hbox hg; have hnb26 := NB464_454.out; have hnc26 := NB454_464.out; have hnb27 := NB464_455.out; have hnc27 := NB455_464.out; have hnb28 := NB464_456.out; have hnc28 := NB456_464.out; have hcz29_0 : w25.cell? ⟨gb464, 0, none⟩ = some (.int .i64 0) := (blk_cell BK464.out 0).trans rfl; have hcz29_1 : w25.cell? ⟨gb464, 1, none⟩ = some (.slice none 0 0) := (blk_cell BK464.out 1).trans rfl; have hcz29_2 : w25.cell? ⟨gb464, 2, none⟩ = some (.int .i64 0) := (blk_cell BK464.out 2).trans rfl; have hfz29_0 := blk_frozen BK464.out 0; have hfz29_1 := blk_frozen BK464.out 1; have hfz29_2 := blk_frozen BK464.out 2) | ((with_reducible refine gate_dst (N := 6) rfl ?_); refine box_event ?hg (N := 6) ?hd (cs := #[.int .i64 0, .slice none 0 0, .int .i64 0]) (t := 49) ?hr ?_; (case hd => rfl); (case hg => rfl); (case hr => first | (go_simp; done) | (go_simp; rfl)); intro gb465 hg w30 hbox hb; have n0_ := Aside0.mk (Kd.R_below (by exact (Kd.R_mono (Kd.R_far (p := ⟨gb464, 2, none⟩) (Kd.R_far (p := ⟨gb464, 1, none⟩) (Kd.R_far (p := ⟨gb464, 0, none⟩) (Kd.R_types HO_457000.out BK464.out (by decide)) (fun _ hk => hk.2) (.int .i64 ((rd_T49 l0_1 x22_1).f0))) (fun _ hk => hk.2) (.slice A463_1 ((rd_T49 l0_1 x22_1).f1).length c463_1)) (fun _ hk => hk.2) (.int .i64 ((rd_T49 l0_1 x22_1).f2))) (fun _ h_ => h_.1))) hb); have n1_ := Aside0.mk (Kd.S_below (Kd.S_elderB (by exact (Kd.S_mono (Kd.S_far (p := ⟨gb464, 2, none⟩) (Kd.S_far (p := ⟨gb464, 1, none⟩) (Kd.S_far (p := ⟨gb464, 0, none⟩) (Kd.S_mono HO_457001.out (fun k_ hk => (⟨hk, hk.2⟩ : _ ∧ k_ ≠ gb464))) (fun _ hk => hk.2) (.int .i64 ((rd_T49 l0_1 x22_1).f0))) (fun _ hk => hk.2) (.slice A463_1 ((rd_T49 l0_1 x22_1).f1).length c463_1)) (fun _ hk => hk.2) (.int .i64 ((rd_T49 l0_1 x22_1).f2))) (fun _ h_ => h_.1))) gb465 (Nat.le_of_eq hg.symm)) hb); have n2_ := Aside0.mk (Kd.R_below (by exact (Kd.R_mono (Kd.R_far (p := ⟨gb464, 2, none⟩) (Kd.R_far (p := ⟨gb464, 1, none⟩) (Kd.R_far (p := ⟨gb464, 0, none⟩) (Kd.R_types HO_457002.out BK464.out (by decide)) (fun _ hk => hk.2) (.int .i64 ((rd_T49 l0_1 x22_1).f0))) (fun _ hk => hk.2) (.slice A463_1 ((rd_T49 l0_1 x22_1).f1).length c463_1)) (fun _ hk => hk.2) (.int .i64 ((rd_T49 l0_1 x22_1).f2))) (fun _ h_ => h_.1))) hb); have n3_ := Aside0.mk (blk_below (g := gb454) (o := .cells #[.slice A0_0 l0_0.length c0_0, .slice (some ad463) l0_1.length c0_1, .slice A0_2 l0_2.length c0_2] 31 (0, 0)) (by refine blk_far ?_ NB454_464.out _; refine blk_far ?_ NB454_464.out _; refine blk_far ?_ NB454_464.out _; exact BK454.out) hb); have n4_ := Aside0.mk (blk_below (g := gb455) (o := .cells #[.slice none 0 0, .slice none 0 0, .slice none 0 0] 31 (0, 0)) (by refine blk_far ?_ NB455_464.out _; refine blk_far ?_ NB455_464.out _; refine blk_far ?_ NB455_464.out _; exact BK455.out) hb); have n5_ := Aside0.mk (blk_below (g := gb456) (o := .cells #[.slice Ao13 y457.length co13, u457001, .slice Ao17 y460.length co17] 31 (0, 0)) (by refine blk_far ?_ NB456_464.out _; refine blk_far ?_ NB456_464.out _; refine blk_far ?_ NB456_464.out _; exact BK456.out) hb); have n6_ := Aside0.mk (blk_below (g := gb464) (o := .cells #[.int .i64 ((rd_T49 l0_1 x22_1).f0), .slice A463_1 ((rd_T49 l0_1 x22_1).f1).length c463_1, .int .i64 ((rd_T49 l0_1 x22_1).f2)] 49 (0, 0)) (by refine blk_put (cs := #[.int .i64 ((rd_T49 l0_1 x22_1).f0), .slice A463_1 ((rd_T49 l0_1 x22_1).f1).length c463_1, .int .i64 0]) ?_ 2 _ rfl; refine blk_put (cs := #[.int .i64 ((rd_T49 l0_1 x22_1).f0), .slice none 0 0, .int .i64 0]) ?_ 1 _ rfl; refine blk_put (cs := #[.int .i64 0, .slice none 0 0, .int .i64 0]) ?_ 0 _ rfl; exact BK464.out) hb); have n7_ := Aside0.mk (below_step (by repeat (first | (with_reducible first | exact HB.out | apply below_alloc | apply pw_below_drewN | apply below_drew1 | refine below_set ?_ GE454.out | refine below_set ?_ GE455.out | refine below_set ?_ GE456.out | refine below_set ?_ GE464.out) | exact HB.out)) hb); have n8_ := Aside0.mk (hbox); have n9_ := Aside0.mk ((by rw [hg]; exact (below_size (by repeat (first | (with_reducible first | exact HB.out | apply below_alloc | apply pw_below_drewN | apply below_drew1 | refine below_set ?_ GE454.out | refine below_set ?_ GE455.out | refine below_set ?_ GE456.out | refine below_set ?_ GE464.out) | exact HB.out))) : w.heap.size ≤ gb465)); have n10_ := Aside0.mk ((by rw [hg]; exact (below_size (by repeat (first | (with_reducible first | exact HB.out | apply below_alloc | apply pw_below_drewN | apply below_drew1 | refine below_set ?_ GE454.out | refine below_set ?_ GE455.out | refine below_set ?_ GE456.out | refine below_set ?_ GE464.out) | exact HB.out))) : w.heap.size ≤ gb465)); have n11_ := Aside0.mk ((by rw [hg]; exact Nat.ne_of_lt (blk_lt (g := gb454) (o := .cells #[.slice A0_0 l0_0.length c0_0, .slice (some ad463) l0_1.length c0_1, .slice A0_2 l0_2.length c0_2] 31 (0, 0)) (by refine blk_far ?_ NB454_464.out _; refine blk_far ?_ NB454_464.out _; refine blk_far ?_ NB454_464.out _; exact BK454.out)) : gb454 ≠ gb465)); have n12_ := Aside0.mk ((by rw [hg]; exact Nat.ne_of_gt (blk_lt (g := gb454) (o := .cells #[.slice A0_0 l0_0.length c0_0, .slice (some ad463) l0_1.length c0_1, .slice A0_2 l0_2.length c0_2] 31 (0, 0)) (by refine blk_far ?_ NB454_464.out _; refine blk_far ?_ NB454_464.out _; refine blk_far ?_ NB454_464.out _; exact BK454.out)) : gb465 ≠ gb454)); have n13_ := Aside0.mk ((by rw [hg]; exact Nat.ne_of_lt (blk_lt (g := gb455) (o := .cells #[.slice none 0 0, .slice none 0 0, .slice none 0 0] 31 (0, 0)) (by refine blk_far ?_ NB455_464.out _; refine blk_far ?_ NB455_464.out _; refine blk_far ?_ NB455_464.out _; exact BK455.out)) : gb455 ≠ gb465)); have n14_ := Aside0.mk ((by rw [hg]; exact Nat.ne_of_gt (blk_lt (g := gb455) (o := .cells #[.slice none 0 0, .slice none 0 0, .slice none 0 0] 31 (0, 0)) (by refine blk_far ?_ NB455_464.out _; refine blk_far ?_ NB455_464.out _; refine blk_far ?_ NB455_464.out _; exact BK455.out)) : gb465 ≠ gb455)); have n15_ := Aside0.mk ((by rw [hg]; exact Nat.ne_of_lt (blk_lt (g := gb456) (o := .cells #[.slice Ao13 y457.length co13, u457001, .slice Ao17 y460.length co17] 31 (0, 0)) (by refine blk_far ?_ NB456_464.out _; refine blk_far ?_ NB456_464.out _; refine blk_far ?_ NB456_464.out _; exact BK456.out)) : gb456 ≠ gb465)); have n16_ := Aside0.mk ((by rw [hg]; exact Nat.ne_of_gt (blk_lt (g := gb456) (o := .cells #[.slice Ao13 y457.length co13, u457001, .slice Ao17 y460.length co17] 31 (0, 0)) (by refine blk_far ?_ NB456_464.out _; refine blk_far ?_ NB456_464.out _; refine blk_far ?_ NB456_464.out _; exact BK456.out)) : gb465 ≠ gb456)); have n17_ := Aside0.mk ((by rw [hg]; exact Nat.ne_of_lt (blk_lt (g := gb464) (o := .cells #[.int .i64 ((rd_T49 l0_1 x22_1).f0), .slice A463_1 ((rd_T49 l0_1 x22_1).f1).length c463_1, .int .i64 ((rd_T49 l0_1 x22_1).f2)] 49 (0, 0)) (by refine blk_put (cs := #[.int .i64 ((rd_T49 l0_1 x22_1).f0), .slice A463_1 ((rd_T49 l0_1 x22_1).f1).length c463_1, .int .i64 0]) ?_ 2 _ rfl; refine blk_put (cs := #[.int .i64 ((rd_T49 l0_1 x22_1).f0), .slice none 0 0, .int .i64 0]) ?_ 1 _ rfl; refine blk_put (cs := #[.int .i64 0, .slice none 0 0, .int .i64 0]) ?_ 0 _ rfl; exact BK464.out)) : gb464 ≠ gb465)); have n18_ := Aside0.mk ((by rw [hg]; exact Nat.ne_of_gt (blk_lt (g := gb464) (o := .cells #[.int .i64 ((rd_T49 l0_1 x22_1).f0), .slice A463_1 ((rd_T49 l0_1 x22_1).f1).length c463_1, .int .i64 ((rd_T49 l0_1 x22_1).f2)] 49 (0, 0)) (by refine blk_put (cs := #[.int .i64 ((rd_T49 l0_1 x22_1).f0), .slice A463_1 ((rd_T49 l0_1 x22_1).f1).length c463_1, .int .i64 0]) ?_ 2 _ rfl; refine blk_put (cs := #[.int .i64 ((rd_T49 l0_1 x22_1).f0), .slice none 0 0, .int .i64 0]) ?_ 1 _ rfl; refine blk_put (cs := #[.int .i64 0, .slice none 0 0, .int .i64 0]) ?_ 0 _ rfl; exact BK464.out)) : gb465 ≠ gb464)); clear HO_457000; clear HO_457001; clear HO_457002; clear BK454; clear BK455; clear BK456; clear BK464; clear HB; have HO_457000 := n0_; have HO_457001 := n1_; have HO_457002 := n2_; have BK454 := n3_; have BK455 := n4_; have BK456 := n5_; have BK464 := n6_; have HB := n7_; have BK465 := n8_; have GW465 := n9_; have GE465 := n10_; have NB454_465 := n11_; have NB465_454 := n12_; have NB455_465 := n13_; have NB465_455 := n14_; have NB456_465 := n15_; have NB465_456 := n16_; have NB464_465 := n17_; have NB465_464 := n18_; clear n0_ n1_ n2_ n3_ n4_ n5_ n6_ n7_ n8_ n9_ n10_ n11_ n12_ n13_ n14_ n15_ n16_ n17_ n18_; clear hb hbox hg; have hnb31 := NB465_454.out; have hnc31 := NB454_465.out; have hnb32 := NB465_455.out; have hnc32 := NB455_465.out; have hnb33 := NB465_456.out; have hnc33 := NB456_465.out; have hnb34 := NB465_464.out; have hnc34 := NB464_465.out; have hcz35_0 : w30.cell? ⟨gb465, 0, none⟩ = some (.int .i64 0) := (blk_cell BK465.out 0).trans rfl; have hcz35_1 : w30.cell? ⟨gb465, 1, none⟩ = some (.slice none 0 0) := (blk_cell BK465.out 1).trans rfl; have hcz35_2 : w30.cell? ⟨gb465, 2, none⟩ = some (.int .i64 0) := (blk_cell BK465.out 2).trans rfl; have hfz35_0 := blk_frozen BK465.out 0; have hfz35_1 := blk_frozen BK465.out 1; have hfz35_2 := blk_frozen BK465.out 2) | ((with_reducible refine gate_dst (N := 27) rfl ?_); refine Kd.R_lit (Kd.int .i64) _ 3 ?hg (N := 27) ?hd (xs := ([] : List Int)) (inner := []) (ok := fun _ => True) (okp := fun _ => True) ?hr ?hp (fun _ hk => hk) trivial (Below.refl _ _) (Nat.le_refl _) (by simp) ?_; (case hd => rfl); (case hg => rfl); (case hr => first | (go_simp; done) | (go_simp; rfl)); (case hp => exact (Reps.none _ _)); intro v467 w36 ho37 hb hg_ hnew_; clear hg_ hnew_; (first | rw [← Ny466.out] at ho37 | (simp only [Int.reduceToNat] at ho37; rw [← Ny466.out] at ho37)); have n0_ := Aside0.mk (Kd.R_elder' (by exact (Kd.R_mono (Kd.R_far (p := ⟨gb465, 2, none⟩) (Kd.R_far (p := ⟨gb465, 1, none⟩) (Kd.R_far (p := ⟨gb465, 0, none⟩) (Kd.R_types HO_457000.out BK465.out (by decide)) (fun _ hk => hk.2) (.int .i64 ((rd_T49 l0_1 x22_1).f0))) (fun _ hk => hk.2) (.slice A463_1 ((rd_T49 l0_1 x22_1).f1).length c463_1)) (fun _ hk => hk.2) (.int .i64 ((rd_T49 l0_1 x22_1).f2))) (fun _ h_ => h_.1))) (Kd.R_base ho37) hb); have n1_ := Aside0.mk (Kd.S_elder' (by exact (Kd.S_mono (Kd.S_far (p := ⟨gb465, 2, none⟩) (Kd.S_far (p := ⟨gb465, 1, none⟩) (Kd.S_far (p := ⟨gb465, 0, none⟩) (Kd.S_mono HO_457001.out (fun k_ hk => (⟨hk, hk.2⟩ : _ ∧ k_ ≠ gb465))) (fun _ hk => hk.2) (.int .i64 ((rd_T49 l0_1 x22_1).f0))) (fun _ hk => hk.2) (.slice A463_1 ((rd_T49 l0_1 x22_1).f1).length c463_1)) (fun _ hk => hk.2) (.int .i64 ((rd_T49 l0_1 x22_1).f2))) (fun _ h_ => h_.1))) (Kd.R_base ho37) hb); have n2_ := Aside0.mk (Kd.R_elder' (by exact (Kd.R_mono (Kd.R_far (p := ⟨gb465, 2, none⟩) (Kd.R_far (p := ⟨gb465, 1, none⟩) (Kd.R_far (p := ⟨gb465, 0, none⟩) (Kd.R_types HO_457002.out BK465.out (by decide)) (fun _ hk => hk.2) (.int .i64 ((rd_T49 l0_1 x22_1).f0))) (fun _ hk => hk.2) (.slice A463_1 ((rd_T49 l0_1 x22_1).f1).length c463_1)) (fun _ hk => hk.2) (.int .i64 ((rd_T49 l0_1 x22_1).f2))) (fun _ h_ => h_.1))) (Kd.R_base ho37) hb); have n3_ := Aside0.mk (Kd.R_lower (Kd.R_new' (Kd.R_new' ho37 (Kd.R_lt (by exact (Kd.R_mono (Kd.R_far (p := ⟨gb465, 2, none⟩) (Kd.R_far (p := ⟨gb465, 1, none⟩) (Kd.R_far (p := ⟨gb465, 0, none⟩) (Kd.R_types HO_457000.out BK465.out (by decide)) (fun _ hk => hk.2) (.int .i64 ((rd_T49 l0_1 x22_1).f0))) (fun _ hk => hk.2) (.slice A463_1 ((rd_T49 l0_1 x22_1).f1).length c463_1)) (fun _ hk => hk.2) (.int .i64 ((rd_T49 l0_1 x22_1).f2))) (fun _ h_ => h_.1))))) (Kd.R_lt (by exact (Kd.R_mono (Kd.R_far (p := ⟨gb465, 2, none⟩) (Kd.R_far (p := ⟨gb465, 1, none⟩) (Kd.R_far (p := ⟨gb465, 0, none⟩) (Kd.R_types HO_457002.out BK465.out (by decide)) (fun _ hk => hk.2) (.int .i64 ((rd_T49 l0_1 x22_1).f0))) (fun _ hk => hk.2) (.slice A463_1 ((rd_T49 l0_1 x22_1).f1).length c463_1)) (fun _ hk => hk.2) (.int .i64 ((rd_T49 l0_1 x22_1).f2))) (fun _ h_ => h_.1))))) (below_size (by repeat (first | (with_reducible first | exact HB.out | apply below_alloc | apply pw_below_drewN | apply below_drew1 | refine below_set ?_ GE454.out | refine below_set ?_ GE455.out | refine below_set ?_ GE456.out | refine below_set ?_ GE464.out | refine below_set ?_ GE465.out) | exact HB.out)))); have n4_ := Aside0.mk (blk_below (g := gb454) (o := .cells #[.slice A0_0 l0_0.length c0_0, .slice (some ad463) l0_1.length c0_1, .slice A0_2 l0_2.length c0_2] 31 (0, 0)) (by refine blk_far ?_ NB454_465.out _; refine blk_far ?_ NB454_465.out _; refine blk_far ?_ NB454_465.out _; exact BK454.out) hb); have n5_ := Aside0.mk (blk_below (g := gb455) (o := .cells #[.slice none 0 0, .slice none 0 0, .slice none 0 0] 31 (0, 0)) (by refine blk_far ?_ NB455_465.out _; refine blk_far ?_ NB455_465.out _; refine blk_far ?_ NB455_465.out _; exact BK455.out) hb); have n6_ := Aside0.mk (blk_below (g := gb456) (o := .cells #[.slice Ao13 y457.length co13, u457001, .slice Ao17 y460.length co17] 31 (0, 0)) (by refine blk_far ?_ NB456_465.out _; refine blk_far ?_ NB456_465.out _; refine blk_far ?_ NB456_465.out _; exact BK456.out) hb); have n7_ := Aside0.mk (blk_below (g := gb464) (o := .cells #[.int .i64 ((rd_T49 l0_1 x22_1).f0), .slice A463_1 ((rd_T49 l0_1 x22_1).f1).length c463_1, .int .i64 ((rd_T49 l0_1 x22_1).f2)] 49 (0, 0)) (by refine blk_far ?_ NB464_465.out _; refine blk_far ?_ NB464_465.out _; refine blk_far ?_ NB464_465.out _; exact BK464.out) hb); have n8_ := Aside0.mk (blk_below (g := gb465) (o := .cells #[.int .i64 ((rd_T49 l0_1 x22_1).f0), .slice A463_1 ((rd_T49 l0_1 x22_1).f1).length c463_1, .int .i64 ((rd_T49 l0_1 x22_1).f2)] 49 (0, 0)) (by refine blk_put (cs := #[.int .i64 ((rd_T49 l0_1 x22_1).f0), .slice A463_1 ((rd_T49 l0_1 x22_1).f1).length c463_1, .int .i64 0]) ?_ 2 _ rfl; refine blk_put (cs := #[.int .i64 ((rd_T49 l0_1 x22_1).f0), .slice none 0 0, .int .i64 0]) ?_ 1 _ rfl; refine blk_put (cs := #[.int .i64 0, .slice none 0 0, .int .i64 0]) ?_ 0 _ rfl; exact BK465.out) hb); have n9_ := Aside0.mk (below_step (by repeat (first | (with_reducible first | exact HB.out | apply below_alloc | apply pw_below_drewN | apply below_drew1 | refine below_set ?_ GE454.out | refine below_set ?_ GE455.out | refine below_set ?_ GE456.out | refine below_set ?_ GE464.out | refine below_set ?_ GE465.out) | exact HB.out)) hb); clear HO_457000; clear HO_457001; clear HO_457002; clear BK454; clear BK455; clear BK456; clear BK464; clear BK465; clear HB; have HO_457000 := n0_; have HO_457001 := n1_; have HO_457002 := n2_; have HO468 := n3_; have BK454 := n4_; have BK455 := n5_; have BK456 := n6_; have BK464 := n7_; have BK465 := n8_; have HB := n9_; clear n0_ n1_ n2_ n3_ n4_ n5_ n6_ n7_ n8_ n9_; clear hb ho37; have hcz38_0 : w36.cell? ⟨gb464, 0, none⟩ = some (.int .i64 ((rd_T49 l0_1 x22_1).f0)) := (blk_cell BK464.out 0).trans rfl; have hcz38_1 : w36.cell? ⟨gb464, 1, none⟩ = some (.slice A463_1 ((rd_T49 l0_1 x22_1).f1).length c463_1) := (blk_cell BK464.out 1).trans rfl; have hcz38_2 : w36.cell? ⟨gb464, 2, none⟩ = some (.int .i64 ((rd_T49 l0_1 x22_1).f2)) := (blk_cell BK464.out 2).trans rfl; have hfz38_0 := blk_frozen BK464.out 0; have hfz38_1 := blk_frozen BK464.out 1; have hfz38_2 := blk_frozen BK464.out 2) | ((with_reducible refine gate_builtin (b := .append) (xs := #[.tmp 27, .tmp 29]) rfl ?_); at_builtin; refine Kd.R_append_rows (Kd.int .i64) (w0 := w) w.heap.size rfl (.tmp 27) (.tmp 29) 23 3 (.int .i64 0) 8 rfl Try.underlying23 info3 rfl (by decide) (by omega) v467 y466 ((rd_T49 l0_1 x22_1).f1) _ _ _ (fun k_ => some k_ ≠ (.slice Ao13 y457.length co13 : Value).ownBlock ∧ some k_ ≠ (.slice Ao17 y460.length co17 : Value).ownBlock) (fun _ => False) rfl rfl ?aO ?aR (fun _ _ h => h) (fun _ h => h.elim) ?aF ?aB ?aS ?aL ?_; (case aR => repeat (first | exact (Kd.C_below HR463_1.out HB.out) | (with_reducible refine Kd.C_alloc ?_ _) | (with_reducible refine Kd.C_drewN ?_ _) | (with_reducible refine Kd.C_drew ?_))); (case aB => exact (by exact HB.out)); (case aF => exact (fun k_ hk => ⟨Kd.fresh' (Kd.R_lt (by exact HO_457000.out)) k_ hk, Kd.fresh' (Kd.R_lt (by exact HO_457002.out)) k_ hk⟩)); (case aO => exact (by exact Kd.R_mono HO468.out (fun _ hk => ⟨hk.1.2, hk.2⟩))); (case aS => exact (below_size (by exact HB.out))); (case aL => have := LMc23.out; omega); intro v470 w39 ho hb hg hat; rw [← Ny469.out] at ho; have n0_ := Aside0.mk (Kd.R_after (ok := (fun k_ => some k_ ≠ (.slice Ao17 y460.length co17 : Value).ownBlock)) (by exact HO_457000.out) hg hat); have n1_ := Aside0.mk (Kd.S_after (ok := (fun k_ => some k_ ≠ (.slice Ao13 y457.length co13 : Value).ownBlock ∧ some k_ ≠ (.slice Ao17 y460.length co17 : Value).ownBlock ∧ k_ ≠ gb464 ∧ k_ ≠ gb465)) (by exact Kd.S_mono HO_457001.out (fun _ hk => ⟨⟨hk.1.1.1.1, ⟨hk.1.1.1.2, ⟨hk.1.1.2, hk.1.2⟩⟩⟩, hk.2⟩)) hg hat); have n2_ := Aside0.mk (Kd.R_after (ok := (fun k_ => some k_ ≠ (.slice Ao13 y457.length co13 : Value).ownBlock)) (by exact HO_457002.out) hg hat); have n3_ := Aside0.mk (blk_grown (g := gb454) (o := .cells #[.slice A0_0 l0_0.length c0_0, .slice (some ad463) l0_1.length c0_1, .slice A0_2 l0_2.length c0_2] 31 (0, 0)) (by exact BK454.out) hg (Kd.R_ne HO468.out BK454.out (by decide))); have n4_ := Aside0.mk (blk_grown (g := gb455) (o := .cells #[.slice none 0 0, .slice none 0 0, .slice none 0 0] 31 (0, 0)) (by exact BK455.out) hg (Kd.R_ne HO468.out BK455.out (by decide))); have n5_ := Aside0.mk (blk_grown (g := gb456) (o := .cells #[.slice Ao13 y457.length co13, u457001, .slice Ao17 y460.length co17] 31 (0, 0)) (by exact BK456.out) hg (Kd.R_ne HO468.out BK456.out (by decide))); have n6_ := Aside0.mk (blk_grown (g := gb464) (o := .cells #[.int .i64 ((rd_T49 l0_1 x22_1).f0), .slice A463_1 ((rd_T49 l0_1 x22_1).f1).length c463_1, .int .i64 ((rd_T49 l0_1 x22_1).f2)] 49 (0, 0)) (by exact BK464.out) hg (Kd.R_ne HO468.out BK464.out (by decide))); have n7_ := Aside0.mk (blk_grown (g := gb465) (o := .cells #[.int .i64 ((rd_T49 l0_1 x22_1).f0), .slice A463_1 ((rd_T49 l0_1 x22_1).f1).length c463_1, .int .i64 ((rd_T49 l0_1 x22_1).f2)] 49 (0, 0)) (by exact BK465.out) hg (Kd.R_ne HO468.out BK465.out (by decide))); have n8_ := Aside0.mk (hb); have n9_ := Aside0.mk (ho); clear HO_457000; clear HO_457001; clear HO_457002; clear BK454; clear BK455; clear BK456; clear BK464; clear BK465; clear HB; clear HO468; have HO_457000 := n0_; have HO_457001 := n1_; have HO_457002 := n2_; have BK454 := n3_; have BK455 := n4_; have BK456 := n5_; have BK464 := n6_; have BK465 := n7_; have HB := n8_; have HO471 := n9_; clear n0_ n1_ n2_ n3_ n4_ n5_ n6_ n7_ n8_ n9_; clear ho hb hg hat; obtain ⟨Ao40, co40, eo40⟩ := Kd.R_slice HO471.out; subst eo40; have hcz41_0 : w39.cell? ⟨gb465, 0, none⟩ = some (.int .i64 ((rd_T49 l0_1 x22_1).f0)) := (blk_cell BK465.out 0).trans rfl; have hcz41_1 : w39.cell? ⟨gb465, 1, none⟩ = some (.slice A463_1 ((rd_T49 l0_1 x22_1).f1).length c463_1) := (blk_cell BK465.out 1).trans rfl; have hcz41_2 : w39.cell? ⟨gb465, 2, none⟩ = some (.int .i64 ((rd_T49 l0_1 x22_1).f2)) := (blk_cell BK465.out 2).trans rfl; have hfz41_0 := blk_frozen BK465.out 0; have hfz41_1 := blk_frozen BK465.out 1; have hfz41_2 := blk_frozen BK465.out 2) | ((with_reducible refine gate_store (t := 23) (p := 31) rfl ?_); refine store_event (t := 23) (p := 31) (v := ?vo_w42) (w1 := (w39.setCell ⟨gb465, 1, none⟩ (.slice Ao40 y469.length co40))) ?hg ?ho ?hn ?hr ?_; (case ho => rfl); (case hg => rfl); (case hn => rfl); (case hr => first | (go_simp; done) | (go_simp; rfl)); intro w42 hw; have n0_ : Aside0 (Kd.R (Kd.int .i64) 3 w42 w.heap.size (fun k_ => some k_ ≠ (.slice Ao17 y460.length co17 : Value).ownBlock ∧ some k_ ≠ (.slice Ao40 y469.length co40 : Value).ownBlock) (.slice Ao13 y457.length co13) y457) := ⟨(by rw [hw]; exact (by exact Kd.R_mono (Kd.R_far (p := ⟨gb465, 1, none⟩) (Kd.R_types HO_457000.out BK465.out (by decide)) (fun _ hk => hk.2) (.slice Ao40 y469.length co40)) (fun _ hk => ⟨hk.1.1, hk.1.2⟩)))⟩; have n1_ : Aside0 (Kd.S k49 49 w42 w.heap.size (fun k_ => some k_ ≠ (.slice Ao13 y457.length co13 : Value).ownBlock ∧ some k_ ≠ (.slice Ao17 y460.length co17 : Value).ownBlock ∧ some k_ ≠ (.slice Ao40 y469.length co40 : Value).ownBlock ∧ k_ ≠ gb464 ∧ k_ ≠ gb465) u457001 x457001_1) := ⟨(by rw [hw]; exact (by exact Kd.S_mono (Kd.S_far (p := ⟨gb465, 1, none⟩) (Kd.S_mono HO_457001.out (fun k_ hk => (⟨hk, hk.1.2.2.2⟩ : _ ∧ k_ ≠ gb465))) (fun _ hk => hk.2) (.slice Ao40 y469.length co40)) (fun _ hk => ⟨hk.1.1.1, ⟨hk.1.1.2.1, ⟨hk.1.2, ⟨hk.1.1.2.2.1, hk.1.1.2.2.2⟩⟩⟩⟩)))⟩; have n2_ : Aside0 (Kd.R (Kd.int .i64) 3 w42 w.heap.size (fun k_ => some k_ ≠ (.slice Ao13 y457.length co13 : Value).ownBlock ∧ some k_ ≠ (.slice Ao40 y469.length co40 : Value).ownBlock) (.slice Ao17 y460.length co17) y460) := ⟨(by rw [hw]; exact (by exact Kd.R_mono (Kd.R_far (p := ⟨gb465, 1, none⟩) (Kd.R_types HO_457002.out BK465.out (by decide)) (fun _ hk => hk.2) (.slice Ao40 y469.length co40)) (fun _ hk => ⟨hk.1.1, hk.1.2⟩)))⟩; have n3_ : Aside0 (Kd.R (Kd.int .i64) 3 w42 w.heap.size (fun k_ => some k_ ≠ (.slice Ao13 y457.length co13 : Value).ownBlock ∧ some k_ ≠ (.slice Ao17 y460.length co17 : Value).ownBlock) (.slice Ao40 y469.length co40) y469) := ⟨(by rw [hw]; exact (by exact Kd.R_mono (Kd.R_far (p := ⟨gb465, 1, none⟩) (Kd.R_types HO471.out BK465.out (by decide)) (fun _ hk => hk.2) (.slice Ao40 y469.length co40)) (fun _ hk => ⟨hk.1.1, hk.1.2⟩)))⟩; have n4_ : Aside0 (w42.heap[gb454]? = some (.cells #[.slice A0_0 l0_0.length c0_0, .slice (some ad463) l0_1.length c0_1, .slice A0_2 l0_2.length c0_2] 31 (0, 0))) := ⟨(by rw [hw]; exact (by refine blk_far ?_ NB454_465.out _; exact BK454.out))⟩; have n5_ : Aside0 (w42.heap[gb455]? = some (.cells #[.slice none 0 0, .slice none 0 0, .slice none 0 0] 31 (0, 0))) := ⟨(by rw [hw]; exact (by refine blk_far ?_ NB455_465.out _; exact BK455.out))⟩; have n6_ : Aside0 (w42.heap[gb456]? = some (.cells #[.slice Ao13 y457.length co13, u457001, .slice Ao17 y460.length co17] 31 (0, 0))) := ⟨(by rw [hw]; exact (by refine blk_far ?_ NB456_465.out _; exact BK456.out))⟩; have n7_ : Aside0 (w42.heap[gb464]? = some (.cells #[.int .i64 ((rd_T49 l0_1 x22_1).f0), .slice A463_1 ((rd_T49 l0_1 x22_1).f1).length c463_1, .int .i64 ((rd_T49 l0_1 x22_1).f2)] 49 (0, 0))) := ⟨(by rw [hw]; exact (by refine blk_far ?_ NB464_465.out _; exact BK464.out))⟩; have n8_ : Aside0 (w42.heap[gb465]? = some (.cells #[.int .i64 ((rd_T49 l0_1 x22_1).f0), .slice Ao40 y469.length co40, .int .i64 ((rd_T49 l0_1 x22_1).f2)] 49 (0, 0))) := ⟨(by rw [hw]; exact (by refine blk_put (cs := #[.int .i64 ((rd_T49 l0_1 x22_1).f0), .slice A463_1 ((rd_T49 l0_1 x22_1).f1).length c463_1, .int .i64 ((rd_T49 l0_1 x22_1).f2)]) ?_ 1 _ rfl; exact BK465.out))⟩; have n9_ : Aside0 (Below w.heap.size w w42) := ⟨(by rw [hw]; exact (by repeat (first | (with_reducible first | exact HB.out | apply below_alloc | apply pw_below_drewN | apply below_drew1 | refine below_set ?_ GE454.out | refine below_set ?_ GE455.out | refine below_set ?_ GE456.out | refine below_set ?_ GE464.out | refine below_set ?_ GE465.out) | exact HB.out)))⟩; clear hw; clear HO_457000; clear HO_457001; clear HO_457002; clear HO471; clear BK454; clear BK455; clear BK456; clear BK464; clear BK465; clear HB; have HO_457000 := n0_; have HO_457001 := n1_; have HO_457002 := n2_; have HO471 := n3_; have BK454 := n4_; have BK455 := n5_; have BK456 := n6_; have BK464 := n7_; have BK465 := n8_; have HB := n9_; clear n0_ n1_ n2_ n3_ n4_ n5_ n6_ n7_ n8_ n9_; have hnb43 := NB456_454.out; have hnc43 := NB454_456.out; have hnb44 := NB456_455.out; have hnc44 := NB455_456.out; have hcz45_0 : w42.cell? ⟨gb456, 0, none⟩ = some (.slice Ao13 y457.length co13) := (blk_cell BK456.out 0).trans rfl; have hcz45_1 : w42.cell? ⟨gb456, 1, none⟩ = some (u457001) := (blk_cell BK456.out 1).trans rfl; have hcz45_2 : w42.cell? ⟨gb456, 2, none⟩ = some (.slice Ao17 y460.length co17) := (blk_cell BK456.out 2).trans rfl; have hfz45_0 := blk_frozen BK456.out 0; have hfz45_1 := blk_frozen BK456.out 1; have hfz45_2 := blk_frozen BK456.out 2; have hcz46_0 : w42.cell? ⟨gb465, 0, none⟩ = some (.int .i64 ((rd_T49 l0_1 x22_1).f0)) := (blk_cell BK465.out 0).trans rfl; have hcz46_1 : w42.cell? ⟨gb465, 1, none⟩ = some (.slice Ao40 y469.length co40) := (blk_cell BK465.out 1).trans rfl; have hcz46_2 : w42.cell? ⟨gb465, 2, none⟩ = some (.int .i64 ((rd_T49 l0_1 x22_1).f2)) := (blk_cell BK465.out 2).trans rfl; have hfz46_0 := blk_frozen BK465.out 0; have hfz46_1 := blk_frozen BK465.out 1; have hfz46_2 := blk_frozen BK465.out 2) | ((with_reducible refine gate_builtin (b := .append) (xs := #[.tmp 33, .tmp 35]) rfl ?_); at_builtin; refine Kd.S_append k49 (w0 := w) w.heap.size rfl (.tmp 33) (.tmp 35) 29 49 (.agg #[(.int .i64 0), (.slice none 0 0), (.int .i64 0)]) 40 rfl Try.underlying29 info49 rfl (by decide) (by omega) u457001 x457001_1 (⟨(rd_T49 l0_1 x22_1).f0, y469, (rd_T49 l0_1 x22_1).f2⟩ : S49) [.int .i64 ((rd_T49 l0_1 x22_1).f0), .slice Ao40 y469.length co40, .int .i64 ((rd_T49 l0_1 x22_1).f2)] (fun k_ => some k_ ≠ (.slice Ao13 y457.length co13 : Value).ownBlock ∧ some k_ ≠ (.slice Ao17 y460.length co17 : Value).ownBlock ∧ k_ ≠ gb464 ∧ k_ ≠ gb465) (fun k_ => some k_ = (.slice Ao40 y469.length co40 : Value).ownBlock) rfl rfl ?aP (fun k_ hk_ => ((Kd.R_mono (ok' := fun k_ => ((fun k_ => some k_ ≠ (.slice Ao13 y457.length co13 : Value).ownBlock ∧ some k_ ≠ (.slice Ao17 y460.length co17 : Value).ownBlock ∧ k_ ≠ gb464 ∧ k_ ≠ gb465)) k_ ∧ some k_ ≠ (u457001 : Value).ownBlock) (Kd.R_types (Kd.R_types (Kd.R_apart' (HO471.out) (Kd.S_typed HO_457001.out) (by decide)) BK464.out (by decide)) BK465.out (by decide)) (fun k_ hk => ⟨⟨hk.1.1.1.1, ⟨hk.1.1.1.2, ⟨hk.1.2, hk.2⟩⟩⟩, hk.1.1.2⟩))).1 k_ hk_.symm) ?aF ?aO ?aB ?aS ?aL ?_; (case aP => exact k49_mkM _ _ _ (⟨(rd_T49 l0_1 x22_1).f0, y469, (rd_T49 l0_1 x22_1).f2⟩ : S49) (Kd.R_mono (Kd.R_tight rfl (Kd.R_mono (ok' := fun k_ => ((fun k_ => some k_ ≠ (.slice Ao13 y457.length co13 : Value).ownBlock ∧ some k_ ≠ (.slice Ao17 y460.length co17 : Value).ownBlock ∧ k_ ≠ gb464 ∧ k_ ≠ gb465)) k_ ∧ some k_ ≠ (u457001 : Value).ownBlock) (Kd.R_types (Kd.R_types (Kd.R_apart' (HO471.out) (Kd.S_typed HO_457001.out) (by decide)) BK464.out (by decide)) BK465.out (by decide)) (fun k_ hk => ⟨⟨hk.1.1.1.1, ⟨hk.1.1.1.2, ⟨hk.1.2, hk.2⟩⟩⟩, hk.1.1.2⟩))) (fun _ h_ => h_))); (case aB => exact (by exact HB.out)); (case aF => exact (fun k_ hk => ⟨Kd.fresh' (Kd.R_lt (by exact HO_457000.out)) k_ hk, Kd.fresh' (Kd.R_lt (by exact HO_457002.out)) k_ hk, Kd.freshB (g := gb464) (o := .cells #[.int .i64 ((rd_T49 l0_1 x22_1).f0), .slice A463_1 ((rd_T49 l0_1 x22_1).f1).length c463_1, .int .i64 ((rd_T49 l0_1 x22_1).f2)] 49 (0, 0)) (by exact BK464.out) k_ hk, Kd.freshB (g := gb465) (o := .cells #[.int .i64 ((rd_T49 l0_1 x22_1).f0), .slice Ao40 y469.length co40, .int .i64 ((rd_T49 l0_1 x22_1).f2)] 49 (0, 0)) (by exact BK465.out) k_ hk⟩)); (case aO => exact (by exact Kd.S_mono HO_457001.out (fun k_ hk => ⟨⟨hk.1, ⟨hk.2.1, ⟨hk.2.2.2.1, hk.2.2.2.2⟩⟩⟩, fun e_ => hk.2.2.1 e_⟩))); (case aS => exact (below_size (by exact HB.out))); (case aL => have := LMc24.out; omega); intro v473 w47 ho hb hg hat; rw [← Ny472.out] at ho; have n0_ := Aside0.mk (Kd.R_over' (by exact HO_457000.out) (Kd.S_typed (by exact HO_457001.out)) (by decide) hg); have n1_ := Aside0.mk (Kd.R_over' (by exact HO_457002.out) (Kd.S_typed (by exact HO_457001.out)) (by decide) hg); have n2_ := Aside0.mk (blk_grown (g := gb454) (o := .cells #[.slice A0_0 l0_0.length c0_0, .slice (some ad463) l0_1.length c0_1, .slice A0_2 l0_2.length c0_2] 31 (0, 0)) (by exact BK454.out) hg (Kd.S_ne HO_457001.out BK454.out (by decide))); have n3_ := Aside0.mk (blk_grown (g := gb455) (o := .cells #[.slice none 0 0, .slice none 0 0, .slice none 0 0] 31 (0, 0)) (by exact BK455.out) hg (Kd.S_ne HO_457001.out BK455.out (by decide))); have n4_ := Aside0.mk (blk_grown (g := gb456) (o := .cells #[.slice Ao13 y457.length co13, u457001, .slice Ao17 y460.length co17] 31 (0, 0)) (by exact BK456.out) hg (Kd.S_ne HO_457001.out BK456.out (by decide))); have n5_ := Aside0.mk (blk_grown (g := gb464) (o := .cells #[.int .i64 ((rd_T49 l0_1 x22_1).f0), .slice A463_1 ((rd_T49 l0_1 x22_1).f1).length c463_1, .int .i64 ((rd_T49 l0_1 x22_1).f2)] 49 (0, 0)) (by exact BK464.out) hg (Kd.S_away HO_457001.out (fun _ hk => hk.2.2.2.1))); have n6_ := Aside0.mk (blk_grown (g := gb465) (o := .cells #[.int .i64 ((rd_T49 l0_1 x22_1).f0), .slice Ao40 y469.length co40, .int .i64 ((rd_T49 l0_1 x22_1).f2)] 49 (0, 0)) (by exact BK465.out) hg (Kd.S_away HO_457001.out (fun _ hk => hk.2.2.2.2))); have n7_ := Aside0.mk (hb); have n8_ := Aside0.mk (ho); clear HO_457000; clear HO_457002; clear BK454; clear BK455; clear BK456; clear BK464; clear BK465; clear HB; clear HO_457001; clear HO471; have HO_457000 := n0_; have HO_457002 := n1_; have BK454 := n2_; have BK455 := n3_; have BK456 := n4_; have BK464 := n5_; have BK465 := n6_; have HB := n7_; have HO474 := n8_; clear n0_ n1_ n2_ n3_ n4_ n5_ n6_ n7_ n8_; clear ho hb hg hat; obtain ⟨Ao48, co48, eo48⟩ := Kd.S_slice HO474.out; subst eo48; have hcz49_0 : w47.cell? ⟨gb456, 0, none⟩ = some (.slice Ao13 y457.length co13) := (blk_cell BK456.out 0).trans rfl; have hcz49_1 : w47.cell? ⟨gb456, 1, none⟩ = some (u457001) := (blk_cell BK456.out 1).trans rfl; have hcz49_2 : w47.cell? ⟨gb456, 2, none⟩ = some (.slice Ao17 y460.length co17) := (blk_cell BK456.out 2).trans rfl; have hfz49_0 := blk_frozen BK456.out 0; have hfz49_1 := blk_frozen BK456.out 1; have hfz49_2 := blk_frozen BK456.out 2))
          go_roundg k1
          case measure => have := HK1.out; omega
          case rel => exact ⟨(wrap64 (x22_1 + 1)), (y472), (.slice Ao48 y472.length co48), (by first | rfl | (simp; done) | (simp [*]; done)), H', ⟨by have := HK1.out; omega⟩, ⟨by exact Kd.R_mono (Kd.R_far (p := ⟨gb456, 1, none⟩) (Kd.R_types HO_457000.out BK456.out (by decide)) (fun _ hk => hk.2) (.slice Ao48 y472.length co48)) (fun _ hk => hk.1.1)⟩, ⟨by exact Kd.S_mono (Kd.S_far (p := ⟨gb456, 1, none⟩) (Kd.S_types HO474.out BK456.out (by decide)) (fun _ hk => hk.2) (.slice Ao48 y472.length co48)) (fun _ hk => ⟨hk.1.1, hk.1.2.1⟩)⟩, ⟨by exact Kd.R_mono (Kd.R_far (p := ⟨gb456, 1, none⟩) (Kd.R_types HO_457002.out BK456.out (by decide)) (fun _ hk => hk.2) (.slice Ao48 y472.length co48)) (fun _ hk => hk.1.1)⟩, ⟨by refine blk_far ?_ NB454_456.out _; exact BK454.out⟩, ⟨by refine blk_far ?_ NB455_456.out _; exact BK455.out⟩, ⟨by refine blk_put (cs := #[.slice Ao13 y457.length co13, u457001, .slice Ao17 y460.length co17]) ?_ 1 _ rfl; exact BK456.out⟩, ⟨by repeat (first | (with_reducible first | exact HB.out | apply below_alloc | apply pw_below_drewN | apply below_drew1 | refine below_set ?_ GE454.out | refine below_set ?_ GE455.out | refine below_set ?_ GE456.out | refine below_set ?_ GE464.out | refine below_set ?_ GE465.out) | exact HB.out)⟩⟩
         ·rw [if_neg c24] at H
          exact absurd H (by simp)
        ·rw [if_neg c23] at H
         exact absurd H (by simp)
       ·rw [if_neg c22] at H
        exact absurd H (by simp)
      ·rw [if_neg c21] at H
       exact absurd H (by simp)
     ·rw [if_neg c20] at H
      have c20b0 : decide (x22_1 < (l0_1.length : Int)) = false := decide_eq_false c20
      clear c20
      simp only [Option.some.injEq, Prod.mk.injEq] at H
      obtain ⟨rfl, rfl, rfl⟩ := H
      have hnb50 := NB456_454.out
      have hnc50 := NB454_456.out
      have hnb51 := NB456_455.out
      have hnc51 := NB455_456.out
      have hcz52_0 : wr.cell? ⟨gb456, 0, none⟩ = some (.slice Ao13 y457.length co13) := (blk_cell BK456.out 0).trans rfl
      have hcz52_1 : wr.cell? ⟨gb456, 1, none⟩ = some (u457001) := (blk_cell BK456.out 1).trans rfl
      have hcz52_2 : wr.cell? ⟨gb456, 2, none⟩ = some (.slice Ao17 y460.length co17) := (blk_cell BK456.out 2).trans rfl
      have hfz52_0 := blk_frozen BK456.out 0
      have hfz52_1 := blk_frozen BK456.out 1
      have hfz52_2 := blk_frozen BK456.out 2
      have hnb53 := NB455_454.out
      have hnc53 := NB454_455.out
      have hcz54_0 : wr.cell? ⟨gb455, 0, none⟩ = some (.slice none 0 0) := (blk_cell BK455.out 0).trans rfl
      have hcz54_1 : wr.cell? ⟨gb455, 1, none⟩ = some (.slice none 0 0) := (blk_cell BK455.out 1).trans rfl
      have hcz54_2 : wr.cell? ⟨gb455, 2, none⟩ = some (.slice none 0 0) := (blk_cell BK455.out 2).trans rfl
      have hfz54_0 := blk_frozen BK455.out 0
      have hfz54_1 := blk_frozen BK455.out 1
      have hfz54_2 := blk_frozen BK455.out 2
      obtain ⟨Ao55, co55, eo55⟩ := Kd.S_slice HO_457001.out
      subst eo55
      go_wp2
      refine bodyPost_ret (results_cell_row rfl _ _ gb455 31 #[.slice Ao13 y457.length co13, .slice Ao55 x457001_1.length co55, .slice Ao17 y460.length co17] (0, 0) _ rfl (by refine blk_put (cs := #[.slice Ao13 y457.length co13, .slice Ao55 x457001_1.length co55, .slice none 0 0]) ?_ 2 _ rfl; refine blk_put (cs := #[.slice Ao13 y457.length co13, .slice none 0 0, .slice none 0 0]) ?_ 1 _ rfl; refine blk_put (cs := #[.slice none 0 0, .slice none 0 0, .slice none 0 0]) ?_ 0 _ rfl; exact BK455.out) Try.underlying31 rfl (by kernel_rfl)) rfl ?_
      exact ⟨_, _, _, by first | rfl | (simp [errW_none, errW_some] <;> rfl) | (simp [*, errW_none, errW_some] <;> rfl), by exact Kd.R_mono (Kd.R_far (p := ⟨gb455, 2, none⟩) (Kd.R_far (p := ⟨gb455, 1, none⟩) (Kd.R_far (p := ⟨gb455, 0, none⟩) (Kd.R_types HO_457000.out BK455.out (by decide)) (fun _ hk => hk.2) (.slice Ao13 y457.length co13)) (fun _ hk => hk.2) (.slice Ao55 x457001_1.length co55)) (fun _ hk => hk.2) (.slice Ao17 y460.length co17)) (fun _ hk => hk.1), by exact Kd.S_mono (Kd.S_far (p := ⟨gb455, 2, none⟩) (Kd.S_far (p := ⟨gb455, 1, none⟩) (Kd.S_far (p := ⟨gb455, 0, none⟩) (Kd.S_types HO_457001.out BK455.out (by decide)) (fun _ hk => hk.2) (.slice Ao13 y457.length co13)) (fun _ hk => hk.2) (.slice Ao55 x457001_1.length co55)) (fun _ hk => hk.2) (.slice Ao17 y460.length co17)) (fun _ hk => ⟨hk.1.1, hk.1.2⟩), by exact Kd.R_mono (Kd.R_far (p := ⟨gb455, 2, none⟩) (Kd.R_far (p := ⟨gb455, 1, none⟩) (Kd.R_far (p := ⟨gb455, 0, none⟩) (Kd.R_types HO_457002.out BK455.out (by decide)) (fun _ hk => hk.2) (.slice Ao13 y457.length co13)) (fun _ hk => hk.2) (.slice Ao55 x457001_1.length co55)) (fun _ hk => hk.2) (.slice Ao17 y460.length co17)) (fun _ hk => hk.1), by repeat (first | (with_reducible first | exact HB.out | apply below_alloc | apply pw_below_drewN | apply below_drew1 | refine below_set ?_ GE454.out | refine below_set ?_ GE455.out | refine below_set ?_ GE456.out) | exact HB.out)⟩
  ·rw [if_neg c3] at H
   exact absurd H (by simp)
 ·rw [if_neg c2] at H
  exact absurd H (by simp)


end Go.Proofs.Ytncckjibiffnaaa.Q
