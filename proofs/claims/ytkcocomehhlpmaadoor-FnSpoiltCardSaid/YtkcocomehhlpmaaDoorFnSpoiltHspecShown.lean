-- Written by programs of this session (wip/drv.py, wip/hx.py) over the kit's print; not trusted: Lean checks it.
import Derived.Test.YtkcocomehhlpmaaDoorFnSpoiltQ0
import Derived.Test.YtkcocomehhlpmaaDoorFnSpoiltQ3
import Derived.Test.YtkcocomehhlpmaaDoorFnSpoiltQ4
import Derived.Test.YtkcocomehhlpmaaDoorFnSpoiltQ5
import Derived.Test.YtkcocomehhlpmaaDoorFnSpoiltQ7
import Derived.Test.YtkcocomehhlpmaaDoorFnSpoiltSp6
import Derived.Test.YtkcocomehhlpmaaDoorFnSpoiltHkb
import Derived.Test.YtkcocomehhlpmaaDoorFnSpoiltH0
namespace Go.Proofs.YtkcocomehhlpmaaDoor.Q
open Go.RowKit Go.Proofs.YtkcocomehhlpmaaDoorW.PrintWords Go.Proofs.YtkcocomehhlpmaaDoorW.PrintLast Go.Proofs.YtkcocomehhlpmaaDoorW.PrintMore
attribute [local go_sem] max2_int min2_int max_two min_two max_three min_three max_four min_four   -- for this text's walks alone
set_option linter.unusedVariables false
set_option linter.unusedSimpArgs false

open Go.Proofs.YtkcocomehhlpmaaDoor.Sp
/-! ### spec_Shown: function 6 -/
mutual
def spec_Shown.l0 : Nat → ByteArray → List (S48) → Int → Int → List Int → List (S48) → List Int → Option (ByteArray)
 | 0, _, _, _, _, _, _, _ => none
 | k + 1, x3, x14, x15, x16, x251000, x251001, x251002 => if x16 < x15 then (if 0 ≤ x16 then (if x16 < (x14.length : Int) then (if x16 < (x251002.length : Int) then ((spec_l4decimal.f k (rd x251002 x16)).bind fun t256 => (if t256.size + 4 ≤ 9223372036854775807 then ((spec_l4decimal.f k ((rd_T48 x14 x16).f0)).bind fun t257 => (if (t256 ++ (⟨#[32, 97, 116, 32]⟩ : ByteArray)).size + t257.size ≤ 9223372036854775807 then (if x3.size + ((t256 ++ (⟨#[32, 97, 116, 32]⟩ : ByteArray)) ++ t257).size ≤ 9223372036854775807 then (spec_Shown.l1 k (x3 ++ ((t256 ++ (⟨#[32, 97, 116, 32]⟩ : ByteArray)) ++ t257)) x16 x14 x15 x16 ((rd_T48 x14 x16).f1) (((rd_T48 x14 x16).f1).length : Int) 0 x251000 x251001 x251002) else (none)) else (none))) else (none))) else (none)) else (none)) else (none)) else ((spec_Safe.f k x251000 x251001 x251002).bind fun t252 => (if t252 = true then (some x3) else (if x3.size + 7 ≤ 9223372036854775807 then (some (x3 ++ (⟨#[117, 110, 115, 97, 102, 101, 10]⟩ : ByteArray))) else (none))))
def spec_Shown.l1 : Nat → ByteArray → Int → List (S48) → Int → Int → List Int → Int → Int → List Int → List (S48) → List Int → Option (ByteArray)
 | 0, _, _, _, _, _, _, _, _, _, _, _ => none
 | k + 1, x3, x4, x14, x15, x16, x35, x36, x37, x251000, x251001, x251002 => if x37 < x36 then (if 0 ≤ x37 then (if x37 < (x35.length : Int) then ((spec_l4decimal.f k (rd x35 x37)).bind fun t259 => (if 1 + t259.size ≤ 9223372036854775807 then (if x3.size + ((⟨#[32]⟩ : ByteArray) ++ t259).size ≤ 9223372036854775807 then (spec_Shown.l1 k (x3 ++ ((⟨#[32]⟩ : ByteArray) ++ t259)) x4 x14 x15 x16 x35 x36 (wrap64 (x37 + 1)) x251000 x251001 x251002) else (none)) else (none))) else (none)) else (none)) else ((spec_l1can.f k x251000 x251001 x251002 x4).bind fun t260 => (if t260 = true then (if x3.size + 1 ≤ 9223372036854775807 then (spec_Shown.l0 k (x3 ++ (⟨#[10]⟩ : ByteArray)) x14 x15 (wrap64 (x16 + 1)) x251000 x251001 x251002) else (none)) else (if x3.size + 10 ≤ 9223372036854775807 then (if 0 ≤ x4 then (if x4 < (x251002.length : Int) then ((spec_Waits.f k x251000 x251001 x251002 (rd x251002 x4)).bind fun t262 => (spec_Shown.l2 k (x3 ++ (⟨#[32, 119, 97, 105, 116, 115, 32, 102, 111, 114]⟩ : ByteArray)) x14 x15 x16 t262 (t262.length : Int) 0 x251000 x251001 x251002)) else (none)) else (none)) else (none))))
def spec_Shown.l2 : Nat → ByteArray → List (S48) → Int → Int → List Int → Int → Int → List Int → List (S48) → List Int → Option (ByteArray)
 | 0, _, _, _, _, _, _, _, _, _, _ => none
 | k + 1, x3, x14, x15, x16, x59, x60, x61, x251000, x251001, x251002 => if x61 < x60 then (if 0 ≤ x61 then (if x61 < (x59.length : Int) then ((spec_l4decimal.f k (rd x59 x61)).bind fun t266 => (if 1 + t266.size ≤ 9223372036854775807 then (if x3.size + ((⟨#[32]⟩ : ByteArray) ++ t266).size ≤ 9223372036854775807 then (spec_Shown.l2 k (x3 ++ ((⟨#[32]⟩ : ByteArray) ++ t266)) x14 x15 x16 x59 x60 (wrap64 (x61 + 1)) x251000 x251001 x251002) else (none)) else (none))) else (none)) else (none)) else (if x3.size + 1 ≤ 9223372036854775807 then (spec_Shown.l0 k (x3 ++ (⟨#[10]⟩ : ByteArray)) x14 x15 (wrap64 (x16 + 1)) x251000 x251001 x251002) else (none))
end
def spec_Shown.f (k : Nat) (l0_0 : List Int) (l0_1 : List (S48)) (l0_2 : List Int) : Option (ByteArray) := (spec_StateOk.f k l0_0 l0_1 l0_2).bind fun t251 => (if t251 = 0 then (spec_Shown.l0 k (⟨#[]⟩ : ByteArray) l0_1 (l0_1.length : Int) 0 l0_0 l0_1 l0_2) else (some (⟨#[]⟩ : ByteArray)))
def spec_Shown.T7 : Bool × List (List Nat × List Nat) := (true, [([], []), ([], []), ([1], [1]), ([], []), ([2, 3], [2, 3]), ([4], [4]), ([5], [5]), ([6], [6]), ([], []), ([8], [8]), ([9, 6], [9]), ([7, 10], [7, 10]), ([0, 11], [0, 11]), ([12, 10, 0, 1, 2, 3, 4, 5, 6, 7, 8, 9, 10, 11, 12], [0, 12])])
def spec_Shown.B7 : List Nat := [0, 0, 2, 0, 14, 30, 62, 126, 0, 256, 894, 2046, 4095, 8191]
theorem spec_Shown.tab7 : rtab .any (opsOf Tryd.f6 7) = spec_Shown.T7 := by kernel_rfl
theorem spec_Shown.bits7 : waitsOk spec_Shown.T7.2 spec_Shown.B7 = true := by kernel_rfl
def spec_Shown.T15 : Bool × List (List Nat × List Nat) := (true, [([], []), ([], []), ([1], [1]), ([], []), ([2, 3], [2, 3]), ([4], [4]), ([0, 5], [0, 5]), ([6], [6]), ([], [])])
def spec_Shown.B15 : List Nat := [0, 0, 2, 0, 14, 30, 63, 127, 0]
theorem spec_Shown.tab15 : rtab .any (opsOf Tryd.f6 15) = spec_Shown.T15 := by kernel_rfl
theorem spec_Shown.bits15 : waitsOk spec_Shown.T15.2 spec_Shown.B15 = true := by kernel_rfl
set_option maxHeartbeats 8000000 in
set_option maxRecDepth 100000 in
theorem spec_Shown.calls (k : Nat) (A0_0 : Option Addr) (c0_0 : Nat) (l0_0 : List Int) (A0_1 : Option Addr) (c0_1 : Nat) (l0_1 : List (S48)) (A0_2 : Option Addr) (c0_2 : Nat) (l0_2 : List Int) (r : ByteArray) (w : World) (hr0_0 : Kd.C (Kd.int .i64) w A0_0 l0_0.length l0_0) (hc0_0 : l0_0.length ≤ c0_0) (hr0_1 : Kd.C k48 w A0_1 l0_1.length l0_1) (hc0_1 : l0_1.length ≤ c0_1) (hr0_2 : Kd.C (Kd.int .i64) w A0_2 l0_2.length l0_2) (hc0_2 : l0_2.length ≤ c0_2) (h : spec_Shown.f k l0_0 l0_1 l0_2 = some r) :
  Calls Tryd.prog 6 #[.agg #[.slice A0_0 l0_0.length c0_0, .slice A0_1 l0_1.length c0_1, .slice A0_2 l0_2.length c0_2]] w fun e w' => e = .returned (.string r) ∧ Below w.heap.size w w' := by
 have hu30 := Tryd.underlying30
 have hu48 := Tryd.underlying48
 have HR0_0 := Aside0.mk hr0_0
 have HC0_0 := Aside0.mk hc0_0
 clear hr0_0 hc0_0
 have HR0_1 := Aside0.mk hr0_1
 have HC0_1 := Aside0.mk hc0_1
 clear hr0_1 hc0_1
 have HR0_2 := Aside0.mk hr0_2
 have HC0_2 := Aside0.mk hc0_2
 clear hr0_2 hc0_2
 have HB := Aside0.mk (Below.refl w.heap.size w)
 have H : ((spec_StateOk.f k l0_0 l0_1 l0_2).bind fun t251 => (if t251 = 0 then (spec_Shown.l0 k (⟨#[]⟩ : ByteArray) l0_1 (l0_1.length : Int) 0 l0_0 l0_1 l0_2) else (some (⟨#[]⟩ : ByteArray)))) = some r := h
 clear h
 replace H := Option.bind_eq_some_iff.mp H
 obtain ⟨t251, A20, H⟩ := H
 replace H : (if t251 = 0 then (spec_Shown.l0 k (⟨#[]⟩ : ByteArray) l0_1 (l0_1.length : Int) 0 l0_0 l0_1 l0_2) else (some (⟨#[]⟩ : ByteArray))) = some r := H
 have A2 := Aside0.mk A20
 clear A20
 by_cases c3 : t251 = 0
 ·rw [if_pos c3] at H
  have c3b0 : (t251 == 0) = true := beq_iff_eq.mpr c3
  have c3b1 : (t251 != 0) = false := bne_eq_false_iff_eq.mpr c3
  clear c3
  have H' := Aside0.mk H
  clear H
  go_enter Tryd.func6, Tryd.ntmps6
  go_wp2_with (first | ((with_reducible refine gate_dst (N := 1) rfl ?_); refine box_event ?hg (N := 1) ?hd (cs := #[.slice A0_0 l0_0.length c0_0, .slice A0_1 l0_1.length c0_1, .slice A0_2 l0_2.length c0_2]) (t := 30) ?hr ?_; (case hd => rfl); (case hg => rfl); (case hr => first | (go_simp; done) | (go_simp; rfl)); intro gb250 hg w4 hbox hb; have n0_ := Aside0.mk (below_step (by repeat (first | (with_reducible first | exact HB.out | apply below_alloc | apply pw_below_drewN | apply below_drew1) | exact HB.out)) hb); have n1_ := Aside0.mk (hbox); have n2_ := Aside0.mk ((by rw [hg]; exact (below_size (by repeat (first | (with_reducible first | exact HB.out | apply below_alloc | apply pw_below_drewN | apply below_drew1) | exact HB.out))) : w.heap.size ≤ gb250)); have n3_ := Aside0.mk ((by rw [hg]; exact (below_size (by repeat (first | (with_reducible first | exact HB.out | apply below_alloc | apply pw_below_drewN | apply below_drew1) | exact HB.out))) : w.heap.size ≤ gb250)); clear HB; have HB := n0_; have BK250 := n1_; have GW250 := n2_; have GE250 := n3_; clear n0_ n1_ n2_ n3_; clear hb hbox hg; have hcz5_0 : w4.cell? ⟨gb250, 0, none⟩ = some (.slice A0_0 l0_0.length c0_0) := (blk_cell BK250.out 0).trans rfl; have hcz5_1 : w4.cell? ⟨gb250, 1, none⟩ = some (.slice A0_1 l0_1.length c0_1) := (blk_cell BK250.out 1).trans rfl; have hcz5_2 : w4.cell? ⟨gb250, 2, none⟩ = some (.slice A0_2 l0_2.length c0_2) := (blk_cell BK250.out 2).trans rfl; have hfz5_0 := blk_frozen BK250.out 0; have hfz5_1 := blk_frozen BK250.out 1; have hfz5_2 := blk_frozen BK250.out 2) | ((with_reducible refine gate_callee (f := 12) rfl ?_); refine goesL_ (some 11) rfl rfl Tryd.func12 (by kernel_rfl) rfl #[.agg #[.slice A0_0 l0_0.length c0_0, .slice A0_1 l0_1.length c0_1, .slice A0_2 l0_2.length c0_2]] rfl (by (try simp only [List.map_toArray, List.map_cons, List.map_nil]); first | done | rfl | (simp only [List.length_drop, List.length_take]; rfl)) ?_; (with_reducible refine (spec_StateOk.calls k _ _ l0_0 _ _ l0_1 _ _ l0_2 t251 _ ?side1 ?side2 ?side3 ?side4 ?side5 ?side6 A2.out).mono ?_); (case side1 => repeat (first | exact (Kd.C_below HR0_0.out HB.out) | (with_reducible refine Kd.C_alloc ?_ _) | (with_reducible refine Kd.C_drewN ?_ _) | (with_reducible refine Kd.C_drew ?_))); (case side2 => exact HC0_0.out); (case side3 => repeat (first | exact (Kd.C_below HR0_1.out HB.out) | (with_reducible refine Kd.C_alloc ?_ _) | (with_reducible refine Kd.C_drewN ?_ _) | (with_reducible refine Kd.C_drew ?_))); (case side4 => exact HC0_1.out); (case side5 => repeat (first | exact (Kd.C_below HR0_2.out HB.out) | (with_reducible refine Kd.C_alloc ?_ _) | (with_reducible refine Kd.C_drewN ?_ _) | (with_reducible refine Kd.C_drew ?_))); (case side6 => exact HC0_2.out); rintro e w6 ⟨rfl, hb⟩; refine ⟨_, rfl, ?_⟩; have n0_ := Aside0.mk (blk_below (g := gb250) (o := .cells #[.slice A0_0 l0_0.length c0_0, .slice A0_1 l0_1.length c0_1, .slice A0_2 l0_2.length c0_2] 30 (0, 0)) (by (with_reducible repeat (first | refine blk_drewN ?_ _ | refine blk_drew ?_ | refine blk_alloc ?_ _)); exact BK250.out) hb); have n1_ := Aside0.mk (below_step (by repeat (first | (with_reducible first | exact HB.out | apply below_alloc | apply pw_below_drewN | apply below_drew1 | refine below_set ?_ GE250.out) | exact HB.out)) hb); clear BK250; clear HB; have BK250 := n0_; have HB := n1_; clear n0_ n1_; (try clear hb); (try clear hb2); (try clear hk); (try clear hi); have hcz7_0 : w6.cell? ⟨gb250, 0, none⟩ = some (.slice A0_0 l0_0.length c0_0) := (blk_cell BK250.out 0).trans rfl; have hcz7_1 : w6.cell? ⟨gb250, 1, none⟩ = some (.slice A0_1 l0_1.length c0_1) := (blk_cell BK250.out 1).trans rfl; have hcz7_2 : w6.cell? ⟨gb250, 2, none⟩ = some (.slice A0_2 l0_2.length c0_2) := (blk_cell BK250.out 2).trans rfl; have hfz7_0 := blk_frozen BK250.out 0; have hfz7_1 := blk_frozen BK250.out 1; have hfz7_2 := blk_frozen BK250.out 2))
  go_loopg [3, 16] k (fun kq v3 v16 w' => ∃ (x3_1 : ByteArray) (x16_1 : Int), v3 = .string x3_1 ∧ v16 = .int .i64 x16_1 ∧ Aside0 (spec_Shown.l0 kq x3_1 l0_1 (l0_1.length : Int) x16_1 l0_0 l0_1 l0_2 = some r) ∧ Aside0 (kq ≤ k) ∧ Aside0 (w'.heap[gb250]? = some (.cells #[(.slice A0_0 l0_0.length c0_0), (.slice A0_1 l0_1.length c0_1), (.slice A0_2 l0_2.length c0_2)] 30 (0, 0))) ∧ Aside0 (Below w.heap.size w w'))
  case atStart => exact ⟨((⟨#[]⟩ : ByteArray)), (0), (by first | rfl | (simp; done) | (simp [*]; done)), (by first | rfl | (simp; done) | (simp [*]; done)), H', ⟨Nat.le_refl _⟩, ⟨by (with_reducible repeat (first | refine blk_drewN ?_ _ | refine blk_drew ?_ | refine blk_alloc ?_ _)); exact BK250.out⟩, ⟨by repeat (first | (with_reducible first | exact HB.out | apply below_alloc | apply pw_below_drewN | apply below_drew1 | refine below_set ?_ GE250.out) | exact HB.out)⟩⟩
  case round =>
   clear H'
   try clear c1
   try clear p2
   try clear c3
   try clear c3b0
   try clear c3b1
   try clear c6
   try clear hcz5_0
   try clear hcz5_1
   try clear hcz5_2
   try clear hcz7_0
   try clear hcz7_1
   try clear hcz7_2
   try clear hfz5_0
   try clear hfz5_1
   try clear hfz5_2
   try clear hfz7_0
   try clear hfz7_1
   try clear hfz7_2
   obtain ⟨x3_1, x16_1, rfl, rfl, HA, HK1, BK250, HB⟩ := hrel
   cases gk with
   | zero => exact absurd HA.out (by simp [spec_Shown.l0])
   | succ k1 =>
    have H := HA.out
    clear HA
    simp only [spec_Shown.l0] at H
    by_cases c8 : x16_1 < (l0_1.length : Int)
    ·rw [if_pos c8] at H
     have c8b0 : decide (x16_1 < (l0_1.length : Int)) = true := decide_eq_true c8
     clear c8
     by_cases c9 : 0 ≤ x16_1
     ·rw [if_pos c9] at H
      have c9b0 : decide (0 ≤ x16_1) = true := decide_eq_true c9
      clear c9
      by_cases c10 : x16_1 < (l0_1.length : Int)
      ·rw [if_pos c10] at H
       have c10b0 : decide (x16_1 < (l0_1.length : Int)) = true := decide_eq_true c10
       clear c10
       by_cases c11 : x16_1 < (l0_2.length : Int)
       ·rw [if_pos c11] at H
        have c11b0 : decide (x16_1 < (l0_2.length : Int)) = true := decide_eq_true c11
        clear c11
        replace H := Option.bind_eq_some_iff.mp H
        obtain ⟨t256, A120, H⟩ := H
        replace H : (if t256.size + 4 ≤ 9223372036854775807 then ((spec_l4decimal.f k1 ((rd_T48 l0_1 x16_1).f0)).bind fun t257 => (if (t256 ++ (⟨#[32, 97, 116, 32]⟩ : ByteArray)).size + t257.size ≤ 9223372036854775807 then (if x3_1.size + ((t256 ++ (⟨#[32, 97, 116, 32]⟩ : ByteArray)) ++ t257).size ≤ 9223372036854775807 then (spec_Shown.l1 k1 (x3_1 ++ ((t256 ++ (⟨#[32, 97, 116, 32]⟩ : ByteArray)) ++ t257)) x16_1 l0_1 (l0_1.length : Int) x16_1 ((rd_T48 l0_1 x16_1).f1) (((rd_T48 l0_1 x16_1).f1).length : Int) 0 l0_0 l0_1 l0_2) else (none)) else (none))) else (none)) = some r := H
        have A12 := Aside0.mk A120
        clear A120
        by_cases c13 : t256.size + 4 ≤ 9223372036854775807
        ·rw [if_pos c13] at H
         have c13b0 := eq_true c13
         have c13b1 : decide (t256.size + 4 ≤ 9223372036854775807) = true := decide_eq_true c13
         try have c13b2 : (9223372036854775807 < t256.size + 4) = False := eq_false (Nat.not_lt.2 c13)
         replace H := Option.bind_eq_some_iff.mp H
         obtain ⟨t257, A140, H⟩ := H
         replace H : (if (t256 ++ (⟨#[32, 97, 116, 32]⟩ : ByteArray)).size + t257.size ≤ 9223372036854775807 then (if x3_1.size + ((t256 ++ (⟨#[32, 97, 116, 32]⟩ : ByteArray)) ++ t257).size ≤ 9223372036854775807 then (spec_Shown.l1 k1 (x3_1 ++ ((t256 ++ (⟨#[32, 97, 116, 32]⟩ : ByteArray)) ++ t257)) x16_1 l0_1 (l0_1.length : Int) x16_1 ((rd_T48 l0_1 x16_1).f1) (((rd_T48 l0_1 x16_1).f1).length : Int) 0 l0_0 l0_1 l0_2) else (none)) else (none)) = some r := H
         have A14 := Aside0.mk A140
         clear A140
         by_cases c15 : (t256 ++ (⟨#[32, 97, 116, 32]⟩ : ByteArray)).size + t257.size ≤ 9223372036854775807
         ·rw [if_pos c15] at H
          have c15b0 := eq_true c15
          have c15b1 : decide ((t256 ++ (⟨#[32, 97, 116, 32]⟩ : ByteArray)).size + t257.size ≤ 9223372036854775807) = true := decide_eq_true c15
          try have c15b2 : (9223372036854775807 < (t256 ++ (⟨#[32, 97, 116, 32]⟩ : ByteArray)).size + t257.size) = False := eq_false (Nat.not_lt.2 c15)
          try (have c15b3 := c15b2; simp only [ByteArray.size_append, show (⟨#[32, 97, 116, 32]⟩ : ByteArray).size = 4 from rfl] at c15b3)
          by_cases c16 : x3_1.size + ((t256 ++ (⟨#[32, 97, 116, 32]⟩ : ByteArray)) ++ t257).size ≤ 9223372036854775807
          ·rw [if_pos c16] at H
           have c16b0 := eq_true c16
           have c16b1 : decide (x3_1.size + ((t256 ++ (⟨#[32, 97, 116, 32]⟩ : ByteArray)) ++ t257).size ≤ 9223372036854775807) = true := decide_eq_true c16
           try have c16b2 : (9223372036854775807 < x3_1.size + ((t256 ++ (⟨#[32, 97, 116, 32]⟩ : ByteArray)) ++ t257).size) = False := eq_false (Nat.not_lt.2 c16)
           try (have c16b3 := c16b2; simp only [ByteArray.size_append, show (⟨#[32, 97, 116, 32]⟩ : ByteArray).size = 4 from rfl] at c16b3)
           have H' := Aside0.mk H
           clear H
           have p253 : 0 ≤ (x16_1 : Int) := of_decide_eq_true (by assumption)
           have q253 : x16_1 < (l0_1.length : Int) := of_decide_eq_true (by assumption)
           obtain ⟨ad253, A253_1, c253_1, e253, hx253_0, hx253_1, hx253_2, hl253_1, hi253_1⟩ := at_T48 HR0_1.out x16_1 p253 q253
           cases e253
           replace hx253_0 := (HB.out.cell (World.block_lt_of_cell? w _ hx253_0)).trans hx253_0
           replace hx253_1 := (HB.out.cell (World.block_lt_of_cell? w _ hx253_1)).trans hx253_1
           replace hx253_2 := (HB.out.cell (World.block_lt_of_cell? w _ hx253_2)).trans hx253_2
           have HR253_1 := Aside0.mk hi253_1
           have HC253_1 := Aside0.mk hl253_1
           clear hi253_1 hl253_1
           replace p253 := eq_true p253
           replace q253 := eq_true q253
           try go_wp2_with (first | ((with_reducible refine gate_dst (N := 5) rfl ?_); refine box_event ?hg (N := 5) ?hd (cs := #[.int .i64 0, .slice none 0 0, .int .i64 0]) (t := 48) ?hr ?_; (case hd => rfl); (case hg => rfl); (case hr => first | (go_simp; done) | (go_simp; rfl)); intro gb254 hg w17 hbox hb; have n0_ := Aside0.mk (blk_below (g := gb250) (o := .cells #[.slice A0_0 l0_0.length c0_0, .slice (some ad253) l0_1.length c0_1, .slice A0_2 l0_2.length c0_2] 30 (0, 0)) (by (with_reducible repeat (first | refine blk_drewN ?_ _ | refine blk_drew ?_ | refine blk_alloc ?_ _)); exact BK250.out) hb); have n1_ := Aside0.mk (below_step (by repeat (first | (with_reducible first | exact HB.out | apply below_alloc | apply pw_below_drewN | apply below_drew1 | refine below_set ?_ GE250.out) | exact HB.out)) hb); have n2_ := Aside0.mk (hbox); have n3_ := Aside0.mk ((by rw [hg]; exact (below_size (by repeat (first | (with_reducible first | exact HB.out | apply below_alloc | apply pw_below_drewN | apply below_drew1 | refine below_set ?_ GE250.out) | exact HB.out))) : w.heap.size ≤ gb254)); have n4_ := Aside0.mk ((by rw [hg]; exact (below_size (by repeat (first | (with_reducible first | exact HB.out | apply below_alloc | apply pw_below_drewN | apply below_drew1 | refine below_set ?_ GE250.out) | exact HB.out))) : w.heap.size ≤ gb254)); have n5_ := Aside0.mk ((by rw [hg]; exact Nat.ne_of_lt (blk_lt (g := gb250) (o := .cells #[.slice A0_0 l0_0.length c0_0, .slice (some ad253) l0_1.length c0_1, .slice A0_2 l0_2.length c0_2] 30 (0, 0)) (by (with_reducible repeat (first | refine blk_drewN ?_ _ | refine blk_drew ?_ | refine blk_alloc ?_ _)); exact BK250.out)) : gb250 ≠ gb254)); have n6_ := Aside0.mk ((by rw [hg]; exact Nat.ne_of_gt (blk_lt (g := gb250) (o := .cells #[.slice A0_0 l0_0.length c0_0, .slice (some ad253) l0_1.length c0_1, .slice A0_2 l0_2.length c0_2] 30 (0, 0)) (by (with_reducible repeat (first | refine blk_drewN ?_ _ | refine blk_drew ?_ | refine blk_alloc ?_ _)); exact BK250.out)) : gb254 ≠ gb250)); clear BK250; clear HB; have BK250 := n0_; have HB := n1_; have BK254 := n2_; have GW254 := n3_; have GE254 := n4_; have NB250_254 := n5_; have NB254_250 := n6_; clear n0_ n1_ n2_ n3_ n4_ n5_ n6_; clear hb hbox hg; have hnb18 := NB254_250.out; have hnc18 := NB250_254.out; have hcz19_0 : w17.cell? ⟨gb254, 0, none⟩ = some (.int .i64 0) := (blk_cell BK254.out 0).trans rfl; have hcz19_1 : w17.cell? ⟨gb254, 1, none⟩ = some (.slice none 0 0) := (blk_cell BK254.out 1).trans rfl; have hcz19_2 : w17.cell? ⟨gb254, 2, none⟩ = some (.int .i64 0) := (blk_cell BK254.out 2).trans rfl; have hfz19_0 := blk_frozen BK254.out 0; have hfz19_1 := blk_frozen BK254.out 1; have hfz19_2 := blk_frozen BK254.out 2))
           have n0_ : Aside0 ((((w17.setCell ⟨gb254, 0, none⟩ (.int .i64 ((rd_T48 l0_1 x16_1).f0))).setCell ⟨gb254, 1, none⟩ (.slice A253_1 ((rd_T48 l0_1 x16_1).f1).length c253_1)).setCell ⟨gb254, 2, none⟩ (.int .i64 ((rd_T48 l0_1 x16_1).f2))).heap[gb250]? = some (.cells #[.slice A0_0 l0_0.length c0_0, .slice (some ad253) l0_1.length c0_1, .slice A0_2 l0_2.length c0_2] 30 (0, 0))) := ⟨by (with_reducible repeat (first | refine blk_drewN ?_ _ | refine blk_drew ?_ | refine blk_alloc ?_ _)); refine blk_far ?_ NB250_254.out _; (with_reducible repeat (first | refine blk_drewN ?_ _ | refine blk_drew ?_ | refine blk_alloc ?_ _)); refine blk_far ?_ NB250_254.out _; (with_reducible repeat (first | refine blk_drewN ?_ _ | refine blk_drew ?_ | refine blk_alloc ?_ _)); refine blk_far ?_ NB250_254.out _; (with_reducible repeat (first | refine blk_drewN ?_ _ | refine blk_drew ?_ | refine blk_alloc ?_ _)); exact BK250.out⟩
           have n1_ : Aside0 ((((w17.setCell ⟨gb254, 0, none⟩ (.int .i64 ((rd_T48 l0_1 x16_1).f0))).setCell ⟨gb254, 1, none⟩ (.slice A253_1 ((rd_T48 l0_1 x16_1).f1).length c253_1)).setCell ⟨gb254, 2, none⟩ (.int .i64 ((rd_T48 l0_1 x16_1).f2))).heap[gb254]? = some (.cells #[.int .i64 ((rd_T48 l0_1 x16_1).f0), .slice A253_1 ((rd_T48 l0_1 x16_1).f1).length c253_1, .int .i64 ((rd_T48 l0_1 x16_1).f2)] 48 (0, 0))) := ⟨by (with_reducible repeat (first | refine blk_drewN ?_ _ | refine blk_drew ?_ | refine blk_alloc ?_ _)); refine blk_put (cs := #[.int .i64 ((rd_T48 l0_1 x16_1).f0), .slice A253_1 ((rd_T48 l0_1 x16_1).f1).length c253_1, .int .i64 0]) ?_ 2 _ rfl; (with_reducible repeat (first | refine blk_drewN ?_ _ | refine blk_drew ?_ | refine blk_alloc ?_ _)); refine blk_put (cs := #[.int .i64 ((rd_T48 l0_1 x16_1).f0), .slice none 0 0, .int .i64 0]) ?_ 1 _ rfl; (with_reducible repeat (first | refine blk_drewN ?_ _ | refine blk_drew ?_ | refine blk_alloc ?_ _)); refine blk_put (cs := #[.int .i64 0, .slice none 0 0, .int .i64 0]) ?_ 0 _ rfl; (with_reducible repeat (first | refine blk_drewN ?_ _ | refine blk_drew ?_ | refine blk_alloc ?_ _)); exact BK254.out⟩
           have n2_ : Aside0 (Below w.heap.size w (((w17.setCell ⟨gb254, 0, none⟩ (.int .i64 ((rd_T48 l0_1 x16_1).f0))).setCell ⟨gb254, 1, none⟩ (.slice A253_1 ((rd_T48 l0_1 x16_1).f1).length c253_1)).setCell ⟨gb254, 2, none⟩ (.int .i64 ((rd_T48 l0_1 x16_1).f2)))) := ⟨by repeat (first | (with_reducible first | exact HB.out | apply below_alloc | apply pw_below_drewN | apply below_drew1 | refine below_set ?_ GE250.out | refine below_set ?_ GE254.out) | exact HB.out)⟩
           (try clear BK250)
           (try clear BK254)
           (try clear HB)
           generalize (((w17.setCell ⟨gb254, 0, none⟩ (.int .i64 ((rd_T48 l0_1 x16_1).f0))).setCell ⟨gb254, 1, none⟩ (.slice A253_1 ((rd_T48 l0_1 x16_1).f1).length c253_1)).setCell ⟨gb254, 2, none⟩ (.int .i64 ((rd_T48 l0_1 x16_1).f2))) = w20 at n0_ n1_ n2_ ⊢
           have BK250 := n0_
           have BK254 := n1_
           have HB := n2_
           clear n0_ n1_ n2_
           have n0_ := Aside0.mk (blk_drew BK250.out)
           have n1_ := Aside0.mk (blk_drew BK254.out)
           have n2_ := Aside0.mk (below_drew1 HB.out)
           clear BK250
           clear BK254
           clear HB
           have BK250 := n0_
           have BK254 := n1_
           have HB := n2_
           clear n0_ n1_ n2_
           have p255 : 0 ≤ (x16_1 : Int) := of_decide_eq_true (by assumption)
           have q255 : x16_1 < (l0_2.length : Int) := of_decide_eq_true (by assumption)
           obtain ⟨ad255, e255, hx255_0⟩ := Kd.at_int HR0_2.out x16_1 p255 q255
           have hw255_0 := hx255_0
           cases e255
           replace hx255_0 := (HB.out.cell (World.block_lt_of_cell? w _ hx255_0)).trans hx255_0
           replace p255 := eq_true p255
           replace q255 := eq_true q255
           refine start_ (n := 14) (S := fun w' => w'.cell? ⟨gb250, 0, none⟩ = some (.slice A0_0 l0_0.length c0_0) ∧ w'.cell? ⟨gb250, 1, none⟩ = some (.slice (some ad253) l0_1.length c0_1) ∧ w'.cell? ⟨gb250, 2, none⟩ = some (.slice (some ad255) l0_2.length c0_2) ∧ w'.cell? ⟨gb254, 0, none⟩ = some (.int .i64 ((rd_T48 l0_1 x16_1).f0)) ∧ w'.cell? ⟨gb254, 1, none⟩ = some (.slice A253_1 ((rd_T48 l0_1 x16_1).f1).length c253_1) ∧ w'.cell? ⟨gb254, 2, none⟩ = some (.int .i64 ((rd_T48 l0_1 x16_1).f2)) ∧ w'.cell? (ad255.add (x16_1).toNat) = some (.int .i64 (rd l0_2 x16_1))) (ds := []) #[false, false, false, false, false, false, false, false, false, false, false, false, false, false] (by kernel_rfl) rfl rfl ⟨(blk_cell BK250.out 0).trans rfl, (blk_cell BK250.out 1).trans rfl, (blk_cell BK250.out 2).trans rfl, (blk_cell BK254.out 0).trans rfl, (blk_cell BK254.out 1).trans rfl, (blk_cell BK254.out 2).trans rfl, ((HB.out.cell (World.block_lt_of_cell? w _ hw255_0)).trans hw255_0)⟩ (fun hHeld => ?_); refine with_tabW spec_Shown.tab7 spec_Shown.bits7 (fun HT_ HW_ => ?_)
           generalize w20.drew = w21 at BK250 BK254 HB hx255_0 hHeld ⊢
           refine pure_ (i := 0) (N := some 21) (v := ?_) (a' := ?_) #[true, false, false, false, false, false, false, false, false, false, false, false, false, false] rfl rfl (any_of HT_.out (by kernel_rfl)) (fun _ _ _ h => h) (Or.inl ⟨by rfl, ?_⟩) ?_ ?_
           rotate_left
           ·intro w'
            go_simp
            with_reducible rfl
           rotate_left
           ·simp only [Act.put, List.setIfInBounds_toArray, List.set_cons_zero, List.set_cons_succ, i64_w, i32_w]
            rfl
           refine pure_ (i := 1) (N := some 22) (v := ?_) (a' := ?_) #[true, true, false, false, false, false, false, false, false, false, false, false, false, false] rfl rfl (any_of HT_.out (by kernel_rfl)) (fun _ _ _ h => h) (Or.inl ⟨by rfl, ?_⟩) ?_ ?_
           rotate_left
           ·intro w'
            go_simp
            with_reducible rfl
           rotate_left
           ·simp only [Act.put, List.setIfInBounds_toArray, List.set_cons_zero, List.set_cons_succ, i64_w, i32_w]
            rfl
           refine pure_ (i := 3) (N := some 24) (v := ?_) (a' := ?_) #[true, true, false, true, false, false, false, false, false, false, false, false, false, false] rfl rfl (any_of HT_.out (by kernel_rfl)) (fun _ _ _ h => h) (Or.inl ⟨by rfl, ?_⟩) ?_ ?_
           rotate_left
           ·intro w'
            go_simp
            with_reducible rfl
           rotate_left
           ·simp only [Act.put, List.setIfInBounds_toArray, List.set_cons_zero, List.set_cons_succ, i64_w, i32_w]
            rfl
           refine pure_ (i := 8) (N := some 29) (v := ?_) (a' := ?_) #[true, true, false, true, false, false, false, false, true, false, false, false, false, false] rfl rfl (any_of HT_.out (by kernel_rfl)) (fun _ _ _ h => h) (Or.inl ⟨by rfl, ?_⟩) ?_ ?_
           rotate_left
           ·intro w'
            go_simp
            with_reducible rfl
           rotate_left
           ·simp only [Act.put, List.setIfInBounds_toArray, List.set_cons_zero, List.set_cons_succ, i64_w, i32_w]
            rfl
           refine take_ (i := 2) (N := some 23) (v := ?_) (a' := ?_) #[true, true, true, true, false, false, false, false, true, false, false, false, false, false] rfl rfl (take_ofW HT_.out HW_.out (by kernel_rfl)) (fun _ _ _ h => h) (Or.inl ⟨by rfl, ?_⟩) hHeld ?_ ?_
           rotate_left
           ·rintro w' ⟨s0, s1, s2, s3, s4, s5, s6⟩
            go_simp
            with_reducible rfl
           rotate_left
           ·simp only [Act.put, List.setIfInBounds_toArray, List.set_cons_zero, List.set_cons_succ, i64_w, i32_w]
            rfl
           refine pure_ (i := 4) (N := some 25) (v := ?_) (a' := ?_) #[true, true, true, true, true, false, false, false, true, false, false, false, false, false] rfl rfl (any_of HT_.out (by kernel_rfl)) (fun _ _ _ h => h) (Or.inl ⟨by rfl, ?_⟩) ?_ ?_
           rotate_left
           ·intro w'
            go_simp
            with_reducible rfl
           rotate_left
           ·simp only [Act.put, List.setIfInBounds_toArray, List.set_cons_zero, List.set_cons_succ, i64_w, i32_w]
            rfl
           refine take_ (i := 5) (N := some 26) (v := ?_) (a' := ?_) #[true, true, true, true, true, true, false, false, true, false, false, false, false, false] rfl rfl (take_ofW HT_.out HW_.out (by kernel_rfl)) (fun _ _ _ h => h) (Or.inl ⟨by rfl, ?_⟩) hHeld ?_ ?_
           rotate_left
           ·rintro w' ⟨s0, s1, s2, s3, s4, s5, s6⟩
            go_simp
            with_reducible rfl
           rotate_left
           ·simp only [Act.put, List.setIfInBounds_toArray, List.set_cons_zero, List.set_cons_succ, i64_w, i32_w]
            rfl
           refine take_ (i := 9) (N := some 30) (v := ?_) (a' := ?_) #[true, true, true, true, true, true, false, false, true, true, false, false, false, false] rfl rfl (take_ofW HT_.out HW_.out (by kernel_rfl)) (fun _ _ _ h => h) (Or.inl ⟨by rfl, ?_⟩) hHeld ?_ ?_
           rotate_left
           ·rintro w' ⟨s0, s1, s2, s3, s4, s5, s6⟩
            go_simp
            with_reducible rfl
           rotate_left
           ·simp only [Act.put, List.setIfInBounds_toArray, List.set_cons_zero, List.set_cons_succ, i64_w, i32_w]
            rfl
           refine one_ (i := 6) (N := some 27) #[true, true, true, true, true, true, true, false, true, true, false, false, false, false] rfl rfl (one_of HT_.out (by kernel_rfl)) (by decide) (fun K hK => ?_)
           refine goes_ Tryd.func21 (by kernel_rfl) rfl #[.int .i64 (rd l0_2 x16_1)] (by rfl) rfl rfl (by (try simp only [List.map_toArray, List.map_cons, List.map_nil]); first | done | rfl | (simp only [List.length_drop, List.length_take]; rfl)) ?_
           with_reducible refine (spec_l4decimal.calls k1 (rd l0_2 x16_1) t256 _ A12.out).mono ?_
           rintro e w22 ⟨rfl, hb⟩
           refine ⟨_, rfl, ?_⟩
           have n0_ := Aside0.mk (blk_below (g := gb250) (o := .cells #[.slice A0_0 l0_0.length c0_0, .slice (some ad253) l0_1.length c0_1, .slice (some ad255) l0_2.length c0_2] 30 (0, 0)) (by (with_reducible repeat (first | refine blk_drewN ?_ _ | refine blk_drew ?_ | refine blk_alloc ?_ _)); exact BK250.out) hb)
           have n1_ := Aside0.mk (blk_below (g := gb254) (o := .cells #[.int .i64 ((rd_T48 l0_1 x16_1).f0), .slice A253_1 ((rd_T48 l0_1 x16_1).f1).length c253_1, .int .i64 ((rd_T48 l0_1 x16_1).f2)] 48 (0, 0)) (by (with_reducible repeat (first | refine blk_drewN ?_ _ | refine blk_drew ?_ | refine blk_alloc ?_ _)); exact BK254.out) hb)
           have n2_ := Aside0.mk (below_step (by repeat (first | (with_reducible first | exact HB.out | apply below_alloc | apply pw_below_drewN | apply below_drew1 | refine below_set ?_ GE250.out | refine below_set ?_ GE254.out) | exact HB.out)) hb)
           clear BK250
           clear BK254
           clear HB
           have BK250 := n0_
           have BK254 := n1_
           have HB := n2_
           clear n0_ n1_ n2_
           (try clear hb)
           (try clear hb2)
           (try clear hk)
           (try clear hi)
           refine hK.out _ _ ⟨(blk_cell BK250.out 0).trans rfl, (blk_cell BK250.out 1).trans rfl, (blk_cell BK250.out 2).trans rfl, (blk_cell BK254.out 0).trans rfl, (blk_cell BK254.out 1).trans rfl, (blk_cell BK254.out 2).trans rfl, ((HB.out.cell (World.block_lt_of_cell? w _ hw255_0)).trans hw255_0)⟩ (fun hHeld => ?_)
           clear hK K
           refine norm_ (a' := ?_) ?_ ?_
           rotate_left
           ·show Act.put _ (some 27) _ = _
            simp only [Act.put, List.setIfInBounds_toArray, List.set_cons_zero, List.set_cons_succ, i64_w, i32_w]
            rfl
           refine pure_ (i := 7) (N := some 28) (v := ?_) (a' := ?_) #[true, true, true, true, true, true, true, true, true, true, false, false, false, false] rfl rfl (any_of HT_.out (by kernel_rfl)) (fun _ _ _ h => h) (Or.inl ⟨by rfl, ?_⟩) ?_ ?_
           rotate_left
           ·intro w'
            go_simp
            with_reducible rfl
           rotate_left
           ·simp only [Act.put, List.setIfInBounds_toArray, List.set_cons_zero, List.set_cons_succ, i64_w, i32_w]
            rfl
           refine one_ (i := 10) (N := some 31) #[true, true, true, true, true, true, true, true, true, true, true, false, false, false] rfl rfl (one_of HT_.out (by kernel_rfl)) (by decide) (fun K hK => ?_)
           refine goes_ Tryd.func21 (by kernel_rfl) rfl #[.int .i64 ((rd_T48 l0_1 x16_1).f0)] (by rfl) rfl rfl (by (try simp only [List.map_toArray, List.map_cons, List.map_nil]); first | done | rfl | (simp only [List.length_drop, List.length_take]; rfl)) ?_
           with_reducible refine (spec_l4decimal.calls k1 ((rd_T48 l0_1 x16_1).f0) t257 _ A14.out).mono ?_
           rintro e w23 ⟨rfl, hb⟩
           refine ⟨_, rfl, ?_⟩
           have n0_ := Aside0.mk (blk_below (g := gb250) (o := .cells #[.slice A0_0 l0_0.length c0_0, .slice (some ad253) l0_1.length c0_1, .slice (some ad255) l0_2.length c0_2] 30 (0, 0)) (by (with_reducible repeat (first | refine blk_drewN ?_ _ | refine blk_drew ?_ | refine blk_alloc ?_ _)); exact BK250.out) hb)
           have n1_ := Aside0.mk (blk_below (g := gb254) (o := .cells #[.int .i64 ((rd_T48 l0_1 x16_1).f0), .slice A253_1 ((rd_T48 l0_1 x16_1).f1).length c253_1, .int .i64 ((rd_T48 l0_1 x16_1).f2)] 48 (0, 0)) (by (with_reducible repeat (first | refine blk_drewN ?_ _ | refine blk_drew ?_ | refine blk_alloc ?_ _)); exact BK254.out) hb)
           have n2_ := Aside0.mk (below_step (by repeat (first | (with_reducible first | exact HB.out | apply below_alloc | apply pw_below_drewN | apply below_drew1 | refine below_set ?_ GE250.out | refine below_set ?_ GE254.out) | exact HB.out)) hb)
           clear BK250
           clear BK254
           clear HB
           have BK250 := n0_
           have BK254 := n1_
           have HB := n2_
           clear n0_ n1_ n2_
           (try clear hb)
           (try clear hb2)
           (try clear hk)
           (try clear hi)
           refine hK.out _ _ ⟨(blk_cell BK250.out 0).trans rfl, (blk_cell BK250.out 1).trans rfl, (blk_cell BK250.out 2).trans rfl, (blk_cell BK254.out 0).trans rfl, (blk_cell BK254.out 1).trans rfl, (blk_cell BK254.out 2).trans rfl, ((HB.out.cell (World.block_lt_of_cell? w _ hw255_0)).trans hw255_0)⟩ (fun hHeld => ?_)
           clear hK K
           refine norm_ (a' := ?_) ?_ ?_
           rotate_left
           ·show Act.put _ (some 31) _ = _
            simp only [Act.put, List.setIfInBounds_toArray, List.set_cons_zero, List.set_cons_succ, i64_w, i32_w]
            rfl
           refine pure_ (i := 11) (N := some 32) (v := ?_) (a' := ?_) #[true, true, true, true, true, true, true, true, true, true, true, true, false, false] rfl rfl (any_of HT_.out (by kernel_rfl)) (fun _ _ _ h => h) (Or.inl ⟨by rfl, ?_⟩) ?_ ?_
           rotate_left
           ·intro w'
            go_simp
            with_reducible rfl
           rotate_left
           ·simp only [Act.put, List.setIfInBounds_toArray, List.set_cons_zero, List.set_cons_succ, i64_w, i32_w]
            rfl
           refine pure_ (i := 12) (N := some 33) (v := ?_) (a' := ?_) #[true, true, true, true, true, true, true, true, true, true, true, true, true, false] rfl rfl (any_of HT_.out (by kernel_rfl)) (fun _ _ _ h => h) (Or.inl ⟨by rfl, ?_⟩) ?_ ?_
           rotate_left
           ·intro w'
            go_simp
            with_reducible rfl
           rotate_left
           ·simp only [Act.put, List.setIfInBounds_toArray, List.set_cons_zero, List.set_cons_succ, i64_w, i32_w]
            rfl
           refine pure_ (i := 13) (N := some 3) (v := ?_) (a' := ?_) #[true, true, true, true, true, true, true, true, true, true, true, true, true, true] rfl rfl (any_of HT_.out (by kernel_rfl)) (fun _ _ _ h => h) (Or.inl ⟨by rfl, ?_⟩) ?_ ?_
           rotate_left
           ·intro w'
            go_simp
            with_reducible rfl
           rotate_left
           ·simp only [Act.put, List.setIfInBounds_toArray, List.set_cons_zero, List.set_cons_succ, i64_w, i32_w]
            rfl
           refine done_ (done_of HT_.out (by kernel_rfl)) ?_
           have hcz24_0 : w23.cell? ⟨gb254, 0, none⟩ = some (.int .i64 ((rd_T48 l0_1 x16_1).f0)) := (blk_cell BK254.out 0).trans rfl
           have hcz24_1 : w23.cell? ⟨gb254, 1, none⟩ = some (.slice A253_1 ((rd_T48 l0_1 x16_1).f1).length c253_1) := (blk_cell BK254.out 1).trans rfl
           have hcz24_2 : w23.cell? ⟨gb254, 2, none⟩ = some (.int .i64 ((rd_T48 l0_1 x16_1).f2)) := (blk_cell BK254.out 2).trans rfl
           have hfz24_0 := blk_frozen BK254.out 0
           have hfz24_1 := blk_frozen BK254.out 1
           have hfz24_2 := blk_frozen BK254.out 2
           try go_wp2
           go_loopg [3, 37] k1 (fun kq v3 v37 w' => ∃ (x3_2 : ByteArray) (x37_2 : Int), v3 = .string x3_2 ∧ v37 = .int .i64 x37_2 ∧ Aside0 (spec_Shown.l1 kq x3_2 x16_1 l0_1 (l0_1.length : Int) x16_1 ((rd_T48 l0_1 x16_1).f1) (((rd_T48 l0_1 x16_1).f1).length : Int) x37_2 l0_0 l0_1 l0_2 = some r) ∧ Aside0 (kq ≤ k1) ∧ Aside0 (w'.heap[gb250]? = some (.cells #[(.slice A0_0 l0_0.length c0_0), (.slice (some ad253) l0_1.length c0_1), (.slice (some ad255) l0_2.length c0_2)] 30 (0, 0))) ∧ Aside0 (w'.heap[gb254]? = some (.cells #[.int .i64 ((rd_T48 l0_1 x16_1).f0), (.slice A253_1 ((rd_T48 l0_1 x16_1).f1).length c253_1), .int .i64 ((rd_T48 l0_1 x16_1).f2)] 48 (0, 0))) ∧ Aside0 (Below w.heap.size w w'))
           case atStart => exact ⟨(x3_1 ++ ((t256 ++ (⟨#[32, 97, 116, 32]⟩ : ByteArray)) ++ t257)), (0), (by first | rfl | (simp; done) | (simp [*]; done)), (by first | rfl | (simp; done) | (simp [*]; done)), H', ⟨Nat.le_refl _⟩, ⟨by (with_reducible repeat (first | refine blk_drewN ?_ _ | refine blk_drew ?_ | refine blk_alloc ?_ _)); exact BK250.out⟩, ⟨by (with_reducible repeat (first | refine blk_drewN ?_ _ | refine blk_drew ?_ | refine blk_alloc ?_ _)); exact BK254.out⟩, ⟨by repeat (first | (with_reducible first | exact HB.out | apply below_alloc | apply pw_below_drewN | apply below_drew1 | refine below_set ?_ GE250.out | refine below_set ?_ GE254.out) | exact HB.out)⟩⟩
           case round =>
            clear H'
            try clear c1
            try clear c2
            try clear p2
            try clear q2
            try clear hx2
            try clear c3
            try clear c3b0
            try clear c3b1
            try clear c6
            try clear c8
            try clear c8b0
            try clear c9
            try clear c9b0
            try clear c10
            try clear c10b0
            try clear c11
            try clear c11b0
            try clear c12
            try clear c13
            try clear c13b0
            try clear c13b1
            try clear c13b2
            try clear c15
            try clear c15b0
            try clear c15b1
            try clear c15b2
            try clear c16
            try clear c16b0
            try clear c16b1
            try clear c16b2
            try clear c18
            try clear c21
            try clear hcz19_0
            try clear hcz19_1
            try clear hcz19_2
            try clear hcz24_0
            try clear hcz24_1
            try clear hcz24_2
            try clear hcz5_0
            try clear hcz5_1
            try clear hcz5_2
            try clear hcz7_0
            try clear hcz7_1
            try clear hcz7_2
            try clear hfz19_0
            try clear hfz19_1
            try clear hfz19_2
            try clear hfz24_0
            try clear hfz24_1
            try clear hfz24_2
            try clear hfz5_0
            try clear hfz5_1
            try clear hfz5_2
            try clear hfz7_0
            try clear hfz7_1
            try clear hfz7_2
            try clear hx253_0
            try clear hx253_1
            try clear hx253_2
            try clear hx255_0
            try clear p2
            try clear p253
            try clear p255
            try clear q253
            try clear q255
            obtain ⟨x3_2, x37_2, rfl, rfl, HA, HK2, BK250, BK254, HB⟩ := hrel
            cases gk with
            | zero => exact absurd HA.out (by simp [spec_Shown.l1])
            | succ k2 =>
             have H := HA.out
             clear HA
             simp only [spec_Shown.l1] at H
             by_cases c25 : x37_2 < (((rd_T48 l0_1 x16_1).f1).length : Int)
             ·rw [if_pos c25] at H
              have c25b0 : decide (x37_2 < (((rd_T48 l0_1 x16_1).f1).length : Int)) = true := decide_eq_true c25
              clear c25
              by_cases c26 : 0 ≤ x37_2
              ·rw [if_pos c26] at H
               have c26b0 : decide (0 ≤ x37_2) = true := decide_eq_true c26
               clear c26
               by_cases c27 : x37_2 < (((rd_T48 l0_1 x16_1).f1).length : Int)
               ·rw [if_pos c27] at H
                have c27b0 : decide (x37_2 < (((rd_T48 l0_1 x16_1).f1).length : Int)) = true := decide_eq_true c27
                clear c27
                replace H := Option.bind_eq_some_iff.mp H
                obtain ⟨t259, A280, H⟩ := H
                replace H : (if 1 + t259.size ≤ 9223372036854775807 then (if x3_2.size + ((⟨#[32]⟩ : ByteArray) ++ t259).size ≤ 9223372036854775807 then (spec_Shown.l1 k2 (x3_2 ++ ((⟨#[32]⟩ : ByteArray) ++ t259)) x16_1 l0_1 (l0_1.length : Int) x16_1 ((rd_T48 l0_1 x16_1).f1) (((rd_T48 l0_1 x16_1).f1).length : Int) (wrap64 (x37_2 + 1)) l0_0 l0_1 l0_2) else (none)) else (none)) = some r := H
                have A28 := Aside0.mk A280
                clear A280
                by_cases c29 : 1 + t259.size ≤ 9223372036854775807
                ·rw [if_pos c29] at H
                 have c29b0 := eq_true c29
                 have c29b1 : decide (1 + t259.size ≤ 9223372036854775807) = true := decide_eq_true c29
                 try have c29b2 : (9223372036854775807 < 1 + t259.size) = False := eq_false (Nat.not_lt.2 c29)
                 by_cases c30 : x3_2.size + ((⟨#[32]⟩ : ByteArray) ++ t259).size ≤ 9223372036854775807
                 ·rw [if_pos c30] at H
                  have c30b0 := eq_true c30
                  have c30b1 : decide (x3_2.size + ((⟨#[32]⟩ : ByteArray) ++ t259).size ≤ 9223372036854775807) = true := decide_eq_true c30
                  try have c30b2 : (9223372036854775807 < x3_2.size + ((⟨#[32]⟩ : ByteArray) ++ t259).size) = False := eq_false (Nat.not_lt.2 c30)
                  try (have c30b3 := c30b2; simp only [ByteArray.size_append, show (⟨#[32]⟩ : ByteArray).size = 1 from rfl] at c30b3)
                  have H' := Aside0.mk H
                  clear H
                  have p258 : 0 ≤ (x37_2 : Int) := of_decide_eq_true (by assumption)
                  have q258 : x37_2 < (((rd_T48 l0_1 x16_1).f1).length : Int) := of_decide_eq_true (by assumption)
                  obtain ⟨ad258, e258, hx258_0⟩ := Kd.at_int HR253_1.out x37_2 p258 q258
                  cases e258
                  replace hx258_0 := (HB.out.cell (World.block_lt_of_cell? w _ hx258_0)).trans hx258_0
                  replace p258 := eq_true p258
                  replace q258 := eq_true q258
                  go_wp2_with (first | ((with_reducible refine gate_callee (f := 21) rfl ?_); refine goesL_ (some 43) rfl rfl Tryd.func21 (by kernel_rfl) rfl #[.int .i64 (rd ((rd_T48 l0_1 x16_1).f1) x37_2)] rfl (by (try simp only [List.map_toArray, List.map_cons, List.map_nil]); first | done | rfl | (simp only [List.length_drop, List.length_take]; rfl)) ?_; (with_reducible refine (spec_l4decimal.calls k2 (rd ((rd_T48 l0_1 x16_1).f1) x37_2) t259 _ A28.out).mono ?_); rintro e w31 ⟨rfl, hb⟩; refine ⟨_, rfl, ?_⟩; have n0_ := Aside0.mk (blk_below (g := gb250) (o := .cells #[.slice A0_0 l0_0.length c0_0, .slice (some ad253) l0_1.length c0_1, .slice (some ad255) l0_2.length c0_2] 30 (0, 0)) (by (with_reducible repeat (first | refine blk_drewN ?_ _ | refine blk_drew ?_ | refine blk_alloc ?_ _)); exact BK250.out) hb); have n1_ := Aside0.mk (blk_below (g := gb254) (o := .cells #[.int .i64 ((rd_T48 l0_1 x16_1).f0), .slice (some ad258) ((rd_T48 l0_1 x16_1).f1).length c253_1, .int .i64 ((rd_T48 l0_1 x16_1).f2)] 48 (0, 0)) (by (with_reducible repeat (first | refine blk_drewN ?_ _ | refine blk_drew ?_ | refine blk_alloc ?_ _)); exact BK254.out) hb); have n2_ := Aside0.mk (below_step (by repeat (first | (with_reducible first | exact HB.out | apply below_alloc | apply pw_below_drewN | apply below_drew1 | refine below_set ?_ GE250.out | refine below_set ?_ GE254.out) | exact HB.out)) hb); clear BK250; clear BK254; clear HB; have BK250 := n0_; have BK254 := n1_; have HB := n2_; clear n0_ n1_ n2_; (try clear hb); (try clear hb2); (try clear hk); (try clear hi)))
                  go_roundg k2
                  case measure => have := HK1.out; have := HK2.out; omega
                  case rel => exact ⟨(x3_2 ++ ((⟨#[32]⟩ : ByteArray) ++ t259)), (wrap64 (x37_2 + 1)), (by first | rfl | (simp; done) | (simp [*]; done)), (by first | rfl | (simp; done) | (simp [*]; done)), H', ⟨by have := HK1.out; have := HK2.out; omega⟩, ⟨by (with_reducible repeat (first | refine blk_drewN ?_ _ | refine blk_drew ?_ | refine blk_alloc ?_ _)); exact BK250.out⟩, ⟨by (with_reducible repeat (first | refine blk_drewN ?_ _ | refine blk_drew ?_ | refine blk_alloc ?_ _)); exact BK254.out⟩, ⟨by repeat (first | (with_reducible first | exact HB.out | apply below_alloc | apply pw_below_drewN | apply below_drew1 | refine below_set ?_ GE250.out | refine below_set ?_ GE254.out) | exact HB.out)⟩⟩
                 ·rw [if_neg c30] at H
                  exact absurd H (by simp)
                ·rw [if_neg c29] at H
                 exact absurd H (by simp)
               ·rw [if_neg c27] at H
                exact absurd H (by simp)
              ·rw [if_neg c26] at H
               exact absurd H (by simp)
             ·rw [if_neg c25] at H
              have c25b0 : decide (x37_2 < (((rd_T48 l0_1 x16_1).f1).length : Int)) = false := decide_eq_false c25
              clear c25
              replace H := Option.bind_eq_some_iff.mp H
              obtain ⟨t260, A320, H⟩ := H
              replace H : (if t260 = true then (if x3_2.size + 1 ≤ 9223372036854775807 then (spec_Shown.l0 k2 (x3_2 ++ (⟨#[10]⟩ : ByteArray)) l0_1 (l0_1.length : Int) (wrap64 (x16_1 + 1)) l0_0 l0_1 l0_2) else (none)) else (if x3_2.size + 10 ≤ 9223372036854775807 then (if 0 ≤ x16_1 then (if x16_1 < (l0_2.length : Int) then ((spec_Waits.f k2 l0_0 l0_1 l0_2 (rd l0_2 x16_1)).bind fun t262 => (spec_Shown.l2 k2 (x3_2 ++ (⟨#[32, 119, 97, 105, 116, 115, 32, 102, 111, 114]⟩ : ByteArray)) l0_1 (l0_1.length : Int) x16_1 t262 (t262.length : Int) 0 l0_0 l0_1 l0_2)) else (none)) else (none)) else (none))) = some r := H
              have A32 := Aside0.mk A320
              clear A320
              by_cases c33 : t260 = true
              ·subst c33
               have H1 : (if x3_2.size + 1 ≤ 9223372036854775807 then (spec_Shown.l0 k2 (x3_2 ++ (⟨#[10]⟩ : ByteArray)) l0_1 (l0_1.length : Int) (wrap64 (x16_1 + 1)) l0_0 l0_1 l0_2) else (none)) = some r := by rw [if_pos rfl] at H; exact H
               clear H
               have H := H1
               clear H1
               by_cases c34 : x3_2.size + 1 ≤ 9223372036854775807
               ·rw [if_pos c34] at H
                have c34b0 := eq_true c34
                have c34b1 : decide (x3_2.size + 1 ≤ 9223372036854775807) = true := decide_eq_true c34
                try have c34b2 : (9223372036854775807 < x3_2.size + 1) = False := eq_false (Nat.not_lt.2 c34)
                have H' := Aside0.mk H
                clear H
                have hnb35 := NB250_254.out
                have hnc35 := NB254_250.out
                have hcz36_0 : wr.cell? ⟨gb250, 0, none⟩ = some (.slice A0_0 l0_0.length c0_0) := (blk_cell BK250.out 0).trans rfl
                have hcz36_1 : wr.cell? ⟨gb250, 1, none⟩ = some (.slice (some ad253) l0_1.length c0_1) := (blk_cell BK250.out 1).trans rfl
                have hcz36_2 : wr.cell? ⟨gb250, 2, none⟩ = some (.slice (some ad255) l0_2.length c0_2) := (blk_cell BK250.out 2).trans rfl
                have hfz36_0 := blk_frozen BK250.out 0
                have hfz36_1 := blk_frozen BK250.out 1
                have hfz36_2 := blk_frozen BK250.out 2
                go_wp2_with (first | ((with_reducible refine gate_callee (f := 22) rfl ?_); refine goesL_ (some 49) rfl rfl Tryd.func22 (by kernel_rfl) rfl #[.agg #[.slice A0_0 l0_0.length c0_0, .slice (some ad253) l0_1.length c0_1, .slice (some ad255) l0_2.length c0_2], .int .i64 x16_1] rfl (by (try simp only [List.map_toArray, List.map_cons, List.map_nil]); first | done | rfl | (simp only [List.length_drop, List.length_take]; rfl)) ?_; (with_reducible refine (spec_l1can.calls k2 _ _ l0_0 _ _ l0_1 _ _ l0_2 x16_1 true _ ?side1 ?side2 ?side3 ?side4 ?side5 ?side6 A32.out).mono ?_); (case side1 => repeat (first | exact (Kd.C_below HR0_0.out HB.out) | (with_reducible refine Kd.C_alloc ?_ _) | (with_reducible refine Kd.C_drewN ?_ _) | (with_reducible refine Kd.C_drew ?_))); (case side2 => exact HC0_0.out); (case side3 => repeat (first | exact (Kd.C_below HR0_1.out HB.out) | (with_reducible refine Kd.C_alloc ?_ _) | (with_reducible refine Kd.C_drewN ?_ _) | (with_reducible refine Kd.C_drew ?_))); (case side4 => exact HC0_1.out); (case side5 => repeat (first | exact (Kd.C_below HR0_2.out HB.out) | (with_reducible refine Kd.C_alloc ?_ _) | (with_reducible refine Kd.C_drewN ?_ _) | (with_reducible refine Kd.C_drew ?_))); (case side6 => exact HC0_2.out); rintro e w37 ⟨rfl, hb⟩; refine ⟨_, rfl, ?_⟩; have n0_ := Aside0.mk (blk_below (g := gb250) (o := .cells #[.slice A0_0 l0_0.length c0_0, .slice (some ad253) l0_1.length c0_1, .slice (some ad255) l0_2.length c0_2] 30 (0, 0)) (by (with_reducible repeat (first | refine blk_drewN ?_ _ | refine blk_drew ?_ | refine blk_alloc ?_ _)); exact BK250.out) hb); have n1_ := Aside0.mk (blk_below (g := gb254) (o := .cells #[.int .i64 ((rd_T48 l0_1 x16_1).f0), .slice A253_1 ((rd_T48 l0_1 x16_1).f1).length c253_1, .int .i64 ((rd_T48 l0_1 x16_1).f2)] 48 (0, 0)) (by (with_reducible repeat (first | refine blk_drewN ?_ _ | refine blk_drew ?_ | refine blk_alloc ?_ _)); exact BK254.out) hb); have n2_ := Aside0.mk (below_step (by repeat (first | (with_reducible first | exact HB.out | apply below_alloc | apply pw_below_drewN | apply below_drew1 | refine below_set ?_ GE250.out | refine below_set ?_ GE254.out) | exact HB.out)) hb); clear BK250; clear BK254; clear HB; have BK250 := n0_; have BK254 := n1_; have HB := n2_; clear n0_ n1_ n2_; (try clear hb); (try clear hb2); (try clear hk); (try clear hi)))
                go_roundg k2
                case measure => have := HK1.out; have := HK2.out; omega
                case rel => exact ⟨(x3_2 ++ (⟨#[10]⟩ : ByteArray)), (wrap64 (x16_1 + 1)), (by first | rfl | (simp; done) | (simp [*]; done)), (by first | rfl | (simp; done) | (simp [*]; done)), H', ⟨by have := HK1.out; have := HK2.out; omega⟩, ⟨by (with_reducible repeat (first | refine blk_drewN ?_ _ | refine blk_drew ?_ | refine blk_alloc ?_ _)); exact BK250.out⟩, ⟨by repeat (first | (with_reducible first | exact HB.out | apply below_alloc | apply pw_below_drewN | apply below_drew1 | refine below_set ?_ GE250.out | refine below_set ?_ GE254.out) | exact HB.out)⟩⟩
               ·rw [if_neg c34] at H
                exact absurd H (by simp)
              ·replace c33 := Bool.eq_false_iff.mpr c33
               subst c33
               have H1 : (if x3_2.size + 10 ≤ 9223372036854775807 then (if 0 ≤ x16_1 then (if x16_1 < (l0_2.length : Int) then ((spec_Waits.f k2 l0_0 l0_1 l0_2 (rd l0_2 x16_1)).bind fun t262 => (spec_Shown.l2 k2 (x3_2 ++ (⟨#[32, 119, 97, 105, 116, 115, 32, 102, 111, 114]⟩ : ByteArray)) l0_1 (l0_1.length : Int) x16_1 t262 (t262.length : Int) 0 l0_0 l0_1 l0_2)) else (none)) else (none)) else (none)) = some r := by rw [if_neg (show ¬ (false = true) by decide)] at H; exact H
               clear H
               have H := H1
               clear H1
               by_cases c38 : x3_2.size + 10 ≤ 9223372036854775807
               ·rw [if_pos c38] at H
                have c38b0 := eq_true c38
                have c38b1 : decide (x3_2.size + 10 ≤ 9223372036854775807) = true := decide_eq_true c38
                try have c38b2 : (9223372036854775807 < x3_2.size + 10) = False := eq_false (Nat.not_lt.2 c38)
                by_cases c39 : 0 ≤ x16_1
                ·rw [if_pos c39] at H
                 have c39b0 : decide (0 ≤ x16_1) = true := decide_eq_true c39
                 clear c39
                 by_cases c40 : x16_1 < (l0_2.length : Int)
                 ·rw [if_pos c40] at H
                  have c40b0 : decide (x16_1 < (l0_2.length : Int)) = true := decide_eq_true c40
                  clear c40
                  replace H := Option.bind_eq_some_iff.mp H
                  obtain ⟨t262, A410, H⟩ := H
                  replace H : (spec_Shown.l2 k2 (x3_2 ++ (⟨#[32, 119, 97, 105, 116, 115, 32, 102, 111, 114]⟩ : ByteArray)) l0_1 (l0_1.length : Int) x16_1 t262 (t262.length : Int) 0 l0_0 l0_1 l0_2) = some r := H
                  have A41 := Aside0.mk A410
                  clear A410
                  have H' := Aside0.mk H
                  clear H
                  have hnb42 := NB250_254.out
                  have hnc42 := NB254_250.out
                  have hcz43_0 : wr.cell? ⟨gb250, 0, none⟩ = some (.slice A0_0 l0_0.length c0_0) := (blk_cell BK250.out 0).trans rfl
                  have hcz43_1 : wr.cell? ⟨gb250, 1, none⟩ = some (.slice (some ad253) l0_1.length c0_1) := (blk_cell BK250.out 1).trans rfl
                  have hcz43_2 : wr.cell? ⟨gb250, 2, none⟩ = some (.slice (some ad255) l0_2.length c0_2) := (blk_cell BK250.out 2).trans rfl
                  have hfz43_0 := blk_frozen BK250.out 0
                  have hfz43_1 := blk_frozen BK250.out 1
                  have hfz43_2 := blk_frozen BK250.out 2
                  try go_wp2_with (first | ((with_reducible refine gate_callee (f := 22) rfl ?_); refine goesL_ (some 49) rfl rfl Tryd.func22 (by kernel_rfl) rfl #[.agg #[.slice A0_0 l0_0.length c0_0, .slice (some ad253) l0_1.length c0_1, .slice (some ad255) l0_2.length c0_2], .int .i64 x16_1] rfl (by (try simp only [List.map_toArray, List.map_cons, List.map_nil]); first | done | rfl | (simp only [List.length_drop, List.length_take]; rfl)) ?_; (with_reducible refine (spec_l1can.calls k2 _ _ l0_0 _ _ l0_1 _ _ l0_2 x16_1 false _ ?side1 ?side2 ?side3 ?side4 ?side5 ?side6 A32.out).mono ?_); (case side1 => repeat (first | exact (Kd.C_below HR0_0.out HB.out) | (with_reducible refine Kd.C_alloc ?_ _) | (with_reducible refine Kd.C_drewN ?_ _) | (with_reducible refine Kd.C_drew ?_))); (case side2 => exact HC0_0.out); (case side3 => repeat (first | exact (Kd.C_below HR0_1.out HB.out) | (with_reducible refine Kd.C_alloc ?_ _) | (with_reducible refine Kd.C_drewN ?_ _) | (with_reducible refine Kd.C_drew ?_))); (case side4 => exact HC0_1.out); (case side5 => repeat (first | exact (Kd.C_below HR0_2.out HB.out) | (with_reducible refine Kd.C_alloc ?_ _) | (with_reducible refine Kd.C_drewN ?_ _) | (with_reducible refine Kd.C_drew ?_))); (case side6 => exact HC0_2.out); rintro e w44 ⟨rfl, hb⟩; refine ⟨_, rfl, ?_⟩; have n0_ := Aside0.mk (blk_below (g := gb250) (o := .cells #[.slice A0_0 l0_0.length c0_0, .slice (some ad253) l0_1.length c0_1, .slice (some ad255) l0_2.length c0_2] 30 (0, 0)) (by (with_reducible repeat (first | refine blk_drewN ?_ _ | refine blk_drew ?_ | refine blk_alloc ?_ _)); exact BK250.out) hb); have n1_ := Aside0.mk (blk_below (g := gb254) (o := .cells #[.int .i64 ((rd_T48 l0_1 x16_1).f0), .slice A253_1 ((rd_T48 l0_1 x16_1).f1).length c253_1, .int .i64 ((rd_T48 l0_1 x16_1).f2)] 48 (0, 0)) (by (with_reducible repeat (first | refine blk_drewN ?_ _ | refine blk_drew ?_ | refine blk_alloc ?_ _)); exact BK254.out) hb); have n2_ := Aside0.mk (below_step (by repeat (first | (with_reducible first | exact HB.out | apply below_alloc | apply pw_below_drewN | apply below_drew1 | refine below_set ?_ GE250.out | refine below_set ?_ GE254.out) | exact HB.out)) hb); clear BK250; clear BK254; clear HB; have BK250 := n0_; have BK254 := n1_; have HB := n2_; clear n0_ n1_ n2_; (try clear hb); (try clear hb2); (try clear hk); (try clear hi)))
                  have n0_ := Aside0.mk (blk_drew BK250.out)
                  have n1_ := Aside0.mk (blk_drew BK254.out)
                  have n2_ := Aside0.mk (below_drew1 HB.out)
                  clear BK250
                  clear BK254
                  clear HB
                  have BK250 := n0_
                  have BK254 := n1_
                  have HB := n2_
                  clear n0_ n1_ n2_
                  have p261 : 0 ≤ (x16_1 : Int) := of_decide_eq_true (by assumption)
                  have q261 : x16_1 < (l0_2.length : Int) := of_decide_eq_true (by assumption)
                  obtain ⟨ad261, e261, hx261_0⟩ := Kd.at_int HR0_2.out x16_1 p261 q261
                  have hw261_0 := hx261_0
                  obtain rfl : ad255 = ad261 := (by injection e261)
                  replace hx261_0 := (HB.out.cell (World.block_lt_of_cell? w _ hx261_0)).trans hx261_0
                  replace p261 := eq_true p261
                  replace q261 := eq_true q261
                  refine start_ (n := 9) (S := fun w' => w'.cell? ⟨gb250, 0, none⟩ = some (.slice A0_0 l0_0.length c0_0) ∧ w'.cell? ⟨gb250, 1, none⟩ = some (.slice (some ad253) l0_1.length c0_1) ∧ w'.cell? ⟨gb250, 2, none⟩ = some (.slice (some ad255) l0_2.length c0_2) ∧ w'.cell? (ad255.add (x16_1).toNat) = some (.int .i64 (rd l0_2 x16_1))) (ds := []) #[false, false, false, false, false, false, false, false, false] (by kernel_rfl) rfl rfl ⟨(blk_cell BK250.out 0).trans rfl, (blk_cell BK250.out 1).trans rfl, (blk_cell BK250.out 2).trans rfl, ((HB.out.cell (World.block_lt_of_cell? w _ hw261_0)).trans hw261_0)⟩ (fun hHeld => ?_); refine with_tabW spec_Shown.tab15 spec_Shown.bits15 (fun HT_ HW_ => ?_)
                  generalize w44.drew = w45 at BK250 BK254 HB hx261_0 hHeld ⊢
                  refine pure_ (i := 1) (N := some 54) (v := ?_) (a' := ?_) #[false, true, false, false, false, false, false, false, false] rfl rfl (any_of HT_.out (by kernel_rfl)) (fun _ _ _ h => h) (Or.inl ⟨by rfl, ?_⟩) ?_ ?_
                  rotate_left
                  ·intro w'
                   go_simp
                   with_reducible rfl
                  rotate_left
                  ·simp only [Act.put, List.setIfInBounds_toArray, List.set_cons_zero, List.set_cons_succ, i64_w, i32_w]
                   rfl
                  refine pure_ (i := 3) (N := some 56) (v := ?_) (a' := ?_) #[false, true, false, true, false, false, false, false, false] rfl rfl (any_of HT_.out (by kernel_rfl)) (fun _ _ _ h => h) (Or.inl ⟨by rfl, ?_⟩) ?_ ?_
                  rotate_left
                  ·intro w'
                   go_simp
                   with_reducible rfl
                  rotate_left
                  ·simp only [Act.put, List.setIfInBounds_toArray, List.set_cons_zero, List.set_cons_succ, i64_w, i32_w]
                   rfl
                  refine pure_ (i := 8) (N := some 61) (v := ?_) (a' := ?_) #[false, true, false, true, false, false, false, false, true] rfl rfl (any_of HT_.out (by kernel_rfl)) (fun _ _ _ h => h) (Or.inl ⟨by rfl, ?_⟩) ?_ ?_
                  rotate_left
                  ·intro w'
                   go_simp
                   with_reducible rfl
                  rotate_left
                  ·simp only [Act.put, List.setIfInBounds_toArray, List.set_cons_zero, List.set_cons_succ, i64_w, i32_w]
                   rfl
                  refine take_ (i := 0) (N := some 53) (v := ?_) (a' := ?_) #[true, true, false, true, false, false, false, false, true] rfl rfl (take_ofW HT_.out HW_.out (by kernel_rfl)) (fun _ _ _ h => h) (Or.inl ⟨by rfl, ?_⟩) hHeld ?_ ?_
                  rotate_left
                  ·rintro w' ⟨s0, s1, s2, s3⟩
                   go_simp
                   with_reducible rfl
                  rotate_left
                  ·simp only [Act.put, List.setIfInBounds_toArray, List.set_cons_zero, List.set_cons_succ, i64_w, i32_w]
                   rfl
                  refine take_ (i := 2) (N := some 55) (v := ?_) (a' := ?_) #[true, true, true, true, false, false, false, false, true] rfl rfl (take_ofW HT_.out HW_.out (by kernel_rfl)) (fun _ _ _ h => h) (Or.inl ⟨by rfl, ?_⟩) hHeld ?_ ?_
                  rotate_left
                  ·rintro w' ⟨s0, s1, s2, s3⟩
                   go_simp
                   with_reducible rfl
                  rotate_left
                  ·simp only [Act.put, List.setIfInBounds_toArray, List.set_cons_zero, List.set_cons_succ, i64_w, i32_w]
                   rfl
                  refine pure_ (i := 4) (N := some 57) (v := ?_) (a' := ?_) #[true, true, true, true, true, false, false, false, true] rfl rfl (any_of HT_.out (by kernel_rfl)) (fun _ _ _ h => h) (Or.inl ⟨by rfl, ?_⟩) ?_ ?_
                  rotate_left
                  ·intro w'
                   go_simp
                   with_reducible rfl
                  rotate_left
                  ·simp only [Act.put, List.setIfInBounds_toArray, List.set_cons_zero, List.set_cons_succ, i64_w, i32_w]
                   rfl
                  refine take_ (i := 5) (N := some 58) (v := ?_) (a' := ?_) #[true, true, true, true, true, true, false, false, true] rfl rfl (take_ofW HT_.out HW_.out (by kernel_rfl)) (fun _ _ _ h => h) (Or.inl ⟨by rfl, ?_⟩) hHeld ?_ ?_
                  rotate_left
                  ·rintro w' ⟨s0, s1, s2, s3⟩
                   go_simp
                   with_reducible rfl
                  rotate_left
                  ·simp only [Act.put, List.setIfInBounds_toArray, List.set_cons_zero, List.set_cons_succ, i64_w, i32_w]
                   rfl
                  refine one_ (i := 6) (N := some 59) #[true, true, true, true, true, true, true, false, true] rfl rfl (one_of HT_.out (by kernel_rfl)) (by decide) (fun K hK => ?_)
                  refine goes_ Tryd.func23 (by kernel_rfl) rfl #[.agg #[.slice A0_0 l0_0.length c0_0, .slice (some ad253) l0_1.length c0_1, .slice (some ad255) l0_2.length c0_2], .int .i64 (rd l0_2 x16_1)] (by rfl) rfl rfl (by (try simp only [List.map_toArray, List.map_cons, List.map_nil]); first | done | rfl | (simp only [List.length_drop, List.length_take]; rfl)) ?_
                  with_reducible refine (spec_Waits.calls k2 _ _ l0_0 _ _ l0_1 _ _ l0_2 (rd l0_2 x16_1) t262 _ ?side1 ?side2 ?side3 ?side4 ?side5 ?side6 A41.out).mono ?_
                  (case side1 => repeat (first | exact (Kd.C_below HR0_0.out HB.out) | (with_reducible refine Kd.C_alloc ?_ _) | (with_reducible refine Kd.C_drewN ?_ _) | (with_reducible refine Kd.C_drew ?_)))
                  (case side2 => exact HC0_0.out)
                  (case side3 => repeat (first | exact (Kd.C_below HR0_1.out HB.out) | (with_reducible refine Kd.C_alloc ?_ _) | (with_reducible refine Kd.C_drewN ?_ _) | (with_reducible refine Kd.C_drew ?_)))
                  (case side4 => exact HC0_1.out)
                  (case side5 => repeat (first | exact (Kd.C_below HR0_2.out HB.out) | (with_reducible refine Kd.C_alloc ?_ _) | (with_reducible refine Kd.C_drewN ?_ _) | (with_reducible refine Kd.C_drew ?_)))
                  (case side6 => exact HC0_2.out)
                  rintro e w46 ⟨v263, rfl, ho0, hb⟩
                  refine ⟨_, rfl, ?_⟩
                  have n0_ := Aside0.mk (Kd.R_lower ho0 (below_size (by repeat (first | (with_reducible first | exact HB.out | apply below_alloc | apply pw_below_drewN | apply below_drew1 | refine below_set ?_ GE250.out | refine below_set ?_ GE254.out) | exact HB.out))))
                  have n1_ := Aside0.mk (blk_below (g := gb250) (o := .cells #[.slice A0_0 l0_0.length c0_0, .slice (some ad253) l0_1.length c0_1, .slice (some ad255) l0_2.length c0_2] 30 (0, 0)) (by (with_reducible repeat (first | refine blk_drewN ?_ _ | refine blk_drew ?_ | refine blk_alloc ?_ _)); exact BK250.out) hb)
                  have n2_ := Aside0.mk (blk_below (g := gb254) (o := .cells #[.int .i64 ((rd_T48 l0_1 x16_1).f0), .slice A253_1 ((rd_T48 l0_1 x16_1).f1).length c253_1, .int .i64 ((rd_T48 l0_1 x16_1).f2)] 48 (0, 0)) (by (with_reducible repeat (first | refine blk_drewN ?_ _ | refine blk_drew ?_ | refine blk_alloc ?_ _)); exact BK254.out) hb)
                  have n3_ := Aside0.mk (below_step (by repeat (first | (with_reducible first | exact HB.out | apply below_alloc | apply pw_below_drewN | apply below_drew1 | refine below_set ?_ GE250.out | refine below_set ?_ GE254.out) | exact HB.out)) hb)
                  clear BK250
                  clear BK254
                  clear HB
                  have HO264 := n0_
                  have BK250 := n1_
                  have BK254 := n2_
                  have HB := n3_
                  clear n0_ n1_ n2_ n3_
                  (try clear hb)
                  (try clear hb2)
                  (try clear hk)
                  (try clear hi)
                  (try clear ho0)
                  obtain ⟨Ao47, co47, eo47⟩ := Kd.R_slice HO264.out
                  (first | subst eo47 | (injection eo47 with f1_ f2_ f3_; have f4_ := f1_.symm; have f5_ := f3_.symm; clear f1_ f2_ f3_; subst f4_; subst f5_))
                  refine hK.out _ _ ⟨(blk_cell BK250.out 0).trans rfl, (blk_cell BK250.out 1).trans rfl, (blk_cell BK250.out 2).trans rfl, ((HB.out.cell (World.block_lt_of_cell? w _ hw261_0)).trans hw261_0)⟩ (fun hHeld => ?_)
                  clear hK K
                  refine norm_ (a' := ?_) ?_ ?_
                  rotate_left
                  ·show Act.put _ (some 59) _ = _
                   simp only [Act.put, List.setIfInBounds_toArray, List.set_cons_zero, List.set_cons_succ, i64_w, i32_w]
                   rfl
                  refine pure_ (i := 7) (N := some 60) (v := ?_) (a' := ?_) #[true, true, true, true, true, true, true, true, true] rfl rfl (any_of HT_.out (by kernel_rfl)) (fun _ _ _ h => h) (Or.inl ⟨by rfl, ?_⟩) ?_ ?_
                  rotate_left
                  ·intro w'
                   go_simp
                   with_reducible rfl
                  rotate_left
                  ·simp only [Act.put, List.setIfInBounds_toArray, List.set_cons_zero, List.set_cons_succ, i64_w, i32_w]
                   rfl
                  refine done_ (done_of HT_.out (by kernel_rfl)) ?_
                  try go_wp2
                  go_loopg [3, 61] k2 (fun kq v3 v61 w' => ∃ (x3_3 : ByteArray) (x61_3 : Int), v3 = .string x3_3 ∧ v61 = .int .i64 x61_3 ∧ Aside0 (spec_Shown.l2 kq x3_3 l0_1 (l0_1.length : Int) x16_1 t262 (t262.length : Int) x61_3 l0_0 l0_1 l0_2 = some r) ∧ Aside0 (kq ≤ k2) ∧ Aside0 (Kd.R (Kd.int .i64) 3 w' w.heap.size (fun _ => True) (.slice Ao47 t262.length co47) t262) ∧ Aside0 (w'.heap[gb250]? = some (.cells #[(.slice A0_0 l0_0.length c0_0), (.slice (some ad253) l0_1.length c0_1), (.slice (some ad255) l0_2.length c0_2)] 30 (0, 0))) ∧ Aside0 (w'.heap[gb254]? = some (.cells #[.int .i64 ((rd_T48 l0_1 x16_1).f0), (.slice A253_1 ((rd_T48 l0_1 x16_1).f1).length c253_1), .int .i64 ((rd_T48 l0_1 x16_1).f2)] 48 (0, 0))) ∧ Aside0 (Below w.heap.size w w'))
                  case atStart => exact ⟨(x3_2 ++ (⟨#[32, 119, 97, 105, 116, 115, 32, 102, 111, 114]⟩ : ByteArray)), (0), (by first | rfl | (simp; done) | (simp [*]; done)), (by first | rfl | (simp; done) | (simp [*]; done)), H', ⟨Nat.le_refl _⟩, ⟨by (with_reducible repeat (first | apply Kd.R_alloc | apply Kd.R_drewN | apply Kd.R_drew)); exact HO264.out⟩, ⟨by (with_reducible repeat (first | refine blk_drewN ?_ _ | refine blk_drew ?_ | refine blk_alloc ?_ _)); exact BK250.out⟩, ⟨by (with_reducible repeat (first | refine blk_drewN ?_ _ | refine blk_drew ?_ | refine blk_alloc ?_ _)); exact BK254.out⟩, ⟨by repeat (first | (with_reducible first | exact HB.out | apply below_alloc | apply pw_below_drewN | apply below_drew1 | refine below_set ?_ GE250.out | refine below_set ?_ GE254.out) | exact HB.out)⟩⟩
                  case round =>
                   clear H'
                   try clear c1
                   try clear c2
                   try clear p2
                   try clear q2
                   try clear hx2
                   try clear c3
                   try clear c3b0
                   try clear c3b1
                   try clear c4
                   try clear c6
                   try clear p6
                   try clear c8
                   try clear c8b0
                   try clear c9
                   try clear c9b0
                   try clear c10
                   try clear c10b0
                   try clear c11
                   try clear c11b0
                   try clear c12
                   try clear c13
                   try clear c13b0
                   try clear c13b1
                   try clear c13b2
                   try clear c15
                   try clear c15b0
                   try clear c15b1
                   try clear c15b2
                   try clear c16
                   try clear c16b0
                   try clear c16b1
                   try clear c16b2
                   try clear c18
                   try clear c21
                   try clear c22
                   try clear c23
                   try clear c25
                   try clear c25b0
                   try clear p25
                   try clear q25
                   try clear hx25
                   try clear c26
                   try clear c26b0
                   try clear p26
                   try clear q26
                   try clear hx26
                   try clear c27
                   try clear c27b0
                   try clear c29
                   try clear c29b0
                   try clear c29b1
                   try clear c29b2
                   try clear c30
                   try clear c30b0
                   try clear c30b1
                   try clear c30b2
                   try clear c33
                   try clear c34
                   try clear c34b0
                   try clear c34b1
                   try clear c34b2
                   try clear c35
                   try clear c38
                   try clear c38b0
                   try clear c38b1
                   try clear c38b2
                   try clear c39
                   try clear c39b0
                   try clear c40
                   try clear c40b0
                   try clear c42
                   try clear hcz19_0
                   try clear hcz19_1
                   try clear hcz19_2
                   try clear hcz24_0
                   try clear hcz24_1
                   try clear hcz24_2
                   try clear hcz36_0
                   try clear hcz36_1
                   try clear hcz36_2
                   try clear hcz43_0
                   try clear hcz43_1
                   try clear hcz43_2
                   try clear hcz5_0
                   try clear hcz5_1
                   try clear hcz5_2
                   try clear hcz7_0
                   try clear hcz7_1
                   try clear hcz7_2
                   try clear hfz19_0
                   try clear hfz19_1
                   try clear hfz19_2
                   try clear hfz24_0
                   try clear hfz24_1
                   try clear hfz24_2
                   try clear hfz36_0
                   try clear hfz36_1
                   try clear hfz36_2
                   try clear hfz43_0
                   try clear hfz43_1
                   try clear hfz43_2
                   try clear hfz5_0
                   try clear hfz5_1
                   try clear hfz5_2
                   try clear hfz7_0
                   try clear hfz7_1
                   try clear hfz7_2
                   try clear hx253_0
                   try clear hx253_1
                   try clear hx253_2
                   try clear hx255_0
                   try clear hx258_0
                   try clear hx261_0
                   try clear p2
                   try clear p253
                   try clear p255
                   try clear p258
                   try clear p261
                   try clear q2
                   try clear q253
                   try clear q255
                   try clear q258
                   try clear q261
                   obtain ⟨x3_3, x61_3, rfl, rfl, HA, HK3, HO_59, BK250, BK254, HB⟩ := hrel
                   cases gk with
                   | zero => exact absurd HA.out (by simp [spec_Shown.l2])
                   | succ k3 =>
                    have H := HA.out
                    clear HA
                    simp only [spec_Shown.l2] at H
                    by_cases c48 : x61_3 < (t262.length : Int)
                    ·rw [if_pos c48] at H
                     have c48b0 : decide (x61_3 < (t262.length : Int)) = true := decide_eq_true c48
                     clear c48
                     by_cases c49 : 0 ≤ x61_3
                     ·rw [if_pos c49] at H
                      have c49b0 : decide (0 ≤ x61_3) = true := decide_eq_true c49
                      clear c49
                      by_cases c50 : x61_3 < (t262.length : Int)
                      ·rw [if_pos c50] at H
                       have c50b0 : decide (x61_3 < (t262.length : Int)) = true := decide_eq_true c50
                       clear c50
                       replace H := Option.bind_eq_some_iff.mp H
                       obtain ⟨t266, A510, H⟩ := H
                       replace H : (if 1 + t266.size ≤ 9223372036854775807 then (if x3_3.size + ((⟨#[32]⟩ : ByteArray) ++ t266).size ≤ 9223372036854775807 then (spec_Shown.l2 k3 (x3_3 ++ ((⟨#[32]⟩ : ByteArray) ++ t266)) l0_1 (l0_1.length : Int) x16_1 t262 (t262.length : Int) (wrap64 (x61_3 + 1)) l0_0 l0_1 l0_2) else (none)) else (none)) = some r := H
                       have A51 := Aside0.mk A510
                       clear A510
                       by_cases c52 : 1 + t266.size ≤ 9223372036854775807
                       ·rw [if_pos c52] at H
                        have c52b0 := eq_true c52
                        have c52b1 : decide (1 + t266.size ≤ 9223372036854775807) = true := decide_eq_true c52
                        try have c52b2 : (9223372036854775807 < 1 + t266.size) = False := eq_false (Nat.not_lt.2 c52)
                        by_cases c53 : x3_3.size + ((⟨#[32]⟩ : ByteArray) ++ t266).size ≤ 9223372036854775807
                        ·rw [if_pos c53] at H
                         have c53b0 := eq_true c53
                         have c53b1 : decide (x3_3.size + ((⟨#[32]⟩ : ByteArray) ++ t266).size ≤ 9223372036854775807) = true := decide_eq_true c53
                         try have c53b2 : (9223372036854775807 < x3_3.size + ((⟨#[32]⟩ : ByteArray) ++ t266).size) = False := eq_false (Nat.not_lt.2 c53)
                         try (have c53b3 := c53b2; simp only [ByteArray.size_append, show (⟨#[32]⟩ : ByteArray).size = 1 from rfl] at c53b3)
                         have H' := Aside0.mk H
                         clear H
                         have p265 : 0 ≤ (x61_3 : Int) := of_decide_eq_true (by assumption)
                         have q265 : x61_3 < (t262.length : Int) := of_decide_eq_true (by assumption)
                         obtain ⟨ad265, e265, hx265_0⟩ := Kd.at_int (Kd.R_reads' HO_59.out).2.2 x61_3 p265 q265
                         cases e265
                         replace p265 := eq_true p265
                         replace q265 := eq_true q265
                         go_wp2_with (first | ((with_reducible refine gate_callee (f := 21) rfl ?_); refine goesL_ (some 67) rfl rfl Tryd.func21 (by kernel_rfl) rfl #[.int .i64 (rd t262 x61_3)] rfl (by (try simp only [List.map_toArray, List.map_cons, List.map_nil]); first | done | rfl | (simp only [List.length_drop, List.length_take]; rfl)) ?_; (with_reducible refine (spec_l4decimal.calls k3 (rd t262 x61_3) t266 _ A51.out).mono ?_); rintro e w54 ⟨rfl, hb⟩; refine ⟨_, rfl, ?_⟩; have n0_ := Aside0.mk (Kd.R_below (by (with_reducible repeat (first | apply Kd.R_alloc | apply Kd.R_drewN | apply Kd.R_drew)); exact HO_59.out) hb); have n1_ := Aside0.mk (blk_below (g := gb250) (o := .cells #[.slice A0_0 l0_0.length c0_0, .slice (some ad253) l0_1.length c0_1, .slice (some ad255) l0_2.length c0_2] 30 (0, 0)) (by (with_reducible repeat (first | refine blk_drewN ?_ _ | refine blk_drew ?_ | refine blk_alloc ?_ _)); exact BK250.out) hb); have n2_ := Aside0.mk (blk_below (g := gb254) (o := .cells #[.int .i64 ((rd_T48 l0_1 x16_1).f0), .slice A253_1 ((rd_T48 l0_1 x16_1).f1).length c253_1, .int .i64 ((rd_T48 l0_1 x16_1).f2)] 48 (0, 0)) (by (with_reducible repeat (first | refine blk_drewN ?_ _ | refine blk_drew ?_ | refine blk_alloc ?_ _)); exact BK254.out) hb); have n3_ := Aside0.mk (below_step (by repeat (first | (with_reducible first | exact HB.out | apply below_alloc | apply pw_below_drewN | apply below_drew1 | refine below_set ?_ GE250.out | refine below_set ?_ GE254.out) | exact HB.out)) hb); clear HO_59; clear BK250; clear BK254; clear HB; have HO_59 := n0_; have BK250 := n1_; have BK254 := n2_; have HB := n3_; clear n0_ n1_ n2_ n3_; (try clear hb); (try clear hb2); (try clear hk); (try clear hi)))
                         go_roundg k3
                         case measure => have := HK1.out; have := HK2.out; have := HK3.out; omega
                         case rel => exact ⟨(x3_3 ++ ((⟨#[32]⟩ : ByteArray) ++ t266)), (wrap64 (x61_3 + 1)), (by first | rfl | (simp; done) | (simp [*]; done)), (by first | rfl | (simp; done) | (simp [*]; done)), H', ⟨by have := HK1.out; have := HK2.out; have := HK3.out; omega⟩, ⟨by (with_reducible repeat (first | apply Kd.R_alloc | apply Kd.R_drewN | apply Kd.R_drew)); exact HO_59.out⟩, ⟨by (with_reducible repeat (first | refine blk_drewN ?_ _ | refine blk_drew ?_ | refine blk_alloc ?_ _)); exact BK250.out⟩, ⟨by (with_reducible repeat (first | refine blk_drewN ?_ _ | refine blk_drew ?_ | refine blk_alloc ?_ _)); exact BK254.out⟩, ⟨by repeat (first | (with_reducible first | exact HB.out | apply below_alloc | apply pw_below_drewN | apply below_drew1 | refine below_set ?_ GE250.out | refine below_set ?_ GE254.out) | exact HB.out)⟩⟩
                        ·rw [if_neg c53] at H
                         exact absurd H (by simp)
                       ·rw [if_neg c52] at H
                        exact absurd H (by simp)
                      ·rw [if_neg c50] at H
                       exact absurd H (by simp)
                     ·rw [if_neg c49] at H
                      exact absurd H (by simp)
                    ·rw [if_neg c48] at H
                     have c48b0 : decide (x61_3 < (t262.length : Int)) = false := decide_eq_false c48
                     clear c48
                     by_cases c55 : x3_3.size + 1 ≤ 9223372036854775807
                     ·rw [if_pos c55] at H
                      have c55b0 := eq_true c55
                      have c55b1 : decide (x3_3.size + 1 ≤ 9223372036854775807) = true := decide_eq_true c55
                      try have c55b2 : (9223372036854775807 < x3_3.size + 1) = False := eq_false (Nat.not_lt.2 c55)
                      have H' := Aside0.mk H
                      clear H
                      go_wp2
                      go_roundg k3
                      case measure => have := HK1.out; have := HK2.out; have := HK3.out; omega
                      case rel => exact ⟨(x3_3 ++ (⟨#[10]⟩ : ByteArray)), (wrap64 (x16_1 + 1)), (by first | rfl | (simp; done) | (simp [*]; done)), (by first | rfl | (simp; done) | (simp [*]; done)), H', ⟨by have := HK1.out; have := HK2.out; have := HK3.out; omega⟩, ⟨by (with_reducible repeat (first | refine blk_drewN ?_ _ | refine blk_drew ?_ | refine blk_alloc ?_ _)); exact BK250.out⟩, ⟨by repeat (first | (with_reducible first | exact HB.out | apply below_alloc | apply pw_below_drewN | apply below_drew1 | refine below_set ?_ GE250.out | refine below_set ?_ GE254.out) | exact HB.out)⟩⟩
                     ·rw [if_neg c55] at H
                      exact absurd H (by simp)
                 ·rw [if_neg c40] at H
                  exact absurd H (by simp)
                ·rw [if_neg c39] at H
                 exact absurd H (by simp)
               ·rw [if_neg c38] at H
                exact absurd H (by simp)
          ·rw [if_neg c16] at H
           exact absurd H (by simp)
         ·rw [if_neg c15] at H
          exact absurd H (by simp)
        ·rw [if_neg c13] at H
         exact absurd H (by simp)
       ·rw [if_neg c11] at H
        exact absurd H (by simp)
      ·rw [if_neg c10] at H
       exact absurd H (by simp)
     ·rw [if_neg c9] at H
      exact absurd H (by simp)
    ·rw [if_neg c8] at H
     have c8b0 : decide (x16_1 < (l0_1.length : Int)) = false := decide_eq_false c8
     clear c8
     replace H := Option.bind_eq_some_iff.mp H
     obtain ⟨t252, A560, H⟩ := H
     replace H : (if t252 = true then (some x3_1) else (if x3_1.size + 7 ≤ 9223372036854775807 then (some (x3_1 ++ (⟨#[117, 110, 115, 97, 102, 101, 10]⟩ : ByteArray))) else (none))) = some r := H
     have A56 := Aside0.mk A560
     clear A560
     by_cases c57 : t252 = true
     ·subst c57
      have H1 : (some x3_1) = some r := by rw [if_pos rfl] at H; exact H
      clear H
      have H := H1
      clear H1
      obtain rfl := Option.some.inj H
      have hcz58_0 : wr.cell? ⟨gb250, 0, none⟩ = some (.slice A0_0 l0_0.length c0_0) := (blk_cell BK250.out 0).trans rfl
      have hcz58_1 : wr.cell? ⟨gb250, 1, none⟩ = some (.slice A0_1 l0_1.length c0_1) := (blk_cell BK250.out 1).trans rfl
      have hcz58_2 : wr.cell? ⟨gb250, 2, none⟩ = some (.slice A0_2 l0_2.length c0_2) := (blk_cell BK250.out 2).trans rfl
      have hfz58_0 := blk_frozen BK250.out 0
      have hfz58_1 := blk_frozen BK250.out 1
      have hfz58_2 := blk_frozen BK250.out 2
      go_wp2_with (first | ((with_reducible refine gate_callee (f := 24) rfl ?_); refine goesL_ (some 75) rfl rfl Tryd.func24 (by kernel_rfl) rfl #[.agg #[.slice A0_0 l0_0.length c0_0, .slice A0_1 l0_1.length c0_1, .slice A0_2 l0_2.length c0_2]] rfl (by (try simp only [List.map_toArray, List.map_cons, List.map_nil]); first | done | rfl | (simp only [List.length_drop, List.length_take]; rfl)) ?_; (with_reducible refine (spec_Safe.calls k1 _ _ l0_0 _ _ l0_1 _ _ l0_2 true _ ?side1 ?side2 ?side3 ?side4 ?side5 ?side6 A56.out).mono ?_); (case side1 => repeat (first | exact (Kd.C_below HR0_0.out HB.out) | (with_reducible refine Kd.C_alloc ?_ _) | (with_reducible refine Kd.C_drewN ?_ _) | (with_reducible refine Kd.C_drew ?_))); (case side2 => exact HC0_0.out); (case side3 => repeat (first | exact (Kd.C_below HR0_1.out HB.out) | (with_reducible refine Kd.C_alloc ?_ _) | (with_reducible refine Kd.C_drewN ?_ _) | (with_reducible refine Kd.C_drew ?_))); (case side4 => exact HC0_1.out); (case side5 => repeat (first | exact (Kd.C_below HR0_2.out HB.out) | (with_reducible refine Kd.C_alloc ?_ _) | (with_reducible refine Kd.C_drewN ?_ _) | (with_reducible refine Kd.C_drew ?_))); (case side6 => exact HC0_2.out); rintro e w59 ⟨rfl, hb⟩; refine ⟨_, rfl, ?_⟩; have n0_ := Aside0.mk (blk_below (g := gb250) (o := .cells #[.slice A0_0 l0_0.length c0_0, .slice A0_1 l0_1.length c0_1, .slice A0_2 l0_2.length c0_2] 30 (0, 0)) (by (with_reducible repeat (first | refine blk_drewN ?_ _ | refine blk_drew ?_ | refine blk_alloc ?_ _)); exact BK250.out) hb); have n1_ := Aside0.mk (below_step (by repeat (first | (with_reducible first | exact HB.out | apply below_alloc | apply pw_below_drewN | apply below_drew1 | refine below_set ?_ GE250.out) | exact HB.out)) hb); clear BK250; clear HB; have BK250 := n0_; have HB := n1_; clear n0_ n1_; (try clear hb); (try clear hb2); (try clear hk); (try clear hi)))
      go_ret
      exact ⟨by first | rfl | (simp [errW_none, errW_some] <;> rfl) | (simp [*, errW_none, errW_some] <;> rfl), by repeat (first | (with_reducible first | exact HB.out | apply below_alloc | apply pw_below_drewN | apply below_drew1 | refine below_set ?_ GE250.out) | exact HB.out)⟩
     ·replace c57 := Bool.eq_false_iff.mpr c57
      subst c57
      have H1 : (if x3_1.size + 7 ≤ 9223372036854775807 then (some (x3_1 ++ (⟨#[117, 110, 115, 97, 102, 101, 10]⟩ : ByteArray))) else (none)) = some r := by rw [if_neg (show ¬ (false = true) by decide)] at H; exact H
      clear H
      have H := H1
      clear H1
      by_cases c60 : x3_1.size + 7 ≤ 9223372036854775807
      ·rw [if_pos c60] at H
       have c60b0 := eq_true c60
       have c60b1 : decide (x3_1.size + 7 ≤ 9223372036854775807) = true := decide_eq_true c60
       try have c60b2 : (9223372036854775807 < x3_1.size + 7) = False := eq_false (Nat.not_lt.2 c60)
       obtain rfl := Option.some.inj H
       have hcz61_0 : wr.cell? ⟨gb250, 0, none⟩ = some (.slice A0_0 l0_0.length c0_0) := (blk_cell BK250.out 0).trans rfl
       have hcz61_1 : wr.cell? ⟨gb250, 1, none⟩ = some (.slice A0_1 l0_1.length c0_1) := (blk_cell BK250.out 1).trans rfl
       have hcz61_2 : wr.cell? ⟨gb250, 2, none⟩ = some (.slice A0_2 l0_2.length c0_2) := (blk_cell BK250.out 2).trans rfl
       have hfz61_0 := blk_frozen BK250.out 0
       have hfz61_1 := blk_frozen BK250.out 1
       have hfz61_2 := blk_frozen BK250.out 2
       go_wp2_with (first | ((with_reducible refine gate_callee (f := 24) rfl ?_); refine goesL_ (some 75) rfl rfl Tryd.func24 (by kernel_rfl) rfl #[.agg #[.slice A0_0 l0_0.length c0_0, .slice A0_1 l0_1.length c0_1, .slice A0_2 l0_2.length c0_2]] rfl (by (try simp only [List.map_toArray, List.map_cons, List.map_nil]); first | done | rfl | (simp only [List.length_drop, List.length_take]; rfl)) ?_; (with_reducible refine (spec_Safe.calls k1 _ _ l0_0 _ _ l0_1 _ _ l0_2 false _ ?side1 ?side2 ?side3 ?side4 ?side5 ?side6 A56.out).mono ?_); (case side1 => repeat (first | exact (Kd.C_below HR0_0.out HB.out) | (with_reducible refine Kd.C_alloc ?_ _) | (with_reducible refine Kd.C_drewN ?_ _) | (with_reducible refine Kd.C_drew ?_))); (case side2 => exact HC0_0.out); (case side3 => repeat (first | exact (Kd.C_below HR0_1.out HB.out) | (with_reducible refine Kd.C_alloc ?_ _) | (with_reducible refine Kd.C_drewN ?_ _) | (with_reducible refine Kd.C_drew ?_))); (case side4 => exact HC0_1.out); (case side5 => repeat (first | exact (Kd.C_below HR0_2.out HB.out) | (with_reducible refine Kd.C_alloc ?_ _) | (with_reducible refine Kd.C_drewN ?_ _) | (with_reducible refine Kd.C_drew ?_))); (case side6 => exact HC0_2.out); rintro e w62 ⟨rfl, hb⟩; refine ⟨_, rfl, ?_⟩; have n0_ := Aside0.mk (blk_below (g := gb250) (o := .cells #[.slice A0_0 l0_0.length c0_0, .slice A0_1 l0_1.length c0_1, .slice A0_2 l0_2.length c0_2] 30 (0, 0)) (by (with_reducible repeat (first | refine blk_drewN ?_ _ | refine blk_drew ?_ | refine blk_alloc ?_ _)); exact BK250.out) hb); have n1_ := Aside0.mk (below_step (by repeat (first | (with_reducible first | exact HB.out | apply below_alloc | apply pw_below_drewN | apply below_drew1 | refine below_set ?_ GE250.out) | exact HB.out)) hb); clear BK250; clear HB; have BK250 := n0_; have HB := n1_; clear n0_ n1_; (try clear hb); (try clear hb2); (try clear hk); (try clear hi)))
       go_ret
       exact ⟨by first | rfl | (simp [errW_none, errW_some] <;> rfl) | (simp [*, errW_none, errW_some] <;> rfl), by repeat (first | (with_reducible first | exact HB.out | apply below_alloc | apply pw_below_drewN | apply below_drew1 | refine below_set ?_ GE250.out) | exact HB.out)⟩
      ·rw [if_neg c60] at H
       exact absurd H (by simp)
 ·rw [if_neg c3] at H
  have c3b0 : (t251 == 0) = false := beq_eq_false_iff_ne.mpr c3
  have c3b1 : (t251 != 0) = true := bne_iff_ne.mpr c3
  obtain rfl := Option.some.inj H
  go_enter Tryd.func6, Tryd.ntmps6
  go_wp2_with (first | ((with_reducible refine gate_dst (N := 1) rfl ?_); refine box_event ?hg (N := 1) ?hd (cs := #[.slice A0_0 l0_0.length c0_0, .slice A0_1 l0_1.length c0_1, .slice A0_2 l0_2.length c0_2]) (t := 30) ?hr ?_; (case hd => rfl); (case hg => rfl); (case hr => first | (go_simp; done) | (go_simp; rfl)); intro gb250 hg w63 hbox hb; have n0_ := Aside0.mk (below_step (by repeat (first | (with_reducible first | exact HB.out | apply below_alloc | apply pw_below_drewN | apply below_drew1) | exact HB.out)) hb); have n1_ := Aside0.mk (hbox); have n2_ := Aside0.mk ((by rw [hg]; exact (below_size (by repeat (first | (with_reducible first | exact HB.out | apply below_alloc | apply pw_below_drewN | apply below_drew1) | exact HB.out))) : w.heap.size ≤ gb250)); have n3_ := Aside0.mk ((by rw [hg]; exact (below_size (by repeat (first | (with_reducible first | exact HB.out | apply below_alloc | apply pw_below_drewN | apply below_drew1) | exact HB.out))) : w.heap.size ≤ gb250)); clear HB; have HB := n0_; have BK250 := n1_; have GW250 := n2_; have GE250 := n3_; clear n0_ n1_ n2_ n3_; clear hb hbox hg; have hcz64_0 : w63.cell? ⟨gb250, 0, none⟩ = some (.slice A0_0 l0_0.length c0_0) := (blk_cell BK250.out 0).trans rfl; have hcz64_1 : w63.cell? ⟨gb250, 1, none⟩ = some (.slice A0_1 l0_1.length c0_1) := (blk_cell BK250.out 1).trans rfl; have hcz64_2 : w63.cell? ⟨gb250, 2, none⟩ = some (.slice A0_2 l0_2.length c0_2) := (blk_cell BK250.out 2).trans rfl; have hfz64_0 := blk_frozen BK250.out 0; have hfz64_1 := blk_frozen BK250.out 1; have hfz64_2 := blk_frozen BK250.out 2) | ((with_reducible refine gate_callee (f := 12) rfl ?_); refine goesL_ (some 11) rfl rfl Tryd.func12 (by kernel_rfl) rfl #[.agg #[.slice A0_0 l0_0.length c0_0, .slice A0_1 l0_1.length c0_1, .slice A0_2 l0_2.length c0_2]] rfl (by (try simp only [List.map_toArray, List.map_cons, List.map_nil]); first | done | rfl | (simp only [List.length_drop, List.length_take]; rfl)) ?_; (with_reducible refine (spec_StateOk.calls k _ _ l0_0 _ _ l0_1 _ _ l0_2 t251 _ ?side1 ?side2 ?side3 ?side4 ?side5 ?side6 A2.out).mono ?_); (case side1 => repeat (first | exact (Kd.C_below HR0_0.out HB.out) | (with_reducible refine Kd.C_alloc ?_ _) | (with_reducible refine Kd.C_drewN ?_ _) | (with_reducible refine Kd.C_drew ?_))); (case side2 => exact HC0_0.out); (case side3 => repeat (first | exact (Kd.C_below HR0_1.out HB.out) | (with_reducible refine Kd.C_alloc ?_ _) | (with_reducible refine Kd.C_drewN ?_ _) | (with_reducible refine Kd.C_drew ?_))); (case side4 => exact HC0_1.out); (case side5 => repeat (first | exact (Kd.C_below HR0_2.out HB.out) | (with_reducible refine Kd.C_alloc ?_ _) | (with_reducible refine Kd.C_drewN ?_ _) | (with_reducible refine Kd.C_drew ?_))); (case side6 => exact HC0_2.out); rintro e w65 ⟨rfl, hb⟩; refine ⟨_, rfl, ?_⟩; have n0_ := Aside0.mk (blk_below (g := gb250) (o := .cells #[.slice A0_0 l0_0.length c0_0, .slice A0_1 l0_1.length c0_1, .slice A0_2 l0_2.length c0_2] 30 (0, 0)) (by (with_reducible repeat (first | refine blk_drewN ?_ _ | refine blk_drew ?_ | refine blk_alloc ?_ _)); exact BK250.out) hb); have n1_ := Aside0.mk (below_step (by repeat (first | (with_reducible first | exact HB.out | apply below_alloc | apply pw_below_drewN | apply below_drew1 | refine below_set ?_ GE250.out) | exact HB.out)) hb); clear BK250; clear HB; have BK250 := n0_; have HB := n1_; clear n0_ n1_; (try clear hb); (try clear hb2); (try clear hk); (try clear hi)))
  go_ret
  exact ⟨by first | rfl | (simp [errW_none, errW_some] <;> rfl) | (simp [*, errW_none, errW_some] <;> rfl), by repeat (first | (with_reducible first | exact HB.out | apply below_alloc | apply pw_below_drewN | apply below_drew1 | refine below_set ?_ GE250.out) | exact HB.out)⟩


end Go.Proofs.YtkcocomehhlpmaaDoor.Q
