/- The reference's Ring. Walked by hand. -/
import Derived.Test.YtckkppehfpjbpaaFnRingRg2
namespace Go.Proofs.Ytckkppehfpjbpaa.Rg
open Go.RowKit Go.Proofs.YtckkppehfpjbpaaW.PrintWords Go.Proofs.YtckkppehfpjbpaaW.PrintLast Go.Proofs.YtckkppehfpjbpaaW.PrintMore Go.Proofs.Ytckkppehfpjbpaa.Q Go.Proofs.Ytckkppehfpjbpaa.Pu
attribute [local go_sem] max2_int min2_int max_two min_two max_three min_three max_four min_four
set_option linter.unusedVariables false
set_option linter.unusedSimpArgs false
def sRing (R : List Int) (T : List S40) (N : List Int) : List Int := bestR (N.map (ringF (waitsD R T N)))
/-- Ring, as the walk of its callers asks for it: no rounds of its own. -/
def spec_Ring.f (k : Nat) (l0_0 : List Int) (l0_1 : List S40) (l0_2 : List Int) : Option (List Int) :=
 (spec_StateOk.f k l0_0 l0_1 l0_2).bind fun t => if t = okS l0_0 l0_1 l0_2 then some (if t = 0 then sRing l0_0 l0_1 l0_2 else []) else none
set_option maxHeartbeats 1000000 in
set_option maxRecDepth 100000 in
theorem spec_Ring.calls (k : Nat) (A0_0 : Option Addr) (c0_0 : Nat) (l0_0 : List Int) (A0_1 : Option Addr) (c0_1 : Nat) (l0_1 : List S40) (A0_2 : Option Addr) (c0_2 : Nat) (l0_2 : List Int) (r : List Int) (w : World) (hr0_0 : Kd.C (Kd.int .i64) w A0_0 l0_0.length l0_0) (hc0_0 : l0_0.length ≤ c0_0) (hr0_1 : Kd.C k40 w A0_1 l0_1.length l0_1) (hc0_1 : l0_1.length ≤ c0_1) (hr0_2 : Kd.C (Kd.int .i64) w A0_2 l0_2.length l0_2) (hc0_2 : l0_2.length ≤ c0_2)
  (h : spec_Ring.f k l0_0 l0_1 l0_2 = some r) :
  Calls Try.prog 6 #[.agg #[.slice A0_0 l0_0.length c0_0, .slice A0_1 l0_1.length c0_1, .slice A0_2 l0_2.length c0_2]] w fun e w' => ∃ v0_ : Value, e = .returned v0_ ∧ Kd.R (Kd.int .i64) 3 w' w.heap.size (fun _ => True) v0_ r ∧ Below w.heap.size w w' := by
 have HR0 := Aside0.mk hr0_0
 have HR1 := Aside0.mk hr0_1
 have HR2 := Aside0.mk hr0_2
 unfold spec_Ring.f at h
 obtain ⟨t, ht, hr⟩ := Option.bind_eq_some_iff.mp h
 by_cases hq : t = okS l0_0 l0_1 l0_2
 rotate_left
 ·rw [if_neg hq] at hr; exact absurd hr (by simp)
 rw [if_pos hq] at hr
 injection hr with hr
 have HT := Aside0.mk ht
 have HW := Aside0.mk (fun h0 : t = 0 => (right_iff _ _ _).1 (hq.symm.trans h0))
 have HRR := Aside0.mk hr
 clear h ht hr hq hr0_0 hr0_1 hr0_2
 have hu := Try.underlying30
 have HB := Aside0.mk ((Below.refl w.heap.size w).alloc (Nat.le_refl _) (.cells #[.slice A0_0 l0_0.length c0_0, .slice A0_1 l0_1.length c0_1, .slice A0_2 l0_2.length c0_2] 30))
 have BX := Aside0.mk (heap_alloc_new w (.cells #[.slice A0_0 l0_0.length c0_0, .slice A0_1 l0_1.length c0_1, .slice A0_2 l0_2.length c0_2] 30))
 by_cases c0 : t = 0
 ·have c1 : (t == 0) = true := beq_iff_eq.mpr c0
  have c2 : (t != 0) = false := by rw [c0]; rfl
  have hr := HW.out c0
  have hrr := HRR.out
  rw [if_pos c0] at hrr
  have HRD := Aside0.mk hrr
  have hN5 : l0_2.length ≤ 5 := by have := hr.n1; have := hr.t1; omega
  have HRI := Aside0.mk hr
  clear HRR hrr hr
  go_enter Try.func6, Try.ntmps6
  go_wp2_with (fail)
  refine (spec_StateOk.calls k _ _ l0_0 _ _ l0_1 _ _ l0_2 t _ (Kd.C_below HR0.out HB.out) hc0_0 (Kd.C_below HR1.out HB.out) hc0_1 (Kd.C_below HR2.out HB.out) hc0_2 HT.out).mono ?_
  rintro e w1 ⟨rfl, hb⟩
  have HB_ := Aside0.mk (below_step HB.out hb)
  have BX_ := Aside0.mk (blk_below BX.out hb)
  clear HB BX hb
  have HB := HB_
  have BX := BX_
  clear HB_ BX_
  have z2 : w1.cell? ⟨w.heap.size, 2, none⟩ = some (.slice A0_2 l0_2.length c0_2) := (blk_cell BX.out 2).trans rfl
  go_wp2_with (fail)
  go_loopw [3, 13] (fun x3 x13 wr => ∃ i : Nat, i ≤ l0_2.length ∧ x13 = .int .i64 i ∧ Aside0 (Kd.R (Kd.int .i64) 3 wr w.heap.size (fun _ => True) x3 (bstI (ringF (waitsD l0_0 l0_1 l0_2)) l0_2 i)) ∧ Aside0 (Below w.heap.size w wr) ∧ Aside0 (wr.heap[w.heap.size]? = some (.cells #[.slice A0_0 l0_0.length c0_0, .slice A0_1 l0_1.length c0_1, .slice A0_2 l0_2.length c0_2] 30 (0, 0)))) (fun _ x13 _ => l0_2.length - (intOf x13).toNat)
  case atStart => exact ⟨0, Nat.zero_le _, rfl, ⟨Kd.R_nil _ _ _ _ _⟩, HB, BX⟩
  case round =>
   clear HB BX z2
   obtain ⟨i, hi, rfl, HO, HB, BX⟩ := hrel
   by_cases hlt : i < l0_2.length
   ·have d14 : decide ((i : Int) < (l0_2.length : Int)) = true := decide_eq_true (by omega)
    have p5 : (0 : Int) ≤ (i : Int) := by omega
    have q5 : (i : Int) < (l0_2.length : Int) := by omega
    obtain ⟨adN, eN, n1⟩ := Kd.at_int (Kd.C_below HR2.out HB.out) (i : Int) p5 q5
    rw [Int.toNat_natCast, show rd l0_2 (i : Int) = l0_2.getD i 0 from rd_I l0_2 i] at n1
    have HN := Aside0.mk (getD_mem 0 hlt)
    have HS := Aside0.mk (bstI_succ (ringF (waitsD l0_0 l0_1 l0_2)) l0_2 hlt)
    have HEN := Aside0.mk eN
    subst eN
    generalize l0_2.getD i 0 = nm at n1 HN HS
    generalize bstI (ringF (waitsD l0_0 l0_1 l0_2)) l0_2 i = b at HO HS
    obtain ⟨A3, c3, e3⟩ := Kd.R_slice HO.out
    subst e3
    have z0 : wr.cell? ⟨w.heap.size, 0, none⟩ = some (.slice A0_0 l0_0.length c0_0) := (blk_cell BX.out 0).trans rfl
    have z1 : wr.cell? ⟨w.heap.size, 1, none⟩ = some (.slice A0_1 l0_1.length c0_1) := (blk_cell BX.out 1).trans rfl
    have z2 : wr.cell? ⟨w.heap.size, 2, none⟩ = some (.slice (some adN) l0_2.length c0_2) := (blk_cell BX.out 2).trans rfl
    go_wp2_with (fail)
    refine (l2ring_calls HRI.out (Kd.C_below HR0.out HB.out) hc0_0 (Kd.C_below HR1.out HB.out) hc0_1 (Kd.C_below HR2.out HB.out) hc0_2 nm HN.out).mono ?_
    rintro e w3 ⟨v, rfl, hR, hb, _⟩
    have HO_ := Aside0.mk (Kd.R_below HO.out hb)
    have HB_ := Aside0.mk (below_step HB.out hb)
    have BX_ := Aside0.mk (blk_below BX.out hb)
    have HV := Aside0.mk (Kd.R_lower hR HB.out.size)
    clear HO HB BX hb n1 z0 z1 z2 hR
    have HO := HO_
    have HB := HB_
    have BX := BX_
    clear HO_ HB_ BX_
    generalize ringF (waitsD l0_0 l0_1 l0_2) nm = q at HV HS
    obtain ⟨A6, c6, e6⟩ := Kd.R_slice HV.out
    subst e6
    by_cases g0 : q = []
    ·subst g0
     have HS2 := Aside0.mk (HS.out.trans (betR_none b))
     clear HS
     go_wp2_with (fail)
     go_roundw
     case measure => simp [intOf]; omega
     case rel => exact ⟨i + 1, hlt, by go_num, ⟨by rw [HS2.out]; exact HO.out⟩, HB, BX⟩
    ·have g1 : 0 < q.length := List.length_pos_iff.2 g0
     by_cases g2 : b = []
     ·subst g2
      have HS2 := Aside0.mk (HS.out.trans (betR_first g0))
      clear HS g0
      go_wp2_with (fail)
      go_roundw
      case measure => simp [intOf]; omega
      case rel => exact ⟨i + 1, hlt, by go_num, ⟨by rw [HS2.out]; exact HV.out⟩, HB, BX⟩
     ·have g3 : 0 < b.length := List.length_pos_iff.2 g2
      have g4 : (b.length : Int) ≠ 0 := by omega
      have g5 : ((b.length : Int) == 0) = false := beq_eq_false_iff_ne.mpr g4
      by_cases g6 : q.length < b.length
      ·have HS2 := Aside0.mk (HS.out.trans (betR_less g0 g6))
       have g7 : decide ((q.length : Int) < (b.length : Int)) = true := decide_eq_true (by omega)
       clear HS
       go_wp2_with (fail)
       go_roundw
       case measure => simp [intOf]; omega
       case rel => exact ⟨i + 1, hlt, by go_num, ⟨by rw [HS2.out]; exact HV.out⟩, HB, BX⟩
      ·have HS2 := Aside0.mk (HS.out.trans (betR_more g2 g6))
       have g7 : decide ((q.length : Int) < (b.length : Int)) = false := decide_eq_false (by omega)
       clear HS
       go_wp2_with (fail)
       go_roundw
       case measure => simp [intOf]; omega
       case rel => exact ⟨i + 1, hlt, by go_num, ⟨by rw [HS2.out]; exact HO.out⟩, HB, BX⟩
   ·have d14 : decide ((i : Int) < (l0_2.length : Int)) = false := decide_eq_false (by omega)
    have hie : i = l0_2.length := by omega
    subst hie
    go_wp2_with (fail)
    go_ret
    exact ⟨_, rfl, by rw [← HRD.out]; unfold sRing; rw [← bstI_all]; exact HO.out, HB.out⟩
 ·have c1 : (t == 0) = false := beq_eq_false_iff_ne.mpr c0
  have c2 : (t != 0) = true := by simp [bne, c1]
  go_enter Try.func6, Try.ntmps6
  go_wp2_with (fail)
  refine (spec_StateOk.calls k _ _ l0_0 _ _ l0_1 _ _ l0_2 t _ (Kd.C_below HR0.out HB.out) hc0_0 (Kd.C_below HR1.out HB.out) hc0_1 (Kd.C_below HR2.out HB.out) hc0_2 HT.out).mono ?_
  rintro e w1 ⟨rfl, hb⟩
  go_wp2_with (fail)
  go_ret
  exact ⟨_, rfl, by rw [← HRR.out, if_neg c0]; exact Kd.R_nil _ _ _ _ _, below_step HB.out hb⟩
end Go.Proofs.Ytckkppehfpjbpaa.Rg
