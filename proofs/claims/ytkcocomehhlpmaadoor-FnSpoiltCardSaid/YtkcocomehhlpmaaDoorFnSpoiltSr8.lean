/- The search of the program: a new one; Safe. Walked by hand. -/
import Derived.Test.YtkcocomehhlpmaaDoorFnSpoiltSr7
import Derived.Test.YtkcocomehhlpmaaDoorFnSpoiltFacts
import Derived.Test.YtkcocomehhlpmaaDoorFnSpoiltPure3
import Derived.Test.YtkcocomehhlpmaaDoorFnSpoiltQ4
namespace Go.Proofs.YtkcocomehhlpmaaDoor.Sr
open Go.RowKit Go.Maps Go.Proofs.YtkcocomehhlpmaaDoorW.PrintWords Go.Proofs.YtkcocomehhlpmaaDoorW.PrintLast Go.Proofs.YtkcocomehhlpmaaDoorW.PrintMore Go.Proofs.YtkcocomehhlpmaaDoor.Q Go.Proofs.YtkcocomehhlpmaaDoor.Pu
attribute [local go_sem] max2_int min2_int max_two min_two max_three min_three max_four min_four
set_option linter.unusedVariables false
set_option linter.unusedSimpArgs false
theorem keyed : Keyed Tryd.prog 75 := key_law Facts.laid_ok
set_option maxHeartbeats 1000000 in
set_option maxRecDepth 100000 in
theorem newSearch_calls (W : World) {A0 : Option Addr} {c0 : Nat} {l0 : List Int} {A1 : Option Addr} {c1 : Nat} {l1 : List S48} {A2 : Option Addr} {c2 : Nat} {l2 : List Int}
  (r0 : Kd.C (Kd.int .i64) W A0 l0.length l0) (h0 : l0.length ≤ c0) (r1 : Kd.C k48 W A1 l1.length l1) (h1 : l1.length ≤ c1) (r2 : Kd.C (Kd.int .i64) W A2 l2.length l2) (h2 : l2.length ≤ c2) :
  Calls Tryd.prog 39 #[.agg #[.slice A0 l0.length c0, .slice A1 l1.length c1, .slice A2 l2.length c2]] W fun e W' => ∃ gs b, e = .returned (.pointer (some ⟨gs, 0, none⟩)) ∧ St W W' gs A0 c0 l0 A1 c1 l1 A2 c2 l2 b ∧ ∃ D, Memo W' b l0 l1 D := by
 have hmm := @run_makeMap Tryd.prog
 have hu26 := Tryd.underlying30
 have hu88 := Tryd.underlying90
 go_enter Tryd.func39, Tryd.ntmps39
 go_wp2_with (fail)
 go_ret
 have e1 : ((W.alloc (.cells #[.slice A0 l0.length c0, .slice A1 l1.length c1, .slice A2 l2.length c2] 30))).heap.size = W.heap.size + 1 := by simp
 have e2 : (((W.alloc (.cells #[.slice A0 l0.length c0, .slice A1 l1.length c1, .slice A2 l2.length c2] 30))).alloc (.map #[] 0)).heap.size = W.heap.size + 1 + 1 := by simp
 have hb1 : Below W.heap.size W (W.alloc (.cells #[.slice A0 l0.length c0, .slice A1 l1.length c1, .slice A2 l2.length c2] 30)) := (Below.refl _ _).alloc (Nat.le_refl _) _
 have hb2 : Below W.heap.size W ((W.alloc (.cells #[.slice A0 l0.length c0, .slice A1 l1.length c1, .slice A2 l2.length c2] 30)).alloc (.map #[] 0)) := hb1.alloc (by omega) _
 have hm := Memo.made (W.alloc (.cells #[.slice A0 l0.length c0, .slice A1 l1.length c1, .slice A2 l2.length c2] 30)) l0 l1
 rw [e1] at hm
 refine ⟨W.heap.size + 1 + 1, W.heap.size + 1, by simp, ⟨?_, hb2.alloc (by omega) _, by omega, by omega, r0, h0, r1, h1, r2, h2⟩, _, hm.kept (World.grownBy_alloc _ _ none) (by simp)⟩
 rw [← e2]
 exact heap_alloc_new _ _
/-- Safe, as the walk of its callers asks for it: no rounds of its own. -/
def impl_Safe.f (k : Nat) (l0_0 : List Int) (l0_1 : List S48) (l0_2 : List Int) : Option Bool :=
 (impl_StateOk.f k l0_0 l0_1 l0_2).bind fun t => if t = okS l0_0 l0_1 l0_2 then some (if t = 0 then decide (0 ≤ V l0_0 l0_1 [0, 0, 0, 0, 0]) else false) else none
set_option maxHeartbeats 1000000 in
set_option maxRecDepth 100000 in
theorem impl_Safe.calls (k : Nat) (A0_0 : Option Addr) (c0_0 : Nat) (l0_0 : List Int) (A0_1 : Option Addr) (c0_1 : Nat) (l0_1 : List S48) (A0_2 : Option Addr) (c0_2 : Nat) (l0_2 : List Int) (r : Bool) (w : World) (hr0_0 : Kd.C (Kd.int .i64) w A0_0 l0_0.length l0_0) (hc0_0 : l0_0.length ≤ c0_0) (hr0_1 : Kd.C k48 w A0_1 l0_1.length l0_1) (hc0_1 : l0_1.length ≤ c0_1) (hr0_2 : Kd.C (Kd.int .i64) w A0_2 l0_2.length l0_2) (hc0_2 : l0_2.length ≤ c0_2)
  (h : impl_Safe.f k l0_0 l0_1 l0_2 = some r) :
  Calls Tryd.prog 13 #[.agg #[.slice A0_0 l0_0.length c0_0, .slice A0_1 l0_1.length c0_1, .slice A0_2 l0_2.length c0_2]] w fun e w' => e = .returned (.bool r) ∧ Below w.heap.size w w' := by
 have HR0 := Aside0.mk hr0_0
 have HR1 := Aside0.mk hr0_1
 have HR2 := Aside0.mk hr0_2
 unfold impl_Safe.f at h
 obtain ⟨t, ht, hr⟩ := Option.bind_eq_some_iff.mp h
 by_cases hq : t = okS l0_0 l0_1 l0_2
 rotate_left
 ·rw [if_neg hq] at hr; exact absurd hr (by simp)
 rw [if_pos hq] at hr
 injection hr with hr
 have HT := Aside0.mk ht
 have HW := Aside0.mk (fun h0 : t = 0 => ((right_iff _ _ _).1 (hq.symm.trans h0)).wf)
 have HRR := Aside0.mk hr
 clear h ht hr hq hr0_0 hr0_1 hr0_2
 have hu26 := Tryd.underlying30
 have HBX := Aside0.mk ((Below.refl w.heap.size w).alloc (Nat.le_refl _) (.cells #[.slice A0_0 l0_0.length c0_0, .slice A0_1 l0_1.length c0_1, .slice A0_2 l0_2.length c0_2] 30))
 have BX := Aside0.mk (heap_alloc_new w (.cells #[.slice A0_0 l0_0.length c0_0, .slice A0_1 l0_1.length c0_1, .slice A0_2 l0_2.length c0_2] 30))
 by_cases c0 : t = 0
 ·have c1 : (t == 0) = true := beq_iff_eq.mpr c0
  go_enter Tryd.func13, Tryd.ntmps13
  go_wp2_with (fail)
  refine (impl_StateOk.calls k _ _ l0_0 _ _ l0_1 _ _ l0_2 t _ (Kd.C_below HR0.out HBX.out) hc0_0 (Kd.C_below HR1.out HBX.out) hc0_1 (Kd.C_below HR2.out HBX.out) hc0_2 HT.out).mono ?_
  rintro e w1 ⟨rfl, hb⟩
  have hw := HW.out c0
  have HBY := Aside0.mk (below_step HBX.out hb)
  have BY := Aside0.mk (blk_below BX.out hb)
  clear HBX BX hb
  have z0 : w1.cell? ⟨w.heap.size, 0, none⟩ = some (.slice A0_0 l0_0.length c0_0) := (blk_cell BY.out 0).trans rfl
  have z1 : w1.cell? ⟨w.heap.size, 1, none⟩ = some (.slice A0_1 l0_1.length c0_1) := (blk_cell BY.out 1).trans rfl
  have z2 : w1.cell? ⟨w.heap.size, 2, none⟩ = some (.slice A0_2 l0_2.length c0_2) := (blk_cell BY.out 2).trans rfl
  go_wp2_with (fail)
  refine (newSearch_calls w1 (Kd.C_below HR0.out HBY.out) hc0_0 (Kd.C_below HR1.out HBY.out) hc0_1 (Kd.C_below HR2.out HBY.out) hc0_2).mono ?_
  rintro e w2 ⟨gs, b, rfl, hst, D, hme⟩
  have HS := Aside0.mk hst
  have HM := Aside0.mk hme
  clear hst hme
  go_wp2_with (fail)
  refine calls_of_args (args' := #[.pointer (some ⟨gs, 0, none⟩), .agg (arrV [0, 0, 0, 0, 0])]) rfl ?_
  refine (best_calls keyed hw _ [0, 0, 0, 0, 0] w2 D (okV_zero _) rfl HS.out HM.out).mono ?_
  rintro e w3 ⟨rfl, hg, D', hm'⟩
  have HB3 := Aside0.mk (below_step HBY.out (HS.out.grown HM.out hg).low)
  clear HS HM HBY hg hm' z0 z1 z2
  have hq := HRR.out
  rw [if_pos c0] at hq
  clear HRR
  generalize V l0_0 l0_1 [0, 0, 0, 0, 0] = vv at *
  go_wp2_with (fail)
  go_ret
  exact ⟨by rw [← hq]; simp, HB3.out⟩
 ·have c1 : (t == 0) = false := beq_eq_false_iff_ne.mpr c0
  go_enter Tryd.func13, Tryd.ntmps13
  go_wp2_with (fail)
  refine (impl_StateOk.calls k _ _ l0_0 _ _ l0_1 _ _ l0_2 t _ (Kd.C_below HR0.out HBX.out) hc0_0 (Kd.C_below HR1.out HBX.out) hc0_1 (Kd.C_below HR2.out HBX.out) hc0_2 HT.out).mono ?_
  rintro e w1 ⟨rfl, hb⟩
  go_wp2_with (fail)
  go_ret
  exact ⟨by have hq := HRR.out; rw [if_neg c0] at hq; simp [← hq], below_step HBX.out hb⟩
theorem implSafe_tells {R : List Int} {T : List S48} {N : List Int} (hR : R.length ≤ 1048576) (hT : T.length ≤ 1048576) (hN : N.length ≤ 1048576) : Ev (fun k => impl_Safe.f k R T N) (if okS R T N = 0 then decide (0 ≤ V R T [0, 0, 0, 0, 0]) else false) := by
 refine Ev.bind' (implStateOk_tells R T N hR hT hN) (Ev.all fun k => ?_)
 rw [if_pos rfl]
end Go.Proofs.YtkcocomehhlpmaaDoor.Sr
