/- Guard where nothing can be done: too many ask, or the state isn't safe. Walked by hand. -/
import Derived.Test.YtpbclogjoangfaaFnNeverQ0
import Derived.Test.YtpbclogjoangfaaFnNeverHka
namespace Go.Proofs.Ytpbclogjoangfaa.Q
open Go.RowKit Go.Proofs.YtpbclogjoangfaaW.PrintWords Go.Proofs.YtpbclogjoangfaaW.PrintLast Go.Proofs.YtpbclogjoangfaaW.PrintMore
attribute [local go_sem] max2_int min2_int max_two min_two max_three min_three max_four min_four   -- for this text's walks alone
set_option linter.unusedVariables false
set_option linter.unusedSimpArgs false



end Go.Proofs.Ytpbclogjoangfaa.Q
namespace Go.Proofs.Ytpbclogjoangfaa.Gs
open Go.RowKit Go.Maps Go.Proofs.YtpbclogjoangfaaW.PrintWords Go.Proofs.YtpbclogjoangfaaW.PrintLast Go.Proofs.YtpbclogjoangfaaW.PrintMore Go.Proofs.Ytpbclogjoangfaa.Q Go.Proofs.Ytpbclogjoangfaa.Pu Go.Proofs.Ytpbclogjoangfaa.Sr
set_option linter.unusedVariables false
set_option linter.unusedSimpArgs false
/-- Guard, where its answer is empty (elsewhere nothing is said). -/
def impl_Guard.f (k : Nat) (l0_0 : List Int) (l0_1 : List S35) (l0_2 : List Int) (l1 : List Int) : Option (List (S33)) :=
 if (l1.length : Int) > 500 then some [] else (impl_Safe.f k l0_0 l0_1 l0_2).bind fun t => if t = true then none else some []
set_option maxHeartbeats 1000000 in
set_option maxRecDepth 100000 in
theorem impl_Guard.calls (k : Nat) (A0_0 : Option Addr) (c0_0 : Nat) (l0_0 : List Int) (A0_1 : Option Addr) (c0_1 : Nat) (l0_1 : List S35) (A0_2 : Option Addr) (c0_2 : Nat) (l0_2 : List Int) (A1 : Option Addr) (c1 : Nat) (l1 : List Int) (r : List (S33)) (w : World) (hr0_0 : Kd.C (Kd.int .i64) w A0_0 l0_0.length l0_0) (hc0_0 : l0_0.length ≤ c0_0) (hr0_1 : Kd.C k35 w A0_1 l0_1.length l0_1) (hc0_1 : l0_1.length ≤ c0_1) (hr0_2 : Kd.C (Kd.int .i64) w A0_2 l0_2.length l0_2) (hc0_2 : l0_2.length ≤ c0_2) (hr1 : Kd.C (Kd.int .i64) w A1 l1.length l1) (hc1 : l1.length ≤ c1)
  (h : impl_Guard.f k l0_0 l0_1 l0_2 l1 = some r) :
  Calls Try.prog 17 #[.agg #[.slice A0_0 l0_0.length c0_0, .slice A0_1 l0_1.length c0_1, .slice A0_2 l0_2.length c0_2], .slice A1 l1.length c1] w fun e w' => ∃ v0_ : Value, e = .returned (v0_) ∧ Kd.R k33 33 w' w.heap.size (fun _ => True) v0_ r ∧ Below w.heap.size w w' := by
 have HR0 := Aside0.mk hr0_0
 have HR1 := Aside0.mk hr0_1
 have HR2 := Aside0.mk hr0_2
 have H := Aside0.mk h
 clear h hr0_0 hr0_1 hr0_2 hr1
 have hu26 := Try.underlying26
 have HBX := Aside0.mk ((Below.refl w.heap.size w).alloc (Nat.le_refl _) (.cells #[.slice A0_0 l0_0.length c0_0, .slice A0_1 l0_1.length c0_1, .slice A0_2 l0_2.length c0_2] 26))
 have BX := Aside0.mk (heap_alloc_new w (.cells #[.slice A0_0 l0_0.length c0_0, .slice A0_1 l0_1.length c0_1, .slice A0_2 l0_2.length c0_2] 26))
 by_cases c : (l1.length : Int) > 500
 ·have hq := H.out
  unfold impl_Guard.f at hq
  rw [if_pos c] at hq
  injection hq with hq
  subst hq
  clear H
  have cb : decide ((l1.length : Int) > 500) = true := decide_eq_true c
  go_enter Try.func17, Try.ntmps17
  go_wp2_with (fail)
  go_ret
  exact ⟨_, rfl, Kd.R_nil _ _ _ _ _, HBX.out⟩
 ·have hq := H.out
  unfold impl_Guard.f at hq
  rw [if_neg c] at hq
  obtain ⟨t, ht, hq⟩ := Option.bind_eq_some_iff.mp hq
  cases t with
  | true => rw [if_pos rfl] at hq; exact absurd hq (by simp)
  | false =>
   rw [if_neg (by simp)] at hq
   injection hq with hq
   subst hq
   have HT := Aside0.mk ht
   clear H ht
   have cb : decide ((l1.length : Int) > 500) = false := decide_eq_false c
   go_enter Try.func17, Try.ntmps17
   go_wp2_with (fail)
   refine (impl_Safe.calls k _ _ l0_0 _ _ l0_1 _ _ l0_2 false _ (Kd.C_below HR0.out HBX.out) hc0_0 (Kd.C_below HR1.out HBX.out) hc0_1 (Kd.C_below HR2.out HBX.out) hc0_2 HT.out).mono ?_
   rintro e w1 ⟨rfl, hb⟩
   have HBY := Aside0.mk (below_step HBX.out hb)
   clear HBX hb
   go_wp2_with (fail)
   go_ret
   exact ⟨_, rfl, Kd.R_nil _ _ _ _ _, HBY.out⟩
end Go.Proofs.Ytpbclogjoangfaa.Gs
