/- The search of the program: a new one; Safe. Walked by hand. -/
import Derived.Test.YtpbclogjoangfaaFnEasierSr7
import Derived.Test.YtpbclogjoangfaaFnEasierFacts
import Derived.Test.YtpbclogjoangfaaFnEasierPure3
import Derived.Test.YtpbclogjoangfaaFnEasierQ4
namespace Go.Proofs.Ytpbclogjoangfaa.Sr
open Go.RowKit Go.Maps Go.Proofs.YtpbclogjoangfaaW.PrintWords Go.Proofs.YtpbclogjoangfaaW.PrintLast Go.Proofs.YtpbclogjoangfaaW.PrintMore Go.Proofs.Ytpbclogjoangfaa.Q Go.Proofs.Ytpbclogjoangfaa.Pu
attribute [local go_sem] max2_int min2_int max_two min_two max_three min_three max_four min_four
set_option linter.unusedVariables false
set_option linter.unusedSimpArgs false
theorem keyed : Keyed Try.prog 74 := key_law Facts.laid_ok
set_option maxHeartbeats 1000000 in
set_option maxRecDepth 100000 in
theorem newSearch_calls (W : World) {A0 : Option Addr} {c0 : Nat} {l0 : List Int} {A1 : Option Addr} {c1 : Nat} {l1 : List S35} {A2 : Option Addr} {c2 : Nat} {l2 : List Int}
  (r0 : Kd.C (Kd.int .i64) W A0 l0.length l0) (h0 : l0.length ≤ c0) (r1 : Kd.C k35 W A1 l1.length l1) (h1 : l1.length ≤ c1) (r2 : Kd.C (Kd.int .i64) W A2 l2.length l2) (h2 : l2.length ≤ c2) :
  Calls Try.prog 64 #[.agg #[.slice A0 l0.length c0, .slice A1 l1.length c1, .slice A2 l2.length c2]] W fun e W' => ∃ gs b, e = .returned (.pointer (some ⟨gs, 0, none⟩)) ∧ St W W' gs A0 c0 l0 A1 c1 l1 A2 c2 l2 b ∧ ∃ D, Memo W' b l0 l1 D := by
 have hmm := @run_makeMap Try.prog
 have hu26 := Try.underlying26
 have hu88 := Try.underlying88
 go_enter Try.func64, Try.ntmps64
 go_wp2_with (fail)
 go_ret
 have e1 : ((W.alloc (.cells #[.slice A0 l0.length c0, .slice A1 l1.length c1, .slice A2 l2.length c2] 26))).heap.size = W.heap.size + 1 := by simp
 have e2 : (((W.alloc (.cells #[.slice A0 l0.length c0, .slice A1 l1.length c1, .slice A2 l2.length c2] 26))).alloc (.map #[] 0)).heap.size = W.heap.size + 1 + 1 := by simp
 have hb1 : Below W.heap.size W (W.alloc (.cells #[.slice A0 l0.length c0, .slice A1 l1.length c1, .slice A2 l2.length c2] 26)) := (Below.refl _ _).alloc (Nat.le_refl _) _
 have hb2 : Below W.heap.size W ((W.alloc (.cells #[.slice A0 l0.length c0, .slice A1 l1.length c1, .slice A2 l2.length c2] 26)).alloc (.map #[] 0)) := hb1.alloc (by omega) _
 have hm := Memo.made (W.alloc (.cells #[.slice A0 l0.length c0, .slice A1 l1.length c1, .slice A2 l2.length c2] 26)) l0 l1
 rw [e1] at hm
 refine ⟨W.heap.size + 1 + 1, W.heap.size + 1, by simp, ⟨?_, hb2.alloc (by omega) _, by omega, by omega, r0, h0, r1, h1, r2, h2⟩, _, hm.kept (World.grownBy_alloc _ _ none) (by simp)⟩
 rw [← e2]
 exact heap_alloc_new _ _
end Go.Proofs.Ytpbclogjoangfaa.Sr
