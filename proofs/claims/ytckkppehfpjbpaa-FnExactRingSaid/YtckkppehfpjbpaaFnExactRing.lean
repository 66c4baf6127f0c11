/- FnExactRing: called with any arguments that can be read, the law returns true. No condition beyond the row's own. -/
import Derived.Test.YtckkppehfpjbpaaRows
import Derived.Test.YtckkppehfpjbpaaFnExactRingFacts
import Derived.Test.YtckkppehfpjbpaaFnExactRingOpen
import Derived.Test.YtckkppehfpjbpaaFnExactRingLwFnExactRing
import Derived.Test.YtckkppehfpjbpaaFnExactRingPuRing
import Derived.WalkKit
import Derived.ProofKit
import Derived.OpenShut
import Derived.ShutString
import Derived.ChangeOld
import Derived.Below
import Derived.SizedLaws
namespace Go.Proofs.Ytckkppehfpjbpaa.fnExactRing
open Go.ChangeShapes Go.WideShapes Go.ChangeAt Go.RowKit
set_option linter.unusedVariables false
set_option maxRecDepth 100000 in
theorem lifted (os : Os) (started : os.Started) (H : Type) (enc : TypeId × Value → H) :
  ReturnsInHanded {} Try.checked os 3 .any (Rows.fnExactRingSpec.pre6 enc Try.prog Try.f3 Rows.fnExactRingRow.domain false) (Rows.fnExactRingSpec.post enc Try.prog Try.f3 false true false false) := by
 refine returnsInHanded_of_change_sized (C := Try.checked) Facts.own started (by kernel_rfl) Try.func3
  (ChangeSpec.witness6 (enc := enc) (C := Try.checked) false ⟨#[], #[.agg #[.slice none 0 0, .slice none 0 0, .slice none 0 0]], []⟩ 8 (by kernel_rfl) (by kernel_rfl) (by kernel_rfl) (by kernel_rfl)) ?_
 intro W base args ds gs before hval0 hW hcnd hsz0 _
 have hval : ∀ (j : Nat) t v, Try.f3.params[j]? = some t → args[j]? = some v → Value.okWide Try.prog W .any base t v := hval0
 have hW' := hW
 obtain ⟨p, q, hA0, hV, rfl, hfz, hnd⟩ := hW
 have hA : DataW.TrodAll enc Try.prog W 0 (fun _ => true) true Try.f3.params.toList args.toList ds p := hA0
 rw [Try.params3] at hA hval
 obtain ⟨v0, vs0, d0, ds0, p0, q0, hargs, rfl, rfl, h0, r0⟩ := trodAll_cons hA
 obtain ⟨rfl, rfl, rfl⟩ := trodAll_nil r0
 obtain rfl : args = #[v0] := by cases args; simp_all
 obtain ⟨rfl, rfl⟩ := trodVars_none hV
 have k0 := h0
 have lt0 : ∀ x ∈ p0, x.block < W.heap.size := by obtain ⟨m, hm⟩ := k0; exact DataW.trod_lt m _ _ _ hm
 obtain ⟨l0_0, A0_0, c0_0, l0_1, A0_1, c0_1, l0_2, A0_2, c0_2, rfl, s0_0, b0_0, s0_1, b0_1, s0_2, b0_2⟩ := Opn.open_state (hval 0 25 v0 rfl rfl) h0
 clear hA0 hval0 hsz0
 refine (Lw.FnExactRing_calls A0_0 c0_0 l0_0 A0_1 c0_1 l0_1 A0_2 c0_2 l0_2 W s0_0 b0_0 s0_1 b0_1 s0_2 b0_2 (Pu.Mem.of_reads s0_0 s0_1 s0_2) (fun hs => Pu.FnExactRing l0_0 l0_1 l0_2 hs)).mono fun e W' ⟨he, bel0⟩ => ?_
 have bel : Below W.heap.size W W' := bel0
 subst he
 exact ⟨_, rfl, _, _, _, [], _, [], hW', trodAll_mk1 (shut_bool Try.underlying4 _), trodAll_mk1 (Below.trod Facts.laid_ok (by kernel_rfl) (of_decide_eq_true (by kernel_rfl)) k0 bel lt0), rfl, bel.frame _, fun h => by cases h⟩
theorem lifted_ok : (Rows.fnExactRingRow.lifted == Try.prog.liftsFinal) = true := by
 rw [Facts.lifted_ok]
 kernel_rfl
theorem make_ok : (Try.prog.make == some Rows.fnExactRingRow.make) = true := by
 rw [Facts.make_ok]
 kernel_rfl
set_option maxRecDepth 100000 in
theorem facts : joinedFacts Try.prog 3 Try.f3 Rows.fnExactRingSpec Rows.fnExactRingRow = true := by
 unfold joinedFacts
 repeat' (with_reducible refine (Bool.and_eq_true _ _).mpr ⟨?_, ?_⟩)
 all_goals first | with_reducible exact Facts.laid_ok | with_reducible exact Facts.maps_ok | with_reducible exact Facts.mayEnter_ok | with_reducible exact lifted_ok | with_reducible exact make_ok | kernel_rfl
theorem over : Rows.fnExactRingRow.holds Try.pinned (OpenSpec.ofChange Rows.fnExactRingSpec) :=
 OpenClaim.holds_of_wide 3 Try.f3 rfl rfl rfl rfl rfl rfl rfl ⟨rfl, rfl, rfl, rfl, rfl⟩ rfl rfl rfl rfl rfl (by kernel_rfl) Try.func3 facts
  (of_decide_eq_true (by kernel_rfl)) (by unfold Func.isWrapper; first | (rw [if_pos (by decide +kernel)]; kernel_rfl) | (rw [if_neg (by decide +kernel)]; exact ⟨rfl, rfl⟩))
  (fun os started H enc _ => lifted os started H enc)
theorem fnExactRing_holds : Rows.FnExactRingSaid := over
#print axioms fnExactRing_holds
end Go.Proofs.Ytckkppehfpjbpaa.fnExactRing
