/- FnExactShown: called with any arguments that can be read, the law returns true. No condition beyond the row's own. -/
import Derived.Test.YtkcocomehhlpmaaDoorRows
import Derived.Test.YtkcocomehhlpmaaDoorFnExactShownFacts
import Derived.Test.YtkcocomehhlpmaaDoorFnExactShownOpen
import Derived.Test.YtkcocomehhlpmaaDoorFnExactShownLwFnExactShown
import Derived.Test.YtkcocomehhlpmaaDoorFnExactShownPuShown
import Derived.Test.YtkcocomehhlpmaaDoorCards
import Derived.Test.YtkcocomehhlpmaaDoorTie
import Derived.LaidMore
import Derived.Stop.Joined
import Derived.Stop.LaidErr
import Derived.Lib.LaidTab
import Derived.MakeChecks
import Derived.SevenTiedAt
import Derived.WalkKit
import Derived.ProofKit
import Derived.OpenShut
import Derived.ShutString
import Derived.ChangeOld
import Derived.Below
import Derived.SizedLaws
namespace Go.Proofs.YtkcocomehhlpmaaDoor.fnExactShown
open Go.ChangeShapes Go.WideShapes Go.ChangeAt Go.RowKit
set_option linter.unusedVariables false
/-- The door's own heap meets the condition. -/
theorem door_met (os : Os) (args : Array Value) : laidMetH Tryd.prog Rows.fnExactShownRow.laid ((World.doorLaid Tryd.prog 100 os).forCall (fun _ _ => 0) ⟨#[], args, []⟩).memory :=
 laidMetH_of_parts3 (fuel := 8) (laidMet_of_run' 8 (by kernel_rfl) (by kernel_rfl)) (by kernel_rfl) (by kernel_rfl)
theorem gTab : Tryd.prog.globalNamed "internal/strconv.uint64pow10" = some ((Tryd.prog.globalNamed "internal/strconv.uint64pow10").getD 0) := by kernel_rfl
theorem gTabType : (Tryd.prog.globals[(Tryd.prog.globalNamed "internal/strconv.uint64pow10").getD 0]?).map (·.type) = some 105 := by kernel_rfl
theorem tab_data : (Rows.laid_internal_strconv_uint64pow10 : DataW Unit) = Lib.tabData .u64 Lib.pow10Tab := by
 unfold Rows.laid_internal_strconv_uint64pow10 Lib.tabData Lib.pow10Tab
 rfl
theorem tab_of_laid {W : World} (h : laidMetH Tryd.prog Rows.fnExactShownRow.laid W) : Sh.Tab W := by
 rw [MakeChecks.laidMetH_plain _ _ _ (by kernel_rfl)] at h
 have h3 : laidMet Tryd.prog (("internal/strconv.uint64pow10", Lib.tabData .u64 Lib.pow10Tab) :: []) W := by
  rw [← tab_data]
  exact laidMet.tail (laidMet.tail h)
 exact Lib.tabIs_of_head gTab gTabType Tryd.underlying105 Tryd.underlying65 (by kernel_rfl) (by kernel_rfl) h3
set_option maxRecDepth 100000 in
theorem lifted (os : Os) (started : os.Started) (H : Type) (enc : TypeId × Value → H) :
  ReturnsInHanded {} Tryd.checked os 3 .any (fun w args => (Rows.fnExactShownSpec.pre enc Tryd.prog Tryd.f3 Rows.fnExactShownRow.domain false w args ∧ laidMetH Tryd.prog Rows.fnExactShownRow.laid w) ∧ sizedMet enc Tryd.prog Tryd.f3 (OpenSpec.ofChange Rows.fnExactShownSpec) false w args) (Rows.fnExactShownSpec.post enc Tryd.prog Tryd.f3 false true false false) := by
 refine returnsInHanded_of_change_and (C := Tryd.checked) (X := fun w _ => laidMetH Tryd.prog Rows.fnExactShownRow.laid w) (fun _ _ _ hh h => h.of_heap hh) Facts.own started (by kernel_rfl) Tryd.func3
  (ChangeSpec.witness_shaped (enc := enc) (C := Tryd.checked) (os := os) (X := fun w _ => laidMetH Tryd.prog Rows.fnExactShownRow.laid w) false (World.doorLaid Tryd.prog 100 os) #[.agg #[.slice none 0 0, .slice none 0 0, .slice none 0 0]] 8 rfl (World.shaped_of_RefB (by kernel_rfl) (by kernel_rfl)) (by kernel_rfl) (by kernel_rfl) (by kernel_rfl) (door_met os _)) ?_
 intro W base args ds gs before hval0 hW hcnd hsz0 hL _
 have htab := tab_of_laid hL
 have hval : ∀ (j : Nat) t v, Tryd.f3.params[j]? = some t → args[j]? = some v → Value.okWide Tryd.prog W .any base t v := hval0
 have hW' := hW
 obtain ⟨p, q, hA0, hV, rfl, hfz, hnd⟩ := hW
 have hA : DataW.TrodAll enc Tryd.prog W 0 (fun _ => true) true Tryd.f3.params.toList args.toList ds p := hA0
 rw [Tryd.params3] at hA hval
 obtain ⟨v0, vs0, d0, ds0, p0, q0, hargs, rfl, rfl, h0, r0⟩ := trodAll_cons hA
 obtain ⟨rfl, rfl, rfl⟩ := trodAll_nil r0
 obtain rfl : args = #[v0] := by cases args; simp_all
 obtain ⟨rfl, rfl⟩ := trodVars_none hV
 have k0 := h0
 have lt0 : ∀ x ∈ p0, x.block < W.heap.size := by obtain ⟨m, hm⟩ := k0; exact DataW.trod_lt m _ _ _ hm
 obtain ⟨l0_0, A0_0, c0_0, l0_1, A0_1, c0_1, l0_2, A0_2, c0_2, rfl, s0_0, b0_0, s0_1, b0_1, s0_2, b0_2⟩ := Opn.open_state (hval 0 25 v0 rfl rfl) h0
 clear hA0 hval0 hsz0
 refine (Lw.FnExactShown_calls A0_0 c0_0 l0_0 A0_1 c0_1 l0_1 A0_2 c0_2 l0_2 W s0_0 b0_0 s0_1 b0_1 s0_2 b0_2 (Pu.Mem.of_reads s0_0 s0_1 s0_2) htab (fun hs => Pu.FnExactShown l0_0 l0_1 l0_2 hs)).mono fun e W' ⟨he, bel0⟩ => ?_
 have bel : Below W.heap.size W W' := bel0
 subst he
 exact ⟨_, rfl, _, _, _, [], _, [], hW', trodAll_mk1 (shut_bool Tryd.underlying4 _), trodAll_mk1 (Below.trod Facts.laid_ok (by kernel_rfl) (of_decide_eq_true (by kernel_rfl)) k0 bel lt0), rfl, bel.frame _, fun h => by cases h⟩
theorem lifted_ok : (Rows.fnExactShownRow.lifted == Tryd.prog.liftsFinal) = true := by
 rw [Facts.lifted_ok]
 kernel_rfl
theorem make_ok : (Tryd.prog.make == some Rows.fnExactShownRow.make) = true := by
 rw [Facts.make_ok]
 kernel_rfl
set_option maxRecDepth 100000 in
theorem facts : joinedFacts Tryd.prog 3 Tryd.f3 Rows.fnExactShownSpec Rows.fnExactShownRow = true := by
 unfold joinedFacts
 repeat' (with_reducible refine (Bool.and_eq_true _ _).mpr ⟨?_, ?_⟩)
 all_goals first | with_reducible exact Facts.laid_ok | with_reducible exact Facts.maps_ok | with_reducible exact Facts.mayEnter_ok | with_reducible exact lifted_ok | with_reducible exact make_ok | kernel_rfl
theorem over : Rows.fnExactShownRow.holds Tryd.pinned (OpenSpec.ofChange Rows.fnExactShownSpec) :=
 OpenClaim.holds_of_wide 3 Tryd.f3 rfl rfl rfl rfl rfl rfl rfl ⟨rfl, rfl, rfl, rfl, rfl⟩ rfl rfl rfl rfl rfl (by kernel_rfl) Tryd.func3 facts
  (of_decide_eq_true (by kernel_rfl)) (by unfold Func.isWrapper; first | (rw [if_pos (by decide +kernel)]; kernel_rfl) | (rw [if_neg (by decide +kernel)]; exact ⟨rfl, rfl⟩))
  (fun os started H enc _ => lifted os started H enc)
set_option maxRecDepth 100000 in
theorem fnExactShown_holds : Rows.FnExactShownCardSaid :=
 Claim7.holds_tied_plain_at .later [] [.data, .data, .data] true (true, "f4891e62ff3d586fb5a9e2313a96513b1004b66531c4a67ec84b0c4ad287e08a") false
  over (fun _ h => by cases h) (by kernel_rfl) (fun _ h => by cases h) fnExactShown_row_tie rfl ⟨rfl, rfl⟩ (by kernel_rfl) rfl
  (fun f fn hf hfn => by
   obtain rfl : f = 3 := Option.some.inj ((show Tryd.prog.funcNamed "loop.example/regulator/laws.FnExactShown" = some 3 by kernel_rfl).symm.trans hf) |>.symm
   obtain rfl : fn = Tryd.f3 := (Option.some.inj (Tryd.func3.symm.trans hfn)).symm
   exact ⟨by kernel_rfl, fun j t ht => by
    rw [Tryd.params3] at ht
    have hm : t ∈ ([25] : List Nat) := by simpa using Array.mem_of_getElem? ht
    have hall : (([25] : List Nat).all fun u => !Tryd.prog.wantsStandIn u) = true := by kernel_rfl
    exact (show Tryd.prog.wantsStandIn t = false by simpa using List.all_eq_true.1 hall t hm)⟩)
  (by kernel_rfl)
#print axioms fnExactShown_holds
end Go.Proofs.YtkcocomehhlpmaaDoor.fnExactShown
