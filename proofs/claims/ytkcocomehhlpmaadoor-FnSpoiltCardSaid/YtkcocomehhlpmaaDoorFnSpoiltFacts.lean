/- Closed facts of the seat's program, alike for all of its rows. The head's words are read as a list once. -/
import Derived.Test.YtkcocomehhlpmaaDoorRows
import Derived.JoinedOf
import Derived.KernelRfl
namespace Go.Proofs.YtkcocomehhlpmaaDoor.Facts
open Go
set_option maxRecDepth 100000
theorem make_cut {P : Program} {l : List Char} (h : P.initOrder.toList = l) {rest : List (List Char)} (hb : behindMainWord (wordsSigns l) = "cut".toList :: rest) : P.make = some .cut := by
 unfold Program.make
 rw [h, hb]
 rfl
theorem headLifts_cut {P : Program} {l : List Char} (h : P.initOrder.toList = l) {rest : List (List Char)} (hb : behindMainWord (wordsSigns l) = "cut".toList :: rest) : P.headLifts = [] := by
 unfold Program.headLifts
 rw [h, hb]
 rfl
theorem lifts_cut {P : Program} {l : List Char} (h : P.initOrder.toList = l) {rest : List (List Char)} (hb : behindMainWord (wordsSigns l) = "cut".toList :: rest) : P.liftsFinal = false := by
 unfold Program.liftsFinal
 rw [headLifts_cut h hb, h, hb]
 rfl
theorem enter_cut {P : Program} {l : List Char} (h : P.initOrder.toList = l) {rest : List (List Char)} (hb : behindMainWord (wordsSigns l) = "cut".toList :: rest)
  (h1 : P.laysLater = false) (h2 : P.bearsReflect = false) (h3 : P.doorFits [] = true) : P.mayEnter = true := by
 have e : stripLifts liftWords ("cut".toList :: rest) = ([], "cut".toList :: rest) := rfl
 unfold Program.mayEnter
 rw [h, hb]
 simp only [e, h1, h2, h3]
 rfl
theorem head_is : Tryd.prog.initOrder = "harness f4891e62ff3d586fb5a9e2313a96513b1004b66531c4a67ec84b0c4ad287e08a cut at loop.example/regulator/laws.FnExactShown loop.example/regulator/laws.FnSpoilt" := by kernel_rfl
theorem head_list : "harness f4891e62ff3d586fb5a9e2313a96513b1004b66531c4a67ec84b0c4ad287e08a cut at loop.example/regulator/laws.FnExactShown loop.example/regulator/laws.FnSpoilt" = String.ofList [Char.ofNat 104, Char.ofNat 97, Char.ofNat 114, Char.ofNat 110, Char.ofNat 101, Char.ofNat 115, Char.ofNat 115, Char.ofNat 32, Char.ofNat 102, Char.ofNat 52, Char.ofNat 56, Char.ofNat 57, Char.ofNat 49, Char.ofNat 101, Char.ofNat 54, Char.ofNat 50, Char.ofNat 102, Char.ofNat 102, Char.ofNat 51, Char.ofNat 100, Char.ofNat 53, Char.ofNat 56, Char.ofNat 54, Char.ofNat 102, Char.ofNat 98, Char.ofNat 53, Char.ofNat 97, Char.ofNat 57, Char.ofNat 101, Char.ofNat 50, Char.ofNat 51, Char.ofNat 49, Char.ofNat 51, Char.ofNat 97, Char.ofNat 57, Char.ofNat 54, Char.ofNat 53, Char.ofNat 49, Char.ofNat 51, Char.ofNat 98, Char.ofNat 49, Char.ofNat 48, Char.ofNat 48, Char.ofNat 52, Char.ofNat 98, Char.ofNat 54, Char.ofNat 54, Char.ofNat 53, Char.ofNat 51, Char.ofNat 49, Char.ofNat 99, Char.ofNat 52, Char.ofNat 97, Char.ofNat 54, Char.ofNat 55, Char.ofNat 101, Char.ofNat 99, Char.ofNat 56, Char.ofNat 52, Char.ofNat 98, Char.ofNat 48, Char.ofNat 99, Char.ofNat 52, Char.ofNat 97, Char.ofNat 100, Char.ofNat 50, Char.ofNat 56, Char.ofNat 55, Char.ofNat 101, Char.ofNat 48, Char.ofNat 56, Char.ofNat 97, Char.ofNat 32, Char.ofNat 99, Char.ofNat 117, Char.ofNat 116, Char.ofNat 32, Char.ofNat 97, Char.ofNat 116, Char.ofNat 32, Char.ofNat 108, Char.ofNat 111, Char.ofNat 111, Char.ofNat 112, Char.ofNat 46, Char.ofNat 101, Char.ofNat 120, Char.ofNat 97, Char.ofNat 109, Char.ofNat 112, Char.ofNat 108, Char.ofNat 101, Char.ofNat 47, Char.ofNat 114, Char.ofNat 101, Char.ofNat 103, Char.ofNat 117, Char.ofNat 108, Char.ofNat 97, Char.ofNat 116, Char.ofNat 111, Char.ofNat 114, Char.ofNat 47, Char.ofNat 108, Char.ofNat 97, Char.ofNat 119, Char.ofNat 115, Char.ofNat 46, Char.ofNat 70, Char.ofNat 110, Char.ofNat 69, Char.ofNat 120, Char.ofNat 97, Char.ofNat 99, Char.ofNat 116, Char.ofNat 83, Char.ofNat 104, Char.ofNat 111, Char.ofNat 119, Char.ofNat 110, Char.ofNat 32, Char.ofNat 108, Char.ofNat 111, Char.ofNat 111, Char.ofNat 112, Char.ofNat 46, Char.ofNat 101, Char.ofNat 120, Char.ofNat 97, Char.ofNat 109, Char.ofNat 112, Char.ofNat 108, Char.ofNat 101, Char.ofNat 47, Char.ofNat 114, Char.ofNat 101, Char.ofNat 103, Char.ofNat 117, Char.ofNat 108, Char.ofNat 97, Char.ofNat 116, Char.ofNat 111, Char.ofNat 114, Char.ofNat 47, Char.ofNat 108, Char.ofNat 97, Char.ofNat 119, Char.ofNat 115, Char.ofNat 46, Char.ofNat 70, Char.ofNat 110, Char.ofNat 83, Char.ofNat 112, Char.ofNat 111, Char.ofNat 105, Char.ofNat 108, Char.ofNat 116] := by kernel_rfl
theorem head_signs : Tryd.prog.initOrder.toList = [Char.ofNat 104, Char.ofNat 97, Char.ofNat 114, Char.ofNat 110, Char.ofNat 101, Char.ofNat 115, Char.ofNat 115, Char.ofNat 32, Char.ofNat 102, Char.ofNat 52, Char.ofNat 56, Char.ofNat 57, Char.ofNat 49, Char.ofNat 101, Char.ofNat 54, Char.ofNat 50, Char.ofNat 102, Char.ofNat 102, Char.ofNat 51, Char.ofNat 100, Char.ofNat 53, Char.ofNat 56, Char.ofNat 54, Char.ofNat 102, Char.ofNat 98, Char.ofNat 53, Char.ofNat 97, Char.ofNat 57, Char.ofNat 101, Char.ofNat 50, Char.ofNat 51, Char.ofNat 49, Char.ofNat 51, Char.ofNat 97, Char.ofNat 57, Char.ofNat 54, Char.ofNat 53, Char.ofNat 49, Char.ofNat 51, Char.ofNat 98, Char.ofNat 49, Char.ofNat 48, Char.ofNat 48, Char.ofNat 52, Char.ofNat 98, Char.ofNat 54, Char.ofNat 54, Char.ofNat 53, Char.ofNat 51, Char.ofNat 49, Char.ofNat 99, Char.ofNat 52, Char.ofNat 97, Char.ofNat 54, Char.ofNat 55, Char.ofNat 101, Char.ofNat 99, Char.ofNat 56, Char.ofNat 52, Char.ofNat 98, Char.ofNat 48, Char.ofNat 99, Char.ofNat 52, Char.ofNat 97, Char.ofNat 100, Char.ofNat 50, Char.ofNat 56, Char.ofNat 55, Char.ofNat 101, Char.ofNat 48, Char.ofNat 56, Char.ofNat 97, Char.ofNat 32, Char.ofNat 99, Char.ofNat 117, Char.ofNat 116, Char.ofNat 32, Char.ofNat 97, Char.ofNat 116, Char.ofNat 32, Char.ofNat 108, Char.ofNat 111, Char.ofNat 111, Char.ofNat 112, Char.ofNat 46, Char.ofNat 101, Char.ofNat 120, Char.ofNat 97, Char.ofNat 109, Char.ofNat 112, Char.ofNat 108, Char.ofNat 101, Char.ofNat 47, Char.ofNat 114, Char.ofNat 101, Char.ofNat 103, Char.ofNat 117, Char.ofNat 108, Char.ofNat 97, Char.ofNat 116, Char.ofNat 111, Char.ofNat 114, Char.ofNat 47, Char.ofNat 108, Char.ofNat 97, Char.ofNat 119, Char.ofNat 115, Char.ofNat 46, Char.ofNat 70, Char.ofNat 110, Char.ofNat 69, Char.ofNat 120, Char.ofNat 97, Char.ofNat 99, Char.ofNat 116, Char.ofNat 83, Char.ofNat 104, Char.ofNat 111, Char.ofNat 119, Char.ofNat 110, Char.ofNat 32, Char.ofNat 108, Char.ofNat 111, Char.ofNat 111, Char.ofNat 112, Char.ofNat 46, Char.ofNat 101, Char.ofNat 120, Char.ofNat 97, Char.ofNat 109, Char.ofNat 112, Char.ofNat 108, Char.ofNat 101, Char.ofNat 47, Char.ofNat 114, Char.ofNat 101, Char.ofNat 103, Char.ofNat 117, Char.ofNat 108, Char.ofNat 97, Char.ofNat 116, Char.ofNat 111, Char.ofNat 114, Char.ofNat 47, Char.ofNat 108, Char.ofNat 97, Char.ofNat 119, Char.ofNat 115, Char.ofNat 46, Char.ofNat 70, Char.ofNat 110, Char.ofNat 83, Char.ofNat 112, Char.ofNat 111, Char.ofNat 105, Char.ofNat 108, Char.ofNat 116] := by rw [head_is, head_list, String.toList_ofList]
theorem head_words : behindMainWord (wordsSigns Tryd.prog.initOrder.toList) = "cut".toList :: (behindMainWord (wordsSigns Tryd.prog.initOrder.toList)).tail := by
 rw [head_signs]
 kernel_rfl
theorem laysLater_no : Tryd.prog.laysLater = false := by kernel_rfl
theorem bearsReflect_no : Tryd.prog.bearsReflect = false := by kernel_rfl
theorem doorFits_yes : Tryd.prog.doorFits [] = true := by kernel_rfl
theorem mayEnter_ok : Tryd.prog.mayEnter = true := enter_cut rfl head_words laysLater_no bearsReflect_no doorFits_yes
theorem lifted_ok : Tryd.prog.liftsFinal = false := lifts_cut rfl head_words
theorem make_ok : Tryd.prog.make = some .cut := make_cut rfl head_words
theorem laid_ok : laidOutB Tryd.prog = true := by kernel_rfl
theorem maps_ok : mapsRowed Tryd.prog = true := by kernel_rfl
theorem own : ownKnob Tryd.prog.godebug = none := by kernel_rfl
end Go.Proofs.YtkcocomehhlpmaaDoor.Facts
