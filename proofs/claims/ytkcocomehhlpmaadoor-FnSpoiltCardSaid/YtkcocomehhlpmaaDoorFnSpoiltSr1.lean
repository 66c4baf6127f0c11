/- The search of the program: its map's keys. -/
import Derived.Test.YtkcocomehhlpmaaDoorFnSpoiltSr0
import Derived.WideKeyArr2
import Derived.Maps.Views
import Derived.DeepKeys4
namespace Go.Proofs.YtkcocomehhlpmaaDoor.Sr
open Go.RowKit Go.Proofs.YtkcocomehhlpmaaDoorW.PrintWords Go.Proofs.YtkcocomehhlpmaaDoorW.PrintLast Go.Proofs.YtkcocomehhlpmaaDoorW.PrintMore Go.Proofs.YtkcocomehhlpmaaDoor.Q Go.Proofs.YtkcocomehhlpmaaDoor.Pu
set_option maxRecDepth 100000
set_option linter.unusedVariables false
set_option linter.unusedSimpArgs false
/-- A position: how far each train has come. -/
def vecV (v : List Nat) : Value := .agg (v.map (fun (x : Nat) => Value.int .i64 (x : Int))).toArray
theorem arr : Go.WideMaps.ArrKey Tryd.prog 75 3 5 := ⟨Tryd.underlying75, by kernel_rfl, by kernel_rfl, by kernel_rfl⟩
theorem key_law (hl : laidOutB Tryd.prog = true) : Go.Maps.Keyed Tryd.prog 75 := Go.Maps.Keyed.of_law (deep_law_laid hl (m := 2) (by omega) (of_decide_eq_true (by kernel_rfl)) (by kernel_rfl) arr.wide)
theorem key_int (m : Nat) (x : Nat) (hx : x ≤ 1000) : Tryd.prog.keyLits (m + 1) 3 [.int .i64 (x : Int)] = some [.int .i64 (x : Int)] := by
 have hw : (Lit.int .i64 (x : Int)).wf = true := by
  have h1 : IntKind.i64.min = -9223372036854775808 := by decide
  have h2 : IntKind.i64.max = 9223372036854775807 := by decide
  simp only [Lit.wf, Bool.and_eq_true, decide_eq_true_eq, h1, h2]
  omega
 unfold Program.keyLits
 simp [Tryd.underlying3, hw]
/-- The key of a position, as a datum. -/
def keyP (v : List Nat) : Lit := .string (keyBytes (v.map (fun (x : Nat) => Lit.int .i64 (x : Int))))
theorem key_of (v : List Nat) (hv : v.length = 5) (hb : ∀ x ∈ v, x ≤ 1000) : keyOf Tryd.prog 75 (vecV v) = some (keyP v) := by
 obtain ⟨a, b, c, d, e, rfl⟩ : ∃ a b c d e, v = [a, b, c, d, e] := by
  match v, hv with
  | [a, b, c, d, e], _ => exact ⟨a, b, c, d, e, rfl⟩
 have hs0 : 0 < Tryd.prog.types.size := of_decide_eq_true (by kernel_rfl)
 obtain ⟨m, hm⟩ : ∃ m, Tryd.prog.types.size = m + 1 := ⟨Tryd.prog.types.size - 1, by omega⟩
 have hk := arr.keyType ⟨m, hm⟩
 have h3 : Tryd.prog.cellsOf 3 = 1 := arr.one
 have h5 : Tryd.prog.cellsOf 75 = 5 := arr.size
 have ha := key_int m a (hb a (by simp))
 have hb' := key_int m b (hb b (by simp))
 have hc := key_int m c (hb c (by simp))
 have hd := key_int m d (hb d (by simp))
 have he := key_int m e (hb e (by simp))
 unfold keyOf vecV keyP
 simp only [arr.hu]
 rw [if_pos (by simp [hk, Value.formed, arr.hu, h5]), hm]
 unfold Program.keyLits
 simp only [arr.hu, Value.cells, h3, h5]
 simp [List.range, List.range.loop, ha, hb', hc, hd, he]
end Go.Proofs.YtkcocomehhlpmaaDoor.Sr
