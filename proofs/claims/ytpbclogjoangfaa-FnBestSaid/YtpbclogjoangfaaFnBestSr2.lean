/- The search of the program, as plain Lean: positions, moves, what a position costs. No program in sight. -/
import Derived.Test.YtpbclogjoangfaaFnBestSr0
import Derived.WideKeyArr2
import Derived.Maps.Views
import Derived.DeepKeys4
namespace Go.Proofs.Ytpbclogjoangfaa.Sr
open Go.RowKit Go.Proofs.YtpbclogjoangfaaW.PrintWords Go.Proofs.YtpbclogjoangfaaW.PrintLast Go.Proofs.YtpbclogjoangfaaW.PrintMore Go.Proofs.Ytpbclogjoangfaa.Q Go.Proofs.Ytpbclogjoangfaa.Pu
set_option linter.unusedVariables false
set_option linter.unusedSimpArgs false
/-- A position: how far each train has come. -/
def vecV (v : List Nat) : Value := .agg (v.map (fun (x : Nat) => Value.int .i64 (x : Int))).toArray
theorem arr : Go.WideMaps.ArrKey Try.prog 74 3 5 := ⟨Try.underlying74, by kernel_rfl, by kernel_rfl, by kernel_rfl⟩
theorem key_law (hl : laidOutB Try.prog = true) : Go.Maps.Keyed Try.prog 74 := Go.Maps.Keyed.of_law (deep_law_laid hl (m := 2) (by omega) (of_decide_eq_true (by kernel_rfl)) (by kernel_rfl) arr.wide)
theorem key_int (m : Nat) (x : Nat) (hx : x ≤ 1000) : Try.prog.keyLits (m + 1) 3 [.int .i64 (x : Int)] = some [.int .i64 (x : Int)] := by
 have hw : (Lit.int .i64 (x : Int)).wf = true := by
  have h1 : IntKind.i64.min = -9223372036854775808 := by decide
  have h2 : IntKind.i64.max = 9223372036854775807 := by decide
  simp only [Lit.wf, Bool.and_eq_true, decide_eq_true_eq, h1, h2]
  omega
 unfold Program.keyLits
 simp [Try.underlying3, hw]
/-- The key of a position, as a datum. -/
def keyP (v : List Nat) : Lit := .string (keyBytes (v.map (fun (x : Nat) => Lit.int .i64 (x : Int))))
theorem key_of (v : List Nat) (hv : v.length = 5) (hb : ∀ x ∈ v, x ≤ 1000) : keyOf Try.prog 74 (vecV v) = some (keyP v) := by
 obtain ⟨a, b, c, d, e, rfl⟩ : ∃ a b c d e, v = [a, b, c, d, e] := by
  match v, hv with
  | [a, b, c, d, e], _ => exact ⟨a, b, c, d, e, rfl⟩
 have hs0 : 0 < Try.prog.types.size := of_decide_eq_true (by kernel_rfl)
 obtain ⟨m, hm⟩ : ∃ m, Try.prog.types.size = m + 1 := ⟨Try.prog.types.size - 1, by omega⟩
 have hk := arr.keyType ⟨m, hm⟩
 have h3 : Try.prog.cellsOf 3 = 1 := arr.one
 have h5 : Try.prog.cellsOf 74 = 5 := arr.size
 have ha := key_int m a (hb a (by simp))
 have hb' := key_int m b (hb b (by simp))
 have hc := key_int m c (hb c (by simp))
 have hd := key_int m d (hb d (by simp))
 have he := key_int m e (hb e (by simp))
 unfold keyOf vecV keyP
 simp only [arr.hu]
 rw [if_pos (by simp [hk, Value.formed, arr.hu, h5]), hm]
 unfold Program.keyLits
 simp only [arr.hu, Value.cells, h3, h5]
 simp [List.range, List.range.loop, ha, hb', hc, hd, he]
end Go.Proofs.Ytpbclogjoangfaa.Sr
namespace Go.Proofs.Ytpbclogjoangfaa.Sr
open Go.RowKit Go.Proofs.YtpbclogjoangfaaW.PrintWords Go.Proofs.YtpbclogjoangfaaW.PrintLast Go.Proofs.Ytpbclogjoangfaa.Q Go.Proofs.Ytpbclogjoangfaa.Pu
set_option linter.unusedVariables false
set_option linter.unusedSimpArgs false
/-- Where train i is at position v. -/
def atP (T : List S35) (v : List Nat) (i : Nat) : Int := atD (T.getD i z35) (v.getD i 0)
/-- Where it is next. -/
def toP (T : List S35) (v : List Nat) (i : Nat) : Int := atD (T.getD i z35) (v.getD i 0 + 1)
/-- How many of the first n trains are on a. -/
def thP (T : List S35) (v : List Nat) (a : Int) (n : Nat) : Nat := (List.range n).countP (fun i => decide (atP T v i = a))
def okP (R : List Int) (T : List S35) (v : List Nat) (i : Nat) : Bool :=
 decide (0 ≤ atP T v i) && (decide (toP T v i < 0) || decide ((thP T v (toP T v i) T.length : Int) < R.getD (toP T v i).toNat 0))
/-- The trains, of the first n, that can move. -/
def mvP (R : List Int) (T : List S35) (v : List Nat) (n : Nat) : List Nat := (List.range n).filter (okP R T v)
def inc (v : List Nat) (i : Nat) : List Nat := v.set i (v.getD i 0 + 1)
/-- The weight of those, of the first n, that have not left. -/
def wtP (T : List S35) (v : List Nat) : Nat → Int
 | 0 => 0
 | n + 1 => wtP T v n + (if 0 ≤ atP T v n then (T.getD n z35).f2 else 0)
def hereP (T : List S35) (v : List Nat) (n : Nat) : Bool := (List.range n).any (fun i => decide (0 ≤ atP T v i))
/-- The better of what was found and a way that costs m from there. -/
def betP (w c m : Int) : Int := if 0 ≤ m ∧ (c < 0 ∨ m + w < c) then m + w else c
def valP (R : List Int) (T : List S35) : Nat → List Nat → Int
 | 0, _ => -1
 | k + 1, v => (mvP R T v T.length).foldl (fun c i => betP (wtP T v T.length) c (valP R T k (inc v i))) (if hereP T v T.length = true then -1 else 0)
/-- How much of the ways is left. -/
def lftP (T : List S35) (v : List Nat) : Nat → Nat
 | 0 => 0
 | n + 1 => lftP T v n + ((T.getD n z35).f1.length + 1 - v.getD n 0)
/-- The least that it costs from a position, -1 when they can't come home. -/
def V (R : List Int) (T : List S35) (v : List Nat) : Int := valP R T (lftP T v T.length + 1) v
end Go.Proofs.Ytpbclogjoangfaa.Sr
