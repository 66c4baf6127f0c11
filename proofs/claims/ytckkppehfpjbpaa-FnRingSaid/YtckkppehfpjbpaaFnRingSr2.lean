/- The search of the program, as plain Lean: positions, moves, what a position costs. No program in sight. -/
import Derived.Test.YtckkppehfpjbpaaFnRingSr0
namespace Go.Proofs.Ytckkppehfpjbpaa.Sr
open Go.RowKit Go.Proofs.YtckkppehfpjbpaaW.PrintWords Go.Proofs.YtckkppehfpjbpaaW.PrintLast Go.Proofs.Ytckkppehfpjbpaa.Q Go.Proofs.Ytckkppehfpjbpaa.Pu
set_option linter.unusedVariables false
set_option linter.unusedSimpArgs false
/-- Where train i is at position v. -/
def atP (T : List S40) (v : List Nat) (i : Nat) : Int := atD (T.getD i z40) (v.getD i 0)
/-- Where it is next. -/
def toP (T : List S40) (v : List Nat) (i : Nat) : Int := atD (T.getD i z40) (v.getD i 0 + 1)
/-- How many of the first n trains are on a. -/
def thP (T : List S40) (v : List Nat) (a : Int) (n : Nat) : Nat := (List.range n).countP (fun i => decide (atP T v i = a))
def okP (R : List Int) (T : List S40) (v : List Nat) (i : Nat) : Bool :=
 decide (0 ≤ atP T v i) && (decide (toP T v i < 0) || decide ((thP T v (toP T v i) T.length : Int) < R.getD (toP T v i).toNat 0))
/-- The trains, of the first n, that can move. -/
def mvP (R : List Int) (T : List S40) (v : List Nat) (n : Nat) : List Nat := (List.range n).filter (okP R T v)
def inc (v : List Nat) (i : Nat) : List Nat := v.set i (v.getD i 0 + 1)
/-- The weight of those, of the first n, that have not left. -/
def wtP (T : List S40) (v : List Nat) : Nat → Int
 | 0 => 0
 | n + 1 => wtP T v n + (if 0 ≤ atP T v n then (T.getD n z40).f2 else 0)
def hereP (T : List S40) (v : List Nat) (n : Nat) : Bool := (List.range n).any (fun i => decide (0 ≤ atP T v i))
/-- The better of what was found and a way that costs m from there. -/
def betP (w c m : Int) : Int := if 0 ≤ m ∧ (c < 0 ∨ m + w < c) then m + w else c
def valP (R : List Int) (T : List S40) : Nat → List Nat → Int
 | 0, _ => -1
 | k + 1, v => (mvP R T v T.length).foldl (fun c i => betP (wtP T v T.length) c (valP R T k (inc v i))) (if hereP T v T.length = true then -1 else 0)
/-- How much of the ways is left. -/
def lftP (T : List S40) (v : List Nat) : Nat → Nat
 | 0 => 0
 | n + 1 => lftP T v n + ((T.getD n z40).f1.length + 1 - v.getD n 0)
/-- The least that it costs from a position, -1 when they can't come home. -/
def V (R : List Int) (T : List S40) (v : List Nat) : Int := valP R T (lftP T v T.length + 1) v
end Go.Proofs.Ytckkppehfpjbpaa.Sr
