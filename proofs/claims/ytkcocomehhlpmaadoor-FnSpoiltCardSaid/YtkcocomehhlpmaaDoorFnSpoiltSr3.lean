/- The search of the program: small laws of positions. No program in sight. -/
import Derived.Test.YtkcocomehhlpmaaDoorFnSpoiltSr0
import Derived.Test.YtkcocomehhlpmaaDoorFnSpoiltPure3
namespace Go.Proofs.YtkcocomehhlpmaaDoor.Sr
open Go.RowKit Go.Proofs.YtkcocomehhlpmaaDoorW.PrintWords Go.Proofs.YtkcocomehhlpmaaDoorW.PrintLast Go.Proofs.YtkcocomehhlpmaaDoor.Q Go.Proofs.YtkcocomehhlpmaaDoor.Pu
set_option linter.unusedVariables false
set_option linter.unusedSimpArgs false
/-- Where train i is at position v. -/
def atP (T : List S48) (v : List Nat) (i : Nat) : Int := atD (T.getD i z48) (v.getD i 0)
/-- Where it is next. -/
def toP (T : List S48) (v : List Nat) (i : Nat) : Int := atD (T.getD i z48) (v.getD i 0 + 1)
/-- How many of the first n trains are on a. -/
def thP (T : List S48) (v : List Nat) (a : Int) (n : Nat) : Nat := (List.range n).countP (fun i => decide (atP T v i = a))
def okP (R : List Int) (T : List S48) (v : List Nat) (i : Nat) : Bool :=
 decide (0 ≤ atP T v i) && (decide (toP T v i < 0) || decide ((thP T v (toP T v i) T.length : Int) < R.getD (toP T v i).toNat 0))
/-- The trains, of the first n, that can move. -/
def mvP (R : List Int) (T : List S48) (v : List Nat) (n : Nat) : List Nat := (List.range n).filter (okP R T v)
def inc (v : List Nat) (i : Nat) : List Nat := v.set i (v.getD i 0 + 1)
/-- The weight of those, of the first n, that have not left. -/
def wtP (T : List S48) (v : List Nat) : Nat → Int
 | 0 => 0
 | n + 1 => wtP T v n + (if 0 ≤ atP T v n then (T.getD n z48).f2 else 0)
def hereP (T : List S48) (v : List Nat) (n : Nat) : Bool := (List.range n).any (fun i => decide (0 ≤ atP T v i))
/-- The better of what was found and a way that costs m from there. -/
def betP (w c m : Int) : Int := if 0 ≤ m ∧ (c < 0 ∨ m + w < c) then m + w else c
def valP (R : List Int) (T : List S48) : Nat → List Nat → Int
 | 0, _ => -1
 | k + 1, v => (mvP R T v T.length).foldl (fun c i => betP (wtP T v T.length) c (valP R T k (inc v i))) (if hereP T v T.length = true then -1 else 0)
/-- How much of the ways is left. -/
def lftP (T : List S48) (v : List Nat) : Nat → Nat
 | 0 => 0
 | n + 1 => lftP T v n + ((T.getD n z48).f1.length + 1 - v.getD n 0)
/-- The least that it costs from a position, -1 when they can't come home. -/
def V (R : List Int) (T : List S48) (v : List Nat) : Int := valP R T (lftP T v T.length + 1) v
end Go.Proofs.YtkcocomehhlpmaaDoor.Sr
namespace Go.Proofs.YtkcocomehhlpmaaDoor.Sr
open Go.RowKit Go.Proofs.YtkcocomehhlpmaaDoorW.PrintWords Go.Proofs.YtkcocomehhlpmaaDoorW.PrintLast Go.Proofs.YtkcocomehhlpmaaDoor.Q Go.Proofs.YtkcocomehhlpmaaDoor.Pu
set_option linter.unusedVariables false
set_option linter.unusedSimpArgs false
section
variable {R : List Int} {T : List S48} {N : List Int}
theorem atD_range (h : Wf R T N) {t : S48} (ht : t ∈ T) (far : Nat) : atD t far = -1 ∨ (0 ≤ atD t far ∧ atD t far < (R.length : Int)) := by
 unfold atD
 by_cases c : far = 0
 ·rw [if_pos c]; exact .inr (h.at_ t ht)
 ·rw [if_neg c]
  by_cases d : far ≤ t.f1.length
  ·rw [if_pos d]; exact .inr (h.on t ht _ (getD_mem 0 (by omega)))
  ·rw [if_neg d]; exact .inl rfl
theorem atP_range (h : Wf R T N) (v : List Nat) {i : Nat} (hi : i < T.length) : atP T v i = -1 ∨ (0 ≤ atP T v i ∧ atP T v i < (R.length : Int)) := atD_range h (getD_mem z48 hi) _
theorem toP_range (h : Wf R T N) (v : List Nat) {i : Nat} (hi : i < T.length) : toP T v i = -1 ∨ (0 ≤ toP T v i ∧ toP T v i < (R.length : Int)) := atD_range h (getD_mem z48 hi) _
theorem thP_succ (T : List S48) (v : List Nat) (a : Int) (n : Nat) : thP T v a (n + 1) = thP T v a n + (if atP T v n = a then 1 else 0) := by
 unfold thP
 rw [List.range_succ, List.countP_append]
 simp [List.countP_cons]
theorem thP_le (T : List S48) (v : List Nat) (a : Int) (n : Nat) : thP T v a n ≤ n := by
 have := List.countP_le_length (p := fun i => decide (atP T v i = a)) (l := List.range n)
 simpa [thP] using this
/-- How many of the first n trains are on each section. -/
def cntR (R : List Int) (T : List S48) (v : List Nat) (n : Nat) : List Int := (List.range R.length).map (fun (a : Nat) => (thP T v (a : Int) n : Int))
theorem cntR_len (R : List Int) (T : List S48) (v : List Nat) (n : Nat) : (cntR R T v n).length = R.length := by simp [cntR]
theorem cntR_get (R : List Int) (T : List S48) (v : List Nat) (n : Nat) {a : Nat} (ha : a < R.length) : (cntR R T v n).getD a 0 = (thP T v a n : Int) := by
 simp [cntR, List.getD, ha]
theorem cntR_zero (R : List Int) (T : List S48) (v : List Nat) : cntR R T v 0 = List.replicate R.length 0 := by
 apply List.ext_getElem
 ·simp [cntR]
 ·intro i h1 h2; simp [cntR, thP]
theorem cntR_out (R : List Int) (T : List S48) (v : List Nat) (n : Nat) (h : atP T v n < 0) : cntR R T v (n + 1) = cntR R T v n := by
 unfold cntR
 apply List.map_congr_left
 intro a ha
 rw [thP_succ, if_neg (by omega)]; simp
theorem cntR_in (R : List Int) (T : List S48) (v : List Nat) (n : Nat) (h : 0 ≤ atP T v n) (h2 : atP T v n < (R.length : Int)) :
  cntR R T v (n + 1) = (cntR R T v n).set (atP T v n).toNat ((cntR R T v n).getD (atP T v n).toNat 0 + 1) := by
 rw [cntR_get R T v n (by omega)]
 apply List.ext_getElem
 ·simp [cntR]
 ·intro i h1 h3
  rw [List.getElem_set]
  by_cases c : (atP T v n).toNat = i
  ·rw [if_pos c]
   simp only [cntR, List.getElem_map, List.getElem_range, thP_succ, c]
   rw [if_pos (by omega)]
   simp
  ·rw [if_neg c]
   simp only [cntR, List.getElem_map, List.getElem_range, thP_succ]
   rw [if_neg (by omega)]
   simp
theorem mvP_succ (R : List Int) (T : List S48) (v : List Nat) (n : Nat) : mvP R T v (n + 1) = mvP R T v n ++ (if okP R T v n = true then [n] else []) := by
 unfold mvP
 rw [List.range_succ, List.filter_append]
 by_cases c : okP R T v n = true <;> simp [c]
theorem mvP_len (R : List Int) (T : List S48) (v : List Nat) (n : Nat) : (mvP R T v n).length ≤ n := by
 have := List.length_filter_le (okP R T v) (List.range n)
 simpa [mvP] using this
end
end Go.Proofs.YtkcocomehhlpmaaDoor.Sr
