/- The drawn states' spoiler, as plain Lean. No program in sight but for what its callees tell. -/
import Derived.Test.YtkcocomehhlpmaaDoorFnSpoiltQ2
import Derived.Test.YtkcocomehhlpmaaDoorFnSpoiltPure3
namespace Go.Proofs.YtkcocomehhlpmaaDoor.Sq
open Go.RowKit Go.Proofs.YtkcocomehhlpmaaDoorW.PrintWords Go.Proofs.YtkcocomehhlpmaaDoorW.PrintLast Go.Proofs.YtkcocomehhlpmaaDoor.Q Go.Proofs.YtkcocomehhlpmaaDoor.Pu
set_option linter.unusedVariables false
set_option linter.unusedSimpArgs false
/-- pick, with its range. -/
def pk (l : List Int) (a s n : Int) : Option (Int × Int × Int) := (spec_l5Cur_pick.f l a s n).bind fun p => if 0 ≤ p.1 ∧ p.1 < n then some p else none
theorem pk_pick {l : List Int} {a s n : Int} {p : Int × Int × Int} (h : pk l a s n = some p) : spec_l5Cur_pick.f l a s n = some (p.1, p.2.1, p.2.2) ∧ 0 ≤ p.1 ∧ p.1 < n := by
 obtain ⟨q, hq, hr⟩ := Option.bind_eq_some_iff.mp h
 by_cases c : 0 ≤ q.1 ∧ q.1 < n
 ·rw [if_pos c] at hr
  injection hr with hr
  subst hr
  exact ⟨hq, c⟩
 ·rw [if_neg c] at hr; cases hr
/-- More rooms. -/
def rms : Nat → List Int → Int → Int → List Int → Option (List Int × Int × Int)
 | 0, _, _, _, _ => none
 | k + 1, l, a, s, R => (pk l a s 2).bind fun p => if (R.length : Int) < 40 + p.1 then (if R.length < 1000000 then rms k l p.2.1 p.2.2 (R ++ [1]) else none) else some (R, p.2.1, p.2.2)
/-- A longer path. -/
def pth : Nat → Int → List Int → Option (List Int)
 | 0, _, _ => none
 | k + 1, n, p => if (p.length : Int) < n then (if p.length < 1000000 then pth k n (p ++ [(p.length : Int) % 2]) else none) else some p
def sp0 (l : List Int) (R : List Int) (T : List S48) (N : List Int) (a s : Int) : Option (List Int × List S48 × List Int × Int × Int) :=
 (pk l a s (R.length : Int)).bind fun q => (pk l q.2.1 q.2.2 3).bind fun r => some (R.set q.1.toNat (([0, 5, 6] : List Int).getD r.1.toNat 0), T, N, r.2.1, r.2.2)
def sp1 (k : Nat) (l : List Int) (R : List Int) (T : List S48) (N : List Int) (a s : Int) : Option (List Int × List S48 × List Int × Int × Int) :=
 (rms k l a s R).bind fun q => some (q.1, T, N, q.2.1, q.2.2)
def sp2 (R : List Int) (T : List S48) (N : List Int) (a s : Int) : Option (List Int × List S48 × List Int × Int × Int) :=
 if N.length < 1000000 then some (R, T, N ++ [9], a, s) else none
/-- A train spoilt: t is the i-th one. -/
def sp3 (k : Nat) (l : List Int) (R : List Int) (T : List S48) (N : List Int) (i : Nat) (a s : Int) : Option (List Int × List S48 × List Int × Int × Int) :=
 (pk l a s 6).bind fun q =>
  if q.1 = 0 then (if R.length < 1000000 then (pk l q.2.1 q.2.2 ((R.length : Int) + 2)).bind fun r => some (R, T.set i ⟨r.1 - 1, (T.getD i z48).f1, (T.getD i z48).f2⟩, N, r.2.1, r.2.2) else none)
  else if q.1 = 1 then (if R.length < 1000000 ∧ (T.getD i z48).f1.length < 1000000 then (pk l q.2.1 q.2.2 ((R.length : Int) + 2)).bind fun r => some (R, T.set i ⟨(T.getD i z48).f0, (T.getD i z48).f1 ++ [r.1 - 1], (T.getD i z48).f2⟩, N, r.2.1, r.2.2) else none)
  else if q.1 = 2 then (pk l q.2.1 q.2.2 2).bind fun r => (pth k (8 + r.1) (T.getD i z48).f1).bind fun p => some (R, T.set i ⟨(T.getD i z48).f0, p, (T.getD i z48).f2⟩, N, r.2.1, r.2.2)
  else if q.1 = 3 then (pk l q.2.1 q.2.2 3).bind fun r => some (R, T.set i ⟨(T.getD i z48).f0, (T.getD i z48).f1, ([0, 100, 101] : List Int).getD r.1.toNat 0⟩, N, r.2.1, r.2.2)
  else if q.1 = 4 then (if i < N.length then (pk l q.2.1 q.2.2 4).bind fun r => some (R, T, N.set i (([-1, 0, 1000, 1001] : List Int).getD r.1.toNat 0), r.2.1, r.2.2) else some (R, T, N, q.2.1, q.2.2))
  else if T.length < 1000000 ∧ N.length < 1000000 then some (R, T ++ [T.getD i z48], N ++ [1000], q.2.1, q.2.2) else none
def spoilF (k : Nat) (l : List Int) (R : List Int) (T : List S48) (N : List Int) (a s : Int) : Option (List Int × List S48 × List Int × Int × Int) :=
 (pk l a s 9).bind fun q =>
  if q.1 = 0 then sp0 l R T N q.2.1 q.2.2
  else if q.1 = 1 then sp1 k l R T N q.2.1 q.2.2
  else if q.1 = 2 then sp2 R T N q.2.1 q.2.2
  else if T.length = 0 then some ([], T, N, q.2.1, q.2.2)
  else (pk l q.2.1 q.2.2 (T.length : Int)).bind fun i => sp3 k l R T N i.1.toNat i.2.1 i.2.2
/-- spoil, as the walk of its callers asks for it. -/
def spec_l5Cur_spoil.f (k : Nat) (s0_0 : List Int) (s0_1 : Int) (s0_2 : Int) (l0_0 : List Int) (l0_1 : List S48) (l0_2 : List Int) : Option (List Int × List S48 × List Int × Int × Int) :=
 (spec_l1copy.f k l0_0 l0_1 l0_2).bind fun c => spoilF k s0_0 c.1 c.2.1 c.2.2 s0_1 s0_2
end Go.Proofs.YtkcocomehhlpmaaDoor.Sq
