/- markTrainS and markState write numbers into a state of the caller's own: walked by hand. -/
import Derived.Test.YtckkppehfpjbpaaFnExactRingPure0
import Derived.Test.YtckkppehfpjbpaaFnExactRingQ9
namespace Go.Proofs.Ytckkppehfpjbpaa.Mk
open Go.RowKit Go.Proofs.YtckkppehfpjbpaaW.PrintWords Go.Proofs.YtckkppehfpjbpaaW.PrintLast Go.Proofs.YtckkppehfpjbpaaW.PrintMore Go.Proofs.Ytckkppehfpjbpaa.Q Go.Proofs.Ytckkppehfpjbpaa.Pu
set_option linter.unusedVariables false
set_option linter.unusedSimpArgs false

/-- a, a + 1, .. -/
def upTo : Int → Nat → List Int
 | _, 0 => []
 | a, n + 1 => a :: upTo (a + 1) n
theorem upTo_len : ∀ (n : Nat) (a : Int), (upTo a n).length = n
 | 0, _ => rfl
 | n + 1, a => by simp [upTo, upTo_len n]
theorem markIntS_loop (l0 : List Int) (hl : l0.length ≤ 9223372036854775807) (B : Int) (hB : B ≤ 9223372036854775807) : ∀ (d i : Nat) (l : List Int) (a : Int), i + d = l.length → l.length = l0.length → 0 ≤ a → a + d ≤ B →
  Ev (fun k => laws_markIntS.l0 k l a (i : Int)) (a + d, l.take i ++ upTo a d)
 | 0, i, l, a, h, hll, h0, h1 => by
  refine Ev.one (fun k => ?_)
  simp only [laws_markIntS.l0]; rw [if_neg (by omega)]
  simp [upTo, List.take_of_length_le (show l.length ≤ i by omega)]
 | d + 1, i, l, a, h, hll, h0, h1 => by
  have hi : i < l.length := by omega
  refine Ev.eq (Ev.step (fun k => ?_) (markIntS_loop l0 hl B hB d (i + 1) (l.set i a) (a + 1) (by simp; omega) (by simpa using hll) (by omega) (by omega))) ?_
  ·simp only [laws_markIntS.l0]
   rw [if_pos (by omega), if_pos (by omega), wsucc hi (by omega), w64 (by omega) (by omega), Int.toNat_natCast]
  ·have e : (l.set i a).take (i + 1) = l.take i ++ [a] := by
    rw [List.take_succ_eq_append_getElem (by simpa using hi), List.take_set, List.set_eq_of_length_le (by rw [List.length_take]; omega)]
    simp
   rw [e, upTo, List.append_assoc]
   simp; omega
theorem markIntS_tells (l : List Int) (a : Int) (h0 : 0 ≤ a) (h1 : a + l.length ≤ 9223372036854775807) : Ev (fun k => laws_markIntS.f k l a) (a + l.length, upTo a l.length) := by
 have := markIntS_loop l (by omega) (a + l.length) h1 l.length 0 l a (by omega) rfl h0 (by omega)
 exact Ev.eq (Ev.congr (fun k => by unfold laws_markIntS.f; rfl) this) (by simp)

def szT : List S40 → Int
 | [] => 0
 | t :: r => 2 + t.f1.length + szT r
def mkT : Int → List S40 → List S40
 | _, [] => []
 | a, t :: r => ⟨a, upTo (a + 1) t.f1.length, a + 1 + t.f1.length⟩ :: mkT (a + 2 + t.f1.length) r
theorem szT_pos : ∀ l, 0 ≤ szT l
 | [] => by simp [szT]
 | t :: r => by have := szT_pos r; simp only [szT]; omega
theorem mkT_len : ∀ (l : List S40) (a : Int), (mkT a l).length = l.length
 | [], _ => rfl
 | t :: r, a => by simp [mkT, mkT_len r]
theorem szT_append : ∀ (l m : List S40), szT (l ++ m) = szT l + szT m
 | [], m => by simp [szT]
 | t :: r, m => by simp only [List.cons_append, szT, szT_append r m]; omega
theorem mkT_append : ∀ (l m : List S40) (a : Int), mkT a (l ++ m) = mkT a l ++ mkT (a + szT l) m
 | [], m, a => by simp [mkT, szT]
 | t :: r, m, a => by simp only [List.cons_append, mkT, szT, mkT_append r m]; rw [show a + 2 + (t.f1.length : Int) + szT r = a + (2 + (t.f1.length : Int) + szT r) by omega]
/-- The row after i rounds. -/
def at_ (a : Int) (l : List S40) (i : Nat) : List S40 := mkT a (l.take i) ++ l.drop i
theorem at_len (a : Int) (l : List S40) (i : Nat) (h : i ≤ l.length) : (at_ a l i).length = l.length := by simp [at_, mkT_len]; omega
theorem at_getD (a : Int) (l : List S40) (i : Nat) (h : i < l.length) : (at_ a l i).getD i z40 = l.getD i z40 := by
 unfold at_
 rw [List.getD_eq_getElem?_getD, List.getElem?_append_right (by simp [mkT_len]; omega), List.getElem?_drop, mkT_len, List.length_take, Nat.min_eq_left (by omega)]
 simp [List.getD]
theorem at_succ (a : Int) (l : List S40) (i : Nat) (h : i < l.length) (t' : S40) : ((at_ a l i).set i t').set i ⟨a + szT (l.take i), upTo (a + szT (l.take i) + 1) (l.getD i z40).f1.length, a + szT (l.take i) + 1 + (l.getD i z40).f1.length⟩ = at_ a l (i + 1) := by
 have e : l[i] = l.getD i z40 := by rw [List.getD_eq_getElem?_getD, List.getElem?_eq_getElem h]; rfl
 rw [List.set_set]
 unfold at_
 rw [List.set_append_right _ _ (by simp [mkT_len]; omega), mkT_len, List.length_take, Nat.min_eq_left (by omega), Nat.sub_self, List.drop_eq_getElem_cons h, List.set_cons_zero, List.take_succ_eq_append_getElem h, mkT_append, e]
 simp [mkT, List.append_assoc]
theorem sz_succ (l : List S40) (i : Nat) (h : i < l.length) : szT (l.take (i + 1)) = szT (l.take i) + 2 + (l.getD i z40).f1.length := by
 have e : l[i] = l.getD i z40 := by rw [List.getD_eq_getElem?_getD, List.getElem?_eq_getElem h]; rfl
 rw [List.take_succ_eq_append_getElem h, szT_append, e]
 simp only [szT]; omega
theorem sz_le (l : List S40) (i : Nat) : szT (l.take i) ≤ szT l := by
 have := szT_append (l.take i) (l.drop i)
 rw [List.take_append_drop] at this
 have := szT_pos (l.drop i)
 omega

theorem set_getD {l : List S40} {i : Nat} (h : i < l.length) (x : S40) : (l.set i x).getD i z40 = x := by simp [List.getD_eq_getElem?_getD, h]
end Go.Proofs.Ytckkppehfpjbpaa.Mk
