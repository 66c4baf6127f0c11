/- The law FnMeet, as a plain statement. -/
import Derived.Test.YtpbclogjoangfaaFnMeetMe1
import Derived.Test.YtpbclogjoangfaaFnMeetHlawsFnMeet
namespace Go.Proofs.Ytpbclogjoangfaa.Me
open Go.RowKit Go.Proofs.YtpbclogjoangfaaW.PrintWords Go.Proofs.YtpbclogjoangfaaW.PrintLast Go.Proofs.Ytpbclogjoangfaa.Q Go.Proofs.Ytpbclogjoangfaa.Pu Go.Proofs.Ytpbclogjoangfaa.Sr Go.Proofs.Ytpbclogjoangfaa.Sp Go.Proofs.Ytpbclogjoangfaa.Al Go.Proofs.Ytpbclogjoangfaa.So
set_option linter.unusedVariables false
set_option linter.unusedSimpArgs false
theorem stj_zero (n k : Nat) : stj n k 0 = mmv n k true := rfl
theorem stj_succ (n k j : Nat) : stj n k (j + 1) = stD (stj n k j).1 (stj n k j).2.1 (stj n k j).2.2 2 := rfl
attribute [local irreducible] mmv stj bad chk V
theorem wByte_ok (l : List Int) (hw : ∀ x ∈ l, 0 ≤ x ∧ x ≤ 255) (i : Nat) : ∃ b : Nat, laws_wByte.f l (i : Int) = some (b : Int) := by
 unfold laws_wByte.f
 by_cases c : (l.length : Int) = 0
 ·rw [if_pos c]; exact ⟨0, rfl⟩
 ·rw [if_neg c]
  have e : Int.tmod (i : Int) (l.length : Int) = ((i % l.length : Nat) : Int) := by rw [Int.tmod_eq_emod_of_nonneg (by omega)]; rfl
  have hlt : i % l.length < l.length := Nat.mod_lt _ (by omega)
  rw [e, if_pos (by omega), if_pos (by omega), rd_I]
  have hm := hw _ (getD_mem 0 hlt)
  refine ⟨(l.getD (i % l.length) 0).toNat, ?_⟩
  rw [w64 (by omega) (by omega), Int.toNat_of_nonneg hm.1]
theorem all_at {a : Nat} (ha : a < 7) : (∃ r, spec_MadeMeet.f 30 ((a + 2 : Nat) : Int) ((0 : Nat) : Int) false = some r) ∧ bad (a + 2) = true ∧ ∀ b, b < a → (∃ r, spec_MadeMeet.f 30 ((a + 2 : Nat) : Int) ((b + 1 : Nat) : Int) true = some r) ∧ ∀ j, j < a - b → chk (a + 2) (b + 1) j = true := by
 have h := List.all_eq_true.1 all_ok a (List.mem_range.2 ha)
 simp only [Bool.and_eq_true] at h
 refine ⟨Option.isSome_iff_exists.1 h.1.1, h.1.2, fun b hb => ?_⟩
 have h2 := List.all_eq_true.1 h.2 b (List.mem_range.2 hb)
 simp only [Bool.and_eq_true] at h2
 exact ⟨Option.isSome_iff_exists.1 h2.1, fun j hj => List.all_eq_true.1 h2.2 j (List.mem_range.2 hj)⟩
theorem made_tells {n k : Nat} {a : Bool} (h : ∃ r, spec_MadeMeet.f 30 (n : Int) (k : Int) a = some r) : Ev (fun K => spec_MadeMeet.f K (n : Int) (k : Int) a) (mmv n k a) := by
 obtain ⟨r, hr⟩ := h
 have e : mmv n k a = r := by unfold mmv; rw [hr]; rfl
 rw [e]
 exact Ev.of (fun K => spec_MadeMeet.mono _ _ _ K) hr
theorem sm_of {s : St3} (h : smB s = true) : s.1.length ≤ 1048576 ∧ s.2.1.length ≤ 1048576 ∧ s.2.2.length ≤ 1048576 := by
 simp only [smB, Bool.and_eq_true, decide_eq_true_eq] at h
 omega
theorem safe_no {s : St3} (hs : smB s = true) (ho : okB s = true) (hv : V s.1 s.2.1 zv = -1) : Ev (fun k => impl_Safe.f k s.1 s.2.1 s.2.2) false := by
 obtain ⟨a, b, c⟩ := sm_of hs
 refine Ev.eq (implSafe_tells a b c) ?_
 have h1 : V s.1 s.2.1 [0, 0, 0, 0, 0] = -1 := hv
 rw [h1]
 split <;> rfl
theorem safe_yes {s : St3} (hs : smB s = true) (ho : okB s = true) (hv : 0 ≤ V s.1 s.2.1 zv) : Ev (fun k => impl_Safe.f k s.1 s.2.1 s.2.2) true := by
 obtain ⟨a, b, c⟩ := sm_of hs
 refine Ev.eq (implSafe_tells a b c) ?_
 have h1 : 0 ≤ V s.1 s.2.1 [0, 0, 0, 0, 0] := hv
 rw [if_pos (of_decide_eq_true ho), decide_eq_true h1]
theorem chk_of {n k j : Nat} (h : chk n k j = true) : smB (stj n k j) = true ∧ okB (stj n k j) = true ∧ 0 ≤ V (stj n k j).1 (stj n k j).2.1 zv := by
 unfold chk at h
 simp only [Bool.and_eq_true] at h
 refine ⟨h.1.1, h.1.2, ?_⟩
 have hr := (right_iff _ _ _).1 (of_decide_eq_true h.1.2)
 exact V_wok hr.wf _ zv hr.wf.t1 h.2
theorem end_tells {n k j : Nat} (h : chk n k j = true) : Ev (fun K => laws_FnMeet.j1 K (stj n k j).1 (stj n k j).2.1 (stj n k j).2.2) true := by
 obtain ⟨h1, h2, h3⟩ := chk_of h
 obtain ⟨a, b, c⟩ := sm_of h1
 have ho := of_decide_eq_true h2
 have hr := (right_iff _ _ _).1 ho
 have hs := safe_yes h1 h2 h3
 generalize stj n k j = s at *
 have hD : solveD s.1 s.2.1 s.2.2 = (true, V s.1 s.2.1 zv, (pthP s.1 s.2.1 zv).map (fun i => s.2.2.getD i 0)) := by
  unfold solveD
  rw [if_pos ho, if_neg (by omega)]
 have hi := Ev.eq (implSolve_tells a b c) hD
 have hp := Ev.eq (specSolve_tells a b c) hD
 have hc := Ev.eq (implCost_tells a b c ((pthP s.1 s.2.1 zv).map (fun i => s.2.2.getD i 0))) (cost_best hr h3)
 refine Ev.step (fun K => by simp only [laws_FnMeet.j1]; rfl) ?_
 refine Ev.bind' hs ?_
 simp only [if_true]
 refine Ev.bind' hi ?_
 simp only [if_true]
 refine Ev.bind' hc ?_
 simp only [if_true]
 refine Ev.bind' hp (Ev.all fun K => ?_)
 simp
theorem loop_tells {a b : Nat} (ha : a < 7) (hb : b < a) : ∀ (d i : Nat), i + d + 1 = a - b → Ev (fun K => laws_FnMeet.l0 K ((a + 2 : Nat) : Int) ((b + 1 : Nat) : Int) (i : Int) (stj (a + 2) (b + 1) i).1 (stj (a + 2) (b + 1) i).2.1 (stj (a + 2) (b + 1) i).2.2) true := by
 intro d
 induction d with
 | zero =>
  intro i hi
  have hc := ((all_at ha).2.2 b hb).2 i (by omega)
  refine Ev.step (fun K => ?_) (end_tells hc)
  simp only [laws_FnMeet.l0]
  have e1 : wrap64 (wrap64 (((a + 2 : Nat) : Int) - 1) - ((b + 1 : Nat) : Int)) = ((a - b : Nat) : Int) := by rw [w64 (x := ((a + 2 : Nat) : Int) - 1) (by omega) (by omega), w64 (by omega) (by omega)]; omega
  have e2 : wrap64 (wrap64 (((a + 2 : Nat) : Int) - 2) - ((b + 1 : Nat) : Int)) = ((a - b - 1 : Nat) : Int) := by rw [w64 (x := ((a + 2 : Nat) : Int) - 2) (by omega) (by omega), w64 (by omega) (by omega)]; omega
  rw [e1, e2, if_pos (by omega), if_pos (by omega)]
 | succ d ih =>
  intro i hi
  have e1 : wrap64 (wrap64 (((a + 2 : Nat) : Int) - 1) - ((b + 1 : Nat) : Int)) = ((a - b : Nat) : Int) := by rw [w64 (x := ((a + 2 : Nat) : Int) - 1) (by omega) (by omega), w64 (by omega) (by omega)]; omega
  have e2 : wrap64 (wrap64 (((a + 2 : Nat) : Int) - 2) - ((b + 1 : Nat) : Int)) = ((a - b - 1 : Nat) : Int) := by rw [w64 (x := ((a + 2 : Nat) : Int) - 2) (by omega) (by omega), w64 (by omega) (by omega)]; omega
  have e3 : wrap64 ((i : Int) + 1) = ((i + 1 : Nat) : Int) := by rw [w64 (by omega) (by omega)]; omega
  have c1 : (i : Int) < ((a - b : Nat) : Int) := by omega
  have c2 : ¬ ((i : Int) = ((a - b - 1 : Nat) : Int)) := by omega
  have hc := ((all_at ha).2.2 b hb).2 i (by omega)
  have hs := ih (i + 1) (by omega)
  rw [stj_succ] at hs
  obtain ⟨h1, h2, h3⟩ := chk_of hc
  obtain ⟨s1, s2, s3⟩ := sm_of h1
  have hst := implStep_tells s1 s2 s3 2
  refine Ev.step (fun K => ?_) (Ev.bind' (f := fun K bt => laws_FnMeet.l0 K ((a + 2 : Nat) : Int) ((b + 1 : Nat) : Int) ((i + 1 : Nat) : Int) bt.1 bt.2.1 bt.2.2) hst hs)
  simp only [laws_FnMeet.l0]
  rw [e1, e2, if_pos c1, if_neg c2, e3]
theorem FnMeet_ev (l : List Int) (hw : ∀ x ∈ l, 0 ≤ x ∧ x ≤ 255) : Ev (fun k => laws_FnMeet.f k l) true := by
 obtain ⟨b0, e0⟩ := wByte_ok l hw 0
 obtain ⟨b1, e1⟩ := wByte_ok l hw 1
 have ha : b0 % 7 < 7 := Nat.mod_lt _ (by omega)
 have en : wrap64 (2 + Int.tmod (b0 : Int) 7) = ((b0 % 7 + 2 : Nat) : Int) := by
  have e : Int.tmod (b0 : Int) 7 = ((b0 % 7 : Nat) : Int) := by rw [Int.tmod_eq_emod_of_nonneg (by omega)]; rfl
  rw [e, w64 (by omega) (by omega)]; omega
 generalize b0 % 7 = a at *
 obtain ⟨hm0, hbad, hrest⟩ := all_at ha
 simp only [bad, Bool.and_eq_true, decide_eq_true_eq] at hbad
 unfold laws_FnMeet.f
 by_cases hl : (l.length : Int) > 1048576
 ·simp only [hl, if_true]; exact Ev.all fun _ => rfl
 ·have e0' : laws_wByte.f l 0 = some (b0 : Int) := e0
  have e1' : laws_wByte.f l 1 = some (b1 : Int) := e1
  simp only [hl, if_false, e0', e1', Option.bind_some, en]
  refine Ev.bind' (made_tells hm0) ?_
  refine Ev.bind' (safe_no hbad.1.1 hbad.1.2 hbad.2) ?_
  simp only [Bool.false_eq_true, if_false]
  by_cases c : ((a + 2 : Nat) : Int) < 3
  ·simp only [c, if_true]; exact Ev.all fun _ => rfl
  ·have e2 : wrap64 (((a + 2 : Nat) : Int) - 2) = (a : Int) := by rw [w64 (by omega) (by omega)]; omega
   have ha0 : 0 < a := by omega
   have hb : b1 % a < a := Nat.mod_lt _ ha0
   have ek : wrap64 (1 + Int.tmod (b1 : Int) (a : Int)) = ((b1 % a + 1 : Nat) : Int) := by
    have e : Int.tmod (b1 : Int) (a : Int) = ((b1 % a : Nat) : Int) := by rw [Int.tmod_eq_emod_of_nonneg (by omega)]; rfl
    rw [e, w64 (by omega) (by omega)]; omega
   have ez : ¬ ((a : Int) = 0) := by omega
   simp only [c, if_false, e2, ez, ek]
   generalize b1 % a = b at *
   obtain ⟨hm1, hchk⟩ := hrest b hb
   have hlp := loop_tells ha hb (a - b - 1) 0 (by omega)
   obtain ⟨h1, h2, h3⟩ := chk_of (hchk 0 (by omega))
   rw [stj_zero] at h1 h2 h3 hlp
   refine Ev.bind' (made_tells hm1) ?_
   refine Ev.bind' (safe_yes h1 h2 h3) ?_
   simp only [if_true]
   exact hlp
end Go.Proofs.Ytpbclogjoangfaa.Me
