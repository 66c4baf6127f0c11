/- Small words for walking the exact laws whose answer is a state. -/
import Derived.Test.YtncckjibiffnaaaFnExactStepLwKit
import Derived.Test.YtncckjibiffnaaaFnExactStepQ7
import Derived.Test.YtncckjibiffnaaaFnExactStepQ8
namespace Go.Proofs.Ytncckjibiffnaaa.Lw
open Go.RowKit Go.Proofs.YtncckjibiffnaaaW.PrintWords Go.Proofs.YtncckjibiffnaaaW.PrintLast Go.Proofs.YtncckjibiffnaaaW.PrintMore Go.Proofs.Ytncckjibiffnaaa.Q Go.Proofs.Ytncckjibiffnaaa.Pu Go.Proofs.Ytncckjibiffnaaa.Mk
set_option linter.unusedVariables false
set_option linter.unusedSimpArgs false
/-- A state that is only read, in blocks of P. -/
structure StN (base : Nat) (w : World) (P : Nat → Prop) (v0 v1 v2 : Value) (l0 : List Int) (l1 : List S49) (l2 : List Int) : Prop where
  r0 : Kd.R (Kd.int .i64) 3 w base P v0 l0
  n1 : Kd.N k49 49 w base P v1 l1
  r2 : Kd.R (Kd.int .i64) 3 w base P v2 l2
section
variable {base a b c d : Nat} {w W W2 : World} {v v0 v1 v2 : Value} {l0 l2 : List Int} {l1 : List S49} {P : Nat → Prop}
theorem StN.below (h : StN base W P v0 v1 v2 l0 l1 l2) (hb : Below W.heap.size W W2) : StN base W2 P v0 v1 v2 l0 l1 l2 := ⟨Kd.R_below h.r0 hb, Kd.N_below h.n1 hb, Kd.R_below h.r2 hb⟩
theorem StN.kept {S : Nat → Prop} (h : StN base W P v0 v1 v2 l0 l1 l2) (hk : Kept W W2 S) (hne : ∀ k, P k → ¬ S k) : StN base W2 P v0 v1 v2 l0 l1 l2 :=
  ⟨Kd.R_kept h.r0 hk (fun k h2 => hne k h2), Kd.N_kept h.n1 hk (fun k h2 => hne k h2), Kd.R_kept h.r2 hk (fun k h2 => hne k h2)⟩
theorem StN.made {ok0 ok1 ok2 : Nat → Prop} (h0 : Kd.R (Kd.int .i64) 3 W2 W.heap.size ok0 v0 l0) (h1 : Kd.N k49 49 W2 W.heap.size ok1 v1 l1) (h2 : Kd.R (Kd.int .i64) 3 W2 W.heap.size ok2 v2 l2)
    (e1 : ∀ k, ok1 k → W.heap.size ≤ k) (hB : base ≤ W.heap.size) : StN base W2 (Rng W.heap.size W2.heap.size) v0 v1 v2 l0 l1 l2 :=
  ⟨Kd.R_lower (Kd.R_mono (Kd.R_bound h0) (fun k hk => ⟨hk.2.1, hk.2.2.1⟩)) hB, Kd.N_lower (Kd.N_mono (Kd.N_bound h1) (fun k hk => ⟨e1 k hk.1, hk.2⟩)) hB, Kd.R_lower (Kd.R_mono (Kd.R_bound h2) (fun k hk => ⟨hk.2.1, hk.2.2.1⟩)) hB⟩
theorem StN.slices (h : StN base W P v0 v1 v2 l0 l1 l2) : ∃ A0 c0 A1 c1 A2 c2, v0 = .slice A0 l0.length c0 ∧ v1 = .slice A1 l1.length c1 ∧ v2 = .slice A2 l2.length c2 := by
  obtain ⟨A0, c0, e0⟩ := Kd.R_slice h.r0
  obtain ⟨A1, c1, e1⟩ := Kd.N_slice h.n1
  obtain ⟨A2, c2, e2⟩ := Kd.R_slice h.r2
  exact ⟨A0, c0, A1, c1, A2, c2, e0, e1, e2⟩
end
theorem mkT_getD (a : Int) (l : List S49) (i : Nat) (h : i < l.length) : (mkT a l).getD i z49 = ⟨a + szT (l.take i), upTo (a + szT (l.take i) + 1) (l.getD i z49).f1.length, a + szT (l.take i) + 1 + (l.getD i z49).f1.length⟩ := by
  have e := mkT_append (l.take i) (l.drop i) a
  rw [List.take_append_drop] at e
  rw [e, List.getD_eq_getElem?_getD, List.getElem?_append_right (by rw [mkT_len, List.length_take]; omega), mkT_len, List.length_take, Nat.min_eq_left (by omega), Nat.sub_self, drop_cons z49 h]
  rfl
theorem heldTrainS_loop (l : List S49) (a : Int) (h0 : 0 ≤ a) (hl : l.length ≤ 1048576) (ha : a + szT l ≤ 2305843009213693952) : ∀ (d i : Nat), i + d = l.length →
    Ev (fun k => laws_heldTrainS.l0 k (mkT a l) (a + szT (l.take i)) (i : Int)) (a + szT l)
  | 0, i, h => by
    refine Ev.one (fun k => ?_)
    simp only [laws_heldTrainS.l0]; rw [if_neg (by rw [mkT_len]; omega), List.take_of_length_le (by omega)]
  | d + 1, i, h => by
    have hi : i < l.length := by omega
    have h1 := szT_pos (l.take i)
    have h2 := sz_succ l i hi
    have h3 := sz_le l (i + 1)
    refine Ev.step (f := fun k => (laws_heldIntS.f k (upTo (a + szT (l.take i) + 1) (l.getD i z49).f1.length) (a + szT (l.take i) + 1)).bind fun t => if t < 0 then some (-1) else if a + szT (l.take i) + 1 + (l.getD i z49).f1.length = t then laws_heldTrainS.l0 k (mkT a l) (wrap64 (t + 1)) ((i + 1 : Nat) : Int) else some (-1)) (fun k => ?_) ?_
    · simp only [laws_heldTrainS.l0]
      rw [if_pos (by rw [mkT_len]; omega), if_pos (by omega), rd_T, mkT_getD a l i hi, wsucc hi (by omega), w64 (x := a + szT (l.take i) + 1) (by omega) (by omega)]
      simp only [if_true]
    · refine Ev.bind (heldIntS_tells _ _ (by omega) (by omega)) ?_
      have e : a + szT (l.take i) + 1 + ((l.getD i z49).f1.length : Int) + 1 = a + szT (l.take (i + 1)) := by omega
      simp only [show ¬ (a + szT (l.take i) + 1 + ((l.getD i z49).f1.length : Int) < 0) by omega, if_false, if_true]
      rw [w64 (by omega) (by omega), e]
      exact heldTrainS_loop l a h0 hl ha d (i + 1) (by omega)
theorem heldState_tells (R : List Int) (T : List S49) (N : List Int) (hT : T.length ≤ 1048576) (ha : 1 + (R.length : Int) + szT T + N.length ≤ 2305843009213693952) :
    Ev (fun k => laws_heldState.f k (upTo 1 R.length) (mkT (1 + R.length) T) (upTo (1 + R.length + szT T) N.length) 1) (1 + R.length + szT T + N.length) := by
  have h1 := szT_pos T
  unfold laws_heldState.f
  refine Ev.bind (heldIntS_tells _ _ (by omega) (by omega)) ?_
  simp only [show ¬ (1 + (R.length : Int) < 0) by omega, if_false]
  have e := heldTrainS_loop T (1 + R.length) (by omega) hT (by omega) T.length 0 (by omega)
  simp only [List.take_zero, szT, Int.add_zero] at e
  refine Ev.bind (Ev.congr (fun k => by unfold laws_heldTrainS.f; rfl) e) ?_
  simp only [show ¬ (1 + (R.length : Int) + szT T < 0) by omega, if_false]
  refine Ev.bind (heldIntS_tells _ _ (by omega) (by omega)) ?_
  simp only [show ¬ (1 + (R.length : Int) + szT T + (N.length : Int) < 0) by omega, if_false]
  exact Ev.now _
end Go.Proofs.Ytncckjibiffnaaa.Lw
