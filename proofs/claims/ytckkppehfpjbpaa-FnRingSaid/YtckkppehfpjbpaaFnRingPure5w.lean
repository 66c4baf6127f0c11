/- Plain laws: for whom a train waits. No program in sight. -/
import Derived.Test.YtckkppehfpjbpaaFnRingPure5
import Derived.Test.YtckkppehfpjbpaaFnRingQ6
import Derived.Test.YtckkppehfpjbpaaFnRingQ7
import Derived.Test.YtckkppehfpjbpaaFnRingQ8
import Derived.Test.YtckkppehfpjbpaaFnRingQ4
import Derived.Test.YtckkppehfpjbpaaFnRingQ5
namespace Go.Proofs.Ytckkppehfpjbpaa.Pu
open Go.RowKit Go.Proofs.YtckkppehfpjbpaaW.PrintWords Go.Proofs.YtckkppehfpjbpaaW.PrintLast Go.Proofs.Ytckkppehfpjbpaa.Q
set_option linter.unusedVariables false
set_option linter.unusedSimpArgs false
/-- Those on section x, from place i on, told by f. -/
def onF (T : List S40) (f : Nat → Int) (x : Int) : Nat → Nat → List Int
 | _, 0 => []
 | i, d + 1 => (if (T.getD i z40).f0 = x then [f i] else []) ++ onF T f x (i + 1) d
def headS (T : List S40) (i : Nat) : Int := (T.getD i z40).f1.headD 0
def waitsD (R : List Int) (T : List S40) (N : List Int) (a : Int) : List Int :=
 if okS R T N = 0 then
  if findD N a < 0 then [] else if canB R T (findD N a).toNat = true then [] else onF T (fun j => N.getD j 0) (headS T (findD N a).toNat) 0 T.length
 else []
section
variable {R : List Int} {T : List S40} {N : List Int}
theorem onF_len (f : Nat → Int) (x : Int) : ∀ d i, (onF T f x i d).length ≤ d
 | 0, i => by simp [onF]
 | d + 1, i => by
  have := onF_len f x d (i + 1)
  simp only [onF, List.length_append]
  split <;> simp <;> omega
theorem onF_map (f g : Nat → Int) (h : Int → Int) (x : Int) : ∀ d i, (∀ j, i ≤ j → j < i + d → h (f j) = g j) → (onF T f x i d).map h = onF T g x i d
 | 0, i, _ => rfl
 | d + 1, i, hh => by
  simp only [onF, List.map_append, onF_map f g h x d (i + 1) (fun j h1 h2 => hh j (by omega) (by omega))]
  split
  ·simp [hh i (by omega) (by omega)]
  ·simp
theorem onF_mem (f : Nat → Int) (x : Int) : ∀ d i, ∀ y ∈ onF T f x i d, ∃ j : Nat, i ≤ j ∧ j < i + d ∧ y = f j
 | 0, i, y, hy => by simp [onF] at hy
 | d + 1, i, y, hy => by
  simp only [onF, List.mem_append] at hy
  rcases hy with hy | hy
  ·split at hy
   ·simp at hy; exact ⟨i, by omega, by omega, hy⟩
   ·simp at hy
  ·obtain ⟨j, h1, h2, h3⟩ := onF_mem f x d (i + 1) y hy
   exact ⟨j, by omega, by omega, h3⟩
/-- A train that can't move has a path. -/
theorem cannot_path {i : Nat} (h : canB R T i = false) : 0 < (T.getD i z40).f1.length ∧ rd (T.getD i z40).f1 0 = headS T i := by
 unfold canB at h
 unfold headS
 cases hp : (T.getD i z40).f1 with
 | nil => rw [hp] at h; simp at h
 | cons x p => exact ⟨by simp, rfl⟩
theorem specWaits_loop (h : Wf R T N) (p : Nat) (hp : p < T.length) (hc : canB R T p = false) : ∀ (d i : Nat) (o : List Int), i + d = T.length → o.length ≤ i →
  Ev (fun k => spec_Waits.l0 k (p : Int) o T (T.length : Int) (i : Int) R T N) (o ++ onF T (fun j => N.getD j 0) (headS T p) i d)
 | 0, i, o, hd, ho => by
  refine Ev.one (fun k => ?_)
  simp only [spec_Waits.l0]; rw [if_neg (by omega)]; simp [onF]
 | d + 1, i, o, hd, ho => by
  have hn := h.n1
  have ht := h.t1
  have hi : i < T.length := by omega
  obtain ⟨c0, c1⟩ := cannot_path hc
  by_cases c : (T.getD i z40).f0 = headS T p
  ·refine Ev.eq (Ev.step (fun k => ?_) (specWaits_loop h p hp hc d (i + 1) (o ++ [N.getD i 0]) (by omega) (by simp; omega))) (by simp only [onF, if_pos c, List.append_assoc])
   simp only [spec_Waits.l0]
   rw [if_pos (by omega), if_pos (by omega), if_pos (by omega), if_pos (by omega), if_pos (by omega)]
   simp only [rd_T, rd_I, c1]
   rw [if_pos (by omega), if_pos c, if_pos (by omega), if_pos (by omega), wsucc hi (by omega)]
  ·refine Ev.eq (Ev.step (fun k => ?_) (specWaits_loop h p hp hc d (i + 1) o (by omega) (by omega))) (by simp only [onF, if_neg c, List.nil_append])
   simp only [spec_Waits.l0]
   rw [if_pos (by omega), if_pos (by omega), if_pos (by omega), if_pos (by omega), if_pos (by omega)]
   simp only [rd_T, rd_I, c1]
   rw [if_pos (by omega), if_neg c, wsucc hi (by omega)]
theorem specWaits_tells (hR : R.length ≤ 1048576) (hT : T.length ≤ 1048576) (hN : N.length ≤ 1048576) (a : Int) : Ev (fun k => spec_Waits.f k R T N a) (waitsD R T N a) := by
 unfold spec_Waits.f waitsD
 refine Ev.bind (specStateOk_tells R T N hR hT hN) ?_
 by_cases c : okS R T N = 0
 ·simp only [if_pos c]
  have h := ((right_iff R T N).1 c).wf
  have hn := h.n1
  refine Ev.bind (name_tells R T hN a) ?_
  rcases findD_tells N a with e | ⟨j, e, hj, _⟩
  ·rw [e]
   simp only [show (-1 : Int) < 0 by omega, if_true]
   exact Ev.one (fun k => by simp only [spec_Waits.j0, if_true])
  ·rw [e]
   simp only [show ¬ ((j : Int) < 0) by omega, if_false, Int.toNat_natCast]
   refine Ev.bind (l1can_tells h j (by omega)) ?_
   cases hc : canB R T j with
   | true => exact Ev.one (fun k => by simp only [spec_Waits.j0, if_true])
   | false =>
    refine Ev.eq (Ev.step (fun k => ?_) (specWaits_loop h j (by omega) hc T.length 0 [] (by omega) (by simp))) (by simp)
    simp only [spec_Waits.j0]
    rw [if_neg (by simp)]
    rfl
 ·simp only [if_neg c]
  exact Ev.now _
/-- waits of the program tells places. -/
def waitsP (R : List Int) (T : List S40) (p : Nat) : List Int := if canB R T p = true then [] else onF T (fun j => (j : Int)) (headS T p) 0 T.length
theorem implwaits_loop (h : Wf R T N) (p : Nat) (hp : p < T.length) (hc : canB R T p = false) : ∀ (d i : Nat) (o : List Int), i + d = T.length → o.length ≤ i →
  Ev (fun k => impl_waits.l0 k (p : Int) o T (T.length : Int) (i : Int) R T N) (o ++ onF T (fun j => (j : Int)) (headS T p) i d)
 | 0, i, o, hd, ho => by
  refine Ev.one (fun k => ?_)
  simp only [impl_waits.l0]; rw [if_neg (by omega)]; simp [onF]
 | d + 1, i, o, hd, ho => by
  have hn := h.n1
  have ht := h.t1
  have hi : i < T.length := by omega
  obtain ⟨c0, c1⟩ := cannot_path hc
  by_cases c : (T.getD i z40).f0 = headS T p
  ·refine Ev.eq (Ev.step (fun k => ?_) (implwaits_loop h p hp hc d (i + 1) (o ++ [(i : Int)]) (by omega) (by simp; omega))) (by simp only [onF, if_pos c, List.append_assoc])
   simp only [impl_waits.l0]
   rw [if_pos (by omega), if_pos (by omega), if_pos (by omega), if_pos (by omega), if_pos (by omega)]
   simp only [rd_T, rd_I, c1]
   rw [if_pos (by omega), if_pos c, if_pos (by omega), wsucc hi (by omega)]
  ·refine Ev.eq (Ev.step (fun k => ?_) (implwaits_loop h p hp hc d (i + 1) o (by omega) (by omega))) (by simp only [onF, if_neg c, List.nil_append])
   simp only [impl_waits.l0]
   rw [if_pos (by omega), if_pos (by omega), if_pos (by omega), if_pos (by omega), if_pos (by omega)]
   simp only [rd_T, rd_I, c1]
   rw [if_pos (by omega), if_neg c, wsucc hi (by omega)]
theorem implwaits_tells (h : Wf R T N) (p : Nat) (hp : p < T.length) : Ev (fun k => impl_waits.f k R T N (p : Int)) (waitsP R T p) := by
 unfold impl_waits.f waitsP
 refine Ev.bind (can_tells h p hp) ?_
 cases hc : canB R T p with
 | true => exact Ev.now _
 | false => exact Ev.eq (Ev.congr (fun k => by simp) (implwaits_loop h p hp hc T.length 0 [] (by omega) (by simp))) (by simp)
theorem waitsP_mem (p : Nat) : ∀ y ∈ waitsP R T p, ∃ j : Nat, j < T.length ∧ y = (j : Int) := by
 intro y hy
 unfold waitsP at hy
 split at hy
 ·simp at hy
 ·obtain ⟨j, _, h2, h3⟩ := onF_mem _ _ _ _ y hy
  exact ⟨j, by omega, h3⟩
theorem waitsP_len (p : Nat) : (waitsP R T p).length ≤ T.length := by
 unfold waitsP
 split
 ·simp
 ·exact onF_len _ _ _ _
theorem names_loop (h : Wf R T N) (L : List Int) (hL : L.length ≤ 5) (hm : ∀ y ∈ L, ∃ j : Nat, j < T.length ∧ y = (j : Int)) : ∀ (d i : Nat) (o : List Int), i + d = L.length → o.length ≤ i →
  Ev (fun k => impl_Waits.l0 k o L (L.length : Int) (i : Int) R T N) (o ++ (L.drop i).map (fun y => N.getD y.toNat 0))
 | 0, i, o, hd, ho => by
  refine Ev.one (fun k => ?_)
  simp only [impl_Waits.l0]; rw [if_neg (by omega), List.drop_eq_nil_of_le (by omega)]; simp
 | d + 1, i, o, hd, ho => by
  have hn := h.n1
  have hi : i < L.length := by omega
  obtain ⟨j, hj, ej⟩ := hm _ (getD_mem 0 hi)
  refine Ev.eq (Ev.step (fun k => ?_) (names_loop h L hL hm d (i + 1) (o ++ [N.getD j 0]) (by omega) (by simp; omega))) ?_
  ·simp only [impl_Waits.l0]
   rw [if_pos (by omega), if_pos (by omega), if_pos (by omega), rd_I, ej, if_pos (by omega), if_pos (by omega), if_pos (by omega), rd_I, wsucc hi (by omega)]
  ·rw [drop_cons 0 hi, List.map_cons, ej, Int.toNat_natCast, List.append_assoc]; rfl
theorem implWaits_tells (hR : R.length ≤ 1048576) (hT : T.length ≤ 1048576) (hN : N.length ≤ 1048576) (a : Int) : Ev (fun k => impl_Waits.f k R T N a) (waitsD R T N a) := by
 unfold impl_Waits.f waitsD
 refine Ev.bind (implStateOk_tells R T N hR hT hN) ?_
 by_cases c : okS R T N = 0
 ·simp only [if_pos c]
  have h := ((right_iff R T N).1 c).wf
  have hn := h.n1
  have ht := h.t1
  refine Ev.bind (find_tells R T hN a) ?_
  rcases findD_tells N a with e | ⟨j, e, hj, _⟩
  ·rw [e]
   simp only [show (-1 : Int) < 0 by omega, if_true]
   exact Ev.now _
  ·rw [e]
   simp only [show ¬ ((j : Int) < 0) by omega, if_false, Int.toNat_natCast]
   refine Ev.bind (implwaits_tells h j (by omega)) ?_
   refine Ev.eq (names_loop h (waitsP R T j) (by have := waitsP_len (R := R) (T := T) j; omega) (waitsP_mem j) (waitsP R T j).length 0 [] (by omega) (by simp)) ?_
   unfold waitsP
   cases hc : canB R T j with
   | true => simp
   | false =>
    simp only [Bool.false_eq_true, if_false, List.nil_append, List.drop_zero]
    exact onF_map _ _ _ _ _ _ (fun i _ _ => by simp)
 ·simp only [if_neg c]
  exact Ev.now _
theorem waitsD_len (a : Int) : (waitsD R T N a).length ≤ T.length := by
 unfold waitsD
 split
 ·split
  ·simp
  ·split
   ·simp
   ·exact onF_len _ _ _ _
 ·simp
end
end Go.Proofs.Ytckkppehfpjbpaa.Pu
