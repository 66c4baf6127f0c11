/- Plain laws: for whom a train waits. No program in sight. -/
import Derived.Test.YtkcocomehhlpmaaDoorFnSpoiltPure5
import Derived.Test.YtkcocomehhlpmaaDoorFnSpoiltQ1
import Derived.Test.YtkcocomehhlpmaaDoorFnSpoiltQ7
namespace Go.Proofs.YtkcocomehhlpmaaDoor.Pu
open Go.RowKit Go.Proofs.YtkcocomehhlpmaaDoorW.PrintWords Go.Proofs.YtkcocomehhlpmaaDoorW.PrintLast Go.Proofs.YtkcocomehhlpmaaDoor.Q
set_option linter.unusedVariables false
set_option linter.unusedSimpArgs false
/-- Those on section x, from place i on, told by f. -/
def onF (T : List S48) (f : Nat → Int) (x : Int) : Nat → Nat → List Int
 | _, 0 => []
 | i, d + 1 => (if (T.getD i z48).f0 = x then [f i] else []) ++ onF T f x (i + 1) d
def headS (T : List S48) (i : Nat) : Int := (T.getD i z48).f1.headD 0
def waitsD (R : List Int) (T : List S48) (N : List Int) (a : Int) : List Int :=
 if okS R T N = 0 then
  if findD N a < 0 then [] else if canB R T (findD N a).toNat = true then [] else onF T (fun j => N.getD j 0) (headS T (findD N a).toNat) 0 T.length
 else []
section
variable {R : List Int} {T : List S48} {N : List Int}
theorem onF_len (f : Nat → Int) (x : Int) : ∀ d i, (onF T f x i d).length ≤ d
 | 0, i => by simp [onF]
 | d + 1, i => by
  have := onF_len f x d (i + 1)
  simp only [onF, List.length_append]
  split <;> simp <;> omega
theorem onF_map (f g : Nat → Int) (h : Int → Int) (x : Int) : ∀ d i, (∀ j, i ≤ j → j < i + d → h (f j) = g j) → (onF T f x i d).map h = onF T g x i d
 | 0, i, _ => rfl
 | d + 1, i, hh => by
  simp only [onF, List.map_append, onF_map f g h x d (i + 1) (fun j h1 h2 => hh j (by omega) (by omega))]
  split
  ·simp [hh i (by omega) (by omega)]
  ·simp
theorem onF_mem (f : Nat → Int) (x : Int) : ∀ d i, ∀ y ∈ onF T f x i d, ∃ j : Nat, i ≤ j ∧ j < i + d ∧ y = f j
 | 0, i, y, hy => by simp [onF] at hy
 | d + 1, i, y, hy => by
  simp only [onF, List.mem_append] at hy
  rcases hy with hy | hy
  ·split at hy
   ·simp at hy; exact ⟨i, by omega, by omega, hy⟩
   ·simp at hy
  ·obtain ⟨j, h1, h2, h3⟩ := onF_mem f x d (i + 1) y hy
   exact ⟨j, by omega, by omega, h3⟩
/-- A train that can't move has a path. -/
theorem cannot_path {i : Nat} (h : canB R T i = false) : 0 < (T.getD i z48).f1.length ∧ rd (T.getD i z48).f1 0 = headS T i := by
 unfold canB at h
 unfold headS
 cases hp : (T.getD i z48).f1 with
 | nil => rw [hp] at h; simp at h
 | cons x p => exact ⟨by simp, rfl⟩
theorem specWaits_loop (h : Wf R T N) (p : Nat) (hp : p < T.length) (hc : canB R T p = false) : ∀ (d i : Nat) (o : List Int), i + d = T.length → o.length ≤ i →
  Ev (fun k => spec_Waits.l0 k (p : Int) o T (T.length : Int) (i : Int) R T N) (o ++ onF T (fun j => N.getD j 0) (headS T p) i d)
 | 0, i, o, hd, ho => by
  refine Ev.one (fun k => ?_)
  simp only [spec_Waits.l0]; rw [if_neg (by omega)]; simp [onF]
 | d + 1, i, o, hd, ho => by
  have hn := h.n1
  have ht := h.t1
  have hi : i < T.length := by omega
  obtain ⟨c0, c1⟩ := cannot_path hc
  by_cases c : (T.getD i z48).f0 = headS T p
  ·refine Ev.eq (Ev.step (fun k => ?_) (specWaits_loop h p hp hc d (i + 1) (o ++ [N.getD i 0]) (by omega) (by simp; omega))) (by simp only [onF, if_pos c, List.append_assoc])
   simp only [spec_Waits.l0]
   rw [if_pos (by omega), if_pos (by omega), if_pos (by omega), if_pos (by omega), if_pos (by omega)]
   simp only [rd_T, rd_I, c1]
   rw [if_pos (by omega), if_pos c, if_pos (by omega), if_pos (by omega), wsucc hi (by omega)]
  ·refine Ev.eq (Ev.step (fun k => ?_) (specWaits_loop h p hp hc d (i + 1) o (by omega) (by omega))) (by simp only [onF, if_neg c, List.nil_append])
   simp only [spec_Waits.l0]
   rw [if_pos (by omega), if_pos (by omega), if_pos (by omega), if_pos (by omega), if_pos (by omega)]
   simp only [rd_T, rd_I, c1]
   rw [if_pos (by omega), if_neg c, wsucc hi (by omega)]
theorem specWaits_tells (hR : R.length ≤ 1048576) (hT : T.length ≤ 1048576) (hN : N.length ≤ 1048576) (a : Int) : Ev (fun k => spec_Waits.f k R T N a) (waitsD R T N a) := by
 unfold spec_Waits.f waitsD
 refine Ev.bind (specStateOk_tells R T N hR hT hN) ?_
 by_cases c : okS R T N = 0
 ·simp only [if_pos c]
  have h := ((right_iff R T N).1 c).wf
  have hn := h.n1
  refine Ev.bind (name_tells R T hN a) ?_
  rcases findD_tells N a with e | ⟨j, e, hj, _⟩
  ·rw [e]
   simp only [show (-1 : Int) < 0 by omega, if_true]
   exact Ev.one (fun k => by simp only [spec_Waits.j0, if_true])
  ·rw [e]
   simp only [show ¬ ((j : Int) < 0) by omega, if_false, Int.toNat_natCast]
   refine Ev.bind (l1can_tells h j (by omega)) ?_
   cases hc : canB R T j with
   | true => exact Ev.one (fun k => by simp only [spec_Waits.j0, if_true])
   | false =>
    refine Ev.eq (Ev.step (fun k => ?_) (specWaits_loop h j (by omega) hc T.length 0 [] (by omega) (by simp))) (by simp)
    simp only [spec_Waits.j0]
    rw [if_neg (by simp)]
    rfl
 ·simp only [if_neg c]
  exact Ev.now _
/-- waits of the program tells places. -/
def waitsP (R : List Int) (T : List S48) (p : Nat) : List Int := if canB R T p = true then [] else onF T (fun j => (j : Int)) (headS T p) 0 T.length
theorem implwaits_loop (h : Wf R T N) (p : Nat) (hp : p < T.length) (hc : canB R T p = false) : ∀ (d i : Nat) (o : List Int), i + d = T.length → o.length ≤ i →
  Ev (fun k => impl_waits.l0 k (p : Int) o T (T.length : Int) (i : Int) R T N) (o ++ onF T (fun j => (j : Int)) (headS T p) i d)
 | 0, i, o, hd, ho => by
  refine Ev.one (fun k => ?_)
  simp only [impl_waits.l0]; rw [if_neg (by omega)]; simp [onF]
 | d + 1, i, o, hd, ho => by
  have hn := h.n1
  have ht := h.t1
  have hi : i < T.length := by omega
  obtain ⟨c0, c1⟩ := cannot_path hc
  by_cases c : (T.getD i z48).f0 = headS T p
  ·refine Ev.eq (Ev.step (fun k => ?_) (implwaits_loop h p hp hc d (i + 1) (o ++ [(i : Int)]) (by omega) (by simp; omega))) (by simp only [onF, if_pos c, List.append_assoc])
   simp only [impl_waits.l0]
   rw [if_pos (by omega), if_pos (by omega), if_pos (by omega), if_pos (by omega), if_pos (by omega)]
   simp only [rd_T, rd_I, c1]
   rw [if_pos (by omega), if_pos c, if_pos (by omega), wsucc hi (by omega)]
  ·refine Ev.eq (Ev.step (fun k => ?_) (implwaits_loop h p hp hc d (i + 1) o (by omega) (by omega))) (by simp only [onF, if_neg c, List.nil_append])
   simp only [impl_waits.l0]
   rw [if_pos (by omega), if_pos (by omega), if_pos (by omega), if_pos (by omega), if_pos (by omega)]
   simp only [rd_T, rd_I, c1]
   rw [if_pos (by omega), if_neg c, wsucc hi (by omega)]
theorem implwaits_tells (h : Wf R T N) (p : Nat) (hp : p < T.length) : Ev (fun k => impl_waits.f k R T N (p : Int)) (waitsP R T p) := by
 unfold impl_waits.f waitsP
 refine Ev.bind (can_tells h p hp) ?_
 cases hc : canB R T p with
 | true => exact Ev.now _
 | false => exact Ev.eq (Ev.congr (fun k => by simp) (implwaits_loop h p hp hc T.length 0 [] (by omega) (by simp))) (by simp)
theorem waitsP_mem (p : Nat) : ∀ y ∈ waitsP R T p, ∃ j : Nat, j < T.length ∧ y = (j : Int) := by
 intro y hy
 unfold waitsP at hy
 split at hy
 ·simp at hy
 ·obtain ⟨j, _, h2, h3⟩ := onF_mem _ _ _ _ y hy
  exact ⟨j, by omega, h3⟩
theorem waitsP_len (p : Nat) : (waitsP R T p).length ≤ T.length := by
 unfold waitsP
 split
 ·simp
 ·exact onF_len _ _ _ _
end
end Go.Proofs.YtkcocomehhlpmaaDoor.Pu
