/- Plain laws: a train by its number. No program in sight. -/
import Derived.Test.YtkcocomehhlpmaaDoorFnSpoiltPure3
import Derived.Test.YtkcocomehhlpmaaDoorFnSpoiltQ7
namespace Go.Proofs.YtkcocomehhlpmaaDoor.Pu
open Go.RowKit Go.Proofs.YtkcocomehhlpmaaDoorW.PrintWords Go.Proofs.YtkcocomehhlpmaaDoorW.PrintLast Go.Proofs.YtkcocomehhlpmaaDoor.Q
set_option linter.unusedVariables false
set_option linter.unusedSimpArgs false
/-- The first place from i on where the number stands, d places left; -1: nowhere. -/
def findF (N : List Int) (a : Int) : Nat → Nat → Int
 | _, 0 => -1
 | i, d + 1 => if N.getD i 0 = a then (i : Int) else findF N a (i + 1) d
def findD (N : List Int) (a : Int) : Int := findF N a 0 N.length
theorem findF_tells (N : List Int) (a : Int) : ∀ (d i : Nat), i + d = N.length → findF N a i d = -1 ∨ ∃ j : Nat, findF N a i d = (j : Int) ∧ i ≤ j ∧ j < N.length ∧ N.getD j 0 = a
 | 0, i, h => .inl rfl
 | d + 1, i, h => by
  unfold findF
  by_cases c : N.getD i 0 = a
  ·rw [if_pos c]; exact .inr ⟨i, rfl, Nat.le_refl _, by omega, c⟩
  ·rw [if_neg c]
   rcases findF_tells N a d (i + 1) (by omega) with h1 | ⟨j, h1, h2, h3, h4⟩
   ·exact .inl h1
   ·exact .inr ⟨j, h1, by omega, h3, h4⟩
theorem findD_tells (N : List Int) (a : Int) : findD N a = -1 ∨ ∃ j : Nat, findD N a = (j : Int) ∧ j < N.length ∧ N.getD j 0 = a := by
 rcases findF_tells N a N.length 0 (by omega) with h1 | ⟨j, h1, h2, h3, h4⟩
 ·exact .inl h1
 ·exact .inr ⟨j, h1, h3, h4⟩
section
variable {R : List Int} {T : List S48} {N : List Int}
theorem name_loop (hN : N.length ≤ 1048576) (a : Int) : ∀ (d i : Nat), i + d = N.length → Ev (fun k => spec_l1name.l0 k a N (N.length : Int) (i : Int)) (findF N a i d)
 | 0, i, h => by
  refine Ev.one (fun k => ?_)
  simp only [spec_l1name.l0]; rw [if_neg (by omega)]; rfl
 | d + 1, i, h => by
  have hi : i < N.length := by omega
  by_cases c : N.getD i 0 = a
  ·refine Ev.one (fun k => ?_)
   simp only [spec_l1name.l0]
   rw [if_pos (by omega), if_pos (by omega), if_pos (by omega), rd_I, if_pos c, findF, if_pos c]
  ·refine Ev.eq (Ev.step (fun k => ?_) (name_loop hN a d (i + 1) (by omega))) (by rw [findF, if_neg c])
   simp only [spec_l1name.l0]
   rw [if_pos (by omega), if_pos (by omega), if_pos (by omega), rd_I, if_neg c, wsucc hi (by omega)]
theorem name_tells (R : List Int) (T : List S48) (hN : N.length ≤ 1048576) (a : Int) : Ev (fun k => spec_l1name.f k R T N a) (findD N a) :=
 Ev.congr (fun k => by unfold spec_l1name.f; rfl) (name_loop hN a N.length 0 (by omega))
end
end Go.Proofs.YtkcocomehhlpmaaDoor.Pu
