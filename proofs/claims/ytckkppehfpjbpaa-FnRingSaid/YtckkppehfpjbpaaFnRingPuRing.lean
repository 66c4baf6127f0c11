/- The law FnExactRing, as a plain statement: by numbers and by places it is the same ring. No program in sight. -/
import Derived.Test.YtckkppehfpjbpaaFnRingRg4
import Derived.Test.YtckkppehfpjbpaaFnRingRg5
namespace Go.Proofs.Ytckkppehfpjbpaa.Rg
open Go.RowKit Go.Proofs.YtckkppehfpjbpaaW.PrintWords Go.Proofs.YtckkppehfpjbpaaW.PrintLast Go.Proofs.Ytckkppehfpjbpaa.Q Go.Proofs.Ytckkppehfpjbpaa.Pu
set_option linter.unusedVariables false
set_option linter.unusedSimpArgs false
theorem findF_none (N : List Int) (a : Int) : ∀ (d i : Nat), findF N a i d = -1 → ∀ j, i ≤ j → j < i + d → N.getD j 0 ≠ a
 | 0, i, _, j, h1, h2 => by omega
 | d + 1, i, h, j, h1, h2 => by
  unfold findF at h
  by_cases c : N.getD i 0 = a
  ·rw [if_pos c] at h; omega
  ·rw [if_neg c] at h
   by_cases e : j = i
   ·subst e; exact c
   ·exact findF_none N a d (i + 1) h j (by omega) (by omega)
section
variable {R : List Int} {T : List S40} {N : List Int}
theorem find_name (h : Right R T N) {i : Nat} (hi : i < N.length) : findD N (N.getD i 0) = (i : Int) := by
 rcases findD_tells N (N.getD i 0) with h1 | ⟨j, h1, h2, h3⟩
 ·exact absurd rfl (findF_none _ _ _ _ h1 i (by omega) (by omega))
 ·rw [h1, name_inj h h2 hi h3]
/-- The number at a place. -/
def nmF (N : List Int) (p : Int) : Int := N.getD p.toNat 0
theorem waits_names (h : Right R T N) {p : Int} (hp : inP R T N p) : waitsD R T N (nmF N p) = (waitsI R T N p).map (nmF N) := by
 obtain ⟨j, hj, rfl⟩ := hp
 have hn := h.n1
 unfold waitsD waitsI nmF waitsP
 rw [if_pos ((right_iff _ _ _).2 h), Int.toNat_natCast, find_name h (by omega), if_neg (by omega), Int.toNat_natCast]
 cases hc : canB R T j with
 | true => simp
 | false =>
  simp only [Bool.false_eq_true, if_false]
  exact (onF_map _ _ _ _ _ _ (fun i _ _ => by simp)).symm
theorem ring_names (h : Right R T N) {p : Int} (hp : inP R T N p) : ringF (waitsD R T N) (nmF N p) = (ringF (waitsI R T N) p).map (nmF N) := by
 refine ringF_map (P := inP R T N) ?_ (fun p _ => waitsI_in h) (fun p hp => waits_names h hp) hp
 rintro x y ⟨i, hi, rfl⟩ ⟨j, hj, rfl⟩ e
 have hn := h.n1
 unfold nmF at e
 rw [Int.toNat_natCast, Int.toNat_natCast] at e
 rw [name_inj h (by omega) (by omega) e]
theorem plc_names (N : List Int) : (plc N.length).map (nmF N) = N := by
 apply List.ext_getElem
 ·simp [plc]
 ·intro i h1 h2
  have h3 : i < N.length := h2
  simp [plc, nmF, List.getD, h3]
theorem ring_same (h : Right R T N) : sRing R T N = iRing R T N := by
 have hn := h.n1
 unfold sRing iRing iBest
 rw [show (fun p : Int => N.getD p.toNat 0) = nmF N from rfl, ← bestR_map, List.map_map]
 congr 1
 have h9 := congrArg (List.map (ringF (waitsD R T N))) (plc_names N)
 rw [List.map_map, hn] at h9
 rw [← h9]
 apply List.map_congr_left
 intro p hp
 obtain ⟨j, hj, rfl⟩ := List.mem_map.1 hp
 exact ring_names h ⟨j, List.mem_range.1 hj, rfl⟩
def ringD (R : List Int) (T : List S40) (N : List Int) : List Int := if okS R T N = 0 then sRing R T N else []
theorem ringD_len (R : List Int) (T : List S40) (N : List Int) : (ringD R T N).length ≤ 9 := by
 unfold ringD
 by_cases c : okS R T N = 0
 ·rw [if_pos c, ring_same ((right_iff _ _ _).1 c)]
  unfold iRing
  rw [List.length_map]
  exact iBest_len R T N
 ·rw [if_neg c]; simp
theorem specRing_tells (hR : R.length ≤ 1048576) (hT : T.length ≤ 1048576) (hN : N.length ≤ 1048576) : Ev (fun k => spec_Ring.f k R T N) (ringD R T N) := by
 refine Ev.bind' (specStateOk_tells R T N hR hT hN) (Ev.all fun k => ?_)
 rw [if_pos rfl]
 rfl
theorem implRing_tells (hR : R.length ≤ 1048576) (hT : T.length ≤ 1048576) (hN : N.length ≤ 1048576) : Ev (fun k => impl_Ring.f k R T N) (ringD R T N) := by
 refine Ev.bind' (implStateOk_tells R T N hR hT hN) (Ev.all fun k => ?_)
 rw [if_pos rfl]
 unfold ringD
 by_cases c : okS R T N = 0
 ·rw [if_pos c, if_pos c, ring_same ((right_iff _ _ _).1 c)]
 ·rw [if_neg c, if_neg c]
end
end Go.Proofs.Ytckkppehfpjbpaa.Rg
namespace Go.Proofs.Ytckkppehfpjbpaa.Pu
open Go.RowKit Go.Proofs.YtckkppehfpjbpaaW.PrintWords Go.Proofs.YtckkppehfpjbpaaW.PrintLast Go.Proofs.Ytckkppehfpjbpaa.Q Go.Proofs.Ytckkppehfpjbpaa.Rg
end Go.Proofs.Ytckkppehfpjbpaa.Pu
