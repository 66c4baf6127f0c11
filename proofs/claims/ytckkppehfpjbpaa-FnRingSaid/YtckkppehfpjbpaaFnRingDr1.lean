/- The drawn states of rings come to an end, with short lists. No program in sight. -/
import Derived.Test.YtckkppehfpjbpaaFnRingDr0
import Derived.Test.YtckkppehfpjbpaaFnRingPuDr
import Derived.Test.YtckkppehfpjbpaaFnRingPure4
import Derived.Test.YtckkppehfpjbpaaFnRingPure6d
import Derived.Test.YtckkppehfpjbpaaFnRingPuRing
namespace Go.Proofs.Ytckkppehfpjbpaa.Dr
open Go.RowKit Go.Proofs.YtckkppehfpjbpaaW.PrintWords Go.Proofs.YtckkppehfpjbpaaW.PrintLast Go.Proofs.Ytckkppehfpjbpaa.Q Go.Proofs.Ytckkppehfpjbpaa.Pu Go.Proofs.Ytckkppehfpjbpaa.Sq
set_option linter.unusedVariables false
set_option linter.unusedSimpArgs false
section
variable {R : List Int} {T : List S40} {N : List Int}
theorem mvF_eq : ∀ (d i : Nat), mvF R T N i d = ((List.range' i d).filter (canB R T)).map (fun i => N.getD i 0)
 | 0, i => rfl
 | d + 1, i => by
  rw [List.range'_succ, mvF, mvF_eq d (i + 1), List.filter_cons]
  by_cases c : canB R T i = true
  ·rw [if_pos c, if_pos c]; rfl
  ·rw [if_neg c, if_neg c]; rfl
/-- A name of a move stands for a train that can move. -/
theorem move_of {a : Int} (ha : a ∈ movesD R T N) : Right R T N ∧ ∃ i, i < T.length ∧ stD R T N a = stepD R T N i := by
 by_cases ho : okS R T N = 0
 rotate_left
 ·unfold movesD at ha; rw [if_neg ho] at ha; simp at ha
 have h := (right_iff R T N).1 ho
 have hn := h.n1
 refine ⟨h, ?_⟩
 unfold movesD at ha
 rw [if_pos ho] at ha
 unfold mvS at ha
 rw [mvF_eq] at ha
 obtain ⟨i, hi, rfl⟩ := List.mem_map.1 ha
 obtain ⟨h1, h2⟩ := List.mem_filter.1 hi
 have h3 : i < T.length := by
  have := List.mem_range'_1.1 h1; omega
 refine ⟨i, h3, ?_⟩
 unfold stD
 rw [if_pos ho, Rg.find_name h (by omega), if_neg (by omega), Int.toNat_natCast, if_pos h2]
theorem stepD_R (i : Nat) : (stepD R T N i).1 = R := by
 unfold stepD
 split <;> rfl
theorem movesD_len : (movesD R T N).length ≤ T.length := by
 unfold movesD mvS
 split
 ·exact mvF_len _ _
 ·simp
end
/-- Short lists, with a section. -/
def Sho (R : List Int) (T : List S40) (N : List Int) : Prop := (1 ≤ R.length ∧ R.length ≤ 100) ∧ T.length ≤ 5 ∧ N.length ≤ 5 ∧ ∀ t ∈ T, t.f1.length ≤ 8
section
variable {l : List Int} (hw : ∀ x ∈ l, 0 ≤ x ∧ x ≤ 255)
include hw
theorem l5_loop : ∀ (d : Nat), d ≤ 5 → ∀ (at_ sd : Int) (R : List Int) (T : List S40) (N : List Int), Sho R T N → 0 ≤ at_ → at_ + d ≤ 2000 →
  ∃ R' T' N' a' s', Ev (fun k => spec_l5state.l0 k (d : Int) l at_ sd R T N) (R', T', N', a', s') ∧ Mid 6 R' T' N' := by
 intro d
 induction d with
 | zero =>
  intro hd at_ sd R T N hs h0 h1
  obtain ⟨⟨s1, s2⟩, s3, s4, s5⟩ := hs
  obtain ⟨x, a, s, e, x0, x1, a0, a1⟩ := pick_tells hw (at_ := at_) sd h0 (by omega) (n := 16) (by omega) (by omega)
  by_cases c : x = 0
  ·obtain ⟨R', T', N', a', s', he, hm, _⟩ := spoil_tells hw (n := 5) (by omega) (R := R) (T := T) (N := N) ⟨by omega, s3, s4, fun t ht => by have := s5 t ht; omega⟩ s1 (fun t ht => by have := s5 t ht; omega) (a := a) s a0 (by omega)
   refine ⟨R', T', N', a', s', Ev.step (f := fun k => (spec_l5Cur_spoil.f k l a s R T N).bind fun bt404 => (some (bt404.1, bt404.2.1, bt404.2.2.1, bt404.2.2.2.1, bt404.2.2.2.2))) (fun K => ?_) (Ev.bind' (f := fun _ (t : List Int × List S40 × List Int × Int × Int) => some (t.1, t.2.1, t.2.2.1, t.2.2.2.1, t.2.2.2.2)) he (Ev.all fun _ => rfl)), hm⟩
   simp only [spec_l5state.l0]
   rw [if_neg (by omega), e, Option.bind_some, if_pos c]
  ·refine ⟨R, T, N, a, s, Ev.one fun K => ?_, ⟨by omega, by omega, by omega, fun t ht => by have := s5 t ht; omega⟩⟩
   simp only [spec_l5state.l0]
   rw [if_neg (by omega), e, Option.bind_some, if_neg c]
 | succ d ih =>
  intro hd at_ sd R T N hs h0 h1
  obtain ⟨⟨s1, s2⟩, s3, s4, s5⟩ := hs
  have hsh : Sho R T N := ⟨⟨s1, s2⟩, s3, s4, s5⟩
  have em : wrap64 (((d + 1 : Nat) : Int) - 1) = (d : Int) := by rw [w64 (by omega) (by omega)]; omega
  have hmv := specMoves_tells (R := R) (T := T) (N := N) (by omega) (by omega) (by omega)
  have hln := movesD_len (R := R) (T := T) (N := N)
  have hpos : ((d + 1 : Nat) : Int) > 0 := by omega
  by_cases c : ((movesD R T N).length : Int) = 0
  ·refine ⟨R, T, N, at_, sd, Ev.step (fun K => ?_) (Ev.bind' (f := fun k t385 => (if (t385.length : Int) = 0 then (some (R, T, N, at_, sd)) else ((spec_l5Cur_pick.f l at_ sd (t385.length : Int)).bind fun bt388 => (if 0 ≤ bt388.1 then (if bt388.1 < (t385.length : Int) then ((spec_Step.f k R T N (rd t385 bt388.1)).bind fun bt392 => (spec_l5state.l0 k (wrap64 (((d + 1 : Nat) : Int) - 1)) l bt388.2.1 bt388.2.2 bt392.1 bt392.2.1 bt392.2.2)) else (none)) else (none))))) hmv (Ev.all fun K => if_pos c)), ⟨by omega, by omega, by omega, fun t ht => by have := s5 t ht; omega⟩⟩
   simp only [spec_l5state.l0]
   rw [if_pos hpos]
  ·obtain ⟨x, a, s, e, x0, x1, a0, a1⟩ := pick_tells hw (at_ := at_) sd h0 (by omega) (n := ((movesD R T N).length : Int)) (by omega) (by omega)
   have hmem : rd (movesD R T N) x ∈ movesD R T N := getD_mem 0 (by omega)
   obtain ⟨hr, i, hi, est⟩ := move_of hmem
   have hst := specStep_tells (R := R) (T := T) (N := N) (by omega) (by omega) (by omega) (rd (movesD R T N) x)
   rw [est] at hst
   have hwf := hr.wf.step i hi
   have hR := stepD_R (R := R) (T := T) (N := N) i
   have hsh2 : Sho (stepD R T N i).1 (stepD R T N i).2.1 (stepD R T N i).2.2 := ⟨by rw [hR]; exact ⟨s1, s2⟩, hwf.t1, by rw [hwf.n1]; exact hwf.t1, hwf.path⟩
   obtain ⟨R', T', N', a', s', he, hm⟩ := ih (by omega) a s _ _ _ hsh2 a0 (by omega)
   refine ⟨R', T', N', a', s', Ev.step (fun K => ?_) (Ev.bind' (f := fun k t385 => (if (t385.length : Int) = 0 then (some (R, T, N, at_, sd)) else ((spec_l5Cur_pick.f l at_ sd (t385.length : Int)).bind fun bt388 => (if 0 ≤ bt388.1 then (if bt388.1 < (t385.length : Int) then ((spec_Step.f k R T N (rd t385 bt388.1)).bind fun bt392 => (spec_l5state.l0 k (wrap64 (((d + 1 : Nat) : Int) - 1)) l bt388.2.1 bt388.2.2 bt392.1 bt392.2.1 bt392.2.2)) else (none)) else (none))))) hmv (Ev.same (fun K => ?_) (Ev.bind' (f := fun k (t : List Int × List S40 × List Int) => spec_l5state.l0 k (d : Int) l a s t.1 t.2.1 t.2.2) hst he))), hm⟩
   ·simp only [spec_l5state.l0]
    rw [if_pos hpos]
   ·rw [if_neg c, e, Option.bind_some, if_pos x0, if_pos x1, em]
theorem l5state_tells : ∃ R T N a s, Ev (fun k => spec_l5state.f k l 0 0) (R, T, N, a, s) ∧ Mid 6 R T N := by
 obtain ⟨⟨R, T, N, a, s⟩, hr, ⟨h1, h2, _⟩, ⟨h3, h4⟩, h5, h6, h7⟩ := state_tells hw
 obtain ⟨p, a1, s1, e, p0, p1, b0, b1⟩ := pick_tells hw (at_ := a) s h6 (by simp only at h7; omega) (n := 6) (by omega) (by omega)
 obtain ⟨q, rfl⟩ := Int.eq_ofNat_of_zero_le p0
 obtain ⟨R', T', N', a', s', he, hm⟩ := l5_loop hw q (by omega) a1 s1 R T N ⟨⟨h1, h2⟩, h3, h5, h4⟩ b0 (by simp only at h7; omega)
 refine ⟨R', T', N', a', s', Ev.bind' (f := fun k (bt370 : List Int × List S40 × List Int × Int × Int) => ((spec_l5Cur_pick.f l bt370.2.2.2.1 bt370.2.2.2.2 6).bind fun bt382 => (spec_l5state.l0 k bt382.1 l bt382.2.1 bt382.2.2 bt370.1 bt370.2.1 bt370.2.2.1))) hr (Ev.same (fun K => ?_) he), hm⟩
 simp only
 rw [e, Option.bind_some]
theorem DrawRing_tells : ∃ R T N, Ev (fun k => spec_DrawRing.f k l) (R, T, N) ∧ R.length ≤ 1048576 ∧ T.length ≤ 1048576 ∧ N.length ≤ 1048576 := by
 obtain ⟨R, T, N, a, s, he, h1, h2, h3, _⟩ := l5state_tells hw
 exact ⟨R, T, N, Ev.bind' (f := fun _ (t : List Int × List S40 × List Int × Int × Int) => some (t.1, t.2.1, t.2.2.1)) he (Ev.all fun _ => rfl), by omega, by omega, by omega⟩
end
end Go.Proofs.Ytckkppehfpjbpaa.Dr
