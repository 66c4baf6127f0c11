/- The drawn states of spoilt ones come to an end, with short lists; the law FnSpoilt at its argument. -/
import Derived.Test.YtkcocomehhlpmaaDoorFnSpoiltLwFnSpoilt
import Derived.Test.YtkcocomehhlpmaaDoorFnSpoiltPuDr
namespace Go.Proofs.YtkcocomehhlpmaaDoor.Ds
open Go.RowKit Go.Proofs.YtkcocomehhlpmaaDoorW.PrintWords Go.Proofs.YtkcocomehhlpmaaDoorW.PrintLast Go.Proofs.YtkcocomehhlpmaaDoor.Q Go.Proofs.YtkcocomehhlpmaaDoor.Pu Go.Proofs.YtkcocomehhlpmaaDoor.Sq Go.Proofs.YtkcocomehhlpmaaDoor.Dr
set_option linter.unusedVariables false
set_option linter.unusedSimpArgs false
theorem bytes_ok {l : List Int} (h : ∀ x ∈ l, (Lit.int .u8 x).wf = true) : ∀ x ∈ l, 0 ≤ x ∧ x ≤ 255 := by
 intro x hx
 have h := h x hx
 have h4 : IntKind.u8.min = 0 := rfl
 have h5 : IntKind.u8.max = 255 := rfl
 simp only [Lit.wf, Bool.and_eq_true, decide_eq_true_eq, h4, h5] at h
 omega
section
variable {l : List Int} (hw : ∀ x ∈ l, 0 ≤ x ∧ x ≤ 255)
include hw
theorem drw_tells : ∀ (d : Nat), d ≤ 2 → ∀ (a s : Int) (R : List Int) (T : List S48) (N : List Int), MidC (12 - d) (9 - d) R T N → 0 ≤ a → a + 200 * d ≤ 5000 →
  ∃ R' T' N', Ev (fun k => drw k (d : Int) l a s R T N) (R', T', N') ∧ R'.length ≤ 1048576 ∧ T'.length ≤ 1048576 ∧ N'.length ≤ 1048576 := by
 intro d
 induction d with
 | zero =>
  intro hd a s R T N hm h0 h1
  obtain ⟨m1, m2, m3, m4⟩ := hm
  refine ⟨R, T, N, Ev.one fun k => ?_, by omega, by omega, by omega⟩
  unfold drw
  rw [if_neg (by omega)]
 | succ d ih =>
  intro hd a s R T N hm h0 h1
  have hm2 := hm
  obtain ⟨m1, m2, m3, m4⟩ := hm
  by_cases c : 0 < R.length
  ·obtain ⟨R1, T1, N1, a1, s1, he, hm1, ha0, ha1⟩ := spoil_tellsC hw (by omega) (by omega) (by omega) hm2 c s h0 (by omega)
   obtain ⟨R', T', N', h, hl⟩ := ih (by omega) a1 s1 R1 T1 N1 (hm1.le (by omega) (by omega)) ha0 (by omega)
   refine ⟨R', T', N', Ev.step (f := fun k => (spec_l5Cur_spoil.f k l a s R T N).bind fun t => drw k (((d + 1 : Nat) : Int) - 1) l t.2.2.2.1 t.2.2.2.2 t.1 t.2.1 t.2.2.1) (fun k => ?_) (Ev.bind he ?_), hl⟩
   ·show (if _ then _ else _) = _
    rw [if_pos ⟨by omega, c⟩]
   ·simp only
    rw [show ((d + 1 : Nat) : Int) - 1 = (d : Int) by omega]
    exact h
  ·refine ⟨R, T, N, Ev.one fun k => ?_, by omega, by omega, by omega⟩
   unfold drw
   rw [if_neg (by omega)]
theorem DrawStateOk_tells : ∃ R T N, Ev (fun k => spec_DrawStateOk.f k l) (R, T, N) ∧ R.length ≤ 1048576 ∧ T.length ≤ 1048576 ∧ N.length ≤ 1048576 := by
 obtain ⟨⟨R, T, N, a, s⟩, hr, ⟨h1, h2, _⟩, ⟨h3, h4⟩, h5, h6, h7⟩ := state_tells hw
 simp only at h1 h2 h3 h4 h5 h6 h7
 obtain ⟨p, a1, s1, e, p0, p1, b0, b1⟩ := pick_tells hw (at_ := a) s h6 (by omega) (n := 3) (by omega) (by omega)
 obtain ⟨q, rfl⟩ := Int.eq_ofNat_of_zero_le p0
 obtain ⟨R', T', N', h, hl⟩ := drw_tells hw q (by omega) a1 s1 R T N ⟨by omega, by omega, by omega, fun t ht => by have := h4 t ht; omega⟩ b0 (by omega)
 refine ⟨R', T', N', Ev.bind hr ?_, hl⟩
 simp only [e, Option.bind_some]
 refine Ev.congr (fun n => if_pos ⟨by omega, by omega⟩) ?_
 exact h
end
theorem FnSpoilt_walk (a0 : Option Addr) (len0 cap0 : Nat) (z0 : List Int) (w : World) (w0 : (a0 = none ∧ len0 = 0 ∧ cap0 = 0 ∧ z0 = []) ∨ ∃ x, a0 = some x ∧ len0 ≤ cap0 ∧ cap0 ≤ maxLen ∧ z0.length = cap0 ∧ (∀ i, i < z0.length → w.cell? (x.add i) = some (.int .u8 (z0.getD i 0))) ∧ ∀ n ∈ z0, (Lit.int .u8 n).wf = true) (htab : Sh.Tab w) :
  Calls Tryd.prog 4 #[.slice a0 len0 cap0] w fun e w' => e = .returned (.bool true) ∧ Below w.heap.size w w' := by
 obtain ⟨l0, rfl, hr0, hm0, hw0, hc0⟩ := ReadsInt.ofRowC w0
 exact Lw.FnSpoilt_calls a0 cap0 l0 w (Kd.C_of_reads (d := (0 : Int)) (h1 := fun _ => rfl) hr0) hc0 htab (fun _ => DrawStateOk_tells (bytes_ok hw0))
end Go.Proofs.YtkcocomehhlpmaaDoor.Ds
