/- The law FnNever answers true at all bytes. No program in sight. -/
import Derived.Test.YtpbclogjoangfaaFnNeverKw0
import Derived.Test.YtpbclogjoangfaaFnNeverPuSt
import Derived.Test.YtpbclogjoangfaaFnNeverHlawsFnNever
namespace Go.Proofs.Ytpbclogjoangfaa.Ne
open Go.RowKit Go.Proofs.YtpbclogjoangfaaW.PrintWords Go.Proofs.YtpbclogjoangfaaW.PrintLast Go.Proofs.Ytpbclogjoangfaa.Q Go.Proofs.Ytpbclogjoangfaa.Pu Go.Proofs.Ytpbclogjoangfaa.Sr Go.Proofs.Ytpbclogjoangfaa.Sp Go.Proofs.Ytpbclogjoangfaa.Al Go.Proofs.Ytpbclogjoangfaa.So Go.Proofs.Ytpbclogjoangfaa.Me Go.Proofs.Ytpbclogjoangfaa.Wk Go.Proofs.Ytpbclogjoangfaa.St Go.Proofs.Ytpbclogjoangfaa.Gs
set_option linter.unusedVariables false
set_option linter.unusedSimpArgs false
attribute [local irreducible] V
theorem byte_at {l : List Int} (hw : ∀ x ∈ l, 0 ≤ x ∧ x ≤ 255) (i : Nat) {n : Nat} (hn : 0 < n) : ∃ (b : Int) (q : Nat), laws_wByte.f l (i : Int) = some b ∧ Int.tmod b (n : Int) = (q : Int) ∧ q < n := by
 obtain ⟨b, e⟩ := wByte_ok l hw i
 refine ⟨_, b % n, e, ?_, Nat.mod_lt _ hn⟩
 rw [Int.tmod_eq_emod_of_nonneg (by omega)]; rfl
theorem bytes_ok {l : List Int} (h : ∀ x ∈ l, (Lit.int .u8 x).wf = true) : ∀ x ∈ l, 0 ≤ x ∧ x ≤ 255 := by
 intro x hx
 have h := h x hx
 have h4 : IntKind.u8.min = 0 := rfl
 have h5 : IntKind.u8.max = 255 := rfl
 simp only [Lit.wf, Bool.and_eq_true, decide_eq_true_eq, h4, h5] at h
 omega
/-- How many moves are left. -/
def rem : List S35 → Nat
 | [] => 0
 | t :: T => t.f1.length + 1 + rem T
theorem rem_erase : ∀ (T : List S35) (i : Nat), i < T.length → rem (T.eraseIdx i) + ((T.getD i z35).f1.length + 1) = rem T
 | [], i, h => by simp at h
 | t :: T, 0, h => by simp [rem]; omega
 | t :: T, i + 1, h => by
  have := rem_erase T i (by simpa using h)
  simp only [List.eraseIdx_cons_succ, List.getD_cons_succ, rem]
  omega
theorem rem_set : ∀ (T : List S35) (i : Nat) (x : S35), i < T.length → rem (T.set i x) + (T.getD i z35).f1.length = rem T + x.f1.length
 | [], i, x, h => by simp at h
 | t :: T, 0, x, h => by simp [rem]; omega
 | t :: T, i + 1, x, h => by
  have := rem_set T i x (by simpa using h)
  simp only [List.set_cons_succ, List.getD_cons_succ, rem]
  omega
theorem rem_step {R : List Int} {T : List S35} {N : List Int} {i : Nat} (hi : i < T.length) : rem (stepD R T N i).2.1 + 1 = rem T := by
 unfold stepD
 cases hp : (T.getD i z35).f1 with
 | nil =>
  have := rem_erase T i hi
  rw [hp] at this
  exact this
 | cons x p =>
  have := rem_set T i ⟨x, p, (T.getD i z35).f2⟩ hi
  rw [hp] at this
  simp only [List.length_cons] at this
  show rem (T.set i ⟨x, p, (T.getD i z35).f2⟩) + 1 = rem T
  omega
theorem rem_le : ∀ {T : List S35}, (∀ t ∈ T, t.f1.length ≤ 8) → rem T ≤ 9 * T.length
 | [], _ => by simp [rem]
 | t :: T, h => by
  have h1 := h t (by simp)
  have h2 := rem_le (T := T) (fun x hx => h x (by simp [hx]))
  simp only [rem, List.length_cons]
  omega
section
variable {R : List Int} {T : List S35} {N : List Int}
theorem allowed_of (h : Right R T N) {a : Int} (ha : a ∈ allowedD R T N) : ∃ i, i < T.length ∧ canB R T i = true ∧ a = N.getD i 0 ∧ stD R T N a = stepD R T N i ∧ 0 ≤ val R (stepD R T N i).2.1 := by
 have ho := (right_iff R T N).2 h
 have hin := ha
 unfold allowedD alD at ha
 rw [if_pos ho] at ha
 obtain ⟨i, hi, rfl⟩ := List.mem_map.1 ha
 obtain ⟨h1, h2⟩ := List.mem_filter.1 hi
 have h3 := List.mem_range.1 h1
 simp only [alw, Bool.and_eq_true] at h2
 have hc : canB R T i = true := by rw [can0 h.wf h3]; exact h2.1
 refine ⟨i, h3, hc, rfl, ?_, (allowed_iff h h3 hc).1 hin⟩
 unfold stD
 rw [if_pos ho, find_name h h3, if_neg (by omega), Int.toNat_natCast, if_pos hc]
theorem allowed_some (h : Right R T N) (hv : 0 ≤ val R T) (ht : 0 < T.length) : 0 < (allowedD R T N).length ∧ mvS R T N ≠ [] := by
 have hl : T.length ≤ zv.length := h.t1
 have hh : hereP T zv T.length = true := by
  rw [hereP_idx, show idx T zv = List.range T.length from idx_zero h.wf]
  cases e : T.length with
  | zero => omega
  | succ n => rw [List.range_succ]; simp
 obtain ⟨i, hi⟩ := nxt_some hl hh hv
 obtain ⟨hm, hg⟩ := nxt_mem hi
 obtain ⟨h1, h2⟩ := mvP_mem hm
 unfold goodP at hg
 have hg := (of_decide_eq_true hg).1
 have hc : canB R T i = true := by rw [can0 h.wf h1]; exact h2
 have ha := (allowed_iff h h1 hc).2 (by rw [val_step h.wf h1]; exact hg)
 refine ⟨List.length_pos_of_mem ha, fun e => ?_⟩
 have hmm : N.getD i 0 ∈ mvS R T N := by
  unfold mvS
  rw [mvF_eq]
  exact List.mem_map.2 ⟨i, List.mem_filter.2 ⟨List.mem_range'_1.2 ⟨Nat.zero_le _, by omega⟩, hc⟩, rfl⟩
 rw [e] at hmm
 simp at hmm
theorem allowed_none (h : ¬ (okS R T N = 0 ∧ 0 ≤ V R T zv)) : allowedD R T N = [] := by
 by_cases c : okS R T N = 0
 ·have hr := (right_iff R T N).1 c
  apply List.eq_nil_iff_forall_not_mem.2
  intro a ha
  obtain ⟨i, hi, hc, _, _, hv⟩ := allowed_of hr ha
  exact h ⟨c, val_up hr.wf hi hc hv⟩
 ·unfold allowedD; rw [if_neg c]
end
theorem safe_at {R : List Int} {T : List S35} {N : List Int} : (if okS R T N = 0 then decide (0 ≤ V R T [0, 0, 0, 0, 0]) else false) = decide (okS R T N = 0 ∧ 0 ≤ V R T zv) := by
 have hz : V R T [0, 0, 0, 0, 0] = V R T zv := rfl
 rw [hz]
 by_cases c : okS R T N = 0
 ·rw [if_pos c]; simp [c]
 ·rw [if_neg c]; simp [c]
theorem walk_tells {R : List Int} {m : List Int} (hm : ∀ x ∈ m, 0 ≤ x ∧ x ≤ 255) : ∀ (d k : Nat) (T : List S35) (N : List Int), rem T = d → k + d < 60 → Right R T N → 0 ≤ val R T → Ev (fun K => laws_FnNever.l0 K m (k : Int) R T N) true := by
 intro d
 induction d with
 | zero =>
  intro k T N hd hk hr hv
  have hT : T = [] := by
   cases T with
   | nil => rfl
   | cons t T => simp [rem] at hd
  subst hT
  have h1 := hr.r1
  have h3 := hr.n1
  have c : (k : Int) < 60 := by omega
  have c2 : (((([] : List S35).length : Nat) : Int)) = 0 := rfl
  have ha : allowedD R [] N = [] := by
   unfold allowedD alD
   split <;> rfl
  refine Ev.step (fun K => by simp only [laws_FnNever.l0, c, c2, if_true]; rfl) ?_
  have h4 : N.length = 0 := h3
  refine Ev.bind' (Ev.eq (implAllowed_tells (R := R) (T := []) (N := N) (by omega) (by simp) (by omega)) ha) (Ev.all fun _ => rfl)
 | succ d ih =>
  intro k T N hd hk hr hv
  have h1 := hr.r1
  have h2 := hr.t1
  have h3 := hr.n1
  have ht : 0 < T.length := by
   cases T with
   | nil => simp [rem] at hd
   | cons t T => simp
  have c : (k : Int) < 60 := by omega
  have c2 : ¬ ((T.length : Int) = 0) := by omega
  have ho := (right_iff R T N).2 hr
  obtain ⟨hal, hmv⟩ := allowed_some hr hv ht
  have hal5 : (allowedD R T N).length ≤ 5 := by
   unfold allowedD
   rw [if_pos ho]
   have := alD_len R T N T.length; omega
  have c3 : ¬ (((allowedD R T N).length : Int) = 0) := by omega
  have hst : stuckD R T N = false := by
   unfold stuckD
   exact decide_eq_false fun h => hmv h.2.2
  refine Ev.step (fun K => by simp only [laws_FnNever.l0, c, c2, if_true, if_false]; rfl) ?_
  refine Ev.bind' (implAllowed_tells (by omega) (by omega) (by omega)) ?_
  refine Ev.bind' (specAllowed_tells (by omega) (by omega) (by omega)) ?_
  refine Ev.bind' (wInts_tells _ (by omega)) ?_
  simp only [if_true, c3, if_false]
  refine Ev.bind' (Ev.eq (implStuck_tells (by omega) (by omega) (by omega)) hst) ?_
  obtain ⟨y, z, ey, ez, hz⟩ := byte_at hm k hal
  obtain ⟨p, hp, hc, ha, hs, hv2⟩ := allowed_of hr (getD_mem 0 hz)
  obtain ⟨hf, hr2⟩ := step_right hr hp hc
  have hrem := Nat.succ.inj ((rem_step (R := R) (N := N) hp).trans hd)
  have hk2 : k + 1 + d < 60 := by rw [Nat.add_assoc, Nat.add_comm 1 d]; exact hk
  have ek : wrap64 ((k : Int) + 1) = ((k + 1 : Nat) : Int) := by rw [w64 (by omega) (by omega)]; omega
  have e2 : (0 : Int) ≤ (z : Int) := by omega
  have e3 : (z : Int) < ((allowedD R T N).length : Int) := by omega
  refine Ev.step (fun K => by simp only [laws_FnNever.j2, Bool.false_eq_true, if_false, ey, Option.bind_some, c3, ez, e2, e3, if_true, rd_I, ek]; rfl) ?_
  refine Ev.bind' (Ev.eq (implStep_tells (by omega) (by omega) (by omega) _) hs) ?_
  simp only [hf]
  generalize (stepD R T N p).2.1 = U at *
  generalize (stepD R T N p).2.2 = M at *
  have ho2 := (right_iff R U M).2 hr2
  have g2 := hr2.t1
  have g3 := hr2.n1
  refine Ev.bind' (Ev.eq (implStateOk_tells R U M (by omega) (by omega) (by omega)) ho2) ?_
  simp only [if_true]
  refine Ev.bind' (Ev.eq (implSafe_tells (by omega) (by omega) (by omega)) (safe_at.trans (decide_eq_true ⟨ho2, hv2⟩))) ?_
  simp only [if_true]
  exact ih (k + 1) U M hrem hk2 hr2 hv2
/-! the asks come to an end -/
theorem asks_loop {l : List Int} (hw : ∀ x ∈ l, 0 ≤ x ∧ x ≤ 255) (R : List Int) (T : List S35) (N : List Int) (hN : N.length ≤ 100) : ∀ (d : Nat), d ≤ 40 → ∀ (o : List Int) (at_ sd : Int), 0 ≤ at_ → at_ ≤ 1000 - 10 * (d : Int) → o.length + d ≤ 40 →
  ∃ r, Ev (fun k => spec_l5Cur_asks.l0 k o (d : Int) l at_ sd R T N) r := by
 intro d
 induction d with
 | zero =>
  intro hd o at_ sd h0 h1 ho
  refine ⟨(o, at_, sd), Ev.one fun k => ?_⟩
  simp only [spec_l5Cur_asks.l0]
  rw [if_neg (by omega)]
 | succ d ih =>
  intro hd o at_ sd h0 h1 ho
  have em : wrap64 (((d + 1 : Nat) : Int) - 1) = (d : Int) := by rw [w64 (by omega) (by omega)]; omega
  have c0 : ((d + 1 : Nat) : Int) > 0 := by omega
  have co : o.length < 17592186044416 := by omega
  obtain ⟨p1, a1, s1, e1, hp10, hp11, ha10, ha11⟩ := pick_tells hw (at_ := at_) sd h0 (by omega) (n := 12) (by omega) (by omega)
  by_cases cn : (N.length : Int) > 0
  ·obtain ⟨p2, a2, s2, e2, hp20, hp21, ha20, ha21⟩ := pick_tells hw (at_ := a1) s1 ha10 (by omega) (n := 6) (by omega) (by omega)
   by_cases cp : p2 > 0
   ·obtain ⟨p3, a3, s3, e3, hp30, hp31, ha30, ha31⟩ := pick_tells hw (at_ := a2) s2 ha20 (by omega) (n := (N.length : Int)) (by omega) (by omega)
    obtain ⟨r, hr⟩ := ih (by omega) (o ++ [rd N p3]) a3 s3 ha30 (by omega) (by simp; omega)
    refine ⟨r, Ev.step (fun K => ?_) hr⟩
    simp only [spec_l5Cur_asks.l0, c0, if_true, e1, Option.bind_some, cn, e2, cp, e3, hp30, hp31, co, em]
   ·obtain ⟨r, hr⟩ := ih (by omega) (o ++ [p1]) a2 s2 ha20 (by omega) (by simp; omega)
    refine ⟨r, Ev.step (fun K => ?_) hr⟩
    simp only [spec_l5Cur_asks.l0, c0, if_true, e1, Option.bind_some, cn, e2, cp, if_false, co, em]
  ·obtain ⟨r, hr⟩ := ih (by omega) (o ++ [p1]) a1 s1 ha10 (by omega) (by simp; omega)
   refine ⟨r, Ev.step (fun K => ?_) hr⟩
   simp only [spec_l5Cur_asks.l0, c0, if_true, e1, Option.bind_some, cn, if_false, co, em]
theorem Asks_tells {l : List Int} (hw : ∀ x ∈ l, 0 ≤ x ∧ x ≤ 255) (R : List Int) (T : List S35) (N : List Int) (hN : N.length ≤ 100) : ∃ r, Ev (fun k => spec_Asks.f k R T N l) r := by
 obtain ⟨p1, a1, s1, e1, hp10, hp11, ha10, ha11⟩ := pick_tells hw (at_ := 0) 0 (by omega) (by omega) (n := 40) (by omega) (by omega)
 obtain ⟨q, rfl⟩ := Int.eq_ofNat_of_zero_le hp10
 obtain ⟨r, hr⟩ := asks_loop hw R T N hN q (by omega) [] a1 s1 ha10 (by omega) (by simp; omega)
 refine ⟨r.1, ?_⟩
 unfold spec_Asks.f spec_l5Cur_asks.f
 refine Ev.bind' (f := fun _ t => some t.1) (Ev.same (fun K => ?_) hr) (Ev.all fun _ => rfl)
 rw [e1, Option.bind_some]
theorem FnNever_ev (l m : List Int) (hl : ∀ x ∈ l, 0 ≤ x ∧ x ≤ 255) (hm : ∀ x ∈ m, 0 ≤ x ∧ x ≤ 255) : Ev (fun k => laws_FnNever.f k l m) true := by
 have yes : Ev (fun k => laws_FnNever.j0 k l m true) true := Ev.one fun k => by simp only [laws_FnNever.j0, if_true]
 have no : Ev (fun k => laws_FnNever.j0 k l m false) true := by
  obtain ⟨R, T, N, hst, hR, hT, hN⟩ := States_tells hl
  refine Ev.step (fun K => by simp only [laws_FnNever.j0, Bool.false_eq_true, if_false]; rfl) ?_
  refine Ev.bind' hst ?_
  have hi := Ev.eq (implSafe_tells (R := R) (T := T) (N := N) (by omega) (by omega) (by omega)) safe_at
  have hp := Ev.eq (specSafe_tells (R := R) (T := T) (N := N) (by omega) (by omega) (by omega)) safe_at
  by_cases c : okS R T N = 0 ∧ 0 ≤ V R T zv
  ·rw [decide_eq_true c] at hi hp
   refine Ev.bind' hi ?_
   refine Ev.bind' hp ?_
   simp only [bne_self_eq_false, Bool.false_eq_true, if_false]
   refine Ev.bind' hp ?_
   simp only [if_true]
   have hr := (right_iff R T N).1 c.1
   have h9 := rem_le hr.wf.path
   have h5 := hr.t1
   exact walk_tells hm (rem T) 0 T N rfl (by omega) hr c.2
  ·rw [decide_eq_false c] at hi hp
   refine Ev.bind' hi ?_
   refine Ev.bind' hp ?_
   simp only [bne_self_eq_false, Bool.false_eq_true, if_false]
   refine Ev.bind' hp ?_
   simp only [Bool.false_eq_true, if_false]
   obtain ⟨aks, has⟩ := Asks_tells hm R T N hN
   refine Ev.bind' has ?_
   have hg : Ev (fun k => impl_Guard.f k R T N aks) [] := by
    unfold impl_Guard.f
    by_cases d : (aks.length : Int) > 500
    ·simp only [d, if_true]; exact Ev.all fun _ => rfl
    ·simp only [d, if_false]
     refine Ev.bind' hi ?_
     simp only [Bool.false_eq_true, if_false]
     exact Ev.all fun _ => rfl
   refine Ev.bind' hg ?_
   refine Ev.bind' (f := fun _ t => some ((t.length : Int) == 0)) (Ev.eq (implAllowed_tells (R := R) (T := T) (N := N) (by omega) (by omega) (by omega)) (allowed_none c)) (Ev.all fun _ => rfl)
 unfold laws_FnNever.f
 by_cases c : (l.length : Int) > 1048576
 ·simp only [c, if_true]; exact yes
 ·simp only [c, if_false]
  by_cases d : (m.length : Int) > 1048576
  ·rw [decide_eq_true d]; exact yes
  ·rw [decide_eq_false d]; exact no
theorem FnNever_pure : laws_FnNever.Pure := by
 intro l m h1 h2 h3 h4 h5 h6
 exact (FnNever_ev l m (bytes_ok h3) (bytes_ok h6)).rounds
end Go.Proofs.Ytpbclogjoangfaa.Ne
