/- The drawn states: they come to an end, with short lists. No program in sight. -/
import Derived.Test.YtpbclogjoangfaaFnBestSt0
import Derived.Test.YtpbclogjoangfaaFnBestPure3
import Derived.Laws.Bits64b
namespace Go.Proofs.Ytpbclogjoangfaa.St
open Go.RowKit Go.Proofs.YtpbclogjoangfaaW.PrintWords Go.Proofs.YtpbclogjoangfaaW.PrintLast Go.Proofs.Ytpbclogjoangfaa.Q Go.Proofs.Ytpbclogjoangfaa.Pu
set_option linter.unusedVariables false
set_option linter.unusedSimpArgs false
theorem next_tells {l : List Int} (hw : ∀ x ∈ l, 0 ≤ x ∧ x ≤ 255) {at_ sd : Int} (h0 : 0 ≤ at_) (h1 : at_ ≤ 1000000) : ∃ x sd', spec_l5Cur_next.f l at_ sd = some (x, at_ + 1, sd') ∧ 0 ≤ x ∧ x ≤ 255 := by
 unfold spec_l5Cur_next.f
 have e : wrap64 (at_ + 1) = at_ + 1 := w64 (by omega) (by omega)
 rw [e]
 by_cases c : at_ < (l.length : Int)
 ·rw [if_pos c, if_pos h0]
  have hx := hw _ (getD_mem 0 (show at_.toNat < l.length by omega))
  have er : rd l at_ = l.getD at_.toNat 0 := rfl
  refine ⟨_, _, rfl, ?_⟩
  rw [er, w64 (by omega) (by omega)]
  exact hx
 ·rw [if_neg c]
  refine ⟨_, _, rfl, ?_⟩
  have hz : ∀ y : Int, 0 ≤ IntKind.u64.wrap y ∧ IntKind.u64.wrap y < 18446744073709551616 := fun y => by rw [IntKind.wrap_u64]; omega
  generalize hq : IntKind.u64.wrap ((IntKind.u64.wrap (sd * 6364136223846793005)) + 1442695040888963407) = q
  have hq2 := hz ((IntKind.u64.wrap (sd * 6364136223846793005)) + 1442695040888963407)
  rw [hq] at hq2
  have hd : 0 ≤ q / 1099511627776 ∧ q / 1099511627776 < 18446744073709551616 := by omega
  generalize q / 1099511627776 = d at hd
  obtain ⟨n, rfl⟩ := Int.eq_ofNat_of_zero_le hd.1
  have hb := bits_and_u64_nat n 255 (by omega) (by omega)
  have hl : n &&& 255 ≤ 255 := Nat.and_le_right
  have e2 : (((255 : Nat)) : Int) = 255 := rfl
  rw [e2] at hb
  rw [hb, w64 (by omega) (by omega)]
  omega
theorem pick_tells {l : List Int} (hw : ∀ x ∈ l, 0 ≤ x ∧ x ≤ 255) {at_ : Int} (sd : Int) (h0 : 0 ≤ at_) (h1 : at_ ≤ 999999) {n : Int} (hn : 1 ≤ n) (hn2 : n ≤ 200) : ∃ x at' sd', spec_l5Cur_pick.f l at_ sd n = some (x, at', sd') ∧ 0 ≤ x ∧ x < n ∧ 0 ≤ at' ∧ at' ≤ at_ + 1 := by
 unfold spec_l5Cur_pick.f
 by_cases c : n ≤ 1
 ·rw [if_pos c]
  exact ⟨0, at_, sd, rfl, by omega, by omega, h0, by omega⟩
 ·rw [if_neg c]
  obtain ⟨x, sd', e, hx0, hx1⟩ := next_tells hw (sd := sd) h0 (by omega)
  have c2 : ¬ (n > 200) := by omega
  have c3 : ¬ (n = 0) := by omega
  rw [e, Option.bind_some, if_neg c2, if_neg c3]
  have hm : Int.tmod x n = x % n := Int.tmod_eq_emod_of_nonneg hx0
  refine ⟨_, _, _, rfl, ?_, ?_, by show 0 ≤ at_ + 1; omega, by show at_ + 1 ≤ at_ + 1; omega⟩
  ·show 0 ≤ Int.tmod x n
   rw [hm]; exact Int.emod_nonneg _ (by omega)
  ·show Int.tmod x n < n
   rw [hm]; exact Int.emod_lt_of_pos _ (by omega)
theorem Ev.same {α : Type} {g f : Nat → Option α} {r : α} (h : ∀ k, g k = f k) (e : Ev f r) : Ev g r := by
 have : g = f := funext h
 rw [this]; exact e
/-- Short lists. -/
def Shr (r : List Int × List S35 × List Int × Int × Int) : Prop := (1 ≤ r.1.length ∧ r.1.length ≤ 100 ∧ ∀ x ∈ r.1, x ≤ 4) ∧ r.2.1.length ≤ 100 ∧ r.2.2.1.length ≤ 100
section
variable {l : List Int} (hw : ∀ x ∈ l, 0 ≤ x ∧ x ≤ 255)
include hw
theorem l1_tells : ∀ (m : Nat), m ≤ 5 → ∀ (x4 x6 x7 at_ sd : Int) (R : List Int) (T : List S35) (N : List Int), 3 ≤ x4 → x4 ≤ 8 → (R.length : Int) = x4 → (∀ x ∈ R, x ≤ 4) → 0 ≤ at_ → at_ ≤ 1000 - 100 * (m : Int) → T.length + m ≤ 5 → N.length + m ≤ 5 → ∃ r, Ev (fun k => spec_l5Cur_state.l1 k x4 x6 x7 (m : Int) l at_ sd R T N) r ∧ Shr r := by
 intro m
 induction m with
 | zero =>
  intro hm x4 x6 x7 at_ sd R T N h3 h4 hR hro h0 h1 hT hN
  refine ⟨(R, T, N, at_, sd), Ev.one fun k => ?_, ?_⟩
  ·simp only [spec_l5Cur_state.l1]
   rw [if_neg (by omega)]
  ·exact ⟨⟨by show 1 ≤ R.length; omega, by show R.length ≤ 100; omega, hro⟩, by show T.length ≤ 100; omega, by show N.length ≤ 100; omega⟩
 | succ m ih =>
  intro hm x4 x6 x7 at_ sd R T N h3 h4 hR hro h0 h1 hT hN
  have em : wrap64 (((m + 1 : Nat) : Int) - 1) = (m : Int) := by rw [w64 (by omega) (by omega)]; omega
  obtain ⟨p1, a1, s1, e1, hp10, hp11, ha10, ha11⟩ := pick_tells hw (at_ := at_) sd h0 (by omega) (n := x4) (by omega) (by omega)
  obtain ⟨p2, a2, s2, e2, hp20, hp21, ha20, ha21⟩ := pick_tells hw (at_ := a1) s1 ha10 (by omega) (n := 5) (by omega) (by omega)
  have ht := there_tells R T N p1 (by omega)
  have hlo : ∀ (d : Nat), d ≤ 5 → ∀ (x10 x11 at_ sd : Int) (x138000 : Int) (P : List Int) (x138002 : Int), 0 ≤ at_ → at_ + 2 * (d : Int) ≤ 990 - 100 * (m : Int) → P.length + d ≤ 5 →
    ∃ r, Ev (fun k => spec_l5Cur_state.l2 k x4 x6 x7 ((m + 1 : Nat) : Int) x10 x11 (d : Int) l at_ sd R T N x138000 P x138002) r ∧ Shr r := by
   intro d
   induction d with
   | zero =>
    intro hd x10 x11 at_ sd y0 P y2 h0 h1 hP
    obtain ⟨p, a, s, e, hp0, hp1, ha0, ha1⟩ := pick_tells hw (at_ := at_) sd h0 (by omega) (n := 3) (by omega) (by omega)
    obtain ⟨r, hr, hs⟩ := ih (by omega) x4 (wrap64 (x6 + (wrap64 (1 + p)))) x7 a s R (T ++ [(⟨y0, P, y2⟩ : S35)]) (N ++ [x6]) h3 h4 hR hro ha0 (by omega) (by simp; omega) (by simp; omega)
    refine ⟨r, Ev.step (fun K => ?_) hr, hs⟩
    simp only [spec_l5Cur_state.l2]
    rw [if_neg (by omega), if_pos (by omega), if_pos (by omega), e, Option.bind_some, em]
   | succ d ihd =>
    intro hd x10 x11 at_ sd y0 P y2 h0 h1 hP
    have ed : wrap64 (((d + 1 : Nat) : Int) - 1) = (d : Int) := by rw [w64 (by omega) (by omega)]; omega
    have e4 : wrap64 (x4 - 1) = x4 - 1 := w64 (by omega) (by omega)
    by_cases c7 : x7 = 0
    ·obtain ⟨p, a, s, e, hp0, hp1, ha0, ha1⟩ := pick_tells hw (at_ := at_) sd h0 (by omega) (n := x4 - 1) (by omega) (by omega)
     obtain ⟨r, hr, hs⟩ := ihd (by omega) x10 (Int.tmod (wrap64 ((wrap64 (x11 + 1)) + p)) x4) a s y0 (P ++ [Int.tmod (wrap64 ((wrap64 (x11 + 1)) + p)) x4]) y2 ha0 (by omega) (by simp; omega)
     refine ⟨r, Ev.step (fun K => ?_) hr, hs⟩
     simp only [spec_l5Cur_state.l2]
     rw [if_pos (by omega), if_neg (by omega), if_pos c7, e4, e, Option.bind_some, if_pos (by omega), ed]
    ·obtain ⟨r, hr, hs⟩ := ihd (by omega) x10 (Int.tmod (wrap64 (x11 + x10)) x4) at_ sd y0 (P ++ [Int.tmod (wrap64 (x11 + x10)) x4]) y2 h0 (by omega) (by simp; omega)
     refine ⟨r, Ev.step (fun K => ?_) hr, hs⟩
     simp only [spec_l5Cur_state.l2]
     rw [if_pos (by omega), if_neg (by omega), if_neg c7, if_pos (by omega), ed]
  by_cases ct : (cnt T p1 : Int) ≥ rd R p1
  ·obtain ⟨r, hr, hs⟩ := ih (by omega) x4 x6 x7 a2 s2 R T N h3 h4 hR hro ha20 (by omega) (by omega) (by omega)
   refine ⟨r, Ev.step (fun K => ?_) (Ev.bind' (f := fun K t => if 0 ≤ p1 then (if p1 < (R.length : Int) then (if t ≥ rd R p1 then (spec_l5Cur_state.l1 K x4 x6 x7 (m : Int) l a2 s2 R T N) else ((spec_l5Cur_pick.f l a2 s2 2).bind fun bt140 => ((spec_l5Cur_pick.f l bt140.2.1 bt140.2.2 6).bind fun bt143 => (spec_l5Cur_state.l2 K x4 x6 x7 ((m + 1 : Nat) : Int) (wrap64 (1 + (wrap64 (bt140.1 * (wrap64 (x4 - 2)))))) p1 bt143.1 l bt143.2.1 bt143.2.2 R T N p1 ([] : List Int) (wrap64 (1 + p2)))))) else none) else none) ht (Ev.same (fun K => ?_) hr)), hs⟩
   ·simp only [spec_l5Cur_state.l1]
    rw [if_pos (by omega), e1, Option.bind_some]
    simp only
    rw [e2, Option.bind_some, em]
   ·rw [if_pos hp10, if_pos (by omega), if_pos ct]
  ·obtain ⟨p3, a3, s3, e3, hp30, hp31, ha30, ha31⟩ := pick_tells hw (at_ := a2) s2 ha20 (by omega) (n := 2) (by omega) (by omega)
   obtain ⟨p4, a4, s4, e4, hp40, hp41, ha40, ha41⟩ := pick_tells hw (at_ := a3) s3 ha30 (by omega) (n := 6) (by omega) (by omega)
   obtain ⟨q, rfl⟩ := Int.eq_ofNat_of_zero_le hp40
   obtain ⟨r, hr, hs⟩ := hlo q (by omega) (wrap64 (1 + (wrap64 (p3 * (wrap64 (x4 - 2)))))) p1 a4 s4 p1 [] (wrap64 (1 + p2)) ha40 (by omega) (by simp; omega)
   refine ⟨r, Ev.step (fun K => ?_) (Ev.bind' (f := fun K t => if 0 ≤ p1 then (if p1 < (R.length : Int) then (if t ≥ rd R p1 then (spec_l5Cur_state.l1 K x4 x6 x7 (m : Int) l a2 s2 R T N) else ((spec_l5Cur_pick.f l a2 s2 2).bind fun bt140 => ((spec_l5Cur_pick.f l bt140.2.1 bt140.2.2 6).bind fun bt143 => (spec_l5Cur_state.l2 K x4 x6 x7 ((m + 1 : Nat) : Int) (wrap64 (1 + (wrap64 (bt140.1 * (wrap64 (x4 - 2)))))) p1 bt143.1 l bt143.2.1 bt143.2.2 R T N p1 ([] : List Int) (wrap64 (1 + p2)))))) else none) else none) ht (Ev.same (fun K => ?_) hr)), hs⟩
   ·simp only [spec_l5Cur_state.l1]
    rw [if_pos (by omega), e1, Option.bind_some]
    simp only
    rw [e2, Option.bind_some, em]
   ·rw [if_pos hp10, if_pos (by omega), if_neg ct, e3, Option.bind_some]
    simp only
    rw [e4, Option.bind_some]
theorem l0_tells (x4 : Int) (h3 : 3 ≤ x4) (h4 : x4 ≤ 8) : ∀ (d : Nat) (at_ sd : Int) (R : List Int), (R.length : Int) + d = x4 → (∀ x ∈ R, x ≤ 4) → 0 ≤ at_ → at_ ≤ 100 - 2 * (d : Int) → ∃ r, Ev (fun k => spec_l5Cur_state.l0 k x4 (R.length : Int) l at_ sd R) r ∧ Shr r := by
 intro d
 induction d with
 | zero =>
  intro at_ sd R hR hro h0 h1
  obtain ⟨p1, a1, s1, e1, hp10, hp11, ha10, ha11⟩ := pick_tells hw (at_ := at_) sd h0 (by omega) (n := 4) (by omega) (by omega)
  obtain ⟨p2, a2, s2, e2, hp20, hp21, ha20, ha21⟩ := pick_tells hw (at_ := a1) s1 ha10 (by omega) (n := 3) (by omega) (by omega)
  obtain ⟨p3, a3, s3, e3, hp30, hp31, ha30, ha31⟩ := pick_tells hw (at_ := a2) s2 ha20 (by omega) (n := 5) (by omega) (by omega)
  obtain ⟨q, rfl⟩ := Int.eq_ofNat_of_zero_le hp30
  have em : wrap64 (1 + (q : Int)) = ((q + 1 : Nat) : Int) := by rw [w64 (by omega) (by omega)]; omega
  obtain ⟨r, hr, hs⟩ := l1_tells hw (q + 1) (by omega) x4 p1 p2 a3 s3 R [] [] h3 h4 (by omega) hro ha30 (by omega) (by simp; omega) (by simp; omega)
  refine ⟨r, Ev.step (fun K => ?_) hr, hs⟩
  simp only [spec_l5Cur_state.l0]
  rw [if_neg (by omega), e1, Option.bind_some]
  simp only
  rw [e2, Option.bind_some]
  simp only
  rw [e3, Option.bind_some]
  simp only
  rw [em]
 | succ d ih =>
  intro at_ sd R hR hro h0 h1
  obtain ⟨p1, a1, s1, e1, hp10, hp11, ha10, ha11⟩ := pick_tells hw (at_ := at_) sd h0 (by omega) (n := 5) (by omega) (by omega)
  have hv : wrap64 (1 + (wrap64 (Int.tdiv p1 4))) ≤ 4 := by
   rw [Int.tdiv_eq_ediv_of_nonneg hp10, w64 (x := p1 / 4) (by omega) (by omega), w64 (by omega) (by omega)]; omega
  have hro2 : ∀ x ∈ R ++ [wrap64 (1 + (wrap64 (Int.tdiv p1 4)))], x ≤ 4 := fun x hx => by
   rcases List.mem_append.1 hx with hx | hx
   ·exact hro x hx
   ·rw [List.mem_singleton.1 hx]; exact hv
  obtain ⟨r, hr, hs⟩ := ih a1 s1 (R ++ [wrap64 (1 + (wrap64 (Int.tdiv p1 4)))]) (by simp; omega) hro2 ha10 (by omega)
  have el : ((R ++ [wrap64 (1 + (wrap64 (Int.tdiv p1 4)))]).length : Int) = wrap64 ((R.length : Int) + 1) := by rw [w64 (x := (R.length : Int) + 1) (by omega) (by omega)]; simp
  rw [el] at hr
  refine ⟨r, Ev.step (fun K => ?_) hr, hs⟩
  simp only [spec_l5Cur_state.l0]
  rw [if_pos (by omega), e1, Option.bind_some, if_pos (by omega)]
theorem States_tells : ∃ R T N, Ev (fun k => spec_States.f k l) (R, T, N) ∧ (1 ≤ R.length ∧ R.length ≤ 100 ∧ ∀ x ∈ R, x ≤ 4) ∧ T.length ≤ 100 ∧ N.length ≤ 100 := by
 obtain ⟨p1, a1, s1, e1, hp10, hp11, ha10, ha11⟩ := pick_tells hw (at_ := 0) 0 (by omega) (by omega) (n := 6) (by omega) (by omega)
 obtain ⟨q, rfl⟩ := Int.eq_ofNat_of_zero_le hp10
 have em : wrap64 (3 + (q : Int)) = ((q + 3 : Nat) : Int) := by rw [w64 (by omega) (by omega)]; omega
 obtain ⟨⟨R, T, N, y, z⟩, hr, hs⟩ := l0_tells hw ((q + 3 : Nat) : Int) (by omega) (by omega) (q + 3) a1 s1 [] (by simp) (by simp) ha10 (by omega)
 refine ⟨R, T, N, ?_, hs.1, hs.2.1, hs.2.2⟩
 unfold spec_States.f spec_l5Cur_state.f
 refine Ev.bind' (f := fun _ t => some (t.1, t.2.1, t.2.2.1)) (Ev.same (fun K => ?_) hr) (Ev.all fun _ => rfl)
 rw [e1, Option.bind_some]
 simp only
 rw [em]
 rfl
end
end Go.Proofs.Ytpbclogjoangfaa.St
