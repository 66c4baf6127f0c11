/- The drawn states, spoilt or not: they come to an end, with short lists. No program in sight. -/
import Derived.Test.YtkcocomehhlpmaaDoorFnSpoiltPure4
import Derived.Test.YtkcocomehhlpmaaDoorFnSpoiltSq0
import Derived.Test.YtkcocomehhlpmaaDoorFnSpoiltQ6
import Derived.Test.YtkcocomehhlpmaaDoorFnSpoiltPure3
import Derived.Laws.Bits64b
namespace Go.Proofs.YtkcocomehhlpmaaDoor.Dr
open Go.RowKit Go.Proofs.YtkcocomehhlpmaaDoorW.PrintWords Go.Proofs.YtkcocomehhlpmaaDoorW.PrintLast Go.Proofs.YtkcocomehhlpmaaDoor.Q Go.Proofs.YtkcocomehhlpmaaDoor.Pu Go.Proofs.YtkcocomehhlpmaaDoor.Sq
set_option linter.unusedVariables false
set_option linter.unusedSimpArgs false
theorem next_tells {l : List Int} (hw : ∀ x ∈ l, 0 ≤ x ∧ x ≤ 255) {at_ sd : Int} (h0 : 0 ≤ at_) (h1 : at_ ≤ 1000000) : ∃ x sd', spec_l5Cur_next.f l at_ sd = some (x, at_ + 1, sd') ∧ 0 ≤ x ∧ x ≤ 255 := by
 unfold spec_l5Cur_next.f
 have e : wrap64 (at_ + 1) = at_ + 1 := w64 (by omega) (by omega)
 rw [e]
 by_cases c : at_ < (l.length : Int)
 ·rw [if_pos c, if_pos h0]
  have hx := hw _ (getD_mem 0 (show at_.toNat < l.length by omega))
  have er : rd l at_ = l.getD at_.toNat 0 := rfl
  refine ⟨_, _, rfl, ?_⟩
  rw [er, w64 (by omega) (by omega)]
  exact hx
 ·rw [if_neg c]
  refine ⟨_, _, rfl, ?_⟩
  have hz : ∀ y : Int, 0 ≤ IntKind.u64.wrap y ∧ IntKind.u64.wrap y < 18446744073709551616 := fun y => by rw [IntKind.wrap_u64]; omega
  generalize hq : IntKind.u64.wrap ((IntKind.u64.wrap (sd * 6364136223846793005)) + 1442695040888963407) = q
  have hq2 := hz ((IntKind.u64.wrap (sd * 6364136223846793005)) + 1442695040888963407)
  rw [hq] at hq2
  have hd : 0 ≤ q / 1099511627776 ∧ q / 1099511627776 < 18446744073709551616 := by omega
  generalize q / 1099511627776 = d at hd
  obtain ⟨n, rfl⟩ := Int.eq_ofNat_of_zero_le hd.1
  have hb := bits_and_u64_nat n 255 (by omega) (by omega)
  have hl : n &&& 255 ≤ 255 := Nat.and_le_right
  have e2 : (((255 : Nat)) : Int) = 255 := rfl
  rw [e2] at hb
  rw [hb, w64 (by omega) (by omega)]
  omega
theorem pick_tells {l : List Int} (hw : ∀ x ∈ l, 0 ≤ x ∧ x ≤ 255) {at_ : Int} (sd : Int) (h0 : 0 ≤ at_) (h1 : at_ ≤ 999999) {n : Int} (hn : 1 ≤ n) (hn2 : n ≤ 200) : ∃ x at' sd', spec_l5Cur_pick.f l at_ sd n = some (x, at', sd') ∧ 0 ≤ x ∧ x < n ∧ 0 ≤ at' ∧ at' ≤ at_ + 1 := by
 unfold spec_l5Cur_pick.f
 by_cases c : n ≤ 1
 ·rw [if_pos c]
  exact ⟨0, at_, sd, rfl, by omega, by omega, h0, by omega⟩
 ·rw [if_neg c]
  obtain ⟨x, sd', e, hx0, hx1⟩ := next_tells hw (sd := sd) h0 (by omega)
  have c2 : ¬ (n > 200) := by omega
  have c3 : ¬ (n = 0) := by omega
  rw [e, Option.bind_some, if_neg c2, if_neg c3]
  have hm : Int.tmod x n = x % n := Int.tmod_eq_emod_of_nonneg hx0
  refine ⟨_, _, _, rfl, ?_, ?_, by show 0 ≤ at_ + 1; omega, by show at_ + 1 ≤ at_ + 1; omega⟩
  ·show 0 ≤ Int.tmod x n
   rw [hm]; exact Int.emod_nonneg _ (by omega)
  ·show Int.tmod x n < n
   rw [hm]; exact Int.emod_lt_of_pos _ (by omega)
theorem Ev.same {α : Type} {g f : Nat → Option α} {r : α} (h : ∀ k, g k = f k) (e : Ev f r) : Ev g r := by
 have : g = f := funext h
 rw [this]; exact e
/-- Short lists. -/
def Shr (r : List Int × List S48 × List Int × Int × Int) : Prop := (1 ≤ r.1.length ∧ r.1.length ≤ 100 ∧ ∀ x ∈ r.1, x ≤ 4) ∧ (r.2.1.length ≤ 5 ∧ ∀ t ∈ r.2.1, t.f1.length ≤ 8) ∧ r.2.2.1.length ≤ 5 ∧ 0 ≤ r.2.2.2.1 ∧ r.2.2.2.1 ≤ 1000
section
variable {l : List Int} (hw : ∀ x ∈ l, 0 ≤ x ∧ x ≤ 255)
include hw
theorem l1_tells : ∀ (m : Nat), m ≤ 5 → ∀ (x4 x6 x7 at_ sd : Int) (R : List Int) (T : List S48) (N : List Int), 3 ≤ x4 → x4 ≤ 8 → (R.length : Int) = x4 → (∀ x ∈ R, x ≤ 4) → 0 ≤ at_ → at_ ≤ 1000 - 100 * (m : Int) → T.length + m ≤ 5 → N.length + m ≤ 5 → (∀ t ∈ T, t.f1.length ≤ 8) → ∃ r, Ev (fun k => spec_l5Cur_state.l1 k x4 x6 x7 (m : Int) l at_ sd R T N) r ∧ Shr r := by
 intro m
 induction m with
 | zero =>
  intro hm x4 x6 x7 at_ sd R T N h3 h4 hR hro h0 h1 hT hN hPP
  refine ⟨(R, T, N, at_, sd), Ev.one fun k => ?_, ?_⟩
  ·simp only [spec_l5Cur_state.l1]
   rw [if_neg (by omega)]
  ·exact ⟨⟨by show 1 ≤ R.length; omega, by show R.length ≤ 100; omega, hro⟩, ⟨by show T.length ≤ 5; omega, hPP⟩, by show N.length ≤ 5; omega, h0, by show at_ ≤ 1000; omega⟩
 | succ m ih =>
  intro hm x4 x6 x7 at_ sd R T N h3 h4 hR hro h0 h1 hT hN hPP
  have em : wrap64 (((m + 1 : Nat) : Int) - 1) = (m : Int) := by rw [w64 (by omega) (by omega)]; omega
  obtain ⟨p1, a1, s1, e1, hp10, hp11, ha10, ha11⟩ := pick_tells hw (at_ := at_) sd h0 (by omega) (n := x4) (by omega) (by omega)
  obtain ⟨p2, a2, s2, e2, hp20, hp21, ha20, ha21⟩ := pick_tells hw (at_ := a1) s1 ha10 (by omega) (n := 5) (by omega) (by omega)
  have ht := there_tells R T N p1 (by omega)
  have hlo : ∀ (d : Nat), d ≤ 5 → ∀ (x10 x11 at_ sd : Int) (x138000 : Int) (P : List Int) (x138002 : Int), 0 ≤ at_ → at_ + 2 * (d : Int) ≤ 990 - 100 * (m : Int) → P.length + d ≤ 5 →
    ∃ r, Ev (fun k => spec_l5Cur_state.l2 k x4 x6 x7 ((m + 1 : Nat) : Int) x10 x11 (d : Int) l at_ sd R T N x138000 P x138002) r ∧ Shr r := by
   intro d
   induction d with
   | zero =>
    intro hd x10 x11 at_ sd y0 P y2 h0 h1 hP
    obtain ⟨p, a, s, e, hp0, hp1, ha0, ha1⟩ := pick_tells hw (at_ := at_) sd h0 (by omega) (n := 3) (by omega) (by omega)
    obtain ⟨r, hr, hs⟩ := ih (by omega) x4 (wrap64 (x6 + (wrap64 (1 + p)))) x7 a s R (T ++ [(⟨y0, P, y2⟩ : S48)]) (N ++ [x6]) h3 h4 hR hro ha0 (by omega) (by simp; omega) (by simp; omega) (fun t ht => by
     rcases List.mem_append.1 ht with ht | ht
     ·exact hPP t ht
     ·rw [List.mem_singleton.1 ht]; show P.length ≤ 8; omega)
    refine ⟨r, Ev.step (fun K => ?_) hr, hs⟩
    simp only [spec_l5Cur_state.l2]
    rw [if_neg (by omega), if_pos (by omega), if_pos (by omega), e, Option.bind_some, em]
   | succ d ihd =>
    intro hd x10 x11 at_ sd y0 P y2 h0 h1 hP
    have ed : wrap64 (((d + 1 : Nat) : Int) - 1) = (d : Int) := by rw [w64 (by omega) (by omega)]; omega
    have e4 : wrap64 (x4 - 1) = x4 - 1 := w64 (by omega) (by omega)
    by_cases c7 : x7 = 0
    ·obtain ⟨p, a, s, e, hp0, hp1, ha0, ha1⟩ := pick_tells hw (at_ := at_) sd h0 (by omega) (n := x4 - 1) (by omega) (by omega)
     obtain ⟨r, hr, hs⟩ := ihd (by omega) x10 (Int.tmod (wrap64 ((wrap64 (x11 + 1)) + p)) x4) a s y0 (P ++ [Int.tmod (wrap64 ((wrap64 (x11 + 1)) + p)) x4]) y2 ha0 (by omega) (by simp; omega)
     refine ⟨r, Ev.step (fun K => ?_) hr, hs⟩
     simp only [spec_l5Cur_state.l2]
     rw [if_pos (by omega), if_neg (by omega), if_pos c7, e4, e, Option.bind_some, if_pos (by omega), ed]
    ·obtain ⟨r, hr, hs⟩ := ihd (by omega) x10 (Int.tmod (wrap64 (x11 + x10)) x4) at_ sd y0 (P ++ [Int.tmod (wrap64 (x11 + x10)) x4]) y2 h0 (by omega) (by simp; omega)
     refine ⟨r, Ev.step (fun K => ?_) hr, hs⟩
     simp only [spec_l5Cur_state.l2]
     rw [if_pos (by omega), if_neg (by omega), if_neg c7, if_pos (by omega), ed]
  by_cases ct : (cnt T p1 : Int) ≥ rd R p1
  ·obtain ⟨r, hr, hs⟩ := ih (by omega) x4 x6 x7 a2 s2 R T N h3 h4 hR hro ha20 (by omega) (by omega) (by omega) hPP
   refine ⟨r, Ev.step (fun K => ?_) (Ev.bind' (f := fun K t => if 0 ≤ p1 then (if p1 < (R.length : Int) then (if t ≥ rd R p1 then (spec_l5Cur_state.l1 K x4 x6 x7 (m : Int) l a2 s2 R T N) else ((spec_l5Cur_pick.f l a2 s2 2).bind fun bt140 => ((spec_l5Cur_pick.f l bt140.2.1 bt140.2.2 6).bind fun bt143 => (spec_l5Cur_state.l2 K x4 x6 x7 ((m + 1 : Nat) : Int) (wrap64 (1 + (wrap64 (bt140.1 * (wrap64 (x4 - 2)))))) p1 bt143.1 l bt143.2.1 bt143.2.2 R T N p1 ([] : List Int) (wrap64 (1 + p2)))))) else none) else none) ht (Ev.same (fun K => ?_) hr)), hs⟩
   ·simp only [spec_l5Cur_state.l1]
    rw [if_pos (by omega), e1, Option.bind_some]
    simp only
    rw [e2, Option.bind_some, em]
   ·rw [if_pos hp10, if_pos (by omega), if_pos ct]
  ·obtain ⟨p3, a3, s3, e3, hp30, hp31, ha30, ha31⟩ := pick_tells hw (at_ := a2) s2 ha20 (by omega) (n := 2) (by omega) (by omega)
   obtain ⟨p4, a4, s4, e4, hp40, hp41, ha40, ha41⟩ := pick_tells hw (at_ := a3) s3 ha30 (by omega) (n := 6) (by omega) (by omega)
   obtain ⟨q, rfl⟩ := Int.eq_ofNat_of_zero_le hp40
   obtain ⟨r, hr, hs⟩ := hlo q (by omega) (wrap64 (1 + (wrap64 (p3 * (wrap64 (x4 - 2)))))) p1 a4 s4 p1 [] (wrap64 (1 + p2)) ha40 (by omega) (by simp; omega)
   refine ⟨r, Ev.step (fun K => ?_) (Ev.bind' (f := fun K t => if 0 ≤ p1 then (if p1 < (R.length : Int) then (if t ≥ rd R p1 then (spec_l5Cur_state.l1 K x4 x6 x7 (m : Int) l a2 s2 R T N) else ((spec_l5Cur_pick.f l a2 s2 2).bind fun bt140 => ((spec_l5Cur_pick.f l bt140.2.1 bt140.2.2 6).bind fun bt143 => (spec_l5Cur_state.l2 K x4 x6 x7 ((m + 1 : Nat) : Int) (wrap64 (1 + (wrap64 (bt140.1 * (wrap64 (x4 - 2)))))) p1 bt143.1 l bt143.2.1 bt143.2.2 R T N p1 ([] : List Int) (wrap64 (1 + p2)))))) else none) else none) ht (Ev.same (fun K => ?_) hr)), hs⟩
   ·simp only [spec_l5Cur_state.l1]
    rw [if_pos (by omega), e1, Option.bind_some]
    simp only
    rw [e2, Option.bind_some, em]
   ·rw [if_pos hp10, if_pos (by omega), if_neg ct, e3, Option.bind_some]
    simp only
    rw [e4, Option.bind_some]
theorem l0_tells (x4 : Int) (h3 : 3 ≤ x4) (h4 : x4 ≤ 8) : ∀ (d : Nat) (at_ sd : Int) (R : List Int), (R.length : Int) + d = x4 → (∀ x ∈ R, x ≤ 4) → 0 ≤ at_ → at_ ≤ 100 - 2 * (d : Int) → ∃ r, Ev (fun k => spec_l5Cur_state.l0 k x4 (R.length : Int) l at_ sd R) r ∧ Shr r := by
 intro d
 induction d with
 | zero =>
  intro at_ sd R hR hro h0 h1
  obtain ⟨p1, a1, s1, e1, hp10, hp11, ha10, ha11⟩ := pick_tells hw (at_ := at_) sd h0 (by omega) (n := 4) (by omega) (by omega)
  obtain ⟨p2, a2, s2, e2, hp20, hp21, ha20, ha21⟩ := pick_tells hw (at_ := a1) s1 ha10 (by omega) (n := 3) (by omega) (by omega)
  obtain ⟨p3, a3, s3, e3, hp30, hp31, ha30, ha31⟩ := pick_tells hw (at_ := a2) s2 ha20 (by omega) (n := 5) (by omega) (by omega)
  obtain ⟨q, rfl⟩ := Int.eq_ofNat_of_zero_le hp30
  have em : wrap64 (1 + (q : Int)) = ((q + 1 : Nat) : Int) := by rw [w64 (by omega) (by omega)]; omega
  obtain ⟨r, hr, hs⟩ := l1_tells hw (q + 1) (by omega) x4 p1 p2 a3 s3 R [] [] h3 h4 (by omega) hro ha30 (by omega) (by simp; omega) (by simp; omega) (by simp)
  refine ⟨r, Ev.step (fun K => ?_) hr, hs⟩
  simp only [spec_l5Cur_state.l0]
  rw [if_neg (by omega), e1, Option.bind_some]
  simp only
  rw [e2, Option.bind_some]
  simp only
  rw [e3, Option.bind_some]
  simp only
  rw [em]
 | succ d ih =>
  intro at_ sd R hR hro h0 h1
  obtain ⟨p1, a1, s1, e1, hp10, hp11, ha10, ha11⟩ := pick_tells hw (at_ := at_) sd h0 (by omega) (n := 5) (by omega) (by omega)
  have hv : wrap64 (1 + (wrap64 (Int.tdiv p1 4))) ≤ 4 := by
   rw [Int.tdiv_eq_ediv_of_nonneg hp10, w64 (x := p1 / 4) (by omega) (by omega), w64 (by omega) (by omega)]; omega
  have hro2 : ∀ x ∈ R ++ [wrap64 (1 + (wrap64 (Int.tdiv p1 4)))], x ≤ 4 := fun x hx => by
   rcases List.mem_append.1 hx with hx | hx
   ·exact hro x hx
   ·rw [List.mem_singleton.1 hx]; exact hv
  obtain ⟨r, hr, hs⟩ := ih a1 s1 (R ++ [wrap64 (1 + (wrap64 (Int.tdiv p1 4)))]) (by simp; omega) hro2 ha10 (by omega)
  have el : ((R ++ [wrap64 (1 + (wrap64 (Int.tdiv p1 4)))]).length : Int) = wrap64 ((R.length : Int) + 1) := by rw [w64 (x := (R.length : Int) + 1) (by omega) (by omega)]; simp
  rw [el] at hr
  refine ⟨r, Ev.step (fun K => ?_) hr, hs⟩
  simp only [spec_l5Cur_state.l0]
  rw [if_pos (by omega), e1, Option.bind_some, if_pos (by omega)]
theorem state_tells : ∃ r, Ev (fun k => spec_l5Cur_state.f k l 0 0) r ∧ Shr r := by
 obtain ⟨p1, a1, s1, e1, hp10, hp11, ha10, ha11⟩ := pick_tells hw (at_ := 0) 0 (by omega) (by omega) (n := 6) (by omega) (by omega)
 obtain ⟨q, rfl⟩ := Int.eq_ofNat_of_zero_le hp10
 have em : wrap64 (3 + (q : Int)) = ((q + 3 : Nat) : Int) := by rw [w64 (by omega) (by omega)]; omega
 obtain ⟨r, hr, hs⟩ := l0_tells hw ((q + 3 : Nat) : Int) (by omega) (by omega) (q + 3) a1 s1 [] (by simp) (by simp) ha10 (by omega)
 refine ⟨r, ?_, hs⟩
 unfold spec_l5Cur_state.f
 refine Ev.same (fun K => ?_) hr
 rw [e1, Option.bind_some]
 simp only
 rw [em]
 rfl
theorem pk_tells {a : Int} (s : Int) (h0 : 0 ≤ a) (h1 : a ≤ 99999) {n : Int} (hn : 1 ≤ n) (hn2 : n ≤ 200) : ∃ x a' s', pk l a s n = some (x, a', s') ∧ 0 ≤ x ∧ x < n ∧ 0 ≤ a' ∧ a' ≤ a + 1 := by
 obtain ⟨x, a', s', e, h2, h3, h4, h5⟩ := pick_tells hw (at_ := a) s h0 (by omega) hn hn2
 refine ⟨x, a', s', ?_, h2, h3, h4, h5⟩
 unfold pk
 rw [e, Option.bind_some, if_pos ⟨h2, h3⟩]
theorem rms_tells : ∀ (d : Nat) (R : List Int) (a s : Int), 41 ≤ R.length + d → R.length ≤ 150 → 0 ≤ a → a + d ≤ 50000 → ∃ r a' s', Ev (fun k => rms k l a s R) (r, a', s') ∧ R.length ≤ r.length ∧ r.length ≤ 150 ∧ 0 ≤ a' ∧ a' ≤ a + d + 1 := by
 intro d
 induction d with
 | zero =>
  intro R a s hd hR h0 h1
  obtain ⟨x, a1, s1, e, hx0, hx1, ha0, ha1⟩ := pk_tells hw (a := a) s h0 (by omega) (n := 2) (by omega) (by omega)
  refine ⟨R, a1, s1, Ev.one fun k => ?_, Nat.le_refl _, hR, ha0, by omega⟩
  unfold rms
  rw [e, Option.bind_some, if_neg (by simp only; omega)]
 | succ d ih =>
  intro R a s hd hR h0 h1
  obtain ⟨x, a1, s1, e, hx0, hx1, ha0, ha1⟩ := pk_tells hw (a := a) s h0 (by omega) (n := 2) (by omega) (by omega)
  by_cases c : (R.length : Int) < 40 + x
  ·obtain ⟨r, a2, s2, hr, q1, q2, q3, q4⟩ := ih (R ++ [1]) a1 s1 (by simp; omega) (by simp; omega) ha0 (by omega)
   refine ⟨r, a2, s2, Ev.step (fun K => ?_) hr, ?_, q2, q3, by omega⟩
   ·simp only [rms]
    rw [e, Option.bind_some, if_pos c, if_pos (by omega)]
   ·simp at q1; omega
  ·refine ⟨R, a1, s1, Ev.one fun k => ?_, Nat.le_refl _, hR, ha0, by omega⟩
   unfold rms
   rw [e, Option.bind_some, if_neg c]
omit hw in
theorem pth_tells (n : Int) (B : Nat) (hB : B ≤ 1000) (hn : n ≤ B) : ∀ (d : Nat) (p : List Int), n ≤ p.length + d → p.length ≤ B → ∃ r, Ev (fun k => pth k n p) r ∧ r.length ≤ B := by
 intro d
 induction d with
 | zero =>
  intro p hd hp
  refine ⟨p, Ev.one fun k => ?_, hp⟩
  unfold pth
  rw [if_neg (by omega)]
 | succ d ih =>
  intro p hd hp
  by_cases c : (p.length : Int) < n
  ·obtain ⟨r, hr, q1⟩ := ih (p ++ [(p.length : Int) % 2]) (by simp; omega) (by simp; omega)
   refine ⟨r, Ev.step (fun K => ?_) hr, q1⟩
   simp only [pth]
   rw [if_pos c, if_pos (by omega)]
  ·refine ⟨p, Ev.one fun k => ?_, hp⟩
   unfold pth
   rw [if_neg c]
/-- Lists that are not too long. -/
def MidC (c n : Nat) (R : List Int) (T : List S48) (N : List Int) : Prop := R.length ≤ 150 ∧ T.length ≤ n ∧ N.length ≤ n ∧ ∀ t ∈ T, t.f1.length ≤ c
omit hw in
theorem MidC.set {c n : Nat} {R : List Int} {T : List S48} {N : List Int} (h : MidC c n R T N) {e m : Nat} (hm : n ≤ m) (hc : c ≤ e) (i : Nat) {t : S48} (ht : t.f1.length ≤ e) : MidC e m R (T.set i t) N :=
 ⟨h.1, by rw [List.length_set]; have := h.2.1; omega, by have := h.2.2.1; omega, fun x hx => by
  rcases List.mem_or_eq_of_mem_set hx with hx | rfl
  ·have := h.2.2.2 x hx; omega
  ·exact ht⟩
omit hw in
theorem MidC.le {c n : Nat} {R : List Int} {T : List S48} {N : List Int} (h : MidC c n R T N) {e m : Nat} (hm : n ≤ m) (hc : c ≤ e) : MidC e m R T N := ⟨h.1, by have := h.2.1; omega, by have := h.2.2.1; omega, fun t ht => by have := h.2.2.2 t ht; omega⟩
/-- Spoilt lists aren't much longer. -/
theorem spoilF_tells {c n : Nat} (hn : n ≤ 140) (hc9 : 9 ≤ c) (hc : c ≤ 140) {R : List Int} {T : List S48} {N : List Int} (hm : MidC c n R T N) (hR : 1 ≤ R.length) {a : Int} (s : Int) (h0 : 0 ≤ a) (h1 : a ≤ 40000) :
  ∃ R' T' N' a' s', Ev (fun k => spoilF k l R T N a s) (R', T', N', a', s') ∧ MidC (c + 1) (n + 1) R' T' N' ∧ 0 ≤ a' ∧ a' ≤ a + 200 := by
 obtain ⟨m1, m2, m3, m4⟩ := hm
 have hm : MidC c n R T N := ⟨m1, m2, m3, m4⟩
 have m5 : ∀ t ∈ T, t.f1.length ≤ c + 1 := fun t ht => by have := m4 t ht; omega
 obtain ⟨q, a1, s1, e1, q0, q1, qa0, qa1⟩ := pk_tells hw (a := a) s h0 (by omega) (n := 9) (by omega) (by omega)
 have pre : ∀ {f : Nat → Option (List Int × List S48 × List Int × Int × Int)} {r}, Ev f r → (∀ k, spoilF k l R T N a s = f k) → Ev (fun k => spoilF k l R T N a s) r := fun h e => Ev.same e h
 by_cases c0 : q = 0
 ·obtain ⟨x, a2, s2, e2, x0, x1, xa0, xa1⟩ := pk_tells hw (a := a1) s1 qa0 (by omega) (n := (R.length : Int)) (by omega) (by omega)
  obtain ⟨y, a3, s3, e3, y0, y1, ya0, ya1⟩ := pk_tells hw (a := a2) s2 xa0 (by omega) (n := 3) (by omega) (by omega)
  refine ⟨R.set x.toNat (([0, 5, 6] : List Int).getD y.toNat 0), T, N, a3, s3, Ev.all fun k => ?_, ⟨by rw [List.length_set]; exact m1, by omega, by omega, m5⟩, ya0, by omega⟩
  unfold spoilF sp0
  rw [e1, Option.bind_some, if_pos c0, e2, Option.bind_some]
  simp only
  rw [e3, Option.bind_some]
 by_cases c1 : q = 1
 ·obtain ⟨r, a2, s2, hr, r1, r2, ra0, ra1⟩ := rms_tells hw 41 R a1 s1 (by omega) m1 qa0 (by omega)
  refine ⟨r, T, N, a2, s2, ?_, ⟨r2, by omega, by omega, m5⟩, ra0, by omega⟩
  refine pre (Ev.bind' (f := fun _ q => some (q.1, T, N, q.2.1, q.2.2)) hr (Ev.all fun _ => rfl)) fun k => ?_
  unfold spoilF sp1
  rw [e1, Option.bind_some, if_neg c0, if_pos c1]
 by_cases c2 : q = 2
 ·refine ⟨R, T, N ++ [9], a1, s1, Ev.all fun k => ?_, ⟨m1, by omega, by simp; omega, m5⟩, qa0, by omega⟩
  unfold spoilF sp2
  rw [e1, Option.bind_some, if_neg c0, if_neg c1, if_pos c2, if_pos (by omega)]
 by_cases t0 : T.length = 0
 ·refine ⟨[], T, N, a1, s1, Ev.all fun k => ?_, ⟨by simp, by omega, by omega, m5⟩, qa0, by omega⟩
  unfold spoilF
  rw [e1, Option.bind_some, if_neg c0, if_neg c1, if_neg c2, if_pos t0]
 obtain ⟨i, a2, s2, e2, i0, i1, ia0, ia1⟩ := pk_tells hw (a := a1) s1 qa0 (by omega) (n := (T.length : Int)) (by omega) (by omega)
 have hi : i.toNat < T.length := by omega
 have ht := m4 _ (getD_mem z48 hi)
 obtain ⟨v, a3, s3, e3, v0, v1, va0, va1⟩ := pk_tells hw (a := a2) s2 ia0 (by omega) (n := 6) (by omega) (by omega)
 have base : ∀ k, spoilF k l R T N a s = sp3 k l R T N i.toNat a2 s2 := fun k => by
  unfold spoilF
  rw [e1, Option.bind_some, if_neg c0, if_neg c1, if_neg c2, if_neg t0, e2, Option.bind_some]
 generalize i.toNat = j at hi ht base
 by_cases d0 : v = 0
 ·obtain ⟨y, a4, s4, e4, y0, y1, ya0, ya1⟩ := pk_tells hw (a := a3) s3 va0 (by omega) (n := (R.length : Int) + 2) (by omega) (by omega)
  refine ⟨R, _, N, a4, s4, Ev.all fun k => (base k).trans ?_, hm.set (t := ⟨y - 1, (T.getD j z48).f1, (T.getD j z48).f2⟩) (by omega) (by omega) j (by simp only; omega), ya0, by omega⟩
  unfold sp3
  rw [e3, Option.bind_some, if_pos d0, if_pos (by omega), e4, Option.bind_some]
 by_cases d1 : v = 1
 ·obtain ⟨y, a4, s4, e4, y0, y1, ya0, ya1⟩ := pk_tells hw (a := a3) s3 va0 (by omega) (n := (R.length : Int) + 2) (by omega) (by omega)
  refine ⟨R, _, N, a4, s4, Ev.all fun k => (base k).trans ?_, hm.set (t := ⟨(T.getD j z48).f0, (T.getD j z48).f1 ++ [y - 1], (T.getD j z48).f2⟩) (by omega) (by omega) j (by rw [List.length_append, List.length_singleton]; omega), ya0, by omega⟩
  unfold sp3
  rw [e3, Option.bind_some, if_neg d0, if_pos d1, if_pos (by omega), e4, Option.bind_some]
 by_cases d2 : v = 2
 ·obtain ⟨y, a4, s4, e4, y0, y1, ya0, ya1⟩ := pk_tells hw (a := a3) s3 va0 (by omega) (n := 2) (by omega) (by omega)
  obtain ⟨p, hpp, hpl⟩ := pth_tells (8 + y) (c + 1) (by omega) (by omega) 9 (T.getD j z48).f1 (by omega) (by omega)
  refine ⟨R, _, N, a4, s4, ?_, hm.set (t := ⟨(T.getD j z48).f0, p, (T.getD j z48).f2⟩) (by omega) (by omega) j hpl, ya0, by omega⟩
  refine pre (Ev.bind' (f := fun _ p => some (R, T.set j ⟨(T.getD j z48).f0, p, (T.getD j z48).f2⟩, N, a4, s4)) hpp (Ev.all fun _ => rfl)) fun k => (base k).trans ?_
  unfold sp3
  rw [e3, Option.bind_some, if_neg d0, if_neg d1, if_pos d2, e4, Option.bind_some]
 by_cases d3 : v = 3
 ·obtain ⟨y, a4, s4, e4, y0, y1, ya0, ya1⟩ := pk_tells hw (a := a3) s3 va0 (by omega) (n := 3) (by omega) (by omega)
  refine ⟨R, _, N, a4, s4, Ev.all fun k => (base k).trans ?_, hm.set (t := ⟨(T.getD j z48).f0, (T.getD j z48).f1, ([0, 100, 101] : List Int).getD y.toNat 0⟩) (by omega) (by omega) j (by simp only; omega), ya0, by omega⟩
  unfold sp3
  rw [e3, Option.bind_some, if_neg d0, if_neg d1, if_neg d2, if_pos d3, e4, Option.bind_some]
 by_cases d4 : v = 4
 ·by_cases cn : j < N.length
  ·obtain ⟨y, a4, s4, e4, y0, y1, ya0, ya1⟩ := pk_tells hw (a := a3) s3 va0 (by omega) (n := 4) (by omega) (by omega)
   refine ⟨R, T, N.set j (([-1, 0, 1000, 1001] : List Int).getD y.toNat 0), a4, s4, Ev.all fun k => (base k).trans ?_, ⟨m1, by omega, by rw [List.length_set]; omega, m5⟩, ya0, by omega⟩
   unfold sp3
   rw [e3, Option.bind_some, if_neg d0, if_neg d1, if_neg d2, if_neg d3, if_pos d4, if_pos cn, e4, Option.bind_some]
  ·refine ⟨R, T, N, a3, s3, Ev.all fun k => (base k).trans ?_, hm.le (by omega) (by omega), va0, by omega⟩
   unfold sp3
   rw [e3, Option.bind_some, if_neg d0, if_neg d1, if_neg d2, if_neg d3, if_pos d4, if_neg cn]
 ·refine ⟨R, T ++ [T.getD j z48], N ++ [1000], a3, s3, Ev.all fun k => (base k).trans ?_, ⟨m1, by simp; omega, by simp; omega, fun t h => ?_⟩, va0, by omega⟩
  ·unfold sp3
   rw [e3, Option.bind_some, if_neg d0, if_neg d1, if_neg d2, if_neg d3, if_neg d4, if_pos (by omega)]
  ·rcases List.mem_append.1 h with h | h
   ·exact m5 t h
   ·rw [List.mem_singleton.1 h]; omega
theorem spoil_tellsC {c n : Nat} (hn : n ≤ 140) (hc9 : 9 ≤ c) (hc : c ≤ 140) {R : List Int} {T : List S48} {N : List Int} (hm : MidC c n R T N) (hR : 1 ≤ R.length) {a : Int} (s : Int) (h0 : 0 ≤ a) (h1 : a ≤ 40000) :
  ∃ R' T' N' a' s', Ev (fun k => spec_l5Cur_spoil.f k l a s R T N) (R', T', N', a', s') ∧ MidC (c + 1) (n + 1) R' T' N' ∧ 0 ≤ a' ∧ a' ≤ a + 200 := by
 obtain ⟨R', T', N', a', s', he, hr⟩ := spoilF_tells hw hn hc9 hc hm hR s h0 h1
 obtain ⟨m1, m2, m3, m4⟩ := hm
 have hcp := l1copy_tells (R := R) (T := T) (N := N) (by omega) (by omega) (by omega) (fun t ht => by have := m4 t ht; omega)
 exact ⟨R', T', N', a', s', Ev.bind' (f := fun k (c : List Int × List S48 × List Int) => spoilF k l c.1 c.2.1 c.2.2 a s) hcp he, hr⟩
end
end Go.Proofs.YtkcocomehhlpmaaDoor.Dr
