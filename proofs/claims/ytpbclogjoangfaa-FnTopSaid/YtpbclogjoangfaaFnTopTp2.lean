/- The answers while they are written over. -/
import Derived.Test.YtpbclogjoangfaaFnTopTp0
import Derived.Test.YtpbclogjoangfaaFnTopTp1
import Derived.Test.YtpbclogjoangfaaFnTopSt1
namespace Go.Proofs.Ytpbclogjoangfaa.Tp
open Go.RowKit Go.Proofs.YtpbclogjoangfaaW.PrintWords Go.Proofs.YtpbclogjoangfaaW.PrintLast Go.Proofs.YtpbclogjoangfaaW.PrintMore Go.Proofs.Ytpbclogjoangfaa.Q Go.Proofs.Ytpbclogjoangfaa.Pu Go.Proofs.Ytpbclogjoangfaa.Mk Go.Proofs.Ytpbclogjoangfaa.Lw Go.Proofs.Ytpbclogjoangfaa.Gd Go.Proofs.Ytpbclogjoangfaa.St
set_option linter.unusedVariables false
set_option linter.unusedSimpArgs false
theorem bytes_ok {l : List Int} (h : ∀ x ∈ l, (Lit.int .u8 x).wf = true) : ∀ x ∈ l, 0 ≤ x ∧ x ≤ 255 := by
 intro x hx
 have h := h x hx
 have h4 : IntKind.u8.min = 0 := rfl
 have h5 : IntKind.u8.max = 255 := rfl
 simp only [Lit.wf, Bool.and_eq_true, decide_eq_true_eq, h4, h5] at h
 omega
theorem asks_loop {l : List Int} (hw : ∀ x ∈ l, 0 ≤ x ∧ x ≤ 255) (R : List Int) (T : List S35) (N : List Int) (hN : N.length ≤ 100) : ∀ (d : Nat), d ≤ 40 → ∀ (o : List Int) (at_ sd : Int), 0 ≤ at_ → at_ ≤ 1000 - 10 * (d : Int) → o.length + d ≤ 40 →
  ∃ r, Ev (fun k => spec_l5Cur_asks.l0 k o (d : Int) l at_ sd R T N) r := by
 intro d
 induction d with
 | zero =>
  intro hd o at_ sd h0 h1 ho
  refine ⟨(o, at_, sd), Ev.one fun k => ?_⟩
  simp only [spec_l5Cur_asks.l0]
  rw [if_neg (by omega)]
 | succ d ih =>
  intro hd o at_ sd h0 h1 ho
  have em : wrap64 (((d + 1 : Nat) : Int) - 1) = (d : Int) := by rw [w64 (by omega) (by omega)]; omega
  have c0 : ((d + 1 : Nat) : Int) > 0 := by omega
  have co : o.length < 17592186044416 := by omega
  obtain ⟨p1, a1, s1, e1, hp10, hp11, ha10, ha11⟩ := pick_tells hw (at_ := at_) sd h0 (by omega) (n := 12) (by omega) (by omega)
  by_cases cn : (N.length : Int) > 0
  ·obtain ⟨p2, a2, s2, e2, hp20, hp21, ha20, ha21⟩ := pick_tells hw (at_ := a1) s1 ha10 (by omega) (n := 6) (by omega) (by omega)
   by_cases cp : p2 > 0
   ·obtain ⟨p3, a3, s3, e3, hp30, hp31, ha30, ha31⟩ := pick_tells hw (at_ := a2) s2 ha20 (by omega) (n := (N.length : Int)) (by omega) (by omega)
    obtain ⟨r, hr⟩ := ih (by omega) (o ++ [rd N p3]) a3 s3 ha30 (by omega) (by simp; omega)
    refine ⟨r, Ev.step (fun K => ?_) hr⟩
    simp only [spec_l5Cur_asks.l0, c0, if_true, e1, Option.bind_some, cn, e2, cp, e3, hp30, hp31, co, em]
   ·obtain ⟨r, hr⟩ := ih (by omega) (o ++ [p1]) a2 s2 ha20 (by omega) (by simp; omega)
    refine ⟨r, Ev.step (fun K => ?_) hr⟩
    simp only [spec_l5Cur_asks.l0, c0, if_true, e1, Option.bind_some, cn, e2, cp, if_false, co, em]
  ·obtain ⟨r, hr⟩ := ih (by omega) (o ++ [p1]) a1 s1 ha10 (by omega) (by simp; omega)
   refine ⟨r, Ev.step (fun K => ?_) hr⟩
   simp only [spec_l5Cur_asks.l0, c0, if_true, e1, Option.bind_some, cn, if_false, co, em]
theorem Asks_tells {l : List Int} (hw : ∀ x ∈ l, 0 ≤ x ∧ x ≤ 255) (R : List Int) (T : List S35) (N : List Int) (hN : N.length ≤ 100) : ∃ r, Ev (fun k => spec_Asks.f k R T N l) r := by
 obtain ⟨p1, a1, s1, e1, hp10, hp11, ha10, ha11⟩ := pick_tells hw (at_ := 0) 0 (by omega) (by omega) (n := 40) (by omega) (by omega)
 obtain ⟨q, rfl⟩ := Int.eq_ofNat_of_zero_le hp10
 obtain ⟨r, hr⟩ := asks_loop hw R T N hN q (by omega) [] a1 s1 ha10 (by omega) (by simp; omega)
 refine ⟨r.1, ?_⟩
 unfold spec_Asks.f spec_l5Cur_asks.f
 refine Ev.bind' (f := fun _ t => some t.1) (Ev.same (fun K => ?_) hr) (Ev.all fun _ => rfl)
 rw [e1, Option.bind_some]
/-- An answer's cells, and what is read of its state. -/
theorem sa_cells {W : World} {base n c : Nat} {P : Nat → Prop} {A : Option Addr} {xs : List AT} (h : Kd.S kA 33 W base P (.slice A n c) xs) (i : Nat) (hi : i < xs.length) : ∃ (g : Nat) (E0 : Option Addr) (f0 : Nat) (E1 : Option Addr) (f1 : Nat) (E2 : Option Addr) (f2 : Nat), A = some ⟨g, 0, none⟩ ∧
  W.cell? ⟨g, i * 4, none⟩ = some (.int .i64 (xs.getD i zA).f0) ∧ W.cell? ⟨g, i * 4 + 1, none⟩ = some (.slice E0 (xs.getD i zA).f1.f0.length f0) ∧ W.cell? ⟨g, i * 4 + 2, none⟩ = some (.slice E1 (xs.getD i zA).f1.f1.length f1) ∧ W.cell? ⟨g, i * 4 + 3, none⟩ = some (.slice E2 (xs.getD i zA).f1.f2.length f2) ∧
  Rc W E0 f0 (xs.getD i zA).f1.f0 E1 f1 (xs.getD i zA).f1.f1 E2 f2 (xs.getD i zA).f1.f2 := by
 obtain ⟨g, E0, f0, E1, f1, E2, f2, oki, hA, hg, ⟨h0, h1, h2, h3⟩, hst, _, _⟩ := sa_open h i hi
 exact ⟨g, E0, f0, E1, f1, E2, f2, hA, h0, h1, h2, h3, St.rc hst⟩
/-- The first answer while it is written over: those from j on are as they were. -/
structure Wr (w wS wr : World) (P : Nat → Prop) (g c : Nat) (G : List AT) (j : Nat) (xs : List AT) : Prop where
 sh : Sh j G xs
 s : Kd.S kA 33 wr w.heap.size P (.slice (some ⟨g, 0, none⟩) G.length c) xs
 b : Below w.heap.size w wr
 k : Kept wS wr P
section
variable {w wS wr : World} {P : Nat → Prop} {g c i j : Nat} {G xs : List AT}
theorem Wr.le {i : Nat} (h : Wr w wS wr P g c G i xs) (hij : i ≤ j) : Wr w wS wr P g c G j xs := ⟨h.sh.le hij, h.s, h.b, h.k⟩
theorem Wr.below {wn : World} (h : Wr w wS wr P g c G j xs) (hb : Below wr.heap.size wr wn) : Wr w wS wn P g c G j xs :=
 ⟨h.sh, Kd.S_below h.s hb, below_step h.b hb, ⟨Nat.le_trans h.k.1 hb.size, fun k hl hn => (hb.block k (Nat.lt_of_lt_of_le hl h.k.1)).trans (h.k.2 k hl hn)⟩⟩
theorem Wr.cells (h : Wr w wS wr P g c G j xs) (m : Nat) (hj : j ≤ m) (hm : m < G.length) : ∃ (E0 : Option Addr) (f0 : Nat) (E1 : Option Addr) (f1 : Nat) (E2 : Option Addr) (f2 : Nat),
  wr.cell? ⟨g, m * 4, none⟩ = some (.int .i64 (G.getD m zA).f0) ∧ wr.cell? ⟨g, m * 4 + 1, none⟩ = some (.slice E0 (G.getD m zA).f1.f0.length f0) ∧ wr.cell? ⟨g, m * 4 + 2, none⟩ = some (.slice E1 (G.getD m zA).f1.f1.length f1) ∧ wr.cell? ⟨g, m * 4 + 3, none⟩ = some (.slice E2 (G.getD m zA).f1.f2.length f2) ∧
  Rc wr E0 f0 (G.getD m zA).f1.f0 E1 f1 (G.getD m zA).f1.f1 E2 f2 (G.getD m zA).f1.f2 := by
 obtain ⟨g', E0, f0, E1, f1, E2, f2, hA, h0, h1, h2, h3, hr⟩ := sa_cells h.s m (by rw [h.sh.len]; exact hm)
 injection hA with hA
 injection hA with hA
 subst hA
 rw [h.sh.eq m hj hm] at h0 h1 h2 h3 hr
 exact ⟨E0, f0, E1, f1, E2, f2, h0, h1, h2, h3, hr⟩
theorem Wr.row (h : Wr w wS wr P g c G j xs) (i : Nat) (hi : i < G.length) : ∃ (E0 : Option Addr) (f0 : Nat) (E1 : Option Addr) (f1 : Nat), wr.cell? ⟨g, i * 4 + 1, none⟩ = some (.slice E0 (G.getD i zA).f1.f0.length f0) ∧ wr.cell? ⟨g, i * 4 + 2, none⟩ = some (.slice E1 (G.getD i zA).f1.f1.length f1) ∧ (G.getD i zA).f1.f0.length ≤ 9223372036854775807 ∧ (G.getD i zA).f1.f1.length ≤ 9223372036854775807 := by
 obtain ⟨g', E0, f0, E1, f1, E2, f2, hA, h0, h1, h2, h3, hr⟩ := sa_cells h.s i (by rw [h.sh.len]; exact hi)
 injection hA with hA
 injection hA with hA
 subst hA
 have e0 := hr.r0.2.1
 have e1 := hr.r1.2.1
 rw [h.sh.room] at h1 e0
 rw [h.sh.trn] at h2 e1
 exact ⟨E0, f0, E1, f1, h1, h2, e0, e1⟩
theorem Wr.room (h : Wr w wS wr P g c G j xs) (i x : Nat) (hij : i < j) (hi : i < G.length) (hx : x < (G.getD i zA).f1.f0.length) : ∃ (gr f : Nat) (z : Int), wr.cell? ⟨g, i * 4 + 1, none⟩ = some (.slice (some ⟨gr, 0, none⟩) (G.getD i zA).f1.f0.length f) ∧ wr.cell? ⟨gr, x, none⟩ = some (.int .i64 z) ∧ wr.frozen? ⟨gr, x, none⟩ = false ∧
  ∃ ys, Wr w wS (wr.setCell ⟨gr, x, none⟩ (.int .i64 77)) P g c G j ys := by
 have hL : xs.length = G.length := h.sh.len
 obtain ⟨g', E0, f0, E1, f1, E2, f2, oki, hA, hg, ⟨h0, h1, h2, h3⟩, hst, hok, hback⟩ := sa_open h.s i (by rw [hL]; exact hi)
 injection hA with hA
 injection hA with hA
 subst hA
 obtain ⟨gr, f, e, hgr, hc, hf, hb, hput⟩ := st_room hst x (by rw [h.sh.room]; exact hx)
 injection e with e _ e'
 subst e e'
 rw [h.sh.room] at h1
 refine ⟨gr, f0, _, h1, hc, hf, _, h.sh.put hij ?_ rfl (fun q => rfl), hback _ _ _ _ (fun k hk _ => Below.heap_setCell wr ⟨gr, x, none⟩ _ k (fun e => hk (by rw [show k = gr from e]; exact hgr))) (hput 77), h.b.setCell hb _, h.k.setCell (.inl (hok _ hgr)) _⟩
 simp
theorem Wr.row2 (h : Wr w wS wr P g c G j xs) (i k : Nat) (hi : i < G.length) (hk : k < (G.getD i zA).f1.f1.length) : ∃ (g1 f1 : Nat) (E : Option Addr) (f : Nat), wr.cell? ⟨g, i * 4 + 2, none⟩ = some (.slice (some ⟨g1, 0, none⟩) (G.getD i zA).f1.f1.length f1) ∧ wr.cell? ⟨g1, k * 3 + 1, none⟩ = some (.slice E ((G.getD i zA).f1.f1.getD k z35).f1.length f) ∧ ((G.getD i zA).f1.f1.getD k z35).f1.length ≤ 9223372036854775807 := by
 have hL : xs.length = G.length := h.sh.len
 obtain ⟨g', E0, f0, E1, f1, E2, f2, oki, hA, hg, ⟨h0, h1, h2, h3⟩, hst, hok, hback⟩ := sa_open h.s i (by rw [hL]; exact hi)
 injection hA with hA
 injection hA with hA
 subst hA
 obtain ⟨g1, f1', E, f, okp, e, hP1, hb1, hl1, c0, fz, c1, hR, hokp, _, _⟩ := st_train hst k (by rw [h.sh.trn]; exact hk)
 injection e with e _ e'
 subst e e'
 have hl := (Kd.R_reads' hR).2.2.2.1
 rw [h.sh.trn] at h2
 rw [h.sh.path] at c1 hl
 exact ⟨g1, f1, E, f, h2, c1, hl⟩
theorem Wr.at_ (h : Wr w wS wr P g c G j xs) (i k : Nat) (hij : i < j) (hi : i < G.length) (hk : k < (G.getD i zA).f1.f1.length) : ∃ (g1 f1 : Nat) (z : Int), wr.cell? ⟨g, i * 4 + 2, none⟩ = some (.slice (some ⟨g1, 0, none⟩) (G.getD i zA).f1.f1.length f1) ∧ wr.cell? ⟨g1, k * 3, none⟩ = some (.int .i64 z) ∧ wr.frozen? ⟨g1, k * 3, none⟩ = false ∧
  ∃ ys, Wr w wS (wr.setCell ⟨g1, k * 3, none⟩ (.int .i64 77)) P g c G j ys := by
 have hL : xs.length = G.length := h.sh.len
 obtain ⟨g', E0, f0, E1, f1, E2, f2, oki, hA, hg, ⟨h0, h1, h2, h3⟩, hst, hok, hback⟩ := sa_open h.s i (by rw [hL]; exact hi)
 injection hA with hA
 injection hA with hA
 subst hA
 obtain ⟨g1, f1', E, f, okp, e, hP1, hb1, hl1, c0, fz, c1, hR, hokp, _, hput⟩ := st_train hst k (by rw [h.sh.trn]; exact hk)
 injection e with e _ e'
 subst e e'
 rw [h.sh.trn] at h2
 refine ⟨g1, f1, _, h2, c0, fz, _, h.sh.put hij rfl ?_ (fun q => ?_), hback _ _ _ _ (fun k hk _ => Below.heap_setCell wr _ _ k (fun e => hk (by rw [show k = g1 from e]; exact hP1))) (hput 77), h.b.setCell hb1 _, h.k.setCell (.inl (hok _ hP1)) _⟩
 ·simp
 ·rw [getD_set_]
  split
  ·rename_i e; rw [← e.1]
  ·rfl
theorem Wr.path (h : Wr w wS wr P g c G j xs) (i k x : Nat) (hij : i < j) (hi : i < G.length) (hk : k < (G.getD i zA).f1.f1.length) (hx : x < ((G.getD i zA).f1.f1.getD k z35).f1.length) : ∃ (g1 f1 gp f : Nat) (z : Int), wr.cell? ⟨g, i * 4 + 2, none⟩ = some (.slice (some ⟨g1, 0, none⟩) (G.getD i zA).f1.f1.length f1) ∧ wr.cell? ⟨g1, k * 3 + 1, none⟩ = some (.slice (some ⟨gp, 0, none⟩) ((G.getD i zA).f1.f1.getD k z35).f1.length f) ∧ wr.cell? ⟨gp, x, none⟩ = some (.int .i64 z) ∧ wr.frozen? ⟨gp, x, none⟩ = false ∧
  ∃ ys, Wr w wS (wr.setCell ⟨gp, x, none⟩ (.int .i64 77)) P g c G j ys := by
 have hL : xs.length = G.length := h.sh.len
 obtain ⟨g', E0, f0, E1, f1, E2, f2, oki, hA, hg, ⟨h0, h1, h2, h3⟩, hst, hok, hback⟩ := sa_open h.s i (by rw [hL]; exact hi)
 injection hA with hA
 injection hA with hA
 subst hA
 obtain ⟨g1, f1', E, f, okp, e, hP1, hb1, hl1, c0, fz, c1, hR, hokp, hput, _⟩ := st_train hst k (by rw [h.sh.trn]; exact hk)
 injection e with e _ e'
 subst e e'
 obtain ⟨gp, e, hgp, hbp, cz, fp, hpp⟩ := row_put hR x (by rw [h.sh.path]; exact hx)
 subst e
 rw [h.sh.trn] at h2
 rw [h.sh.path] at c1
 refine ⟨g1, f1, gp, f, _, h2, c1, cz, fp, _, h.sh.put hij rfl ?_ (fun q => ?_), hback _ _ _ _ (fun k hk _ => Below.heap_setCell wr _ _ k (fun e => hk (by rw [show k = gp from e]; exact hokp _ hgp))) (hput _ _ (fun b hb _ => Below.heap_setCell wr _ _ b (fun e => hb (by rw [show b = gp from e]; exact hgp))) (by simpa using hpp 77)), h.b.setCell hbp _, h.k.setCell (.inl (hok _ (hokp _ hgp))) _⟩
 ·simp
 ·rw [getD_set_]
  split
  ·rename_i e; rw [← e.1]; simp
  ·rfl
end
end Go.Proofs.Ytpbclogjoangfaa.Tp
