/- A guard's answers, opened down to a number, and shut again behind a store. -/
import Derived.Test.YtpbclogjoangfaaFnTopGd3
namespace Go.Proofs.Ytpbclogjoangfaa.Tp
open Go.RowKit Go.Proofs.YtpbclogjoangfaaW.PrintWords Go.Proofs.YtpbclogjoangfaaW.PrintLast Go.Proofs.YtpbclogjoangfaaW.PrintMore Go.Proofs.Ytpbclogjoangfaa.Q Go.Proofs.Ytpbclogjoangfaa.Pu Go.Proofs.Ytpbclogjoangfaa.Mk Go.Proofs.Ytpbclogjoangfaa.Lw Go.Proofs.Ytpbclogjoangfaa.Gd
set_option linter.unusedVariables false
set_option linter.unusedSimpArgs false
section
variable {W : World} {base n c : Nat} {P oki : Nat → Prop} {A : Option Addr} {xs : List AT} {v0 v1 v2 : Value} {R N : List Int} {T : List S35}
/-- An answer, opened. -/
theorem sa_open (h : Kd.S kA 33 W base P (.slice A n c) xs) (i : Nat) (hi : i < xs.length) : ∃ (g : Nat) (E0 : Option Addr) (f0 : Nat) (E1 : Option Addr) (f1 : Nat) (E2 : Option Addr) (f2 : Nat) (oki : Nat → Prop), A = some ⟨g, 0, none⟩ ∧ g < W.heap.size ∧
  (W.cell? ⟨g, i * 4, none⟩ = some (.int .i64 (xs.getD i zA).f0) ∧ W.cell? ⟨g, i * 4 + 1, none⟩ = some (.slice E0 (xs.getD i zA).f1.f0.length f0) ∧ W.cell? ⟨g, i * 4 + 2, none⟩ = some (.slice E1 (xs.getD i zA).f1.f1.length f1) ∧ W.cell? ⟨g, i * 4 + 3, none⟩ = some (.slice E2 (xs.getD i zA).f1.f2.length f2)) ∧
  St base W oki (.slice E0 (xs.getD i zA).f1.f0.length f0) (.slice E1 (xs.getD i zA).f1.f1.length f1) (.slice E2 (xs.getD i zA).f1.f2.length f2) (xs.getD i zA).f1.f0 (xs.getD i zA).f1.f1 (xs.getD i zA).f1.f2 ∧ (∀ k, oki k → P k) ∧
  (∀ (W' : World) (R' : List Int) (T' : List S35) (N' : List Int), (∀ k, ¬ oki k → k < W.heap.size → W'.heap[k]? = W.heap[k]?) → St base W' oki (.slice E0 (xs.getD i zA).f1.f0.length f0) (.slice E1 (xs.getD i zA).f1.f1.length f1) (.slice E2 (xs.getD i zA).f1.f2.length f2) R' T' N' → Kd.S kA 33 W' base P (.slice A n c) (xs.set i ⟨(xs.getD i zA).f0, ⟨R', T', N'⟩⟩)) := by
 have hn := (Kd.S_reads' h).1
 obtain ⟨g, cap, hv, _, hgl, _⟩ := Kd.S_form h (by omega)
 injection hv with hA hn' hc
 subst hA
 obtain ⟨oki, cs, hcl, hM, hcc, hfr, hoki, hH⟩ := Kd.S_elem h zA (i : Int) (by omega) (by omega)
 rw [Int.toNat_natCast] at hM hcc
 obtain ⟨v0, v1, v2, rfl, hst⟩ := hM
 obtain ⟨E0, f0, E1, f1, E2, f2, rfl, rfl, rfl⟩ := hst.slices
 refine ⟨g, E0, f0, E1, f1, E2, f2, oki, rfl, hgl, ⟨hcc 0 _ rfl, hcc 1 _ rfl, hcc 2 _ rfl, hcc 3 _ rfl⟩, hst, fun k hk => (hoki k hk).1, fun W' R' T' N' hm hst' => ?_⟩
 have hH2 := Kd.H_step hH (w1 := W') (fun k _ hno hlt => hm k hno hlt)
 have hM2 : kA.M W' base oki ⟨(xs.getD i zA).f0, ⟨R', T', N'⟩⟩ [.int .i64 (xs.getD i zA).f0, .slice E0 (xs.getD i zA).f1.f0.length f0, .slice E1 (xs.getD i zA).f1.f1.length f1, .slice E2 (xs.getD i zA).f1.f2.length f2] := ⟨_, _, _, rfl, hst'⟩
 have hS := Kd.H_back hH2 hM2 (fun _ hk => hk)
 rwa [Int.toNat_natCast] at hS
/-- A state's row of rooms: a number is written. -/
theorem st_room (h : St base W P v0 v1 v2 R T N) (k : Nat) (hk : k < R.length) : ∃ (g c : Nat), v0 = .slice (some ⟨g, 0, none⟩) R.length c ∧ P g ∧ W.cell? ⟨g, k, none⟩ = some (.int .i64 (R.getD k 0)) ∧ W.frozen? ⟨g, k, none⟩ = false ∧ base ≤ g ∧
  ∀ a : Int, St base (W.setCell ⟨g, k, none⟩ (.int .i64 a)) P v0 v1 v2 (R.set k a) T N := by
 obtain ⟨g, c, rfl, hb, hl, _⟩ := Kd.R_form h.r0 (by omega)
 have hc := Kd.R_celln 0 h.r0 (k : Int) (by omega) (by omega)
 rw [Int.toNat_natCast, show rdOf (0 : Int) R (k : Int) = R.getD k 0 from by unfold rdOf; simp] at hc
 refine ⟨g, c, rfl, (h.r0.1 g rfl).1, hc.1, hc.2, hb, fun a => ⟨?_, Kd.S_far (p := ⟨g, k, none⟩) h.s1 (fun q hq e => hq.2.1 (by rw [e]; rfl)) _, Kd.R_far (p := ⟨g, k, none⟩) h.r2 (fun q hq e => hq.2 (by rw [e]; rfl)) _⟩⟩
 have h2 := Kd.R_putn h.r0 (k : Int) a
 rwa [Int.toNat_natCast] at h2
/-- A train, opened. -/
theorem st_train (h : St base W P v0 v1 v2 R T N) (k : Nat) (hk : k < T.length) : ∃ (g c : Nat) (E : Option Addr) (f : Nat) (okp : Nat → Prop), v1 = .slice (some ⟨g, 0, none⟩) T.length c ∧ P g ∧ base ≤ g ∧ g < W.heap.size ∧
  W.cell? ⟨g, k * 3, none⟩ = some (.int .i64 (T.getD k z35).f0) ∧ W.frozen? ⟨g, k * 3, none⟩ = false ∧ W.cell? ⟨g, k * 3 + 1, none⟩ = some (.slice E (T.getD k z35).f1.length f) ∧
  Kd.R (Kd.int .i64) 3 W base okp (.slice E (T.getD k z35).f1.length f) (T.getD k z35).f1 ∧ (∀ b, okp b → P b) ∧
  (∀ (W' : World) (p' : List Int), (∀ b, ¬ okp b → b < W.heap.size → W'.heap[b]? = W.heap[b]?) → Kd.R (Kd.int .i64) 3 W' base okp (.slice E (T.getD k z35).f1.length f) p' → St base W' P v0 v1 v2 R (T.set k ⟨(T.getD k z35).f0, p', (T.getD k z35).f2⟩) N) ∧
  ∀ a : Int, St base (W.setCell ⟨g, k * 3, none⟩ (.int .i64 a)) P v0 v1 v2 R (T.set k ⟨a, (T.getD k z35).f1, (T.getD k z35).f2⟩) N := by
 obtain ⟨g, c, rfl, hgb, hgl, _⟩ := Kd.S_form h.s1 (by omega)
 obtain ⟨oki, cs, hcl, hM, hcc, hfr, hoki, hH⟩ := Kd.S_elem h.s1 z35 (k : Int) (by omega) (by omega)
 rw [Int.toNat_natCast] at hM hcc hfr
 obtain ⟨vp, rfl, g1⟩ := k35_openM hM
 obtain ⟨E, f, rfl⟩ := Kd.R_slice g1
 have hPg := (Kd.S_R h.s1).1 g rfl
 have t0 := Kd.R_tight rfl h.r0
 have t2 := Kd.R_tight rfl h.r2
 refine ⟨g, c, E, f, oki, rfl, hPg.1, hgb, hgl, hcc 0 _ rfl, hfr 0, hcc 1 _ rfl, g1, fun b hb => (hoki b hb).1.1, fun W' p' hm hp => ?_, fun a => ?_⟩
 ·refine ⟨Kd.R_reok rfl (Kd.R_step t0 (fun b hb hl => hm b (fun q => (hoki b q).1.2.1 hb) hl)) (fun b e => h.r0.1 b e), ?_, Kd.R_reok rfl (Kd.R_step t2 (fun b hb hl => hm b (fun q => (hoki b q).1.2.2 hb) hl)) (fun b e => h.r2.1 b e)⟩
  have hH2 := Kd.H_step hH (w1 := W') (fun b _ hno hlt => hm b hno hlt)
  have hS := Kd.H_back hH2 (k35_mkM W' base oki ⟨(T.getD k z35).f0, p', (T.getD k z35).f2⟩ (v1 := .slice E (T.getD k z35).f1.length f) hp) (fun _ hk => hk)
  rwa [Int.toNat_natCast] at hS
 ·refine ⟨Kd.R_reok rfl (Kd.R_far (p := ⟨g, k * 3, none⟩) t0 (fun b hb e => hPg.2.1 (by rw [← show b = g from e]; exact hb)) _) (fun b e => h.r0.1 b e), ?_, Kd.R_reok rfl (Kd.R_far (p := ⟨g, k * 3, none⟩) t2 (fun b hb e => hPg.2.2 (by rw [← show b = g from e]; exact hb)) _) (fun b e => h.r2.1 b e)⟩
  have hH2 := (Kd.H_seg hH (by omega) (by omega) (seg := [.int .i64 a]) (j := 0) (by show 0 + 1 ≤ 3; omega) (by simp [Value.oneCell'])).1
  have hp := Kd.R_far (p := ⟨g, k * 3, none⟩) g1 (fun b hb => (hoki b hb).2) (.int .i64 a)
  have hS := Kd.H_back hH2 (k35_mkM (W.setCell ⟨g, k * 3, none⟩ (.int .i64 a)) base oki ⟨a, (T.getD k z35).f1, (T.getD k z35).f2⟩ (v1 := .slice E (T.getD k z35).f1.length f) hp) (fun _ hk => hk)
  rwa [Int.toNat_natCast] at hS
/-- A path: a number is written. -/
theorem row_put {E : Option Addr} {f : Nat} {p : List Int} (h : Kd.R (Kd.int .i64) 3 W base oki (.slice E p.length f) p) (x : Nat) (hx : x < p.length) : ∃ g, E = some ⟨g, 0, none⟩ ∧ oki g ∧ base ≤ g ∧ W.cell? ⟨g, x, none⟩ = some (.int .i64 (p.getD x 0)) ∧ W.frozen? ⟨g, x, none⟩ = false ∧
  ∀ a : Int, Kd.R (Kd.int .i64) 3 (W.setCell ⟨g, x, none⟩ (.int .i64 a)) base oki (.slice E p.length f) (p.set x a) := by
 obtain ⟨g, c, e, hb, hl, _⟩ := Kd.R_form h (by omega)
 injection e with e _ e'
 subst e e'
 have hc := Kd.R_celln 0 h (x : Int) (by omega) (by omega)
 rw [Int.toNat_natCast, show rdOf (0 : Int) p (x : Int) = p.getD x 0 from by unfold rdOf; simp] at hc
 refine ⟨g, rfl, h.1 g rfl, hb, hc.1, hc.2, fun a => ?_⟩
 have h2 := Kd.R_putn h (x : Int) a
 rwa [Int.toNat_natCast] at h2
end
/-- The answers behind i are as they were; all are as long as they were. -/
structure Sh (i : Nat) (l xs : List AT) : Prop where
 len : xs.length = l.length
 eq : ∀ j, i ≤ j → j < l.length → xs.getD j zA = l.getD j zA
 room : ∀ j, (xs.getD j zA).f1.f0.length = (l.getD j zA).f1.f0.length
 trn : ∀ j, (xs.getD j zA).f1.f1.length = (l.getD j zA).f1.f1.length
 path : ∀ j k, ((xs.getD j zA).f1.f1.getD k z35).f1.length = ((l.getD j zA).f1.f1.getD k z35).f1.length
theorem Sh.refl (l : List AT) : Sh 0 l l := ⟨rfl, fun _ _ _ => rfl, fun _ => rfl, fun _ => rfl, fun _ _ => rfl⟩
theorem Sh.le {i j : Nat} {l xs : List AT} (h : Sh i l xs) (hij : i ≤ j) : Sh j l xs := ⟨h.len, fun k hk => h.eq k (by omega), h.room, h.trn, h.path⟩
theorem getD_set_ {α : Type} (l : List α) (z : α) (i j : Nat) (x : α) : (l.set i x).getD j z = if i = j ∧ i < l.length then x else l.getD j z := by
 simp only [List.getD_eq_getElem?_getD, List.getElem?_set]
 by_cases e : i = j
 ·subst e
  by_cases h : i < l.length
  ·simp [h]
  ·simp [h]
 ·simp [e]
theorem Sh.put {i k : Nat} {l xs : List AT} (h : Sh k l xs) (hik : i < k) {R' : List Int} {T' : List S35} {N' : List Int} (hR : R'.length = (xs.getD i zA).f1.f0.length) (hT : T'.length = (xs.getD i zA).f1.f1.length) (hP : ∀ q, (T'.getD q z35).f1.length = ((xs.getD i zA).f1.f1.getD q z35).f1.length) : Sh k l (xs.set i ⟨(xs.getD i zA).f0, ⟨R', T', N'⟩⟩) := by
 refine ⟨by rw [List.length_set]; exact h.len, fun j hj hl => ?_, fun j => ?_, fun j => ?_, fun j q => ?_⟩
 ·rw [getD_set_, if_neg (by omega)]; exact h.eq j hj hl
 ·rw [getD_set_]; split
  ·rename_i e; rw [← e.1]; exact hR.trans (h.room i)
  ·exact h.room j
 ·rw [getD_set_]; split
  ·rename_i e; rw [← e.1]; exact hT.trans (h.trn i)
  ·exact h.trn j
 ·rw [getD_set_]; split
  ·rename_i e; rw [← e.1]; exact (hP q).trans (h.path i q)
  ·exact h.path j q
end Go.Proofs.Ytpbclogjoangfaa.Tp
