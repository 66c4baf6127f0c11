/- Guard's answers: a row of states that lie apart, each in rows of its own. And what a guard answers. No program in sight but for the kinds. -/
import Derived.Test.YtpbclogjoangfaaFnTopSr0
import Derived.Test.YtpbclogjoangfaaFnTopH0
namespace Go.Proofs.Ytpbclogjoangfaa.Gd
open Go.RowKit Go.Proofs.YtpbclogjoangfaaW.PrintWords Go.Proofs.YtpbclogjoangfaaW.PrintLast Go.Proofs.YtpbclogjoangfaaW.PrintMore Go.Proofs.Ytpbclogjoangfaa.Q Go.Proofs.Ytpbclogjoangfaa.Pu Go.Proofs.Ytpbclogjoangfaa.Mk Go.Proofs.Ytpbclogjoangfaa.Lw Go.Proofs.Ytpbclogjoangfaa.Wk Go.Proofs.Ytpbclogjoangfaa.Sr Go.Proofs.Ytpbclogjoangfaa.Sp
set_option linter.unusedVariables false
set_option linter.unusedSimpArgs false
abbrev AT := S33
theorem mem3 {q : Nat} (h : q ∈ 3 :: (Kd.int .i64).E) : q ∈ [3, 35] := by
 rcases List.mem_cons.1 h with rfl | h
 ·simp
 ·cases h
/-- An answer of the guard's: its number, and a state of its own. -/
def kA : Kd AT where
 sz := 4
 E := [3, 35]
 K := k33.K
 M := fun w base ok x cs => ∃ v0 v1 v2, cs = [.int .i64 x.f0, v0, v1, v2] ∧ St base w ok v0 v1 v2 x.f1.f0 x.f1.f1 x.f1.f2
 K_len := fun h => k33.K_len h
 K_one := fun h => k33.K_one h
 K_below := fun hb h => k33.K_below hb h
 K_of_M := by
  rintro w base ok x cs ⟨v0, v1, v2, rfl, h⟩
  obtain ⟨A0, c0, A1, c1, A2, c2, rfl, rfl, rfl⟩ := h.slices
  have h0 := Kd.R_reads' h.r0
  have h1 := Kd.S_reads' h.s1
  have h2 := Kd.R_reads' h.r2
  exact k33_mk w x h0.2.1 h0.2.2 h1.2.1 h1.2.2 h2.2.1 h2.2.2
 M_mono := by
  rintro w base ok ok' x cs hok ⟨v0, v1, v2, rfl, h⟩
  exact ⟨v0, v1, v2, rfl, h.mono hok⟩
 M_bound := by
  rintro w base ok x cs ⟨v0, v1, v2, rfl, h⟩
  refine ⟨v0, v1, v2, rfl, Kd.R_mono (Kd.R_bound h.r0) ?_, Kd.S_mono (Kd.S_bound h.s1) ?_, Kd.R_mono (Kd.R_bound h.r2) ?_⟩
  ·rintro k ⟨⟨h1, h2⟩, h3, h4, q, hq, hc⟩
   exact ⟨⟨h1, h3, h4, q, mem3 hq, hc⟩, h2⟩
  ·rintro k ⟨⟨h1, h2⟩, h3, h4, q, hq, hc⟩
   refine ⟨⟨h1, h3, h4, q, ?_, hc⟩, h2⟩
   have hq : q ∈ [35, 3] := hq
   simp only [List.mem_cons, List.not_mem_nil, or_false] at hq ⊢
   exact hq.symm
  ·rintro k ⟨⟨h1, h2⟩, h3, h4, q, hq, hc⟩
   exact ⟨⟨h1, h3, h4, q, mem3 hq, hc⟩, h2⟩
 M_move := by
  rintro w w1 base ok x cs hm ⟨v0, v1, v2, rfl, h⟩
  exact ⟨v0, v1, v2, rfl, Kd.R_move h.r0 (fun k hk => hm k hk.1), Kd.S_move h.s1 (fun k hk => hm k hk.1), Kd.R_move h.r2 (fun k hk => hm k hk.1)⟩
 M_lower := by
  rintro w base base' ok x cs hb ⟨v0, v1, v2, rfl, h⟩
  exact ⟨v0, v1, v2, rfl, Kd.R_lower h.r0 hb, Kd.S_lower h.s1 hb, Kd.R_lower h.r2 hb⟩
/-- What is asked of a guard, and what it answers. -/
def gdF (R : List Int) : List S35 → List Int → List Int → List AT
 | _, _, [] => []
 | T, N, a :: qs =>
  if findD N a < 0 then ⟨1, ⟨R, T, N⟩⟩ :: gdF R T N qs
  else if canB R T (findD N a).toNat = true then
   (if 0 ≤ val R (stepD R T N (findD N a).toNat).2.1 then ⟨0, ⟨R, (stepD R T N (findD N a).toNat).2.1, (stepD R T N (findD N a).toNat).2.2⟩⟩ :: gdF R (stepD R T N (findD N a).toNat).2.1 (stepD R T N (findD N a).toNat).2.2 qs
   else ⟨3, ⟨R, T, N⟩⟩ :: gdF R T N qs)
  else ⟨2, ⟨R, T, N⟩⟩ :: gdF R T N qs
def guardD (R : List Int) (T : List S35) (N : List Int) (qs : List Int) : List AT :=
 if 500 < qs.length then [] else if okS R T N = 0 ∧ 0 ≤ val R T then gdF R T N qs else []
theorem gdF_len (R : List Int) : ∀ (qs : List Int) (T : List S35) (N : List Int), (gdF R T N qs).length = qs.length
 | [], _, _ => rfl
 | a :: qs, T, N => by
  unfold gdF
  by_cases c : findD N a < 0
  ·rw [if_pos c]; simp [gdF_len R qs]
  ·rw [if_neg c]
   by_cases d : canB R T (findD N a).toNat = true
   ·rw [if_pos d]
    by_cases e : 0 ≤ val R (stepD R T N (findD N a).toNat).2.1
    ·rw [if_pos e]; simp [gdF_len R qs]
    ·rw [if_neg e]; simp [gdF_len R qs]
   ·rw [if_neg d]; simp [gdF_len R qs]
/-- Every answer's state is a right one, with the rooms that were given. -/
theorem gdF_right {R : List Int} : ∀ (qs : List Int) {T : List S35} {N : List Int}, Right R T N → ∀ x ∈ gdF R T N qs, x.f1.f0 = R ∧ Right R x.f1.f1 x.f1.f2
 | [], _, _, _, x, hx => by cases hx
 | a :: qs, T, N, h, x, hx => by
  have hj : findD N a < 0 ∨ (findD N a).toNat < T.length := by
   rcases findD_tells N a with f | ⟨j, f, hj, _⟩
   ·exact .inl (by omega)
   ·right; have := h.n1; rw [f]; omega
  unfold gdF at hx
  by_cases c : findD N a < 0
  ·rw [if_pos c] at hx
   rcases List.mem_cons.1 hx with rfl | hx
   ·exact ⟨rfl, h⟩
   ·exact gdF_right qs h x hx
  ·rw [if_neg c] at hx
   by_cases d : canB R T (findD N a).toNat = true
   ·rw [if_pos d] at hx
    have hs := (step_right h (hj.resolve_left c) d).2
    by_cases e : 0 ≤ val R (stepD R T N (findD N a).toNat).2.1
    ·rw [if_pos e] at hx
     rcases List.mem_cons.1 hx with rfl | hx
     ·exact ⟨rfl, hs⟩
     ·exact gdF_right qs hs x hx
    ·rw [if_neg e] at hx
     rcases List.mem_cons.1 hx with rfl | hx
     ·exact ⟨rfl, h⟩
     ·exact gdF_right qs h x hx
   ·rw [if_neg d] at hx
    rcases List.mem_cons.1 hx with rfl | hx
    ·exact ⟨rfl, h⟩
    ·exact gdF_right qs h x hx
theorem guardD_right {R : List Int} {T : List S35} {N qs : List Int} : (guardD R T N qs).length ≤ 500 ∧ ∀ x ∈ guardD R T N qs, x.f1.f0 = R ∧ Right R x.f1.f1 x.f1.f2 := by
 unfold guardD
 by_cases c : 500 < qs.length
 ·rw [if_pos c]; simp
 ·rw [if_neg c]
  by_cases d : okS R T N = 0 ∧ 0 ≤ val R T
  ·rw [if_pos d]; exact ⟨by rw [gdF_len]; omega, gdF_right qs ((right_iff R T N).1 d.1)⟩
  ·rw [if_neg d]; simp
/-- What reads a state: footprints in G. -/
structure Rd (W : World) (G : Nat → Prop) (A0 : Option Addr) (c0 : Nat) (R : List Int) (A1 : Option Addr) (c1 : Nat) (T : List S35) (A2 : Option Addr) (c2 : Nat) (N : List Int) : Prop where
 f0 : Kd.F (Kd.int .i64) W G A0 R.length R
 h0 : R.length ≤ c0
 f1 : Kd.F k35 W G A1 T.length T
 h1 : T.length ≤ c1
 f2 : Kd.F (Kd.int .i64) W G A2 N.length N
 h2 : N.length ≤ c2
section
variable {W W1 : World} {G : Nat → Prop} {A0 A1 A2 : Option Addr} {c0 c1 c2 : Nat} {R N : List Int} {T : List S35}
theorem Rd.step (h : Rd W G A0 c0 R A1 c1 T A2 c2 N) (hm : ∀ k, G k → k < W.heap.size → W1.heap[k]? = W.heap[k]?) : Rd W1 G A0 c0 R A1 c1 T A2 c2 N := ⟨Kd.F_step h.f0 hm, h.h0, Kd.F_step h.f1 hm, h.h1, Kd.F_step h.f2 hm, h.h2⟩
theorem Rd.below (h : Rd W G A0 c0 R A1 c1 T A2 c2 N) (hb : Below W.heap.size W W1) : Rd W1 G A0 c0 R A1 c1 T A2 c2 N := h.step (fun k _ hl => hb.block k hl)
theorem Rd.grown {row : Option Nat} (h : Rd W G A0 c0 R A1 c1 T A2 c2 N) (hg : W.grownBy W1 row) (hr : ∀ k, row = some k → ¬ G k) : Rd W1 G A0 c0 R A1 c1 T A2 c2 N := h.step (fun k hk hl => hg.block k hl (fun e => hr k e.symm hk))
theorem Rd.of_C (h0 : Kd.C (Kd.int .i64) W A0 R.length R) (l0 : R.length ≤ c0) (h1 : Kd.C k35 W A1 T.length T) (l1 : T.length ≤ c1) (h2 : Kd.C (Kd.int .i64) W A2 N.length N) (l2 : N.length ≤ c2) : Rd W (fun k => k < W.heap.size) A0 c0 R A1 c1 T A2 c2 N := by
 have hs : ∀ {W' : World}, (∀ k, k < W.heap.size → k < W.heap.size → W'.heap[k]? = W.heap[k]?) → W.heap.size ≤ W'.heap.size := fun {W'} hW => by
  rcases Nat.eq_zero_or_pos W.heap.size with e | e
  ·omega
  ·have h9 := hW (W.heap.size - 1) (by omega) (by omega)
   rw [Array.getElem?_eq_getElem (show W.heap.size - 1 < W.heap.size by omega)] at h9
   have := (Array.getElem?_eq_some_iff.1 h9).1
   omega
 have hb : ∀ {W' : World}, (∀ k, k < W.heap.size → k < W.heap.size → W'.heap[k]? = W.heap[k]?) → Below W.heap.size W { W with heap := W'.heap } := fun {W'} hW => ⟨rfl, rfl, rfl, hs hW, fun i hi => hW i hi hi⟩
 refine ⟨fun W' hW => ?_, l0, fun W' hW => ?_, l1, fun W' hW => ?_, l2⟩
 ·have hc := Kd.C_below h0 (hb hW)
  exact hc
 ·have hc := Kd.C_below h1 (hb hW)
  exact hc
 ·have hc := Kd.C_below h2 (hb hW)
  exact hc
end
end Go.Proofs.Ytpbclogjoangfaa.Gd
