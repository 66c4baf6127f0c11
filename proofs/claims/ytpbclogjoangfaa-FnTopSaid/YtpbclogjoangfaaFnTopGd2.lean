/- The reference's Guard. Walked by hand. (Printed by wip/gd2gen.py.) -/
import Derived.Test.YtpbclogjoangfaaFnTopGd1
import Derived.Test.YtpbclogjoangfaaFnTopSp6
import Derived.Test.YtpbclogjoangfaaFnTopQ3
import Derived.Test.YtpbclogjoangfaaFnTopQ4
namespace Go.Proofs.Ytpbclogjoangfaa.Gd
open Go.RowKit Go.Maps Go.Proofs.YtpbclogjoangfaaW.PrintWords Go.Proofs.YtpbclogjoangfaaW.PrintLast Go.Proofs.YtpbclogjoangfaaW.PrintMore Go.Proofs.Ytpbclogjoangfaa.Q Go.Proofs.Ytpbclogjoangfaa.Pu Go.Proofs.Ytpbclogjoangfaa.Mk Go.Proofs.Ytpbclogjoangfaa.Lw Go.Proofs.Ytpbclogjoangfaa.Wk Go.Proofs.Ytpbclogjoangfaa.Sr Go.Proofs.Ytpbclogjoangfaa.Sp
attribute [local go_sem] max2_int min2_int max_two min_two max_three min_three max_four min_four
set_option linter.unusedVariables false
set_option linter.unusedSimpArgs false
section
variable {W : World} {G : Nat → Prop} {A0 A1 A2 : Option Addr} {c0 c1 c2 : Nat} {R N : List Int} {T : List S35}
theorem name_rd (h : Rd W G A0 c0 R A1 c1 T A2 c2 N) (hr : Right R T N) (a : Int) :
  Calls Try.prog 57 #[.agg #[.slice A0 R.length c0, .slice A1 T.length c1, .slice A2 N.length c2], .int .i64 a] W fun e W' => e = .returned (.int .i64 (findD N a)) ∧ Below W.heap.size W W' := by
 obtain ⟨k, hk⟩ := (name_tells R T hr.wf.small.2.2.1 a).rounds
 exact spec_l1name.calls k _ _ R _ _ T _ _ N a _ W (Kd.F_now h.f0) h.h0 (Kd.F_now h.f1) h.h1 (Kd.F_now h.f2) h.h2 hk
theorem scan_rd (h : Rd W G A0 c0 R A1 c1 T A2 c2 N) (hr : Right R T N) {j : Nat} (hj : j < T.length) :
  Calls Try.prog 58 #[.agg #[.slice A0 R.length c0, .slice A1 T.length c1, .slice A2 N.length c2], .int .i64 j] W fun e W' => e = .returned (.bool (canB R T j)) ∧ Below W.heap.size W W' := by
 obtain ⟨k, hk⟩ := (l1can_tells hr.wf j hj).rounds
 exact spec_l1can.calls k _ _ R _ _ T _ _ N j _ W (Kd.F_now h.f0) h.h0 (Kd.F_now h.f1) h.h1 (Kd.F_now h.f2) h.h2 hk
theorem ssafe_rd (h : Rd W G A0 c0 R A1 c1 T A2 c2 N) (hR : R.length ≤ 1048576) (hT : T.length ≤ 1048576) (hN : N.length ≤ 1048576) :
  Calls Try.prog 26 #[.agg #[.slice A0 R.length c0, .slice A1 T.length c1, .slice A2 N.length c2]] W fun e W' => e = .returned (.bool (decide (okS R T N = 0 ∧ 0 ≤ val R T))) ∧ Below W.heap.size W W' := by
 obtain ⟨k, hk⟩ := (specSafe_tells (R := R) (T := T) (N := N) hR hT hN).rounds
 refine (spec_Safe.calls k _ _ R _ _ T _ _ N _ W (Kd.F_now h.f0) h.h0 (Kd.F_now h.f1) h.h1 (Kd.F_now h.f2) h.h2 hk).mono fun e W' hh => ⟨?_, hh.2⟩
 rw [hh.1]
 congr 2
 by_cases c : okS R T N = 0
 ·rw [if_pos c]; simp [c]; rfl
 ·rw [if_neg c]; simp [c]
theorem sstep_rd (h : Rd W G A0 c0 R A1 c1 T A2 c2 N) (hr : Right R T N) {j : Nat} (hj : j < T.length) :
  Calls Try.prog 59 #[.agg #[.slice A0 R.length c0, .slice A1 T.length c1, .slice A2 N.length c2], .int .i64 j] W fun e W' => ∃ B0 d0 B1 d1 B2 d2, e = .returned (.agg #[.slice B0 R.length d0, .slice B1 (stepD R T N j).2.1.length d1, .slice B2 (stepD R T N j).2.2.length d2]) ∧
   Rd W' (Rng W.heap.size W'.heap.size) B0 d0 R B1 d1 (stepD R T N j).2.1 B2 d2 (stepD R T N j).2.2 ∧ Below W.heap.size W W' := by
 obtain ⟨k, hk⟩ := (l1step_tells hr.wf j hj).rounds
 have e : stepD R T N j = (R, (stepD R T N j).2.1, (stepD R T N j).2.2) := by unfold stepD; split <;> rfl
 rw [e] at hk
 refine (spec_l1step.calls k _ _ R _ _ T _ _ N j _ _ _ W (Kd.F_now h.f0) h.h0 (Kd.F_now h.f1) h.h1 (Kd.F_now h.f2) h.h2 hk).mono fun e W' hh => ?_
 obtain ⟨v0, v1, v2, rfl, h0, h1, h2, hb⟩ := hh
 obtain ⟨B0, d0, B1, d1, B2, d2, rfl, rfl, rfl, hd⟩ := rd_made h0 h1 h2 (fun k hk => hk.1)
 exact ⟨B0, d0, B1, d1, B2, d2, rfl, hd, hb⟩
theorem scopy_rd {base : Nat} (h : Rd W G A0 c0 R A1 c1 T A2 c2 N) (hr : Right R T N) (hB : base ≤ W.heap.size) :
  Calls Try.prog 56 #[.agg #[.slice A0 R.length c0, .slice A1 T.length c1, .slice A2 N.length c2]] W fun e W' => ∃ E0 f0 E1 f1 E2 f2, e = .returned (.agg #[.slice E0 R.length f0, .slice E1 T.length f1, .slice E2 N.length f2]) ∧ St base W' (Rng W.heap.size W'.heap.size) (.slice E0 R.length f0) (.slice E1 T.length f1) (.slice E2 N.length f2) R T N ∧ Below W.heap.size W W' := by
 have hs := hr.wf.small
 obtain ⟨k, hk⟩ := (l1copy_tells (R := R) (T := T) (N := N) hs.1 hs.2.1 hs.2.2.1 hs.2.2.2).rounds
 refine (spec_l1copy.calls k _ _ R _ _ T _ _ N _ _ _ W (Kd.F_now h.f0) h.h0 (Kd.F_now h.f1) h.h1 (Kd.F_now h.f2) h.h2 hk).mono fun e W' hh => ?_
 obtain ⟨v0, v1, v2, rfl, h0, h1, h2, hb⟩ := hh
 have hst := St.made (base := base) h0 h1 h2 (fun k h => h) (fun k h => h) (fun k h => h) hB
 obtain ⟨E0, f0, E1, f1, E2, f2, rfl, rfl, rfl⟩ := hst.slices
 exact ⟨E0, f0, E1, f1, E2, f2, rfl, hst, hb⟩
end
/-- While the reference's guard answers, an answer at hand: at gx, its rows in blocks of (a, b). -/
structure Gk (R : List Int) (r : List AT) (qs : List Int) (w wr : World) (gX i : Nat) (x : Value) (G : Nat → Prop) (A0 : Option Addr) (c0 : Nat) (A1 : Option Addr) (c1 : Nat) (T : List S35) (A2 : Option Addr) (c2 : Nat) (N : List Int) (acc : List AT) (n gx : Nat) (cd : Int) (E0 : Option Addr) (f0 : Nat) (E1 : Option Addr) (f1 : Nat) (E2 : Option Addr) (f2 : Nat) (a b : Nat) : Prop where
 ri : Right R T N
 rd : Rd wr G A0 c0 R A1 c1 T A2 c2 N
 bx : wr.heap[gX]? = some (.cells #[.slice A0 R.length c0, .slice A1 T.length c1, .slice A2 N.length c2] 26 (0, 0))
 hS : Kd.S kA 33 wr w.heap.size (fun k => (gX + 1 ≤ k ∧ ¬ G k) ∧ k < n) x acc
 hB : Below w.heap.size w wr
 hG : ∀ k, G k → k ≠ gX ∧ k ≠ gx ∧ k < wr.heap.size ∧ ¬ Rng a b k
 len : acc.length = i
 w0 : w.heap.size ≤ gX
 xb : wr.heap[gx]? = some (.cells #[.int .i64 cd, .slice E0 R.length f0, .slice E1 T.length f1, .slice E2 N.length f2] 33 (0, 0))
 st : St w.heap.size wr (Rng a b) (.slice E0 R.length f0) (.slice E1 T.length f1) (.slice E2 N.length f2) R T N
 na : n ≤ a ∧ n ≤ gx ∧ gX < n ∧ b ≤ wr.heap.size
 nx : ∀ k, Rng a b k → k ≠ gx
section
variable {R : List Int} {r : List AT} {qs : List Int} {w wr w' : World} {gX i : Nat} {x : Value} {G : Nat → Prop} {A0 : Option Addr} {c0 : Nat} {A1 : Option Addr} {c1 : Nat} {T : List S35} {A2 : Option Addr} {c2 : Nat} {N : List Int} {acc : List AT} {n gx : Nat} {cd : Int} {E0 : Option Addr} {f0 : Nat} {E1 : Option Addr} {f1 : Nat} {E2 : Option Addr} {f2 : Nat} {a b : Nat}
theorem Gk.below (h : Gk R r qs w wr gX i x G A0 c0 A1 c1 T A2 c2 N acc n gx cd E0 f0 E1 f1 E2 f2 a b) (hb : Below wr.heap.size wr w') : Gk R r qs w w' gX i x G A0 c0 A1 c1 T A2 c2 N acc n gx cd E0 f0 E1 f1 E2 f2 a b :=
 ⟨h.ri, h.rd.below hb, blk_below h.bx hb, Kd.S_below h.hS hb, below_step h.hB hb, fun k hk => have q := h.hG k hk; ⟨q.1, q.2.1, Nat.lt_of_lt_of_le q.2.2.1 hb.size, q.2.2.2⟩, h.len, h.w0, blk_below h.xb hb, h.st.below hb, ⟨h.na.1, h.na.2.1, h.na.2.2.1, Nat.le_trans h.na.2.2.2 hb.size⟩, h.nx⟩
theorem Gk.cells (h : Gk R r qs w wr gX i x G A0 c0 A1 c1 T A2 c2 N acc n gx cd E0 f0 E1 f1 E2 f2 a b) : wr.cell? ⟨gX, 0, none⟩ = some (.slice A0 R.length c0) ∧ wr.cell? ⟨gX, 1, none⟩ = some (.slice A1 T.length c1) ∧ wr.cell? ⟨gX, 2, none⟩ = some (.slice A2 N.length c2) :=
 ⟨(blk_cell h.bx 0).trans rfl, (blk_cell h.bx 1).trans rfl, (blk_cell h.bx 2).trans rfl⟩
theorem Gk.xcells (h : Gk R r qs w wr gX i x G A0 c0 A1 c1 T A2 c2 N acc n gx cd E0 f0 E1 f1 E2 f2 a b) : (wr.cell? ⟨gx, 0, none⟩ = some (.int .i64 cd) ∧ wr.cell? ⟨gx, 1, none⟩ = some (.slice E0 R.length f0) ∧ wr.cell? ⟨gx, 2, none⟩ = some (.slice E1 T.length f1) ∧ wr.cell? ⟨gx, 3, none⟩ = some (.slice E2 N.length f2)) ∧
  (wr.frozen? ⟨gx, 0, none⟩ = false ∧ wr.frozen? ⟨gx, 1, none⟩ = false ∧ wr.frozen? ⟨gx, 2, none⟩ = false ∧ wr.frozen? ⟨gx, 3, none⟩ = false) :=
 ⟨⟨(blk_cell h.xb 0).trans rfl, (blk_cell h.xb 1).trans rfl, (blk_cell h.xb 2).trans rfl, (blk_cell h.xb 3).trans rfl⟩, blk_frozen h.xb 0, blk_frozen h.xb 1, blk_frozen h.xb 2, blk_frozen h.xb 3⟩
/-- The answer's block is written. -/
theorem Gk.put (h : Gk R r qs w wr gX i x G A0 c0 A1 c1 T A2 c2 N acc n gx cd E0 f0 E1 f1 E2 f2 a b) {w' : World} {cd' : Int} (hg : wr.grownBy w' (some gx)) (hx : w'.heap[gx]? = some (.cells #[.int .i64 cd', .slice E0 R.length f0, .slice E1 T.length f1, .slice E2 N.length f2] 33 (0, 0))) : Gk R r qs w w' gX i x G A0 c0 A1 c1 T A2 c2 N acc n gx cd' E0 f0 E1 f1 E2 f2 a b := by
 have hn := h.na
 have w0 := h.w0
 exact ⟨h.ri, h.rd.grown hg (fun k hk h2 => by injection hk with hk; exact (h.hG k h2).2.1 hk.symm), blk_grown h.bx hg (fun e => by injection e with e; omega), Kd.S_step h.hS (fun k hk hl => hg.block k hl (fun e => by injection e with e; omega)), h.hB.grown hg h.hB.size (fun k hk => by injection hk with hk; omega), fun k hk => have q := h.hG k hk; ⟨q.1, q.2.1, Nat.lt_of_lt_of_le q.2.2.1 hg.size, q.2.2.2⟩, h.len, h.w0, hx,
  ⟨Kd.R_step h.st.r0 (fun k hk hl => hg.block k hl (fun e => by injection e with e; exact h.nx k hk.1 e)), Kd.S_step h.st.s1 (fun k hk hl => hg.block k hl (fun e => by injection e with e; exact h.nx k hk.1 e)), Kd.R_step h.st.r2 (fun k hk hl => hg.block k hl (fun e => by injection e with e; exact h.nx k hk.1 e))⟩, ⟨hn.1, hn.2.1, hn.2.2.1, Nat.le_trans hn.2.2.2 hg.size⟩, h.nx⟩
theorem grown_set {w : World} {g o : Nat} (u : Value) : w.grownBy (w.setCell ⟨g, o, none⟩ u) (some g) := ⟨rfl, rfl, rfl, by simp, fun i _ hn => Below.heap_setCell w ⟨g, o, none⟩ u i (fun e => hn (by rw [e]))⟩
/-- A round begins: the copy, laid down. -/
theorem Gi.lay (h : Gi R r qs w wr gX i x G A0 c0 A1 c1 T A2 c2 N acc) {w1 : World} (hst : St w.heap.size w1 (Rng wr.heap.size w1.heap.size) (.slice E0 R.length f0) (.slice E1 T.length f1) (.slice E2 N.length f2) R T N) (hb : Below wr.heap.size wr w1) {z : Array Value} (hg : (w1.alloc (.cells z 33)).grownBy w' (some w1.heap.size)) (hx : w'.heap[w1.heap.size]? = some (.cells #[.int .i64 0, .slice E0 R.length f0, .slice E1 T.length f1, .slice E2 N.length f2] 33 (0, 0))) :
  Gk R r qs w w' gX i x G A0 c0 A1 c1 T A2 c2 N acc wr.heap.size w1.heap.size 0 E0 f0 E1 f1 E2 f2 wr.heap.size w1.heap.size := by
 have hs : (w1.alloc (.cells z 33)).heap.size = w1.heap.size + 1 := by simp
 have hb2 : Below w1.heap.size w1 w' := ((Below.refl _ _).alloc (Nat.le_refl _) _).grown hg (by rw [hs]; omega) (fun k hk => by injection hk with hk; omega)
 have hl := blk_lt h.bx
 have h2 := (h.below hb).below hb2
 have hz := hb.size
 exact ⟨h.ri, h2.rd, h2.bx, Kd.S_mono (Kd.S_below (Kd.S_below (Kd.S_bound h.hS) hb) hb2) (fun k hk => ⟨hk.1, hk.2.2.1⟩), h2.hB, fun k hk => ⟨(h.hG k hk).1, by have := (h.hG k hk).2; omega, (h2.hG k hk).2, fun q => by have := (h.hG k hk).2; have := q.1; omega⟩, h.len, h.w0, hx, hst.below hb2, ⟨Nat.le_refl _, hz, hl, hb2.size⟩, fun k hk => by have := hk.2; omega⟩
/-- The state is another one now; the answer gets a copy of it. -/
theorem Gk.turn (h : Gk R r qs w wr gX i x G A0 c0 A1 c1 T A2 c2 N acc n gx cd E0 f0 E1 f1 E2 f2 a b) {w1 w2 w3 : World} {B0 : Option Addr} {d0 : Nat} {B1 : Option Addr} {d1 : Nat} {U : List S35} {B2 : Option Addr} {d2 : Nat} {M : List Int} (hri : Right R U M) (hd : Rd w1 (Rng wr.heap.size w1.heap.size) B0 d0 R B1 d1 U B2 d2 M) (hb : Below wr.heap.size wr w1) (hg : w1.grownBy w2 (some gX)) (hx : w2.heap[gX]? = some (.cells #[.slice B0 R.length d0, .slice B1 U.length d1, .slice B2 M.length d2] 26 (0, 0)))
  {E0' : Option Addr} {f0' : Nat} {E1' : Option Addr} {f1' : Nat} {E2' : Option Addr} {f2' : Nat} (hst : St w.heap.size w3 (Rng w2.heap.size w3.heap.size) (.slice E0' R.length f0') (.slice E1' U.length f1') (.slice E2' M.length f2') R U M) (hb3 : Below w2.heap.size w2 w3) (hg4 : w3.grownBy w' (some gx)) (hx4 : w'.heap[gx]? = some (.cells #[.int .i64 cd, .slice E0' R.length f0', .slice E1' U.length f1', .slice E2' M.length f2'] 33 (0, 0))) :
  Gk R r qs w w' gX i x (Rng wr.heap.size w1.heap.size) B0 d0 B1 d1 U B2 d2 M acc n gx cd E0' f0' E1' f1' E2' f2' w2.heap.size w3.heap.size := by
 have hn := h.na
 have w0 := h.w0
 have lX := blk_lt h.bx
 have lx := blk_lt h.xb
 have s1 := hb.size
 have s2 := hg.size
 have s3 := hb3.size
 have s4 := hg4.size
 have sw := h.hB.size
 have kp : ∀ k, k < w2.heap.size → k ≠ gx → w'.heap[k]? = w2.heap[k]? := fun k hk hne => (hg4.block k (by omega) (fun e => hne (by injection e))).trans (hb3.block k hk)
 refine ⟨hri, (hd.grown hg (fun k hk h2 => by injection hk with hk; have := h2.1; omega)).step (fun k hk hl => kp k hl (by have := hk.1; omega)), (kp gX (by omega) (by omega)).trans hx, ?_, ?_, fun k hk => ⟨by have := hk.1; omega, by have := hk.1; omega, by have := hk.2; omega, fun q => by have := hk.2; have := q.1; omega⟩, h.len, h.w0, hx4, ?_, ⟨by omega, hn.2.1, hn.2.2.1, s4⟩, fun k hk => by have := hk.1; omega⟩
 ·exact Kd.S_mono (Kd.S_step (Kd.S_bound h.hS) (w1 := w') (fun k hk hl => (kp k (by omega) (by have := hk.1.2; omega)).trans ((hg.block k (by omega) (fun e => by injection e with e; have := hk.1.1.1; omega)).trans (hb.block k hl)))) (fun k hk => ⟨⟨hk.1.1.1, fun q => by have := q.1; have := hk.2.2.1; omega⟩, hk.1.2⟩)
 ·exact ((below_then ((below_step h.hB hb).grown hg (by omega) (fun k hk => by injection hk with hk; omega)) (by omega) hb3)).grown hg4 (by omega) (fun k hk => by injection hk with hk; omega)
 ·exact ⟨Kd.R_step hst.r0 (fun k hk hl => hg4.block k hl (fun e => by injection e with e; have := hk.1.1; omega)), Kd.S_step hst.s1 (fun k hk hl => hg4.block k hl (fun e => by injection e with e; have := hk.1.1; omega)), Kd.R_step hst.r2 (fun k hk hl => hg4.block k hl (fun e => by injection e with e; have := hk.1.1; omega))⟩
theorem Gk.app {x1 : Value} (h : Gk R r qs w wr gX i x G A0 c0 A1 c1 T A2 c2 N acc n gx cd E0 f0 E1 f1 E2 f2 a b) (hS : Kd.S kA 33 w' w.heap.size (fun k => gX + 1 ≤ k ∧ ¬ G k) x1 (acc ++ [⟨cd, ⟨R, T, N⟩⟩])) (hb : Below w.heap.size w w') (hg : wr.grownBy w' x.ownBlock) : Gi R r qs w w' gX (i + 1) x1 G A0 c0 A1 c1 T A2 c2 N (acc ++ [⟨cd, ⟨R, T, N⟩⟩]) := by
 have ho : ∀ k, x.ownBlock = some k → (gX + 1 ≤ k ∧ ¬ G k) ∧ k < n := fun k hk => (Kd.S_R h.hS).1 k hk
 exact ⟨h.ri, h.rd.grown hg (fun k hk => (ho k hk).1.2), blk_grown h.bx hg (fun e => by have := (ho gX e.symm).1.1; omega), hS, hb, fun k hk => ⟨(h.hG k hk).1, Nat.lt_of_lt_of_le (h.hG k hk).2.2.1 hg.size⟩, by rw [List.length_append, h.len]; rfl, h.w0⟩
theorem Gk.okp (h : Gk R r qs w wr gX i x G A0 c0 A1 c1 T A2 c2 N acc n gx cd E0 f0 E1 f1 E2 f2 a b) {k : Nat} (hk : Rng a b k) : (gX + 1 ≤ k ∧ ¬ G k) ∧ some k ≠ x.ownBlock :=
 ⟨⟨by have := hk.1; have := h.na; omega, fun q => (h.hG k q).2.2.2 hk⟩, fun e => by have := ((Kd.S_R h.hS).1 k e.symm).2; have := hk.1; have := h.na; omega⟩
theorem Gk.fresh (h : Gk R r qs w wr gX i x G A0 c0 A1 c1 T A2 c2 N acc n gx cd E0 f0 E1 f1 E2 f2 a b) {k : Nat} (hk : wr.heap.size ≤ k) : gX + 1 ≤ k ∧ ¬ G k :=
 ⟨by have := blk_lt h.bx; omega, fun q => by have := (h.hG k q).2.2.1; omega⟩
theorem Gk.hS' (h : Gk R r qs w wr gX i x G A0 c0 A1 c1 T A2 c2 N acc n gx cd E0 f0 E1 f1 E2 f2 a b) : Kd.S kA 33 wr w.heap.size (fun k => (gX + 1 ≤ k ∧ ¬ G k) ∧ ¬ Rng a b k) x acc :=
 Kd.S_mono h.hS (fun k hk => ⟨hk.1, fun q => by have := q.1; have := h.na; have := hk.2; omega⟩)
end
theorem info33s : (Try.prog.info? 33).map (·.size) = some 4 := by kernel_rfl
set_option maxHeartbeats 4000000 in
set_option maxRecDepth 100000 in
theorem specGuard_calls {A0 : Option Addr} {c0 : Nat} {R : List Int} {A1 : Option Addr} {c1 : Nat} {T : List S35} {A2 : Option Addr} {c2 : Nat} {N : List Int} {Aa : Option Addr} {ca : Nat} (qs : List Int) (w : World) (hr0 : Kd.C (Kd.int .i64) w A0 R.length R) (hc0 : R.length ≤ c0) (hr1 : Kd.C k35 w A1 T.length T) (hc1 : T.length ≤ c1) (hr2 : Kd.C (Kd.int .i64) w A2 N.length N) (hc2 : N.length ≤ c2)
  (ha : Kd.C (Kd.int .i64) w Aa qs.length qs) (hca : qs.length ≤ ca) (hR : R.length ≤ 1048576) (hT : T.length ≤ 1048576) (hN : N.length ≤ 1048576) :
  Calls Try.prog 16 #[.agg #[.slice A0 R.length c0, .slice A1 T.length c1, .slice A2 N.length c2], .slice Aa qs.length ca] w fun e w' => ∃ v, e = .returned v ∧ Kd.S kA 33 w' w.heap.size (fun _ => True) v (guardD R T N qs) ∧ Below w.heap.size w w' := by
 have hu26 := Try.underlying26
 have hu33 := Try.underlying33
 have hb0 : Below w.heap.size w (w.alloc (.cells #[.slice A0 R.length c0, .slice A1 T.length c1, .slice A2 N.length c2] 26)) := (Below.refl _ _).alloc (Nat.le_refl _) _
 have HB0 := Aside0.mk hb0
 have BX0 := Aside0.mk (heap_alloc_new w (.cells #[.slice A0 R.length c0, .slice A1 T.length c1, .slice A2 N.length c2] 26))
 have RD0 := Aside0.mk ((Rd.of_C hr0 hc0 hr1 hc1 hr2 hc2).below hb0)
 have HA := Aside0.mk ha
 have hz0 : w.heap.size < (w.alloc (.cells #[.slice A0 R.length c0, .slice A1 T.length c1, .slice A2 N.length c2] 26)).heap.size := by simp
 clear hb0 hr0 hr1 hr2 ha
 by_cases hq : okS R T N = 0 ∧ 0 ≤ val R T
 rotate_left
 ·have e : guardD R T N qs = [] := by
   unfold guardD
   by_cases c : 500 < qs.length
   ·rw [if_pos c]
   ·rw [if_neg c, if_neg hq]
  rw [e]
  clear e
  have db : decide (okS R T N = 0 ∧ 0 ≤ val R T) = false := decide_eq_false hq
  go_enter Try.func16, Try.ntmps16
  go_wp2_with (fail)
  refine (ssafe_rd RD0.out hR hT hN).mono ?_
  rintro e w1 ⟨rfl, hb⟩
  rw [db]
  have HB1 := Aside0.mk (below_step HB0.out hb)
  clear hb BX0 RD0 HB0
  go_wp2_with (fail)
  go_ret
  exact ⟨_, rfl, Kd.S_nil _ _ _ _ _, HB1.out⟩
 ·have db : decide (okS R T N = 0 ∧ 0 ≤ val R T) = true := decide_eq_true hq
  by_cases c : (qs.length : Int) > 500
  ·have cb : decide ((qs.length : Int) > 500) = true := decide_eq_true c
   have e : guardD R T N qs = [] := by unfold guardD; rw [if_pos (by omega)]
   rw [e]
   clear e
   go_enter Try.func16, Try.ntmps16
   go_wp2_with (fail)
   refine (ssafe_rd RD0.out hR hT hN).mono ?_
   rintro e w1 ⟨rfl, hb⟩
   rw [db]
   have HB1 := Aside0.mk (below_step HB0.out hb)
   clear hb BX0 RD0 HB0
   go_wp2_with (fail)
   go_ret
   exact ⟨_, rfl, Kd.S_nil _ _ _ _ _, HB1.out⟩
  ·have cb : decide ((qs.length : Int) > 500) = false := decide_eq_false c
   have e : guardD R T N qs = gdF R T N qs := by unfold guardD; rw [if_neg (by omega), if_pos hq]
   rw [e]
   clear e
   have hri := (right_iff R T N).1 hq.1
   generalize hrr : gdF R T N qs = r
   have HRR := Aside0.mk hrr
   clear hrr
   go_enter Try.func16, Try.ntmps16
   go_wp2_with (fail)
   refine (ssafe_rd RD0.out hR hT hN).mono ?_
   rintro e w1 ⟨rfl, hb⟩
   rw [db]
   have GI := Aside0.mk (show Gi R r qs w w1 w.heap.size 0 (.slice none 0 0) (fun k => k < w.heap.size) A0 c0 A1 c1 T A2 c2 N [] from ⟨hri, RD0.out.below hb, blk_below BX0.out hb, Kd.S_nil _ _ _ _ _, below_step HB0.out hb, fun k hk => ⟨by omega, by have := hb.size; omega⟩, rfl, Nat.le_refl _⟩)
   clear hb BX0 RD0 HB0 hri hq db
   go_wp2_with (fail)
   go_loopw [5, 20] (fun x5 x20 wr => ∃ (i : Nat) (G : Nat → Prop) (A0 : Option Addr) (c0 : Nat) (A1 : Option Addr) (c1 : Nat) (T : List S35) (A2 : Option Addr) (c2 : Nat) (N : List Int) (acc : List AT), i ≤ qs.length ∧ x20 = .int .i64 i ∧ Aside0 (acc ++ gdF R T N (qs.drop i) = r) ∧ Aside0 (Gi R r qs w wr w.heap.size i x5 G A0 c0 A1 c1 T A2 c2 N acc)) (fun _ x20 _ => qs.length - (intOf x20).toNat)
   case atStart => exact ⟨0, _, A0, c0, A1, c1, T, A2, c2, N, [], Nat.zero_le _, rfl, by simpa using HRR, GI⟩
   case round =>
    clear GI HRR hT hN hc0 hc1 hc2 hz0
    obtain ⟨i, G, A0, c0, A1, c1, T, A2, c2, N, acc, hi, rfl, HRR, GI⟩ := hrel
    obtain ⟨x0, x1, x2⟩ := GI.out.cells
    by_cases hlt : i < qs.length
    ·have d21 : decide ((i : Int) < (qs.length : Int)) = true := decide_eq_true (by omega)
     have p5 : (0 : Int) ≤ (i : Int) := by omega
     have q5 : (i : Int) < (qs.length : Int) := by omega
     have HAb := Kd.C_below HA.out GI.out.hB
     obtain ⟨ada, ea, ha0⟩ := Kd.at_int HAb (i : Int) p5 q5
     rw [Int.toNat_natCast, show rd qs (i : Int) = qs.getD i 0 from rd_I qs i] at ha0
     subst ea
     have hdr : qs.drop i = qs.getD i 0 :: qs.drop (i + 1) := drop_cons 0 hlt
     have HD := Aside0.mk hdr
     clear hdr HAb
     generalize qs.getD i 0 = a at ha0 HD
     go_wp2_with (fail)
     refine (scopy_rd GI.out.rd GI.out.ri GI.out.hB.size).mono ?_
     rintro e w1 ⟨E0, f0, E1, f1, E2, f2, rfl, hst, hb⟩
     have HST := Aside0.mk hst
     have HBC := Aside0.mk hb
     have BN0 := Aside0.mk (heap_alloc_new w1 (.cells #[.int .i64 0, .slice none 0 0, .slice none 0 0, .slice none 0 0] 33))
     clear hst hb ha0 x0 x1 x2
     go_wp2_with (first
      | ((with_reducible refine gate_store (t := 33) (p := 8) rfl ?_); (try simp only [Act.put, List.setIfInBounds_toArray, List.set_cons_zero, List.set_cons_succ]); refine spec_l1copy.row_wr_ rfl 33 (.tmp 8) (.tmp 26) rfl rfl w1.heap.size rfl (c' := #[.int .i64 0, .slice E0 R.length f0, .slice E1 T.length f1, .slice E2 N.length f2]) rfl BN0.out info33s rfl (by simp [Value.oneCell']) ?_; intro w2 h2 g2; have GK0 := Aside0.mk (GI.out.lay HST.out HBC.out g2 h2); obtain ⟨x0, x1, x2⟩ := GK0.out.cells; clear h2 g2 GI HST HBC BN0))
     refine (name_rd GK0.out.rd GK0.out.ri a).mono ?_
     rintro e w3 ⟨rfl, hb⟩
     have GK1 := Aside0.mk (GK0.out.below hb)
     clear x0 x1 x2 GK0 hb
     have HR2 := HRR.out
     rw [HD.out, gdF] at HR2
     clear HRR
     rcases findD_tells N a with hf | ⟨j, hf, hj, hja⟩
     ·rw [hf] at HR2 ⊢
      rw [if_pos (by omega)] at HR2
      have d36 : decide ((-1 : Int) < 0) = true := by decide
      obtain ⟨⟨x0, x1, x2, x3⟩, y0, y1, y2, y3⟩ := GK1.out.xcells
      have HR := Aside0.mk HR2
      have GK := GK1
      clear GK1 HR2 hf
      go_wp2_with (first
       | ((with_reducible refine gate_store (t := 3) (p := 39) rfl ?_); refine store_event (t := 3) (p := 39) (v := .const (.int .i64 1)) (w1 := w3.setCell ⟨w1.heap.size, 0, none⟩ (.int .i64 1)) rfl rfl rfl ?hr ?_; (case hr => first | (go_simp; done) | (go_simp; rfl)); intro wk hwk; have GKn := Aside0.mk (show Gk R r qs w wk w.heap.size i u5 G A0 c0 A1 c1 T A2 c2 N acc wr.heap.size w1.heap.size 1 E0 f0 E1 f1 E2 f2 wr.heap.size w1.heap.size from by rw [hwk]; exact GK.out.put (grown_set _) (blk_put GK.out.xb 0 _ rfl)); obtain ⟨⟨s0, s1, s2, s3⟩, t0, t1, t2, t3⟩ := GKn.out.xcells; have hacc := GKn.out.len; clear hwk GK x0 x1 x2 x3 y0 y1 y2 y3)
       | ((with_reducible refine gate_builtin (b := .append) (xs := #[.tmp 53, .tmp 55]) rfl ?_); at_builtin; refine Kd.S_append kA (w0 := w) w.heap.size rfl (.tmp 53) (.tmp 55) 29 33 (.agg #[(.int .i64 0), (.slice none 0 0), (.slice none 0 0), (.slice none 0 0)]) 80 rfl Try.underlying29 info33 rfl (by decide) (by omega) u5 acc ⟨1, ⟨R, T, N⟩⟩ [.int .i64 1, .slice E0 R.length f0, .slice E1 T.length f1, .slice E2 N.length f2] (fun k => w.heap.size + 1 ≤ k ∧ ¬ G k) (Rng wr.heap.size w1.heap.size) rfl rfl ⟨_, _, _, rfl, GKn.out.st⟩ (fun k hk => GKn.out.okp hk) (fun k hk => GKn.out.fresh hk) GKn.out.hS' GKn.out.hB GKn.out.hB.size (by omega) ?_; intro xn wn hSn hbn hgn _; have GIn := Aside0.mk (GKn.out.app hSn hbn hgn); clear hSn hbn hgn GKn))
      go_roundw
      case measure => simp [intOf]; omega
      case rel => exact ⟨i + 1, G, _, _, _, _, T, _, _, N, acc ++ [⟨1, ⟨R, T, N⟩⟩], hlt, by go_num, ⟨by have h9 := HR.out; rw [List.append_assoc]; exact h9⟩, GIn⟩
     ·rw [hf] at HR2 ⊢
      rw [if_neg (by omega), Int.toNat_natCast] at HR2
      have d36 : decide ((j : Int) < 0) = false := decide_eq_false (by omega)
      have hjT : j < T.length := by have := GK1.out.ri.n1; omega
      obtain ⟨x0, x1, x2⟩ := GK1.out.cells
      have HR := Aside0.mk HR2
      clear HR2 hf
      go_wp2_with (fail)
      refine (scan_rd GK1.out.rd GK1.out.ri hjT).mono ?_
      rintro e w4 ⟨rfl, hb⟩
      have GK2 := Aside0.mk (GK1.out.below hb)
      clear x0 x1 x2 GK1 hb
      by_cases hc : canB R T j = true
      ·have HR2 := HR.out
       rw [if_pos hc] at HR2
       rw [hc]
       have HRS := Aside0.mk HR2
       obtain ⟨x0, x1, x2⟩ := GK2.out.cells
       clear HR HR2
       go_wp2_with (fail)
       refine (sstep_rd GK2.out.rd GK2.out.ri hjT).mono ?_
       rintro e w5 ⟨B0, d0, B1, d1, B2, d2, rfl, hrd5, hb5⟩
       have HRs := Aside0.mk (step_right GK2.out.ri hjT hc).2
       have RD5 := Aside0.mk hrd5
       have HB5 := Aside0.mk hb5
       have HX := Aside0.mk (And.intro hjT hc)
       clear hrd5 hb5 x0 x1 x2
       have hsm := HRs.out.wf.small
       go_wp2_with (fail)
       refine (ssafe_rd RD5.out hR hsm.2.1 hsm.2.2.1).mono ?_
       rintro e w6 ⟨rfl, hb6⟩
       have HB6 := Aside0.mk (below_step HB5.out hb6)
       have GK3 := Aside0.mk (GK2.out.below HB6.out)
       have hok : okS R (stepD R T N j).2.1 (stepD R T N j).2.2 = 0 := (right_iff _ _ _).2 HRs.out
       clear hb6 RD5 HB5 hsm HB6 GK2
       by_cases hv : 0 ≤ val R (stepD R T N j).2.1
       ·have db : decide (okS R (stepD R T N j).2.1 (stepD R T N j).2.2 = 0 ∧ 0 ≤ val R (stepD R T N j).2.1) = true := decide_eq_true ⟨hok, hv⟩
        rw [db]
        have HR2 := HRS.out
        rw [if_pos hv] at HR2
        obtain ⟨x0, x1, x2⟩ := GK3.out.cells
        clear HRS hv hok db
        go_wp2_with (fail)
        refine (sstep_rd GK3.out.rd GK3.out.ri HX.out.1).mono ?_
        rintro e w7 ⟨B0, d0, B1, d1, B2, d2, rfl, hrd7, hb7⟩
        generalize hU : (stepD R T N j).2.1 = U at *
        generalize hM : (stepD R T N j).2.2 = M at *
        have HR := Aside0.mk HR2
        have RD7 := Aside0.mk hrd7
        have HB7 := Aside0.mk hb7
        have BX7 := Aside0.mk (blk_below GK3.out.bx hb7)
        clear hrd7 hb7 hU hM HR2 x0 x1 x2
        go_wp2_with (first
         | ((with_reducible refine gate_store (t := 26) (p := 2) rfl ?_); (try simp only [Act.put, List.setIfInBounds_toArray, List.set_cons_zero, List.set_cons_succ]); refine spec_l1copy.row_wr_ rfl 26 (.tmp 2) (.tmp 32) rfl rfl w.heap.size rfl (c' := #[.slice B0 R.length d0, .slice B1 U.length d1, .slice B2 M.length d2]) rfl BX7.out spec_l1copy.info26_ rfl (by simp [Value.oneCell']) ?_; intro w8 h8 g8; have BX8 := Aside0.mk h8; have G8 := Aside0.mk g8; have RD8 := Aside0.mk (RD7.out.grown g8 (fun k hk h2 => by injection hk with hk; have := h2.1; have := blk_lt GK3.out.bx; omega)); have z0 : w8.cell? ⟨w.heap.size, 0, none⟩ = some (.slice B0 R.length d0) := (blk_cell h8 0).trans rfl; have z1 : w8.cell? ⟨w.heap.size, 1, none⟩ = some (.slice B1 U.length d1) := (blk_cell h8 1).trans rfl; have z2 : w8.cell? ⟨w.heap.size, 2, none⟩ = some (.slice B2 M.length d2) := (blk_cell h8 2).trans rfl; clear h8 g8))
        refine (scopy_rd (base := w.heap.size) RD8.out HRs.out (Nat.le_trans (Nat.le_trans GK3.out.hB.size HB7.out.size) G8.out.size)).mono ?_
        rintro e w9 ⟨E0', f0', E1', f1', E2', f2', rfl, hst9, hb9⟩
        have HST9 := Aside0.mk hst9
        have HB9 := Aside0.mk hb9
        have XB9 := Aside0.mk (blk_below (blk_grown (blk_below GK3.out.xb HB7.out) G8.out (fun e => by injection e with e; have := GK3.out.na; omega)) hb9)
        have x0 : w9.cell? ⟨w1.heap.size, 1, none⟩ = some (.slice E0 R.length f0) := (blk_cell XB9.out 1).trans rfl
        have x1 : w9.cell? ⟨w1.heap.size, 2, none⟩ = some (.slice E1 T.length f1) := (blk_cell XB9.out 2).trans rfl
        have x2 : w9.cell? ⟨w1.heap.size, 3, none⟩ = some (.slice E2 N.length f2) := (blk_cell XB9.out 3).trans rfl
        have y0 := blk_frozen XB9.out 1
        have y1 := blk_frozen XB9.out 2
        have y2 := blk_frozen XB9.out 3
        clear hst9 hb9 z0 z1 z2 RD8 BX7
        go_wp2_with (first
         | ((with_reducible refine gate_store (t := 26) (p := 35) rfl ?_); refine store_event (t := 26) (p := 35) (v := .tmp 34) (w1 := ((w9.setCell ⟨w1.heap.size, 1, none⟩ (.slice E0' R.length f0')).setCell ⟨w1.heap.size, 2, none⟩ (.slice E1' U.length f1')).setCell ⟨w1.heap.size, 3, none⟩ (.slice E2' M.length f2')) rfl rfl rfl ?hr ?_; (case hr => first | (go_simp; done) | (go_simp; rfl)); intro wk hwk; have GKn := Aside0.mk (show Gk R r qs w wk w.heap.size i u5 (Rng w6.heap.size w7.heap.size) B0 d0 B1 d1 U B2 d2 M acc wr.heap.size w1.heap.size 0 E0' f0' E1' f1' E2' f2' w8.heap.size w9.heap.size from by rw [hwk]; exact GK3.out.turn HRs.out RD7.out HB7.out G8.out BX8.out HST9.out HB9.out (grown_trans (grown_trans (grown_set _) (grown_set _)) (grown_set _)) (blk_put (blk_put (blk_put XB9.out 1 _ rfl) 2 _ rfl) 3 _ rfl)); obtain ⟨⟨s0, s1, s2, s3⟩, t0, t1, t2, t3⟩ := GKn.out.xcells; have hacc := GKn.out.len; clear hwk GK3 x0 x1 x2 y0 y1 y2 RD7 HB7 G8 BX8 HST9 HB9 XB9)
         | ((with_reducible refine gate_builtin (b := .append) (xs := #[.tmp 53, .tmp 55]) rfl ?_); at_builtin; refine Kd.S_append kA (w0 := w) w.heap.size rfl (.tmp 53) (.tmp 55) 29 33 (.agg #[(.int .i64 0), (.slice none 0 0), (.slice none 0 0), (.slice none 0 0)]) 80 rfl Try.underlying29 info33 rfl (by decide) (by omega) u5 acc ⟨0, ⟨R, U, M⟩⟩ [.int .i64 0, .slice E0' R.length f0', .slice E1' U.length f1', .slice E2' M.length f2'] (fun k => w.heap.size + 1 ≤ k ∧ ¬ (Rng w6.heap.size w7.heap.size) k) (Rng w8.heap.size w9.heap.size) rfl rfl ⟨_, _, _, rfl, GKn.out.st⟩ (fun k hk => GKn.out.okp hk) (fun k hk => GKn.out.fresh hk) GKn.out.hS' GKn.out.hB GKn.out.hB.size (by omega) ?_; intro xn wn hSn hbn hgn _; have GIn := Aside0.mk (GKn.out.app hSn hbn hgn); clear hSn hbn hgn GKn))
        go_roundw
        case measure => simp [intOf]; omega
        case rel => exact ⟨i + 1, (Rng w6.heap.size w7.heap.size), _, _, _, _, U, _, _, M, acc ++ [⟨0, ⟨R, U, M⟩⟩], hlt, by go_num, ⟨by have h9 := HR.out; rw [List.append_assoc]; exact h9⟩, GIn⟩
       ·have db : decide (okS R (stepD R T N j).2.1 (stepD R T N j).2.2 = 0 ∧ 0 ≤ val R (stepD R T N j).2.1) = false := decide_eq_false (fun h => hv h.2)
        rw [db]
        have HR2 := HRS.out
        rw [if_neg hv] at HR2
        have HR := Aside0.mk HR2
        obtain ⟨⟨x0, x1, x2, x3⟩, y0, y1, y2, y3⟩ := GK3.out.xcells
        have GK := GK3
        clear HR2 HRS hv hok db GK3
        go_wp2_with (first
         | ((with_reducible refine gate_store (t := 3) (p := 52) rfl ?_); refine store_event (t := 3) (p := 52) (v := .const (.int .i64 3)) (w1 := w6.setCell ⟨w1.heap.size, 0, none⟩ (.int .i64 3)) rfl rfl rfl ?hr ?_; (case hr => first | (go_simp; done) | (go_simp; rfl)); intro wk hwk; have GKn := Aside0.mk (show Gk R r qs w wk w.heap.size i u5 G A0 c0 A1 c1 T A2 c2 N acc wr.heap.size w1.heap.size 3 E0 f0 E1 f1 E2 f2 wr.heap.size w1.heap.size from by rw [hwk]; exact GK.out.put (grown_set _) (blk_put GK.out.xb 0 _ rfl)); obtain ⟨⟨s0, s1, s2, s3⟩, t0, t1, t2, t3⟩ := GKn.out.xcells; have hacc := GKn.out.len; clear hwk GK x0 x1 x2 x3 y0 y1 y2 y3)
         | ((with_reducible refine gate_builtin (b := .append) (xs := #[.tmp 53, .tmp 55]) rfl ?_); at_builtin; refine Kd.S_append kA (w0 := w) w.heap.size rfl (.tmp 53) (.tmp 55) 29 33 (.agg #[(.int .i64 0), (.slice none 0 0), (.slice none 0 0), (.slice none 0 0)]) 80 rfl Try.underlying29 info33 rfl (by decide) (by omega) u5 acc ⟨3, ⟨R, T, N⟩⟩ [.int .i64 3, .slice E0 R.length f0, .slice E1 T.length f1, .slice E2 N.length f2] (fun k => w.heap.size + 1 ≤ k ∧ ¬ G k) (Rng wr.heap.size w1.heap.size) rfl rfl ⟨_, _, _, rfl, GKn.out.st⟩ (fun k hk => GKn.out.okp hk) (fun k hk => GKn.out.fresh hk) GKn.out.hS' GKn.out.hB GKn.out.hB.size (by omega) ?_; intro xn wn hSn hbn hgn _; have GIn := Aside0.mk (GKn.out.app hSn hbn hgn); clear hSn hbn hgn GKn))
        go_roundw
        case measure => simp [intOf]; omega
        case rel => exact ⟨i + 1, G, _, _, _, _, T, _, _, N, acc ++ [⟨3, ⟨R, T, N⟩⟩], hlt, by go_num, ⟨by have h9 := HR.out; rw [List.append_assoc]; exact h9⟩, GIn⟩
      ·have hcf : canB R T j = false := by simpa using hc
       have HR2 := HR.out
       rw [if_neg hc] at HR2
       rw [hcf]
       clear HR
       have HR := Aside0.mk HR2
       obtain ⟨⟨x0, x1, x2, x3⟩, y0, y1, y2, y3⟩ := GK2.out.xcells
       have GK := GK2
       clear GK2 HR2 hc hcf
       go_wp2_with (first
        | ((with_reducible refine gate_store (t := 3) (p := 45) rfl ?_); refine store_event (t := 3) (p := 45) (v := .const (.int .i64 2)) (w1 := w4.setCell ⟨w1.heap.size, 0, none⟩ (.int .i64 2)) rfl rfl rfl ?hr ?_; (case hr => first | (go_simp; done) | (go_simp; rfl)); intro wk hwk; have GKn := Aside0.mk (show Gk R r qs w wk w.heap.size i u5 G A0 c0 A1 c1 T A2 c2 N acc wr.heap.size w1.heap.size 2 E0 f0 E1 f1 E2 f2 wr.heap.size w1.heap.size from by rw [hwk]; exact GK.out.put (grown_set _) (blk_put GK.out.xb 0 _ rfl)); obtain ⟨⟨s0, s1, s2, s3⟩, t0, t1, t2, t3⟩ := GKn.out.xcells; have hacc := GKn.out.len; clear hwk GK x0 x1 x2 x3 y0 y1 y2 y3)
        | ((with_reducible refine gate_builtin (b := .append) (xs := #[.tmp 53, .tmp 55]) rfl ?_); at_builtin; refine Kd.S_append kA (w0 := w) w.heap.size rfl (.tmp 53) (.tmp 55) 29 33 (.agg #[(.int .i64 0), (.slice none 0 0), (.slice none 0 0), (.slice none 0 0)]) 80 rfl Try.underlying29 info33 rfl (by decide) (by omega) u5 acc ⟨2, ⟨R, T, N⟩⟩ [.int .i64 2, .slice E0 R.length f0, .slice E1 T.length f1, .slice E2 N.length f2] (fun k => w.heap.size + 1 ≤ k ∧ ¬ G k) (Rng wr.heap.size w1.heap.size) rfl rfl ⟨_, _, _, rfl, GKn.out.st⟩ (fun k hk => GKn.out.okp hk) (fun k hk => GKn.out.fresh hk) GKn.out.hS' GKn.out.hB GKn.out.hB.size (by omega) ?_; intro xn wn hSn hbn hgn _; have GIn := Aside0.mk (GKn.out.app hSn hbn hgn); clear hSn hbn hgn GKn))
       go_roundw
       case measure => simp [intOf]; omega
       case rel => exact ⟨i + 1, G, _, _, _, _, T, _, _, N, acc ++ [⟨2, ⟨R, T, N⟩⟩], hlt, by go_num, ⟨by have h9 := HR.out; rw [List.append_assoc]; exact h9⟩, GIn⟩
    ·have d21 : decide ((i : Int) < (qs.length : Int)) = false := decide_eq_false (by omega)
     have hie : i = qs.length := by omega
     subst hie
     go_wp2_with (fail)
     go_ret
     have hf := HRR.out
     rw [List.drop_length, gdF, List.append_nil] at hf
     rw [← hf]
     exact ⟨_, rfl, Kd.S_mono GI.out.hS (fun _ _ => trivial), GI.out.hB⟩
end Go.Proofs.Ytpbclogjoangfaa.Gd
