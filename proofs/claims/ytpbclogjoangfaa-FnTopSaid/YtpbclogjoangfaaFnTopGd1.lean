/- The program's Guard. Walked by hand. (Printed by wip/gd1gen.py.) -/
import Derived.Test.YtpbclogjoangfaaFnTopGd0
import Derived.Test.YtpbclogjoangfaaFnTopQ5
import Derived.Test.YtpbclogjoangfaaFnTopQ6
import Derived.Test.YtpbclogjoangfaaFnTopQ3
namespace Go.Proofs.Ytpbclogjoangfaa.Gd
open Go.RowKit Go.Maps Go.Proofs.YtpbclogjoangfaaW.PrintWords Go.Proofs.YtpbclogjoangfaaW.PrintLast Go.Proofs.YtpbclogjoangfaaW.PrintMore Go.Proofs.Ytpbclogjoangfaa.Q Go.Proofs.Ytpbclogjoangfaa.Pu Go.Proofs.Ytpbclogjoangfaa.Mk Go.Proofs.Ytpbclogjoangfaa.Lw Go.Proofs.Ytpbclogjoangfaa.Wk Go.Proofs.Ytpbclogjoangfaa.Sr Go.Proofs.Ytpbclogjoangfaa.Sp Go.Proofs.Ytpbclogjoangfaa.So
attribute [local go_sem] max2_int min2_int max_two min_two max_three min_three max_four min_four
set_option linter.unusedVariables false
set_option linter.unusedSimpArgs false
section
variable {W : World} {G : Nat → Prop} {A0 A1 A2 : Option Addr} {c0 c1 c2 : Nat} {R N : List Int} {T : List S35}
theorem find_rd (h : Rd W G A0 c0 R A1 c1 T A2 c2 N) (hr : Right R T N) (a : Int) :
  Calls Try.prog 60 #[.agg #[.slice A0 R.length c0, .slice A1 T.length c1, .slice A2 N.length c2], .int .i64 a] W fun e W' => e = .returned (.int .i64 (findD N a)) ∧ Below W.heap.size W W' := by
 obtain ⟨k, hk⟩ := (find_tells R T hr.wf.small.2.2.1 a).rounds
 exact impl_find.calls k _ _ R _ _ T _ _ N a _ W (Kd.F_now h.f0) h.h0 (Kd.F_now h.f1) h.h1 (Kd.F_now h.f2) h.h2 hk
theorem can_rd (h : Rd W G A0 c0 R A1 c1 T A2 c2 N) (hr : Right R T N) {j : Nat} (hj : j < T.length) :
  Calls Try.prog 61 #[.agg #[.slice A0 R.length c0, .slice A1 T.length c1, .slice A2 N.length c2], .int .i64 j] W fun e W' => e = .returned (.bool (canB R T j)) ∧ Below W.heap.size W W' := by
 obtain ⟨k, hk⟩ := (can_tells hr.wf j hj).rounds
 exact impl_can.calls k _ _ R _ _ T _ _ N j _ W (Kd.F_now h.f0) h.h0 (Kd.F_now h.f1) h.h1 (Kd.F_now h.f2) h.h2 hk
theorem safe_rd (h : Rd W G A0 c0 R A1 c1 T A2 c2 N) (hR : R.length ≤ 1048576) (hT : T.length ≤ 1048576) (hN : N.length ≤ 1048576) :
  Calls Try.prog 30 #[.agg #[.slice A0 R.length c0, .slice A1 T.length c1, .slice A2 N.length c2]] W fun e W' => e = .returned (.bool (decide (okS R T N = 0 ∧ 0 ≤ val R T))) ∧ Below W.heap.size W W' := by
 obtain ⟨k, hk⟩ := (implSafe_tells (R := R) (T := T) (N := N) hR hT hN).rounds
 refine (impl_Safe.calls k _ _ R _ _ T _ _ N _ W (Kd.F_now h.f0) h.h0 (Kd.F_now h.f1) h.h1 (Kd.F_now h.f2) h.h2 hk).mono fun e W' hh => ⟨?_, hh.2⟩
 rw [hh.1]
 congr 2
 by_cases c : okS R T N = 0
 ·rw [if_pos c]; simp [c]; rfl
 ·rw [if_neg c]; simp [c]

/-- A row's blocks, between two sizes. -/
theorem rd_made {W W' : World} {v0 v1 v2 : Value} {ok0 ok1 ok2 : Nat → Prop} (h0 : Kd.R (Kd.int .i64) 3 W' W.heap.size ok0 v0 R) (h1 : Kd.N k35 35 W' W.heap.size ok1 v1 T) (h2 : Kd.R (Kd.int .i64) 3 W' W.heap.size ok2 v2 N) (e1 : ∀ k, ok1 k → W.heap.size ≤ k) :
  ∃ A0 c0 A1 c1 A2 c2, v0 = .slice A0 R.length c0 ∧ v1 = .slice A1 T.length c1 ∧ v2 = .slice A2 N.length c2 ∧ Rd W' (Rng W.heap.size W'.heap.size) A0 c0 R A1 c1 T A2 c2 N := by
 obtain ⟨A0, c0, rfl⟩ := Kd.R_slice h0
 obtain ⟨A1, c1, rfl⟩ := Kd.N_slice h1
 obtain ⟨A2, c2, rfl⟩ := Kd.R_slice h2
 exact ⟨A0, c0, A1, c1, A2, c2, rfl, rfl, rfl, Kd.F_mono (Kd.R_F (Kd.R_bound h0)) (fun k hk => ⟨hk.2.1, hk.2.2.1⟩), (Kd.R_reads' h0).2.1, Kd.F_mono (Kd.N_F (Kd.N_bound h1)) (fun k hk => ⟨e1 k hk.1, hk.2⟩), (Kd.N_reads' h1).2.1, Kd.F_mono (Kd.R_F (Kd.R_bound h2)) (fun k hk => ⟨hk.2.1, hk.2.2.1⟩), (Kd.R_reads' h2).2.1⟩
theorem step_rd (h : Rd W G A0 c0 R A1 c1 T A2 c2 N) (hr : Right R T N) {j : Nat} (hj : j < T.length) :
  Calls Try.prog 62 #[.agg #[.slice A0 R.length c0, .slice A1 T.length c1, .slice A2 N.length c2], .int .i64 j] W fun e W' => ∃ B0 d0 B1 d1 B2 d2, e = .returned (.agg #[.slice B0 R.length d0, .slice B1 (stepD R T N j).2.1.length d1, .slice B2 (stepD R T N j).2.2.length d2]) ∧
   Rd W' (Rng W.heap.size W'.heap.size) B0 d0 R B1 d1 (stepD R T N j).2.1 B2 d2 (stepD R T N j).2.2 ∧ Below W.heap.size W W' := by
 obtain ⟨k, hk⟩ := (step_tells hr.wf j hj).rounds
 have e : stepD R T N j = (R, (stepD R T N j).2.1, (stepD R T N j).2.2) := by unfold stepD; split <;> rfl
 rw [e] at hk
 refine (impl_step.calls k _ _ R _ _ T _ _ N j _ _ _ W (Kd.F_now h.f0) h.h0 (Kd.F_now h.f1) h.h1 (Kd.F_now h.f2) h.h2 hk).mono fun e W' hh => ?_
 obtain ⟨v0, v1, v2, rfl, h0, h1, h2, hb⟩ := hh
 obtain ⟨B0, d0, B1, d1, B2, d2, rfl, rfl, rfl, hd⟩ := rd_made h0 h1 h2 (fun k hk => hk.1)
 exact ⟨B0, d0, B1, d1, B2, d2, rfl, hd, hb⟩
theorem copy_rd {base : Nat} (h : Rd W G A0 c0 R A1 c1 T A2 c2 N) (hr : Right R T N) (hB : base ≤ W.heap.size) :
  Calls Try.prog 63 #[.agg #[.slice A0 R.length c0, .slice A1 T.length c1, .slice A2 N.length c2]] W fun e W' => ∃ v0 v1 v2, e = .returned (.agg #[v0, v1, v2]) ∧ St base W' (Rng W.heap.size W'.heap.size) v0 v1 v2 R T N ∧ Below W.heap.size W W' := by
 have hs := hr.wf.small
 obtain ⟨k, hk⟩ := (copyState_tells (R := R) (N := N) hs.1 hs.2.1 hs.2.2.1 hs.2.2.2).rounds
 refine (impl_copyState.calls k _ _ R _ _ T _ _ N _ _ _ W (Kd.F_now h.f0) h.h0 (Kd.F_now h.f1) h.h1 (Kd.F_now h.f2) h.h2 hk).mono fun e W' hh => ?_
 obtain ⟨v0, v1, v2, rfl, h0, h1, h2, hb⟩ := hh
 exact ⟨v0, v1, v2, rfl, St.made h0 h1 h2 (fun k h => h) (fun k h => h) (fun k h => h) hB, hb⟩
end
/-- While a guard answers. -/
structure Gi (R : List Int) (r : List AT) (qs : List Int) (w wr : World) (gX : Nat) (i : Nat) (x : Value) (G : Nat → Prop) (A0 : Option Addr) (c0 : Nat) (A1 : Option Addr) (c1 : Nat) (T : List S35) (A2 : Option Addr) (c2 : Nat) (N : List Int) (acc : List AT) : Prop where
 ri : Right R T N
 rd : Rd wr G A0 c0 R A1 c1 T A2 c2 N
 bx : wr.heap[gX]? = some (.cells #[.slice A0 R.length c0, .slice A1 T.length c1, .slice A2 N.length c2] 26 (0, 0))
 hS : Kd.S kA 33 wr w.heap.size (fun k => gX + 1 ≤ k ∧ ¬ G k) x acc
 hB : Below w.heap.size w wr
 hG : ∀ k, G k → k ≠ gX ∧ k < wr.heap.size
 len : acc.length = i
 w0 : w.heap.size ≤ gX
section
variable {R : List Int} {r : List AT} {qs : List Int} {w wr w' : World} {gX i : Nat} {x : Value} {G : Nat → Prop} {A0 : Option Addr} {c0 : Nat} {A1 : Option Addr} {c1 : Nat} {T : List S35} {A2 : Option Addr} {c2 : Nat} {N : List Int} {acc : List AT}
theorem Gi.below (h : Gi R r qs w wr gX i x G A0 c0 A1 c1 T A2 c2 N acc) (hb : Below wr.heap.size wr w') : Gi R r qs w w' gX i x G A0 c0 A1 c1 T A2 c2 N acc :=
 ⟨h.ri, h.rd.below hb, blk_below h.bx hb, Kd.S_below h.hS hb, below_step h.hB hb, fun k hk => ⟨(h.hG k hk).1, Nat.lt_of_lt_of_le (h.hG k hk).2 hb.size⟩, h.len, h.w0⟩
theorem Gi.cells (h : Gi R r qs w wr gX i x G A0 c0 A1 c1 T A2 c2 N acc) : wr.cell? ⟨gX, 0, none⟩ = some (.slice A0 R.length c0) ∧ wr.cell? ⟨gX, 1, none⟩ = some (.slice A1 T.length c1) ∧ wr.cell? ⟨gX, 2, none⟩ = some (.slice A2 N.length c2) :=
 ⟨(blk_cell h.bx 0).trans rfl, (blk_cell h.bx 1).trans rfl, (blk_cell h.bx 2).trans rfl⟩
/-- The state is another one now: its rows lie in blocks that are newer than all. -/
theorem Gi.turn (h : Gi R r qs w wr gX i x G A0 c0 A1 c1 T A2 c2 N acc) {w1 : World} {B0 : Option Addr} {d0 : Nat} {B1 : Option Addr} {d1 : Nat} {U : List S35} {B2 : Option Addr} {d2 : Nat} {M : List Int} {n m : Nat} (hri : Right R U M) (hd : Rd w1 (Rng n m) B0 d0 R B1 d1 U B2 d2 M) (hn : wr.heap.size ≤ n) (hm : m ≤ w1.heap.size) (hb : Below wr.heap.size wr w1)
  (hg : w1.grownBy w' (some gX)) (hx : w'.heap[gX]? = some (.cells #[.slice B0 R.length d0, .slice B1 U.length d1, .slice B2 M.length d2] 26 (0, 0))) : Gi R r qs w w' gX i x (Rng n m) B0 d0 B1 d1 U B2 d2 M acc := by
 have hl := blk_lt h.bx
 refine ⟨hri, hd.grown hg (fun k hk h2 => by injection hk with hk; have := h2.1; omega), hx, Kd.S_mono (Kd.S_step (Kd.S_below (Kd.S_bound h.hS) hb) (w1 := w') (fun k hk hlt => hg.block k hlt (fun e => by injection e with e; have := hk.1.1; omega))) (fun k hk => ⟨hk.1.1, fun h2 => by have := h2.1; have := hk.2.2.1; omega⟩), (below_step h.hB hb).grown hg (Nat.le_trans h.hB.size hb.size) (fun k hk => by injection hk with hk; have := h.w0; omega), fun k hk => ⟨by have := hk.1; omega, Nat.lt_of_lt_of_le hk.2 (Nat.le_trans hm hg.size)⟩, h.len, h.w0⟩
theorem Gi.copy (h : Gi R r qs w wr gX i x G A0 c0 A1 c1 T A2 c2 N acc) :
  Calls Try.prog 63 #[.agg #[.slice A0 R.length c0, .slice A1 T.length c1, .slice A2 N.length c2]] wr fun e w' => ∃ v0 v1 v2 n, e = .returned (.agg #[v0, v1, v2]) ∧ St w.heap.size w' (Rng n w'.heap.size) v0 v1 v2 R T N ∧ Gi R r qs w w' gX i x G A0 c0 A1 c1 T A2 c2 N acc ∧
   (∀ k, n ≤ k → (gX + 1 ≤ k ∧ ¬ G k) ∧ some k ≠ x.ownBlock) ∧ n ≤ w'.heap.size ∧ Kd.S kA 33 w' w.heap.size (fun k => (gX + 1 ≤ k ∧ ¬ G k) ∧ ¬ Rng n w'.heap.size k) x acc := by
 refine (copy_rd h.rd h.ri h.hB.size).mono fun e w' hh => ?_
 obtain ⟨v0, v1, v2, rfl, hst, hb⟩ := hh
 have hl := blk_lt h.bx
 have hlt := Kd.S_lt h.hS
 exact ⟨v0, v1, v2, wr.heap.size, rfl, hst, h.below hb, fun k hk => ⟨⟨by omega, fun h2 => by have := (h.hG k h2).2; omega⟩, fun e => by have := hlt k e.symm; omega⟩, hb.size, Kd.S_mono (Kd.S_below (Kd.S_bound h.hS) hb) (fun k hk => ⟨hk.1, fun h2 => by have := hk.2.2.1; have := h2.1; omega⟩)⟩
theorem Gi.app {x1 : Value} {p : AT} (h : Gi R r qs w wr gX i x G A0 c0 A1 c1 T A2 c2 N acc) (hS : Kd.S kA 33 w' w.heap.size (fun k => gX + 1 ≤ k ∧ ¬ G k) x1 (acc ++ [p])) (hb : Below w.heap.size w w') (hg : wr.grownBy w' x.ownBlock) : Gi R r qs w w' gX (i + 1) x1 G A0 c0 A1 c1 T A2 c2 N (acc ++ [p]) := by
 have ho : ∀ k, x.ownBlock = some k → gX + 1 ≤ k ∧ ¬ G k := fun k hk => (Kd.S_R h.hS).1 k hk
 exact ⟨h.ri, h.rd.grown hg (fun k hk => (ho k hk).2), blk_grown h.bx hg (fun e => by have := (ho gX e.symm).1; omega), hS, hb, fun k hk => ⟨(h.hG k hk).1, Nat.lt_of_lt_of_le (h.hG k hk).2 hg.size⟩, by rw [List.length_append, h.len]; rfl, h.w0⟩
end
set_option maxHeartbeats 4000000 in
set_option maxRecDepth 100000 in
theorem implGuard_calls {A0 : Option Addr} {c0 : Nat} {R : List Int} {A1 : Option Addr} {c1 : Nat} {T : List S35} {A2 : Option Addr} {c2 : Nat} {N : List Int} {Aa : Option Addr} {ca : Nat} (qs : List Int) (w : World) (hr0 : Kd.C (Kd.int .i64) w A0 R.length R) (hc0 : R.length ≤ c0) (hr1 : Kd.C k35 w A1 T.length T) (hc1 : T.length ≤ c1) (hr2 : Kd.C (Kd.int .i64) w A2 N.length N) (hc2 : N.length ≤ c2)
  (ha : Kd.C (Kd.int .i64) w Aa qs.length qs) (hca : qs.length ≤ ca) (hR : R.length ≤ 1048576) (hT : T.length ≤ 1048576) (hN : N.length ≤ 1048576) :
  Calls Try.prog 17 #[.agg #[.slice A0 R.length c0, .slice A1 T.length c1, .slice A2 N.length c2], .slice Aa qs.length ca] w fun e w' => ∃ v, e = .returned v ∧ Kd.S kA 33 w' w.heap.size (fun _ => True) v (guardD R T N qs) ∧ Below w.heap.size w w' := by
 have hu26 := Try.underlying26
 have hu33 := Try.underlying33
 have hb0 : Below w.heap.size w (w.alloc (.cells #[.slice A0 R.length c0, .slice A1 T.length c1, .slice A2 N.length c2] 26)) := (Below.refl _ _).alloc (Nat.le_refl _) _
 have HB0 := Aside0.mk hb0
 have BX0 := Aside0.mk (heap_alloc_new w (.cells #[.slice A0 R.length c0, .slice A1 T.length c1, .slice A2 N.length c2] 26))
 have RD0 := Aside0.mk ((Rd.of_C hr0 hc0 hr1 hc1 hr2 hc2).below hb0)
 have HA := Aside0.mk ha
 have hz0 : w.heap.size < (w.alloc (.cells #[.slice A0 R.length c0, .slice A1 T.length c1, .slice A2 N.length c2] 26)).heap.size := by simp
 clear hb0 hr0 hr1 hr2 ha
 by_cases c : (qs.length : Int) > 500
 ·have cb : decide ((qs.length : Int) > 500) = true := decide_eq_true c
  have e : guardD R T N qs = [] := by unfold guardD; rw [if_pos (by omega)]
  rw [e]
  clear e
  go_enter Try.func17, Try.ntmps17
  go_wp2_with (fail)
  go_ret
  exact ⟨_, rfl, Kd.S_nil _ _ _ _ _, HB0.out⟩
 ·have cb : decide ((qs.length : Int) > 500) = false := decide_eq_false c
  by_cases hq : okS R T N = 0 ∧ 0 ≤ val R T
  ·have e : guardD R T N qs = gdF R T N qs := by unfold guardD; rw [if_neg (by omega), if_pos hq]
   rw [e]
   clear e
   have db : decide (okS R T N = 0 ∧ 0 ≤ val R T) = true := decide_eq_true hq
   have hri := (right_iff R T N).1 hq.1
   generalize hrr : gdF R T N qs = r
   have HRR := Aside0.mk hrr
   clear hrr
   go_enter Try.func17, Try.ntmps17
   go_wp2_with (fail)
   refine (safe_rd RD0.out hR hT hN).mono ?_
   rintro e w1 ⟨rfl, hb⟩
   rw [db]
   have GI := Aside0.mk (show Gi R r qs w w1 w.heap.size 0 (.slice none 0 0) (fun k => k < w.heap.size) A0 c0 A1 c1 T A2 c2 N [] from ⟨hri, RD0.out.below hb, blk_below BX0.out hb, Kd.S_nil _ _ _ _ _, below_step HB0.out hb, fun k hk => ⟨by omega, by have := hb.size; omega⟩, rfl, Nat.le_refl _⟩)
   clear hb BX0 RD0 HB0 hri hq db
   go_wp2_with (fail)
   go_loopw [5, 21] (fun x5 x21 wr => ∃ (i : Nat) (G : Nat → Prop) (A0 : Option Addr) (c0 : Nat) (A1 : Option Addr) (c1 : Nat) (T : List S35) (A2 : Option Addr) (c2 : Nat) (N : List Int) (acc : List AT), i ≤ qs.length ∧ x21 = .int .i64 i ∧ Aside0 (acc ++ gdF R T N (qs.drop i) = r) ∧ Aside0 (Gi R r qs w wr w.heap.size i x5 G A0 c0 A1 c1 T A2 c2 N acc)) (fun _ x21 _ => qs.length - (intOf x21).toNat)
   case atStart => exact ⟨0, _, A0, c0, A1, c1, T, A2, c2, N, [], Nat.zero_le _, rfl, by simpa using HRR, GI⟩
   case round =>
    clear GI HRR hT hN hc0 hc1 hc2 hz0
    obtain ⟨i, G, A0, c0, A1, c1, T, A2, c2, N, acc, hi, rfl, HRR, GI⟩ := hrel
    obtain ⟨x0, x1, x2⟩ := GI.out.cells
    by_cases hlt : i < qs.length
    ·have d22 : decide ((i : Int) < (qs.length : Int)) = true := decide_eq_true (by omega)
     have p5 : (0 : Int) ≤ (i : Int) := by omega
     have q5 : (i : Int) < (qs.length : Int) := by omega
     have HAb := Kd.C_below HA.out GI.out.hB
     obtain ⟨ada, ea, ha0⟩ := Kd.at_int HAb (i : Int) p5 q5
     rw [Int.toNat_natCast, show rd qs (i : Int) = qs.getD i 0 from rd_I qs i] at ha0
     subst ea
     have hdr : qs.drop i = qs.getD i 0 :: qs.drop (i + 1) := drop_cons 0 hlt
     have HD := Aside0.mk hdr
     clear hdr HAb
     generalize qs.getD i 0 = a at ha0 HD
     go_wp2_with (fail)
     refine (find_rd GI.out.rd GI.out.ri a).mono ?_
     rintro e w1 ⟨rfl, hb⟩
     have GI1 := Aside0.mk (GI.out.below hb)
     clear x0 x1 x2 GI hb ha0
     have HR2 := HRR.out
     rw [HD.out, gdF] at HR2
     clear HRR
     rcases findD_tells N a with hf | ⟨j, hf, hj, hja⟩
     ·rw [hf] at HR2 ⊢
      rw [if_pos (by omega)] at HR2
      have d36 : decide ((-1 : Int) < 0) = true := by decide
      obtain ⟨x0, x1, x2⟩ := GI1.out.cells
      have HR := Aside0.mk HR2
      have GI := GI1
      clear GI1 HR2 hf
      go_wp2_with (fail)
      refine GI.out.copy.mono ?_
      rintro e wc ⟨v0, v1, v2, n, rfl, hst, hgi, hk1, hk2, hS⟩
      obtain ⟨E0, f0, E1, f1, E2, f2, rfl, rfl, rfl⟩ := hst.slices
      have ST := Aside0.mk hst
      have GIc := Aside0.mk hgi
      have SS := Aside0.mk hS
      have K1 := Aside0.mk hk1
      have hacc := hgi.len
      clear hst hgi hS hk1 x0 x1 x2 GI
      go_wp2_with (first
       | ((with_reducible refine gate_builtin (b := .append) (xs := #[.tmp 42, .tmp 47]) rfl ?_); at_builtin; refine Kd.S_append kA (w0 := w) w.heap.size rfl (.tmp 42) (.tmp 47) 29 33 (.agg #[(.int .i64 0), (.slice none 0 0), (.slice none 0 0), (.slice none 0 0)]) 80 rfl Try.underlying29 info33 rfl (by decide) (by omega) u5 acc ⟨1, ⟨R, T, N⟩⟩ [.int .i64 1, .slice E0 R.length f0, .slice E1 T.length f1, .slice E2 N.length f2] (fun k => w.heap.size + 1 ≤ k ∧ ¬ G k) (Rng n wc.heap.size) rfl rfl ⟨_, _, _, rfl, ST.out⟩ (fun k hk => K1.out k hk.1) (fun k hk => (K1.out k (Nat.le_trans hk2 hk)).1) SS.out GIc.out.hB GIc.out.hB.size (by omega) ?_; intro xn wn hSn hbn hgn _; have GIn := Aside0.mk (GIc.out.app hSn hbn hgn); clear hSn hbn hgn GIc SS ST K1))
      go_roundw
      case measure => simp [intOf]; omega
      case rel => exact ⟨i + 1, G, _, _, _, _, T, _, _, N, acc ++ [⟨1, ⟨R, T, N⟩⟩], hlt, by go_num, ⟨by have h9 := HR.out; rw [List.append_assoc]; exact h9⟩, GIn⟩
     ·rw [hf] at HR2 ⊢
      rw [if_neg (by omega), Int.toNat_natCast] at HR2
      have d36 : decide ((j : Int) < 0) = false := decide_eq_false (by omega)
      have hjT : j < T.length := by have := GI1.out.ri.n1; omega
      obtain ⟨x0, x1, x2⟩ := GI1.out.cells
      have HR := Aside0.mk HR2
      clear HR2 hf
      go_wp2_with (fail)
      refine (can_rd GI1.out.rd GI1.out.ri hjT).mono ?_
      rintro e w2 ⟨rfl, hb⟩
      have GI2 := Aside0.mk (GI1.out.below hb)
      clear x0 x1 x2 GI1 hb
      obtain ⟨x0, x1, x2⟩ := GI2.out.cells
      by_cases hc : canB R T j = true
      ·have HR2 := HR.out
       rw [if_pos hc] at HR2
       rw [hc]
       have HRS := Aside0.mk HR2
       clear HR HR2
       go_wp2_with (fail)
       refine (step_rd GI2.out.rd GI2.out.ri hjT).mono ?_
       rintro e w3 ⟨B0, d0, B1, d1, B2, d2, rfl, hrd3, hb3⟩
       have hRs := (step_right GI2.out.ri hjT hc).2
       have HRs := Aside0.mk hRs
       have hsz2 := hb3.size
       generalize hU : (stepD R T N j).2.1 = U at *
       generalize hM : (stepD R T N j).2.2 = M at *
       have RD3 := Aside0.mk hrd3
       have HB3 := Aside0.mk hb3
       clear hrd3 hRs hU hM x0 x1 x2 hb3
       have BN0 := Aside0.mk (heap_alloc_new w3 (.cells #[.slice none 0 0, .slice none 0 0, .slice none 0 0] 26))
       have hz3 : (w3.alloc (.cells #[.slice none 0 0, .slice none 0 0, .slice none 0 0] 26)).heap.size = w3.heap.size + 1 := by simp
       go_wp2_with (first
        | ((with_reducible refine gate_store (t := 26) (p := 10) rfl ?_); (try simp only [Act.put, List.setIfInBounds_toArray, List.set_cons_zero, List.set_cons_succ]); refine spec_l1copy.row_wr_ rfl 26 (.tmp 10) (.tmp 30) rfl rfl w3.heap.size rfl (c' := #[.slice B0 R.length d0, .slice B1 U.length d1, .slice B2 M.length d2]) rfl BN0.out spec_l1copy.info26_ rfl (by simp [Value.oneCell']) ?_; intro w4 h4 g4; have BN4 := Aside0.mk h4; have hb4 : Below w3.heap.size w3 w4 := ((Below.refl _ _).alloc (Nat.le_refl _) _).grown g4 (by rw [hz3]; omega) (fun k hk => by injection hk with hk; omega); have HB4 := Aside0.mk hb4; have z0 : w4.cell? ⟨w3.heap.size, 0, none⟩ = some (.slice B0 R.length d0) := (blk_cell h4 0).trans rfl; have z1 : w4.cell? ⟨w3.heap.size, 1, none⟩ = some (.slice B1 U.length d1) := (blk_cell h4 1).trans rfl; have z2 : w4.cell? ⟨w3.heap.size, 2, none⟩ = some (.slice B2 M.length d2) := (blk_cell h4 2).trans rfl; clear h4 g4 hb4))
       have hsm := HRs.out.wf.small
       refine (safe_rd (RD3.out.below HB4.out) hR hsm.2.1 hsm.2.2.1).mono ?_
       rintro e w5 ⟨rfl, hb5⟩
       have HB25 := Aside0.mk (below_step (below_step HB3.out HB4.out) hb5)
       have GI5 := Aside0.mk (GI2.out.below HB25.out)
       have RD5 := Aside0.mk ((RD3.out.below HB4.out).below hb5)
       have BN5 := Aside0.mk (blk_below BN4.out hb5)
       have hs4 := HB4.out.size
       have hs5 := hb5.size
       have HB5 := Aside0.mk (below_step HB4.out hb5)
       have hok : okS R U M = 0 := (right_iff R U M).2 HRs.out
       clear z0 z1 z2 hsm RD3 HB3 BN0 BN4 HB4 hb5
       obtain ⟨x0, x1, x2⟩ := GI5.out.cells
       have z0 : w5.cell? ⟨w3.heap.size, 0, none⟩ = some (.slice B0 R.length d0) := (blk_cell BN5.out 0).trans rfl
       have z1 : w5.cell? ⟨w3.heap.size, 1, none⟩ = some (.slice B1 U.length d1) := (blk_cell BN5.out 1).trans rfl
       have z2 : w5.cell? ⟨w3.heap.size, 2, none⟩ = some (.slice B2 M.length d2) := (blk_cell BN5.out 2).trans rfl
       by_cases hv : 0 ≤ val R U
       ·have db : decide (okS R U M = 0 ∧ 0 ≤ val R U) = true := decide_eq_true ⟨hok, hv⟩
        rw [db]
        have HR2 := HRS.out
        rw [if_pos hv] at HR2
        have HR := Aside0.mk HR2
        clear HR2 HRS hv hok db
        go_wp2_with (first
         | ((with_reducible refine gate_store (t := 26) (p := 2) rfl ?_); (try simp only [Act.put, List.setIfInBounds_toArray, List.set_cons_zero, List.set_cons_succ]); refine spec_l1copy.row_wr_ rfl 26 (.tmp 2) (.tmp 33) rfl rfl w.heap.size rfl (c' := #[.slice B0 R.length d0, .slice B1 U.length d1, .slice B2 M.length d2]) rfl GI5.out.bx spec_l1copy.info26_ rfl (by simp [Value.oneCell']) ?_; intro w6 h6 g6; have GI := Aside0.mk (GI2.out.turn HRs.out RD5.out (Nat.le_refl _) (by omega) HB25.out g6 h6); obtain ⟨x0, x1, x2⟩ := GI.out.cells; clear h6 g6))
        clear z0 z1 z2 GI2 GI5 RD5 BN5 HB25
        go_wp2_with (fail)
        refine GI.out.copy.mono ?_
        rintro e wc ⟨v0, v1, v2, n, rfl, hst, hgi, hk1, hk2, hS⟩
        obtain ⟨E0, f0, E1, f1, E2, f2, rfl, rfl, rfl⟩ := hst.slices
        have ST := Aside0.mk hst
        have GIc := Aside0.mk hgi
        have SS := Aside0.mk hS
        have K1 := Aside0.mk hk1
        have hacc := hgi.len
        clear hst hgi hS hk1 x0 x1 x2 GI
        go_wp2_with (first
         | ((with_reducible refine gate_builtin (b := .append) (xs := #[.tmp 42, .tmp 47]) rfl ?_); at_builtin; refine Kd.S_append kA (w0 := w) w.heap.size rfl (.tmp 42) (.tmp 47) 29 33 (.agg #[(.int .i64 0), (.slice none 0 0), (.slice none 0 0), (.slice none 0 0)]) 80 rfl Try.underlying29 info33 rfl (by decide) (by omega) u5 acc ⟨0, ⟨R, U, M⟩⟩ [.int .i64 0, .slice E0 R.length f0, .slice E1 U.length f1, .slice E2 M.length f2] (fun k => w.heap.size + 1 ≤ k ∧ ¬ (Rng w2.heap.size w3.heap.size) k) (Rng n wc.heap.size) rfl rfl ⟨_, _, _, rfl, ST.out⟩ (fun k hk => K1.out k hk.1) (fun k hk => (K1.out k (Nat.le_trans hk2 hk)).1) SS.out GIc.out.hB GIc.out.hB.size (by omega) ?_; intro xn wn hSn hbn hgn _; have GIn := Aside0.mk (GIc.out.app hSn hbn hgn); clear hSn hbn hgn GIc SS ST K1))
        go_roundw
        case measure => simp [intOf]; omega
        case rel => exact ⟨i + 1, (Rng w2.heap.size w3.heap.size), _, _, _, _, U, _, _, M, acc ++ [⟨0, ⟨R, U, M⟩⟩], hlt, by go_num, ⟨by have h9 := HR.out; rw [List.append_assoc]; exact h9⟩, GIn⟩
       ·have db : decide (okS R U M = 0 ∧ 0 ≤ val R U) = false := decide_eq_false (fun h => hv h.2)
        rw [db]
        have HR2 := HRS.out
        rw [if_neg hv] at HR2
        have HR := Aside0.mk HR2
        have GI := GI5
        clear HR2 HRS hv hok db z0 z1 z2 GI2 GI5 RD5 BN5 HB25
        go_wp2_with (fail)
        refine GI.out.copy.mono ?_
        rintro e wc ⟨v0, v1, v2, n, rfl, hst, hgi, hk1, hk2, hS⟩
        obtain ⟨E0, f0, E1, f1, E2, f2, rfl, rfl, rfl⟩ := hst.slices
        have ST := Aside0.mk hst
        have GIc := Aside0.mk hgi
        have SS := Aside0.mk hS
        have K1 := Aside0.mk hk1
        have hacc := hgi.len
        clear hst hgi hS hk1 x0 x1 x2 GI
        go_wp2_with (first
         | ((with_reducible refine gate_builtin (b := .append) (xs := #[.tmp 42, .tmp 47]) rfl ?_); at_builtin; refine Kd.S_append kA (w0 := w) w.heap.size rfl (.tmp 42) (.tmp 47) 29 33 (.agg #[(.int .i64 0), (.slice none 0 0), (.slice none 0 0), (.slice none 0 0)]) 80 rfl Try.underlying29 info33 rfl (by decide) (by omega) u5 acc ⟨3, ⟨R, T, N⟩⟩ [.int .i64 3, .slice E0 R.length f0, .slice E1 T.length f1, .slice E2 N.length f2] (fun k => w.heap.size + 1 ≤ k ∧ ¬ G k) (Rng n wc.heap.size) rfl rfl ⟨_, _, _, rfl, ST.out⟩ (fun k hk => K1.out k hk.1) (fun k hk => (K1.out k (Nat.le_trans hk2 hk)).1) SS.out GIc.out.hB GIc.out.hB.size (by omega) ?_; intro xn wn hSn hbn hgn _; have GIn := Aside0.mk (GIc.out.app hSn hbn hgn); clear hSn hbn hgn GIc SS ST K1))
        go_roundw
        case measure => simp [intOf]; omega
        case rel => exact ⟨i + 1, G, _, _, _, _, T, _, _, N, acc ++ [⟨3, ⟨R, T, N⟩⟩], hlt, by go_num, ⟨by have h9 := HR.out; rw [List.append_assoc]; exact h9⟩, GIn⟩
      ·have hcf : canB R T j = false := by simpa using hc
       have HR2 := HR.out
       rw [if_neg hc] at HR2
       rw [hcf]
       clear HR
       have HR := Aside0.mk HR2
       have GI := GI2
       clear GI2 HR2 hc hcf
       go_wp2_with (fail)
       refine GI.out.copy.mono ?_
       rintro e wc ⟨v0, v1, v2, n, rfl, hst, hgi, hk1, hk2, hS⟩
       obtain ⟨E0, f0, E1, f1, E2, f2, rfl, rfl, rfl⟩ := hst.slices
       have ST := Aside0.mk hst
       have GIc := Aside0.mk hgi
       have SS := Aside0.mk hS
       have K1 := Aside0.mk hk1
       have hacc := hgi.len
       clear hst hgi hS hk1 x0 x1 x2 GI
       go_wp2_with (first
        | ((with_reducible refine gate_builtin (b := .append) (xs := #[.tmp 42, .tmp 47]) rfl ?_); at_builtin; refine Kd.S_append kA (w0 := w) w.heap.size rfl (.tmp 42) (.tmp 47) 29 33 (.agg #[(.int .i64 0), (.slice none 0 0), (.slice none 0 0), (.slice none 0 0)]) 80 rfl Try.underlying29 info33 rfl (by decide) (by omega) u5 acc ⟨2, ⟨R, T, N⟩⟩ [.int .i64 2, .slice E0 R.length f0, .slice E1 T.length f1, .slice E2 N.length f2] (fun k => w.heap.size + 1 ≤ k ∧ ¬ G k) (Rng n wc.heap.size) rfl rfl ⟨_, _, _, rfl, ST.out⟩ (fun k hk => K1.out k hk.1) (fun k hk => (K1.out k (Nat.le_trans hk2 hk)).1) SS.out GIc.out.hB GIc.out.hB.size (by omega) ?_; intro xn wn hSn hbn hgn _; have GIn := Aside0.mk (GIc.out.app hSn hbn hgn); clear hSn hbn hgn GIc SS ST K1))
       go_roundw
       case measure => simp [intOf]; omega
       case rel => exact ⟨i + 1, G, _, _, _, _, T, _, _, N, acc ++ [⟨2, ⟨R, T, N⟩⟩], hlt, by go_num, ⟨by have h9 := HR.out; rw [List.append_assoc]; exact h9⟩, GIn⟩
    ·have d22 : decide ((i : Int) < (qs.length : Int)) = false := decide_eq_false (by omega)
     have hie : i = qs.length := by omega
     subst hie
     go_wp2_with (fail)
     go_ret
     have hf := HRR.out
     rw [List.drop_length, gdF, List.append_nil] at hf
     rw [← hf]
     exact ⟨_, rfl, Kd.S_mono GI.out.hS (fun _ _ => trivial), GI.out.hB⟩
  ·have e : guardD R T N qs = [] := by unfold guardD; rw [if_neg (by omega), if_neg hq]
   rw [e]
   clear e
   have db : decide (okS R T N = 0 ∧ 0 ≤ val R T) = false := decide_eq_false hq
   go_enter Try.func17, Try.ntmps17
   go_wp2_with (fail)
   refine (safe_rd RD0.out hR hT hN).mono ?_
   rintro e w1 ⟨rfl, hb⟩
   rw [db]
   have HB1 := Aside0.mk (below_step HB0.out hb)
   clear hb BX0 RD0 HB0
   go_wp2_with (fail)
   go_ret
   exact ⟨_, rfl, Kd.S_nil _ _ _ _ _, HB1.out⟩
end Go.Proofs.Ytpbclogjoangfaa.Gd
