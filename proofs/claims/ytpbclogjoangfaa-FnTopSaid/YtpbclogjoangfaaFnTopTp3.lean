/- The law FnTop, walked: its calls by their contracts, its loops. (Printed by wip/tptgen3.py.) -/
import Derived.Test.YtpbclogjoangfaaFnTopTp2
import Derived.Test.YtpbclogjoangfaaFnTopGd1
import Derived.Test.YtpbclogjoangfaaFnTopGd2
import Derived.Test.YtpbclogjoangfaaFnTopGd3
namespace Go.Proofs.Ytpbclogjoangfaa.Tp
open Go.RowKit Go.Proofs.YtpbclogjoangfaaW.PrintWords Go.Proofs.YtpbclogjoangfaaW.PrintLast Go.Proofs.YtpbclogjoangfaaW.PrintMore Go.Proofs.Ytpbclogjoangfaa.Q Go.Proofs.Ytpbclogjoangfaa.Pu Go.Proofs.Ytpbclogjoangfaa.Mk Go.Proofs.Ytpbclogjoangfaa.Lw Go.Proofs.Ytpbclogjoangfaa.Gd Go.Proofs.Ytpbclogjoangfaa.St
set_option linter.unusedVariables false
set_option linter.unusedSimpArgs false
theorem AR_made {base : Nat} {W W2 : World} {ok : Nat → Prop} {v : Value} {l : List AT} (h : Kd.S kA 33 W2 W.heap.size ok v l) (hB : base ≤ W.heap.size) : Kd.S kA 33 W2 base (Rng W.heap.size W2.heap.size) v l :=
 Kd.S_lower (Kd.S_mono (Kd.S_bound h) (fun _ hk => ⟨hk.2.1, hk.2.2.1⟩)) hB
/-- An operation that is not wanted. -/
theorem nu_ {P : Program} {ops : Array Oper} {Q : Exit → Act → World → Prop} {S : World → Prop} {ds : List Nat} {fuel : Nat} {l : Array Bool} {a a' : Act} {w : World} (i N : Nat) {oi : Oper} (hi : ops[i]? = some oi) (hN : oi.dst = some N) (hc : anyB .any ops l (l.setIfInBounds i true) i = true) (hQ : ∀ c a w, Q (.panic c) (a.put oi.dst undef) w → Q (.panic c) a w)
  (hw : Region.wanted oi (yielded ops a.tmps) = false) (ha : a.put (some N) undef = a') (h : wpAnyLast P .any ops Q S ds fuel (l.setIfInBounds i true) a' w) : wpAnyLast P .any ops Q S ds (fuel + 1) l a w :=
 pure_ _ hi hN hc hQ (.inr ⟨hw, rfl⟩) ha h
set_option maxHeartbeats 8000000 in
set_option maxRecDepth 100000 in
theorem FnTop_calls (A0 : Option Addr) (c0 : Nat) (l0 : List Int) (A1 : Option Addr) (c1 : Nat) (l1 : List Int) (w : World) (hr0 : Kd.C (Kd.int .u8) w A0 l0.length l0) (hc0 : l0.length ≤ c0) (hr1 : Kd.C (Kd.int .u8) w A1 l1.length l1) (hc1 : l1.length ≤ c1) (hw0 : ∀ x ∈ l0, 0 ≤ x ∧ x ≤ 255) (hw1 : ∀ x ∈ l1, 0 ≤ x ∧ x ≤ 255) :
  Calls Try.prog 3 #[.slice A0 l0.length c0, .slice A1 l1.length c1] w fun e w' => e = .returned (.bool true) ∧ Below w.heap.size w w' := by
 have hu26 := Try.underlying26
 have hu33 := Try.underlying33
 obtain ⟨R, T, N, hst, ⟨_, hR, _⟩, hT, hN⟩ := States_tells hw0
 obtain ⟨qs, has⟩ := Asks_tells hw1 R T N hN
 obtain ⟨kst, hst0⟩ := hst.rounds
 obtain ⟨kas, has0⟩ := has.rounds
 have HST := Aside0.mk hst0
 have HAS := Aside0.mk has0
 have HR0 := Aside0.mk hr0
 have HC0 := Aside0.mk hc0
 have HR1 := Aside0.mk hr1
 have HC1 := Aside0.mk hc1
 have HB := Aside0.mk (Below.refl w.heap.size w)
 have hR : R.length ≤ 1048576 := by omega
 have hT : T.length ≤ 1048576 := by omega
 have hN : N.length ≤ 1048576 := by omega
 obtain ⟨hg1, _⟩ := guardD_right (R := R) (T := T) (N := N) (qs := qs)
 generalize hgd : guardD R T N qs = G at *
 have HGD := Aside0.mk hgd
 clear hr0 hr1 hc0 hc1 hst hst0 has has0 hw0 hw1 hgd
 by_cases hlen : (l0.length : Int) > 1048576
 ·have hd : decide ((l0.length : Int) > 1048576) = true := decide_eq_true hlen
  go_enter Try.func3, Try.ntmps3
  go_wp2_with (fail)
  go_ret
  exact ⟨rfl, HB.out⟩
 have hd : decide ((l0.length : Int) > 1048576) = false := decide_eq_false hlen
 by_cases hlen1 : (l1.length : Int) > 1048576
 ·have hd1 : decide ((l1.length : Int) > 1048576) = true := decide_eq_true hlen1
  go_enter Try.func3, Try.ntmps3
  go_wp2_with (fail)
  go_ret
  exact ⟨rfl, HB.out⟩
 have hd1 : decide ((l1.length : Int) > 1048576) = false := decide_eq_false hlen1
 clear hlen hlen1
 go_enter Try.func3, Try.ntmps3
 go_wp2_with (fail)
 refine (spec_States.calls kst _ _ l0 R T N _ (Kd.C_below HR0.out HB.out) HC0.out HST.out).mono ?_
 rintro e w1 ⟨vSX0, vSX1, vSX2, rfl, q0, q1, q2, hb⟩
 have SX_ := Aside0.mk (St.made (base := w.heap.size) q0 q1 q2 (fun k h => h) (fun k h => h) (fun k h => h) HB.out.size)
 have nB_ := Aside0.mk (below_step HB.out hb)
 have hs0 : (w).heap.size ≤ (w1).heap.size := hb.size
 clear HB
 have HB := nB_
 clear nB_
 have SX := SX_
 clear SX_ q0 q1 q2 hb
 obtain ⟨ASX0, cSX0, ASX1, cSX1, ASX2, cSX2, e0, e1, e2⟩ := SX.out.slices
 subst e0 e1 e2
 have hbA := (Below.refl (w1).heap.size w1).alloc (Nat.le_refl _) (.cells #[.slice ASX0 R.length cSX0, .slice ASX1 T.length cSX1, .slice ASX2 N.length cSX2] 26)
 have BX_ := Aside0.mk (heap_alloc_new w1 (.cells #[.slice ASX0 R.length cSX0, .slice ASX1 T.length cSX1, .slice ASX2 N.length cSX2] 26))
 have hsBX : (w1).heap.size < ((w1).alloc (.cells #[.slice ASX0 R.length cSX0, .slice ASX1 T.length cSX1, .slice ASX2 N.length cSX2] 26)).heap.size := by simp
 have nB_ := Aside0.mk (below_step HB.out hbA)
 have nSX := Aside0.mk (SX.out.below hbA)
 have hs1 : (w1).heap.size ≤ ((w1.alloc (.cells #[.slice ASX0 R.length cSX0, .slice ASX1 T.length cSX1, .slice ASX2 N.length cSX2] 26))).heap.size := hbA.size
 clear HB SX
 have HB := nB_
 have SX := nSX
 clear nB_ nSX
 have BX := BX_
 clear BX_ hbA
 go_wp2_with (fail)
 refine (spec_States.calls kst _ _ l0 R T N _ (Kd.C_below HR0.out HB.out) HC0.out HST.out).mono ?_
 rintro e w2 ⟨vSY0, vSY1, vSY2, rfl, q0, q1, q2, hb⟩
 have SY_ := Aside0.mk (St.made (base := w.heap.size) q0 q1 q2 (fun k h => h) (fun k h => h) (fun k h => h) HB.out.size)
 have nB_ := Aside0.mk (below_step HB.out hb)
 have nSX := Aside0.mk (SX.out.below hb)
 have nBX := Aside0.mk (blk_below BX.out hb)
 have hs2 : ((w1.alloc (.cells #[.slice ASX0 R.length cSX0, .slice ASX1 T.length cSX1, .slice ASX2 N.length cSX2] 26))).heap.size ≤ (w2).heap.size := hb.size
 clear HB SX BX
 have HB := nB_
 have SX := nSX
 have BX := nBX
 clear nB_ nSX nBX
 have SY := SY_
 clear SY_ q0 q1 q2 hb
 obtain ⟨ASY0, cSY0, ASY1, cSY1, ASY2, cSY2, e0, e1, e2⟩ := SY.out.slices
 subst e0 e1 e2
 have hbA := (Below.refl (w2).heap.size w2).alloc (Nat.le_refl _) (.cells #[.slice ASY0 R.length cSY0, .slice ASY1 T.length cSY1, .slice ASY2 N.length cSY2] 26)
 have BY_ := Aside0.mk (heap_alloc_new w2 (.cells #[.slice ASY0 R.length cSY0, .slice ASY1 T.length cSY1, .slice ASY2 N.length cSY2] 26))
 have hsBY : (w2).heap.size < ((w2).alloc (.cells #[.slice ASY0 R.length cSY0, .slice ASY1 T.length cSY1, .slice ASY2 N.length cSY2] 26)).heap.size := by simp
 have nB_ := Aside0.mk (below_step HB.out hbA)
 have nSX := Aside0.mk (SX.out.below hbA)
 have nBX := Aside0.mk (blk_below BX.out hbA)
 have nSY := Aside0.mk (SY.out.below hbA)
 have hs3 : (w2).heap.size ≤ ((w2.alloc (.cells #[.slice ASY0 R.length cSY0, .slice ASY1 T.length cSY1, .slice ASY2 N.length cSY2] 26))).heap.size := hbA.size
 clear HB SX BX SY
 have HB := nB_
 have SX := nSX
 have BX := nBX
 have SY := nSY
 clear nB_ nSX nBX nSY
 have BY := BY_
 clear BY_ hbA
 have xBX_0 : ((w2.alloc (.cells #[.slice ASY0 R.length cSY0, .slice ASY1 T.length cSY1, .slice ASY2 N.length cSY2] 26))).cell? ⟨w1.heap.size, 0, none⟩ = some (.slice ASX0 R.length cSX0) := (blk_cell BX.out 0).trans rfl
 have xBX_1 : ((w2.alloc (.cells #[.slice ASY0 R.length cSY0, .slice ASY1 T.length cSY1, .slice ASY2 N.length cSY2] 26))).cell? ⟨w1.heap.size, 1, none⟩ = some (.slice ASX1 T.length cSX1) := (blk_cell BX.out 1).trans rfl
 have xBX_2 : ((w2.alloc (.cells #[.slice ASY0 R.length cSY0, .slice ASY1 T.length cSY1, .slice ASY2 N.length cSY2] 26))).cell? ⟨w1.heap.size, 2, none⟩ = some (.slice ASX2 N.length cSX2) := (blk_cell BX.out 2).trans rfl
 go_wp2_with (fail)
 refine (spec_Asks.calls kas _ _ R _ _ T _ _ N _ _ l1 qs _ (Kd.R_reads' SX.out.r0).2.2 (Kd.R_reads' SX.out.r0).2.1 (Kd.S_reads' SX.out.s1).2.2 (Kd.S_reads' SX.out.s1).2.1 (Kd.R_reads' SX.out.r2).2.2 (Kd.R_reads' SX.out.r2).2.1 (Kd.C_below HR1.out HB.out) HC1.out HAS.out).mono ?_
 rintro e w3 ⟨vIQ, rfl, q0, hb⟩
 have IQ_ := Aside0.mk (IR.made (base := w.heap.size) q0 HB.out.size)
 have nB_ := Aside0.mk (below_step HB.out hb)
 have nSX := Aside0.mk (SX.out.below hb)
 have nBX := Aside0.mk (blk_below BX.out hb)
 have nSY := Aside0.mk (SY.out.below hb)
 have nBY := Aside0.mk (blk_below BY.out hb)
 have hs4 : ((w2.alloc (.cells #[.slice ASY0 R.length cSY0, .slice ASY1 T.length cSY1, .slice ASY2 N.length cSY2] 26))).heap.size ≤ (w3).heap.size := hb.size
 clear HB SX BX SY BY
 have HB := nB_
 have SX := nSX
 have BX := nBX
 have SY := nSY
 have BY := nBY
 clear nB_ nSX nBX nSY nBY
 have IQ := IQ_
 clear IQ_ q0 hb
 obtain ⟨AIQ, cIQ, e0⟩ := IQ.out.slice
 subst e0
 clear xBX_0 xBX_1 xBX_2
 have xBY_0 : (w3).cell? ⟨w2.heap.size, 0, none⟩ = some (.slice ASY0 R.length cSY0) := (blk_cell BY.out 0).trans rfl
 have xBY_1 : (w3).cell? ⟨w2.heap.size, 1, none⟩ = some (.slice ASY1 T.length cSY1) := (blk_cell BY.out 1).trans rfl
 have xBY_2 : (w3).cell? ⟨w2.heap.size, 2, none⟩ = some (.slice ASY2 N.length cSY2) := (blk_cell BY.out 2).trans rfl
 go_wp2_with (fail)
 refine (specGuard_calls qs _ (Kd.R_reads' SY.out.r0).2.2 (Kd.R_reads' SY.out.r0).2.1 (Kd.S_reads' SY.out.s1).2.2 (Kd.S_reads' SY.out.s1).2.1 (Kd.R_reads' SY.out.r2).2.2 (Kd.R_reads' SY.out.r2).2.1 (Kd.R_reads' IQ.out).2.2 (Kd.R_reads' IQ.out).2.1 hR hT hN).mono ?_
 rintro e w4 ⟨vSW, rfl, q0, hb⟩
 rw [HGD.out] at q0
 have SW_ := Aside0.mk (AR_made (base := w.heap.size) q0 HB.out.size)
 have nB_ := Aside0.mk (below_step HB.out hb)
 have nSX := Aside0.mk (SX.out.below hb)
 have nBX := Aside0.mk (blk_below BX.out hb)
 have nSY := Aside0.mk (SY.out.below hb)
 have nBY := Aside0.mk (blk_below BY.out hb)
 have nIQ := Aside0.mk (IQ.out.below hb)
 have hs5 : (w3).heap.size ≤ (w4).heap.size := hb.size
 clear HB SX BX SY BY IQ
 have HB := nB_
 have SX := nSX
 have BX := nBX
 have SY := nSY
 have BY := nBY
 have IQ := nIQ
 clear nB_ nSX nBX nSY nBY nIQ
 have SW := SW_
 clear SW_ q0 hb
 obtain ⟨ASW, cSW, e0⟩ := Kd.S_slice SW.out
 subst e0
 clear xBY_0 xBY_1 xBY_2
 have xBX_0 : (w4).cell? ⟨w1.heap.size, 0, none⟩ = some (.slice ASX0 R.length cSX0) := (blk_cell BX.out 0).trans rfl
 have xBX_1 : (w4).cell? ⟨w1.heap.size, 1, none⟩ = some (.slice ASX1 T.length cSX1) := (blk_cell BX.out 1).trans rfl
 have xBX_2 : (w4).cell? ⟨w1.heap.size, 2, none⟩ = some (.slice ASX2 N.length cSX2) := (blk_cell BX.out 2).trans rfl
 go_wp2_with (fail)
 refine (implGuard_calls qs _ (Kd.R_reads' SX.out.r0).2.2 (Kd.R_reads' SX.out.r0).2.1 (Kd.S_reads' SX.out.s1).2.2 (Kd.S_reads' SX.out.s1).2.1 (Kd.R_reads' SX.out.r2).2.2 (Kd.R_reads' SX.out.r2).2.1 (Kd.R_reads' IQ.out).2.2 (Kd.R_reads' IQ.out).2.1 hR hT hN).mono ?_
 rintro e w5 ⟨vSG, rfl, q0, hb⟩
 rw [HGD.out] at q0
 have SG_ := Aside0.mk (AR_made (base := w.heap.size) q0 HB.out.size)
 have nB_ := Aside0.mk (below_step HB.out hb)
 have nSX := Aside0.mk (SX.out.below hb)
 have nBX := Aside0.mk (blk_below BX.out hb)
 have nSY := Aside0.mk (SY.out.below hb)
 have nBY := Aside0.mk (blk_below BY.out hb)
 have nIQ := Aside0.mk (IQ.out.below hb)
 have nSW := Aside0.mk (Kd.S_below SW.out hb)
 have hs6 : (w4).heap.size ≤ (w5).heap.size := hb.size
 clear HB SX BX SY BY IQ SW
 have HB := nB_
 have SX := nSX
 have BX := nBX
 have SY := nSY
 have BY := nBY
 have IQ := nIQ
 have SW := nSW
 clear nB_ nSX nBX nSY nBY nIQ nSW
 have SG := SG_
 clear SG_ q0 hb
 obtain ⟨ASG, cSG, e0⟩ := Kd.S_slice SG.out
 subst e0
 clear xBX_0 xBX_1 xBX_2
 have xBX_0 : (w5).cell? ⟨w1.heap.size, 0, none⟩ = some (.slice ASX0 R.length cSX0) := (blk_cell BX.out 0).trans rfl
 have xBX_1 : (w5).cell? ⟨w1.heap.size, 1, none⟩ = some (.slice ASX1 T.length cSX1) := (blk_cell BX.out 1).trans rfl
 have xBX_2 : (w5).cell? ⟨w1.heap.size, 2, none⟩ = some (.slice ASX2 N.length cSX2) := (blk_cell BX.out 2).trans rfl
 have xBY_0 : (w5).cell? ⟨w2.heap.size, 0, none⟩ = some (.slice ASY0 R.length cSY0) := (blk_cell BY.out 0).trans rfl
 have xBY_1 : (w5).cell? ⟨w2.heap.size, 1, none⟩ = some (.slice ASY1 T.length cSY1) := (blk_cell BY.out 1).trans rfl
 have xBY_2 : (w5).cell? ⟨w2.heap.size, 2, none⟩ = some (.slice ASY2 N.length cSY2) := (blk_cell BY.out 2).trans rfl
 go_wp2_with (fail)
 refine (wState_rc (St.rc SX.out) (St.rc SY.out)).mono ?_
 rintro e w6 ⟨rfl, hb⟩
 clear xBX_0 xBX_1 xBX_2
 clear xBY_0 xBY_1 xBY_2
 clear SY
 clear BY
 have nB_ := Aside0.mk (below_step HB.out hb)
 have nSX := Aside0.mk (SX.out.below hb)
 have nBX := Aside0.mk (blk_below BX.out hb)
 have nIQ := Aside0.mk (IQ.out.below hb)
 have nSW := Aside0.mk (Kd.S_below SW.out hb)
 have nSG := Aside0.mk (Kd.S_below SG.out hb)
 have hs7 : (w5).heap.size ≤ (w6).heap.size := hb.size
 clear HB SX BX IQ SW SG
 have HB := nB_
 have SX := nSX
 have BX := nBX
 have IQ := nIQ
 have SW := nSW
 have SG := nSG
 clear nB_ nSX nBX nIQ nSW nSG
 clear hb
 go_wp2_with (fail)
 go_loopw [51] (fun x51 wr => ∃ i : Nat, i ≤ G.length ∧ x51 = .int .i64 i ∧ Aside0 (Below w6.heap.size w6 wr)) (fun x51 _ => G.length - (intOf x51).toNat)
 case atStart => exact ⟨0, Nat.zero_le _, rfl, ⟨Below.refl _ _⟩⟩
 case round =>
  obtain ⟨i, hi, rfl, HL⟩ := hrel
  by_cases hlt : i < G.length
  ·have d52 : decide ((i : Int) < (G.length : Int)) = true := decide_eq_true (by omega)
   have p10 : (0 : Int) ≤ (i : Int) := by omega
   have q10 : (i : Int) < (G.length : Int) := by omega
   obtain ⟨gg, E0, f0, E1, f1, E2, f2, hA, a0, a1, a2, a3, RA⟩ := sa_cells (Kd.S_below SG.out HL.out) i hlt
   obtain ⟨gw, D0, d0, D1, d1, D2, d2, hB, b0, b1, b2, b3, RB⟩ := sa_cells (Kd.S_below SW.out HL.out) i hlt
   subst hA hB
   generalize hx : G.getD i zA = x at a0 a1 a2 a3 b0 b1 b2 b3 RA RB
   clear hx
   go_wp2_with (fail)
   have y0 : wr.drew.cell? ⟨gg, i * 4, none⟩ = some (.int .i64 x.f0) := a0
   have y1 : wr.drew.cell? ⟨gg, i * 4 + 1, none⟩ = some (.slice E0 x.f1.f0.length f0) := a1
   have y2 : wr.drew.cell? ⟨gg, i * 4 + 2, none⟩ = some (.slice E1 x.f1.f1.length f1) := a2
   have y3 : wr.drew.cell? ⟨gg, i * 4 + 3, none⟩ = some (.slice E2 x.f1.f2.length f2) := a3
   have y4 : wr.drew.cell? ⟨gw, i * 4, none⟩ = some (.int .i64 x.f0) := b0
   have y5 : wr.drew.cell? ⟨gw, i * 4 + 1, none⟩ = some (.slice D0 x.f1.f0.length d0) := b1
   have y6 : wr.drew.cell? ⟨gw, i * 4 + 2, none⟩ = some (.slice D1 x.f1.f1.length d1) := b2
   have y7 : wr.drew.cell? ⟨gw, i * 4 + 3, none⟩ = some (.slice D2 x.f1.f2.length d2) := b3
   have hbd := below_drew (Below.refl wr.heap.size wr)
   have RA := Aside0.mk (Rc.below RA hbd)
   have RB := Aside0.mk (Rc.below RB hbd)
   clear a0 a1 a2 a3 b0 b1 b2 b3
   go_region_held3 (fun w' => w'.cell? ⟨gg, i * 4, none⟩ = some (.int .i64 x.f0) ∧ w'.cell? ⟨gg, i * 4 + 1, none⟩ = some (.slice E0 x.f1.f0.length f0) ∧ w'.cell? ⟨gg, i * 4 + 2, none⟩ = some (.slice E1 x.f1.f1.length f1) ∧ w'.cell? ⟨gg, i * 4 + 3, none⟩ = some (.slice E2 x.f1.f2.length f2) ∧ w'.cell? ⟨gw, i * 4, none⟩ = some (.int .i64 x.f0) ∧ w'.cell? ⟨gw, i * 4 + 1, none⟩ = some (.slice D0 x.f1.f0.length d0) ∧ w'.cell? ⟨gw, i * 4 + 2, none⟩ = some (.slice D1 x.f1.f1.length d1) ∧ w'.cell? ⟨gw, i * 4 + 3, none⟩ = some (.slice D2 x.f1.f2.length d2)) (first | exact ⟨y0, y1, y2, y3, y4, y5, y6, y7⟩ | exact ⟨(hbw.cell (World.block_lt_of_cell? _ _ y0)).trans y0, (hbw.cell (World.block_lt_of_cell? _ _ y1)).trans y1, (hbw.cell (World.block_lt_of_cell? _ _ y2)).trans y2, (hbw.cell (World.block_lt_of_cell? _ _ y3)).trans y3, (hbw.cell (World.block_lt_of_cell? _ _ y4)).trans y4, (hbw.cell (World.block_lt_of_cell? _ _ y5)).trans y5, (hbw.cell (World.block_lt_of_cell? _ _ y6)).trans y6, (hbw.cell (World.block_lt_of_cell? _ _ y7)).trans y7⟩) (first | (go_at_call 18; refine (wState_rc RA.out RB.out).mono ?_; rintro e w9 ⟨rfl, hbw⟩))
   have HL2 := Aside0.mk (below_step HL.out (below_step hbd hbw))
   clear y0 y1 y2 y3 y4 y5 y6 y7 RA RB hbd hbw
   go_wp2_with (fail)
   go_roundw
   case measure => simp [intOf]; omega
   case rel => exact ⟨i + 1, hlt, by go_num, HL2⟩
  ·have d52 : decide ((i : Int) < (G.length : Int)) = false := decide_eq_false (by omega)
   have hB_ := Aside0.mk (below_step HB.out HL.out)
   have nSX := Aside0.mk (SX.out.below HL.out)
   have nBX := Aside0.mk (blk_below BX.out HL.out)
   have nIQ := Aside0.mk (IQ.out.below HL.out)
   have nSW := Aside0.mk (Kd.S_below SW.out HL.out)
   have nSG := Aside0.mk (Kd.S_below SG.out HL.out)
   have hsL : (w6).heap.size ≤ (wr).heap.size := HL.out.size
   clear HB SX BX IQ SW SG
   have HB := hB_
   have SX := nSX
   have BX := nBX
   have IQ := nIQ
   have SW := nSW
   have SG := nSG
   clear hB_ nSX nBX nIQ nSW nSG
   go_wp2_with (fail)
   go_loopw [82] (fun x82 wq => ∃ i : Nat, i ≤ G.length ∧ x82 = .int .i64 i ∧ Aside0 (∀ g, ASG = some ⟨g, 0, none⟩ → ∃ xs, Wr w wr wq (Rng w4.heap.size w5.heap.size) g cSG G i xs) ∧ Aside0 (Below w.heap.size w wq) ∧ Aside0 (Kept wr wq (Rng w4.heap.size w5.heap.size))) (fun x82 _ => G.length - (intOf x82).toNat)
   case atStart => exact ⟨0, Nat.zero_le _, rfl, ⟨fun g e => ⟨G, Sh.refl G, by rw [← e]; exact SG.out, HB.out, Kept.refl _ _⟩⟩, HB, ⟨Kept.refl _ _⟩⟩
   case round =>
    rename World => wq
    clear hi hlt d52 HL
    obtain ⟨i, hi, rfl, HX, HBq, HK⟩ := hrel
    by_cases hlt : i < G.length
    ·have d83 : decide ((i : Int) < (G.length : Int)) = true := decide_eq_true (by omega)
     have p11 : (0 : Int) ≤ (i : Int) := by omega
     have q11 : (i : Int) < (G.length : Int) := by omega
     obtain ⟨gg, _, _, _, _, _, _, hA, _⟩ := sa_cells SG.out i hlt
     subst hA
     obtain ⟨xs, hW0⟩ := HX.out gg rfl
     have HW := Aside0.mk (hW0.le (Nat.le_succ i))
     obtain ⟨E0, f0, E1, f1, r1, r2, hRl, hTl⟩ := hW0.row i hlt
     obtain ⟨TL, hTL⟩ : ∃ n, n = (G.getD i zA).f1.f1.length := ⟨_, rfl⟩
     obtain ⟨RL, hRL⟩ : ∃ n, n = (G.getD i zA).f1.f0.length := ⟨_, rfl⟩
     rw [← hTL] at r2 hTl
     rw [← hRL] at hRl
     have HTL := Aside0.mk hTL
     have HRL := Aside0.mk hRL
     clear hW0 HX r1 hTL hRL
     go_wp2_with (fail)
     go_loopw [92] (fun x92 wt => ∃ (k : Nat) (ys : List AT), k ≤ TL ∧ x92 = .int .i64 k ∧ Aside0 (Wr w wr wt (Rng w4.heap.size w5.heap.size) gg cSG G (i + 1) ys)) (fun x92 _ => TL - (intOf x92).toNat)
     case atStart => exact ⟨0, _, Nat.zero_le _, rfl, HW⟩
     case round =>
      rename World => wt
      clear r2 HW
      obtain ⟨k, xk, hk, rfl, HWk⟩ := hrel
      by_cases hkl : k < TL
      ·have d93 : decide ((k : Int) < (TL : Int)) = true := decide_eq_true (by omega)
       have p12 : (0 : Int) ≤ (k : Int) := by omega
       have q12 : (k : Int) < (TL : Int) := by omega
       have HKL := Aside0.mk (show k < (G.getD i zA).f1.f1.length by rw [← HTL.out]; exact hkl)
       obtain ⟨g1, f1', E, f, s1, s2, hPl⟩ := HWk.out.row2 i k hlt HKL.out
       obtain ⟨PL, hPL⟩ : ∃ n, n = ((G.getD i zA).f1.f1.getD k z35).f1.length := ⟨_, rfl⟩
       rw [← HTL.out] at s1
       rw [← hPL] at s2 hPl
       have HPL := Aside0.mk hPL
       clear hPL
       go_wp2_with (fail)
       go_loopw [106] (fun x106 wp => ∃ (x : Nat) (ys : List AT), x ≤ PL ∧ x106 = .int .i64 x ∧ Aside0 (Wr w wr wp (Rng w4.heap.size w5.heap.size) gg cSG G (i + 1) ys)) (fun x106 _ => PL - (intOf x106).toNat)
       case atStart => exact ⟨0, _, Nat.zero_le _, rfl, HWk⟩
       case round =>
        rename World => wp
        clear s1 s2 HWk
        obtain ⟨x, yx, hxl, rfl, HWx⟩ := hrel
        by_cases hxx : x < PL
        ·have d107 : decide ((x : Int) < (PL : Int)) = true := decide_eq_true (by omega)
         have p13 : (0 : Int) ≤ (x : Int) := by omega
         have q13 : (x : Int) < (PL : Int) := by omega
         obtain ⟨g1, f1', gp, f, z, u0, u1, u2, u3, zs, hZ⟩ := HWx.out.path i k x (Nat.lt_succ_self i) hlt HKL.out (by rw [← HPL.out]; exact hxx)
         rw [← HTL.out] at u0
         rw [← HPL.out] at u1
         have HZ := Aside0.mk hZ
         clear hZ HWx
         go_wp2_with (fail)
         go_roundw
         case measure => simp [intOf]; omega
         case rel => exact ⟨x + 1, _, hxx, by go_num, HZ⟩
        ·have d107 : decide ((x : Int) < (PL : Int)) = false := decide_eq_false (by omega)
         obtain ⟨g1, f1', z, u0, u1, u2, zs, hZ⟩ := HWx.out.at_ i k (Nat.lt_succ_self i) hlt HKL.out
         rw [← HTL.out] at u0
         have HZ := Aside0.mk hZ
         clear hZ HWx
         go_wp2_with (fail)
         go_roundw
         case measure => simp [intOf]; omega
         case rel => exact ⟨k + 1, _, hkl, by go_num, HZ⟩
      ·have d93 : decide ((k : Int) < (TL : Int)) = false := decide_eq_false (by omega)
       obtain ⟨E0, f0, E1, f1, v1, v2, _, _⟩ := HWk.out.row i hlt
       rw [← HRL.out] at v1
       clear v2
       go_wp2_with (fail)
       go_loopw [139] (fun x139 wv => ∃ (x : Nat) (ys : List AT), x ≤ RL ∧ x139 = .int .i64 x ∧ Aside0 (Wr w wr wv (Rng w4.heap.size w5.heap.size) gg cSG G (i + 1) ys)) (fun x139 _ => RL - (intOf x139).toNat)
       case atStart => exact ⟨0, _, Nat.zero_le _, rfl, HWk⟩
       case round =>
        rename World => wv
        clear v1 HWk
        obtain ⟨x, yx, hxl, rfl, HWx⟩ := hrel
        by_cases hxx : x < RL
        ·have d140 : decide ((x : Int) < (RL : Int)) = true := decide_eq_true (by omega)
         have p14 : (0 : Int) ≤ (x : Int) := by omega
         have q14 : (x : Int) < (RL : Int) := by omega
         obtain ⟨gr, f, z, u0, u1, u2, zs, hZ⟩ := HWx.out.room i x (Nat.lt_succ_self i) hlt (by rw [← HRL.out]; exact hxx)
         rw [← HRL.out] at u0
         have HZ := Aside0.mk hZ
         clear hZ HWx
         go_wp2_with (fail)
         go_roundw
         case measure => simp [intOf]; omega
         case rel => exact ⟨x + 1, _, hxx, by go_num, HZ⟩
        ·have d140 : decide ((x : Int) < (RL : Int)) = false := decide_eq_false (by omega)
         obtain ⟨m, hm⟩ : ∃ m, m = i + 1 := ⟨_, rfl⟩
         have HM := Aside0.mk hm
         have hWm := HWx.out
         rw [← hm] at hWm
         by_cases hml : m < G.length
         ·have d155 : decide ((m : Int) < (G.length : Int)) = true := decide_eq_true (by omega)
          have p15 : (0 : Int) ≤ (m : Int) := by omega
          have q15 : (m : Int) < (G.length : Int) := by omega
          obtain ⟨E0, f0, E1, f1, E2, f2, a0, a1, a2, a3, RA⟩ := hWm.cells m (Nat.le_refl m) hml
          obtain ⟨gw, D0, d0, D1, d1, D2, d2, hB, b0, b1, b2, b3, RB⟩ := sa_cells (Kd.S_kept SW.out hWm.k (fun k hk => rng_apart (by omega) k hk)) m hml
          subst hB
          generalize hx : G.getD m zA = x_ at a0 a1 a2 a3 b0 b1 b2 b3 RA RB
          clear hx hm
          have HWm := Aside0.mk hWm
          clear hWm
          have hwm : wrap64 ((i : Int) + 1) = (m : Int) := by rw [HM.out]; exact wsucc (n := 500) (Nat.lt_of_lt_of_le hlt hg1) (by decide)
          have hwm2 : IntKind.i64.wrap ((i : Int) + 1) = (m : Int) := by rw [i64_w]; exact hwm
          go_wp2_with (fail)
          have y0 : wv.drew.cell? ⟨gg, m * 4, none⟩ = some (.int .i64 x_.f0) := a0
          have y1 : wv.drew.cell? ⟨gg, m * 4 + 1, none⟩ = some (.slice E0 x_.f1.f0.length f0) := a1
          have y2 : wv.drew.cell? ⟨gg, m * 4 + 2, none⟩ = some (.slice E1 x_.f1.f1.length f1) := a2
          have y3 : wv.drew.cell? ⟨gg, m * 4 + 3, none⟩ = some (.slice E2 x_.f1.f2.length f2) := a3
          have y4 : wv.drew.cell? ⟨gw, m * 4, none⟩ = some (.int .i64 x_.f0) := b0
          have y5 : wv.drew.cell? ⟨gw, m * 4 + 1, none⟩ = some (.slice D0 x_.f1.f0.length d0) := b1
          have y6 : wv.drew.cell? ⟨gw, m * 4 + 2, none⟩ = some (.slice D1 x_.f1.f1.length d1) := b2
          have y7 : wv.drew.cell? ⟨gw, m * 4 + 3, none⟩ = some (.slice D2 x_.f1.f2.length d2) := b3
          have hbd := below_drew (Below.refl wv.heap.size wv)
          have RA := Aside0.mk (Rc.below RA hbd)
          have RB := Aside0.mk (Rc.below RB hbd)
          clear a0 a1 a2 a3 b0 b1 b2 b3
          go_region_held3 (fun w' => w'.cell? ⟨gg, m * 4, none⟩ = some (.int .i64 x_.f0) ∧ w'.cell? ⟨gg, m * 4 + 1, none⟩ = some (.slice E0 x_.f1.f0.length f0) ∧ w'.cell? ⟨gg, m * 4 + 2, none⟩ = some (.slice E1 x_.f1.f1.length f1) ∧ w'.cell? ⟨gg, m * 4 + 3, none⟩ = some (.slice E2 x_.f1.f2.length f2) ∧ w'.cell? ⟨gw, m * 4, none⟩ = some (.int .i64 x_.f0) ∧ w'.cell? ⟨gw, m * 4 + 1, none⟩ = some (.slice D0 x_.f1.f0.length d0) ∧ w'.cell? ⟨gw, m * 4 + 2, none⟩ = some (.slice D1 x_.f1.f1.length d1) ∧ w'.cell? ⟨gw, m * 4 + 3, none⟩ = some (.slice D2 x_.f1.f2.length d2)) (first | exact ⟨y0, y1, y2, y3, y4, y5, y6, y7⟩ | exact ⟨(hbw.cell (World.block_lt_of_cell? _ _ y0)).trans y0, (hbw.cell (World.block_lt_of_cell? _ _ y1)).trans y1, (hbw.cell (World.block_lt_of_cell? _ _ y2)).trans y2, (hbw.cell (World.block_lt_of_cell? _ _ y3)).trans y3, (hbw.cell (World.block_lt_of_cell? _ _ y4)).trans y4, (hbw.cell (World.block_lt_of_cell? _ _ y5)).trans y5, (hbw.cell (World.block_lt_of_cell? _ _ y6)).trans y6, (hbw.cell (World.block_lt_of_cell? _ _ y7)).trans y7⟩) (first | (go_at_call 18; refine (wState_rc RA.out RB.out).mono ?_; rintro e w9 ⟨rfl, hbw⟩))
          clear hwm hwm2
          have HW2 := Aside0.mk (HWm.out.below (below_step hbd hbw))
          clear y0 y1 y2 y3 y4 y5 y6 y7 RA RB hbd hbw
          go_wp2_with (fail)
          go_roundw
          case measure => simp [intOf]; omega
          case rel => exact ⟨i + 1, hlt, by go_num, ⟨fun g e => by injection e with e; injection e with e; subst e; have h := HW2.out; rw [HM.out] at h; exact ⟨_, h⟩⟩, ⟨HW2.out.b⟩, ⟨HW2.out.k⟩⟩
         ·have d155 : decide ((m : Int) < (G.length : Int)) = false := decide_eq_false (by omega)
          have HWm := Aside0.mk hWm
          clear hWm hm
          have hbd := below_drew (Below.refl wv.heap.size wv)
          have HW2 := Aside0.mk (HWm.out.below hbd)
          clear hbd
          have hwm : wrap64 ((i : Int) + 1) = (m : Int) := by rw [HM.out]; exact wsucc (n := 500) (Nat.lt_of_lt_of_le hlt hg1) (by decide)
          have hwm2 : IntKind.i64.wrap ((i : Int) + 1) = (m : Int) := by rw [i64_w]; exact hwm
          go_wp2_with (fail)
          refine start_ (n := 21) (S := fun _ => True) (ds := []) (Array.replicate 21 false) (by kernel_rfl) rfl rfl trivial (fun hS => ?_)
          refine spec_l1copy.np_ 0 151 rfl rfl (by kernel_rfl) (fun _ _ _ h => h) (by rfl) (fun w' => by go_simp; with_reducible rfl) (by simp only [spec_l1copy.AP_, i64_w]; rfl) ?_
          refine spec_l1copy.np_ (v := .int .i64 (m : Int)) 1 152 rfl rfl (by kernel_rfl) (fun _ _ _ h => h) (by rfl) (fun w' => by go_simp) (by simp only [spec_l1copy.AP_, i64_w]; rfl) ?_
          refine spec_l1copy.np_ 2 153 rfl rfl (by kernel_rfl) (fun _ _ _ h => h) (by rfl) (fun w' => by go_simp; with_reducible rfl) (by simp only [spec_l1copy.AP_, i64_w]; rfl) ?_
          refine spec_l1copy.np_ 3 154 rfl rfl (by kernel_rfl) (fun _ _ _ h => h) (by rfl) (fun w' => by go_simp; with_reducible rfl) (by simp only [spec_l1copy.AP_, i64_w]; rfl) ?_
          refine spec_l1copy.np_ (v := .bool false) 4 155 rfl rfl (by kernel_rfl) (fun _ _ _ h => h) (by rfl) (fun w' => by go_simp) (by simp only [spec_l1copy.AP_, i64_w]; rfl) ?_
          refine spec_l1copy.np_ 5 156 rfl rfl (by kernel_rfl) (fun _ _ _ h => h) (by rfl) (fun w' => by go_simp; with_reducible rfl) (by simp only [spec_l1copy.AP_, i64_w]; rfl) ?_
          refine nu_ 6 157 rfl rfl (by kernel_rfl) (fun _ _ _ h => h) (by rfl) (by simp only [spec_l1copy.AP_, i64_w]; rfl) ?_
          refine nu_ 7 158 rfl rfl (by kernel_rfl) (fun _ _ _ h => h) (by rfl) (by simp only [spec_l1copy.AP_, i64_w]; rfl) ?_
          refine nu_ 8 159 rfl rfl (by kernel_rfl) (fun _ _ _ h => h) (by rfl) (by simp only [spec_l1copy.AP_, i64_w]; rfl) ?_
          refine nu_ 9 160 rfl rfl (by kernel_rfl) (fun _ _ _ h => h) (by rfl) (by simp only [spec_l1copy.AP_, i64_w]; rfl) ?_
          refine nu_ 10 161 rfl rfl (by kernel_rfl) (fun _ _ _ h => h) (by rfl) (by simp only [spec_l1copy.AP_, i64_w]; rfl) ?_
          refine nu_ 11 162 rfl rfl (by kernel_rfl) (fun _ _ _ h => h) (by rfl) (by simp only [spec_l1copy.AP_, i64_w]; rfl) ?_
          refine nu_ 12 163 rfl rfl (by kernel_rfl) (fun _ _ _ h => h) (by rfl) (by simp only [spec_l1copy.AP_, i64_w]; rfl) ?_
          refine nu_ 13 164 rfl rfl (by kernel_rfl) (fun _ _ _ h => h) (by rfl) (by simp only [spec_l1copy.AP_, i64_w]; rfl) ?_
          refine nu_ 14 165 rfl rfl (by kernel_rfl) (fun _ _ _ h => h) (by rfl) (by simp only [spec_l1copy.AP_, i64_w]; rfl) ?_
          refine nu_ 15 166 rfl rfl (by kernel_rfl) (fun _ _ _ h => h) (by rfl) (by simp only [spec_l1copy.AP_, i64_w]; rfl) ?_
          refine nu_ 16 167 rfl rfl (by kernel_rfl) (fun _ _ _ h => h) (by rfl) (by simp only [spec_l1copy.AP_, i64_w]; rfl) ?_
          refine nu_ 17 168 rfl rfl (by kernel_rfl) (fun _ _ _ h => h) (by rfl) (by simp only [spec_l1copy.AP_, i64_w]; rfl) ?_
          refine spec_l1copy.no_ 18 169 rfl rfl (by kernel_rfl) (by decide) (fun K hK => ?_)
          rw [if_neg (Bool.eq_false_iff.mp (by rfl))]
          refine hK _ _ trivial (fun hS => norm_ (by show Act.put _ (some 169) _ = _; simp only [spec_l1copy.AP_]; rfl) ?_)
          clear hK K
          refine nu_ 19 170 rfl rfl (by kernel_rfl) (fun _ _ _ h => h) (by rfl) (by simp only [spec_l1copy.AP_, i64_w]; rfl) ?_
          refine spec_l1copy.np_ (v := .bool false) 20 171 rfl rfl (by kernel_rfl) (fun _ _ _ h => h) (by rfl) (fun w' => by go_simp) (by simp only [spec_l1copy.AP_, i64_w]; rfl) ?_
          refine done_ (by kernel_rfl) ?_
          clear hwm hwm2 hS
          go_wp2_with (fail)
          go_roundw
          case measure => simp [intOf]; omega
          case rel => exact ⟨i + 1, hlt, by go_num, ⟨fun g e => by injection e with e; injection e with e; subst e; have h := HW2.out; rw [HM.out] at h; exact ⟨_, h⟩⟩, ⟨HW2.out.b⟩, ⟨HW2.out.k⟩⟩
    ·have d83 : decide ((i : Int) < (G.length : Int)) = false := decide_eq_false (by omega)
     clear SG
     have nSX := Aside0.mk (SX.out.kept HK.out (fun k hk => rng_apart (by omega) k hk))
     have nBX := Aside0.mk (blk_kept BX.out HK.out (fun hs => by have h1_ := hs.1; have h2_ := hs.2; omega))
     have nIQ := Aside0.mk (IQ.out.kept HK.out (by omega))
     have nSW := Aside0.mk (Kd.S_kept SW.out HK.out (fun k hk => rng_apart (by omega) k hk))
     have hsK := HK.out.1
     clear HB SX BX IQ SW
     have HB := HBq
     have SX := nSX
     have BX := nBX
     have IQ := nIQ
     have SW := nSW
     clear HBq HX HK nSX nBX nIQ nSW
     have xBX_0 : (wq).cell? ⟨w1.heap.size, 0, none⟩ = some (.slice ASX0 R.length cSX0) := (blk_cell BX.out 0).trans rfl
     have xBX_1 : (wq).cell? ⟨w1.heap.size, 1, none⟩ = some (.slice ASX1 T.length cSX1) := (blk_cell BX.out 1).trans rfl
     have xBX_2 : (wq).cell? ⟨w1.heap.size, 2, none⟩ = some (.slice ASX2 N.length cSX2) := (blk_cell BX.out 2).trans rfl
     go_wp2_with (fail)
     refine (implGuard_calls qs _ (Kd.R_reads' SX.out.r0).2.2 (Kd.R_reads' SX.out.r0).2.1 (Kd.S_reads' SX.out.s1).2.2 (Kd.S_reads' SX.out.s1).2.1 (Kd.R_reads' SX.out.r2).2.2 (Kd.R_reads' SX.out.r2).2.1 (Kd.R_reads' IQ.out).2.2 (Kd.R_reads' IQ.out).2.1 hR hT hN).mono ?_
     rintro e w7 ⟨vSA, rfl, q0, hb⟩
     rw [HGD.out] at q0
     have SA_ := Aside0.mk (AR_made (base := w.heap.size) q0 HB.out.size)
     have nB_ := Aside0.mk (below_step HB.out hb)
     have nSX := Aside0.mk (SX.out.below hb)
     have nBX := Aside0.mk (blk_below BX.out hb)
     have nIQ := Aside0.mk (IQ.out.below hb)
     have nSW := Aside0.mk (Kd.S_below SW.out hb)
     have hs8 : (wq).heap.size ≤ (w7).heap.size := hb.size
     clear HB SX BX IQ SW
     have HB := nB_
     have SX := nSX
     have BX := nBX
     have IQ := nIQ
     have SW := nSW
     clear nB_ nSX nBX nIQ nSW
     have SA := SA_
     clear SA_ q0 hb
     obtain ⟨ASA, cSA, e0⟩ := Kd.S_slice SA.out
     subst e0
     clear xBX_0 xBX_1 xBX_2
     go_wp2_with (fail)
     go_loopw [178] (fun x178 wz => ∃ i : Nat, i ≤ G.length ∧ x178 = .int .i64 i ∧ Aside0 (Below w7.heap.size w7 wz)) (fun x178 _ => G.length - (intOf x178).toNat)
     case atStart => exact ⟨0, Nat.zero_le _, rfl, ⟨Below.refl _ _⟩⟩
     case round =>
      rename World => wz
      obtain ⟨i, hi, rfl, HL⟩ := hrel
      by_cases hlt : i < G.length
      ·have d179 : decide ((i : Int) < (G.length : Int)) = true := decide_eq_true (by omega)
       have d184 : decide ((i : Int) ≥ (G.length : Int)) = false := decide_eq_false (by omega)
       have d184b : decide ((G.length : Int) ≤ (i : Int)) = false := decide_eq_false (by omega)
       have hnl : ¬ G.length ≤ i := by omega
       have d184c : decide (G.length ≤ i) = false := decide_eq_false hnl
       have hnl2 : ¬ (G.length : Int) ≤ (i : Int) := by omega
       have p10 : (0 : Int) ≤ (i : Int) := by omega
       have q10 : (i : Int) < (G.length : Int) := by omega
       obtain ⟨gg, E0, f0, E1, f1, E2, f2, hA, a0, a1, a2, a3, RA⟩ := sa_cells (Kd.S_below SA.out HL.out) i hlt
       obtain ⟨gw, D0, d0, D1, d1, D2, d2, hB, b0, b1, b2, b3, RB⟩ := sa_cells (Kd.S_below SW.out HL.out) i hlt
       subst hA hB
       generalize hx : G.getD i zA = x at a0 a1 a2 a3 b0 b1 b2 b3 RA RB
       clear hx
       go_wp2_with (fail)
       have y0 : wz.drew.cell? ⟨gg, i * 4, none⟩ = some (.int .i64 x.f0) := a0
       have y1 : wz.drew.cell? ⟨gg, i * 4 + 1, none⟩ = some (.slice E0 x.f1.f0.length f0) := a1
       have y2 : wz.drew.cell? ⟨gg, i * 4 + 2, none⟩ = some (.slice E1 x.f1.f1.length f1) := a2
       have y3 : wz.drew.cell? ⟨gg, i * 4 + 3, none⟩ = some (.slice E2 x.f1.f2.length f2) := a3
       have y4 : wz.drew.cell? ⟨gw, i * 4, none⟩ = some (.int .i64 x.f0) := b0
       have y5 : wz.drew.cell? ⟨gw, i * 4 + 1, none⟩ = some (.slice D0 x.f1.f0.length d0) := b1
       have y6 : wz.drew.cell? ⟨gw, i * 4 + 2, none⟩ = some (.slice D1 x.f1.f1.length d1) := b2
       have y7 : wz.drew.cell? ⟨gw, i * 4 + 3, none⟩ = some (.slice D2 x.f1.f2.length d2) := b3
       have hbd := below_drew (Below.refl wz.heap.size wz)
       have RA := Aside0.mk (Rc.below RA hbd)
       have RB := Aside0.mk (Rc.below RB hbd)
       clear a0 a1 a2 a3 b0 b1 b2 b3
       go_region_held3 (fun w' => w'.cell? ⟨gg, i * 4, none⟩ = some (.int .i64 x.f0) ∧ w'.cell? ⟨gg, i * 4 + 1, none⟩ = some (.slice E0 x.f1.f0.length f0) ∧ w'.cell? ⟨gg, i * 4 + 2, none⟩ = some (.slice E1 x.f1.f1.length f1) ∧ w'.cell? ⟨gg, i * 4 + 3, none⟩ = some (.slice E2 x.f1.f2.length f2) ∧ w'.cell? ⟨gw, i * 4, none⟩ = some (.int .i64 x.f0) ∧ w'.cell? ⟨gw, i * 4 + 1, none⟩ = some (.slice D0 x.f1.f0.length d0) ∧ w'.cell? ⟨gw, i * 4 + 2, none⟩ = some (.slice D1 x.f1.f1.length d1) ∧ w'.cell? ⟨gw, i * 4 + 3, none⟩ = some (.slice D2 x.f1.f2.length d2)) (first | exact ⟨y0, y1, y2, y3, y4, y5, y6, y7⟩ | exact ⟨(hbw.cell (World.block_lt_of_cell? _ _ y0)).trans y0, (hbw.cell (World.block_lt_of_cell? _ _ y1)).trans y1, (hbw.cell (World.block_lt_of_cell? _ _ y2)).trans y2, (hbw.cell (World.block_lt_of_cell? _ _ y3)).trans y3, (hbw.cell (World.block_lt_of_cell? _ _ y4)).trans y4, (hbw.cell (World.block_lt_of_cell? _ _ y5)).trans y5, (hbw.cell (World.block_lt_of_cell? _ _ y6)).trans y6, (hbw.cell (World.block_lt_of_cell? _ _ y7)).trans y7⟩) (first | (go_at_call 18; refine (wState_rc RA.out RB.out).mono ?_; rintro e w9 ⟨rfl, hbw⟩))
       have HL2 := Aside0.mk (below_step HL.out (below_step hbd hbw))
       clear y0 y1 y2 y3 y4 y5 y6 y7 RA RB hbd hbw
       go_wp2_with (fail)
       go_roundw
       case measure => simp [intOf]; omega
       case rel => exact ⟨i + 1, hlt, by go_num, HL2⟩
      ·have d179 : decide ((i : Int) < (G.length : Int)) = false := decide_eq_false (by omega)
       go_wp2_with (fail)
       go_ret
       exact ⟨by simp, below_step HB.out HL.out⟩
theorem FnTop_walk (a0 : Option Addr) (len0 cap0 : Nat) (z0 : List Int) (a1 : Option Addr) (len1 cap1 : Nat) (z1 : List Int) (w : World) (w0 : (a0 = none ∧ len0 = 0 ∧ cap0 = 0 ∧ z0 = []) ∨ ∃ x, a0 = some x ∧ len0 ≤ cap0 ∧ cap0 ≤ maxLen ∧ z0.length = cap0 ∧ (∀ i, i < z0.length → w.cell? (x.add i) = some (.int .u8 (z0.getD i 0))) ∧ ∀ n ∈ z0, (Lit.int .u8 n).wf = true) (y0 : len0 * 1 ≤ 140737488351232) (w1 : (a1 = none ∧ len1 = 0 ∧ cap1 = 0 ∧ z1 = []) ∨ ∃ x, a1 = some x ∧ len1 ≤ cap1 ∧ cap1 ≤ maxLen ∧ z1.length = cap1 ∧ (∀ i, i < z1.length → w.cell? (x.add i) = some (.int .u8 (z1.getD i 0))) ∧ ∀ n ∈ z1, (Lit.int .u8 n).wf = true) (y1 : len1 * 1 ≤ 140737488351232) :
  Calls Try.prog 3 #[.slice a0 len0 cap0, .slice a1 len1 cap1] w fun e w' => e = .returned (.bool true) ∧ Below w.heap.size w w' := by
 obtain ⟨l0, rfl, hr0, hm0, hw0, hc0⟩ := ReadsInt.ofRowC w0
 obtain ⟨l1, rfl, hr1, hm1, hw1, hc1⟩ := ReadsInt.ofRowC w1
 exact FnTop_calls _ _ l0 _ _ l1 w (Kd.C_of_reads (d := (0 : Int)) (h1 := fun _ => rfl) hr0) hc0 (Kd.C_of_reads (d := (0 : Int)) (h1 := fun _ => rfl) hr1) hc1 (bytes_ok hw0) (bytes_ok hw1)
end Go.Proofs.Ytpbclogjoangfaa.Tp
