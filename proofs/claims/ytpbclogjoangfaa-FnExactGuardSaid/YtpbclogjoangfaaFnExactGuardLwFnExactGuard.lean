/- The law FnExactGuard, walked: its calls by their contracts. (Printed by wip/lwgdgen.py.) -/
import Derived.Test.YtpbclogjoangfaaFnExactGuardGd1
import Derived.Test.YtpbclogjoangfaaFnExactGuardGd2
import Derived.Test.YtpbclogjoangfaaFnExactGuardGd3
import Derived.Test.YtpbclogjoangfaaFnExactGuardQ5
import Derived.Test.YtpbclogjoangfaaFnExactGuardQ6
import Derived.Test.YtpbclogjoangfaaFnExactGuardQ7
import Derived.Test.YtpbclogjoangfaaFnExactGuardQ8
namespace Go.Proofs.Ytpbclogjoangfaa.Pu
theorem FnExactGuard (R : List Int) (T : List Q.S95) (N _l : List Int) (_hs : Small R T N) : True := trivial
end Go.Proofs.Ytpbclogjoangfaa.Pu
namespace Go.Proofs.Ytpbclogjoangfaa.Lw
open Go.RowKit Go.Proofs.YtpbclogjoangfaaW.PrintWords Go.Proofs.YtpbclogjoangfaaW.PrintLast Go.Proofs.YtpbclogjoangfaaW.PrintMore Go.Proofs.Ytpbclogjoangfaa.Q Go.Proofs.Ytpbclogjoangfaa.Pu Go.Proofs.Ytpbclogjoangfaa.Mk Go.Proofs.Ytpbclogjoangfaa.Gd
set_option linter.unusedVariables false
set_option linter.unusedSimpArgs false
theorem AR_made {base : Nat} {W W2 : World} {ok : Nat → Prop} {v : Value} {l : List AT} (h : Kd.S kA 33 W2 W.heap.size ok v l) (hB : base ≤ W.heap.size) : Kd.S kA 33 W2 base (Rng W.heap.size W2.heap.size) v l :=
 Kd.S_lower (Kd.S_mono (Kd.S_bound h) (fun _ hk => ⟨hk.2.1, hk.2.2.1⟩)) hB
theorem C_kA {w : World} {A : Option Addr} {n : Nat} {l : List AT} (h : Kd.C kA w A n l) : Kd.C k33 w A n l := by
 have e : k33.sz = 4 := rfl
 unfold Kd.C at h ⊢
 rw [e]
 exact h
theorem AR_C {w : World} {base : Nat} {P : Nat → Prop} {A : Option Addr} {n c : Nat} {l : List AT} (h : Kd.S kA 33 w base P (.slice A n c) l) : Kd.C k33 w A l.length l := C_kA (Kd.S_reads' h).2.2
set_option maxHeartbeats 4000000 in
set_option maxRecDepth 100000 in
theorem FnExactGuard_calls (A0_0 : Option Addr) (c0_0 : Nat) (l0_0 : List Int) (A0_1 : Option Addr) (c0_1 : Nat) (l0_1 : List S95) (A0_2 : Option Addr) (c0_2 : Nat) (l0_2 : List Int) (A1 : Option Addr) (c1 : Nat) (l1 : List Int) (w : World) (hr0 : Kd.C (Kd.int .i64) w A0_0 l0_0.length l0_0) (hc0 : l0_0.length ≤ c0_0) (hr1 : Kd.C k95 w A0_1 l0_1.length l0_1) (hc1 : l0_1.length ≤ c0_1) (hr2 : Kd.C (Kd.int .i64) w A0_2 l0_2.length l0_2) (hc2 : l0_2.length ≤ c0_2) (hr3 : Kd.C (Kd.int .i64) w A1 l1.length l1) (hc3 : l1.length ≤ c1) (hM : Mem l0_0 l0_1 l0_2) (hm : Small l0_0 l0_1 l0_2 → True) :
  Calls Try.prog 13 #[.agg #[.slice A0_0 l0_0.length c0_0, .slice A0_1 l0_1.length c0_1, .slice A0_2 l0_2.length c0_2], .slice A1 l1.length c1] w fun e w' => e = .returned (.bool true) ∧ Below w.heap.size w w' := by
 have hu26 := Try.underlying26
 have hu47 := Try.underlying47
 obtain ⟨r, er, hrr⟩ := szState_tells hM
 obtain ⟨ksz, hsz0⟩ := er.rounds
 have hsz := Aside0.mk hsz0
 clear hsz0 er
 have HR0 := Aside0.mk hr0
 have HC0 := Aside0.mk hc0
 have HR1 := Aside0.mk hr1
 have HC1 := Aside0.mk hc1
 have HR2 := Aside0.mk hr2
 have HC2 := Aside0.mk hc2
 have HR3 := Aside0.mk hr3
 have HC3 := Aside0.mk hc3
 clear hr0 hr1 hr2 hr3 hc0 hc1 hc2 hc3
 have HB := Aside0.mk ((Below.refl w.heap.size w).alloc (Nat.le_refl _) (.cells #[.slice A0_0 l0_0.length c0_0, .slice A0_1 l0_1.length c0_1, .slice A0_2 l0_2.length c0_2] 47))
 have BX := Aside0.mk (heap_alloc_new w (.cells #[.slice A0_0 l0_0.length c0_0, .slice A0_1 l0_1.length c0_1, .slice A0_2 l0_2.length c0_2] 47))
 have hsx : w.heap.size < (w.alloc (.cells #[.slice A0_0 l0_0.length c0_0, .slice A0_1 l0_1.length c0_1, .slice A0_2 l0_2.length c0_2] 47)).heap.size := by simp
 by_cases hlen : (l1.length : Int) > 1048576
 ·have hd : decide ((l1.length : Int) > 1048576) = true := decide_eq_true hlen
  go_enter Try.func13, Try.ntmps13
  go_wp2_with (fail)
  go_ret
  exact ⟨rfl, HB.out⟩
 have hd : decide ((l1.length : Int) > 1048576) = false := decide_eq_false hlen
 rcases hrr with hneg | ⟨hpos, hsmall⟩
 ·have hd0 : decide (r < 0) = true := decide_eq_true hneg
  go_enter Try.func13, Try.ntmps13
  go_wp2_with (fail)
  refine (laws_szState.calls ksz _ _ l0_0 _ _ l0_1 _ _ l0_2 1048576 r _ (Kd.C_below HR0.out HB.out) HC0.out (Kd.C_below HR1.out HB.out) HC1.out (Kd.C_below HR2.out HB.out) HC2.out hsz.out).mono ?_
  rintro e w1 ⟨rfl, hb⟩
  have nB_ := below_step HB.out hb
  clear hb
  go_wp2_with (fail)
  go_ret
  exact ⟨rfl, nB_⟩
 ·have hd0 : decide (r < 0) = false := decide_eq_false (by omega)
  obtain ⟨kts, hts0⟩ := (toState_tells hsmall).rounds
  have hts := Aside0.mk hts0
  obtain ⟨kti, hti0⟩ := (toIntS_tells l1 (by omega)).rounds
  have hti := Aside0.mk hti0
  clear hts0 hti0
  have hPth := Small.paths hsmall
  have hT : (l0_1.map cv).length ≤ 1048576 := by simpa using hsmall.hT
  have hsz1 := Small.szT_le hsmall
  generalize hTT : l0_1.map cv = T' at *
  clear hTT
  have hR := hsmall.hR
  have hN := hsmall.hN
  have hszp1 := szT_pos T'
  obtain ⟨kst, hst0⟩ := (eqState_tells l0_0 T' l0_2 l0_0 T' l0_2 (by omega) (by omega) (by omega) hPth).rounds
  have hst := Aside0.mk (show laws_eqState.f kst l0_0 T' l0_2 l0_0 T' l0_2 = some true from by simpa using hst0)
  obtain ⟨kei, hei0⟩ := (eqIntS_same l1 (by omega)).rounds
  have hei := Aside0.mk hei0
  obtain ⟨hg1, hg2⟩ := guardD_right (R := l0_0) (T := T') (N := l0_2) (qs := l1)
  generalize hgd : guardD l0_0 T' l0_2 l1 = G at *
  have HGD := Aside0.mk hgd
  have hsa : ∀ x ∈ G, SmallA x := fun x hx => by
   obtain ⟨e, hr⟩ := hg2 x hx
   have hs := hr.wf.small
   exact ⟨by rw [e]; exact hR, hs.2.1, hs.2.2.1, hs.2.2.2⟩
  have hszA := szA_bound G hsa
  have hszAp := szA_pos G
  have HT := Aside0.mk (fun x hx => (hsa x hx).2.1)
  obtain ⟨kea, hea0⟩ := (eqAskedS_same G (by omega) hsa).rounds
  have hea := Aside0.mk hea0
  obtain ⟨kha, hha0⟩ := (heldAskedS_tells G 1 (by omega) (by omega) HT.out (by omega)).rounds
  have hha := Aside0.mk hha0
  have hd1 : decide ((1 : Int) + l0_0.length + szT T' + l0_2.length + l1.length < 0) = false := decide_eq_false (by omega)
  have hd2 : decide ((1 : Int) + szA G < 0) = false := decide_eq_false (by omega)
  have hmi : (l1.length : Int) ≤ 1048576 := by omega
  obtain ⟨kmi, hmi0⟩ := (markIntS_tells l1 (1 + l0_0.length + szT T' + l0_2.length) (by omega) (by omega)).rounds
  have hmk := Aside0.mk hmi0
  clear hst0 hei0 hea0 hha0 hmi0 hsa hg2 hgd hsmall hm hM hPth hlen hd
  have hd : decide ((l1.length : Int) > 1048576) = false := decide_eq_false (by omega)
  go_enter Try.func13, Try.ntmps13
  go_wp2_with (fail)
  refine (laws_szState.calls ksz _ _ l0_0 _ _ l0_1 _ _ l0_2 1048576 r _ (Kd.C_below HR0.out HB.out) HC0.out (Kd.C_below HR1.out HB.out) HC1.out (Kd.C_below HR2.out HB.out) HC2.out hsz.out).mono ?_
  rintro e w1 ⟨rfl, hb⟩
  have nB_ := Aside0.mk (below_step HB.out hb)
  have nBX := Aside0.mk (blk_below BX.out hb)
  have hs0 : ((w.alloc (.cells #[.slice A0_0 l0_0.length c0_0, .slice A0_1 l0_1.length c0_1, .slice A0_2 l0_2.length c0_2] 47))).heap.size ≤ (w1).heap.size := hb.size
  clear HB BX
  have HB := nB_
  have BX := nBX
  clear nB_ nBX
  clear hb
  have xBX_0 : (w1).cell? ⟨w.heap.size, 0, none⟩ = some (.slice A0_0 l0_0.length c0_0) := (blk_cell BX.out 0).trans rfl
  have xBX_1 : (w1).cell? ⟨w.heap.size, 1, none⟩ = some (.slice A0_1 l0_1.length c0_1) := (blk_cell BX.out 1).trans rfl
  have xBX_2 : (w1).cell? ⟨w.heap.size, 2, none⟩ = some (.slice A0_2 l0_2.length c0_2) := (blk_cell BX.out 2).trans rfl
  go_wp2_with (fail)
  refine (laws_toState.calls kts _ _ l0_0 _ _ l0_1 _ _ l0_2 l0_0 T' l0_2 _ (Kd.C_below HR0.out HB.out) HC0.out (Kd.C_below HR1.out HB.out) HC1.out (Kd.C_below HR2.out HB.out) HC2.out hts.out).mono ?_
  rintro e w2 ⟨vSA0, vSA1, vSA2, rfl, q0, q1, q2, hb⟩
  have SA_ := Aside0.mk (St.made (base := w.heap.size) q0 q1 q2 (fun k h => h) (fun k h => h) (fun k h => h) HB.out.size)
  have nB_ := Aside0.mk (below_step HB.out hb)
  have nBX := Aside0.mk (blk_below BX.out hb)
  have hs1 : (w1).heap.size ≤ (w2).heap.size := hb.size
  clear HB BX
  have HB := nB_
  have BX := nBX
  clear nB_ nBX
  have SA := SA_
  clear SA_ q0 q1 q2 hb
  obtain ⟨ASA0, cSA0, ASA1, cSA1, ASA2, cSA2, e0, e1, e2⟩ := SA.out.slices
  subst e0 e1 e2
  clear xBX_0 xBX_1 xBX_2
  go_wp2_with (fail)
  refine (laws_toIntS.calls kti _ _ l1 l1 _ (Kd.C_below HR3.out HB.out) HC3.out hti.out).mono ?_
  rintro e w3 ⟨vIA, rfl, q0, hb⟩
  have IA_ := Aside0.mk (IR.made (base := w.heap.size) q0 HB.out.size)
  have nB_ := Aside0.mk (below_step HB.out hb)
  have nBX := Aside0.mk (blk_below BX.out hb)
  have nSA := Aside0.mk (SA.out.below hb)
  have hs2 : (w2).heap.size ≤ (w3).heap.size := hb.size
  clear HB BX SA
  have HB := nB_
  have BX := nBX
  have SA := nSA
  clear nB_ nBX nSA
  have IA := IA_
  clear IA_ q0 hb
  obtain ⟨AIA, cIA, e0⟩ := IA.out.slice
  subst e0
  go_wp2_with (fail)
  refine (specGuard_calls l1 _ (Kd.R_reads' SA.out.r0).2.2 (Kd.R_reads' SA.out.r0).2.1 (Kd.S_reads' SA.out.s1).2.2 (Kd.S_reads' SA.out.s1).2.1 (Kd.R_reads' SA.out.r2).2.2 (Kd.R_reads' SA.out.r2).2.1 (Kd.R_reads' IA.out).2.2 (Kd.R_reads' IA.out).2.1 hR hT hN).mono ?_
  rintro e w4 ⟨vSW, rfl, q0, hb⟩
  rw [HGD.out] at q0
  have SW_ := Aside0.mk (AR_made (base := w.heap.size) q0 HB.out.size)
  have nB_ := Aside0.mk (below_step HB.out hb)
  have nBX := Aside0.mk (blk_below BX.out hb)
  have nSA := Aside0.mk (SA.out.below hb)
  have nIA := Aside0.mk (IA.out.below hb)
  have hs3 : (w3).heap.size ≤ (w4).heap.size := hb.size
  clear HB BX SA IA
  have HB := nB_
  have BX := nBX
  have SA := nSA
  have IA := nIA
  clear nB_ nBX nSA nIA
  have SW := SW_
  clear SW_ q0 hb
  obtain ⟨ASW, cSW, e0⟩ := Kd.S_slice SW.out
  subst e0
  clear SA
  clear IA
  have xBX_0 : (w4).cell? ⟨w.heap.size, 0, none⟩ = some (.slice A0_0 l0_0.length c0_0) := (blk_cell BX.out 0).trans rfl
  have xBX_1 : (w4).cell? ⟨w.heap.size, 1, none⟩ = some (.slice A0_1 l0_1.length c0_1) := (blk_cell BX.out 1).trans rfl
  have xBX_2 : (w4).cell? ⟨w.heap.size, 2, none⟩ = some (.slice A0_2 l0_2.length c0_2) := (blk_cell BX.out 2).trans rfl
  go_wp2_with (fail)
  refine (laws_toState.calls kts _ _ l0_0 _ _ l0_1 _ _ l0_2 l0_0 T' l0_2 _ (Kd.C_below HR0.out HB.out) HC0.out (Kd.C_below HR1.out HB.out) HC1.out (Kd.C_below HR2.out HB.out) HC2.out hts.out).mono ?_
  rintro e w5 ⟨vSX0, vSX1, vSX2, rfl, q0, q1, q2, hb⟩
  have SX_ := Aside0.mk (St.made (base := w.heap.size) q0 q1 q2 (fun k h => h) (fun k h => h) (fun k h => h) HB.out.size)
  have nB_ := Aside0.mk (below_step HB.out hb)
  have nBX := Aside0.mk (blk_below BX.out hb)
  have nSW := Aside0.mk (Kd.S_below SW.out hb)
  have hs4 : (w4).heap.size ≤ (w5).heap.size := hb.size
  clear HB BX SW
  have HB := nB_
  have BX := nBX
  have SW := nSW
  clear nB_ nBX nSW
  have SX := SX_
  clear SX_ q0 q1 q2 hb
  obtain ⟨ASX0, cSX0, ASX1, cSX1, ASX2, cSX2, e0, e1, e2⟩ := SX.out.slices
  subst e0 e1 e2
  clear xBX_0 xBX_1 xBX_2
  have hbA := (Below.refl (w5).heap.size w5).alloc (Nat.le_refl _) (.cells #[.slice ASX0 l0_0.length cSX0, .slice ASX1 T'.length cSX1, .slice ASX2 l0_2.length cSX2] 26)
  have BY_ := Aside0.mk (heap_alloc_new w5 (.cells #[.slice ASX0 l0_0.length cSX0, .slice ASX1 T'.length cSX1, .slice ASX2 l0_2.length cSX2] 26))
  have hsBY : (w5).heap.size < ((w5).alloc (.cells #[.slice ASX0 l0_0.length cSX0, .slice ASX1 T'.length cSX1, .slice ASX2 l0_2.length cSX2] 26)).heap.size := by simp
  have nB_ := Aside0.mk (below_step HB.out hbA)
  have nBX := Aside0.mk (blk_below BX.out hbA)
  have nSW := Aside0.mk (Kd.S_below SW.out hbA)
  have nSX := Aside0.mk (SX.out.below hbA)
  have hs5 : (w5).heap.size ≤ ((w5.alloc (.cells #[.slice ASX0 l0_0.length cSX0, .slice ASX1 T'.length cSX1, .slice ASX2 l0_2.length cSX2] 26))).heap.size := hbA.size
  clear HB BX SW SX
  have HB := nB_
  have BX := nBX
  have SW := nSW
  have SX := nSX
  clear nB_ nBX nSW nSX
  have BY := BY_
  clear BY_ hbA
  go_wp2_with (fail)
  refine (laws_toIntS.calls kti _ _ l1 l1 _ (Kd.C_below HR3.out HB.out) HC3.out hti.out).mono ?_
  rintro e w6 ⟨vIX, rfl, q0, hb⟩
  have IX_ := Aside0.mk (IR.made (base := w.heap.size) q0 HB.out.size)
  have nB_ := Aside0.mk (below_step HB.out hb)
  have nBX := Aside0.mk (blk_below BX.out hb)
  have nSW := Aside0.mk (Kd.S_below SW.out hb)
  have nSX := Aside0.mk (SX.out.below hb)
  have nBY := Aside0.mk (blk_below BY.out hb)
  have hs6 : ((w5.alloc (.cells #[.slice ASX0 l0_0.length cSX0, .slice ASX1 T'.length cSX1, .slice ASX2 l0_2.length cSX2] 26))).heap.size ≤ (w6).heap.size := hb.size
  clear HB BX SW SX BY
  have HB := nB_
  have BX := nBX
  have SW := nSW
  have SX := nSX
  have BY := nBY
  clear nB_ nBX nSW nSX nBY
  have IX := IX_
  clear IX_ q0 hb
  obtain ⟨AIX, cIX, e0⟩ := IX.out.slice
  subst e0
  have xBY_0 : (w6).cell? ⟨w5.heap.size, 0, none⟩ = some (.slice ASX0 l0_0.length cSX0) := (blk_cell BY.out 0).trans rfl
  have xBY_1 : (w6).cell? ⟨w5.heap.size, 1, none⟩ = some (.slice ASX1 T'.length cSX1) := (blk_cell BY.out 1).trans rfl
  have xBY_2 : (w6).cell? ⟨w5.heap.size, 2, none⟩ = some (.slice ASX2 l0_2.length cSX2) := (blk_cell BY.out 2).trans rfl
  go_wp2_with (fail)
  refine (implGuard_calls l1 _ (Kd.R_reads' SX.out.r0).2.2 (Kd.R_reads' SX.out.r0).2.1 (Kd.S_reads' SX.out.s1).2.2 (Kd.S_reads' SX.out.s1).2.1 (Kd.R_reads' SX.out.r2).2.2 (Kd.R_reads' SX.out.r2).2.1 (Kd.R_reads' IX.out).2.2 (Kd.R_reads' IX.out).2.1 hR hT hN).mono ?_
  rintro e w7 ⟨vSG, rfl, q0, hb⟩
  rw [HGD.out] at q0
  have SG_ := Aside0.mk (AR_made (base := w.heap.size) q0 HB.out.size)
  have nB_ := Aside0.mk (below_step HB.out hb)
  have nBX := Aside0.mk (blk_below BX.out hb)
  have nSW := Aside0.mk (Kd.S_below SW.out hb)
  have nSX := Aside0.mk (SX.out.below hb)
  have nBY := Aside0.mk (blk_below BY.out hb)
  have nIX := Aside0.mk (IX.out.below hb)
  have hs7 : (w6).heap.size ≤ (w7).heap.size := hb.size
  clear HB BX SW SX BY IX
  have HB := nB_
  have BX := nBX
  have SW := nSW
  have SX := nSX
  have BY := nBY
  have IX := nIX
  clear nB_ nBX nSW nSX nBY nIX
  have SG := SG_
  clear SG_ q0 hb
  obtain ⟨ASG, cSG, e0⟩ := Kd.S_slice SG.out
  subst e0
  clear xBY_0 xBY_1 xBY_2
  go_wp2_with (fail)
  refine (laws_eqAskedS.calls kea _ _ G _ _ G true _ (AR_C SG.out) (Kd.S_reads' SG.out).2.1 (AR_C SW.out) (Kd.S_reads' SW.out).2.1 hea.out).mono ?_
  rintro e w8 ⟨rfl, hb⟩
  have nB_ := Aside0.mk (below_step HB.out hb)
  have nBX := Aside0.mk (blk_below BX.out hb)
  have nSW := Aside0.mk (Kd.S_below SW.out hb)
  have nSX := Aside0.mk (SX.out.below hb)
  have nBY := Aside0.mk (blk_below BY.out hb)
  have nIX := Aside0.mk (IX.out.below hb)
  have nSG := Aside0.mk (Kd.S_below SG.out hb)
  have hs8 : (w7).heap.size ≤ (w8).heap.size := hb.size
  clear HB BX SW SX BY IX SG
  have HB := nB_
  have BX := nBX
  have SW := nSW
  have SX := nSX
  have BY := nBY
  have IX := nIX
  have SG := nSG
  clear nB_ nBX nSW nSX nBY nIX nSG
  clear hb
  go_wp2_with (fail)
  have hbD := below_drew (Below.refl (w8).heap.size w8)
  have nB_ := Aside0.mk (below_step HB.out hbD)
  have nBX := Aside0.mk (blk_below BX.out hbD)
  have nSW := Aside0.mk (Kd.S_below SW.out hbD)
  have nSX := Aside0.mk (SX.out.below hbD)
  have nBY := Aside0.mk (blk_below BY.out hbD)
  have nIX := Aside0.mk (IX.out.below hbD)
  have nSG := Aside0.mk (Kd.S_below SG.out hbD)
  have hs9 : (w8).heap.size ≤ (w8.drew).heap.size := hbD.size
  clear HB BX SW SX BY IX SG
  have HB := nB_
  have BX := nBX
  have SW := nSW
  have SX := nSX
  have BY := nBY
  have IX := nIX
  have SG := nSG
  clear nB_ nBX nSW nSX nBY nIX nSG
  clear hbD
  refine start_ (n := 5) (S := fun w' => w'.cell? ⟨w5.heap.size, 0, none⟩ = some (.slice ASX0 l0_0.length cSX0) ∧ w'.cell? ⟨w5.heap.size, 1, none⟩ = some (.slice ASX1 T'.length cSX1) ∧ w'.cell? ⟨w5.heap.size, 2, none⟩ = some (.slice ASX2 l0_2.length cSX2) ∧ w'.cell? ⟨w.heap.size, 0, none⟩ = some (.slice A0_0 l0_0.length c0_0) ∧ w'.cell? ⟨w.heap.size, 1, none⟩ = some (.slice A0_1 l0_1.length c0_1) ∧ w'.cell? ⟨w.heap.size, 2, none⟩ = some (.slice A0_2 l0_2.length c0_2)) (ds := []) (Array.replicate 5 false) (by kernel_rfl) rfl rfl ⟨(blk_cell BY.out 0).trans rfl, (blk_cell BY.out 1).trans rfl, (blk_cell BY.out 2).trans rfl, (blk_cell BX.out 0).trans rfl, (blk_cell BX.out 1).trans rfl, (blk_cell BX.out 2).trans rfl⟩ (fun hS => ?_)
  generalize hwd : w8.drew = wd at *
  clear hwd
  refine spec_l1copy.nt_ hS 0 38 rfl rfl (by kernel_rfl) (fun _ _ _ h => h) (by rfl) (fun w' ⟨s0, s1, s2, s3, s4, s5⟩ => by go_simp; with_reducible rfl) (by simp only [spec_l1copy.AP_, i64_w]; rfl) ?_
  refine spec_l1copy.nt_ hS 1 39 rfl rfl (by kernel_rfl) (fun _ _ _ h => h) (by rfl) (fun w' ⟨s0, s1, s2, s3, s4, s5⟩ => by go_simp; with_reducible rfl) (by simp only [spec_l1copy.AP_, i64_w]; rfl) ?_
  refine spec_l1copy.no_ 2 40 rfl rfl (by kernel_rfl) (by decide) (fun K hK => ?_)
  refine goes_ Try.func29 (by kernel_rfl) rfl #[.agg #[.slice A0_0 l0_0.length c0_0, .slice A0_1 l0_1.length c0_1, .slice A0_2 l0_2.length c0_2]] (by rfl) rfl rfl (by (try simp only [List.map_toArray, List.map_cons, List.map_nil]); rfl) ?_
  refine (laws_toState.calls kts _ _ l0_0 _ _ l0_1 _ _ l0_2 l0_0 T' l0_2 _ (Kd.C_below HR0.out HB.out) HC0.out (Kd.C_below HR1.out HB.out) HC1.out (Kd.C_below HR2.out HB.out) HC2.out hts.out).mono ?_
  rintro e w9 ⟨vSQ0, vSQ1, vSQ2, rfl, q0, q1, q2, hb⟩
  refine ⟨_, rfl, ?_⟩
  have SQ_ := Aside0.mk (St.made (base := w.heap.size) q0 q1 q2 (fun k h => h) (fun k h => h) (fun k h => h) HB.out.size)
  have nB_ := Aside0.mk (below_step HB.out hb)
  have nBX := Aside0.mk (blk_below BX.out hb)
  have nSW := Aside0.mk (Kd.S_below SW.out hb)
  have nSX := Aside0.mk (SX.out.below hb)
  have nBY := Aside0.mk (blk_below BY.out hb)
  have nIX := Aside0.mk (IX.out.below hb)
  have nSG := Aside0.mk (Kd.S_below SG.out hb)
  have hs10 : (wd).heap.size ≤ (w9).heap.size := hb.size
  clear HB BX SW SX BY IX SG
  have HB := nB_
  have BX := nBX
  have SW := nSW
  have SX := nSX
  have BY := nBY
  have IX := nIX
  have SG := nSG
  clear nB_ nBX nSW nSX nBY nIX nSG
  have SQ := SQ_
  clear SQ_ q0 q1 q2 hb
  obtain ⟨ASQ0, cSQ0, ASQ1, cSQ1, ASQ2, cSQ2, e0, e1, e2⟩ := SQ.out.slices
  subst e0 e1 e2
  refine hK _ _ ⟨(blk_cell BY.out 0).trans rfl, (blk_cell BY.out 1).trans rfl, (blk_cell BY.out 2).trans rfl, (blk_cell BX.out 0).trans rfl, (blk_cell BX.out 1).trans rfl, (blk_cell BX.out 2).trans rfl⟩ (fun hS => norm_ (by show Act.put _ (some 40) _ = _; simp only [spec_l1copy.AP_]; rfl) ?_)
  clear hK K
  refine spec_l1copy.no_ 3 41 rfl rfl (by kernel_rfl) (by decide) (fun K hK => ?_)
  refine goes_ Try.func31 (by kernel_rfl) rfl #[.agg #[.slice ASX0 l0_0.length cSX0, .slice ASX1 T'.length cSX1, .slice ASX2 l0_2.length cSX2], .agg #[.slice ASQ0 l0_0.length cSQ0, .slice ASQ1 T'.length cSQ1, .slice ASQ2 l0_2.length cSQ2]] (by rfl) rfl rfl (by (try simp only [List.map_toArray, List.map_cons, List.map_nil]); rfl) ?_
  refine (laws_eqState.calls kst _ _ l0_0 _ _ T' _ _ l0_2 _ _ l0_0 _ _ T' _ _ l0_2 true _ (Kd.R_reads' SX.out.r0).2.2 (Kd.R_reads' SX.out.r0).2.1 (Kd.S_reads' SX.out.s1).2.2 (Kd.S_reads' SX.out.s1).2.1 (Kd.R_reads' SX.out.r2).2.2 (Kd.R_reads' SX.out.r2).2.1 (Kd.R_reads' SQ.out.r0).2.2 (Kd.R_reads' SQ.out.r0).2.1 (Kd.S_reads' SQ.out.s1).2.2 (Kd.S_reads' SQ.out.s1).2.1 (Kd.R_reads' SQ.out.r2).2.2 (Kd.R_reads' SQ.out.r2).2.1 hst.out).mono ?_
  rintro e w10 ⟨rfl, hb⟩
  refine ⟨_, rfl, ?_⟩
  clear SQ
  have nB_ := Aside0.mk (below_step HB.out hb)
  have nBX := Aside0.mk (blk_below BX.out hb)
  have nSW := Aside0.mk (Kd.S_below SW.out hb)
  have nSX := Aside0.mk (SX.out.below hb)
  have nBY := Aside0.mk (blk_below BY.out hb)
  have nIX := Aside0.mk (IX.out.below hb)
  have nSG := Aside0.mk (Kd.S_below SG.out hb)
  have hs11 : (w9).heap.size ≤ (w10).heap.size := hb.size
  clear HB BX SW SX BY IX SG
  have HB := nB_
  have BX := nBX
  have SW := nSW
  have SX := nSX
  have BY := nBY
  have IX := nIX
  have SG := nSG
  clear nB_ nBX nSW nSX nBY nIX nSG
  clear hb
  refine hK _ _ ⟨(blk_cell BY.out 0).trans rfl, (blk_cell BY.out 1).trans rfl, (blk_cell BY.out 2).trans rfl, (blk_cell BX.out 0).trans rfl, (blk_cell BX.out 1).trans rfl, (blk_cell BX.out 2).trans rfl⟩ (fun hS => norm_ (by show Act.put _ (some 41) _ = _; simp only [spec_l1copy.AP_]; rfl) ?_)
  clear hK K
  refine spec_l1copy.np_ 4 42 rfl rfl (by kernel_rfl) (fun _ _ _ h => h) (by rfl) (fun w' => by go_simp; with_reducible rfl) (by simp only [spec_l1copy.AP_, i64_w]; rfl) ?_
  refine done_ (by kernel_rfl) ?_
  clear hS
  go_wp2_with (fail)
  refine (laws_toIntS.calls kti _ _ l1 l1 _ (Kd.C_below HR3.out HB.out) HC3.out hti.out).mono ?_
  rintro e w11 ⟨vIQ, rfl, q0, hb⟩
  have IQ_ := Aside0.mk (IR.made (base := w.heap.size) q0 HB.out.size)
  have nB_ := Aside0.mk (below_step HB.out hb)
  have nBX := Aside0.mk (blk_below BX.out hb)
  have nSW := Aside0.mk (Kd.S_below SW.out hb)
  have nSX := Aside0.mk (SX.out.below hb)
  have nBY := Aside0.mk (blk_below BY.out hb)
  have nIX := Aside0.mk (IX.out.below hb)
  have nSG := Aside0.mk (Kd.S_below SG.out hb)
  have hs12 : (w10).heap.size ≤ (w11).heap.size := hb.size
  clear HB BX SW SX BY IX SG
  have HB := nB_
  have BX := nBX
  have SW := nSW
  have SX := nSX
  have BY := nBY
  have IX := nIX
  have SG := nSG
  clear nB_ nBX nSW nSX nBY nIX nSG
  have IQ := IQ_
  clear IQ_ q0 hb
  obtain ⟨AIQ, cIQ, e0⟩ := IQ.out.slice
  subst e0
  go_wp2_with (fail)
  refine (laws_eqIntS.calls kei _ _ l1 _ _ l1 true _ (Kd.R_reads' IX.out).2.2 (Kd.R_reads' IX.out).2.1 (Kd.R_reads' IQ.out).2.2 (Kd.R_reads' IQ.out).2.1 hei.out).mono ?_
  rintro e w12 ⟨rfl, hd_⟩
  have hb := hd_.below
  clear hd_
  have nB_ := Aside0.mk (below_step HB.out hb)
  have nBX := Aside0.mk (blk_below BX.out hb)
  have nSW := Aside0.mk (Kd.S_below SW.out hb)
  have nSX := Aside0.mk (SX.out.below hb)
  have nBY := Aside0.mk (blk_below BY.out hb)
  have nIX := Aside0.mk (IX.out.below hb)
  have nSG := Aside0.mk (Kd.S_below SG.out hb)
  have nIQ := Aside0.mk (IQ.out.below hb)
  have hs13 : (w11).heap.size ≤ (w12).heap.size := hb.size
  clear HB BX SW SX BY IX SG IQ
  have HB := nB_
  have BX := nBX
  have SW := nSW
  have SX := nSX
  have BY := nBY
  have IX := nIX
  have SG := nSG
  have IQ := nIQ
  clear nB_ nBX nSW nSX nBY nIX nSG nIQ
  clear hb
  clear IQ
  have xBY_0 : (w12).cell? ⟨w5.heap.size, 0, none⟩ = some (.slice ASX0 l0_0.length cSX0) := (blk_cell BY.out 0).trans rfl
  have xBY_1 : (w12).cell? ⟨w5.heap.size, 1, none⟩ = some (.slice ASX1 T'.length cSX1) := (blk_cell BY.out 1).trans rfl
  have xBY_2 : (w12).cell? ⟨w5.heap.size, 2, none⟩ = some (.slice ASX2 l0_2.length cSX2) := (blk_cell BY.out 2).trans rfl
  go_wp2_with (fail)
  refine (markState_calls w _ HB.out _ _ _ _ l0_0 T' l0_2 1 SX.out (by omega) hT (by omega)).mono ?_
  rintro e w13 ⟨rfl, hst2, hb, hk⟩
  clear xBY_0 xBY_1 xBY_2
  clear hst2 SX
  have nB_ := Aside0.mk (hb)
  have nBX := Aside0.mk (blk_kept BX.out hk (fun hs => by have h1_ := hs.1; have h2_ := hs.2; omega))
  have nSW := Aside0.mk (Kd.S_kept SW.out hk (fun k hk => rng_apart (by omega) k hk))
  have nBY := Aside0.mk (blk_kept BY.out hk (fun hs => by have h1_ := hs.1; have h2_ := hs.2; omega))
  have nIX := Aside0.mk (IX.out.kept hk (by omega))
  have nSG := Aside0.mk (Kd.S_kept SG.out hk (fun k hk => rng_apart (by omega) k hk))
  have hs14 : (w12).heap.size ≤ (w13).heap.size := hk.1
  clear HB BX SW BY IX SG
  have HB := nB_
  have BX := nBX
  have SW := nSW
  have BY := nBY
  have IX := nIX
  have SG := nSG
  clear nB_ nBX nSW nBY nIX nSG
  clear hb hk
  go_wp2_with (fail)
  refine (laws_markIntS.calls kmi _ _ l1 _ _ _ w _ HB.out IX.out hmk.out).mono ?_
  rintro e w14 ⟨rfl, hq2, hb, hk⟩
  clear hq2 IX
  have nB_ := Aside0.mk (hb)
  have nBX := Aside0.mk (blk_kept BX.out hk (fun hs => by have h1_ := hs.1; have h2_ := hs.2; omega))
  have nSW := Aside0.mk (Kd.S_kept SW.out hk (fun k hk => rng_apart (by omega) k hk))
  have nBY := Aside0.mk (blk_kept BY.out hk (fun hs => by have h1_ := hs.1; have h2_ := hs.2; omega))
  have nSG := Aside0.mk (Kd.S_kept SG.out hk (fun k hk => rng_apart (by omega) k hk))
  have hs15 : (w13).heap.size ≤ (w14).heap.size := hk.1
  clear HB BX SW BY SG
  have HB := nB_
  have BX := nBX
  have SW := nSW
  have BY := nBY
  have SG := nSG
  clear nB_ nBX nSW nBY nSG
  clear hb hk
  go_wp2_with (fail)
  refine (laws_eqAskedS.calls kea _ _ G _ _ G true _ (AR_C SG.out) (Kd.S_reads' SG.out).2.1 (AR_C SW.out) (Kd.S_reads' SW.out).2.1 hea.out).mono ?_
  rintro e w15 ⟨rfl, hb⟩
  have nB_ := Aside0.mk (below_step HB.out hb)
  have nBX := Aside0.mk (blk_below BX.out hb)
  have nSW := Aside0.mk (Kd.S_below SW.out hb)
  have nBY := Aside0.mk (blk_below BY.out hb)
  have nSG := Aside0.mk (Kd.S_below SG.out hb)
  have hs16 : (w14).heap.size ≤ (w15).heap.size := hb.size
  clear HB BX SW BY SG
  have HB := nB_
  have BX := nBX
  have SW := nSW
  have BY := nBY
  have SG := nSG
  clear nB_ nBX nSW nBY nSG
  clear hb
  go_wp2_with (fail)
  refine (markAskedS_calls w _ HB.out _ _ G 1 SG.out (by omega) (by omega) HT.out (by omega)).mono ?_
  rintro e w16 ⟨rfl, hq2, hb, hk⟩
  have SG_ := Aside0.mk hq2
  clear hq2 SG
  have nB_ := Aside0.mk (hb)
  have nBX := Aside0.mk (blk_kept BX.out hk (fun hs => by have h1_ := hs.1; have h2_ := hs.2; omega))
  have nSW := Aside0.mk (Kd.S_kept SW.out hk (fun k hk => rng_apart (by omega) k hk))
  have nBY := Aside0.mk (blk_kept BY.out hk (fun hs => by have h1_ := hs.1; have h2_ := hs.2; omega))
  have hs17 : (w15).heap.size ≤ (w16).heap.size := hk.1
  clear HB BX SW BY
  have HB := nB_
  have BX := nBX
  have SW := nSW
  have BY := nBY
  clear nB_ nBX nSW nBY
  clear hb hk
  have SG := SG_
  clear SG_
  have HU := Aside0.mk (mkA_len G 1)
  go_wp2_with (fail)
  refine calls_of_args (args' := #[.slice ASG (mkA 1 G).length cSG, .int .i64 1]) (by rw [HU.out]) ?_
  refine (laws_heldAskedS.calls kha _ _ (mkA 1 G) 1 _ _ (AR_C (n := (mkA 1 G).length) (by rw [HU.out]; exact SG.out)) (Kd.S_reads' (n := (mkA 1 G).length) (by rw [HU.out]; exact SG.out)).2.1 hha.out).mono ?_
  rintro e w17 ⟨rfl, hd_⟩
  have hb := hd_.below
  have nB_ := Aside0.mk (below_step HB.out hb)
  have nBX := Aside0.mk (blk_below BX.out hb)
  have nSW := Aside0.mk (Kd.S_below SW.out hb)
  have nBY := Aside0.mk (blk_below BY.out hb)
  have nSG := Aside0.mk (Kd.S_below SG.out hb)
  have hs18 : (w16).heap.size ≤ (w17).heap.size := hb.size
  clear HB BX SW BY SG
  have HB := nB_
  have BX := nBX
  have SW := nSW
  have BY := nBY
  have SG := nSG
  clear nB_ nBX nSW nBY nSG
  clear hb hd_
  have xBX_0 : (w17).cell? ⟨w.heap.size, 0, none⟩ = some (.slice A0_0 l0_0.length c0_0) := (blk_cell BX.out 0).trans rfl
  have xBX_1 : (w17).cell? ⟨w.heap.size, 1, none⟩ = some (.slice A0_1 l0_1.length c0_1) := (blk_cell BX.out 1).trans rfl
  have xBX_2 : (w17).cell? ⟨w.heap.size, 2, none⟩ = some (.slice A0_2 l0_2.length c0_2) := (blk_cell BX.out 2).trans rfl
  go_wp2_with (fail)
  refine (laws_toState.calls kts _ _ l0_0 _ _ l0_1 _ _ l0_2 l0_0 T' l0_2 _ (Kd.C_below HR0.out HB.out) HC0.out (Kd.C_below HR1.out HB.out) HC1.out (Kd.C_below HR2.out HB.out) HC2.out hts.out).mono ?_
  rintro e w18 ⟨vSH0, vSH1, vSH2, rfl, q0, q1, q2, hb⟩
  have SH_ := Aside0.mk (St.made (base := w.heap.size) q0 q1 q2 (fun k h => h) (fun k h => h) (fun k h => h) HB.out.size)
  have nB_ := Aside0.mk (below_step HB.out hb)
  have nBX := Aside0.mk (blk_below BX.out hb)
  have nSW := Aside0.mk (Kd.S_below SW.out hb)
  have nBY := Aside0.mk (blk_below BY.out hb)
  have nSG := Aside0.mk (Kd.S_below SG.out hb)
  have hs19 : (w17).heap.size ≤ (w18).heap.size := hb.size
  clear HB BX SW BY SG
  have HB := nB_
  have BX := nBX
  have SW := nSW
  have BY := nBY
  have SG := nSG
  clear nB_ nBX nSW nBY nSG
  have SH := SH_
  clear SH_ q0 q1 q2 hb
  obtain ⟨ASH0, cSH0, ASH1, cSH1, ASH2, cSH2, e0, e1, e2⟩ := SH.out.slices
  subst e0 e1 e2
  clear xBX_0 xBX_1 xBX_2
  go_wp2_with (fail)
  refine (laws_toIntS.calls kti _ _ l1 l1 _ (Kd.C_below HR3.out HB.out) HC3.out hti.out).mono ?_
  rintro e w19 ⟨vIH, rfl, q0, hb⟩
  have IH_ := Aside0.mk (IR.made (base := w.heap.size) q0 HB.out.size)
  have nB_ := Aside0.mk (below_step HB.out hb)
  have nBX := Aside0.mk (blk_below BX.out hb)
  have nSW := Aside0.mk (Kd.S_below SW.out hb)
  have nBY := Aside0.mk (blk_below BY.out hb)
  have nSG := Aside0.mk (Kd.S_below SG.out hb)
  have nSH := Aside0.mk (SH.out.below hb)
  have hs20 : (w18).heap.size ≤ (w19).heap.size := hb.size
  clear HB BX SW BY SG SH
  have HB := nB_
  have BX := nBX
  have SW := nSW
  have BY := nBY
  have SG := nSG
  have SH := nSH
  clear nB_ nBX nSW nBY nSG nSH
  have IH := IH_
  clear IH_ q0 hb
  obtain ⟨AIH, cIH, e0⟩ := IH.out.slice
  subst e0
  go_wp2_with (fail)
  refine (implGuard_calls l1 _ (Kd.R_reads' SH.out.r0).2.2 (Kd.R_reads' SH.out.r0).2.1 (Kd.S_reads' SH.out.s1).2.2 (Kd.S_reads' SH.out.s1).2.1 (Kd.R_reads' SH.out.r2).2.2 (Kd.R_reads' SH.out.r2).2.1 (Kd.R_reads' IH.out).2.2 (Kd.R_reads' IH.out).2.1 hR hT hN).mono ?_
  rintro e w20 ⟨vSI, rfl, q0, hb⟩
  rw [HGD.out] at q0
  have SI_ := Aside0.mk (AR_made (base := w.heap.size) q0 HB.out.size)
  have nB_ := Aside0.mk (below_step HB.out hb)
  have nBX := Aside0.mk (blk_below BX.out hb)
  have nSW := Aside0.mk (Kd.S_below SW.out hb)
  have nBY := Aside0.mk (blk_below BY.out hb)
  have nSG := Aside0.mk (Kd.S_below SG.out hb)
  have nSH := Aside0.mk (SH.out.below hb)
  have nIH := Aside0.mk (IH.out.below hb)
  have hs21 : (w19).heap.size ≤ (w20).heap.size := hb.size
  clear HB BX SW BY SG SH IH
  have HB := nB_
  have BX := nBX
  have SW := nSW
  have BY := nBY
  have SG := nSG
  have SH := nSH
  have IH := nIH
  clear nB_ nBX nSW nBY nSG nSH nIH
  have SI := SI_
  clear SI_ q0 hb
  obtain ⟨ASI, cSI, e0⟩ := Kd.S_slice SI.out
  subst e0
  clear SH
  clear IH
  go_wp2_with (fail)
  refine (laws_eqAskedS.calls kea _ _ G _ _ G true _ (AR_C SI.out) (Kd.S_reads' SI.out).2.1 (AR_C SW.out) (Kd.S_reads' SW.out).2.1 hea.out).mono ?_
  rintro e w21 ⟨rfl, hb⟩
  have nB_ := Aside0.mk (below_step HB.out hb)
  have nBX := Aside0.mk (blk_below BX.out hb)
  have nSW := Aside0.mk (Kd.S_below SW.out hb)
  have nBY := Aside0.mk (blk_below BY.out hb)
  have nSG := Aside0.mk (Kd.S_below SG.out hb)
  have nSI := Aside0.mk (Kd.S_below SI.out hb)
  have hs22 : (w20).heap.size ≤ (w21).heap.size := hb.size
  clear HB BX SW BY SG SI
  have HB := nB_
  have BX := nBX
  have SW := nSW
  have BY := nBY
  have SG := nSG
  have SI := nSI
  clear nB_ nBX nSW nBY nSG nSI
  clear hb
  clear SI
  go_wp2_with (fail)
  refine calls_of_args (args' := #[.slice ASG (mkA 1 G).length cSG, .int .i64 1]) (by rw [HU.out]) ?_
  refine (laws_heldAskedS.calls kha _ _ (mkA 1 G) 1 _ _ (AR_C (n := (mkA 1 G).length) (by rw [HU.out]; exact SG.out)) (Kd.S_reads' (n := (mkA 1 G).length) (by rw [HU.out]; exact SG.out)).2.1 hha.out).mono ?_
  rintro e w22 ⟨rfl, hd_⟩
  have hb := hd_.below
  have nB_ := Aside0.mk (below_step HB.out hb)
  have nBX := Aside0.mk (blk_below BX.out hb)
  have nSW := Aside0.mk (Kd.S_below SW.out hb)
  have nBY := Aside0.mk (blk_below BY.out hb)
  have nSG := Aside0.mk (Kd.S_below SG.out hb)
  have hs23 : (w21).heap.size ≤ (w22).heap.size := hb.size
  clear HB BX SW BY SG
  have HB := nB_
  have BX := nBX
  have SW := nSW
  have BY := nBY
  have SG := nSG
  clear nB_ nBX nSW nBY nSG
  clear hb hd_
  go_wp2_with (fail)
  go_ret
  exact ⟨rfl, HB.out⟩
end Go.Proofs.Ytpbclogjoangfaa.Lw
