/- The law FnExactSolve, walked: its calls by their contracts, the state that is written over by markState's. -/
import Derived.Test.YtpbclogjoangfaaFnExactSolveLwBest
import Derived.Test.YtpbclogjoangfaaFnExactSolveQ4
import Derived.Test.YtpbclogjoangfaaFnExactSolveQ5
import Derived.Test.YtpbclogjoangfaaFnExactSolveQ6
import Derived.Test.YtpbclogjoangfaaFnExactSolveSo2
import Derived.Test.YtpbclogjoangfaaFnExactSolveSo4
namespace Go.Proofs.Ytpbclogjoangfaa.Lw
open Go.RowKit Go.Proofs.YtpbclogjoangfaaW.PrintWords Go.Proofs.YtpbclogjoangfaaW.PrintLast Go.Proofs.YtpbclogjoangfaaW.PrintMore Go.Proofs.Ytpbclogjoangfaa.Q Go.Proofs.Ytpbclogjoangfaa.Pu Go.Proofs.Ytpbclogjoangfaa.Mk Go.Proofs.Ytpbclogjoangfaa.So Go.Proofs.Ytpbclogjoangfaa.So
set_option linter.unusedVariables false
set_option linter.unusedSimpArgs false
set_option maxHeartbeats 4000000 in
set_option maxRecDepth 100000 in
theorem FnExactSolve_calls (A0_0 : Option Addr) (c0_0 : Nat) (l0_0 : List Int) (A0_1 : Option Addr) (c0_1 : Nat) (l0_1 : List S95) (A0_2 : Option Addr) (c0_2 : Nat) (l0_2 : List Int) (w : World) (hr0 : Kd.C (Kd.int .i64) w A0_0 l0_0.length l0_0) (hc0 : l0_0.length ≤ c0_0) (hr1 : Kd.C k95 w A0_1 l0_1.length l0_1) (hc1 : l0_1.length ≤ c0_1) (hr2 : Kd.C (Kd.int .i64) w A0_2 l0_2.length l0_2) (hc2 : l0_2.length ≤ c0_2) (hM : Mem l0_0 l0_1 l0_2)
  (hm : Small l0_0 l0_1 l0_2 → ∃ (mb : Bool) (mc : Int) (m : List Int), m.length ≤ 1048576 ∧ Ev (fun k => spec_Solve.f k l0_0 (l0_1.map cv) l0_2) (mb, mc, m) ∧ Ev (fun k => impl_Solve.f k l0_0 (l0_1.map cv) l0_2) (mb, mc, m)) :
  Calls Try.prog 10 #[.agg #[.slice A0_0 l0_0.length c0_0, .slice A0_1 l0_1.length c0_1, .slice A0_2 l0_2.length c0_2]] w fun e w' => e = .returned (.bool true) ∧ Below w.heap.size w w' := by
 have hu47 := Try.underlying47
 have hu26 := Try.underlying26
 have hu41 := Try.underlying41
 obtain ⟨r, er, hrr⟩ := szState_tells hM
 obtain ⟨ksz, hsz0⟩ := er.rounds
 have hsz := Aside0.mk hsz0
 clear hsz0 er
 have HR0 := Aside0.mk hr0
 have HC0 := Aside0.mk hc0
 have HR1 := Aside0.mk hr1
 have HC1 := Aside0.mk hc1
 have HR2 := Aside0.mk hr2
 have HC2 := Aside0.mk hc2
 clear hr0 hr1 hr2 hc0 hc1 hc2
 have HB := Aside0.mk ((Below.refl w.heap.size w).alloc (Nat.le_refl _) (.cells #[.slice A0_0 l0_0.length c0_0, .slice A0_1 l0_1.length c0_1, .slice A0_2 l0_2.length c0_2] 47))
 have BX := Aside0.mk (show (w.alloc (.cells #[.slice A0_0 l0_0.length c0_0, .slice A0_1 l0_1.length c0_1, .slice A0_2 l0_2.length c0_2] 47)).heap[w.heap.size]? = some (.cells #[.slice A0_0 l0_0.length c0_0, .slice A0_1 l0_1.length c0_1, .slice A0_2 l0_2.length c0_2] 47 (0, 0)) from by simpa using heap_alloc_new w (.cells #[.slice A0_0 l0_0.length c0_0, .slice A0_1 l0_1.length c0_1, .slice A0_2 l0_2.length c0_2] 47))
 have hsx : w.heap.size < (w.alloc (.cells #[.slice A0_0 l0_0.length c0_0, .slice A0_1 l0_1.length c0_1, .slice A0_2 l0_2.length c0_2] 47)).heap.size := by simp
 rcases hrr with hneg | ⟨hpos, hsmall⟩
 ·have hd0 : decide (r < 0) = true := decide_eq_true hneg
  go_enter Try.func10, Try.ntmps10
  go_wp2_with (fail)
  refine (laws_szState.calls ksz _ _ l0_0 _ _ l0_1 _ _ l0_2 1048576 r _ (Kd.C_below HR0.out HB.out) HC0.out (Kd.C_below HR1.out HB.out) HC1.out (Kd.C_below HR2.out HB.out) HC2.out hsz.out).mono ?_
  rintro e w1 ⟨rfl, hb⟩
  have nB_ := below_step HB.out hb
  clear hb
  go_wp2_with (fail)
  go_ret
  exact ⟨rfl, nB_⟩
 ·have hd0 : decide (r < 0) = false := decide_eq_false (by omega)
  obtain ⟨mb, mc, m, hml, hsp, him⟩ := hm hsmall
  obtain ⟨ksp, hsp10⟩ := (hsp).rounds
  have hsp1 := Aside0.mk hsp10
  clear hsp10
  obtain ⟨kim, him10⟩ := (him).rounds
  have him1 := Aside0.mk him10
  clear him10
  obtain ⟨kts, hts0⟩ := (toState_tells hsmall).rounds
  have hts := Aside0.mk hts0
  clear hts0
  obtain ⟨keq, heq0⟩ := (eqBest_same mb mc m (by omega)).rounds
  have heq := Aside0.mk heq0
  clear heq0
  have hPth := Small.paths hsmall
  have hT : (l0_1.map cv).length ≤ 1048576 := by simpa using hsmall.hT
  have hsz1 := Small.szT_le hsmall
  generalize hTT : l0_1.map cv = T' at *
  clear hTT
  have hR := hsmall.hR
  have hN := hsmall.hN
  obtain ⟨kst, hst0⟩ := (eqState_tells l0_0 T' l0_2 l0_0 T' l0_2 (by omega) (by omega) (by omega) hPth).rounds
  have hst := Aside0.mk (show laws_eqState.f kst l0_0 T' l0_2 l0_0 T' l0_2 = some true from by simpa using hst0)
  clear hst0
  obtain ⟨kmk, hmk0⟩ := (markBest_tells mb mc m 1 (by omega) (by omega)).rounds
  have hmk := Aside0.mk hmk0
  clear hmk0
  obtain ⟨khd, hhd0⟩ := (heldBest_tells mb mc m.length 1 (by omega) (by omega)).rounds
  have hhd := Aside0.mk hhd0
  clear hhd0
  have hszp := szT_pos T'
  have SM := Aside0.mk hsmall
  clear hsp him hsmall hm hM hPth
  have hml2 : (m.length : Int) ≤ 1048576 := by omega
  have hd1 : decide ((1 : Int) + l0_0.length + szT T' + l0_2.length < 0) = false := decide_eq_false (by omega)
  have hd2 : decide ((1 : Int) + m.length < 0) = false := decide_eq_false (by omega)
  go_enter Try.func10, Try.ntmps10
  go_wp2_with (fail)
  refine (laws_szState.calls ksz _ _ l0_0 _ _ l0_1 _ _ l0_2 1048576 r _ (Kd.C_below HR0.out HB.out) HC0.out (Kd.C_below HR1.out HB.out) HC1.out (Kd.C_below HR2.out HB.out) HC2.out hsz.out).mono ?_
  rintro e w1 ⟨rfl, hb⟩
  have nB_ := Aside0.mk (below_step HB.out hb)
  have nBX := Aside0.mk (blk_below BX.out hb)
  have hs0 : ((w.alloc (.cells #[.slice A0_0 l0_0.length c0_0, .slice A0_1 l0_1.length c0_1, .slice A0_2 l0_2.length c0_2] 47))).heap.size ≤ (w1).heap.size := hb.size
  clear HB BX
  have HB := nB_
  have BX := nBX
  clear nB_ nBX
  clear hb
  have xBX_0 : (w1).cell? ⟨w.heap.size, 0, none⟩ = some (.slice A0_0 l0_0.length c0_0) := (blk_cell BX.out 0).trans rfl
  have xBX_1 : (w1).cell? ⟨w.heap.size, 1, none⟩ = some (.slice A0_1 l0_1.length c0_1) := (blk_cell BX.out 1).trans rfl
  have xBX_2 : (w1).cell? ⟨w.heap.size, 2, none⟩ = some (.slice A0_2 l0_2.length c0_2) := (blk_cell BX.out 2).trans rfl
  go_wp2_with (fail)
  refine (laws_toState.calls kts _ _ l0_0 _ _ l0_1 _ _ l0_2 l0_0 T' l0_2 _ (Kd.C_below HR0.out HB.out) HC0.out (Kd.C_below HR1.out HB.out) HC1.out (Kd.C_below HR2.out HB.out) HC2.out hts.out).mono ?_
  rintro e w2 ⟨vSA0, vSA1, vSA2, rfl, q0, q1, q2, hb⟩
  have SA_ := Aside0.mk (St.made (base := w.heap.size) q0 q1 q2 (fun k h => h) (fun k h => h) (fun k h => h) HB.out.size)
  have nB_ := Aside0.mk (below_step HB.out hb)
  have nBX := Aside0.mk (blk_below BX.out hb)
  have hs1 : (w1).heap.size ≤ (w2).heap.size := hb.size
  clear HB BX
  have HB := nB_
  have BX := nBX
  clear nB_ nBX
  have SA := SA_
  clear SA_ q0 q1 q2 hb
  obtain ⟨ASA0, cSA0, ASA1, cSA1, ASA2, cSA2, e0, e1, e2⟩ := SA.out.slices
  subst e0 e1 e2
  clear xBX_0 xBX_1 xBX_2
  go_wp2_with (fail)
  refine (spec_Solve.calls ksp _ _ l0_0 _ _ T' _ _ l0_2 mb mc m _ (Kd.R_reads' SA.out.r0).2.2 (Kd.R_reads' SA.out.r0).2.1 (Kd.S_reads' SA.out.s1).2.2 (Kd.S_reads' SA.out.s1).2.1 (Kd.R_reads' SA.out.r2).2.2 (Kd.R_reads' SA.out.r2).2.1 hsp1.out).mono ?_
  rintro e w3 ⟨vHW, rfl, q0, hb⟩
  have HW_ := Aside0.mk (IR.made (base := w.heap.size) q0 HB.out.size)
  have nB_ := Aside0.mk (below_step HB.out hb)
  have nBX := Aside0.mk (blk_below BX.out hb)
  have nSA := Aside0.mk (SA.out.below hb)
  have hs2 : (w2).heap.size ≤ (w3).heap.size := hb.size
  clear HB BX SA
  have HB := nB_
  have BX := nBX
  have SA := nSA
  clear nB_ nBX nSA
  have HW := HW_
  clear HW_ q0 hb
  obtain ⟨AHW, cHW, e0⟩ := HW.out.slice
  subst e0
  clear SA
  have hbA := (Below.refl (w3).heap.size w3).alloc (Nat.le_refl _) (.cells #[.bool mb, .int .i64 mc, .slice AHW m.length cHW] 41)
  have BW_ := Aside0.mk (show ((w3).alloc (.cells #[.bool mb, .int .i64 mc, .slice AHW m.length cHW] 41)).heap[(w3).heap.size]? = some (.cells #[.bool mb, .int .i64 mc, .slice AHW m.length cHW] 41 (0, 0)) from by simpa using heap_alloc_new w3 (.cells #[.bool mb, .int .i64 mc, .slice AHW m.length cHW] 41))
  have hsBW : (w3).heap.size < ((w3).alloc (.cells #[.bool mb, .int .i64 mc, .slice AHW m.length cHW] 41)).heap.size := by simp
  have nB_ := Aside0.mk (below_step HB.out hbA)
  have nBX := Aside0.mk (blk_below BX.out hbA)
  have nHW := Aside0.mk (HW.out.below hbA)
  have hs3 : (w3).heap.size ≤ ((w3.alloc (.cells #[.bool mb, .int .i64 mc, .slice AHW m.length cHW] 41))).heap.size := hbA.size
  clear HB BX HW
  have HB := nB_
  have BX := nBX
  have HW := nHW
  clear nB_ nBX nHW
  have BW := BW_
  clear BW_ hbA
  have xBX_0 : ((w3.alloc (.cells #[.bool mb, .int .i64 mc, .slice AHW m.length cHW] 41))).cell? ⟨w.heap.size, 0, none⟩ = some (.slice A0_0 l0_0.length c0_0) := (blk_cell BX.out 0).trans rfl
  have xBX_1 : ((w3.alloc (.cells #[.bool mb, .int .i64 mc, .slice AHW m.length cHW] 41))).cell? ⟨w.heap.size, 1, none⟩ = some (.slice A0_1 l0_1.length c0_1) := (blk_cell BX.out 1).trans rfl
  have xBX_2 : ((w3.alloc (.cells #[.bool mb, .int .i64 mc, .slice AHW m.length cHW] 41))).cell? ⟨w.heap.size, 2, none⟩ = some (.slice A0_2 l0_2.length c0_2) := (blk_cell BX.out 2).trans rfl
  go_wp2_with (fail)
  refine (laws_toState.calls kts _ _ l0_0 _ _ l0_1 _ _ l0_2 l0_0 T' l0_2 _ (Kd.C_below HR0.out HB.out) HC0.out (Kd.C_below HR1.out HB.out) HC1.out (Kd.C_below HR2.out HB.out) HC2.out hts.out).mono ?_
  rintro e w4 ⟨vSX0, vSX1, vSX2, rfl, q0, q1, q2, hb⟩
  have SX_ := Aside0.mk (St.made (base := w.heap.size) q0 q1 q2 (fun k h => h) (fun k h => h) (fun k h => h) HB.out.size)
  have nB_ := Aside0.mk (below_step HB.out hb)
  have nBX := Aside0.mk (blk_below BX.out hb)
  have nBW := Aside0.mk (blk_below BW.out hb)
  have nHW := Aside0.mk (HW.out.below hb)
  have hs4 : ((w3.alloc (.cells #[.bool mb, .int .i64 mc, .slice AHW m.length cHW] 41))).heap.size ≤ (w4).heap.size := hb.size
  clear HB BX BW HW
  have HB := nB_
  have BX := nBX
  have BW := nBW
  have HW := nHW
  clear nB_ nBX nBW nHW
  have SX := SX_
  clear SX_ q0 q1 q2 hb
  obtain ⟨ASX0, cSX0, ASX1, cSX1, ASX2, cSX2, e0, e1, e2⟩ := SX.out.slices
  subst e0 e1 e2
  clear xBX_0 xBX_1 xBX_2
  have hbA := (Below.refl (w4).heap.size w4).alloc (Nat.le_refl _) (.cells #[.slice ASX0 l0_0.length cSX0, .slice ASX1 T'.length cSX1, .slice ASX2 l0_2.length cSX2] 26)
  have BY_ := Aside0.mk (show ((w4).alloc (.cells #[.slice ASX0 l0_0.length cSX0, .slice ASX1 T'.length cSX1, .slice ASX2 l0_2.length cSX2] 26)).heap[(w4).heap.size]? = some (.cells #[.slice ASX0 l0_0.length cSX0, .slice ASX1 T'.length cSX1, .slice ASX2 l0_2.length cSX2] 26 (0, 0)) from by simpa using heap_alloc_new w4 (.cells #[.slice ASX0 l0_0.length cSX0, .slice ASX1 T'.length cSX1, .slice ASX2 l0_2.length cSX2] 26))
  have hsy : (w4).heap.size < ((w4).alloc (.cells #[.slice ASX0 l0_0.length cSX0, .slice ASX1 T'.length cSX1, .slice ASX2 l0_2.length cSX2] 26)).heap.size := by simp
  have nB_ := Aside0.mk (below_step HB.out hbA)
  have nBX := Aside0.mk (blk_below BX.out hbA)
  have nBW := Aside0.mk (blk_below BW.out hbA)
  have nHW := Aside0.mk (HW.out.below hbA)
  have nSX := Aside0.mk (SX.out.below hbA)
  have hs5 : (w4).heap.size ≤ ((w4.alloc (.cells #[.slice ASX0 l0_0.length cSX0, .slice ASX1 T'.length cSX1, .slice ASX2 l0_2.length cSX2] 26))).heap.size := hbA.size
  clear HB BX BW HW SX
  have HB := nB_
  have BX := nBX
  have BW := nBW
  have HW := nHW
  have SX := nSX
  clear nB_ nBX nBW nHW nSX
  have BY := BY_
  clear BY_ hbA
  have xBY_0 : ((w4.alloc (.cells #[.slice ASX0 l0_0.length cSX0, .slice ASX1 T'.length cSX1, .slice ASX2 l0_2.length cSX2] 26))).cell? ⟨w4.heap.size, 0, none⟩ = some (.slice ASX0 l0_0.length cSX0) := (blk_cell BY.out 0).trans rfl
  have xBY_1 : ((w4.alloc (.cells #[.slice ASX0 l0_0.length cSX0, .slice ASX1 T'.length cSX1, .slice ASX2 l0_2.length cSX2] 26))).cell? ⟨w4.heap.size, 1, none⟩ = some (.slice ASX1 T'.length cSX1) := (blk_cell BY.out 1).trans rfl
  have xBY_2 : ((w4.alloc (.cells #[.slice ASX0 l0_0.length cSX0, .slice ASX1 T'.length cSX1, .slice ASX2 l0_2.length cSX2] 26))).cell? ⟨w4.heap.size, 2, none⟩ = some (.slice ASX2 l0_2.length cSX2) := (blk_cell BY.out 2).trans rfl
  go_wp2_with (fail)
  refine (impl_Solve.calls kim _ _ l0_0 _ _ T' _ _ l0_2 mb mc m _ (Kd.R_reads' SX.out.r0).2.2 (Kd.R_reads' SX.out.r0).2.1 (Kd.S_reads' SX.out.s1).2.2 (Kd.S_reads' SX.out.s1).2.1 (Kd.R_reads' SX.out.r2).2.2 (Kd.R_reads' SX.out.r2).2.1 him1.out).mono ?_
  rintro e w5 ⟨vHG, rfl, q0, hb⟩
  have HG_ := Aside0.mk (IR.made (base := w.heap.size) q0 HB.out.size)
  have nB_ := Aside0.mk (below_step HB.out hb)
  have nBX := Aside0.mk (blk_below BX.out hb)
  have nBW := Aside0.mk (blk_below BW.out hb)
  have nBY := Aside0.mk (blk_below BY.out hb)
  have nHW := Aside0.mk (HW.out.below hb)
  have nSX := Aside0.mk (SX.out.below hb)
  have hs6 : ((w4.alloc (.cells #[.slice ASX0 l0_0.length cSX0, .slice ASX1 T'.length cSX1, .slice ASX2 l0_2.length cSX2] 26))).heap.size ≤ (w5).heap.size := hb.size
  clear HB BX BW BY HW SX
  have HB := nB_
  have BX := nBX
  have BW := nBW
  have BY := nBY
  have HW := nHW
  have SX := nSX
  clear nB_ nBX nBW nBY nHW nSX
  have HG := HG_
  clear HG_ q0 hb
  obtain ⟨AHG, cHG, e0⟩ := HG.out.slice
  subst e0
  clear xBY_0 xBY_1 xBY_2
  have hbA := (Below.refl (w5).heap.size w5).alloc (Nat.le_refl _) (.cells #[.bool mb, .int .i64 mc, .slice AHG m.length cHG] 41)
  have BG_ := Aside0.mk (show ((w5).alloc (.cells #[.bool mb, .int .i64 mc, .slice AHG m.length cHG] 41)).heap[(w5).heap.size]? = some (.cells #[.bool mb, .int .i64 mc, .slice AHG m.length cHG] 41 (0, 0)) from by simpa using heap_alloc_new w5 (.cells #[.bool mb, .int .i64 mc, .slice AHG m.length cHG] 41))
  have hsBG : (w5).heap.size < ((w5).alloc (.cells #[.bool mb, .int .i64 mc, .slice AHG m.length cHG] 41)).heap.size := by simp
  have nB_ := Aside0.mk (below_step HB.out hbA)
  have nBX := Aside0.mk (blk_below BX.out hbA)
  have nBW := Aside0.mk (blk_below BW.out hbA)
  have nBY := Aside0.mk (blk_below BY.out hbA)
  have nHW := Aside0.mk (HW.out.below hbA)
  have nHG := Aside0.mk (HG.out.below hbA)
  have nSX := Aside0.mk (SX.out.below hbA)
  have hs7 : (w5).heap.size ≤ ((w5.alloc (.cells #[.bool mb, .int .i64 mc, .slice AHG m.length cHG] 41))).heap.size := hbA.size
  clear HB BX BW BY HW HG SX
  have HB := nB_
  have BX := nBX
  have BW := nBW
  have BY := nBY
  have HW := nHW
  have HG := nHG
  have SX := nSX
  clear nB_ nBX nBW nBY nHW nHG nSX
  have BG := BG_
  clear BG_ hbA
  have xBG_0 : ((w5.alloc (.cells #[.bool mb, .int .i64 mc, .slice AHG m.length cHG] 41))).cell? ⟨w5.heap.size, 0, none⟩ = some (.bool mb) := (blk_cell BG.out 0).trans rfl
  have xBG_1 : ((w5.alloc (.cells #[.bool mb, .int .i64 mc, .slice AHG m.length cHG] 41))).cell? ⟨w5.heap.size, 1, none⟩ = some (.int .i64 mc) := (blk_cell BG.out 1).trans rfl
  have xBG_2 : ((w5.alloc (.cells #[.bool mb, .int .i64 mc, .slice AHG m.length cHG] 41))).cell? ⟨w5.heap.size, 2, none⟩ = some (.slice AHG m.length cHG) := (blk_cell BG.out 2).trans rfl
  have xBW_0 : ((w5.alloc (.cells #[.bool mb, .int .i64 mc, .slice AHG m.length cHG] 41))).cell? ⟨w3.heap.size, 0, none⟩ = some (.bool mb) := (blk_cell BW.out 0).trans rfl
  have xBW_1 : ((w5.alloc (.cells #[.bool mb, .int .i64 mc, .slice AHG m.length cHG] 41))).cell? ⟨w3.heap.size, 1, none⟩ = some (.int .i64 mc) := (blk_cell BW.out 1).trans rfl
  have xBW_2 : ((w5.alloc (.cells #[.bool mb, .int .i64 mc, .slice AHG m.length cHG] 41))).cell? ⟨w3.heap.size, 2, none⟩ = some (.slice AHW m.length cHW) := (blk_cell BW.out 2).trans rfl
  go_wp2_with (fail)
  refine (laws_eqBest.calls keq mb mc _ _ m mb mc _ _ m true _ (Kd.R_reads' HG.out).2.2 (Kd.R_reads' HG.out).2.1 (Kd.R_reads' HW.out).2.2 (Kd.R_reads' HW.out).2.1 heq.out).mono ?_
  rintro e w6 ⟨rfl, hb⟩
  have nB_ := Aside0.mk (below_step HB.out hb)
  have nBX := Aside0.mk (blk_below BX.out hb)
  have nBW := Aside0.mk (blk_below BW.out hb)
  have nBY := Aside0.mk (blk_below BY.out hb)
  have nBG := Aside0.mk (blk_below BG.out hb)
  have nHW := Aside0.mk (HW.out.below hb)
  have nHG := Aside0.mk (HG.out.below hb)
  have nSX := Aside0.mk (SX.out.below hb)
  have hs8 : ((w5.alloc (.cells #[.bool mb, .int .i64 mc, .slice AHG m.length cHG] 41))).heap.size ≤ (w6).heap.size := hb.size
  clear HB BX BW BY BG HW HG SX
  have HB := nB_
  have BX := nBX
  have BW := nBW
  have BY := nBY
  have BG := nBG
  have HW := nHW
  have HG := nHG
  have SX := nSX
  clear nB_ nBX nBW nBY nBG nHW nHG nSX
  clear hb
  clear xBG_0 xBG_1 xBG_2
  clear xBW_0 xBW_1 xBW_2
  go_wp2_with (fail)
  have hbD := below_drew (Below.refl (w6).heap.size w6)
  have nB_ := Aside0.mk (below_step HB.out hbD)
  have nBX := Aside0.mk (blk_below BX.out hbD)
  have nBW := Aside0.mk (blk_below BW.out hbD)
  have nBY := Aside0.mk (blk_below BY.out hbD)
  have nBG := Aside0.mk (blk_below BG.out hbD)
  have nHW := Aside0.mk (HW.out.below hbD)
  have nHG := Aside0.mk (HG.out.below hbD)
  have nSX := Aside0.mk (SX.out.below hbD)
  have hs9 : (w6).heap.size ≤ (w6.drew).heap.size := hbD.size
  clear HB BX BW BY BG HW HG SX
  have HB := nB_
  have BX := nBX
  have BW := nBW
  have BY := nBY
  have BG := nBG
  have HW := nHW
  have HG := nHG
  have SX := nSX
  clear nB_ nBX nBW nBY nBG nHW nHG nSX
  clear hbD
  refine start_ (n := 5) (S := fun w' => w'.cell? ⟨w4.heap.size, 0, none⟩ = some (.slice ASX0 l0_0.length cSX0) ∧ w'.cell? ⟨w4.heap.size, 1, none⟩ = some (.slice ASX1 T'.length cSX1) ∧ w'.cell? ⟨w4.heap.size, 2, none⟩ = some (.slice ASX2 l0_2.length cSX2) ∧ w'.cell? ⟨w.heap.size, 0, none⟩ = some (.slice A0_0 l0_0.length c0_0) ∧ w'.cell? ⟨w.heap.size, 1, none⟩ = some (.slice A0_1 l0_1.length c0_1) ∧ w'.cell? ⟨w.heap.size, 2, none⟩ = some (.slice A0_2 l0_2.length c0_2)) (ds := []) #[false, false, false, false, false] (by kernel_rfl) rfl rfl ⟨(blk_cell BY.out 0).trans rfl, (blk_cell BY.out 1).trans rfl, (blk_cell BY.out 2).trans rfl, (blk_cell BX.out 0).trans rfl, (blk_cell BX.out 1).trans rfl, (blk_cell BX.out 2).trans rfl⟩ (fun hHeld => ?_)
  generalize hwd : w6.drew = wd at *
  clear hwd
  refine take_ (i := 0) (N := some 27) (v := ?_) (a' := ?_) #[true, false, false, false, false] rfl rfl (by kernel_rfl) (fun _ _ _ h => h) (Or.inl ⟨by rfl, ?_⟩) hHeld ?_ ?_
  rotate_left
  ·rintro w' ⟨s0, s1, s2, s3, s4, s5⟩
   go_simp
   with_reducible rfl
  rotate_left
  ·simp only [Act.put, List.setIfInBounds_toArray, List.set_cons_zero, List.set_cons_succ, i64_w, i32_w]
   rfl
  refine take_ (i := 1) (N := some 28) (v := ?_) (a' := ?_) #[true, true, false, false, false] rfl rfl (by kernel_rfl) (fun _ _ _ h => h) (Or.inl ⟨by rfl, ?_⟩) hHeld ?_ ?_
  rotate_left
  ·rintro w' ⟨s0, s1, s2, s3, s4, s5⟩
   go_simp
   with_reducible rfl
  rotate_left
  ·simp only [Act.put, List.setIfInBounds_toArray, List.set_cons_zero, List.set_cons_succ, i64_w, i32_w]
   rfl
  refine one_ (i := 2) (N := some 29) #[true, true, true, false, false] rfl rfl (by kernel_rfl) (by decide) (fun K hK => ?_)
  refine goes_ Try.func29 (by kernel_rfl) rfl #[.agg #[.slice A0_0 l0_0.length c0_0, .slice A0_1 l0_1.length c0_1, .slice A0_2 l0_2.length c0_2]] (by rfl) rfl rfl (by (try simp only [List.map_toArray, List.map_cons, List.map_nil]); rfl) ?_
  refine (laws_toState.calls kts _ _ l0_0 _ _ l0_1 _ _ l0_2 l0_0 T' l0_2 _ (Kd.C_below HR0.out HB.out) HC0.out (Kd.C_below HR1.out HB.out) HC1.out (Kd.C_below HR2.out HB.out) HC2.out hts.out).mono ?_
  rintro e w7 ⟨vSQ0, vSQ1, vSQ2, rfl, q0, q1, q2, hb⟩
  refine ⟨_, rfl, ?_⟩
  have SQ_ := Aside0.mk (St.made (base := w.heap.size) q0 q1 q2 (fun k h => h) (fun k h => h) (fun k h => h) HB.out.size)
  have nB_ := Aside0.mk (below_step HB.out hb)
  have nBX := Aside0.mk (blk_below BX.out hb)
  have nBW := Aside0.mk (blk_below BW.out hb)
  have nBY := Aside0.mk (blk_below BY.out hb)
  have nBG := Aside0.mk (blk_below BG.out hb)
  have nHW := Aside0.mk (HW.out.below hb)
  have nHG := Aside0.mk (HG.out.below hb)
  have nSX := Aside0.mk (SX.out.below hb)
  have hs10 : (wd).heap.size ≤ (w7).heap.size := hb.size
  clear HB BX BW BY BG HW HG SX
  have HB := nB_
  have BX := nBX
  have BW := nBW
  have BY := nBY
  have BG := nBG
  have HW := nHW
  have HG := nHG
  have SX := nSX
  clear nB_ nBX nBW nBY nBG nHW nHG nSX
  have SQ := SQ_
  clear SQ_ q0 q1 q2 hb
  obtain ⟨ASQ0, cSQ0, ASQ1, cSQ1, ASQ2, cSQ2, e0, e1, e2⟩ := SQ.out.slices
  subst e0 e1 e2
  refine hK.out _ _ ⟨(blk_cell BY.out 0).trans rfl, (blk_cell BY.out 1).trans rfl, (blk_cell BY.out 2).trans rfl, (blk_cell BX.out 0).trans rfl, (blk_cell BX.out 1).trans rfl, (blk_cell BX.out 2).trans rfl⟩ (fun hHeld => ?_)
  clear hK K
  refine norm_ (a' := ?_) ?_ ?_
  rotate_left
  ·show Act.put _ (some 29) _ = _
   simp only [Act.put, List.setIfInBounds_toArray, List.set_cons_zero, List.set_cons_succ, i64_w, i32_w]
   rfl
  refine one_ (i := 3) (N := some 30) #[true, true, true, true, false] rfl rfl (by kernel_rfl) (by decide) (fun K hK => ?_)
  refine goes_ Try.func31 (by kernel_rfl) rfl #[.agg #[.slice ASX0 l0_0.length cSX0, .slice ASX1 T'.length cSX1, .slice ASX2 l0_2.length cSX2], .agg #[.slice ASQ0 l0_0.length cSQ0, .slice ASQ1 T'.length cSQ1, .slice ASQ2 l0_2.length cSQ2]] (by rfl) rfl rfl (by (try simp only [List.map_toArray, List.map_cons, List.map_nil]); rfl) ?_
  refine (laws_eqState.calls kst _ _ l0_0 _ _ T' _ _ l0_2 _ _ l0_0 _ _ T' _ _ l0_2 true _ (Kd.R_reads' SX.out.r0).2.2 (Kd.R_reads' SX.out.r0).2.1 (Kd.S_reads' SX.out.s1).2.2 (Kd.S_reads' SX.out.s1).2.1 (Kd.R_reads' SX.out.r2).2.2 (Kd.R_reads' SX.out.r2).2.1 (Kd.R_reads' SQ.out.r0).2.2 (Kd.R_reads' SQ.out.r0).2.1 (Kd.S_reads' SQ.out.s1).2.2 (Kd.S_reads' SQ.out.s1).2.1 (Kd.R_reads' SQ.out.r2).2.2 (Kd.R_reads' SQ.out.r2).2.1 hst.out).mono ?_
  rintro e w8 ⟨rfl, hb⟩
  refine ⟨_, rfl, ?_⟩
  clear SQ
  have nB_ := Aside0.mk (below_step HB.out hb)
  have nBX := Aside0.mk (blk_below BX.out hb)
  have nBW := Aside0.mk (blk_below BW.out hb)
  have nBY := Aside0.mk (blk_below BY.out hb)
  have nBG := Aside0.mk (blk_below BG.out hb)
  have nHW := Aside0.mk (HW.out.below hb)
  have nHG := Aside0.mk (HG.out.below hb)
  have nSX := Aside0.mk (SX.out.below hb)
  have hs11 : (w7).heap.size ≤ (w8).heap.size := hb.size
  clear HB BX BW BY BG HW HG SX
  have HB := nB_
  have BX := nBX
  have BW := nBW
  have BY := nBY
  have BG := nBG
  have HW := nHW
  have HG := nHG
  have SX := nSX
  clear nB_ nBX nBW nBY nBG nHW nHG nSX
  clear hb
  refine hK.out _ _ ⟨(blk_cell BY.out 0).trans rfl, (blk_cell BY.out 1).trans rfl, (blk_cell BY.out 2).trans rfl, (blk_cell BX.out 0).trans rfl, (blk_cell BX.out 1).trans rfl, (blk_cell BX.out 2).trans rfl⟩ (fun hHeld => ?_)
  clear hK K
  refine norm_ (a' := ?_) ?_ ?_
  rotate_left
  ·show Act.put _ (some 30) _ = _
   simp only [Act.put, List.setIfInBounds_toArray, List.set_cons_zero, List.set_cons_succ, i64_w, i32_w]
   rfl
  refine pure_ (i := 4) (N := some 31) (v := ?_) (a' := ?_) #[true, true, true, true, true] rfl rfl (by kernel_rfl) (fun _ _ _ h => h) (Or.inl ⟨by rfl, ?_⟩) ?_ ?_
  rotate_left
  ·intro w'
   go_simp
   with_reducible rfl
  rotate_left
  ·simp only [Act.put, List.setIfInBounds_toArray, List.set_cons_zero, List.set_cons_succ, i64_w, i32_w]
   rfl
  refine done_ (by kernel_rfl) ?_
  have xBY_0 : (w8).cell? ⟨w4.heap.size, 0, none⟩ = some (.slice ASX0 l0_0.length cSX0) := (blk_cell BY.out 0).trans rfl
  have xBY_1 : (w8).cell? ⟨w4.heap.size, 1, none⟩ = some (.slice ASX1 T'.length cSX1) := (blk_cell BY.out 1).trans rfl
  have xBY_2 : (w8).cell? ⟨w4.heap.size, 2, none⟩ = some (.slice ASX2 l0_2.length cSX2) := (blk_cell BY.out 2).trans rfl
  go_wp2_with (fail)
  refine (markState_calls w _ HB.out _ _ _ _ l0_0 T' l0_2 1 SX.out (by omega) hT (by omega)).mono ?_
  rintro e w9 ⟨rfl, hst2, hb, hk⟩
  clear xBY_0 xBY_1 xBY_2
  clear SX
  have nB_ := Aside0.mk hb
  have nBX := Aside0.mk (blk_kept BX.out hk (fun hs => by have h1_ := hs.1; have h2_ := hs.2; omega))
  have nBW := Aside0.mk (blk_kept BW.out hk (fun hs => by have h1_ := hs.1; have h2_ := hs.2; omega))
  have nBY := Aside0.mk (blk_kept BY.out hk (fun hs => by have h1_ := hs.1; have h2_ := hs.2; omega))
  have nBG := Aside0.mk (blk_kept BG.out hk (fun hs => by have h1_ := hs.1; have h2_ := hs.2; omega))
  have nHW := Aside0.mk (HW.out.kept hk (by omega))
  have nHG := Aside0.mk (HG.out.kept hk (by omega))
  have hs12 : (w8).heap.size ≤ (w9).heap.size := hk.1
  clear HB BX BW BY BG HW HG
  have HB := nB_
  have BX := nBX
  have BW := nBW
  have BY := nBY
  have BG := nBG
  have HW := nHW
  have HG := nHG
  clear nB_ nBX nBW nBY nBG nHW nHG
  clear hst2 hb hk
  clear BY
  have xBG_0 : (w9).cell? ⟨w5.heap.size, 0, none⟩ = some (.bool mb) := (blk_cell BG.out 0).trans rfl
  have xBG_1 : (w9).cell? ⟨w5.heap.size, 1, none⟩ = some (.int .i64 mc) := (blk_cell BG.out 1).trans rfl
  have xBG_2 : (w9).cell? ⟨w5.heap.size, 2, none⟩ = some (.slice AHG m.length cHG) := (blk_cell BG.out 2).trans rfl
  have xBW_0 : (w9).cell? ⟨w3.heap.size, 0, none⟩ = some (.bool mb) := (blk_cell BW.out 0).trans rfl
  have xBW_1 : (w9).cell? ⟨w3.heap.size, 1, none⟩ = some (.int .i64 mc) := (blk_cell BW.out 1).trans rfl
  have xBW_2 : (w9).cell? ⟨w3.heap.size, 2, none⟩ = some (.slice AHW m.length cHW) := (blk_cell BW.out 2).trans rfl
  go_wp2_with (fail)
  refine (laws_eqBest.calls keq mb mc _ _ m mb mc _ _ m true _ (Kd.R_reads' HG.out).2.2 (Kd.R_reads' HG.out).2.1 (Kd.R_reads' HW.out).2.2 (Kd.R_reads' HW.out).2.1 heq.out).mono ?_
  rintro e w10 ⟨rfl, hb⟩
  have nB_ := Aside0.mk (below_step HB.out hb)
  have nBX := Aside0.mk (blk_below BX.out hb)
  have nBW := Aside0.mk (blk_below BW.out hb)
  have nBG := Aside0.mk (blk_below BG.out hb)
  have nHW := Aside0.mk (HW.out.below hb)
  have nHG := Aside0.mk (HG.out.below hb)
  have hs13 : (w9).heap.size ≤ (w10).heap.size := hb.size
  clear HB BX BW BG HW HG
  have HB := nB_
  have BX := nBX
  have BW := nBW
  have BG := nBG
  have HW := nHW
  have HG := nHG
  clear nB_ nBX nBW nBG nHW nHG
  clear hb
  clear xBG_0 xBG_1 xBG_2
  clear xBW_0 xBW_1 xBW_2
  have xBG_0 : (w10).cell? ⟨w5.heap.size, 0, none⟩ = some (.bool mb) := (blk_cell BG.out 0).trans rfl
  have xBG_1 : (w10).cell? ⟨w5.heap.size, 1, none⟩ = some (.int .i64 mc) := (blk_cell BG.out 1).trans rfl
  have xBG_2 : (w10).cell? ⟨w5.heap.size, 2, none⟩ = some (.slice AHG m.length cHG) := (blk_cell BG.out 2).trans rfl
  go_wp2_with (fail)
  refine (laws_markBest.calls kmk mb mc (Rng ((w4.alloc (.cells #[.slice ASX0 l0_0.length cSX0, .slice ASX1 T'.length cSX1, .slice ASX2 l0_2.length cSX2] 26))).heap.size (w5).heap.size) _ m 1 _ _ w _ HB.out HG.out hmk.out).mono ?_
  rintro e w11 ⟨rfl, q0, hb, hk⟩
  clear xBG_0 xBG_1 xBG_2
  have HG_ := Aside0.mk (IR.marked HG.out q0)
  clear HG
  have nB_ := Aside0.mk hb
  have nBX := Aside0.mk (blk_kept BX.out hk (fun hs => by have h1_ := hs.1; have h2_ := hs.2; omega))
  have nBW := Aside0.mk (blk_kept BW.out hk (fun hs => by have h1_ := hs.1; have h2_ := hs.2; omega))
  have nBG := Aside0.mk (blk_kept BG.out hk (fun hs => by have h1_ := hs.1; have h2_ := hs.2; omega))
  have nHW := Aside0.mk (HW.out.kept hk (by omega))
  have hs14 : (w10).heap.size ≤ (w11).heap.size := hk.1
  clear HB BX BW BG HW
  have HB := nB_
  have BX := nBX
  have BW := nBW
  have BG := nBG
  have HW := nHW
  clear nB_ nBX nBW nBG nHW
  have HG := HG_
  clear HG_ q0 hb hk
  have hul := upTo_len m.length 1
  have HUL := Aside0.mk hul
  clear hul
  have xBG_0 : (w11).cell? ⟨w5.heap.size, 0, none⟩ = some (.bool mb) := (blk_cell BG.out 0).trans rfl
  have xBG_1 : (w11).cell? ⟨w5.heap.size, 1, none⟩ = some (.int .i64 mc) := (blk_cell BG.out 1).trans rfl
  have xBG_2 : (w11).cell? ⟨w5.heap.size, 2, none⟩ = some (.slice AHG m.length cHG) := (blk_cell BG.out 2).trans rfl
  go_wp2_with (fail)
  refine calls_of_args (args' := #[.agg #[.bool mb, .int .i64 mc, .slice AHG (upTo 1 m.length).length cHG], .int .i64 1]) (by rw [HUL.out]) ?_
  refine (laws_heldBest.calls khd mb mc _ _ (upTo 1 m.length) 1 _ _ (Kd.R_reads' (n := (upTo 1 m.length).length) (by rw [HUL.out]; exact HG.out)).2.2 (Kd.R_reads' (n := (upTo 1 m.length).length) (by rw [HUL.out]; exact HG.out)).2.1 hhd.out).mono ?_
  rintro e w12 ⟨rfl, hb⟩
  have nB_ := Aside0.mk (below_step HB.out hb)
  have nBX := Aside0.mk (blk_below BX.out hb)
  have nBW := Aside0.mk (blk_below BW.out hb)
  have nBG := Aside0.mk (blk_below BG.out hb)
  have nHW := Aside0.mk (HW.out.below hb)
  have nHG := Aside0.mk (HG.out.below hb)
  have hs15 : (w11).heap.size ≤ (w12).heap.size := hb.size
  clear HB BX BW BG HW HG
  have HB := nB_
  have BX := nBX
  have BW := nBW
  have BG := nBG
  have HW := nHW
  have HG := nHG
  clear nB_ nBX nBW nBG nHW nHG
  clear hb
  clear xBG_0 xBG_1 xBG_2
  have xBX_0 : (w12).cell? ⟨w.heap.size, 0, none⟩ = some (.slice A0_0 l0_0.length c0_0) := (blk_cell BX.out 0).trans rfl
  have xBX_1 : (w12).cell? ⟨w.heap.size, 1, none⟩ = some (.slice A0_1 l0_1.length c0_1) := (blk_cell BX.out 1).trans rfl
  have xBX_2 : (w12).cell? ⟨w.heap.size, 2, none⟩ = some (.slice A0_2 l0_2.length c0_2) := (blk_cell BX.out 2).trans rfl
  go_wp2_with (fail)
  refine (laws_toState.calls kts _ _ l0_0 _ _ l0_1 _ _ l0_2 l0_0 T' l0_2 _ (Kd.C_below HR0.out HB.out) HC0.out (Kd.C_below HR1.out HB.out) HC1.out (Kd.C_below HR2.out HB.out) HC2.out hts.out).mono ?_
  rintro e w13 ⟨vSH0, vSH1, vSH2, rfl, q0, q1, q2, hb⟩
  have SH_ := Aside0.mk (St.made (base := w.heap.size) q0 q1 q2 (fun k h => h) (fun k h => h) (fun k h => h) HB.out.size)
  have nB_ := Aside0.mk (below_step HB.out hb)
  have nBX := Aside0.mk (blk_below BX.out hb)
  have nBW := Aside0.mk (blk_below BW.out hb)
  have nBG := Aside0.mk (blk_below BG.out hb)
  have nHW := Aside0.mk (HW.out.below hb)
  have nHG := Aside0.mk (HG.out.below hb)
  have hs16 : (w12).heap.size ≤ (w13).heap.size := hb.size
  clear HB BX BW BG HW HG
  have HB := nB_
  have BX := nBX
  have BW := nBW
  have BG := nBG
  have HW := nHW
  have HG := nHG
  clear nB_ nBX nBW nBG nHW nHG
  have SH := SH_
  clear SH_ q0 q1 q2 hb
  obtain ⟨ASH0, cSH0, ASH1, cSH1, ASH2, cSH2, e0, e1, e2⟩ := SH.out.slices
  subst e0 e1 e2
  clear xBX_0 xBX_1 xBX_2
  go_wp2_with (fail)
  refine (impl_Solve.calls kim _ _ l0_0 _ _ T' _ _ l0_2 mb mc m _ (Kd.R_reads' SH.out.r0).2.2 (Kd.R_reads' SH.out.r0).2.1 (Kd.S_reads' SH.out.s1).2.2 (Kd.S_reads' SH.out.s1).2.1 (Kd.R_reads' SH.out.r2).2.2 (Kd.R_reads' SH.out.r2).2.1 him1.out).mono ?_
  rintro e w14 ⟨vHH, rfl, q0, hb⟩
  have HH_ := Aside0.mk (IR.made (base := w.heap.size) q0 HB.out.size)
  have nB_ := Aside0.mk (below_step HB.out hb)
  have nBX := Aside0.mk (blk_below BX.out hb)
  have nBW := Aside0.mk (blk_below BW.out hb)
  have nBG := Aside0.mk (blk_below BG.out hb)
  have nHW := Aside0.mk (HW.out.below hb)
  have nHG := Aside0.mk (HG.out.below hb)
  have nSH := Aside0.mk (SH.out.below hb)
  have hs17 : (w13).heap.size ≤ (w14).heap.size := hb.size
  clear HB BX BW BG HW HG SH
  have HB := nB_
  have BX := nBX
  have BW := nBW
  have BG := nBG
  have HW := nHW
  have HG := nHG
  have SH := nSH
  clear nB_ nBX nBW nBG nHW nHG nSH
  have HH := HH_
  clear HH_ q0 hb
  obtain ⟨AHH, cHH, e0⟩ := HH.out.slice
  subst e0
  clear SH
  have hbA := (Below.refl (w14).heap.size w14).alloc (Nat.le_refl _) (.cells #[.bool mb, .int .i64 mc, .slice AHH m.length cHH] 41)
  have BH_ := Aside0.mk (show ((w14).alloc (.cells #[.bool mb, .int .i64 mc, .slice AHH m.length cHH] 41)).heap[(w14).heap.size]? = some (.cells #[.bool mb, .int .i64 mc, .slice AHH m.length cHH] 41 (0, 0)) from by simpa using heap_alloc_new w14 (.cells #[.bool mb, .int .i64 mc, .slice AHH m.length cHH] 41))
  have hsBH : (w14).heap.size < ((w14).alloc (.cells #[.bool mb, .int .i64 mc, .slice AHH m.length cHH] 41)).heap.size := by simp
  have nB_ := Aside0.mk (below_step HB.out hbA)
  have nBX := Aside0.mk (blk_below BX.out hbA)
  have nBW := Aside0.mk (blk_below BW.out hbA)
  have nBG := Aside0.mk (blk_below BG.out hbA)
  have nHW := Aside0.mk (HW.out.below hbA)
  have nHG := Aside0.mk (HG.out.below hbA)
  have nHH := Aside0.mk (HH.out.below hbA)
  have hs18 : (w14).heap.size ≤ ((w14.alloc (.cells #[.bool mb, .int .i64 mc, .slice AHH m.length cHH] 41))).heap.size := hbA.size
  clear HB BX BW BG HW HG HH
  have HB := nB_
  have BX := nBX
  have BW := nBW
  have BG := nBG
  have HW := nHW
  have HG := nHG
  have HH := nHH
  clear nB_ nBX nBW nBG nHW nHG nHH
  have BH := BH_
  clear BH_ hbA
  have xBH_0 : ((w14.alloc (.cells #[.bool mb, .int .i64 mc, .slice AHH m.length cHH] 41))).cell? ⟨w14.heap.size, 0, none⟩ = some (.bool mb) := (blk_cell BH.out 0).trans rfl
  have xBH_1 : ((w14.alloc (.cells #[.bool mb, .int .i64 mc, .slice AHH m.length cHH] 41))).cell? ⟨w14.heap.size, 1, none⟩ = some (.int .i64 mc) := (blk_cell BH.out 1).trans rfl
  have xBH_2 : ((w14.alloc (.cells #[.bool mb, .int .i64 mc, .slice AHH m.length cHH] 41))).cell? ⟨w14.heap.size, 2, none⟩ = some (.slice AHH m.length cHH) := (blk_cell BH.out 2).trans rfl
  have xBW_0 : ((w14.alloc (.cells #[.bool mb, .int .i64 mc, .slice AHH m.length cHH] 41))).cell? ⟨w3.heap.size, 0, none⟩ = some (.bool mb) := (blk_cell BW.out 0).trans rfl
  have xBW_1 : ((w14.alloc (.cells #[.bool mb, .int .i64 mc, .slice AHH m.length cHH] 41))).cell? ⟨w3.heap.size, 1, none⟩ = some (.int .i64 mc) := (blk_cell BW.out 1).trans rfl
  have xBW_2 : ((w14.alloc (.cells #[.bool mb, .int .i64 mc, .slice AHH m.length cHH] 41))).cell? ⟨w3.heap.size, 2, none⟩ = some (.slice AHW m.length cHW) := (blk_cell BW.out 2).trans rfl
  go_wp2_with (fail)
  refine (laws_eqBest.calls keq mb mc _ _ m mb mc _ _ m true _ (Kd.R_reads' HH.out).2.2 (Kd.R_reads' HH.out).2.1 (Kd.R_reads' HW.out).2.2 (Kd.R_reads' HW.out).2.1 heq.out).mono ?_
  rintro e w15 ⟨rfl, hb⟩
  have nB_ := Aside0.mk (below_step HB.out hb)
  have nBX := Aside0.mk (blk_below BX.out hb)
  have nBW := Aside0.mk (blk_below BW.out hb)
  have nBG := Aside0.mk (blk_below BG.out hb)
  have nBH := Aside0.mk (blk_below BH.out hb)
  have nHW := Aside0.mk (HW.out.below hb)
  have nHG := Aside0.mk (HG.out.below hb)
  have nHH := Aside0.mk (HH.out.below hb)
  have hs19 : ((w14.alloc (.cells #[.bool mb, .int .i64 mc, .slice AHH m.length cHH] 41))).heap.size ≤ (w15).heap.size := hb.size
  clear HB BX BW BG BH HW HG HH
  have HB := nB_
  have BX := nBX
  have BW := nBW
  have BG := nBG
  have BH := nBH
  have HW := nHW
  have HG := nHG
  have HH := nHH
  clear nB_ nBX nBW nBG nBH nHW nHG nHH
  clear hb
  clear xBH_0 xBH_1 xBH_2
  clear xBW_0 xBW_1 xBW_2
  clear HH
  clear BH
  have xBG_0 : (w15).cell? ⟨w5.heap.size, 0, none⟩ = some (.bool mb) := (blk_cell BG.out 0).trans rfl
  have xBG_1 : (w15).cell? ⟨w5.heap.size, 1, none⟩ = some (.int .i64 mc) := (blk_cell BG.out 1).trans rfl
  have xBG_2 : (w15).cell? ⟨w5.heap.size, 2, none⟩ = some (.slice AHG m.length cHG) := (blk_cell BG.out 2).trans rfl
  go_wp2_with (fail)
  refine calls_of_args (args' := #[.agg #[.bool mb, .int .i64 mc, .slice AHG (upTo 1 m.length).length cHG], .int .i64 1]) (by rw [HUL.out]) ?_
  refine (laws_heldBest.calls khd mb mc _ _ (upTo 1 m.length) 1 _ _ (Kd.R_reads' (n := (upTo 1 m.length).length) (by rw [HUL.out]; exact HG.out)).2.2 (Kd.R_reads' (n := (upTo 1 m.length).length) (by rw [HUL.out]; exact HG.out)).2.1 hhd.out).mono ?_
  rintro e w16 ⟨rfl, hb⟩
  have nB_ := Aside0.mk (below_step HB.out hb)
  have nBX := Aside0.mk (blk_below BX.out hb)
  have nBW := Aside0.mk (blk_below BW.out hb)
  have nBG := Aside0.mk (blk_below BG.out hb)
  have nHW := Aside0.mk (HW.out.below hb)
  have nHG := Aside0.mk (HG.out.below hb)
  have hs20 : (w15).heap.size ≤ (w16).heap.size := hb.size
  clear HB BX BW BG HW HG
  have HB := nB_
  have BX := nBX
  have BW := nBW
  have BG := nBG
  have HW := nHW
  have HG := nHG
  clear nB_ nBX nBW nBG nHW nHG
  clear hb
  clear xBG_0 xBG_1 xBG_2
  go_wp2_with (fail)
  go_ret
  exact ⟨rfl, HB.out⟩
end Go.Proofs.Ytpbclogjoangfaa.Lw
