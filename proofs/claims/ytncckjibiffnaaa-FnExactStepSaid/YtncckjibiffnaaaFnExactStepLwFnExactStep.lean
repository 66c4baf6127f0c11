/- The law FnExactStep, walked: its calls by their contracts, the states that are written over by markState's. -/
import Derived.Test.YtncckjibiffnaaaFnExactStepLwKit2
import Derived.Test.YtncckjibiffnaaaFnExactStepStepS2
import Derived.Test.YtncckjibiffnaaaFnExactStepQ1
import Derived.Test.YtncckjibiffnaaaFnExactStepQ7
import Derived.Test.YtncckjibiffnaaaFnExactStepQ8
import Derived.Test.YtncckjibiffnaaaFnExactStepQ4
namespace Go.Proofs.Ytncckjibiffnaaa.Lw
open Go.RowKit Go.Proofs.YtncckjibiffnaaaW.PrintWords Go.Proofs.YtncckjibiffnaaaW.PrintLast Go.Proofs.YtncckjibiffnaaaW.PrintMore Go.Proofs.Ytncckjibiffnaaa.Q Go.Proofs.Ytncckjibiffnaaa.Pu Go.Proofs.Ytncckjibiffnaaa.Mk
set_option linter.unusedVariables false
set_option linter.unusedSimpArgs false
set_option maxHeartbeats 4000000 in
set_option maxRecDepth 100000 in
theorem FnExactStep_calls (A0_0 : Option Addr) (c0_0 : Nat) (l0_0 : List Int) (A0_1 : Option Addr) (c0_1 : Nat) (l0_1 : List S55) (A0_2 : Option Addr) (c0_2 : Nat) (l0_2 : List Int) (a1 : Int) (w : World) (hr0 : Kd.C (Kd.int .i64) w A0_0 l0_0.length l0_0) (hc0 : l0_0.length ≤ c0_0) (hr1 : Kd.C k55 w A0_1 l0_1.length l0_1) (hc1 : l0_1.length ≤ c0_1) (hr2 : Kd.C (Kd.int .i64) w A0_2 l0_2.length l0_2) (hc2 : l0_2.length ≤ c0_2) (hM : Mem l0_0 l0_1 l0_2)
    (hm : Small l0_0 l0_1 l0_2 → ∃ (mR : List Int) (mT : List S49) (mN : List Int), mR.length ≤ 1048576 ∧ mT.length ≤ 1048576 ∧ mN.length ≤ 1048576 ∧ (∀ t ∈ mT, t.f1.length ≤ 1048576) ∧ Ev (fun k => spec_Step.f k l0_0 (l0_1.map cv) l0_2 a1) (mR, mT, mN) ∧ Ev (fun k => impl_Step.f k l0_0 (l0_1.map cv) l0_2 a1) (mR, mT, mN)) :
    Calls Try.prog 11 #[.agg #[.slice A0_0 l0_0.length c0_0, .slice A0_1 l0_1.length c0_1, .slice A0_2 l0_2.length c0_2], .int .i64 a1] w fun e w' => e = .returned (.bool true) ∧ Below w.heap.size w w' := by
  have hu26 := Try.underlying26
  have hu31 := Try.underlying31
  obtain ⟨r, er, hrr⟩ := szState_tells hM
  obtain ⟨ksz, hsz0⟩ := er.rounds
  have hsz := Aside0.mk hsz0
  clear hsz0 er
  have HR0 := Aside0.mk hr0
  have HC0 := Aside0.mk hc0
  have HR1 := Aside0.mk hr1
  have HC1 := Aside0.mk hc1
  have HR2 := Aside0.mk hr2
  have HC2 := Aside0.mk hc2
  clear hr0 hr1 hr2 hc0 hc1 hc2
  have HB := Aside0.mk ((Below.refl w.heap.size w).alloc (Nat.le_refl _) (.cells #[.slice A0_0 l0_0.length c0_0, .slice A0_1 l0_1.length c0_1, .slice A0_2 l0_2.length c0_2] 26))
  have BX := Aside0.mk (show (w.alloc (.cells #[.slice A0_0 l0_0.length c0_0, .slice A0_1 l0_1.length c0_1, .slice A0_2 l0_2.length c0_2] 26)).heap[w.heap.size]? = some (.cells #[.slice A0_0 l0_0.length c0_0, .slice A0_1 l0_1.length c0_1, .slice A0_2 l0_2.length c0_2] 26 (0, 0)) from by simpa using heap_alloc_new w (.cells #[.slice A0_0 l0_0.length c0_0, .slice A0_1 l0_1.length c0_1, .slice A0_2 l0_2.length c0_2] 26))
  have hsx : w.heap.size < (w.alloc (.cells #[.slice A0_0 l0_0.length c0_0, .slice A0_1 l0_1.length c0_1, .slice A0_2 l0_2.length c0_2] 26)).heap.size := by simp
  rcases hrr with hneg | ⟨hpos, hsmall⟩
  · have hd0 : decide (r < 0) = true := decide_eq_true hneg
    go_enter Try.func11, Try.ntmps11
    go_wp2_with (fail)
    refine (laws_szState.calls ksz _ _ l0_0 _ _ l0_1 _ _ l0_2 1048576 r _ (Kd.C_below HR0.out HB.out) HC0.out (Kd.C_below HR1.out HB.out) HC1.out (Kd.C_below HR2.out HB.out) HC2.out hsz.out).mono ?_
    rintro e w1 ⟨rfl, hb⟩
    have nB_ := below_step HB.out hb
    clear hb
    go_wp2_with (fail)
    go_ret
    exact ⟨rfl, nB_⟩
  · have hd0 : decide (r < 0) = false := decide_eq_false (by omega)
    obtain ⟨mR, mT, mN, hb0, hb1, hb2, hb3, hsp, him⟩ := hm hsmall
    have hszm := szT_bound mT hb3
    have hszp := szT_pos mT
    obtain ⟨ksp, hsp10⟩ := (hsp).rounds
    have hsp1 := Aside0.mk hsp10
    clear hsp10
    obtain ⟨kim, him10⟩ := (him).rounds
    have him1 := Aside0.mk him10
    clear him10
    obtain ⟨kts, hts0⟩ := (toState_tells hsmall).rounds
    have hts := Aside0.mk hts0
    clear hts0
    obtain ⟨khd, hhd0⟩ := (heldState_tells mR mT mN hb1 (by omega)).rounds
    have hhd := Aside0.mk hhd0
    clear hhd0
    have hPth := Small.paths hsmall
    have hT : (l0_1.map cv).length ≤ 1048576 := by simpa using hsmall.hT
    have hsz1 := Small.szT_le hsmall
    generalize hTT : l0_1.map cv = T' at *
    clear hTT
    have hR := hsmall.hR
    have hN := hsmall.hN
    have hszp1 := szT_pos T'
    obtain ⟨kst, hst0⟩ := (eqState_tells l0_0 T' l0_2 l0_0 T' l0_2 (by omega) (by omega) (by omega) hPth).rounds
    have hst := Aside0.mk (show laws_eqState.f kst l0_0 T' l0_2 l0_0 T' l0_2 = some true from by simpa using hst0)
    clear hst0
    obtain ⟨kse, hse0⟩ := (eqState_tells mR mT mN mR mT mN (by omega) (by omega) (by omega) (fun t ht => Nat.le_trans (hb3 t ht) (by decide))).rounds
    have hse := Aside0.mk (show laws_eqState.f kse mR mT mN mR mT mN = some true from by simpa using hse0)
    clear hse0
    clear hsp him hsmall hm hM hPth
    have hd1 : decide ((1 : Int) + l0_0.length + szT T' + l0_2.length < 0) = false := decide_eq_false (by omega)
    have hd2 : decide ((1 : Int) + mR.length + szT mT + mN.length < 0) = false := decide_eq_false (by omega)
    go_enter Try.func11, Try.ntmps11
    go_wp2_with (fail)
    refine (laws_szState.calls ksz _ _ l0_0 _ _ l0_1 _ _ l0_2 1048576 r _ (Kd.C_below HR0.out HB.out) HC0.out (Kd.C_below HR1.out HB.out) HC1.out (Kd.C_below HR2.out HB.out) HC2.out hsz.out).mono ?_
    rintro e w1 ⟨rfl, hb⟩
    have nB_ := Aside0.mk (below_step HB.out hb)
    have nBX := Aside0.mk (blk_below BX.out hb)
    have hs0 : ((w.alloc (.cells #[.slice A0_0 l0_0.length c0_0, .slice A0_1 l0_1.length c0_1, .slice A0_2 l0_2.length c0_2] 26))).heap.size ≤ (w1).heap.size := hb.size
    clear HB BX
    have HB := nB_
    have BX := nBX
    clear nB_ nBX
    clear hb
    have xBX_0 : (w1).cell? ⟨w.heap.size, 0, none⟩ = some (.slice A0_0 l0_0.length c0_0) := (blk_cell BX.out 0).trans rfl
    have xBX_1 : (w1).cell? ⟨w.heap.size, 1, none⟩ = some (.slice A0_1 l0_1.length c0_1) := (blk_cell BX.out 1).trans rfl
    have xBX_2 : (w1).cell? ⟨w.heap.size, 2, none⟩ = some (.slice A0_2 l0_2.length c0_2) := (blk_cell BX.out 2).trans rfl
    go_wp2_with (fail)
    refine (laws_toState.calls kts _ _ l0_0 _ _ l0_1 _ _ l0_2 l0_0 T' l0_2 _ (Kd.C_below HR0.out HB.out) HC0.out (Kd.C_below HR1.out HB.out) HC1.out (Kd.C_below HR2.out HB.out) HC2.out hts.out).mono ?_
    rintro e w2 ⟨vSA0, vSA1, vSA2, rfl, q0, q1, q2, hb⟩
    have SA_ := Aside0.mk (St.made (base := w.heap.size) q0 q1 q2 (fun k h => h) (fun k h => h) (fun k h => h) HB.out.size)
    have nB_ := Aside0.mk (below_step HB.out hb)
    have nBX := Aside0.mk (blk_below BX.out hb)
    have hs1 : (w1).heap.size ≤ (w2).heap.size := hb.size
    clear HB BX
    have HB := nB_
    have BX := nBX
    clear nB_ nBX
    have SA := SA_
    clear SA_ q0 q1 q2 hb
    obtain ⟨ASA0, cSA0, ASA1, cSA1, ASA2, cSA2, e0, e1, e2⟩ := SA.out.slices
    subst e0 e1 e2
    clear xBX_0 xBX_1 xBX_2
    go_wp2_with (fail)
    refine (spec_Step.calls ksp _ _ l0_0 _ _ T' _ _ l0_2 a1 mR mT mN _ (Kd.R_reads' SA.out.r0).2.2 (Kd.R_reads' SA.out.r0).2.1 (Kd.S_reads' SA.out.s1).2.2 (Kd.S_reads' SA.out.s1).2.1 (Kd.R_reads' SA.out.r2).2.2 (Kd.R_reads' SA.out.r2).2.1 hsp1.out).mono ?_
    rintro e w3 ⟨vSW0, vSW1, vSW2, rfl, q0, q1, q2, hb⟩
    have SW_ := Aside0.mk (StN.made (base := w.heap.size) q0 q1 q2 (fun k h => h.1) HB.out.size)
    have nB_ := Aside0.mk (below_step HB.out hb)
    have nBX := Aside0.mk (blk_below BX.out hb)
    have nSA := Aside0.mk (SA.out.below hb)
    have hs2 : (w2).heap.size ≤ (w3).heap.size := hb.size
    clear HB BX SA
    have HB := nB_
    have BX := nBX
    have SA := nSA
    clear nB_ nBX nSA
    have SW := SW_
    clear SW_ q0 q1 q2 hb
    obtain ⟨ASW0, cSW0, ASW1, cSW1, ASW2, cSW2, e0, e1, e2⟩ := SW.out.slices
    subst e0 e1 e2
    clear SA
    have hbA := (Below.refl (w3).heap.size w3).alloc (Nat.le_refl _) (.cells #[.slice ASW0 mR.length cSW0, .slice ASW1 mT.length cSW1, .slice ASW2 mN.length cSW2] 31)
    have BW_ := Aside0.mk (show ((w3).alloc (.cells #[.slice ASW0 mR.length cSW0, .slice ASW1 mT.length cSW1, .slice ASW2 mN.length cSW2] 31)).heap[(w3).heap.size]? = some (.cells #[.slice ASW0 mR.length cSW0, .slice ASW1 mT.length cSW1, .slice ASW2 mN.length cSW2] 31 (0, 0)) from by simpa using heap_alloc_new w3 (.cells #[.slice ASW0 mR.length cSW0, .slice ASW1 mT.length cSW1, .slice ASW2 mN.length cSW2] 31))
    have hsBW : (w3).heap.size < ((w3).alloc (.cells #[.slice ASW0 mR.length cSW0, .slice ASW1 mT.length cSW1, .slice ASW2 mN.length cSW2] 31)).heap.size := by simp
    have nB_ := Aside0.mk (below_step HB.out hbA)
    have nBX := Aside0.mk (blk_below BX.out hbA)
    have nSW := Aside0.mk (SW.out.below hbA)
    have hs3 : (w3).heap.size ≤ ((w3.alloc (.cells #[.slice ASW0 mR.length cSW0, .slice ASW1 mT.length cSW1, .slice ASW2 mN.length cSW2] 31))).heap.size := hbA.size
    clear HB BX SW
    have HB := nB_
    have BX := nBX
    have SW := nSW
    clear nB_ nBX nSW
    have BW := BW_
    clear BW_ hbA
    have xBX_0 : ((w3.alloc (.cells #[.slice ASW0 mR.length cSW0, .slice ASW1 mT.length cSW1, .slice ASW2 mN.length cSW2] 31))).cell? ⟨w.heap.size, 0, none⟩ = some (.slice A0_0 l0_0.length c0_0) := (blk_cell BX.out 0).trans rfl
    have xBX_1 : ((w3.alloc (.cells #[.slice ASW0 mR.length cSW0, .slice ASW1 mT.length cSW1, .slice ASW2 mN.length cSW2] 31))).cell? ⟨w.heap.size, 1, none⟩ = some (.slice A0_1 l0_1.length c0_1) := (blk_cell BX.out 1).trans rfl
    have xBX_2 : ((w3.alloc (.cells #[.slice ASW0 mR.length cSW0, .slice ASW1 mT.length cSW1, .slice ASW2 mN.length cSW2] 31))).cell? ⟨w.heap.size, 2, none⟩ = some (.slice A0_2 l0_2.length c0_2) := (blk_cell BX.out 2).trans rfl
    go_wp2_with (fail)
    refine (laws_toState.calls kts _ _ l0_0 _ _ l0_1 _ _ l0_2 l0_0 T' l0_2 _ (Kd.C_below HR0.out HB.out) HC0.out (Kd.C_below HR1.out HB.out) HC1.out (Kd.C_below HR2.out HB.out) HC2.out hts.out).mono ?_
    rintro e w4 ⟨vSX0, vSX1, vSX2, rfl, q0, q1, q2, hb⟩
    have SX_ := Aside0.mk (St.made (base := w.heap.size) q0 q1 q2 (fun k h => h) (fun k h => h) (fun k h => h) HB.out.size)
    have nB_ := Aside0.mk (below_step HB.out hb)
    have nBX := Aside0.mk (blk_below BX.out hb)
    have nBW := Aside0.mk (blk_below BW.out hb)
    have nSW := Aside0.mk (SW.out.below hb)
    have hs4 : ((w3.alloc (.cells #[.slice ASW0 mR.length cSW0, .slice ASW1 mT.length cSW1, .slice ASW2 mN.length cSW2] 31))).heap.size ≤ (w4).heap.size := hb.size
    clear HB BX BW SW
    have HB := nB_
    have BX := nBX
    have BW := nBW
    have SW := nSW
    clear nB_ nBX nBW nSW
    have SX := SX_
    clear SX_ q0 q1 q2 hb
    obtain ⟨ASX0, cSX0, ASX1, cSX1, ASX2, cSX2, e0, e1, e2⟩ := SX.out.slices
    subst e0 e1 e2
    clear xBX_0 xBX_1 xBX_2
    have hbA := (Below.refl (w4).heap.size w4).alloc (Nat.le_refl _) (.cells #[.slice ASX0 l0_0.length cSX0, .slice ASX1 T'.length cSX1, .slice ASX2 l0_2.length cSX2] 31)
    have BY_ := Aside0.mk (show ((w4).alloc (.cells #[.slice ASX0 l0_0.length cSX0, .slice ASX1 T'.length cSX1, .slice ASX2 l0_2.length cSX2] 31)).heap[(w4).heap.size]? = some (.cells #[.slice ASX0 l0_0.length cSX0, .slice ASX1 T'.length cSX1, .slice ASX2 l0_2.length cSX2] 31 (0, 0)) from by simpa using heap_alloc_new w4 (.cells #[.slice ASX0 l0_0.length cSX0, .slice ASX1 T'.length cSX1, .slice ASX2 l0_2.length cSX2] 31))
    have hsBY : (w4).heap.size < ((w4).alloc (.cells #[.slice ASX0 l0_0.length cSX0, .slice ASX1 T'.length cSX1, .slice ASX2 l0_2.length cSX2] 31)).heap.size := by simp
    have nB_ := Aside0.mk (below_step HB.out hbA)
    have nBX := Aside0.mk (blk_below BX.out hbA)
    have nBW := Aside0.mk (blk_below BW.out hbA)
    have nSW := Aside0.mk (SW.out.below hbA)
    have nSX := Aside0.mk (SX.out.below hbA)
    have hs5 : (w4).heap.size ≤ ((w4.alloc (.cells #[.slice ASX0 l0_0.length cSX0, .slice ASX1 T'.length cSX1, .slice ASX2 l0_2.length cSX2] 31))).heap.size := hbA.size
    clear HB BX BW SW SX
    have HB := nB_
    have BX := nBX
    have BW := nBW
    have SW := nSW
    have SX := nSX
    clear nB_ nBX nBW nSW nSX
    have BY := BY_
    clear BY_ hbA
    have xBY_0 : ((w4.alloc (.cells #[.slice ASX0 l0_0.length cSX0, .slice ASX1 T'.length cSX1, .slice ASX2 l0_2.length cSX2] 31))).cell? ⟨w4.heap.size, 0, none⟩ = some (.slice ASX0 l0_0.length cSX0) := (blk_cell BY.out 0).trans rfl
    have xBY_1 : ((w4.alloc (.cells #[.slice ASX0 l0_0.length cSX0, .slice ASX1 T'.length cSX1, .slice ASX2 l0_2.length cSX2] 31))).cell? ⟨w4.heap.size, 1, none⟩ = some (.slice ASX1 T'.length cSX1) := (blk_cell BY.out 1).trans rfl
    have xBY_2 : ((w4.alloc (.cells #[.slice ASX0 l0_0.length cSX0, .slice ASX1 T'.length cSX1, .slice ASX2 l0_2.length cSX2] 31))).cell? ⟨w4.heap.size, 2, none⟩ = some (.slice ASX2 l0_2.length cSX2) := (blk_cell BY.out 2).trans rfl
    go_wp2_with (fail)
    refine (impl_StepS.calls kim _ _ l0_0 _ _ T' _ _ l0_2 a1 mR mT mN _ (Kd.R_reads' SX.out.r0).2.2 (Kd.R_reads' SX.out.r0).2.1 (Kd.S_reads' SX.out.s1).2.2 (Kd.S_reads' SX.out.s1).2.1 (Kd.R_reads' SX.out.r2).2.2 (Kd.R_reads' SX.out.r2).2.1 him1.out).mono ?_
    rintro e w5 ⟨vSG0, vSG1, vSG2, rfl, q0, q1, q2, hb⟩
    have SG_ := Aside0.mk (St.made (base := w.heap.size) q0 q1 q2 (fun k h => h.2) (fun k h => h.2) (fun k h => h.2) HB.out.size)
    have nB_ := Aside0.mk (below_step HB.out hb)
    have nBX := Aside0.mk (blk_below BX.out hb)
    have nBW := Aside0.mk (blk_below BW.out hb)
    have nBY := Aside0.mk (blk_below BY.out hb)
    have nSW := Aside0.mk (SW.out.below hb)
    have nSX := Aside0.mk (SX.out.below hb)
    have hs6 : ((w4.alloc (.cells #[.slice ASX0 l0_0.length cSX0, .slice ASX1 T'.length cSX1, .slice ASX2 l0_2.length cSX2] 31))).heap.size ≤ (w5).heap.size := hb.size
    clear HB BX BW BY SW SX
    have HB := nB_
    have BX := nBX
    have BW := nBW
    have BY := nBY
    have SW := nSW
    have SX := nSX
    clear nB_ nBX nBW nBY nSW nSX
    have SG := SG_
    clear SG_ q0 q1 q2 hb
    obtain ⟨ASG0, cSG0, ASG1, cSG1, ASG2, cSG2, e0, e1, e2⟩ := SG.out.slices
    subst e0 e1 e2
    clear xBY_0 xBY_1 xBY_2
    have hbA := (Below.refl (w5).heap.size w5).alloc (Nat.le_refl _) (.cells #[.slice ASG0 mR.length cSG0, .slice ASG1 mT.length cSG1, .slice ASG2 mN.length cSG2] 31)
    have BG_ := Aside0.mk (show ((w5).alloc (.cells #[.slice ASG0 mR.length cSG0, .slice ASG1 mT.length cSG1, .slice ASG2 mN.length cSG2] 31)).heap[(w5).heap.size]? = some (.cells #[.slice ASG0 mR.length cSG0, .slice ASG1 mT.length cSG1, .slice ASG2 mN.length cSG2] 31 (0, 0)) from by simpa using heap_alloc_new w5 (.cells #[.slice ASG0 mR.length cSG0, .slice ASG1 mT.length cSG1, .slice ASG2 mN.length cSG2] 31))
    have hsBG : (w5).heap.size < ((w5).alloc (.cells #[.slice ASG0 mR.length cSG0, .slice ASG1 mT.length cSG1, .slice ASG2 mN.length cSG2] 31)).heap.size := by simp
    have nB_ := Aside0.mk (below_step HB.out hbA)
    have nBX := Aside0.mk (blk_below BX.out hbA)
    have nBW := Aside0.mk (blk_below BW.out hbA)
    have nBY := Aside0.mk (blk_below BY.out hbA)
    have nSW := Aside0.mk (SW.out.below hbA)
    have nSX := Aside0.mk (SX.out.below hbA)
    have nSG := Aside0.mk (SG.out.below hbA)
    have hs7 : (w5).heap.size ≤ ((w5.alloc (.cells #[.slice ASG0 mR.length cSG0, .slice ASG1 mT.length cSG1, .slice ASG2 mN.length cSG2] 31))).heap.size := hbA.size
    clear HB BX BW BY SW SX SG
    have HB := nB_
    have BX := nBX
    have BW := nBW
    have BY := nBY
    have SW := nSW
    have SX := nSX
    have SG := nSG
    clear nB_ nBX nBW nBY nSW nSX nSG
    have BG := BG_
    clear BG_ hbA
    have xBG_0 : ((w5.alloc (.cells #[.slice ASG0 mR.length cSG0, .slice ASG1 mT.length cSG1, .slice ASG2 mN.length cSG2] 31))).cell? ⟨w5.heap.size, 0, none⟩ = some (.slice ASG0 mR.length cSG0) := (blk_cell BG.out 0).trans rfl
    have xBG_1 : ((w5.alloc (.cells #[.slice ASG0 mR.length cSG0, .slice ASG1 mT.length cSG1, .slice ASG2 mN.length cSG2] 31))).cell? ⟨w5.heap.size, 1, none⟩ = some (.slice ASG1 mT.length cSG1) := (blk_cell BG.out 1).trans rfl
    have xBG_2 : ((w5.alloc (.cells #[.slice ASG0 mR.length cSG0, .slice ASG1 mT.length cSG1, .slice ASG2 mN.length cSG2] 31))).cell? ⟨w5.heap.size, 2, none⟩ = some (.slice ASG2 mN.length cSG2) := (blk_cell BG.out 2).trans rfl
    have xBW_0 : ((w5.alloc (.cells #[.slice ASG0 mR.length cSG0, .slice ASG1 mT.length cSG1, .slice ASG2 mN.length cSG2] 31))).cell? ⟨w3.heap.size, 0, none⟩ = some (.slice ASW0 mR.length cSW0) := (blk_cell BW.out 0).trans rfl
    have xBW_1 : ((w5.alloc (.cells #[.slice ASG0 mR.length cSG0, .slice ASG1 mT.length cSG1, .slice ASG2 mN.length cSG2] 31))).cell? ⟨w3.heap.size, 1, none⟩ = some (.slice ASW1 mT.length cSW1) := (blk_cell BW.out 1).trans rfl
    have xBW_2 : ((w5.alloc (.cells #[.slice ASG0 mR.length cSG0, .slice ASG1 mT.length cSG1, .slice ASG2 mN.length cSG2] 31))).cell? ⟨w3.heap.size, 2, none⟩ = some (.slice ASW2 mN.length cSW2) := (blk_cell BW.out 2).trans rfl
    go_wp2_with (fail)
    refine (laws_eqState.calls kse _ _ mR _ _ mT _ _ mN _ _ mR _ _ mT _ _ mN true _ (Kd.R_reads' SG.out.r0).2.2 (Kd.R_reads' SG.out.r0).2.1 (Kd.S_reads' SG.out.s1).2.2 (Kd.S_reads' SG.out.s1).2.1 (Kd.R_reads' SG.out.r2).2.2 (Kd.R_reads' SG.out.r2).2.1 (Kd.R_reads' SW.out.r0).2.2 (Kd.R_reads' SW.out.r0).2.1 (Kd.N_reads' SW.out.n1).2.2 (Kd.N_reads' SW.out.n1).2.1 (Kd.R_reads' SW.out.r2).2.2 (Kd.R_reads' SW.out.r2).2.1 hse.out).mono ?_
    rintro e w6 ⟨rfl, hb⟩
    have nB_ := Aside0.mk (below_step HB.out hb)
    have nBX := Aside0.mk (blk_below BX.out hb)
    have nBW := Aside0.mk (blk_below BW.out hb)
    have nBY := Aside0.mk (blk_below BY.out hb)
    have nBG := Aside0.mk (blk_below BG.out hb)
    have nSW := Aside0.mk (SW.out.below hb)
    have nSX := Aside0.mk (SX.out.below hb)
    have nSG := Aside0.mk (SG.out.below hb)
    have hs8 : ((w5.alloc (.cells #[.slice ASG0 mR.length cSG0, .slice ASG1 mT.length cSG1, .slice ASG2 mN.length cSG2] 31))).heap.size ≤ (w6).heap.size := hb.size
    clear HB BX BW BY BG SW SX SG
    have HB := nB_
    have BX := nBX
    have BW := nBW
    have BY := nBY
    have BG := nBG
    have SW := nSW
    have SX := nSX
    have SG := nSG
    clear nB_ nBX nBW nBY nBG nSW nSX nSG
    clear hb
    clear xBG_0 xBG_1 xBG_2
    clear xBW_0 xBW_1 xBW_2
    go_wp2_with (fail)
    have hbD := below_drew (Below.refl (w6).heap.size w6)
    have nB_ := Aside0.mk (below_step HB.out hbD)
    have nBX := Aside0.mk (blk_below BX.out hbD)
    have nBW := Aside0.mk (blk_below BW.out hbD)
    have nBY := Aside0.mk (blk_below BY.out hbD)
    have nBG := Aside0.mk (blk_below BG.out hbD)
    have nSW := Aside0.mk (SW.out.below hbD)
    have nSX := Aside0.mk (SX.out.below hbD)
    have nSG := Aside0.mk (SG.out.below hbD)
    have hs9 : (w6).heap.size ≤ (w6.drew).heap.size := hbD.size
    clear HB BX BW BY BG SW SX SG
    have HB := nB_
    have BX := nBX
    have BW := nBW
    have BY := nBY
    have BG := nBG
    have SW := nSW
    have SX := nSX
    have SG := nSG
    clear nB_ nBX nBW nBY nBG nSW nSX nSG
    clear hbD
    refine start_ (n := 5) (S := fun w' => w'.cell? ⟨w4.heap.size, 0, none⟩ = some (.slice ASX0 l0_0.length cSX0) ∧ w'.cell? ⟨w4.heap.size, 1, none⟩ = some (.slice ASX1 T'.length cSX1) ∧ w'.cell? ⟨w4.heap.size, 2, none⟩ = some (.slice ASX2 l0_2.length cSX2) ∧ w'.cell? ⟨w.heap.size, 0, none⟩ = some (.slice A0_0 l0_0.length c0_0) ∧ w'.cell? ⟨w.heap.size, 1, none⟩ = some (.slice A0_1 l0_1.length c0_1) ∧ w'.cell? ⟨w.heap.size, 2, none⟩ = some (.slice A0_2 l0_2.length c0_2)) (ds := []) #[false, false, false, false, false] (by kernel_rfl) rfl rfl ⟨(blk_cell BY.out 0).trans rfl, (blk_cell BY.out 1).trans rfl, (blk_cell BY.out 2).trans rfl, (blk_cell BX.out 0).trans rfl, (blk_cell BX.out 1).trans rfl, (blk_cell BX.out 2).trans rfl⟩ (fun hHeld => ?_)
    generalize hwd : w6.drew = wd at *
    clear hwd
    refine take_ (i := 0) (N := some 31) (v := ?_) (a' := ?_) #[true, false, false, false, false] rfl rfl (by kernel_rfl) (fun _ _ _ h => h) (Or.inl ⟨by rfl, ?_⟩) hHeld ?_ ?_
    rotate_left
    · rintro w' ⟨s0, s1, s2, s3, s4, s5⟩
      go_simp
      with_reducible rfl
    rotate_left
    · simp only [Act.put, List.setIfInBounds_toArray, List.set_cons_zero, List.set_cons_succ, i64_w, i32_w]
      rfl
    refine take_ (i := 1) (N := some 32) (v := ?_) (a' := ?_) #[true, true, false, false, false] rfl rfl (by kernel_rfl) (fun _ _ _ h => h) (Or.inl ⟨by rfl, ?_⟩) hHeld ?_ ?_
    rotate_left
    · rintro w' ⟨s0, s1, s2, s3, s4, s5⟩
      go_simp
      with_reducible rfl
    rotate_left
    · simp only [Act.put, List.setIfInBounds_toArray, List.set_cons_zero, List.set_cons_succ, i64_w, i32_w]
      rfl
    refine one_ (i := 2) (N := some 33) #[true, true, true, false, false] rfl rfl (by kernel_rfl) (by decide) (fun K hK => ?_)
    refine goes_ Try.func14 (by kernel_rfl) rfl #[.agg #[.slice A0_0 l0_0.length c0_0, .slice A0_1 l0_1.length c0_1, .slice A0_2 l0_2.length c0_2]] (by rfl) rfl rfl (by (try simp only [List.map_toArray, List.map_cons, List.map_nil]); rfl) ?_
    refine (laws_toState.calls kts _ _ l0_0 _ _ l0_1 _ _ l0_2 l0_0 T' l0_2 _ (Kd.C_below HR0.out HB.out) HC0.out (Kd.C_below HR1.out HB.out) HC1.out (Kd.C_below HR2.out HB.out) HC2.out hts.out).mono ?_
    rintro e w7 ⟨vSQ0, vSQ1, vSQ2, rfl, q0, q1, q2, hb⟩
    refine ⟨_, rfl, ?_⟩
    have SQ_ := Aside0.mk (St.made (base := w.heap.size) q0 q1 q2 (fun k h => h) (fun k h => h) (fun k h => h) HB.out.size)
    have nB_ := Aside0.mk (below_step HB.out hb)
    have nBX := Aside0.mk (blk_below BX.out hb)
    have nBW := Aside0.mk (blk_below BW.out hb)
    have nBY := Aside0.mk (blk_below BY.out hb)
    have nBG := Aside0.mk (blk_below BG.out hb)
    have nSW := Aside0.mk (SW.out.below hb)
    have nSX := Aside0.mk (SX.out.below hb)
    have nSG := Aside0.mk (SG.out.below hb)
    have hs10 : (wd).heap.size ≤ (w7).heap.size := hb.size
    clear HB BX BW BY BG SW SX SG
    have HB := nB_
    have BX := nBX
    have BW := nBW
    have BY := nBY
    have BG := nBG
    have SW := nSW
    have SX := nSX
    have SG := nSG
    clear nB_ nBX nBW nBY nBG nSW nSX nSG
    have SQ := SQ_
    clear SQ_ q0 q1 q2 hb
    obtain ⟨ASQ0, cSQ0, ASQ1, cSQ1, ASQ2, cSQ2, e0, e1, e2⟩ := SQ.out.slices
    subst e0 e1 e2
    refine hK.out _ _ ⟨(blk_cell BY.out 0).trans rfl, (blk_cell BY.out 1).trans rfl, (blk_cell BY.out 2).trans rfl, (blk_cell BX.out 0).trans rfl, (blk_cell BX.out 1).trans rfl, (blk_cell BX.out 2).trans rfl⟩ (fun hHeld => ?_)
    clear hK K
    refine norm_ (a' := ?_) ?_ ?_
    rotate_left
    · show Act.put _ (some 33) _ = _
      simp only [Act.put, List.setIfInBounds_toArray, List.set_cons_zero, List.set_cons_succ, i64_w, i32_w]
      rfl
    refine one_ (i := 3) (N := some 34) #[true, true, true, true, false] rfl rfl (by kernel_rfl) (by decide) (fun K hK => ?_)
    refine goes_ Try.func16 (by kernel_rfl) rfl #[.agg #[.slice ASX0 l0_0.length cSX0, .slice ASX1 T'.length cSX1, .slice ASX2 l0_2.length cSX2], .agg #[.slice ASQ0 l0_0.length cSQ0, .slice ASQ1 T'.length cSQ1, .slice ASQ2 l0_2.length cSQ2]] (by rfl) rfl rfl (by (try simp only [List.map_toArray, List.map_cons, List.map_nil]); rfl) ?_
    refine (laws_eqState.calls kst _ _ l0_0 _ _ T' _ _ l0_2 _ _ l0_0 _ _ T' _ _ l0_2 true _ (Kd.R_reads' SX.out.r0).2.2 (Kd.R_reads' SX.out.r0).2.1 (Kd.S_reads' SX.out.s1).2.2 (Kd.S_reads' SX.out.s1).2.1 (Kd.R_reads' SX.out.r2).2.2 (Kd.R_reads' SX.out.r2).2.1 (Kd.R_reads' SQ.out.r0).2.2 (Kd.R_reads' SQ.out.r0).2.1 (Kd.S_reads' SQ.out.s1).2.2 (Kd.S_reads' SQ.out.s1).2.1 (Kd.R_reads' SQ.out.r2).2.2 (Kd.R_reads' SQ.out.r2).2.1 hst.out).mono ?_
    rintro e w8 ⟨rfl, hb⟩
    refine ⟨_, rfl, ?_⟩
    clear SQ
    have nB_ := Aside0.mk (below_step HB.out hb)
    have nBX := Aside0.mk (blk_below BX.out hb)
    have nBW := Aside0.mk (blk_below BW.out hb)
    have nBY := Aside0.mk (blk_below BY.out hb)
    have nBG := Aside0.mk (blk_below BG.out hb)
    have nSW := Aside0.mk (SW.out.below hb)
    have nSX := Aside0.mk (SX.out.below hb)
    have nSG := Aside0.mk (SG.out.below hb)
    have hs11 : (w7).heap.size ≤ (w8).heap.size := hb.size
    clear HB BX BW BY BG SW SX SG
    have HB := nB_
    have BX := nBX
    have BW := nBW
    have BY := nBY
    have BG := nBG
    have SW := nSW
    have SX := nSX
    have SG := nSG
    clear nB_ nBX nBW nBY nBG nSW nSX nSG
    clear hb
    refine hK.out _ _ ⟨(blk_cell BY.out 0).trans rfl, (blk_cell BY.out 1).trans rfl, (blk_cell BY.out 2).trans rfl, (blk_cell BX.out 0).trans rfl, (blk_cell BX.out 1).trans rfl, (blk_cell BX.out 2).trans rfl⟩ (fun hHeld => ?_)
    clear hK K
    refine norm_ (a' := ?_) ?_ ?_
    rotate_left
    · show Act.put _ (some 34) _ = _
      simp only [Act.put, List.setIfInBounds_toArray, List.set_cons_zero, List.set_cons_succ, i64_w, i32_w]
      rfl
    refine pure_ (i := 4) (N := some 35) (v := ?_) (a' := ?_) #[true, true, true, true, true] rfl rfl (by kernel_rfl) (fun _ _ _ h => h) (Or.inl ⟨by rfl, ?_⟩) ?_ ?_
    rotate_left
    · intro w'
      go_simp
      with_reducible rfl
    rotate_left
    · simp only [Act.put, List.setIfInBounds_toArray, List.set_cons_zero, List.set_cons_succ, i64_w, i32_w]
      rfl
    refine done_ (by kernel_rfl) ?_
    have xBY_0 : (w8).cell? ⟨w4.heap.size, 0, none⟩ = some (.slice ASX0 l0_0.length cSX0) := (blk_cell BY.out 0).trans rfl
    have xBY_1 : (w8).cell? ⟨w4.heap.size, 1, none⟩ = some (.slice ASX1 T'.length cSX1) := (blk_cell BY.out 1).trans rfl
    have xBY_2 : (w8).cell? ⟨w4.heap.size, 2, none⟩ = some (.slice ASX2 l0_2.length cSX2) := (blk_cell BY.out 2).trans rfl
    go_wp2_with (fail)
    refine (markState_calls w _ HB.out _ _ _ _ l0_0 T' l0_2 1 SX.out (by omega) hT (by omega)).mono ?_
    rintro e w9 ⟨rfl, hst2, hb, hk⟩
    clear xBY_0 xBY_1 xBY_2
    clear SX
    have nB_ := Aside0.mk hb
    have nBX := Aside0.mk (blk_kept BX.out hk (fun hs => by have h1_ := hs.1; have h2_ := hs.2; omega))
    have nBW := Aside0.mk (blk_kept BW.out hk (fun hs => by have h1_ := hs.1; have h2_ := hs.2; omega))
    have nBY := Aside0.mk (blk_kept BY.out hk (fun hs => by have h1_ := hs.1; have h2_ := hs.2; omega))
    have nBG := Aside0.mk (blk_kept BG.out hk (fun hs => by have h1_ := hs.1; have h2_ := hs.2; omega))
    have nSW := Aside0.mk (SW.out.kept hk (fun k hk => rng_apart (by omega) k hk))
    have nSG := Aside0.mk (SG.out.kept hk (fun k hk => rng_apart (by omega) k hk))
    have hs12 : (w8).heap.size ≤ (w9).heap.size := hk.1
    clear HB BX BW BY BG SW SG
    have HB := nB_
    have BX := nBX
    have BW := nBW
    have BY := nBY
    have BG := nBG
    have SW := nSW
    have SG := nSG
    clear nB_ nBX nBW nBY nBG nSW nSG
    clear hst2 hb hk
    clear BY
    have xBG_0 : (w9).cell? ⟨w5.heap.size, 0, none⟩ = some (.slice ASG0 mR.length cSG0) := (blk_cell BG.out 0).trans rfl
    have xBG_1 : (w9).cell? ⟨w5.heap.size, 1, none⟩ = some (.slice ASG1 mT.length cSG1) := (blk_cell BG.out 1).trans rfl
    have xBG_2 : (w9).cell? ⟨w5.heap.size, 2, none⟩ = some (.slice ASG2 mN.length cSG2) := (blk_cell BG.out 2).trans rfl
    have xBW_0 : (w9).cell? ⟨w3.heap.size, 0, none⟩ = some (.slice ASW0 mR.length cSW0) := (blk_cell BW.out 0).trans rfl
    have xBW_1 : (w9).cell? ⟨w3.heap.size, 1, none⟩ = some (.slice ASW1 mT.length cSW1) := (blk_cell BW.out 1).trans rfl
    have xBW_2 : (w9).cell? ⟨w3.heap.size, 2, none⟩ = some (.slice ASW2 mN.length cSW2) := (blk_cell BW.out 2).trans rfl
    go_wp2_with (fail)
    refine (laws_eqState.calls kse _ _ mR _ _ mT _ _ mN _ _ mR _ _ mT _ _ mN true _ (Kd.R_reads' SG.out.r0).2.2 (Kd.R_reads' SG.out.r0).2.1 (Kd.S_reads' SG.out.s1).2.2 (Kd.S_reads' SG.out.s1).2.1 (Kd.R_reads' SG.out.r2).2.2 (Kd.R_reads' SG.out.r2).2.1 (Kd.R_reads' SW.out.r0).2.2 (Kd.R_reads' SW.out.r0).2.1 (Kd.N_reads' SW.out.n1).2.2 (Kd.N_reads' SW.out.n1).2.1 (Kd.R_reads' SW.out.r2).2.2 (Kd.R_reads' SW.out.r2).2.1 hse.out).mono ?_
    rintro e w10 ⟨rfl, hb⟩
    have nB_ := Aside0.mk (below_step HB.out hb)
    have nBX := Aside0.mk (blk_below BX.out hb)
    have nBW := Aside0.mk (blk_below BW.out hb)
    have nBG := Aside0.mk (blk_below BG.out hb)
    have nSW := Aside0.mk (SW.out.below hb)
    have nSG := Aside0.mk (SG.out.below hb)
    have hs13 : (w9).heap.size ≤ (w10).heap.size := hb.size
    clear HB BX BW BG SW SG
    have HB := nB_
    have BX := nBX
    have BW := nBW
    have BG := nBG
    have SW := nSW
    have SG := nSG
    clear nB_ nBX nBW nBG nSW nSG
    clear hb
    clear xBG_0 xBG_1 xBG_2
    clear xBW_0 xBW_1 xBW_2
    have xBG_0 : (w10).cell? ⟨w5.heap.size, 0, none⟩ = some (.slice ASG0 mR.length cSG0) := (blk_cell BG.out 0).trans rfl
    have xBG_1 : (w10).cell? ⟨w5.heap.size, 1, none⟩ = some (.slice ASG1 mT.length cSG1) := (blk_cell BG.out 1).trans rfl
    have xBG_2 : (w10).cell? ⟨w5.heap.size, 2, none⟩ = some (.slice ASG2 mN.length cSG2) := (blk_cell BG.out 2).trans rfl
    go_wp2_with (fail)
    refine (markState_calls w _ HB.out _ _ _ _ mR mT mN 1 SG.out (by omega) hb1 (by omega)).mono ?_
    rintro e w11 ⟨rfl, hst2, hb, hk⟩
    clear xBG_0 xBG_1 xBG_2
    have SG_ := Aside0.mk hst2
    clear SG
    have nB_ := Aside0.mk hb
    have nBX := Aside0.mk (blk_kept BX.out hk (fun hs => by have h1_ := hs.1; have h2_ := hs.2; omega))
    have nBW := Aside0.mk (blk_kept BW.out hk (fun hs => by have h1_ := hs.1; have h2_ := hs.2; omega))
    have nBG := Aside0.mk (blk_kept BG.out hk (fun hs => by have h1_ := hs.1; have h2_ := hs.2; omega))
    have nSW := Aside0.mk (SW.out.kept hk (fun k hk => rng_apart (by omega) k hk))
    have hs14 : (w10).heap.size ≤ (w11).heap.size := hk.1
    clear HB BX BW BG SW
    have HB := nB_
    have BX := nBX
    have BW := nBW
    have BG := nBG
    have SW := nSW
    clear nB_ nBX nBW nBG nSW
    have SG := SG_
    clear SG_ hst2 hb hk
    have HU0 := Aside0.mk (upTo_len mR.length 1)
    have HU1 := Aside0.mk (mkT_len mT (1 + mR.length))
    have HU2 := Aside0.mk (upTo_len mN.length (1 + mR.length + szT mT))
    have xBG_0 : (w11).cell? ⟨w5.heap.size, 0, none⟩ = some (.slice ASG0 mR.length cSG0) := (blk_cell BG.out 0).trans rfl
    have xBG_1 : (w11).cell? ⟨w5.heap.size, 1, none⟩ = some (.slice ASG1 mT.length cSG1) := (blk_cell BG.out 1).trans rfl
    have xBG_2 : (w11).cell? ⟨w5.heap.size, 2, none⟩ = some (.slice ASG2 mN.length cSG2) := (blk_cell BG.out 2).trans rfl
    go_wp2_with (fail)
    refine calls_of_args (args' := #[.agg #[.slice ASG0 (upTo 1 mR.length).length cSG0, .slice ASG1 (mkT (1 + mR.length) mT).length cSG1, .slice ASG2 (upTo (1 + mR.length + szT mT) mN.length).length cSG2], .int .i64 1]) (by rw [HU0.out, HU1.out, HU2.out]) ?_
    refine (laws_heldState.calls khd _ _ (upTo 1 mR.length) _ _ (mkT (1 + mR.length) mT) _ _ (upTo (1 + mR.length + szT mT) mN.length) 1 _ _ (Kd.R_reads' (n := (upTo 1 mR.length).length) (by rw [HU0.out]; exact SG.out.r0)).2.2 (Kd.R_reads' (n := (upTo 1 mR.length).length) (by rw [HU0.out]; exact SG.out.r0)).2.1 (Kd.S_reads' (n := (mkT (1 + mR.length) mT).length) (by rw [HU1.out]; exact SG.out.s1)).2.2 (Kd.S_reads' (n := (mkT (1 + mR.length) mT).length) (by rw [HU1.out]; exact SG.out.s1)).2.1 (Kd.R_reads' (n := (upTo (1 + mR.length + szT mT) mN.length).length) (by rw [HU2.out]; exact SG.out.r2)).2.2 (Kd.R_reads' (n := (upTo (1 + mR.length + szT mT) mN.length).length) (by rw [HU2.out]; exact SG.out.r2)).2.1 hhd.out).mono ?_
    rintro e w12 ⟨rfl, hb⟩
    have nB_ := Aside0.mk (below_step HB.out hb)
    have nBX := Aside0.mk (blk_below BX.out hb)
    have nBW := Aside0.mk (blk_below BW.out hb)
    have nBG := Aside0.mk (blk_below BG.out hb)
    have nSW := Aside0.mk (SW.out.below hb)
    have nSG := Aside0.mk (SG.out.below hb)
    have hs15 : (w11).heap.size ≤ (w12).heap.size := hb.size
    clear HB BX BW BG SW SG
    have HB := nB_
    have BX := nBX
    have BW := nBW
    have BG := nBG
    have SW := nSW
    have SG := nSG
    clear nB_ nBX nBW nBG nSW nSG
    clear hb
    clear xBG_0 xBG_1 xBG_2
    have xBX_0 : (w12).cell? ⟨w.heap.size, 0, none⟩ = some (.slice A0_0 l0_0.length c0_0) := (blk_cell BX.out 0).trans rfl
    have xBX_1 : (w12).cell? ⟨w.heap.size, 1, none⟩ = some (.slice A0_1 l0_1.length c0_1) := (blk_cell BX.out 1).trans rfl
    have xBX_2 : (w12).cell? ⟨w.heap.size, 2, none⟩ = some (.slice A0_2 l0_2.length c0_2) := (blk_cell BX.out 2).trans rfl
    go_wp2_with (fail)
    refine (laws_toState.calls kts _ _ l0_0 _ _ l0_1 _ _ l0_2 l0_0 T' l0_2 _ (Kd.C_below HR0.out HB.out) HC0.out (Kd.C_below HR1.out HB.out) HC1.out (Kd.C_below HR2.out HB.out) HC2.out hts.out).mono ?_
    rintro e w13 ⟨vSH0, vSH1, vSH2, rfl, q0, q1, q2, hb⟩
    have SH_ := Aside0.mk (St.made (base := w.heap.size) q0 q1 q2 (fun k h => h) (fun k h => h) (fun k h => h) HB.out.size)
    have nB_ := Aside0.mk (below_step HB.out hb)
    have nBX := Aside0.mk (blk_below BX.out hb)
    have nBW := Aside0.mk (blk_below BW.out hb)
    have nBG := Aside0.mk (blk_below BG.out hb)
    have nSW := Aside0.mk (SW.out.below hb)
    have nSG := Aside0.mk (SG.out.below hb)
    have hs16 : (w12).heap.size ≤ (w13).heap.size := hb.size
    clear HB BX BW BG SW SG
    have HB := nB_
    have BX := nBX
    have BW := nBW
    have BG := nBG
    have SW := nSW
    have SG := nSG
    clear nB_ nBX nBW nBG nSW nSG
    have SH := SH_
    clear SH_ q0 q1 q2 hb
    obtain ⟨ASH0, cSH0, ASH1, cSH1, ASH2, cSH2, e0, e1, e2⟩ := SH.out.slices
    subst e0 e1 e2
    clear xBX_0 xBX_1 xBX_2
    go_wp2_with (fail)
    refine (impl_StepS.calls kim _ _ l0_0 _ _ T' _ _ l0_2 a1 mR mT mN _ (Kd.R_reads' SH.out.r0).2.2 (Kd.R_reads' SH.out.r0).2.1 (Kd.S_reads' SH.out.s1).2.2 (Kd.S_reads' SH.out.s1).2.1 (Kd.R_reads' SH.out.r2).2.2 (Kd.R_reads' SH.out.r2).2.1 him1.out).mono ?_
    rintro e w14 ⟨vSQ0, vSQ1, vSQ2, rfl, q0, q1, q2, hb⟩
    have SQ_ := Aside0.mk (St.made (base := w.heap.size) q0 q1 q2 (fun k h => h.2) (fun k h => h.2) (fun k h => h.2) HB.out.size)
    have nB_ := Aside0.mk (below_step HB.out hb)
    have nBX := Aside0.mk (blk_below BX.out hb)
    have nBW := Aside0.mk (blk_below BW.out hb)
    have nBG := Aside0.mk (blk_below BG.out hb)
    have nSW := Aside0.mk (SW.out.below hb)
    have nSG := Aside0.mk (SG.out.below hb)
    have nSH := Aside0.mk (SH.out.below hb)
    have hs17 : (w13).heap.size ≤ (w14).heap.size := hb.size
    clear HB BX BW BG SW SG SH
    have HB := nB_
    have BX := nBX
    have BW := nBW
    have BG := nBG
    have SW := nSW
    have SG := nSG
    have SH := nSH
    clear nB_ nBX nBW nBG nSW nSG nSH
    have SQ := SQ_
    clear SQ_ q0 q1 q2 hb
    obtain ⟨ASQ0, cSQ0, ASQ1, cSQ1, ASQ2, cSQ2, e0, e1, e2⟩ := SQ.out.slices
    subst e0 e1 e2
    clear SH
    have hbA := (Below.refl (w14).heap.size w14).alloc (Nat.le_refl _) (.cells #[.slice ASQ0 mR.length cSQ0, .slice ASQ1 mT.length cSQ1, .slice ASQ2 mN.length cSQ2] 31)
    have BH_ := Aside0.mk (show ((w14).alloc (.cells #[.slice ASQ0 mR.length cSQ0, .slice ASQ1 mT.length cSQ1, .slice ASQ2 mN.length cSQ2] 31)).heap[(w14).heap.size]? = some (.cells #[.slice ASQ0 mR.length cSQ0, .slice ASQ1 mT.length cSQ1, .slice ASQ2 mN.length cSQ2] 31 (0, 0)) from by simpa using heap_alloc_new w14 (.cells #[.slice ASQ0 mR.length cSQ0, .slice ASQ1 mT.length cSQ1, .slice ASQ2 mN.length cSQ2] 31))
    have hsBH : (w14).heap.size < ((w14).alloc (.cells #[.slice ASQ0 mR.length cSQ0, .slice ASQ1 mT.length cSQ1, .slice ASQ2 mN.length cSQ2] 31)).heap.size := by simp
    have nB_ := Aside0.mk (below_step HB.out hbA)
    have nBX := Aside0.mk (blk_below BX.out hbA)
    have nBW := Aside0.mk (blk_below BW.out hbA)
    have nBG := Aside0.mk (blk_below BG.out hbA)
    have nSW := Aside0.mk (SW.out.below hbA)
    have nSG := Aside0.mk (SG.out.below hbA)
    have nSQ := Aside0.mk (SQ.out.below hbA)
    have hs18 : (w14).heap.size ≤ ((w14.alloc (.cells #[.slice ASQ0 mR.length cSQ0, .slice ASQ1 mT.length cSQ1, .slice ASQ2 mN.length cSQ2] 31))).heap.size := hbA.size
    clear HB BX BW BG SW SG SQ
    have HB := nB_
    have BX := nBX
    have BW := nBW
    have BG := nBG
    have SW := nSW
    have SG := nSG
    have SQ := nSQ
    clear nB_ nBX nBW nBG nSW nSG nSQ
    have BH := BH_
    clear BH_ hbA
    have xBH_0 : ((w14.alloc (.cells #[.slice ASQ0 mR.length cSQ0, .slice ASQ1 mT.length cSQ1, .slice ASQ2 mN.length cSQ2] 31))).cell? ⟨w14.heap.size, 0, none⟩ = some (.slice ASQ0 mR.length cSQ0) := (blk_cell BH.out 0).trans rfl
    have xBH_1 : ((w14.alloc (.cells #[.slice ASQ0 mR.length cSQ0, .slice ASQ1 mT.length cSQ1, .slice ASQ2 mN.length cSQ2] 31))).cell? ⟨w14.heap.size, 1, none⟩ = some (.slice ASQ1 mT.length cSQ1) := (blk_cell BH.out 1).trans rfl
    have xBH_2 : ((w14.alloc (.cells #[.slice ASQ0 mR.length cSQ0, .slice ASQ1 mT.length cSQ1, .slice ASQ2 mN.length cSQ2] 31))).cell? ⟨w14.heap.size, 2, none⟩ = some (.slice ASQ2 mN.length cSQ2) := (blk_cell BH.out 2).trans rfl
    have xBW_0 : ((w14.alloc (.cells #[.slice ASQ0 mR.length cSQ0, .slice ASQ1 mT.length cSQ1, .slice ASQ2 mN.length cSQ2] 31))).cell? ⟨w3.heap.size, 0, none⟩ = some (.slice ASW0 mR.length cSW0) := (blk_cell BW.out 0).trans rfl
    have xBW_1 : ((w14.alloc (.cells #[.slice ASQ0 mR.length cSQ0, .slice ASQ1 mT.length cSQ1, .slice ASQ2 mN.length cSQ2] 31))).cell? ⟨w3.heap.size, 1, none⟩ = some (.slice ASW1 mT.length cSW1) := (blk_cell BW.out 1).trans rfl
    have xBW_2 : ((w14.alloc (.cells #[.slice ASQ0 mR.length cSQ0, .slice ASQ1 mT.length cSQ1, .slice ASQ2 mN.length cSQ2] 31))).cell? ⟨w3.heap.size, 2, none⟩ = some (.slice ASW2 mN.length cSW2) := (blk_cell BW.out 2).trans rfl
    go_wp2_with (fail)
    refine (laws_eqState.calls kse _ _ mR _ _ mT _ _ mN _ _ mR _ _ mT _ _ mN true _ (Kd.R_reads' SQ.out.r0).2.2 (Kd.R_reads' SQ.out.r0).2.1 (Kd.S_reads' SQ.out.s1).2.2 (Kd.S_reads' SQ.out.s1).2.1 (Kd.R_reads' SQ.out.r2).2.2 (Kd.R_reads' SQ.out.r2).2.1 (Kd.R_reads' SW.out.r0).2.2 (Kd.R_reads' SW.out.r0).2.1 (Kd.N_reads' SW.out.n1).2.2 (Kd.N_reads' SW.out.n1).2.1 (Kd.R_reads' SW.out.r2).2.2 (Kd.R_reads' SW.out.r2).2.1 hse.out).mono ?_
    rintro e w15 ⟨rfl, hb⟩
    have nB_ := Aside0.mk (below_step HB.out hb)
    have nBX := Aside0.mk (blk_below BX.out hb)
    have nBW := Aside0.mk (blk_below BW.out hb)
    have nBG := Aside0.mk (blk_below BG.out hb)
    have nBH := Aside0.mk (blk_below BH.out hb)
    have nSW := Aside0.mk (SW.out.below hb)
    have nSG := Aside0.mk (SG.out.below hb)
    have nSQ := Aside0.mk (SQ.out.below hb)
    have hs19 : ((w14.alloc (.cells #[.slice ASQ0 mR.length cSQ0, .slice ASQ1 mT.length cSQ1, .slice ASQ2 mN.length cSQ2] 31))).heap.size ≤ (w15).heap.size := hb.size
    clear HB BX BW BG BH SW SG SQ
    have HB := nB_
    have BX := nBX
    have BW := nBW
    have BG := nBG
    have BH := nBH
    have SW := nSW
    have SG := nSG
    have SQ := nSQ
    clear nB_ nBX nBW nBG nBH nSW nSG nSQ
    clear hb
    clear xBH_0 xBH_1 xBH_2
    clear xBW_0 xBW_1 xBW_2
    clear SQ
    clear BH
    have xBG_0 : (w15).cell? ⟨w5.heap.size, 0, none⟩ = some (.slice ASG0 mR.length cSG0) := (blk_cell BG.out 0).trans rfl
    have xBG_1 : (w15).cell? ⟨w5.heap.size, 1, none⟩ = some (.slice ASG1 mT.length cSG1) := (blk_cell BG.out 1).trans rfl
    have xBG_2 : (w15).cell? ⟨w5.heap.size, 2, none⟩ = some (.slice ASG2 mN.length cSG2) := (blk_cell BG.out 2).trans rfl
    go_wp2_with (fail)
    refine calls_of_args (args' := #[.agg #[.slice ASG0 (upTo 1 mR.length).length cSG0, .slice ASG1 (mkT (1 + mR.length) mT).length cSG1, .slice ASG2 (upTo (1 + mR.length + szT mT) mN.length).length cSG2], .int .i64 1]) (by rw [HU0.out, HU1.out, HU2.out]) ?_
    refine (laws_heldState.calls khd _ _ (upTo 1 mR.length) _ _ (mkT (1 + mR.length) mT) _ _ (upTo (1 + mR.length + szT mT) mN.length) 1 _ _ (Kd.R_reads' (n := (upTo 1 mR.length).length) (by rw [HU0.out]; exact SG.out.r0)).2.2 (Kd.R_reads' (n := (upTo 1 mR.length).length) (by rw [HU0.out]; exact SG.out.r0)).2.1 (Kd.S_reads' (n := (mkT (1 + mR.length) mT).length) (by rw [HU1.out]; exact SG.out.s1)).2.2 (Kd.S_reads' (n := (mkT (1 + mR.length) mT).length) (by rw [HU1.out]; exact SG.out.s1)).2.1 (Kd.R_reads' (n := (upTo (1 + mR.length + szT mT) mN.length).length) (by rw [HU2.out]; exact SG.out.r2)).2.2 (Kd.R_reads' (n := (upTo (1 + mR.length + szT mT) mN.length).length) (by rw [HU2.out]; exact SG.out.r2)).2.1 hhd.out).mono ?_
    rintro e w16 ⟨rfl, hb⟩
    have nB_ := Aside0.mk (below_step HB.out hb)
    have nBX := Aside0.mk (blk_below BX.out hb)
    have nBW := Aside0.mk (blk_below BW.out hb)
    have nBG := Aside0.mk (blk_below BG.out hb)
    have nSW := Aside0.mk (SW.out.below hb)
    have nSG := Aside0.mk (SG.out.below hb)
    have hs20 : (w15).heap.size ≤ (w16).heap.size := hb.size
    clear HB BX BW BG SW SG
    have HB := nB_
    have BX := nBX
    have BW := nBW
    have BG := nBG
    have SW := nSW
    have SG := nSG
    clear nB_ nBX nBW nBG nSW nSG
    clear hb
    clear xBG_0 xBG_1 xBG_2
    go_wp2_with (fail)
    go_ret
    exact ⟨rfl, HB.out⟩
end Go.Proofs.Ytncckjibiffnaaa.Lw
