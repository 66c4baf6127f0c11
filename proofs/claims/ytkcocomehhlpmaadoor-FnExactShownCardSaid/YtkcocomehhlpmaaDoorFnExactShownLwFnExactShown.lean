/- The law FnExactShown, walked: its calls by their contracts. -/
import Derived.Test.YtkcocomehhlpmaaDoorFnExactShownLwKitC
import Derived.Test.YtkcocomehhlpmaaDoorFnExactShownHspecShown
import Derived.Test.YtkcocomehhlpmaaDoorFnExactShownQ1
import Derived.Test.YtkcocomehhlpmaaDoorFnExactShownQ2
import Derived.Test.YtkcocomehhlpmaaDoorFnExactShownQ3
import Derived.Test.YtkcocomehhlpmaaDoorFnExactShownSh2
namespace Go.Proofs.YtkcocomehhlpmaaDoor.Lw
open Go.RowKit Go.Proofs.YtkcocomehhlpmaaDoorW.PrintWords Go.Proofs.YtkcocomehhlpmaaDoorW.PrintLast Go.Proofs.YtkcocomehhlpmaaDoorW.PrintMore Go.Proofs.YtkcocomehhlpmaaDoor.Q Go.Proofs.YtkcocomehhlpmaaDoor.Pu Go.Proofs.YtkcocomehhlpmaaDoor.Mk Go.Proofs.YtkcocomehhlpmaaDoor.Sh
set_option linter.unusedVariables false
set_option linter.unusedSimpArgs false
set_option maxHeartbeats 4000000 in
set_option maxRecDepth 100000 in
theorem FnExactShown_calls (A0_0 : Option Addr) (c0_0 : Nat) (l0_0 : List Int) (A0_1 : Option Addr) (c0_1 : Nat) (l0_1 : List S80) (A0_2 : Option Addr) (c0_2 : Nat) (l0_2 : List Int) (w : World) (hr0 : Kd.C (Kd.int .i64) w A0_0 l0_0.length l0_0) (hc0 : l0_0.length ≤ c0_0) (hr1 : Kd.C k80 w A0_1 l0_1.length l0_1) (hc1 : l0_1.length ≤ c0_1) (hr2 : Kd.C (Kd.int .i64) w A0_2 l0_2.length l0_2) (hc2 : l0_2.length ≤ c0_2) (hM : Mem l0_0 l0_1 l0_2)
  (htab : Sh.Tab w) (hm : Small l0_0 l0_1 l0_2 → ∃ m : ByteArray, Ev (fun k => spec_Shown.f k l0_0 (l0_1.map cv) l0_2) m ∧ Ev (fun k => impl_Shown.f k l0_0 (l0_1.map cv) l0_2) m) :
  Calls Tryd.prog 3 #[.agg #[.slice A0_0 l0_0.length c0_0, .slice A0_1 l0_1.length c0_1, .slice A0_2 l0_2.length c0_2]] w fun e w' => e = .returned (.bool true) ∧ Below w.heap.size w w' := by
 have hu25 := Tryd.underlying25
 have hu30 := Tryd.underlying30
 obtain ⟨r, er, hrr⟩ := szState_tells hM
 obtain ⟨ksz, hsz0⟩ := er.rounds
 have hsz := Aside0.mk hsz0
 clear hsz0 er
 have HR0 := Aside0.mk hr0
 have HC0 := Aside0.mk hc0
 have HR1 := Aside0.mk hr1
 have HC1 := Aside0.mk hc1
 have HR2 := Aside0.mk hr2
 have HC2 := Aside0.mk hc2
 clear hr0 hr1 hr2 hc0 hc1 hc2
 have HB := Aside0.mk ((Below.refl w.heap.size w).alloc (Nat.le_refl _) (.cells #[.slice A0_0 l0_0.length c0_0, .slice A0_1 l0_1.length c0_1, .slice A0_2 l0_2.length c0_2] 25))
 have BX := Aside0.mk (show (w.alloc (.cells #[.slice A0_0 l0_0.length c0_0, .slice A0_1 l0_1.length c0_1, .slice A0_2 l0_2.length c0_2] 25)).heap[w.heap.size]? = some (.cells #[.slice A0_0 l0_0.length c0_0, .slice A0_1 l0_1.length c0_1, .slice A0_2 l0_2.length c0_2] 25 (0, 0)) from by simpa using heap_alloc_new w (.cells #[.slice A0_0 l0_0.length c0_0, .slice A0_1 l0_1.length c0_1, .slice A0_2 l0_2.length c0_2] 25))
 have hsx : w.heap.size < (w.alloc (.cells #[.slice A0_0 l0_0.length c0_0, .slice A0_1 l0_1.length c0_1, .slice A0_2 l0_2.length c0_2] 25)).heap.size := by simp
 rcases hrr with hneg | ⟨hpos, hsmall⟩
 ·have hd0 : decide (r < 0) = true := decide_eq_true hneg
  go_enter Tryd.func3, Tryd.ntmps3
  go_wp2_with (fail)
  refine (laws_szState.calls ksz _ _ l0_0 _ _ l0_1 _ _ l0_2 1048576 r _ (Kd.C_below HR0.out HB.out) HC0.out (Kd.C_below HR1.out HB.out) HC1.out (Kd.C_below HR2.out HB.out) HC2.out hsz.out).mono ?_
  rintro e w1 ⟨rfl, hb⟩
  have nB_ := below_step HB.out hb
  clear hb
  go_wp2_with (fail)
  go_ret
  exact ⟨rfl, nB_⟩
 ·have hd0 : decide (r < 0) = false := decide_eq_false (by omega)
  obtain ⟨m, hsp, him⟩ := hm hsmall
  obtain ⟨ksp, hsp10⟩ := (hsp).rounds
  have hsp1 := Aside0.mk hsp10
  clear hsp10
  obtain ⟨kim, him10⟩ := (him).rounds
  have him1 := Aside0.mk him10
  clear him10
  obtain ⟨kts, hts0⟩ := (toState_tells hsmall).rounds
  have hts := Aside0.mk hts0
  clear hts0
  have hPth := Small.paths hsmall
  have hT : (l0_1.map cv).length ≤ 1048576 := by simpa using hsmall.hT
  generalize hTT : l0_1.map cv = T' at *
  clear hTT
  have hR := hsmall.hR
  have hN := hsmall.hN
  obtain ⟨kst, hst0⟩ := (eqState_tells l0_0 T' l0_2 l0_0 T' l0_2 (by omega) (by omega) (by omega) hPth).rounds
  have hst := Aside0.mk (show laws_eqState.f kst l0_0 T' l0_2 l0_0 T' l0_2 = some true from by simpa using hst0)
  clear hst0
  clear hsp him hsmall hm hM hPth
  go_enter Tryd.func3, Tryd.ntmps3
  go_wp2_with (fail)
  refine (laws_szState.calls ksz _ _ l0_0 _ _ l0_1 _ _ l0_2 1048576 r _ (Kd.C_below HR0.out HB.out) HC0.out (Kd.C_below HR1.out HB.out) HC1.out (Kd.C_below HR2.out HB.out) HC2.out hsz.out).mono ?_
  rintro e w1 ⟨rfl, hb⟩
  have nB_ := Aside0.mk (below_step HB.out hb)
  have nBX := Aside0.mk (blk_below BX.out hb)
  have hs0 : ((w.alloc (.cells #[.slice A0_0 l0_0.length c0_0, .slice A0_1 l0_1.length c0_1, .slice A0_2 l0_2.length c0_2] 25))).heap.size ≤ (w1).heap.size := hb.size
  clear HB BX
  have HB := nB_
  have BX := nBX
  clear nB_ nBX
  clear hb
  have xBX_0 : (w1).cell? ⟨w.heap.size, 0, none⟩ = some (.slice A0_0 l0_0.length c0_0) := (blk_cell BX.out 0).trans rfl
  have xBX_1 : (w1).cell? ⟨w.heap.size, 1, none⟩ = some (.slice A0_1 l0_1.length c0_1) := (blk_cell BX.out 1).trans rfl
  have xBX_2 : (w1).cell? ⟨w.heap.size, 2, none⟩ = some (.slice A0_2 l0_2.length c0_2) := (blk_cell BX.out 2).trans rfl
  go_wp2_with (fail)
  refine (laws_toState.calls kts _ _ l0_0 _ _ l0_1 _ _ l0_2 l0_0 T' l0_2 _ (Kd.C_below HR0.out HB.out) HC0.out (Kd.C_below HR1.out HB.out) HC1.out (Kd.C_below HR2.out HB.out) HC2.out hts.out).mono ?_
  rintro e w2 ⟨vSA0, vSA1, vSA2, rfl, q0, q1, q2, hb⟩
  have SA_ := Aside0.mk (St.made (base := w.heap.size) q0 q1 q2 (fun k h => h) (fun k h => h) (fun k h => h) HB.out.size)
  have nB_ := Aside0.mk (below_step HB.out hb)
  have nBX := Aside0.mk (blk_below BX.out hb)
  have hs1 : (w1).heap.size ≤ (w2).heap.size := hb.size
  clear HB BX
  have HB := nB_
  have BX := nBX
  clear nB_ nBX
  have SA := SA_
  clear SA_ q0 q1 q2 hb
  obtain ⟨ASA0, cSA0, ASA1, cSA1, ASA2, cSA2, e0, e1, e2⟩ := SA.out.slices
  subst e0 e1 e2
  clear xBX_0 xBX_1 xBX_2
  go_wp2_with (fail)
  refine (spec_Shown.calls ksp _ _ l0_0 _ _ T' _ _ l0_2 m _ (Kd.R_reads' SA.out.r0).2.2 (Kd.R_reads' SA.out.r0).2.1 (Kd.S_reads' SA.out.s1).2.2 (Kd.S_reads' SA.out.s1).2.1 (Kd.R_reads' SA.out.r2).2.2 (Kd.R_reads' SA.out.r2).2.1 hsp1.out).mono ?_
  rintro e w3 ⟨rfl, hb⟩
  have nB_ := Aside0.mk (below_step HB.out hb)
  have nBX := Aside0.mk (blk_below BX.out hb)
  have nSA := Aside0.mk (SA.out.below hb)
  have hs2 : (w2).heap.size ≤ (w3).heap.size := hb.size
  clear HB BX SA
  have HB := nB_
  have BX := nBX
  have SA := nSA
  clear nB_ nBX nSA
  clear hb
  clear SA
  have xBX_0 : (w3).cell? ⟨w.heap.size, 0, none⟩ = some (.slice A0_0 l0_0.length c0_0) := (blk_cell BX.out 0).trans rfl
  have xBX_1 : (w3).cell? ⟨w.heap.size, 1, none⟩ = some (.slice A0_1 l0_1.length c0_1) := (blk_cell BX.out 1).trans rfl
  have xBX_2 : (w3).cell? ⟨w.heap.size, 2, none⟩ = some (.slice A0_2 l0_2.length c0_2) := (blk_cell BX.out 2).trans rfl
  go_wp2_with (fail)
  refine (laws_toState.calls kts _ _ l0_0 _ _ l0_1 _ _ l0_2 l0_0 T' l0_2 _ (Kd.C_below HR0.out HB.out) HC0.out (Kd.C_below HR1.out HB.out) HC1.out (Kd.C_below HR2.out HB.out) HC2.out hts.out).mono ?_
  rintro e w4 ⟨vSX0, vSX1, vSX2, rfl, q0, q1, q2, hb⟩
  have SX_ := Aside0.mk (St.made (base := w.heap.size) q0 q1 q2 (fun k h => h) (fun k h => h) (fun k h => h) HB.out.size)
  have nB_ := Aside0.mk (below_step HB.out hb)
  have nBX := Aside0.mk (blk_below BX.out hb)
  have hs3 : (w3).heap.size ≤ (w4).heap.size := hb.size
  clear HB BX
  have HB := nB_
  have BX := nBX
  clear nB_ nBX
  have SX := SX_
  clear SX_ q0 q1 q2 hb
  obtain ⟨ASX0, cSX0, ASX1, cSX1, ASX2, cSX2, e0, e1, e2⟩ := SX.out.slices
  subst e0 e1 e2
  clear xBX_0 xBX_1 xBX_2
  have hbA := (Below.refl (w4).heap.size w4).alloc (Nat.le_refl _) (.cells #[.slice ASX0 l0_0.length cSX0, .slice ASX1 T'.length cSX1, .slice ASX2 l0_2.length cSX2] 30)
  have BY_ := Aside0.mk (show ((w4).alloc (.cells #[.slice ASX0 l0_0.length cSX0, .slice ASX1 T'.length cSX1, .slice ASX2 l0_2.length cSX2] 30)).heap[(w4).heap.size]? = some (.cells #[.slice ASX0 l0_0.length cSX0, .slice ASX1 T'.length cSX1, .slice ASX2 l0_2.length cSX2] 30 (0, 0)) from by simpa using heap_alloc_new w4 (.cells #[.slice ASX0 l0_0.length cSX0, .slice ASX1 T'.length cSX1, .slice ASX2 l0_2.length cSX2] 30))
  have hsy : (w4).heap.size < ((w4).alloc (.cells #[.slice ASX0 l0_0.length cSX0, .slice ASX1 T'.length cSX1, .slice ASX2 l0_2.length cSX2] 30)).heap.size := by simp
  have nB_ := Aside0.mk (below_step HB.out hbA)
  have nBX := Aside0.mk (blk_below BX.out hbA)
  have nSX := Aside0.mk (SX.out.below hbA)
  have hs4 : (w4).heap.size ≤ ((w4.alloc (.cells #[.slice ASX0 l0_0.length cSX0, .slice ASX1 T'.length cSX1, .slice ASX2 l0_2.length cSX2] 30))).heap.size := hbA.size
  clear HB BX SX
  have HB := nB_
  have BX := nBX
  have SX := nSX
  clear nB_ nBX nSX
  have BY := BY_
  clear BY_ hbA
  have xBY_0 : ((w4.alloc (.cells #[.slice ASX0 l0_0.length cSX0, .slice ASX1 T'.length cSX1, .slice ASX2 l0_2.length cSX2] 30))).cell? ⟨w4.heap.size, 0, none⟩ = some (.slice ASX0 l0_0.length cSX0) := (blk_cell BY.out 0).trans rfl
  have xBY_1 : ((w4.alloc (.cells #[.slice ASX0 l0_0.length cSX0, .slice ASX1 T'.length cSX1, .slice ASX2 l0_2.length cSX2] 30))).cell? ⟨w4.heap.size, 1, none⟩ = some (.slice ASX1 T'.length cSX1) := (blk_cell BY.out 1).trans rfl
  have xBY_2 : ((w4.alloc (.cells #[.slice ASX0 l0_0.length cSX0, .slice ASX1 T'.length cSX1, .slice ASX2 l0_2.length cSX2] 30))).cell? ⟨w4.heap.size, 2, none⟩ = some (.slice ASX2 l0_2.length cSX2) := (blk_cell BY.out 2).trans rfl
  go_wp2_with (fail)
  refine (impl_Shown.calls kim _ _ l0_0 _ _ T' _ _ l0_2 m _ (Kd.R_reads' SX.out.r0).2.2 (Kd.R_reads' SX.out.r0).2.1 (Kd.S_reads' SX.out.s1).2.2 (Kd.S_reads' SX.out.s1).2.1 (Kd.R_reads' SX.out.r2).2.2 (Kd.R_reads' SX.out.r2).2.1 him1.out (htab.below HB.out)).mono ?_
  rintro e w5 ⟨rfl, hb⟩
  have nB_ := Aside0.mk (below_step HB.out hb)
  have nBX := Aside0.mk (blk_below BX.out hb)
  have nBY := Aside0.mk (blk_below BY.out hb)
  have nSX := Aside0.mk (SX.out.below hb)
  have hs5 : ((w4.alloc (.cells #[.slice ASX0 l0_0.length cSX0, .slice ASX1 T'.length cSX1, .slice ASX2 l0_2.length cSX2] 30))).heap.size ≤ (w5).heap.size := hb.size
  clear HB BX BY SX
  have HB := nB_
  have BX := nBX
  have BY := nBY
  have SX := nSX
  clear nB_ nBX nBY nSX
  clear hb
  clear xBY_0 xBY_1 xBY_2
  go_wp2_with (fail)
  have hbD := below_drew (Below.refl (w5).heap.size w5)
  have nB_ := Aside0.mk (below_step HB.out hbD)
  have nBX := Aside0.mk (blk_below BX.out hbD)
  have nBY := Aside0.mk (blk_below BY.out hbD)
  have nSX := Aside0.mk (SX.out.below hbD)
  have hs6 : (w5).heap.size ≤ (w5.drew).heap.size := hbD.size
  clear HB BX BY SX
  have HB := nB_
  have BX := nBX
  have BY := nBY
  have SX := nSX
  clear nB_ nBX nBY nSX
  clear hbD
  refine start_ (n := 5) (S := fun w' => w'.cell? ⟨w4.heap.size, 0, none⟩ = some (.slice ASX0 l0_0.length cSX0) ∧ w'.cell? ⟨w4.heap.size, 1, none⟩ = some (.slice ASX1 T'.length cSX1) ∧ w'.cell? ⟨w4.heap.size, 2, none⟩ = some (.slice ASX2 l0_2.length cSX2) ∧ w'.cell? ⟨w.heap.size, 0, none⟩ = some (.slice A0_0 l0_0.length c0_0) ∧ w'.cell? ⟨w.heap.size, 1, none⟩ = some (.slice A0_1 l0_1.length c0_1) ∧ w'.cell? ⟨w.heap.size, 2, none⟩ = some (.slice A0_2 l0_2.length c0_2)) (ds := []) #[false, false, false, false, false] (by kernel_rfl) rfl rfl ⟨(blk_cell BY.out 0).trans rfl, (blk_cell BY.out 1).trans rfl, (blk_cell BY.out 2).trans rfl, (blk_cell BX.out 0).trans rfl, (blk_cell BX.out 1).trans rfl, (blk_cell BX.out 2).trans rfl⟩ (fun hHeld => ?_)
  generalize hwd : w5.drew = wd at *
  clear hwd
  refine take_ (i := 0) (N := some 22) (v := ?_) (a' := ?_) #[true, false, false, false, false] rfl rfl (by kernel_rfl) (fun _ _ _ h => h) (Or.inl ⟨by rfl, ?_⟩) hHeld ?_ ?_
  rotate_left
  ·rintro w' ⟨s0, s1, s2, s3, s4, s5⟩
   go_simp
   with_reducible rfl
  rotate_left
  ·simp only [Act.put, List.setIfInBounds_toArray, List.set_cons_zero, List.set_cons_succ, i64_w, i32_w]
   rfl
  refine take_ (i := 1) (N := some 23) (v := ?_) (a' := ?_) #[true, true, false, false, false] rfl rfl (by kernel_rfl) (fun _ _ _ h => h) (Or.inl ⟨by rfl, ?_⟩) hHeld ?_ ?_
  rotate_left
  ·rintro w' ⟨s0, s1, s2, s3, s4, s5⟩
   go_simp
   with_reducible rfl
  rotate_left
  ·simp only [Act.put, List.setIfInBounds_toArray, List.set_cons_zero, List.set_cons_succ, i64_w, i32_w]
   rfl
  refine one_ (i := 2) (N := some 24) #[true, true, true, false, false] rfl rfl (by kernel_rfl) (by decide) (fun K hK => ?_)
  refine goes_ Tryd.func7 (by kernel_rfl) rfl #[.agg #[.slice A0_0 l0_0.length c0_0, .slice A0_1 l0_1.length c0_1, .slice A0_2 l0_2.length c0_2]] (by rfl) rfl rfl (by (try simp only [List.map_toArray, List.map_cons, List.map_nil]); rfl) ?_
  refine (laws_toState.calls kts _ _ l0_0 _ _ l0_1 _ _ l0_2 l0_0 T' l0_2 _ (Kd.C_below HR0.out HB.out) HC0.out (Kd.C_below HR1.out HB.out) HC1.out (Kd.C_below HR2.out HB.out) HC2.out hts.out).mono ?_
  rintro e w6 ⟨vSQ0, vSQ1, vSQ2, rfl, q0, q1, q2, hb⟩
  refine ⟨_, rfl, ?_⟩
  have SQ_ := Aside0.mk (St.made (base := w.heap.size) q0 q1 q2 (fun k h => h) (fun k h => h) (fun k h => h) HB.out.size)
  have nB_ := Aside0.mk (below_step HB.out hb)
  have nBX := Aside0.mk (blk_below BX.out hb)
  have nBY := Aside0.mk (blk_below BY.out hb)
  have nSX := Aside0.mk (SX.out.below hb)
  have hs7 : (wd).heap.size ≤ (w6).heap.size := hb.size
  clear HB BX BY SX
  have HB := nB_
  have BX := nBX
  have BY := nBY
  have SX := nSX
  clear nB_ nBX nBY nSX
  have SQ := SQ_
  clear SQ_ q0 q1 q2 hb
  obtain ⟨ASQ0, cSQ0, ASQ1, cSQ1, ASQ2, cSQ2, e0, e1, e2⟩ := SQ.out.slices
  subst e0 e1 e2
  refine hK.out _ _ ⟨(blk_cell BY.out 0).trans rfl, (blk_cell BY.out 1).trans rfl, (blk_cell BY.out 2).trans rfl, (blk_cell BX.out 0).trans rfl, (blk_cell BX.out 1).trans rfl, (blk_cell BX.out 2).trans rfl⟩ (fun hHeld => ?_)
  clear hK K
  refine norm_ (a' := ?_) ?_ ?_
  rotate_left
  ·show Act.put _ (some 24) _ = _
   simp only [Act.put, List.setIfInBounds_toArray, List.set_cons_zero, List.set_cons_succ, i64_w, i32_w]
   rfl
  refine one_ (i := 3) (N := some 25) #[true, true, true, true, false] rfl rfl (by kernel_rfl) (by decide) (fun K hK => ?_)
  refine goes_ Tryd.func9 (by kernel_rfl) rfl #[.agg #[.slice ASX0 l0_0.length cSX0, .slice ASX1 T'.length cSX1, .slice ASX2 l0_2.length cSX2], .agg #[.slice ASQ0 l0_0.length cSQ0, .slice ASQ1 T'.length cSQ1, .slice ASQ2 l0_2.length cSQ2]] (by rfl) rfl rfl (by (try simp only [List.map_toArray, List.map_cons, List.map_nil]); rfl) ?_
  refine (laws_eqState.calls kst _ _ l0_0 _ _ T' _ _ l0_2 _ _ l0_0 _ _ T' _ _ l0_2 true _ (Kd.R_reads' SX.out.r0).2.2 (Kd.R_reads' SX.out.r0).2.1 (Kd.S_reads' SX.out.s1).2.2 (Kd.S_reads' SX.out.s1).2.1 (Kd.R_reads' SX.out.r2).2.2 (Kd.R_reads' SX.out.r2).2.1 (Kd.R_reads' SQ.out.r0).2.2 (Kd.R_reads' SQ.out.r0).2.1 (Kd.S_reads' SQ.out.s1).2.2 (Kd.S_reads' SQ.out.s1).2.1 (Kd.R_reads' SQ.out.r2).2.2 (Kd.R_reads' SQ.out.r2).2.1 hst.out).mono ?_
  rintro e w7 ⟨rfl, hb⟩
  refine ⟨_, rfl, ?_⟩
  clear SQ
  have nB_ := Aside0.mk (below_step HB.out hb)
  have nBX := Aside0.mk (blk_below BX.out hb)
  have nBY := Aside0.mk (blk_below BY.out hb)
  have nSX := Aside0.mk (SX.out.below hb)
  have hs8 : (w6).heap.size ≤ (w7).heap.size := hb.size
  clear HB BX BY SX
  have HB := nB_
  have BX := nBX
  have BY := nBY
  have SX := nSX
  clear nB_ nBX nBY nSX
  clear hb
  refine hK.out _ _ ⟨(blk_cell BY.out 0).trans rfl, (blk_cell BY.out 1).trans rfl, (blk_cell BY.out 2).trans rfl, (blk_cell BX.out 0).trans rfl, (blk_cell BX.out 1).trans rfl, (blk_cell BX.out 2).trans rfl⟩ (fun hHeld => ?_)
  clear hK K
  refine norm_ (a' := ?_) ?_ ?_
  rotate_left
  ·show Act.put _ (some 25) _ = _
   simp only [Act.put, List.setIfInBounds_toArray, List.set_cons_zero, List.set_cons_succ, i64_w, i32_w]
   rfl
  refine pure_ (i := 4) (N := some 26) (v := ?_) (a' := ?_) #[true, true, true, true, true] rfl rfl (by kernel_rfl) (fun _ _ _ h => h) (Or.inl ⟨by rfl, ?_⟩) ?_ ?_
  rotate_left
  ·intro w'
   go_simp
   with_reducible rfl
  rotate_left
  ·simp only [Act.put, List.setIfInBounds_toArray, List.set_cons_zero, List.set_cons_succ, i64_w, i32_w]
   rfl
  refine done_ (by kernel_rfl) ?_
  go_wp2_with (fail)
  go_ret
  exact ⟨rfl, HB.out⟩
end Go.Proofs.YtkcocomehhlpmaaDoor.Lw
