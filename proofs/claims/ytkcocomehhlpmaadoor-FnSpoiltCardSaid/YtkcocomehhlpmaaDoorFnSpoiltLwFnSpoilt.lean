/- The law FnSpoilt, walked: its calls by their contracts. (Printed by wip/dsgen2.py.) -/
import Derived.Test.YtkcocomehhlpmaaDoorFnSpoiltDs0
import Derived.Test.YtkcocomehhlpmaaDoorFnSpoiltDs1
import Derived.Test.YtkcocomehhlpmaaDoorFnSpoiltPuShown
namespace Go.Proofs.YtkcocomehhlpmaaDoor.Lw
open Go.RowKit Go.Proofs.YtkcocomehhlpmaaDoorW.PrintWords Go.Proofs.YtkcocomehhlpmaaDoorW.PrintLast Go.Proofs.YtkcocomehhlpmaaDoorW.PrintMore Go.Proofs.YtkcocomehhlpmaaDoor.Q Go.Proofs.YtkcocomehhlpmaaDoor.Pu Go.Proofs.YtkcocomehhlpmaaDoor.Sq Go.Proofs.YtkcocomehhlpmaaDoor.Sr Go.Proofs.YtkcocomehhlpmaaDoor.Sh Go.Proofs.YtkcocomehhlpmaaDoor.Ds
set_option linter.unusedVariables false
set_option linter.unusedSimpArgs false
theorem field_ok (a b c : Value) (w : World) : (Instr.field 40 (.agg #[a, b, c]) 0).run Tryd.prog w = .ok a w := by kernel_rfl
set_option maxHeartbeats 4000000 in
set_option maxRecDepth 100000 in
theorem FnSpoilt_calls (A0 : Option Addr) (c0 : Nat) (l0 : List Int) (w : World) (hr0 : Kd.C (Kd.int .u8) w A0 l0.length l0) (hc0 : l0.length ≤ c0) (htab : Sh.Tab w)
  (hm : (l0.length : Int) ≤ 1048576 → ∃ R T N, Ev (fun k => Ds.spec_DrawStateOk.f k l0) (R, T, N) ∧ R.length ≤ 1048576 ∧ T.length ≤ 1048576 ∧ N.length ≤ 1048576) :
  Calls Tryd.prog 4 #[.slice A0 l0.length c0] w fun e w' => e = .returned (.bool true) ∧ Below w.heap.size w w' := by
 have hu := Tryd.underlying30
 have hu2 := Tryd.underlying40
 have hu3 := @field_ok
 by_cases hbig : (1048576 : Int) < (l0.length : Int)
 ·have d0 : decide ((1048576 : Int) < (l0.length : Int)) = true := decide_eq_true hbig
  go_enter Tryd.func4, Tryd.ntmps4
  go_wp2_with (fail)
  go_ret
  exact ⟨rfl, Below.refl _ _⟩
 have d0 : decide ((1048576 : Int) < (l0.length : Int)) = false := decide_eq_false hbig
 obtain ⟨R, T, N, hd, hR, hT, hN⟩ := hm (by omega)
 obtain ⟨kd, hkd⟩ := hd.rounds
 obtain ⟨ki, hki⟩ := (implStateOk_tells R T N hR hT hN).rounds
 obtain ⟨ks, hks⟩ := (specStateOk_tells R T N hR hT hN).rounds
 obtain ⟨kf, hkf⟩ := (implSafe_tells hR hT hN).rounds
 obtain ⟨km, hkm⟩ := (implShown_tells hR hT hN).rounds
 obtain ⟨kp, hkp⟩ := (specShown_tells hR hT hN).rounds
 have HKD := Aside0.mk hkd
 have HKI := Aside0.mk hki
 have HKS := Aside0.mk hks
 have HKF := Aside0.mk hkf
 have HKM := Aside0.mk hkm
 have HKP := Aside0.mk hkp
 have HTB := Aside0.mk htab
 have HR0 := Aside0.mk hr0
 have HSH := Aside0.mk (show okS R T N ≠ 0 → shownD R T N = ⟨#[]⟩ from fun hne => by unfold shownD; rw [if_neg hne])
 clear hd hkd hki hks hkf hkm hkp htab hr0 hR hT hN hm hbig
 go_enter Tryd.func4, Tryd.ntmps4
 go_wp2_with (fail)
 refine (Ds.spec_DrawStateOk.calls kd A0 c0 l0 R T N w HR0.out hc0 HKD.out).mono ?_
 rintro e w1 ⟨v0, v1, v2, rfl, o0, o1, o2, hb1⟩
 obtain ⟨B0, b0, rfl⟩ := Kd.R_slice o0
 obtain ⟨B1, b1, rfl⟩ := Kd.N_slice o1
 obtain ⟨B2, b2, rfl⟩ := Kd.R_slice o2
 have hc0' := (Kd.R_reads' o0).2.1
 have hc1' := (Kd.N_reads' o1).2.1
 have hc2' := (Kd.R_reads' o2).2.1
 have O0 := Aside0.mk (Kd.R_reads' o0).2.2
 have O1 := Aside0.mk (Kd.N_reads' o1).2.2
 have O2 := Aside0.mk (Kd.R_reads' o2).2.2
 have HB1 := Aside0.mk hb1
 have HT1 := Aside0.mk (HTB.out.below hb1)
 have BX := Aside0.mk (heap_alloc_new w1 (.cells #[.slice B0 R.length b0, .slice B1 T.length b1, .slice B2 N.length b2] 30))
 have HC := Aside0.mk (below_alloc (Below.refl w1.heap.size w1) (.cells #[.slice B0 R.length b0, .slice B1 T.length b1, .slice B2 N.length b2] 30))
 clear o0 o1 o2 hb1 HTB HR0 HKD
 obtain ⟨t, ht⟩ : ∃ t, t = okS R T N := ⟨_, rfl⟩
 have HTT := Aside0.mk ht
 rw [← ht] at HKI HKS HSH HKF
 clear ht
 go_wp2_with (fail)
 generalize w1.alloc (.cells #[.slice B0 R.length b0, .slice B1 T.length b1, .slice B2 N.length b2] 30) = wE at *
 have z0 : wE.cell? ⟨w1.heap.size, 0, none⟩ = some (.slice B0 R.length b0) := (blk_cell BX.out 0).trans rfl
 have z1 : wE.cell? ⟨w1.heap.size, 1, none⟩ = some (.slice B1 T.length b1) := (blk_cell BX.out 1).trans rfl
 have z2 : wE.cell? ⟨w1.heap.size, 2, none⟩ = some (.slice B2 N.length b2) := (blk_cell BX.out 2).trans rfl
 refine (impl_StateOk.calls ki _ _ R _ _ T _ _ N t _ (Kd.C_below O0.out HC.out) hc0' (Kd.C_below O1.out HC.out) hc1' (Kd.C_below O2.out HC.out) hc2' HKI.out).mono ?_
 rintro e w2 ⟨rfl, hb⟩
 have nC := Aside0.mk (below_step HC.out hb)
 have nB := Aside0.mk (blk_below BX.out hb)
 clear hb HC BX z0 z1 z2
 have HC := nC
 have BX := nB
 clear nC nB
 have z0 : w2.cell? ⟨w1.heap.size, 0, none⟩ = some (.slice B0 R.length b0) := (blk_cell BX.out 0).trans rfl
 have z1 : w2.cell? ⟨w1.heap.size, 1, none⟩ = some (.slice B1 T.length b1) := (blk_cell BX.out 1).trans rfl
 have z2 : w2.cell? ⟨w1.heap.size, 2, none⟩ = some (.slice B2 N.length b2) := (blk_cell BX.out 2).trans rfl
 go_wp2_with (fail)
 refine (spec_StateOk.calls ks _ _ R _ _ T _ _ N t _ (Kd.C_below O0.out HC.out) hc0' (Kd.C_below O1.out HC.out) hc1' (Kd.C_below O2.out HC.out) hc2' HKS.out).mono ?_
 rintro e w3 ⟨rfl, hb⟩
 have nC := Aside0.mk (below_step HC.out hb)
 have nB := Aside0.mk (blk_below BX.out hb)
 clear hb HC BX z0 z1 z2
 have HC := nC
 have BX := nB
 clear nC nB
 have z0 : w3.cell? ⟨w1.heap.size, 0, none⟩ = some (.slice B0 R.length b0) := (blk_cell BX.out 0).trans rfl
 have z1 : w3.cell? ⟨w1.heap.size, 1, none⟩ = some (.slice B1 T.length b1) := (blk_cell BX.out 1).trans rfl
 have z2 : w3.cell? ⟨w1.heap.size, 2, none⟩ = some (.slice B2 N.length b2) := (blk_cell BX.out 2).trans rfl
 by_cases c0 : t = 0
 ·have c1 : (t == 0) = true := beq_iff_eq.mpr c0
  have c2 : (t != 0) = false := by rw [c0]; rfl
  have c3 : decide (t = 0) = true := decide_eq_true c0
  go_wp2_with (fail)
  refine start_ (n := 6) (S := fun w' => w'.cell? ⟨w1.heap.size, 0, none⟩ = some (.slice B0 R.length b0) ∧ w'.cell? ⟨w1.heap.size, 1, none⟩ = some (.slice B1 T.length b1) ∧ w'.cell? ⟨w1.heap.size, 2, none⟩ = some (.slice B2 N.length b2)) (ds := []) (Array.replicate 6 false) (by kernel_rfl) rfl rfl ⟨z0, z1, z2⟩ (fun hS => ?_)
  have hd5 := below_drew (Below.refl w3.heap.size w3)
  have nC := Aside0.mk (below_step HC.out hd5)
  have nB := Aside0.mk (blk_below BX.out hd5)
  clear HC BX z0 z1 z2 hd5
  have HC := nC
  have BX := nB
  clear nC nB
  generalize w3.drew = wd at *
  refine nt_ hS 0 18 rfl rfl (by kernel_rfl) (fun _ _ _ h => h) (by rfl) (fun w' ⟨s0, s1, s2⟩ => by go_simp; with_reducible rfl) (by simp only [AP_, i64_w]; rfl) ?_
  refine nt_ hS 2 20 rfl rfl (by kernel_rfl) (fun _ _ _ h => h) (by rfl) (fun w' ⟨s0, s1, s2⟩ => by go_simp; with_reducible rfl) (by simp only [AP_, i64_w]; rfl) ?_
  refine no_ 1 19 rfl rfl (by kernel_rfl) (by decide) (fun K hK => ?_)
  refine goes_ Tryd.func8 (by kernel_rfl) rfl #[.agg #[.slice B0 R.length b0, .slice B1 T.length b1, .slice B2 N.length b2]] (by rfl) rfl rfl (by (try simp only [List.map_toArray, List.map_cons, List.map_nil]); rfl) ?_
  refine (impl_Shown.calls km _ _ R _ _ T _ _ N (shownD R T N) _ (Kd.C_below O0.out HC.out) hc0' (Kd.C_below O1.out HC.out) hc1' (Kd.C_below O2.out HC.out) hc2' HKM.out (HT1.out.below HC.out)).mono ?_
  rintro e w4 ⟨rfl, hb⟩
  refine ⟨_, rfl, ?_⟩
  have nC := Aside0.mk (below_step HC.out hb)
  have nB := Aside0.mk (blk_below BX.out hb)
  clear hb HC BX
  have HC := nC
  have BX := nB
  clear nC nB
  refine hK _ _ ⟨(blk_cell BX.out 0).trans rfl, (blk_cell BX.out 1).trans rfl, (blk_cell BX.out 2).trans rfl⟩ (fun hS => ?_)
  refine norm_ (a' := ?_) ?_ ?_
  rotate_left
  ·show Act.put _ (some 19) _ = _
   simp only [AP_, i64_w]
   rfl
  refine no_ 3 21 rfl rfl (by kernel_rfl) (by decide) (fun K hK => ?_)
  refine goes_ Tryd.func6 (by kernel_rfl) rfl #[.agg #[.slice B0 R.length b0, .slice B1 T.length b1, .slice B2 N.length b2]] (by rfl) rfl rfl (by (try simp only [List.map_toArray, List.map_cons, List.map_nil]); rfl) ?_
  refine (spec_Shown.calls kp _ _ R _ _ T _ _ N (shownD R T N) _ (Kd.C_below O0.out HC.out) hc0' (Kd.C_below O1.out HC.out) hc1' (Kd.C_below O2.out HC.out) hc2' HKP.out).mono ?_
  rintro e w5 ⟨rfl, hb⟩
  refine ⟨_, rfl, ?_⟩
  have nC := Aside0.mk (below_step HC.out hb)
  have nB := Aside0.mk (blk_below BX.out hb)
  clear hb HC BX
  have HC := nC
  have BX := nB
  clear nC nB
  refine hK _ _ ⟨(blk_cell BX.out 0).trans rfl, (blk_cell BX.out 1).trans rfl, (blk_cell BX.out 2).trans rfl⟩ (fun hS => ?_)
  refine norm_ (a' := ?_) ?_ ?_
  rotate_left
  ·show Act.put _ (some 21) _ = _
   simp only [AP_, i64_w]
   rfl
  refine np_ 4 22 (v := .bool true) rfl rfl (by kernel_rfl) (fun _ _ _ h => h) (by rfl) (fun w' => by go_simp) (by simp only [AP_, i64_w]; rfl) ?_
  refine np_ 5 2 (v := .bool true) rfl rfl (by kernel_rfl) (fun _ _ _ h => h) (by rfl) (fun w' => by go_simp) (by simp only [AP_, i64_w]; rfl) ?_
  refine done_ (by kernel_rfl) ?_
  go_wp2_with (fail)
  go_ret
  exact ⟨rfl, below_step HB1.out HC.out⟩
 ·have c1 : (t == 0) = false := beq_eq_false_iff_ne.mpr c0
  have c2 : (t != 0) = true := bne_iff_ne.mpr c0
  have c3 : decide (t = 0) = false := decide_eq_false c0
  rw [HSH.out c0] at HKM
  rw [if_neg c0] at HKF
  go_wp2_with (fail)
  refine (impl_Safe.calls kf _ _ R _ _ T _ _ N false _ (Kd.C_below O0.out HC.out) hc0' (Kd.C_below O1.out HC.out) hc1' (Kd.C_below O2.out HC.out) hc2' HKF.out).mono ?_
  rintro e w6 ⟨rfl, hb⟩
  have nC := Aside0.mk (below_step HC.out hb)
  have nB := Aside0.mk (blk_below BX.out hb)
  clear hb HC BX z0 z1 z2
  have HC := nC
  have BX := nB
  clear nC nB
  have z0 : w6.cell? ⟨w1.heap.size, 0, none⟩ = some (.slice B0 R.length b0) := (blk_cell BX.out 0).trans rfl
  have z1 : w6.cell? ⟨w1.heap.size, 1, none⟩ = some (.slice B1 T.length b1) := (blk_cell BX.out 1).trans rfl
  have z2 : w6.cell? ⟨w1.heap.size, 2, none⟩ = some (.slice B2 N.length b2) := (blk_cell BX.out 2).trans rfl
  go_wp2_with (fail)
  refine (stuck_wrong ki _ _ R _ _ T _ _ N t _ (Kd.C_below O0.out HC.out) hc0' (Kd.C_below O1.out HC.out) hc1' (Kd.C_below O2.out HC.out) hc2' HKI.out c0).mono ?_
  rintro e w7 ⟨rfl, hb⟩
  have nC := Aside0.mk (below_step HC.out hb)
  have nB := Aside0.mk (blk_below BX.out hb)
  clear hb HC BX z0 z1 z2
  have HC := nC
  have BX := nB
  clear nC nB
  have z0 : w7.cell? ⟨w1.heap.size, 0, none⟩ = some (.slice B0 R.length b0) := (blk_cell BX.out 0).trans rfl
  have z1 : w7.cell? ⟨w1.heap.size, 1, none⟩ = some (.slice B1 T.length b1) := (blk_cell BX.out 1).trans rfl
  have z2 : w7.cell? ⟨w1.heap.size, 2, none⟩ = some (.slice B2 N.length b2) := (blk_cell BX.out 2).trans rfl
  go_wp2_with (fail)
  refine (moves_wrong ki _ _ R _ _ T _ _ N t _ (Kd.C_below O0.out HC.out) hc0' (Kd.C_below O1.out HC.out) hc1' (Kd.C_below O2.out HC.out) hc2' HKI.out c0).mono ?_
  rintro e w8 ⟨rfl, hb⟩
  have nC := Aside0.mk (below_step HC.out hb)
  have nB := Aside0.mk (blk_below BX.out hb)
  clear hb HC BX z0 z1 z2
  have HC := nC
  have BX := nB
  clear nC nB
  have z0 : w8.cell? ⟨w1.heap.size, 0, none⟩ = some (.slice B0 R.length b0) := (blk_cell BX.out 0).trans rfl
  have z1 : w8.cell? ⟨w1.heap.size, 1, none⟩ = some (.slice B1 T.length b1) := (blk_cell BX.out 1).trans rfl
  have z2 : w8.cell? ⟨w1.heap.size, 2, none⟩ = some (.slice B2 N.length b2) := (blk_cell BX.out 2).trans rfl
  go_wp2_with (fail)
  refine (solve_wrong ki _ _ R _ _ T _ _ N t _ (Kd.C_below O0.out HC.out) hc0' (Kd.C_below O1.out HC.out) hc1' (Kd.C_below O2.out HC.out) hc2' HKI.out c0).mono ?_
  rintro e w9 ⟨rfl, hb⟩
  have nC := Aside0.mk (below_step HC.out hb)
  have nB := Aside0.mk (blk_below BX.out hb)
  clear hb HC BX z0 z1 z2
  have HC := nC
  have BX := nB
  clear nC nB
  have z0 : w9.cell? ⟨w1.heap.size, 0, none⟩ = some (.slice B0 R.length b0) := (blk_cell BX.out 0).trans rfl
  have z1 : w9.cell? ⟨w1.heap.size, 1, none⟩ = some (.slice B1 T.length b1) := (blk_cell BX.out 1).trans rfl
  have z2 : w9.cell? ⟨w1.heap.size, 2, none⟩ = some (.slice B2 N.length b2) := (blk_cell BX.out 2).trans rfl
  go_wp2_with (fail)
  refine (cost_wrong ki _ _ R _ _ T _ _ N t _ (Kd.C_below O0.out HC.out) hc0' (Kd.C_below O1.out HC.out) hc1' (Kd.C_below O2.out HC.out) hc2' HKI.out c0).mono ?_
  rintro e w10 ⟨rfl, hb⟩
  have nC := Aside0.mk (below_step HC.out hb)
  have nB := Aside0.mk (blk_below BX.out hb)
  clear hb HC BX z0 z1 z2
  have HC := nC
  have BX := nB
  clear nC nB
  have z0 : w10.cell? ⟨w1.heap.size, 0, none⟩ = some (.slice B0 R.length b0) := (blk_cell BX.out 0).trans rfl
  have z1 : w10.cell? ⟨w1.heap.size, 1, none⟩ = some (.slice B1 T.length b1) := (blk_cell BX.out 1).trans rfl
  have z2 : w10.cell? ⟨w1.heap.size, 2, none⟩ = some (.slice B2 N.length b2) := (blk_cell BX.out 2).trans rfl
  go_wp2_with (fail)
  refine (impl_Shown.calls km _ _ R _ _ T _ _ N ⟨#[]⟩ _ (Kd.C_below O0.out HC.out) hc0' (Kd.C_below O1.out HC.out) hc1' (Kd.C_below O2.out HC.out) hc2' HKM.out (HT1.out.below HC.out)).mono ?_
  rintro e w11 ⟨rfl, hb⟩
  have nC := Aside0.mk (below_step HC.out hb)
  have nB := Aside0.mk (blk_below BX.out hb)
  clear hb HC BX z0 z1 z2
  have HC := nC
  have BX := nB
  clear nC nB
  have z0 : w11.cell? ⟨w1.heap.size, 0, none⟩ = some (.slice B0 R.length b0) := (blk_cell BX.out 0).trans rfl
  have z1 : w11.cell? ⟨w1.heap.size, 1, none⟩ = some (.slice B1 T.length b1) := (blk_cell BX.out 1).trans rfl
  have z2 : w11.cell? ⟨w1.heap.size, 2, none⟩ = some (.slice B2 N.length b2) := (blk_cell BX.out 2).trans rfl
  go_wp2_with (fail)
  refine (free_wrong ki _ _ R _ _ T _ _ N t _ (Kd.C_below O0.out HC.out) hc0' (Kd.C_below O1.out HC.out) hc1' (Kd.C_below O2.out HC.out) hc2' HKI.out c0).mono ?_
  rintro e w12 ⟨rfl, hb⟩
  have nC := Aside0.mk (below_step HC.out hb)
  have nB := Aside0.mk (blk_below BX.out hb)
  clear hb HC BX z0 z1 z2
  have HC := nC
  have BX := nB
  clear nC nB
  have z0 : w12.cell? ⟨w1.heap.size, 0, none⟩ = some (.slice B0 R.length b0) := (blk_cell BX.out 0).trans rfl
  have z1 : w12.cell? ⟨w1.heap.size, 1, none⟩ = some (.slice B1 T.length b1) := (blk_cell BX.out 1).trans rfl
  have z2 : w12.cell? ⟨w1.heap.size, 2, none⟩ = some (.slice B2 N.length b2) := (blk_cell BX.out 2).trans rfl
  go_wp2_with (fail)
  go_ret
  exact ⟨rfl, below_step HB1.out HC.out⟩
end Go.Proofs.YtkcocomehhlpmaaDoor.Lw
