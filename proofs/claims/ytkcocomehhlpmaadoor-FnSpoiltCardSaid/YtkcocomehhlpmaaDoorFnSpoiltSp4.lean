/- The specification's search: what a state costs. Walked by hand. -/
import Derived.Test.YtkcocomehhlpmaaDoorFnSpoiltSp3
import Derived.Test.YtkcocomehhlpmaaDoorFnSpoiltQ4
import Derived.Test.YtkcocomehhlpmaaDoorFnSpoiltQ5
import Derived.Test.YtkcocomehhlpmaaDoorFnSpoiltQ8
import Derived.Test.YtkcocomehhlpmaaDoorFnSpoiltQ2
namespace Go.Proofs.YtkcocomehhlpmaaDoor.Sp
open Go.RowKit Go.Proofs.YtkcocomehhlpmaaDoorW.PrintWords Go.Proofs.YtkcocomehhlpmaaDoorW.PrintLast Go.Proofs.YtkcocomehhlpmaaDoorW.PrintMore Go.Proofs.YtkcocomehhlpmaaDoor.Q Go.Proofs.YtkcocomehhlpmaaDoor.Pu Go.Proofs.YtkcocomehhlpmaaDoor.Sr
attribute [local go_sem] max2_int min2_int max_two min_two max_three min_three max_four min_four
set_option linter.unusedVariables false
set_option linter.unusedSimpArgs false
set_option maxHeartbeats 1000000 in
set_option maxRecDepth 100000 in
theorem value_calls {w0 : World} {gt gc gm M : Nat} {vp vn : Value} {cc cm : Nat} {R : List Int} {T : List S48} {N : List Int} (hR : Right R T N) (hMs : M = szP T T.length) :
  ∀ (m : Nat) (v : List Nat) (W : World) (Cs : List Int) (Ms : List Bool), okV T v → lftP T v T.length = m → Sq w0 W gt gc gm M vp vn cc cm T N Cs Ms → Gm R T Cs Ms →
  ∀ (A0 : Option Addr) (c0 : Nat) (A1 : Option Addr) (c1 : Nat) (A2 : Option Addr) (c2 : Nat), Stb (Kd.int .i64) gc gm W A0 R.length R → R.length ≤ c0 → Stb k48 gc gm W A1 (stT T v).length (stT T v) → (stT T v).length ≤ c1 → Stb (Kd.int .i64) gc gm W A2 (stN T N v).length (stN T N v) → (stN T N v).length ≤ c2 →
  Calls Tryd.prog 49 #[.pointer (some ⟨gt, 0, none⟩), .agg #[.slice A0 R.length c0, .slice A1 (stT T v).length c1, .slice A2 (stN T N v).length c2]] W fun e W' => e = .returned (.int .i64 (V R T v)) ∧ Kp gc gm W W' ∧ ∃ Cs' Ms', Sq w0 W' gt gc gm M vp vn cc cm T N Cs' Ms' ∧ Gm R T Cs' Ms' := by
 intro m
 induction m using Nat.strongRecOn with
 | _ m ih =>
 intro v W Cs Ms hv hm hS hG A0 c0 A1 c1 A2 c2 s0 h0 s1 h1 s2 h2
 have IH := Aside0.mk ih
 have HRT := Aside0.mk hR
 have hw := hR.wf
 have HW := Aside0.mk hw
 have HV := Aside0.mk hv
 have HLF := Aside0.mk hm
 have HS := Aside0.mk hS
 have HG := Aside0.mk hG
 have S0 := Aside0.mk s0
 have S1 := Aside0.mk s1
 have S2 := Aside0.mk s2
 have ht1 := hw.t1
 have hv5 := hv.1
 have hM0 : 0 < M := by
  have h9 := numP_lt hv T.length (Nat.le_refl _)
  omega
 have hnum : numP T v T.length < M := by rw [hMs]; exact numP_lt hv T.length (Nat.le_refl _)
 have hMsm : M ≤ 100000 := by rw [hMs]; exact szP_small hw (Nat.le_refl _)
 have HAT := Aside0.mk (fun (W2 : World) (hq : Sq w0 W2 gt gc gm M vp vn cc cm T N Cs Ms) (hk : Kp gc gm W W2) => at_calls hq hR hv (s0.step hk).now h0 (s1.step hk).now h1 (s2.step hk).now h2)
 have HVI := Aside0.mk (V_idx (R := R) (T := T) (v := v) (by omega))
 have HVS := Aside0.mk (V_small hw (v := v) (by omega))
 have hwr := wtP_range hw v T.length (Nat.le_refl _)
 have HCAN := Aside0.mk (fun (k : Nat) (hk : k < (stT T v).length) => (show ∃ kk, spec_l1can.f kk R (stT T v) (stN T N v) (k : Int) = some (okP R T v ((idx T v).getD k 0)) from by
  have h9 := (l1can_tells (st_wf hw (v := v)) k hk).rounds
  rw [can_st hw (by rw [← stT_len]; exact hk)] at h9
  exact h9))
 have HSTEP := Aside0.mk (fun (k : Nat) (hk : k < (stT T v).length) => (show ∃ kk, spec_l1step.f kk R (stT T v) (stN T N v) (k : Int) = some (R, stT T (inc v ((idx T v).getD k 0)), stN T N (inc v ((idx T v).getD k 0))) from by
  have h9 := (l1step_tells (st_wf hw (v := v)) k hk).rounds
  rw [step_st hw (by omega) (by rw [← stT_len]; exact hk)] at h9
  exact h9))
 have HWT := Aside0.mk (show ∃ kk, spec_l2weight.f kk R (stT T v) (stN T N v) = some (wtP T v T.length) from by
  have h9 := (weight_tells (st_wf hw (v := v))).rounds
  rw [wgt_st] at h9
  exact h9)
 have HJ := Aside0.mk (fun (k : Nat) (hk : k < (stT T v).length) (hok : okP R T v ((idx T v).getD k 0) = true) => (show okV T (inc v ((idx T v).getD k 0)) ∧ lftP T (inc v ((idx T v).getD k 0)) T.length + 1 = lftP T v T.length from by
  rw [stT_len] at hk
  have hmem : (idx T v).getD k 0 ∈ mvP R T v T.length := by
   rw [mvP_idx]; exact List.mem_filter.2 ⟨getD_mem 0 hk, hok⟩
  exact ⟨okV_inc ht1 hv hmem, lft_mv (R := R) (by omega) hmem⟩))
 have HFV := Aside0.mk (fun (k : Nat) (hk : k < (stT T v).length) => Fv_succ (R := R) (T := T) (v := v) (k := k) (by rw [← stT_len]; exact hk))
 have hTi : (stT T v).length = (idx T v).length := stT_len T v
 have hTl : (stT T v).length ≤ 5 := by rw [hTi]; exact Nat.le_trans (idx_len T v) ht1
 have HTI := Aside0.mk hTi
 have HNE := Aside0.mk (hS.ne hM0)
 clear ih hR hv hm hS hG s0 s1 s2 hw hTi
 generalize stT T v = T' at *
 generalize stN T N v = N' at *
 have hu26 := Tryd.underlying30
 by_cases he : T'.length = 0
 ·have d12 : ((T'.length : Int) == 0) = true := by rw [he]; rfl
  have hi0 : idx T v = [] := List.length_eq_zero_iff.1 (HTI.out.symm.trans he)
  have HE : Aside0 (V R T v = 0) := ⟨by rw [HVI.out, if_pos hi0]⟩
  clear hi0
  go_enter Tryd.func49, Tryd.ntmps49
  go_wp2_with (fail)
  go_ret
  exact ⟨by have hq := HE.out; simp [hq], Kp.of_below ((Below.refl _ _).alloc (Nat.le_refl _) _), Cs, Ms, HS.out.below ((Below.refl _ _).alloc (Nat.le_refl _) _), HG.out⟩
 ·have d12 : ((T'.length : Int) == 0) = false := beq_eq_false_iff_ne.mpr (by omega)
  go_enter Tryd.func49, Tryd.ntmps49
  go_wp2_with (first | ((with_reducible refine gate_dst (N := 3) rfl ?_); refine box_event ?hg (N := 3) ?hd (cs := #[.slice A0 R.length c0, .slice A1 T'.length c1, .slice A2 N'.length c2]) (t := 30) ?hr ?_; (case hd => rfl); (case hg => rfl); (case hr => first | (go_simp; done) | (go_simp; rfl)); intro gb hg w1 hbox hb; subst hg; have HB := Aside0.mk hb; have BK := Aside0.mk hbox; clear hb hbox; have z0 : w1.cell? ⟨W.heap.size, 0, none⟩ = some (.slice A0 R.length c0) := (blk_cell BK.out 0).trans rfl; have z1 : w1.cell? ⟨W.heap.size, 1, none⟩ = some (.slice A1 T'.length c1) := (blk_cell BK.out 1).trans rfl; have z2 : w1.cell? ⟨W.heap.size, 2, none⟩ = some (.slice A2 N'.length c2) := (blk_cell BK.out 2).trans rfl))
  have HK1 := Aside0.mk (Kp.of_below (gc := gc) (gm := gm) HB.out)
  have HS1 := Aside0.mk (HS.out.below HB.out)
  refine (HAT.out w1 HS1.out HK1.out).mono ?_
  rintro e w2 ⟨rfl, hb⟩
  have HS2 := Aside0.mk (HS1.out.below hb)
  have HK2 := Aside0.mk (HK1.out.trans (Kp.of_below hb))
  have BK2 := Aside0.mk (blk_below BK.out hb)
  clear HS HS1 HK1 BK HB hb z0 z1 z2
  obtain ⟨ym, _⟩ := HS2.out.cellm hnum
  obtain ⟨yc, _⟩ := HS2.out.cellc hnum
  have HGV := Aside0.mk (HG.out v HV.out)
  have y3 : w2.cell? ⟨gt, 3, none⟩ = some (.slice (some ⟨gm, 0, none⟩) M cm) := (blk_cell HS2.out.blk 3).trans rfl
  have y2 : w2.cell? ⟨gt, 2, none⟩ = some (.slice (some ⟨gc, 0, none⟩) M cc) := (blk_cell HS2.out.blk 2).trans rfl
  have HNUM := Aside0.mk hnum
  have z1 : w2.cell? ⟨W.heap.size, 1, none⟩ = some (.slice A1 T'.length c1) := (blk_cell BK2.out 1).trans rfl
  generalize hnk : numP T v T.length = kk at ym yc HGV hnum
  have HNK := Aside0.mk hnk
  clear hnk
  have pk : (0 : Int) ≤ (kk : Int) := by omega
  have qk : (kk : Int) < (M : Int) := by omega
  generalize hmet : Ms.getD kk false = met at ym HGV
  clear hmet
  cases met
  ·go_wp2_with (fail)
   go_loopw [6, 33] (fun x6 x33 wr => ∃ i : Nat, i ≤ T'.length ∧ x33 = .int .i64 i ∧ x6 = .int .i64 (Fv R T v ((idx T v).take i)) ∧ Aside0 (Kp gc gm w2 wr) ∧ Aside0 (∃ Cs' Ms', Sq w0 wr gt gc gm M vp vn cc cm T N Cs' Ms' ∧ Gm R T Cs' Ms')) (fun _ x33 _ => T'.length - (intOf x33).toNat)
   case atStart => exact ⟨0, Nat.zero_le _, rfl, rfl, ⟨Kp.refl _ _ _⟩, ⟨Cs, Ms, HS2.out, HG.out⟩⟩
   case round =>
    clear ym yc y3 y2 z1 HGV
    obtain ⟨i, hi, rfl, rfl, HK, HQ⟩ := hrel
    obtain ⟨Cs', Ms', hq, hg⟩ := HQ.out
    have HQ1 := Aside0.mk hq
    have HG1 := Aside0.mk hg
    clear hq hg HQ
    have HKW := Aside0.mk (HK2.out.trans HK.out)
    have BKr : Aside0 (wr.heap[W.heap.size]? = some (.cells #[.slice A0 R.length c0, .slice A1 T'.length c1, .slice A2 N'.length c2] 30 (0, 0))) := ⟨(HK.out.block _ (Array.getElem?_eq_some_iff.1 BK2.out).1 (by have := HNE.out; omega) (by have := HNE.out; omega)).trans BK2.out⟩
    by_cases hlt : i < T'.length
    ·have d34 : decide ((i : Int) < (T'.length : Int)) = true := decide_eq_true (by omega)
     have p5 : (0 : Int) ≤ (i : Int) := by omega
     have q5 : (i : Int) < (T'.length : Int) := by omega
     obtain ⟨kc, hkc⟩ := HCAN.out i hlt
     have HKC := Aside0.mk hkc
     have HF := Aside0.mk (HFV.out i hlt)
     have HJI := Aside0.mk (HJ.out i hlt)
     clear hkc
     generalize hok : okP R T v ((idx T v).getD i 0) = ok at HKC HF HJI
     clear hok
     have z0 : wr.cell? ⟨W.heap.size, 0, none⟩ = some (.slice A0 R.length c0) := (blk_cell BKr.out 0).trans rfl
     have z1 : wr.cell? ⟨W.heap.size, 1, none⟩ = some (.slice A1 T'.length c1) := (blk_cell BKr.out 1).trans rfl
     have z2 : wr.cell? ⟨W.heap.size, 2, none⟩ = some (.slice A2 N'.length c2) := (blk_cell BKr.out 2).trans rfl
     go_wp2_with (fail)
     refine (spec_l1can.calls kc _ _ R _ _ T' _ _ N' (i : Int) ok wr (S0.out.step HKW.out).now h0 (S1.out.step HKW.out).now h1 (S2.out.step HKW.out).now h2 HKC.out).mono ?_
     rintro e w3 ⟨rfl, hb⟩
     have HK3 := Aside0.mk (HK.out.trans (Kp.of_below hb))
     have HKW3 := Aside0.mk (HKW.out.trans (Kp.of_below hb))
     have HQ3 := Aside0.mk (HQ1.out.below hb)
     have BK3 := Aside0.mk (blk_below BKr.out hb)
     clear HK HKW HQ1 BKr hb z0 z1 z2 HKC
     cases ok
     ·go_wp2_with (fail)
      go_roundw
      case measure => simp [intOf]; omega
      case rel => exact ⟨i + 1, hlt, by go_num, by rw [HF.out]; rfl, HK3, ⟨Cs', Ms', HQ3.out, HG1.out⟩⟩
     ·have HF2 : Aside0 (Fv R T v ((idx T v).take (i + 1)) = betP (wtP T v T.length) (Fv R T v ((idx T v).take i)) (V R T (inc v ((idx T v).getD i 0)))) := ⟨HF.out.trans (if_pos rfl)⟩
      have HJ2 := Aside0.mk (HJI.out rfl)
      clear HF HJI
      obtain ⟨ks, hks⟩ := HSTEP.out i hlt
      have HKS := Aside0.mk hks
      clear hks
      generalize (idx T v).getD i 0 = j at HF2 HJ2 HKS
      have z0 : w3.cell? ⟨W.heap.size, 0, none⟩ = some (.slice A0 R.length c0) := (blk_cell BK3.out 0).trans rfl
      have z1 : w3.cell? ⟨W.heap.size, 1, none⟩ = some (.slice A1 T'.length c1) := (blk_cell BK3.out 1).trans rfl
      have z2 : w3.cell? ⟨W.heap.size, 2, none⟩ = some (.slice A2 N'.length c2) := (blk_cell BK3.out 2).trans rfl
      go_wp2_with (fail)
      refine (spec_l1step.calls ks _ _ R _ _ T' _ _ N' (i : Int) R (stT T (inc v j)) (stN T N (inc v j)) w3 (S0.out.step HKW3.out).now h0 (S1.out.step HKW3.out).now h1 (S2.out.step HKW3.out).now h2 HKS.out).mono ?_
      rintro e w4 ⟨u0, u1, u2, rfl, q0, q1, q2, hb⟩
      obtain ⟨B0, b0, eb0⟩ := Kd.R_slice q0
      obtain ⟨B1, b1, eb1⟩ := Kd.N_slice q1
      obtain ⟨B2, b2, eb2⟩ := Kd.R_slice q2
      subst eb0 eb1 eb2
      have HLT := Aside0.mk (show gc < w3.heap.size ∧ gm < w3.heap.size from by have h9 := HNE.out; have h8 := HKW3.out.size; omega)
      have T0 := Aside0.mk (Stb.of_R (gc := gc) (gm := gm) q0 (fun k hk => by have h9 := HLT.out; have h8 := hk.1; omega))
      have T1 := Aside0.mk (Stb.of_N (gc := gc) (gm := gm) q1 (fun k hk => by have h9 := HLT.out; have h8 := hk.1; omega))
      have T2 := Aside0.mk (Stb.of_R (gc := gc) (gm := gm) q2 (fun k hk => by have h9 := HLT.out; have h8 := hk.1; omega))
      have T3 := Aside0.mk (And.intro (Kd.R_reads' q0).2.1 (And.intro (Kd.N_reads' q1).2.1 (Kd.R_reads' q2).2.1))
      have HK4 := Aside0.mk (HK3.out.trans (Kp.of_below hb))
      have HKW4 := Aside0.mk (HKW3.out.trans (Kp.of_below hb))
      have HQ4 := Aside0.mk (HQ3.out.below hb)
      have BK4 := Aside0.mk (blk_below BK3.out hb)
      clear q0 q1 q2 hb HK3 HKW3 HQ3 BK3 z0 z1 z2 HKS
      go_wp2_with (fail)
      refine (IH.out _ (by have h8 := HLF.out; have h9 := HJ2.out; omega) (inc v j) w4 Cs' Ms' HJ2.out.1 rfl HQ4.out HG1.out _ _ _ _ _ _ T0.out T3.out.1 T1.out T3.out.2.1 T2.out T3.out.2.2).mono ?_
      rintro e w5 ⟨rfl, hk5, Cs5, Ms5, hq5, hg5⟩
      have HK5 := Aside0.mk (HK4.out.trans hk5)
      have HKw := Aside0.mk (HKW4.out.trans hk5)
      have HQ5 := Aside0.mk hq5
      have HG5 := Aside0.mk hg5
      have BK5 : Aside0 (w5.heap[W.heap.size]? = some (.cells #[.slice A0 R.length c0, .slice A1 T'.length c1, .slice A2 N'.length c2] 30 (0, 0))) := ⟨(hk5.block _ (Array.getElem?_eq_some_iff.1 BK4.out).1 (by have := HNE.out; omega) (by have := HNE.out; omega)).trans BK4.out⟩
      have hvs := V_small (R := R) (T := T) (N := N) HW.out (v := inc v j) (by rw [inc_len]; omega)
      clear hk5 hq5 hg5 HK4 HKW4 HQ4 BK4 T0 T1 T2 T3 HJ2
      obtain ⟨kw, hkw⟩ := HWT.out
      have HKWT := Aside0.mk hkw
      clear hkw
      have hwr2 := hwr
      generalize wtP T v T.length = wt at HKWT HF2 hwr2
      generalize V R T (inc v j) = mm at *
      generalize Fv R T v ((idx T v).take i) = cf at *
      have ew2 : wrap64 (mm + wt) = mm + wt := w64 (by omega) (by omega)
      have z0 : w5.cell? ⟨W.heap.size, 0, none⟩ = some (.slice A0 R.length c0) := (blk_cell BK5.out 0).trans rfl
      have z1 : w5.cell? ⟨W.heap.size, 1, none⟩ = some (.slice A1 T'.length c1) := (blk_cell BK5.out 1).trans rfl
      have z2 : w5.cell? ⟨W.heap.size, 2, none⟩ = some (.slice A2 N'.length c2) := (blk_cell BK5.out 2).trans rfl
      by_cases m0 : 0 ≤ mm
      ·have d46 : decide (mm ≥ 0) = true := decide_eq_true m0
       by_cases m1 : cf < 0
       ·have d49 : decide (cf < 0) = true := decide_eq_true m1
        have HF3 : Aside0 (Fv R T v ((idx T v).take (i + 1)) = mm + wt) := ⟨by rw [HF2.out]; unfold betP; rw [if_pos ⟨m0, .inl m1⟩]⟩
        go_wp2_with (fail)
        refine (spec_l2weight.calls kw _ _ R _ _ T' _ _ N' wt w5 (S0.out.step HKw.out).now h0 (S1.out.step HKw.out).now h1 (S2.out.step HKw.out).now h2 HKWT.out).mono ?_
        rintro e w6 ⟨rfl, hb6⟩
        have HK5_ := Aside0.mk (HK5.out.trans (Kp.of_below hb6))
        have HKw_ := Aside0.mk (HKw.out.trans (Kp.of_below hb6))
        have HQ5_ := Aside0.mk (HQ5.out.below hb6)
        have BK5_ := Aside0.mk (blk_below BK5.out hb6)
        clear HK5 HKw HQ5 BK5 hb6 z0 z1 z2
        have HK5 := HK5_
        have HKw := HKw_
        have HQ5 := HQ5_
        have BK5 := BK5_
        clear HK5_ HKw_ HQ5_ BK5_
        go_wp2_with (fail)
        go_roundw
        case measure => simp [intOf]; omega
        case rel => exact ⟨i + 1, hlt, by go_num, by rw [HF3.out], HK5, ⟨Cs5, Ms5, HQ5.out, HG5.out⟩⟩
       ·have d49 : decide (cf < 0) = false := decide_eq_false m1
        by_cases m2 : mm + wt < cf
        ·have d56 : decide (mm + wt < cf) = true := decide_eq_true m2
         have HF3 : Aside0 (Fv R T v ((idx T v).take (i + 1)) = mm + wt) := ⟨by rw [HF2.out]; unfold betP; rw [if_pos ⟨m0, .inr m2⟩]⟩
         go_wp2_with (fail)
         refine (spec_l2weight.calls kw _ _ R _ _ T' _ _ N' wt w5 (S0.out.step HKw.out).now h0 (S1.out.step HKw.out).now h1 (S2.out.step HKw.out).now h2 HKWT.out).mono ?_
         rintro e w6 ⟨rfl, hb6⟩
         have HK5_ := Aside0.mk (HK5.out.trans (Kp.of_below hb6))
         have HKw_ := Aside0.mk (HKw.out.trans (Kp.of_below hb6))
         have HQ5_ := Aside0.mk (HQ5.out.below hb6)
         have BK5_ := Aside0.mk (blk_below BK5.out hb6)
         clear HK5 HKw HQ5 BK5 hb6 z0 z1 z2
         have HK5 := HK5_
         have HKw := HKw_
         have HQ5 := HQ5_
         have BK5 := BK5_
         clear HK5_ HKw_ HQ5_ BK5_
         have z0 : w6.cell? ⟨W.heap.size, 0, none⟩ = some (.slice A0 R.length c0) := (blk_cell BK5.out 0).trans rfl
         have z1 : w6.cell? ⟨W.heap.size, 1, none⟩ = some (.slice A1 T'.length c1) := (blk_cell BK5.out 1).trans rfl
         have z2 : w6.cell? ⟨W.heap.size, 2, none⟩ = some (.slice A2 N'.length c2) := (blk_cell BK5.out 2).trans rfl
         go_wp2_with (fail)
         refine (spec_l2weight.calls kw _ _ R _ _ T' _ _ N' wt w6 (S0.out.step HKw.out).now h0 (S1.out.step HKw.out).now h1 (S2.out.step HKw.out).now h2 HKWT.out).mono ?_
         rintro e w7 ⟨rfl, hb7⟩
         have HK5_ := Aside0.mk (HK5.out.trans (Kp.of_below hb7))
         have HKw_ := Aside0.mk (HKw.out.trans (Kp.of_below hb7))
         have HQ5_ := Aside0.mk (HQ5.out.below hb7)
         have BK5_ := Aside0.mk (blk_below BK5.out hb7)
         clear HK5 HKw HQ5 BK5 hb7 z0 z1 z2
         have HK5 := HK5_
         have HKw := HKw_
         have HQ5 := HQ5_
         have BK5 := BK5_
         clear HK5_ HKw_ HQ5_ BK5_
         go_wp2_with (fail)
         go_roundw
         case measure => simp [intOf]; omega
         case rel => exact ⟨i + 1, hlt, by go_num, by rw [HF3.out], HK5, ⟨Cs5, Ms5, HQ5.out, HG5.out⟩⟩
        ·have d56 : decide (mm + wt < cf) = false := decide_eq_false m2
         have HF3 : Aside0 (Fv R T v ((idx T v).take (i + 1)) = cf) := ⟨by rw [HF2.out]; unfold betP; rw [if_neg (by omega)]⟩
         go_wp2_with (fail)
         refine (spec_l2weight.calls kw _ _ R _ _ T' _ _ N' wt w5 (S0.out.step HKw.out).now h0 (S1.out.step HKw.out).now h1 (S2.out.step HKw.out).now h2 HKWT.out).mono ?_
         rintro e w6 ⟨rfl, hb6⟩
         have HK5_ := Aside0.mk (HK5.out.trans (Kp.of_below hb6))
         have HKw_ := Aside0.mk (HKw.out.trans (Kp.of_below hb6))
         have HQ5_ := Aside0.mk (HQ5.out.below hb6)
         have BK5_ := Aside0.mk (blk_below BK5.out hb6)
         clear HK5 HKw HQ5 BK5 hb6 z0 z1 z2
         have HK5 := HK5_
         have HKw := HKw_
         have HQ5 := HQ5_
         have BK5 := BK5_
         clear HK5_ HKw_ HQ5_ BK5_
         go_wp2_with (fail)
         go_roundw
         case measure => simp [intOf]; omega
         case rel => exact ⟨i + 1, hlt, by go_num, by rw [HF3.out], HK5, ⟨Cs5, Ms5, HQ5.out, HG5.out⟩⟩
      ·have d46 : decide (mm ≥ 0) = false := decide_eq_false m0
       have HF3 : Aside0 (Fv R T v ((idx T v).take (i + 1)) = cf) := ⟨by rw [HF2.out]; unfold betP; rw [if_neg (by omega)]⟩
       go_wp2_with (fail)
       go_roundw
       case measure => simp [intOf]; omega
       case rel => exact ⟨i + 1, hlt, by go_num, by rw [HF3.out], HK5, ⟨Cs5, Ms5, HQ5.out, HG5.out⟩⟩
    ·have d34 : decide ((i : Int) < (T'.length : Int)) = false := decide_eq_false (by omega)
     have hie : i = T'.length := by omega
     subst hie
     have hve : Fv R T v (List.take T'.length (idx T v)) = V R T v := by
      rw [List.take_of_length_le (by rw [HTI.out]; exact Nat.le_refl _), HVI.out, if_neg (fun h9 => he (by rw [HTI.out, h9]; rfl))]
     rw [hve]
     clear hve
     obtain ⟨ym, fm⟩ := HQ1.out.cellm hnum
     obtain ⟨yc, fc⟩ := HQ1.out.cellc hnum
     have PM := Aside0.mk (HQ1.out.putm hM0 kk true)
     have HLN := Aside0.mk (And.intro HQ1.out.cl HQ1.out.ml)
     have y3 : wr.cell? ⟨gt, 3, none⟩ = some (.slice (some ⟨gm, 0, none⟩) M cm) := (blk_cell HQ1.out.blk 3).trans rfl
     have HNUM := Aside0.mk hnum
     generalize hvv : V R T v = vv at *
     have HVV := Aside0.mk hvv
     clear hvv
     go_wp2_with (first
      | ((with_reducible refine gate_store (t := 4) (p := 69) rfl ?_); refine store_event (t := 4) (p := 69) (v := .const (.bool true)) (w1 := wr.setCell ⟨gm, kk, none⟩ (.bool true)) rfl rfl rfl ?hr ?_; (case hr => first | (go_simp; done) | (go_simp; rfl)); intro w5 hw5; have HQ5 := Aside0.mk (show Sq w0 w5 gt gc gm M vp vn cc cm T N Cs' (Ms'.set kk true) from by rw [hw5]; exact PM.out.1); have HK5 := Aside0.mk (show Kp gc gm W w5 from HKW.out.trans (by rw [hw5]; exact PM.out.2)); clear hw5 PM ym fm y3 yc fc; obtain ⟨yc, fc⟩ := HQ5.out.cellc HNUM.out; have PC := Aside0.mk (HQ5.out.putc hM0 kk vv); have y2 : w5.cell? ⟨gt, 2, none⟩ = some (.slice (some ⟨gc, 0, none⟩) M cc) := (blk_cell HQ5.out.blk 2).trans rfl)
      | ((with_reducible refine gate_store (t := 3) (p := 76) rfl ?_); refine store_event (t := 3) (p := 76) (v := .tmp 75) (w1 := w5.setCell ⟨gc, kk, none⟩ (.int .i64 vv)) rfl rfl rfl ?hr ?_; (case hr => first | (go_simp; done) | (go_simp; rfl)); intro w6 hw6; have HQ6 := Aside0.mk (show Sq w0 w6 gt gc gm M vp vn cc cm T N (Cs'.set kk vv) (Ms'.set kk true) from by rw [hw6]; exact PC.out.1); have HK6 := Aside0.mk (show Kp gc gm W w6 from HK5.out.trans (by rw [hw6]; exact PC.out.2)); clear hw6 PC yc fc y2))
     go_ret
     have hgp := Gm.put HG1.out HV.out (by rw [HLN.out.1, HNK.out]; exact HNUM.out) (by rw [HLN.out.2, HNK.out]; exact HNUM.out)
     rw [HNK.out, HVV.out] at hgp
     exact ⟨by have hq := HVV.out; simp [hq], HK6.out, _, _, HQ6.out, hgp⟩
  ·have HVV := Aside0.mk (HGV.out rfl)
   generalize Cs.getD kk 0 = cv at yc HVV
   go_wp2_with (fail)
   go_ret
   exact ⟨by have hq := HVV.out; simp [hq], HK2.out, Cs, Ms, HS2.out, HG.out⟩
end Go.Proofs.YtkcocomehhlpmaaDoor.Sp
