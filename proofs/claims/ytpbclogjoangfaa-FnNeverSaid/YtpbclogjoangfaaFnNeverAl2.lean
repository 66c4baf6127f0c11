/- The program's Allowed. Walked by hand. -/
import Derived.Test.YtpbclogjoangfaaFnNeverAlk
namespace Go.Proofs.Ytpbclogjoangfaa.Al
open Go.RowKit Go.Maps Go.Proofs.YtpbclogjoangfaaW.PrintWords Go.Proofs.YtpbclogjoangfaaW.PrintLast Go.Proofs.YtpbclogjoangfaaW.PrintMore Go.Proofs.Ytpbclogjoangfaa.Q Go.Proofs.Ytpbclogjoangfaa.Pu Go.Proofs.Ytpbclogjoangfaa.Sr Go.Proofs.Ytpbclogjoangfaa.Sp
attribute [local go_sem] max2_int min2_int max_two min_two max_three min_three max_four min_four
set_option linter.unusedVariables false
set_option linter.unusedSimpArgs false
theorem zv_get (i : Nat) : zv.getD i 0 = 0 := zero_get i
theorem arr_one {j : Nat} (hj : j < 5) : (arrV zv).setIfInBounds j (.int .i64 1) = arrV (inc zv j) := by
 have h := arrV_inc (v := zv) (j := j) hj
 rw [zv_get] at h
 exact h
/-- Allowed, as the walk of its callers asks for it: no rounds of its own. -/
def impl_Allowed.f (k : Nat) (l0_0 : List Int) (l0_1 : List S35) (l0_2 : List Int) : Option (List Int) :=
 (impl_StateOk.f k l0_0 l0_1 l0_2).bind fun t => if t = okS l0_0 l0_1 l0_2 then some (if t = 0 then alD l0_0 l0_1 l0_2 l0_1.length else []) else none
set_option maxHeartbeats 1000000 in
set_option maxRecDepth 100000 in
theorem impl_Allowed.calls (k : Nat) (A0_0 : Option Addr) (c0_0 : Nat) (l0_0 : List Int) (A0_1 : Option Addr) (c0_1 : Nat) (l0_1 : List S35) (A0_2 : Option Addr) (c0_2 : Nat) (l0_2 : List Int) (r : List Int) (w : World) (hr0_0 : Kd.C (Kd.int .i64) w A0_0 l0_0.length l0_0) (hc0_0 : l0_0.length ≤ c0_0) (hr0_1 : Kd.C k35 w A0_1 l0_1.length l0_1) (hc0_1 : l0_1.length ≤ c0_1) (hr0_2 : Kd.C (Kd.int .i64) w A0_2 l0_2.length l0_2) (hc0_2 : l0_2.length ≤ c0_2)
  (h : impl_Allowed.f k l0_0 l0_1 l0_2 = some r) :
  Calls Try.prog 20 #[.agg #[.slice A0_0 l0_0.length c0_0, .slice A0_1 l0_1.length c0_1, .slice A0_2 l0_2.length c0_2]] w fun e w' => ∃ v0_ : Value, e = .returned v0_ ∧ Kd.R (Kd.int .i64) 3 w' w.heap.size (fun _ => True) v0_ r ∧ Below w.heap.size w w' := by
 have HR0 := Aside0.mk hr0_0
 have HR1 := Aside0.mk hr0_1
 have HR2 := Aside0.mk hr0_2
 unfold impl_Allowed.f at h
 obtain ⟨t, ht, hr⟩ := Option.bind_eq_some_iff.mp h
 by_cases hq : t = okS l0_0 l0_1 l0_2
 rotate_left
 ·rw [if_neg hq] at hr; exact absurd hr (by simp)
 rw [if_pos hq] at hr
 injection hr with hr
 have HT := Aside0.mk ht
 have HW := Aside0.mk (fun h0 : t = 0 => (right_iff _ _ _).1 (hq.symm.trans h0))
 have HRR := Aside0.mk hr
 clear h ht hr hq hr0_0 hr0_1 hr0_2
 have hu26 := Try.underlying26
 have HB := Aside0.mk ((Below.refl w.heap.size w).alloc (Nat.le_refl _) (.cells #[.slice A0_0 l0_0.length c0_0, .slice A0_1 l0_1.length c0_1, .slice A0_2 l0_2.length c0_2] 26))
 have BX := Aside0.mk (heap_alloc_new w (.cells #[.slice A0_0 l0_0.length c0_0, .slice A0_1 l0_1.length c0_1, .slice A0_2 l0_2.length c0_2] 26))
 by_cases c0 : t = 0
 ·have c1 : (t == 0) = true := beq_iff_eq.mpr c0
  have c2 : (t != 0) = false := by rw [c0]; rfl
  have hr := HW.out c0
  have hw := hr.wf
  have hrr := HRR.out
  rw [if_pos c0] at hrr
  have HRD := Aside0.mk hrr
  clear HRR hrr
  go_enter Try.func20, Try.ntmps20
  go_wp2_with (fail)
  refine (impl_StateOk.calls k _ _ l0_0 _ _ l0_1 _ _ l0_2 t _ (Kd.C_below HR0.out HB.out) hc0_0 (Kd.C_below HR1.out HB.out) hc0_1 (Kd.C_below HR2.out HB.out) hc0_2 HT.out).mono ?_
  rintro e w1 ⟨rfl, hb⟩
  have HB_ := Aside0.mk (below_step HB.out hb)
  have BX_ := Aside0.mk (blk_below BX.out hb)
  clear HB BX hb
  have HB := HB_
  have BX := BX_
  clear HB_ BX_
  have z0 : w1.cell? ⟨w.heap.size, 0, none⟩ = some (.slice A0_0 l0_0.length c0_0) := (blk_cell BX.out 0).trans rfl
  have z1 : w1.cell? ⟨w.heap.size, 1, none⟩ = some (.slice A0_1 l0_1.length c0_1) := (blk_cell BX.out 1).trans rfl
  have z2 : w1.cell? ⟨w.heap.size, 2, none⟩ = some (.slice A0_2 l0_2.length c0_2) := (blk_cell BX.out 2).trans rfl
  go_wp2_with (fail)
  refine (newSearch_calls w1 (Kd.C_below HR0.out HB.out) hc0_0 (Kd.C_below HR1.out HB.out) hc0_1 (Kd.C_below HR2.out HB.out) hc0_2).mono ?_
  rintro e w2 ⟨gs, b, rfl, hst, D, hme⟩
  have HST := Aside0.mk hst
  have HME := Aside0.mk hme
  clear hst hme z0 z1 z2
  go_wp2_with (fail)
  refine calls_of_args (args' := #[.pointer (some ⟨gs, 0, none⟩), .agg (arrV zv)]) rfl ?_
  refine (moves_calls w2 HST.out.sr hw zv rfl (by intro x hx; simp [zv] at hx; omega)).mono ?_
  rintro e w3 ⟨vM, rfl, hR, hb⟩
  obtain ⟨AM, cM, eM⟩ := Kd.R_slice hR
  rw [List.length_map] at eM
  subst eM
  have HRD2 : Aside0 (alM l0_0 l0_1 l0_2 (mvP l0_0 l0_1 zv l0_1.length) = r) := ⟨by rw [alM_moves]; exact HRD.out⟩
  have HMEM := Aside0.mk (fun (i : Nat) (h : i ∈ mvP l0_0 l0_1 zv l0_1.length) => (⟨(mvP_mem h).1, okV_inc hw.t1 (okV_zero l0_1) h⟩ : i < l0_1.length ∧ okV l0_1 (inc zv i)))
  have hll : (mvP l0_0 l0_1 zv l0_1.length).length ≤ 5 := Nat.le_trans (mvP_len _ _ _ _) hw.t1
  generalize mvP l0_0 l0_1 zv l0_1.length = L at *
  have HB2 := Aside0.mk HME.out.lt
  have HS3 := Aside0.mk hb.size
  have HS2 := Aside0.mk HST.out.low.size
  have HGS := Aside0.mk (Array.getElem?_eq_some_iff.1 HST.out.blk).1
  have HR3 := Aside0.mk (Kd.R_mono (Kd.R_bound hR) (fun k hk => (⟨hk.1, hk.2.2.1⟩ : w2.heap.size ≤ k ∧ k < w3.heap.size)))
  have HST3 := Aside0.mk (HST.out.grown HME.out (grown_below hb _))
  have HME3 := Aside0.mk (HME.out.kept (grown_below hb none) (by simp))
  have HWF := Aside0.mk hw
  have HN1 := Aside0.mk hw.n1
  have ht1 := hw.t1
  have HWX := Aside0.mk (Array.getElem?_eq_some_iff.1 BX.out).1
  clear hR hb HST HME HRD hw hr
  go_wp2_with (fail)
  go_loopw [4, 17] (fun x4 x17 wr => ∃ i : Nat, i ≤ L.length ∧ x17 = .int .i64 i ∧ Aside0 (Kd.R (Kd.int .i64) 3 wr w3.heap.size (fun k => w3.heap.size ≤ k) x4 (alM l0_0 l0_1 l0_2 (L.take i))) ∧ Aside0 (w3.heap.size ≤ wr.heap.size) ∧ Aside0 (Kd.R (Kd.int .i64) 3 wr w2.heap.size (fun k => w2.heap.size ≤ k ∧ k < w3.heap.size) (.slice AM L.length cM) (L.map (fun (j : Nat) => (j : Int)))) ∧ Aside0 (St w1 wr gs A0_0 c0_0 l0_0 A0_1 c0_1 l0_1 A0_2 c0_2 l0_2 b) ∧ Aside0 (∃ D', Memo wr b l0_0 l0_1 D')) (fun _ x17 _ => L.length - (intOf x17).toNat)
  case atStart => exact ⟨0, Nat.zero_le _, rfl, ⟨Kd.R_nil _ _ _ _ _⟩, ⟨Nat.le_refl _⟩, HR3, HST3, ⟨D, HME3.out⟩⟩
  case round =>
   clear HR3 HST3 HME3
   obtain ⟨i, hi, rfl, HO, HSZ, HR, HST, HME⟩ := hrel
   obtain ⟨D', hme⟩ := HME.out
   have HM := Aside0.mk hme
   clear hme HME
   by_cases hlt : i < L.length
   ·have d18 : decide ((i : Int) < (L.length : Int)) = true := decide_eq_true (by omega)
    have p5 : (0 : Int) ≤ (i : Int) := by omega
    have q5 : (i : Int) < (L.length : Int) := by omega
    obtain ⟨gM, cM', eM, gbM, glM, clM, HGM⟩ := Kd.R_form HR.out (by rw [List.length_map]; omega)
    rw [List.length_map] at eM
    injection eM with eM _ eM'
    subst eM eM'
    obtain ⟨k19, _⟩ := Kd.R_celln 0 HR.out (i : Int) p5 q5
    have hj := getD_mem 0 hlt
    obtain ⟨hj1, hj2⟩ := HMEM.out _ hj
    have ej : rdOf 0 (L.map (fun (j : Nat) => (j : Int))) (i : Int) = ((L.getD i 0 : Nat) : Int) := map_getD L i
    rw [ej, Int.toNat_natCast] at k19
    have HAS := Aside0.mk (alM_succ l0_0 l0_1 l0_2 L hlt)
    have HAL := Aside0.mk (alM_len l0_0 l0_1 l0_2 (L.take i))
    have HJ2 := Aside0.mk hj2
    have hj5 : L.getD i 0 < 5 := by omega
    clear hj ej hj2 gbM glM HGM
    generalize L.getD i 0 = j at *
    have p7 : (0 : Int) ≤ (j : Int) := by omega
    have q7 : (j : Int) < 5 := by omega
    have q8 : (j : Int) < (l0_2.length : Int) := by have := HN1.out; omega
    go_wp2_with (first
     | ((with_reducible refine gate_dst (N := 7) rfl ?_); refine Kd.event_run rfl (exec_alloc 74 _ rfl (alloc_arr wr)) ?_; have k22 : (wr.alloc (.cells zer 74)).cell? ⟨wr.heap.size, j, none⟩ = some (.int .i64 0) := (blk_cell (heap_alloc_new wr _) j).trans (by have h9 := arrV_get zv (i := j) hj5; rw [zv_get] at h9; exact h9); have f22 : (wr.alloc (.cells zer 74)).frozen? ⟨wr.heap.size, j, none⟩ = false := blk_frozen (heap_alloc_new wr _) j)
     | ((with_reducible refine gate_store (t := 3) (p := 22) rfl ?_); refine store_event (t := 3) (p := 22) (v := .const (.int .i64 1)) (w1 := (wr.alloc (.cells zer 74)).setCell ⟨wr.heap.size, j, none⟩ (.int .i64 1)) rfl rfl rfl ?hr ?_; (case hr => first | (go_simp; done) | (go_simp; rfl)); intro w4 hw4; rw [World.setCell_alloc_new, show zer.setIfInBounds j (.int .i64 1) = arrV (inc zv j) from arr_one hj5] at hw4; have BN := Aside0.mk (show w4.heap[wr.heap.size]? = some (.cells (arrV (inc zv j)) 74 (0, 0)) from by rw [hw4]; exact heap_alloc_new wr _); have GB := Aside0.mk (show Below wr.heap.size wr w4 from by rw [hw4]; exact (Below.refl _ _).alloc (Nat.le_refl _) _); clear hw4 k22 f22)
     | ((with_reducible refine gate_dst (N := 24) rfl ?_); refine wpList_load_row rfl 74 (.tmp 7) rfl wr.heap.size rfl 74 (arrV (inc zv j)) (0, 0) _ BN.out Try.underlying74 rfl (by rw [info74]; simp [arrV, inc, zv]) ?_))
    refine (best_calls keyed HWF.out _ (inc zv j) w4 D' HJ2.out rfl (HST.out.grown HM.out (grown_below GB.out _)) (HM.out.kept (grown_below GB.out none) (by simp))).mono ?_
    rintro e w5 ⟨rfl, hg5, D5, hm5⟩
    have HG45 := Aside0.mk (grown_trans (grown_below GB.out (some b)) hg5)
    have HST5 := Aside0.mk (HST.out.grown HM.out HG45.out)
    have HM5 := Aside0.mk hm5
    have HO5 := Aside0.mk (Kd.R_grown HO.out HG45.out (fun k hk e => by injection e with e; have := HB2.out; have := HS3.out; omega))
    have HR5 := Aside0.mk (Kd.R_grown HR.out HG45.out (fun k hk e => by injection e with e; have := HB2.out; omega))
    have HZ5 := Aside0.mk (Nat.le_trans HSZ.out HG45.out.size)
    clear HST HM HO HR HSZ hg5 hm5 HG45 GB BN HJ2 k19
    generalize V l0_0 l0_1 (inc zv j) = mm at *
    by_cases m0 : 0 ≤ mm
    ·have d26 : decide (mm ≥ 0) = true := decide_eq_true m0
     have HBw := Aside0.mk (below_step HB.out HST5.out.low)
     have BX5 := Aside0.mk ((HST5.out.low.block _ HWX.out).trans BX.out)
     obtain ⟨adN, eN, n1⟩ := Kd.at_int (Kd.C_below HR2.out HBw.out) (j : Int) p7 q8
     subst eN
     rw [Int.toNat_natCast] at n1
     have e1 : rd l0_2 (j : Int) = l0_2.getD j 0 := rd_I l0_2 j
     rw [e1] at n1
     clear e1
     generalize l0_2.getD j 0 = nm at n1 HAS
     have z2 : w5.cell? ⟨w.heap.size, 2, none⟩ = some (.slice (some adN) l0_2.length c0_2) := (blk_cell BX5.out 2).trans rfl
     generalize hxs : alM l0_0 l0_1 l0_2 (L.take i) = xs at HO5 HAS HAL
     clear hxs
     have HXL := Aside0.mk (show xs.length ≤ 5 from by have h9 := HAL.out; rw [List.length_take] at h9; omega)
     go_wp2_with (first
      | ((with_reducible refine gate_builtin (b := .append) (xs := #[.tmp 27, .tmp 33]) rfl ?_); at_builtin; refine Kd.R_append (Kd.int .i64) (w0 := w5) w3.heap.size rfl (.tmp 27) (.tmp 33) 23 3 (.int .i64 0) 8 rfl Try.underlying23 info3 rfl (by decide) (by omega) u4 xs nm [.int .i64 nm] (fun k => w3.heap.size ≤ k) (fun _ => False) rfl rfl ?aP (fun _ hk => hk.elim) ?aF HO5.out (Below.refl _ _) HZ5.out ?aL ?_; (case aP => exact rfl); (case aF => exact (fun k hk => Nat.le_trans HZ5.out hk)); (case aL => have := HXL.out; omega); intro v6 w6 ho hb hg hat; have HRW := Aside0.mk (fun k (hk : u4.ownBlock = some k) => HO5.out.1 k hk); have HST6 := Aside0.mk (St.far HST5.out hg (n := w3.heap.size) (by have := HGS.out; have := HS3.out; omega) (by have := HS2.out; have := HS3.out; omega) HRW.out); have HM6 := Aside0.mk (HM5.out.kept hg (fun e => by have := HRW.out b e.symm; have := HB2.out; have := HS3.out; omega)); have HR6 := Aside0.mk (Kd.R_grown HR5.out hg (fun k hk e => by have := HRW.out k e.symm; omega)); have HZ6 := Aside0.mk (Nat.le_trans HZ5.out hg.size); have HO6 := Aside0.mk ho; clear ho hb hg hat HO5 HST5 HM5 HR5 HZ5 HBw BX5))
     go_roundw
     case measure => simp [intOf]; omega
     case rel => exact ⟨i + 1, hlt, by go_num, ⟨by rw [HAS.out, if_pos m0]; exact HO6.out⟩, HZ6, HR6, HST6, ⟨D5, HM6.out⟩⟩
    ·have d26 : decide (mm ≥ 0) = false := decide_eq_false m0
     go_wp2_with (fail)
     go_roundw
     case measure => simp [intOf]; omega
     case rel => exact ⟨i + 1, hlt, by go_num, ⟨by rw [HAS.out, if_neg (by omega), List.append_nil]; exact HO5.out⟩, HZ5, HR5, HST5, ⟨D5, HM5.out⟩⟩
   ·have d18 : decide ((i : Int) < (L.length : Int)) = false := decide_eq_false (by omega)
    have hie : i = L.length := by omega
    subst hie
    go_wp2_with (fail)
    go_ret
    have hfin := HO.out
    rw [List.take_length, HRD2.out] at hfin
    exact ⟨_, rfl, Kd.R_mono (Kd.R_lower hfin (by have := HB.out.size; have := HS2.out; have := HS3.out; omega)) (fun _ _ => trivial), below_step HB.out HST.out.low⟩
 ·have c1 : (t == 0) = false := beq_eq_false_iff_ne.mpr c0
  have c2 : (t != 0) = true := by simp [bne, c1]
  go_enter Try.func20, Try.ntmps20
  go_wp2_with (fail)
  refine (impl_StateOk.calls k _ _ l0_0 _ _ l0_1 _ _ l0_2 t _ (Kd.C_below HR0.out HB.out) hc0_0 (Kd.C_below HR1.out HB.out) hc0_1 (Kd.C_below HR2.out HB.out) hc0_2 HT.out).mono ?_
  rintro e w1 ⟨rfl, hb⟩
  go_wp2_with (fail)
  go_ret
  exact ⟨_, rfl, by rw [← HRR.out, if_neg c0]; exact Kd.R_nil _ _ _ _ _, below_step HB.out hb⟩
theorem implAllowed_tells {R : List Int} {T : List S35} {N : List Int} (hR : R.length ≤ 1048576) (hT : T.length ≤ 1048576) (hN : N.length ≤ 1048576) : Ev (fun k => impl_Allowed.f k R T N) (allowedD R T N) := by
 refine Ev.bind' (implStateOk_tells R T N hR hT hN) (Ev.all fun k => ?_)
 rw [if_pos rfl]
 rfl
end Go.Proofs.Ytpbclogjoangfaa.Al
