/- The program's Solve. Walked by hand. -/
import Derived.Test.YtpbclogjoangfaaFnBestSo1
namespace Go.Proofs.Ytpbclogjoangfaa.So
open Go.RowKit Go.Maps Go.Proofs.YtpbclogjoangfaaW.PrintWords Go.Proofs.YtpbclogjoangfaaW.PrintLast Go.Proofs.YtpbclogjoangfaaW.PrintMore Go.Proofs.Ytpbclogjoangfaa.Q Go.Proofs.Ytpbclogjoangfaa.Pu Go.Proofs.Ytpbclogjoangfaa.Sr Go.Proofs.Ytpbclogjoangfaa.Sp Go.Proofs.Ytpbclogjoangfaa.Al
attribute [local go_sem] max2_int min2_int max_two min_two max_three min_three max_four min_four
set_option linter.unusedVariables false
set_option linter.unusedSimpArgs false
def sumA : Option Obj → Nat
 | some (.cells c _ _) => (c.toList.map (fun x => (intOf x).toNat)).sum
 | _ => 0
theorem sumA_arr (v : List Nat) (t : Nat) (z : Nat × Nat) : sumA (some (.cells (arrV v) t z)) = v.sum := by
 simp only [sumA, arrV, List.map_map]
 congr 1
 conv => rhs; rw [← List.map_id v]
 apply List.map_congr_left
 intro x _
 simp [intOf]
theorem sum_inc {v : List Nat} {i : Nat} (hi : i < v.length) : (inc v i).sum = v.sum + 1 := by
 unfold inc
 have h : ∀ (l : List Nat) (i : Nat), i < l.length → (l.set i (l.getD i 0 + 1)).sum = l.sum + 1 := by
  intro l
  induction l with
  | nil => intro i hi; simp at hi
  | cons a l ih =>
   intro i hi
   cases i with
   | zero => simp; omega
   | succ i =>
    have := ih i (by simpa using hi)
    simp only [List.set_cons_succ, List.sum_cons]
    have e : (a :: l).getD (i + 1) 0 = l.getD i 0 := rfl
    rw [e]; omega
 exact h v i hi
theorem sum_le : ∀ (l : List Nat) (b : Nat), (∀ x ∈ l, x ≤ b) → l.sum ≤ b * l.length
 | [], _, _ => by simp
 | a :: l, b, h => by
  have h1 := sum_le l b (fun x hx => h x (by simp [hx]))
  have h2 := h a (by simp)
  simp only [List.sum_cons, List.length_cons, Nat.mul_add, Nat.mul_one]
  omega
/-- Solve, as the walk of its callers asks for it: no rounds of its own. -/
def impl_Solve.f (k : Nat) (l0_0 : List Int) (l0_1 : List S35) (l0_2 : List Int) : Option (Bool × Int × List Int) :=
 (impl_StateOk.f k l0_0 l0_1 l0_2).bind fun t => if t = okS l0_0 l0_1 l0_2 then some (if t = 0 then (if V l0_0 l0_1 zv < 0 then (false, 0, []) else (true, V l0_0 l0_1 zv, (pthP l0_0 l0_1 zv).map (fun i => l0_2.getD i 0))) else (false, 0, [])) else none
theorem lp_start {w1 W W' : World} {gs b kb gB : Nat} {A0 : Option Addr} {c0 : Nat} {l0 : List Int} {A1 : Option Addr} {c1 : Nat} {l1 : List S35} {A2 : Option Addr} {c2 : Nat} {l2 : List Int} {cv : Int} {v : List Nat} {D : DataW Unit} {c : Array Value}
  (hst : St w1 W gs A0 c0 l0 A1 c1 l1 A2 c2 l2 b) (hme : Memo W b l0 l1 D) (hk : W.heap[kb]? = some (.cells (arrV v) 74 (0, 0))) (hB : W'.heap[gB]? = some (.cells #[.bool true, .int .i64 cv, .slice none 0 0] 41 (0, 0))) (hg : W.grownBy W' (some gB)) (hB0 : W.heap[gB]? = some (.cells c 41 (0, 0))) (h1 : w1.heap.size ≤ kb) (h2 : w1.heap.size ≤ gB) :
  Lp w1 gs b kb gB W.heap.size A0 c0 l0 A1 c1 l1 A2 c2 l2 cv W' v (.slice none 0 0) [] := by
 have n1 : gs ≠ gB := blk_ne hst.blk hB0 (by decide)
 have n2 : kb ≠ gB := blk_ne hk hB0 (by decide)
 have n3 : b ≠ gB := fun e => hme.ne hB0 e.symm
 refine ⟨⟨blk_grown hst.blk hg (fun e => n1 (by injection e)), hst.low.grown hg hst.low.size (fun k hk => by injection hk with hk; omega), hst.gl, hst.bl, hst.r0, hst.h0, hst.r1, hst.h1, hst.r2, hst.h2⟩, ⟨D, hme.kept hg (fun e => n3 (by injection e))⟩, blk_grown hk hg (fun e => n2 (by injection e)), hB, Kd.R_nil _ _ _ _ _, hg.size, blk_lt hst.blk, hme.lt, blk_lt hk, blk_lt hB0, h1, h2, hst.low.size⟩
set_option maxHeartbeats 2000000 in
set_option maxRecDepth 100000 in
theorem impl_Solve.calls (k : Nat) (A0_0 : Option Addr) (c0_0 : Nat) (l0_0 : List Int) (A0_1 : Option Addr) (c0_1 : Nat) (l0_1 : List S35) (A0_2 : Option Addr) (c0_2 : Nat) (l0_2 : List Int) (r1 : Bool) (r2 : Int) (r3 : List Int) (w : World) (hr0_0 : Kd.C (Kd.int .i64) w A0_0 l0_0.length l0_0) (hc0_0 : l0_0.length ≤ c0_0) (hr0_1 : Kd.C k35 w A0_1 l0_1.length l0_1) (hc0_1 : l0_1.length ≤ c0_1) (hr0_2 : Kd.C (Kd.int .i64) w A0_2 l0_2.length l0_2) (hc0_2 : l0_2.length ≤ c0_2)
  (h : impl_Solve.f k l0_0 l0_1 l0_2 = some (r1, r2, r3)) :
  Calls Try.prog 24 #[.agg #[.slice A0_0 l0_0.length c0_0, .slice A0_1 l0_1.length c0_1, .slice A0_2 l0_2.length c0_2]] w fun e w' => ∃ v2_ : Value, e = .returned (.agg #[.bool r1, .int .i64 r2, v2_]) ∧ Kd.R (Kd.int .i64) 3 w' w.heap.size (fun _ => True) v2_ r3 ∧ Below w.heap.size w w' := by
 have HR0 := Aside0.mk hr0_0
 have HR1 := Aside0.mk hr0_1
 have HR2 := Aside0.mk hr0_2
 unfold impl_Solve.f at h
 obtain ⟨t, ht, hr⟩ := Option.bind_eq_some_iff.mp h
 by_cases hq : t = okS l0_0 l0_1 l0_2
 rotate_left
 ·rw [if_neg hq] at hr; exact absurd hr (by simp)
 rw [if_pos hq] at hr
 injection hr with hr
 have HT := Aside0.mk ht
 have HW := Aside0.mk (fun h0 : t = 0 => (right_iff _ _ _).1 (hq.symm.trans h0))
 have HRR := Aside0.mk hr
 clear h ht hr hq hr0_0 hr0_1 hr0_2
 have hu26 := Try.underlying26
 have hu41 := Try.underlying41
 go_enter Try.func24, Try.ntmps24
 go_wp2_with (first
  | ((with_reducible refine gate_dst (N := 1) rfl ?_); refine box_event ?hg (N := 1) ?hd (cs := #[.slice A0_0 l0_0.length c0_0, .slice A0_1 l0_1.length c0_1, .slice A0_2 l0_2.length c0_2]) (t := 26) ?hr ?_; (case hd => rfl); (case hg => rfl); (case hr => first | (go_simp; done) | (go_simp; rfl)); intro gb hg wb hbox hb; subst hg; have HB := Aside0.mk hb; have BX := Aside0.mk hbox; clear hb hbox)
  | ((with_reducible refine gate_dst (N := 2) rfl ?_); refine box_event ?hg (N := 2) ?hd (cs := #[.bool false, .int .i64 0, .slice none 0 0]) (t := 41) ?hr ?_; (case hd => rfl); (case hg => rfl); (case hr => first | (go_simp; done) | (go_simp; rfl)); intro gr hgr wa hbox hb; have GR := Aside0.mk (show w.heap.size < gr from by rw [hgr]; exact blk_lt BX.out); have HB_ := Aside0.mk (below_step HB.out hb); have BX_ := Aside0.mk (blk_below BX.out hb); have BR := Aside0.mk hbox; clear HB BX hb hbox hgr; have HB := HB_; have BX := BX_; clear HB_ BX_; have z0 : wa.cell? ⟨w.heap.size, 0, none⟩ = some (.slice A0_0 l0_0.length c0_0) := (blk_cell BX.out 0).trans rfl; have z1 : wa.cell? ⟨w.heap.size, 1, none⟩ = some (.slice A0_1 l0_1.length c0_1) := (blk_cell BX.out 1).trans rfl; have z2 : wa.cell? ⟨w.heap.size, 2, none⟩ = some (.slice A0_2 l0_2.length c0_2) := (blk_cell BX.out 2).trans rfl))
 refine (impl_StateOk.calls k _ _ l0_0 _ _ l0_1 _ _ l0_2 t _ (Kd.C_below HR0.out HB.out) hc0_0 (Kd.C_below HR1.out HB.out) hc0_1 (Kd.C_below HR2.out HB.out) hc0_2 HT.out).mono ?_
 rintro e w1 ⟨rfl, hb⟩
 have HB_ := Aside0.mk (below_step HB.out hb)
 have BX_ := Aside0.mk (blk_below BX.out hb)
 have BR_ := Aside0.mk (blk_below BR.out hb)
 clear HB BX BR hb z0 z1 z2
 have HB := HB_
 have BX := BX_
 have BR := BR_
 clear HB_ BX_ BR_
 by_cases c0 : t = 0
 ·have c1 : (t == 0) = true := beq_iff_eq.mpr c0
  have c2 : (t != 0) = false := by rw [c0]; rfl
  have hr := HW.out c0
  have hw := hr.wf
  have hrr := HRR.out
  rw [if_pos c0] at hrr
  have HRD := Aside0.mk hrr
  clear HRR hrr
  have z0 : w1.cell? ⟨w.heap.size, 0, none⟩ = some (.slice A0_0 l0_0.length c0_0) := (blk_cell BX.out 0).trans rfl
  have z1 : w1.cell? ⟨w.heap.size, 1, none⟩ = some (.slice A0_1 l0_1.length c0_1) := (blk_cell BX.out 1).trans rfl
  have z2 : w1.cell? ⟨w.heap.size, 2, none⟩ = some (.slice A0_2 l0_2.length c0_2) := (blk_cell BX.out 2).trans rfl
  go_wp2_with (fail)
  refine (newSearch_calls w1 (Kd.C_below HR0.out HB.out) hc0_0 (Kd.C_below HR1.out HB.out) hc0_1 (Kd.C_below HR2.out HB.out) hc0_2).mono ?_
  rintro e w2 ⟨gs, b, rfl, hst, D, hme⟩
  have HST := Aside0.mk hst
  have HME := Aside0.mk hme
  clear hst hme z0 z1 z2
  go_wp2_with (first
   | ((with_reducible refine gate_dst (N := 4) rfl ?_); refine box_event rfl (N := 4) rfl (cs := arrV zv) (t := 74) (exec_alloc 74 _ rfl (alloc_arr w2)) ?_; intro kb hkb w3 hbox hb; have KB := Aside0.mk hbox; have HKB := Aside0.mk (show w1.heap.size ≤ kb from by rw [hkb]; exact HST.out.low.size); have HST_ := Aside0.mk (HST.out.grown HME.out (grown_below hb _)); have HME_ := Aside0.mk (HME.out.kept (grown_below hb none) (by simp)); clear HST HME hb hbox hkb; have HST := HST_; have HME := HME_; clear HST_ HME_)
   | ((with_reducible refine gate_dst (N := 21) rfl ?_); refine wpList_load_row rfl 74 (.tmp 4) rfl kb rfl 74 (arrV zv) (0, 0) _ KB.out Try.underlying74 rfl (by rw [info74]; rfl) ?_))
  refine (best_calls keyed hw _ zv w3 D (okV_zero _) rfl HST.out HME.out).mono ?_
  rintro e w4 ⟨rfl, hg4, D4, hm4⟩
  have KB_ := Aside0.mk (blk_grown KB.out hg4 (fun e => HME.out.ne KB.out (by injection e)))
  have HST_ := Aside0.mk (HST.out.grown HME.out hg4)
  have HME_ := Aside0.mk hm4
  clear HST HME KB hg4 hm4
  have HST := HST_
  have HME := HME_
  have KB := KB_
  clear HST_ HME_ KB_
  have hVZ : V l0_0 l0_1 zv = V l0_0 l0_1 zv := rfl
  generalize hvz : V l0_0 l0_1 zv = vz at HRD
  have HVZ := Aside0.mk hvz
  clear hvz hVZ
  by_cases cn : vz < 0
  ·have d24 : decide (vz < 0) = true := decide_eq_true cn
   have BR4 := Aside0.mk ((HST.out.low.block gr (blk_lt BR.out)).trans BR.out)
   have HB4 := Aside0.mk (below_step HB.out HST.out.low)
   go_wp2_with (first
    | ((with_reducible refine gate_store (t := 41) (p := 2) rfl ?_); refine row_event rfl 41 (.tmp 2) (.tmp 25) rfl rfl gr rfl (c' := #[.bool false, .int .i64 0, .slice none 0 0]) rfl BR4.out info41 rfl (by simp [Value.oneCell']) ?_; intro w9 hw9 hg9; have BR9 := Aside0.mk hw9; have HB9 := Aside0.mk (HB4.out.grown hg9 HB4.out.size (fun k hk => by injection hk with hk; have := GR.out; omega)); clear hw9 hg9))
   refine bodyPost_ret (results_cell_row rfl _ _ gr 41 #[.bool false, .int .i64 0, .slice none 0 0] (0, 0) _ rfl BR9.out Try.underlying41 rfl (by kernel_rfl)) rfl ?_
   have hfin := HRD.out
   rw [if_pos cn] at hfin
   injection hfin with f1 hfin
   injection hfin with f2 f3
   subst f1 f2 f3
   exact ⟨_, rfl, Kd.R_nil _ _ _ _ _, HB9.out⟩
  ·have d24 : decide (vz < 0) = false := decide_eq_false cn
   have hrd := HRD.out
   rw [if_neg cn] at hrd
   injection hrd with f1 hrd
   injection hrd with f2 f3
   subst f1 f2
   have HF3 := Aside0.mk f3
   have HR3L := Aside0.mk (show r3.length ≤ 46 from by rw [← f3, List.length_map]; exact pthP_len hw zv)
   clear f3 HRD
   go_wp2_with (first
    | ((with_reducible refine gate_dst (N := 6) rfl ?_); refine box_event ?hg (N := 6) ?hd (cs := #[.bool false, .int .i64 0, .slice none 0 0]) (t := 41) ?hr ?_; (case hd => rfl); (case hg => rfl); (case hr => first | (go_simp; done) | (go_simp; rfl)); intro gB hgB w5 hbox hb; have HGB := Aside0.mk (show w1.heap.size ≤ gB from by rw [hgB]; exact HST.out.low.size); have BB := Aside0.mk hbox; have HSTB := Aside0.mk (HST.out.grown HME.out (grown_below hb _)); have HMEB := Aside0.mk (HME.out.kept (grown_below hb none) (by simp)); have KBB := Aside0.mk (blk_below KB.out hb); clear HST HME KB hb hbox hgB)
    | ((with_reducible refine gate_store (t := 41) (p := 6) rfl ?_); (try simp only [Act.put, List.setIfInBounds_toArray, List.set_cons_zero, List.set_cons_succ]); refine row_event rfl 41 (.tmp 6) (.tmp 27) rfl rfl gB rfl (c' := #[.bool true, .int .i64 vz, .slice none 0 0]) rfl BB.out info41 rfl (by simp [Value.oneCell']) ?_; intro w6 hw6 hg6; have hn6 := hg6.size; have HLP := Aside0.mk (lp_start (l2 := l0_2) HSTB.out HMEB.out KBB.out hw6 hg6 BB.out HKB.out HGB.out); clear HSTB HMEB KBB BB hw6 hg6 hn6))
   have HWF := Aside0.mk hw
   have HN1 := Aside0.mk hw.n1
   have ht1 := hw.t1
   have hu := Try.underlying35
   clear hr hw
   go_loopw [7] (fun x7 wr => ∃ (v : List Nat) (mv : Value) (xs : List Int), Aside0 (okV l0_1 v) ∧ Aside0 (0 ≤ V l0_0 l0_1 v) ∧ Aside0 (xs ++ (pthP l0_0 l0_1 v).map (fun i => l0_2.getD i 0) = r3) ∧ Aside0 (Lp w1 gs b kb gB w5.heap.size A0_0 c0_0 l0_0 A0_1 c0_1 l0_1 A0_2 c0_2 l0_2 vz wr v mv xs)) (fun _ wr => 100 - sumA (wr.heap[kb]?))
   case atStart => exact ⟨zv, .slice none 0 0, [], ⟨okV_zero _⟩, ⟨by rw [HVZ.out]; omega⟩, ⟨by rw [List.nil_append]; exact HF3.out⟩, HLP⟩
   case round =>
    clear HLP HF3 HVZ
    obtain ⟨v, mv, xs, HV, HVP, HXS, HLP⟩ := hrel
    generalize hwO : wr = wO at *
    clear hwO
    have hv5 := HV.out.1
    have BXr := Aside0.mk ((HLP.out.st.low.block _ (blk_lt BX.out)).trans BX.out)
    have z1 : wO.cell? ⟨w.heap.size, 1, none⟩ = some (.slice A0_1 l0_1.length c0_1) := (blk_cell BXr.out 1).trans rfl
    go_wp2_with (fail)
    go_loopw [7, 31] (fun x7 x31 wr => ∃ i : Nat, i ≤ l0_1.length ∧ x31 = .int .i64 i ∧ x7 = .int .i64 (wtP l0_1 v i) ∧ Aside0 (Below wO.heap.size wO wr)) (fun _ x31 _ => l0_1.length - (intOf x31).toNat)
    case atStart => exact ⟨0, Nat.zero_le _, rfl, rfl, ⟨Below.refl _ _⟩⟩
    case round =>
     obtain ⟨i, hi, rfl, rfl, HB1⟩ := hrel
     by_cases hlt : i < l0_1.length
     ·have d32 : decide ((i : Int) < (l0_1.length : Int)) = true := decide_eq_true (by omega)
      have p5 : (0 : Int) ≤ (i : Int) := by omega
      have q5 : (i : Int) < 5 := by omega
      have q6 : (i : Int) < (l0_1.length : Int) := by omega
      have HL1 := Aside0.mk (HLP.out.below HB1.out)
      obtain ⟨ad, B, c, e, y0, y1, y2, hl, hC⟩ := at_T35 HL1.out.st.sr.r1 (i : Int) p5 q6
      subst e
      rw [Int.toNat_natCast] at y0 y1 y2
      have er : rd_T35 l0_1 (i : Int) = l0_1.getD i z35 := rd_T l0_1 i
      rw [er] at y0 y1 y2
      clear hl hC er z1
      have k1 : wr.cell? ⟨kb, i, none⟩ = some (.int .i64 ((v.getD i 0 : Nat) : Int)) := (blk_cell HL1.out.kB i).trans (arrV_get v (by omega))
      have hpl : (l0_1.getD i z35).f1.length ≤ 1000 := by have := HWF.out.path _ (getD_mem z35 hlt); omega
      have hwt := HWF.out.wt _ (getD_mem z35 hlt)
      have eA : atP l0_1 v i = atD (l0_1.getD i z35) (v.getD i 0) := rfl
      have HWS := Aside0.mk (show wtP l0_1 v (i + 1) = wtP l0_1 v i + (if 0 ≤ atP l0_1 v i then (l0_1.getD i z35).f2 else 0) from rfl)
      have hwr := wtP_range HWF.out v i hi
      have hz0 : (0 : Int) ≤ ((v.getD i 0 : Nat) : Int) := by omega
      have hz1 : v.getD i 0 ≤ 1000 := by have := HV.out.2.1 i hlt; have := HWF.out.path _ (getD_mem z35 hlt); omega
      have HPL := Aside0.mk hpl
      have HEA := Aside0.mk eA
      have HZ1 := Aside0.mk hz1
      clear hpl eA hz1
      generalize hf : ((v.getD i 0 : Nat) : Int) = z at k1 hz0
      have HZ := Aside0.mk hf
      clear hf
      generalize l0_1.getD i z35 = t' at y0 y1 y2 hwt HWS
      generalize wtP l0_1 v i = wt at HWS hwr
      have HBA := Aside0.mk ((Below.refl wr.heap.size wr).alloc (Nat.le_refl _) (.cells #[.int .i64 t'.f0, .slice B t'.f1.length c, .int .i64 t'.f2] 35))
      have HBB := Aside0.mk (HB1.out.alloc (below_size HB1.out) (.cells #[.int .i64 t'.f0, .slice B t'.f1.length c, .int .i64 t'.f2] 35))
      have k2 := (HBA.out.cell (World.block_lt_of_cell? wr _ k1)).trans k1
      go_wp2_with (fail)
      refine (at_callsI _ (HL1.out.st.sr.below HBA.out) (i : Int) z (v.getD i 0) p5 (by rw [Int.toNat_natCast]; exact hlt) HZ.out.symm HZ1.out (by rw [Int.toNat_natCast]; exact HPL.out)).mono ?_
      rintro e w7 ⟨rfl, hb⟩
      rw [Int.toNat_natCast, ← HEA.out]
      have BT := blk_below (heap_alloc_new wr (.cells #[.int .i64 t'.f0, .slice B t'.f1.length c, .int .i64 t'.f2] 35)) hb
      have yt : w7.cell? ⟨wr.heap.size, 2, none⟩ = some (.int .i64 t'.f2) := (blk_cell BT 2).trans rfl
      have HB2 := Aside0.mk (below_step HBB.out hb)
      clear HB1 HL1 HBA HBB hb k1 k2 y0 y1 y2 BT
      generalize atP l0_1 v i = at_ at HWS
      by_cases c : 0 ≤ at_
      ·have d42 : decide (at_ ≥ 0) = true := decide_eq_true c
       have ew : wrap64 (wt + t'.f2) = wt + t'.f2 := w64 (by omega) (by omega)
       go_wp2_with (fail)
       go_roundw
       case measure => simp [intOf]; omega
       case rel => exact ⟨i + 1, hlt, by go_num, by rw [HWS.out, if_pos c], HB2⟩
      ·have d42 : decide (at_ ≥ 0) = false := decide_eq_false c
       go_wp2_with (fail)
       go_roundw
       case measure => simp [intOf]; omega
       case rel => exact ⟨i + 1, hlt, by go_num, by rw [HWS.out, if_neg (by omega), Int.add_zero], HB2⟩
     ·have d32 : decide ((i : Int) < (l0_1.length : Int)) = false := decide_eq_false (by omega)
      have hie : i = l0_1.length := by omega
      subst hie
      have HLC := Aside0.mk (HLP.out.below HB1.out)
      have HMZ : Aside0 (sumA (wO.heap[kb]?) = v.sum) := ⟨by rw [HLP.out.kB]; exact sumA_arr _ _ _⟩
      clear HLP BXr z1 HB1
      generalize hwC : wr = wC at *
      clear hwC
      have hwr := wtP_range HWF.out v l0_1.length (Nat.le_refl _)
      have hwh := wt_here HWF.out v l0_1.length (Nat.le_refl _)
      have HWH := Aside0.mk hwh
      clear hwh
      generalize hwt : wtP l0_1 v l0_1.length = wt at *
      have HWT := Aside0.mk hwt
      clear hwt
      by_cases cz : wt = 0
      ·have d49 : (wt == 0) = true := beq_iff_eq.mpr cz
       have hh : hereP l0_1 v l0_1.length = false := HWH.out.1 cz
       obtain ⟨AV, cV, eV⟩ := Kd.R_slice HLC.out.mr
       subst eV
       have hgr1 : gr < w1.heap.size := blk_lt BR.out
       have HGL := Aside0.mk (show gr < w5.heap.size from by have := HLC.out.lt; omega)
       have BR4 := Aside0.mk ((HLC.out.st.low.block gr hgr1).trans BR.out)
       have HB4 := Aside0.mk (below_step HB.out HLC.out.st.low)
       have b0 : wC.cell? ⟨gB, 0, none⟩ = some (.bool true) := (blk_cell HLC.out.gb 0).trans rfl
       have b1 : wC.cell? ⟨gB, 1, none⟩ = some (.int .i64 vz) := (blk_cell HLC.out.gb 1).trans rfl
       have b2 : wC.cell? ⟨gB, 2, none⟩ = some (.slice AV xs.length cV) := (blk_cell HLC.out.gb 2).trans rfl
       clear hgr1
       go_wp2_with (first
        | ((with_reducible refine gate_store (t := 41) (p := 2) rfl ?_); refine row_event rfl 41 (.tmp 2) (.tmp 50) rfl rfl gr rfl (c' := #[.bool true, .int .i64 vz, .slice AV xs.length cV]) rfl BR4.out info41 rfl (by simp [Value.oneCell']) ?_; intro w9 hw9 hg9; have BR9 := Aside0.mk hw9; have HB9 := Aside0.mk (HB4.out.grown hg9 HB4.out.size (fun k hk => by injection hk with hk; have := GR.out; omega)); have HM9 := Aside0.mk (Kd.R_grown HLC.out.mr hg9 (fun k hk e => by injection e with e; have := HGL.out; omega)); clear hw9 hg9))
       refine bodyPost_ret (results_cell_row rfl _ _ gr 41 #[.bool true, .int .i64 vz, .slice AV xs.length cV] (0, 0) _ rfl BR9.out Try.underlying41 rfl (by kernel_rfl)) rfl ?_
       have hfin := HXS.out
       rw [pthP_none hh, List.map_nil, List.append_nil] at hfin
       exact ⟨_, rfl, by rw [← hfin]; exact Kd.R_mono (Kd.R_lower HM9.out HB.out.size) (fun _ _ => trivial), HB9.out⟩
      ·have d49 : (wt == 0) = false := beq_eq_false_iff_ne.mpr cz
       have hh : hereP l0_1 v l0_1.length = true := by
        cases hx : hereP l0_1 v l0_1.length with
        | true => rfl
        | false => exact absurd (HWH.out.2 hx) cz
       have hvb : ∀ x ∈ v, x ≤ 100 := fun x hx => by have := okV_le HWF.out HV.out x hx; omega
       have HSUM := Aside0.mk (show v.sum ≤ 45 from by have h9 := sum_le v 9 (fun x hx => by have := okV_le HWF.out HV.out x hx; omega); rw [hv5] at h9; omega)
       have HNX := Aside0.mk (nxt_some (R := l0_0) (T := l0_1) (v := v) (by omega) hh HVP.out)
       have HPT := Aside0.mk (fun (i : Nat) (h : nxtP l0_0 l0_1 v = some i) => pthP_some (R := l0_0) (T := l0_1) (v := v) (by omega) hh h)
       have hnx : nxtP l0_0 l0_1 v = (mvP l0_0 l0_1 v l0_1.length).find? (goodP l0_0 l0_1 v) := rfl
       have HFND := Aside0.mk hnx
       clear hnx hh
       go_wp2_with (first | ((with_reducible refine gate_dst (N := 52) rfl ?_); refine wpList_load_row rfl 74 (.tmp 4) rfl kb rfl 74 (arrV v) (0, 0) _ HLC.out.kB Try.underlying74 rfl (by rw [info74]; simp [arrV, hv5]) ?_))
       refine (moves_calls wC HLC.out.st.sr HWF.out v hv5 hvb).mono ?_
       rintro e wM ⟨vM, rfl, hRM, hb⟩
       obtain ⟨AM, cM, eM⟩ := Kd.R_slice hRM
       rw [List.length_map] at eM
       subst eM
       have HMEM := Aside0.mk (fun (i : Nat) (h : i ∈ mvP l0_0 l0_1 v l0_1.length) => (⟨(mvP_mem h).1, okV_inc HWF.out.t1 HV.out h⟩ : i < l0_1.length ∧ okV l0_1 (inc v i)))
       have hll : (mvP l0_0 l0_1 v l0_1.length).length ≤ 5 := Nat.le_trans (mvP_len _ _ _ _) ht1
       generalize mvP l0_0 l0_1 v l0_1.length = L at *
       have HLM := Aside0.mk (HLC.out.below hb)
       have HBC := Aside0.mk (show b < wC.heap.size from by have := HLC.out.lt; have := HLC.out.sz; omega)
       have HNC := Aside0.mk HLC.out.sz
       have HRM := Aside0.mk hRM
       clear HLC hRM hb
       go_wp2_with (fail)
       go_loopw [55] (fun x55 wr => ∃ n : Nat, n ≤ L.length ∧ x55 = .int .i64 n ∧ Aside0 (L.find? (goodP l0_0 l0_1 v) = (L.drop n).find? (goodP l0_0 l0_1 v)) ∧ Aside0 (Lp w1 gs b kb gB w5.heap.size A0_0 c0_0 l0_0 A0_1 c0_1 l0_1 A0_2 c0_2 l0_2 vz wr v mv xs) ∧ Aside0 (Kd.R (Kd.int .i64) 3 wr wC.heap.size (fun k => wC.heap.size ≤ k) (.slice AM L.length cM) (L.map (fun (j : Nat) => (j : Int))))) (fun x55 _ => L.length - (intOf x55).toNat)
       case atStart => exact ⟨0, Nat.zero_le _, rfl, ⟨rfl⟩, HLM, HRM⟩
       case round =>
        clear HLM HRM
        obtain ⟨n, hn, rfl, HFD, HLP, HR⟩ := hrel
        by_cases hlt : n < L.length
        ·have d56 : decide ((n : Int) < (L.length : Int)) = true := decide_eq_true (by omega)
         have p5 : (0 : Int) ≤ (n : Int) := by omega
         have q5 : (n : Int) < (L.length : Int) := by omega
         obtain ⟨gM, cM', eM, gbM, glM, clM, HGM⟩ := Kd.R_form HR.out (by rw [List.length_map]; omega)
         rw [List.length_map] at eM
         injection eM with eM _ eM'
         subst eM eM'
         obtain ⟨k57, _⟩ := Kd.R_celln 0 HR.out (n : Int) p5 q5
         have hj := getD_mem 0 hlt
         obtain ⟨hj1, hj2⟩ := HMEM.out _ hj
         have ej : rdOf 0 (L.map (fun (j : Nat) => (j : Int))) (n : Int) = ((L.getD n 0 : Nat) : Int) := map_getD L n
         rw [ej, Int.toNat_natCast] at k57
         have HFT := Aside0.mk (find_take (goodP l0_0 l0_1 v) L 0 hlt HFD.out)
         have HJ1 := Aside0.mk hj1
         have HJ2 := Aside0.mk hj2
         have hj5 : L.getD n 0 < 5 := by omega
         clear hj ej hj1 hj2 gbM glM HGM
         generalize L.getD n 0 = j at *
         have p7 : (0 : Int) ≤ (j : Int) := by omega
         have q7 : (j : Int) < 5 := by omega
         have hz0 : (0 : Int) ≤ ((v.getD j 0 : Nat) : Int) := by omega
         have hz1 : ((v.getD j 0 : Nat) : Int) ≤ 100 := by have := hvb _ (getD_mem 0 (show j < v.length by omega)); omega
         have kz : (arrV v)[j]? = some (.int .i64 ((v.getD j 0 : Nat) : Int)) := arrV_get v (by omega)
         have hinc := arrV_inc (v := v) (j := j) (by omega)
         generalize hf : ((v.getD j 0 : Nat) : Int) = z at hz0 hz1 kz hinc
         clear hf
         have KZ := Aside0.mk kz
         have HINC := Aside0.mk hinc
         clear kz hinc
         have ew : wrap64 (z + 1) = z + 1 := w64 (by omega) (by omega)
         go_wp2_with (first
          | ((with_reducible refine gate_dst (N := 59) rfl ?_); refine wpList_load_row rfl 74 (.tmp 4) rfl kb rfl 74 (arrV v) (0, 0) _ HLP.out.kB Try.underlying74 rfl (by rw [info74]; simp [arrV, hv5]) ?_)
          | ((with_reducible refine gate_dst (N := 12) rfl ?_); refine Kd.event_run rfl (exec_alloc 74 _ rfl (alloc_arr wr)) ?_)
          | ((with_reducible refine gate_store (t := 74) (p := 12) rfl ?_); refine store_event (t := 74) (p := 12) (v := .tmp 59) (w1 := wr.alloc (.cells (arrV v) 74)) rfl rfl rfl (exec_store 74 (.tmp 12) (.tmp 59) _ _ rfl rfl rfl (store_arr wr hv5)) ?_; intro wx hwx; have k62 : wx.cell? ⟨wr.heap.size, j, none⟩ = some (.int .i64 z) := (by rw [hwx]; exact (blk_cell (heap_alloc_new wr _) j).trans KZ.out); have f62 : wx.frozen? ⟨wr.heap.size, j, none⟩ = false := (by rw [hwx]; exact blk_frozen (heap_alloc_new wr _) j); have HWX := Aside0.mk hwx; clear hwx)
          | ((with_reducible refine gate_store (t := 3) (p := 64) rfl ?_); refine store_event (t := 3) (p := 64) (v := .tmp 63) (w1 := wx.setCell ⟨wr.heap.size, j, none⟩ (.int .i64 (z + 1))) rfl rfl rfl ?hr ?_; (case hr => first | (go_simp; done) | (go_simp; rfl)); intro w6 hw6; rw [HWX.out, World.setCell_alloc_new, HINC.out] at hw6; have BN := Aside0.mk (show w6.heap[wr.heap.size]? = some (.cells (arrV (inc v j)) 74 (0, 0)) from by rw [hw6]; exact heap_alloc_new wr _); have GB := Aside0.mk (show Below wr.heap.size wr w6 from by rw [hw6]; exact (Below.refl _ _).alloc (Nat.le_refl _) _); clear hw6 HWX k62 f62)
          | ((with_reducible refine gate_dst (N := 66) rfl ?_); refine wpList_load_row rfl 74 (.tmp 12) rfl wr.heap.size rfl 74 (arrV (inc v j)) (0, 0) _ BN.out Try.underlying74 rfl (by rw [info74]; simp [arrV, inc, hv5]) ?_))
         have HL6 := Aside0.mk (HLP.out.below GB.out)
         have HR6 := Aside0.mk (Kd.R_below HR.out GB.out)
         have HNB := Aside0.mk (show b ≠ wr.heap.size from by have := HLP.out.lt; have := HLP.out.sz; omega)
         clear HLP HR GB KZ HINC k57
         generalize hnb : wr.heap.size = nb at *
         clear hnb
         obtain ⟨D6, hd6⟩ := HL6.out.me
         refine (best_calls keyed HWF.out _ (inc v j) w6 D6 HJ2.out rfl HL6.out.st hd6).mono ?_
         rintro e w7 ⟨rfl, hg7, hm7⟩
         have HL7 := Aside0.mk (HL6.out.best hg7 hm7)
         have HR7 := Aside0.mk (Kd.R_grown HR6.out hg7 (fun k hk e => by injection e with e; have := HBC.out; omega))
         have BN_ := Aside0.mk (blk_grown BN.out hg7 (fun e => by injection e with e; have := HNB.out; omega))
         clear HL6 HR6 BN hg7 hm7 hd6
         have BN := BN_
         clear BN_
         have hvs := V_small (R := l0_0) (T := l0_1) (N := l0_2) HWF.out (v := inc v j) (by rw [inc_len]; omega)
         have HGD : Aside0 (goodP l0_0 l0_1 v j = decide (0 ≤ V l0_0 l0_1 (inc v j) ∧ V l0_0 l0_1 (inc v j) + wt = V l0_0 l0_1 v)) := ⟨by unfold goodP; rw [HWT.out]⟩
         generalize hmm : V l0_0 l0_1 (inc v j) = mm at *
         have HMV := Aside0.mk hmm
         clear hmm
         have ew2 : wrap64 (mm + wt) = mm + wt := w64 (by omega) (by omega)
         by_cases m0 : 0 ≤ mm
         ·have d69 : decide (mm ≥ 0) = true := decide_eq_true m0
          go_wp2_with (first | ((with_reducible refine gate_dst (N := 75) rfl ?_); refine gate_guard (by rfl) ?_; refine wpList_load_row rfl 74 (.tmp 4) rfl kb rfl 74 (arrV v) (0, 0) _ HL7.out.kB Try.underlying74 rfl (by rw [info74]; simp [arrV, hv5]) ?_))
          obtain ⟨D7, hd7⟩ := HL7.out.me
          refine (best_calls keyed HWF.out _ v w7 D7 HV.out rfl HL7.out.st hd7).mono ?_
          rintro e w8 ⟨rfl, hg8, hm8⟩
          have HL8 := Aside0.mk (HL7.out.best hg8 hm8)
          have HR8 := Aside0.mk (Kd.R_grown HR7.out hg8 (fun k hk e => by injection e with e; have := HBC.out; omega))
          have BN_ := Aside0.mk (blk_grown BN.out hg8 (fun e => by injection e with e; have := HNB.out; omega))
          clear HL7 HR7 BN hg8 hm8 hd7
          have BN := BN_
          clear BN_
          have HVV : Aside0 (0 ≤ V l0_0 l0_1 v) := HVP
          generalize hvv : V l0_0 l0_1 v = vv at HGD HVV
          clear hvv
          by_cases m1 : mm + wt = vv
          ·have d77 : (mm + wt == vv) = true := beq_iff_eq.mpr m1
           have HVN := Aside0.mk (show 0 ≤ V l0_0 l0_1 (inc v j) from by rw [HMV.out]; exact m0)
           have HNXT := Aside0.mk (show nxtP l0_0 l0_1 v = some j from by rw [HFND.out, HFT.out, if_pos (by rw [HGD.out]; exact decide_eq_true ⟨m0, m1⟩)])
           have BX8 := Aside0.mk ((HL8.out.st.low.block _ (blk_lt BX.out)).trans BX.out)
           have q8 : (j : Int) < (l0_2.length : Int) := by have := HN1.out; have := HJ1.out; omega
           obtain ⟨adN, eN, n0⟩ := Kd.at_int HR2.out (j : Int) p7 q8
           subst eN
           rw [Int.toNat_natCast] at n0
           have e1 : rd l0_2 (j : Int) = l0_2.getD j 0 := rd_I l0_2 j
           rw [e1] at n0
           have HNA := Aside0.mk (World.block_lt_of_cell? w _ n0)
           have HXS2 : Aside0 ((xs ++ [l0_2.getD j 0]) ++ (pthP l0_0 l0_1 (inc v j)).map (fun i => l0_2.getD i 0) = r3) := ⟨by have h9 := HXS.out; rw [HPT.out j HNXT.out, List.map_cons] at h9; rw [List.append_assoc]; exact h9⟩
           have HXL := Aside0.mk (show xs.length ≤ 100 from by have h9 := congrArg List.length HXS.out; rw [List.length_append] at h9; have h8 := HR3L.out; omega)
           have n1 : w8.cell? (adN.add j) = some (.int .i64 (l0_2.getD j 0)) := ((below_step HB.out HL8.out.st.low).cell HNA.out).trans n0
           clear e1
           generalize l0_2.getD j 0 = nm at n0 n1 HXS2
           go_wp2_with (fail)
           refine start_ (n := 11) (S := fun w' => w'.cell? ⟨gB, 2, none⟩ = some mv ∧ w'.cell? ⟨w.heap.size, 2, none⟩ = some (.slice (some adN) l0_2.length c0_2) ∧ w'.cell? (adN.add j) = some (.int .i64 nm)) (ds := [10]) #[false, false, false, false, false, false, false, false, false, false, false] (by kernel_rfl) rfl rfl ⟨(blk_cell HL8.out.gb 2).trans rfl, (blk_cell BX8.out 2).trans rfl, n1⟩ (fun hHeld => ?_)
           have HL9_ : Aside0 (Lp w1 gs b kb gB w5.heap.size A0_0 c0_0 l0_0 A0_1 c0_1 l0_1 (some adN) c0_2 l0_2 vz w8.drew v mv xs) := ⟨HL8.out.below (below_drew (Below.refl _ _))⟩
           have BX9_ : Aside0 (w8.drew.heap[w.heap.size]? = some (.cells #[.slice A0_0 l0_0.length c0_0, .slice A0_1 l0_1.length c0_1, .slice (some adN) l0_2.length c0_2] 26 (0, 0))) := ⟨BX8.out⟩
           have BN9_ : Aside0 (w8.drew.heap[nb]? = some (.cells (arrV (inc v j)) 74 (0, 0))) := ⟨BN.out⟩
           have n2 : w8.drew.cell? (adN.add j) = some (.int .i64 nm) := n1
           clear HL8 BX8 BN n1
           generalize w8.drew = wd at *
           have HL8 := HL9_
           have BX8 := BX9_
           have BN := BN9_
           clear HL9_ BX9_ BN9_
           refine pure_ (i := 0) (N := some 79) (v := ?_) (a' := ?_) #[true, false, false, false, false, false, false, false, false, false, false] rfl rfl (by kernel_rfl) (fun _ _ _ h => h) (Or.inl ⟨by rfl, ?_⟩) ?_ ?_
           rotate_left
           ·intro w'
            go_simp
            with_reducible rfl
           rotate_left
           ·simp only [Act.put, List.setIfInBounds_toArray, List.set_cons_zero, List.set_cons_succ, i64_w, i32_w]
            rfl
           refine pure_ (i := 2) (N := some 81) (v := ?_) (a' := ?_) #[true, false, true, false, false, false, false, false, false, false, false] rfl rfl (by kernel_rfl) (fun _ _ _ h => h) (Or.inl ⟨by rfl, ?_⟩) ?_ ?_
           rotate_left
           ·intro w'
            go_simp
            with_reducible rfl
           rotate_left
           ·simp only [Act.put, List.setIfInBounds_toArray, List.set_cons_zero, List.set_cons_succ, i64_w, i32_w]
            rfl
           refine pure_ (i := 4) (N := some 83) (v := ?_) (a' := ?_) #[true, false, true, false, true, false, false, false, false, false, false] rfl rfl (by kernel_rfl) (fun _ _ _ h => h) (Or.inl ⟨by rfl, ?_⟩) ?_ ?_
           rotate_left
           ·intro w'
            go_simp
            with_reducible rfl
           rotate_left
           ·simp only [Act.put, List.setIfInBounds_toArray, List.set_cons_zero, List.set_cons_succ, i64_w, i32_w]
            rfl
           refine take_ (i := 1) (N := some 80) (v := ?_) (a' := ?_) #[true, true, true, false, true, false, false, false, false, false, false] rfl rfl (by kernel_rfl) (fun _ _ _ h => h) (Or.inl ⟨by rfl, ?_⟩) hHeld ?_ ?_
           rotate_left
           ·rintro w' ⟨s0, s1, s2⟩
            go_simp
            with_reducible rfl
           rotate_left
           ·simp only [Act.put, List.setIfInBounds_toArray, List.set_cons_zero, List.set_cons_succ, i64_w, i32_w]
            rfl
           refine take_ (i := 3) (N := some 82) (v := ?_) (a' := ?_) #[true, true, true, true, true, false, false, false, false, false, false] rfl rfl (by kernel_rfl) (fun _ _ _ h => h) (Or.inl ⟨by rfl, ?_⟩) hHeld ?_ ?_
           rotate_left
           ·rintro w' ⟨s0, s1, s2⟩
            go_simp
            with_reducible rfl
           rotate_left
           ·simp only [Act.put, List.setIfInBounds_toArray, List.set_cons_zero, List.set_cons_succ, i64_w, i32_w]
            rfl
           refine pure_ (i := 5) (N := some 84) (v := ?_) (a' := ?_) #[true, true, true, true, true, true, false, false, false, false, false] rfl rfl (by kernel_rfl) (fun _ _ _ h => h) (Or.inl ⟨by rfl, ?_⟩) ?_ ?_
           rotate_left
           ·intro w'
            go_simp
            with_reducible rfl
           rotate_left
           ·simp only [Act.put, List.setIfInBounds_toArray, List.set_cons_zero, List.set_cons_succ, i64_w, i32_w]
            rfl
           refine take_ (i := 6) (N := some 85) (v := ?_) (a' := ?_) #[true, true, true, true, true, true, true, false, false, false, false] rfl rfl (by kernel_rfl) (fun _ _ _ h => h) (Or.inl ⟨by rfl, ?_⟩) hHeld ?_ ?_
           rotate_left
           ·rintro w' ⟨s0, s1, s2⟩
            go_simp
            with_reducible rfl
           rotate_left
           ·simp only [Act.put, List.setIfInBounds_toArray, List.set_cons_zero, List.set_cons_succ, i64_w, i32_w]
            rfl
           refine one_ (i := 7) (N := some 86) #[true, true, true, true, true, true, true, true, false, false, false] rfl rfl (by kernel_rfl) (by decide) (fun K hK => ?_)
           refine value_ (w1 := ?_) (v := ?_) (by rfl) rfl ?_ ?_
           rotate_left 2
           ·go_simp
            constructor
            ·rfl
            ·rfl
           refine hK.out _ _ ⟨(blk_cell (blk_alloc HL8.out.gb _) 2).trans rfl, (blk_cell (blk_alloc BX8.out _) 2).trans rfl, ((below_alloc (Below.refl _ _) _).cell (World.block_lt_of_cell? wd _ n2)).trans n2⟩ (fun hHeld => ?_)
           clear hK K
           refine norm_ (a' := ?_) ?_ ?_
           rotate_left
           ·show Act.put _ (some 86) _ = _
            simp only [Act.put, List.setIfInBounds_toArray, List.set_cons_zero, List.set_cons_succ, i64_w, i32_w]
            rfl
           refine one_ (i := 8) (N := some 87) #[true, true, true, true, true, true, true, true, true, false, false] rfl rfl (by kernel_rfl) (by decide) (fun K hK => ?_)
           refine Kd.R_append_step (Kd.int .i64) (w0 := wd) w1.heap.size (by rfl) (.tmp 80) (.tmp 86) 23 3 (.int .i64 0) 8 rfl Try.underlying23 info3 rfl (by decide) (by omega) mv xs nm [.int .i64 nm] (fun k => w5.heap.size ≤ k) (fun _ => False) rfl rfl ?aP (fun _ hk => hk.elim) ?aF HL8.out.mr (Below.refl _ _) HL8.out.st.low.size ?aL ?_
           (case aP => exact rfl)
           (case aF => exact (fun k hk => Nat.le_trans HL8.out.sz hk))
           (case aL => have := HXL.out; omega)
           intro mv1 w9 ho hb hg hat
           have HROW := Aside0.mk (HL8.out.row hg)
           have HMR := Aside0.mk ho
           have hrw : ∀ k, mv.ownBlock = some k → w5.heap.size ≤ k := fun k hk => HL8.out.mr.1 k hk
           have HLT := Aside0.mk HL8.out.lt
           have BX9 := Aside0.mk ((HROW.out.1.low.block _ (blk_lt BX.out)).trans BX.out)
           have BN9 := Aside0.mk (blk_grown BN.out hg (Kd.R_ne HL8.out.mr BN.out (by decide)))
           have n3 : w9.cell? (adN.add j) = some (.int .i64 nm) := ((below_step HB.out HROW.out.1.low).cell HNA.out).trans n0
           clear HL8 BX8 BN ho hb hg hat hrw n2
           refine hK.out _ _ ⟨(blk_cell HROW.out.2.2.2.1 2).trans rfl, (blk_cell BX9.out 2).trans rfl, n3⟩ (fun hHeld => ?_)
           clear hK K
           refine norm_ (a' := ?_) ?_ ?_
           rotate_left
           ·show Act.put _ (some 87) _ = _
            simp only [Act.put, List.setIfInBounds_toArray, List.set_cons_zero, List.set_cons_succ, i64_w, i32_w]
            rfl
           refine pure_ (i := 9) (N := some 88) (v := ?_) (a' := ?_) #[true, true, true, true, true, true, true, true, true, true, false] rfl rfl (by kernel_rfl) (fun _ _ _ h => h) (Or.inl ⟨by rfl, ?_⟩) ?_ ?_
           rotate_left
           ·intro w'
            go_simp
            with_reducible rfl
           rotate_left
           ·simp only [Act.put, List.setIfInBounds_toArray, List.set_cons_zero, List.set_cons_succ, i64_w, i32_w]
            rfl
           refine last_ (i := 10) (N := none) #[true, true, true, true, true, true, true, true, true, true, true] rfl rfl (by kernel_rfl) (by decide) (fun K hK => ?_)
           obtain ⟨AV1, cV1, ev1⟩ := Kd.R_slice HMR.out
           subst ev1
           have hs13 : w9.cell? ⟨gB, 2, none⟩ = some mv := (blk_cell HROW.out.2.2.2.1 2).trans rfl
           have hfs13 := blk_frozen HROW.out.2.2.2.1 2
           refine skip_ (w1 := w9.setCell ⟨gB, 2, none⟩ (.slice AV1 (xs ++ [nm]).length cV1)) (by rfl) rfl ?_ ?_
           ·go_simp
           refine hK.out _ _ ?_
           clear hK K
           refine done_ (by kernel_rfl) ?_
           have HLA := Aside0.mk (Lp.lay HLT.out HROW.out.1 HROW.out.2.1 HROW.out.2.2.1 HROW.out.2.2.2.1 HROW.out.2.2.2.2 HMR.out)
           have BNA := Aside0.mk (blk_far BN9.out (p := ⟨gB, 2, none⟩) (blk_ne BN9.out HROW.out.2.2.2.1 (by decide)) (.slice AV1 (xs ++ [nm]).length cV1))
           clear hs13 hfs13 n3 HROW HMR BX9 BN9
           generalize w9.setCell ⟨gB, 2, none⟩ (.slice AV1 (xs ++ [nm]).length cV1) = wA at *
           go_wp2_with (first
            | ((with_reducible refine gate_dst (N := 89) rfl ?_); refine wpList_load_row rfl 74 (.tmp 12) rfl nb rfl 74 (arrV (inc v j)) (0, 0) _ BNA.out Try.underlying74 rfl (by rw [info74]; simp [arrV, inc, hv5]) ?_)
            | ((with_reducible refine gate_store (t := 74) (p := 4) rfl ?_); (try simp only [Act.put, List.setIfInBounds_toArray, List.set_cons_zero, List.set_cons_succ]); refine row_event rfl 74 (.tmp 4) (.tmp 89) rfl rfl kb rfl (c' := arrV (inc v j)) rfl HLA.out.kB (by rw [info74]; simp [arrV, inc, hv5]) (by simp [arrV, inc]) (by simp [arrV, Value.oneCell']) ?_; intro wE hwE hgE; have HLE := Aside0.mk (HLA.out.pos hgE hwE); clear hwE hgE))
           have hjv : j < v.length := by omega
           have hsj := sum_inc hjv
           have hsE : sumA (wE.heap[kb]?) = v.sum + 1 := by rw [HLE.out.kB, sumA_arr, hsj]
           go_roundw
           case measure => have := HSUM.out; rw [HMZ.out, hsE]; omega
           case rel => exact ⟨inc v j, _, xs ++ [nm], ⟨HJ2.out⟩, ⟨HVN.out⟩, HXS2, HLE⟩
          ·have d77 : (mm + wt == vv) = false := beq_eq_false_iff_ne.mpr m1
           have HFD2 : Aside0 (L.find? (goodP l0_0 l0_1 v) = (L.drop (n + 1)).find? (goodP l0_0 l0_1 v)) := ⟨by rw [HFT.out, if_neg (by rw [HGD.out]; simp [m1])]⟩
           go_wp2_with (fail)
           go_roundw
           case measure => simp [intOf]; omega
           case rel => exact ⟨n + 1, hlt, by go_num, HFD2, HL8, HR8⟩
         ·have d69 : decide (mm ≥ 0) = false := decide_eq_false m0
          have HFD2 : Aside0 (L.find? (goodP l0_0 l0_1 v) = (L.drop (n + 1)).find? (goodP l0_0 l0_1 v)) := ⟨by rw [HFT.out, if_neg (by rw [HGD.out]; simp [m0])]⟩
          go_wp2_with (fail)
          go_roundw
          case measure => simp [intOf]; omega
          case rel => exact ⟨n + 1, hlt, by go_num, HFD2, HL7, HR7⟩
        ·exfalso
         obtain ⟨i, hi⟩ := HNX.out
         rw [HFND.out, HFD.out, List.drop_eq_nil_of_le (by omega)] at hi
         exact absurd hi (by simp)
 ·have c1 : (t == 0) = false := beq_eq_false_iff_ne.mpr c0
  have c2 : (t != 0) = true := by simp [bne, c1]
  have hrr := HRR.out
  rw [if_neg c0] at hrr
  have HRD := Aside0.mk hrr
  clear HRR hrr
  go_wp2_with (first
   | ((with_reducible refine gate_store (t := 41) (p := 2) rfl ?_); refine row_event rfl 41 (.tmp 2) (.tmp 17) rfl rfl gr rfl (c' := #[.bool false, .int .i64 0, .slice none 0 0]) rfl BR.out info41 rfl (by simp [Value.oneCell']) ?_; intro w9 hw9 hg9; have BR9 := Aside0.mk hw9; have HB9 := Aside0.mk (HB.out.grown hg9 HB.out.size (fun k hk => by injection hk with hk; have := GR.out; omega)); clear hw9 hg9))
  refine bodyPost_ret (results_cell_row rfl _ _ gr 41 #[.bool false, .int .i64 0, .slice none 0 0] (0, 0) _ rfl BR9.out Try.underlying41 rfl (by kernel_rfl)) rfl ?_
  have hfin := HRD.out
  injection hfin with f1 hfin
  injection hfin with f2 f3
  subst f1 f2 f3
  exact ⟨_, rfl, Kd.R_nil _ _ _ _ _, HB9.out⟩
theorem implSolve_tells {R : List Int} {T : List S35} {N : List Int} (hR : R.length ≤ 1048576) (hT : T.length ≤ 1048576) (hN : N.length ≤ 1048576) : Ev (fun k => impl_Solve.f k R T N) (solveD R T N) := by
 refine Ev.bind' (implStateOk_tells R T N hR hT hN) (Ev.all fun k => ?_)
 rw [if_pos rfl]
 rfl
end Go.Proofs.Ytpbclogjoangfaa.So
