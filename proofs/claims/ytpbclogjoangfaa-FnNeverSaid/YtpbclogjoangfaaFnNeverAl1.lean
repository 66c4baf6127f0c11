/- The specification's Allowed. Walked by hand. -/
import Derived.Test.YtpbclogjoangfaaFnNeverAlk
namespace Go.Proofs.Ytpbclogjoangfaa.Al
open Go.RowKit Go.Proofs.YtpbclogjoangfaaW.PrintWords Go.Proofs.YtpbclogjoangfaaW.PrintLast Go.Proofs.YtpbclogjoangfaaW.PrintMore Go.Proofs.Ytpbclogjoangfaa.Q Go.Proofs.Ytpbclogjoangfaa.Pu Go.Proofs.Ytpbclogjoangfaa.Sr Go.Proofs.Ytpbclogjoangfaa.Sp
attribute [local go_sem] max2_int min2_int max_two min_two max_three min_three max_four min_four
set_option linter.unusedVariables false
set_option linter.unusedSimpArgs false
/-- Allowed, as the walk of its callers asks for it: no rounds of its own. -/
def spec_Allowed.f (k : Nat) (l0_0 : List Int) (l0_1 : List S35) (l0_2 : List Int) : Option (List Int) :=
 (spec_StateOk.f k l0_0 l0_1 l0_2).bind fun t => if t = okS l0_0 l0_1 l0_2 then some (if t = 0 then alD l0_0 l0_1 l0_2 l0_1.length else []) else none
set_option maxHeartbeats 1000000 in
set_option maxRecDepth 100000 in
theorem spec_Allowed.calls (k : Nat) (A0_0 : Option Addr) (c0_0 : Nat) (l0_0 : List Int) (A0_1 : Option Addr) (c0_1 : Nat) (l0_1 : List S35) (A0_2 : Option Addr) (c0_2 : Nat) (l0_2 : List Int) (r : List Int) (w : World) (hr0_0 : Kd.C (Kd.int .i64) w A0_0 l0_0.length l0_0) (hc0_0 : l0_0.length ≤ c0_0) (hr0_1 : Kd.C k35 w A0_1 l0_1.length l0_1) (hc0_1 : l0_1.length ≤ c0_1) (hr0_2 : Kd.C (Kd.int .i64) w A0_2 l0_2.length l0_2) (hc0_2 : l0_2.length ≤ c0_2)
  (h : spec_Allowed.f k l0_0 l0_1 l0_2 = some r) :
  Calls Try.prog 35 #[.agg #[.slice A0_0 l0_0.length c0_0, .slice A0_1 l0_1.length c0_1, .slice A0_2 l0_2.length c0_2]] w fun e w' => ∃ v0_ : Value, e = .returned v0_ ∧ Kd.R (Kd.int .i64) 3 w' w.heap.size (fun _ => True) v0_ r ∧ Below w.heap.size w w' := by
 have HR0 := Aside0.mk hr0_0
 have HR1 := Aside0.mk hr0_1
 have HR2 := Aside0.mk hr0_2
 unfold spec_Allowed.f at h
 obtain ⟨t, ht, hr⟩ := Option.bind_eq_some_iff.mp h
 by_cases hq : t = okS l0_0 l0_1 l0_2
 rotate_left
 ·rw [if_neg hq] at hr; exact absurd hr (by simp)
 rw [if_pos hq] at hr
 injection hr with hr
 have HT := Aside0.mk ht
 have HW := Aside0.mk (fun h0 : t = 0 => (right_iff _ _ _).1 (hq.symm.trans h0))
 have HRR := Aside0.mk hr
 clear h ht hr hq hr0_0 hr0_1 hr0_2
 have hu26 := Try.underlying26
 have HB := Aside0.mk ((Below.refl w.heap.size w).alloc (Nat.le_refl _) (.cells #[.slice A0_0 l0_0.length c0_0, .slice A0_1 l0_1.length c0_1, .slice A0_2 l0_2.length c0_2] 26))
 have BX := Aside0.mk (heap_alloc_new w (.cells #[.slice A0_0 l0_0.length c0_0, .slice A0_1 l0_1.length c0_1, .slice A0_2 l0_2.length c0_2] 26))
 by_cases c0 : t = 0
 ·have c1 : (t == 0) = true := beq_iff_eq.mpr c0
  have c2 : (t != 0) = false := by rw [c0]; rfl
  have hr := HW.out c0
  have hw := hr.wf
  have hrr := HRR.out
  rw [if_pos c0] at hrr
  have HRD := Aside0.mk hrr
  clear HRR hrr
  go_enter Try.func35, Try.ntmps35
  go_wp2_with (fail)
  refine (spec_StateOk.calls k _ _ l0_0 _ _ l0_1 _ _ l0_2 t _ (Kd.C_below HR0.out HB.out) hc0_0 (Kd.C_below HR1.out HB.out) hc0_1 (Kd.C_below HR2.out HB.out) hc0_2 HT.out).mono ?_
  rintro e w1 ⟨rfl, hb⟩
  have HB_ := Aside0.mk (below_step HB.out hb)
  have BX_ := Aside0.mk (blk_below BX.out hb)
  clear HB BX hb
  have HB := HB_
  have BX := BX_
  clear HB_ BX_
  have z0 : w1.cell? ⟨w.heap.size, 0, none⟩ = some (.slice A0_0 l0_0.length c0_0) := (blk_cell BX.out 0).trans rfl
  have z1 : w1.cell? ⟨w.heap.size, 1, none⟩ = some (.slice A0_1 l0_1.length c0_1) := (blk_cell BX.out 1).trans rfl
  have z2 : w1.cell? ⟨w.heap.size, 2, none⟩ = some (.slice A0_2 l0_2.length c0_2) := (blk_cell BX.out 2).trans rfl
  go_wp2_with (fail)
  refine (new_calls w1 hw (Kd.C_below HR0.out HB.out) hc0_0 (Kd.C_below HR1.out HB.out) hc0_1 (Kd.C_below HR2.out HB.out) hc0_2).mono ?_
  rintro e w2 ⟨gt, gc, gm, vp, vn, cc, cm, rfl, hsq⟩
  have HOW := Aside0.mk (And.intro (fun k (hk : vp.ownBlock = some k) => ((Kd.R_bound hsq.pR).1 k hk).2.2.1) (And.intro (fun k (hk : vn.ownBlock = some k) => ((Kd.R_bound hsq.nR).1 k hk).2.2.1) (Array.getElem?_eq_some_iff.1 hsq.blk).1))
  have HLT := Aside0.mk (hsq.ne (szP_pos l0_1 l0_1.length))
  have HBX := Aside0.mk (show w.heap.size < w1.heap.size from (Array.getElem?_eq_some_iff.1 BX.out).1)
  have HSZ := Aside0.mk HB.out.size
  have HS12 := Aside0.mk hsq.low.size
  have HSQ := Aside0.mk hsq
  have hb := hsq.low
  have HB_ := Aside0.mk (below_step HB.out hb)
  have BX_ := Aside0.mk (blk_below BX.out hb)
  clear HB BX hb hsq z0 z1 z2
  have HB := HB_
  have BX := BX_
  clear HB_ BX_
  have z2 : w2.cell? ⟨w.heap.size, 2, none⟩ = some (.slice A0_2 l0_2.length c0_2) := (blk_cell BX.out 2).trans rfl
  have S0 : Aside0 (Stb (Kd.int .i64) gc gm w2 A0_0 l0_0.length l0_0) := ⟨fun W' hk => Kd.C_below HR0.out (hk.low HB.out HB.out.size (by have := HSZ.out; have := HLT.out; omega) (by have := HSZ.out; have := HLT.out; omega))⟩
  have S1 : Aside0 (Stb k35 gc gm w2 A0_1 l0_1.length l0_1) := ⟨fun W' hk => Kd.C_below HR1.out (hk.low HB.out HB.out.size (by have := HSZ.out; have := HLT.out; omega) (by have := HSZ.out; have := HLT.out; omega))⟩
  have S2 : Aside0 (Stb (Kd.int .i64) gc gm w2 A0_2 l0_2.length l0_2) := ⟨fun W' hk => Kd.C_below HR2.out (hk.low HB.out HB.out.size (by have := HSZ.out; have := HLT.out; omega) (by have := HSZ.out; have := HLT.out; omega))⟩
  have ht1 := hw.t1
  have HN1 := Aside0.mk hw.n1
  have HWF := Aside0.mk hw
  have HRI := Aside0.mk hr
  clear hw hr
  go_wp2_with (fail)
  go_loopw [4, 15] (fun x4 x15 wr => ∃ i : Nat, i ≤ l0_1.length ∧ x15 = .int .i64 i ∧ Aside0 (Kd.R (Kd.int .i64) 3 wr w2.heap.size (fun k => w2.heap.size ≤ k) x4 (alD l0_0 l0_1 l0_2 i)) ∧ Aside0 (Kp gc gm w2 wr) ∧ Aside0 (∃ Cs Ms, Sq w1 wr gt gc gm (szP l0_1 l0_1.length) vp vn cc cm l0_1 l0_2 Cs Ms ∧ Gm l0_0 l0_1 Cs Ms)) (fun _ x15 _ => l0_1.length - (intOf x15).toNat)
  case atStart => exact ⟨0, Nat.zero_le _, rfl, ⟨Kd.R_nil _ _ _ _ _⟩, ⟨Kp.refl _ _ _⟩, ⟨_, _, HSQ.out, gm_zero _ _ _⟩⟩
  case round =>
   obtain ⟨i, hi, rfl, HO, HK, HQ⟩ := hrel
   obtain ⟨Cs', Ms', hq, hg⟩ := HQ.out
   have HQ1 := Aside0.mk hq
   have HG1 := Aside0.mk hg
   clear hq hg HQ z2
   have BKr : Aside0 (wr.heap[w.heap.size]? = some (.cells #[.slice A0_0 l0_0.length c0_0, .slice A0_1 l0_1.length c0_1, .slice A0_2 l0_2.length c0_2] 26 (0, 0))) := ⟨(HK.out.block _ (Array.getElem?_eq_some_iff.1 BX.out).1 (by have := HLT.out; have := HBX.out; omega) (by have := HLT.out; have := HBX.out; omega)).trans BX.out⟩
   by_cases hlt : i < l0_1.length
   ·have d16 : decide ((i : Int) < (l0_2.length : Int)) = true := decide_eq_true (by have := HN1.out; omega)
    have p5 : (0 : Int) ≤ (i : Int) := by omega
    have q5 : (i : Int) < (l0_2.length : Int) := by have := HN1.out; omega
    obtain ⟨adN, eN, n1⟩ := Kd.at_int (S2.out.step HK.out).now (i : Int) p5 q5
    subst eN
    rw [Int.toNat_natCast] at n1
    have e1 : rd l0_2 (i : Int) = l0_2.getD i 0 := rd_I l0_2 i
    rw [e1] at n1
    have hcan : ∃ kc, spec_l1can.f kc l0_0 l0_1 l0_2 (i : Int) = some (okP l0_0 l0_1 zv i) := by
     have h9 := (l1can_tells HWF.out i hlt).rounds
     rw [can0 HWF.out hlt] at h9
     exact h9
    have hstp : ∃ ks, spec_l1step.f ks l0_0 l0_1 l0_2 (i : Int) = some (l0_0, stT l0_1 (inc zv i), stN l0_1 l0_2 (inc zv i)) := by
     have h9 := (l1step_tells HWF.out i hlt).rounds
     rw [step0 HWF.out hlt] at h9
     exact h9
    obtain ⟨kc, hkc⟩ := hcan
    obtain ⟨ks, hks⟩ := hstp
    have HKC := Aside0.mk hkc
    have HKS := Aside0.mk hks
    have HAS := Aside0.mk (alD_succ l0_0 l0_1 l0_2 i)
    have HAL := Aside0.mk (alD_len l0_0 l0_1 l0_2 i)
    have HO0 := Aside0.mk (okV0 HWF.out hlt)
    have HAW : Aside0 (alw l0_0 l0_1 i = (okP l0_0 l0_1 zv i && decide (0 ≤ V l0_0 l0_1 (inc zv i)))) := ⟨rfl⟩
    clear hkc hks e1
    generalize l0_2.getD i 0 = nm at n1 HAS
    generalize okP l0_0 l0_1 zv i = ok at HKC HO0 HAW
    have z0 : wr.cell? ⟨w.heap.size, 0, none⟩ = some (.slice A0_0 l0_0.length c0_0) := (blk_cell BKr.out 0).trans rfl
    have z1 : wr.cell? ⟨w.heap.size, 1, none⟩ = some (.slice A0_1 l0_1.length c0_1) := (blk_cell BKr.out 1).trans rfl
    have z2 : wr.cell? ⟨w.heap.size, 2, none⟩ = some (.slice (some adN) l0_2.length c0_2) := (blk_cell BKr.out 2).trans rfl
    go_wp2_with (fail)
    refine (spec_l1can.calls kc _ _ l0_0 _ _ l0_1 _ _ l0_2 (i : Int) ok wr (S0.out.step HK.out).now hc0_0 (S1.out.step HK.out).now hc0_1 (S2.out.step HK.out).now hc0_2 HKC.out).mono ?_
    rintro e w3 ⟨rfl, hb⟩
    have HK3 := Aside0.mk (HK.out.trans (Kp.of_below hb))
    have HQ3 := Aside0.mk (HQ1.out.below hb)
    have BK3 := Aside0.mk (blk_below BKr.out hb)
    have HO3 := Aside0.mk (Kd.R_below HO.out hb)
    clear HK HQ1 BKr HO hb z0 z1 z2 HKC n1
    cases ok
    ·go_wp2_with (fail)
     go_roundw
     case measure => simp [intOf]; omega
     case rel => exact ⟨i + 1, hlt, by go_num, ⟨by rw [HAS.out, if_neg (by rw [HAW.out]; simp), List.append_nil]; exact HO3.out⟩, HK3, ⟨Cs', Ms', HQ3.out, HG1.out⟩⟩
    ·have HJ := Aside0.mk (HO0.out rfl)
     clear HO0
     have z0 : w3.cell? ⟨w.heap.size, 0, none⟩ = some (.slice A0_0 l0_0.length c0_0) := (blk_cell BK3.out 0).trans rfl
     have z1 : w3.cell? ⟨w.heap.size, 1, none⟩ = some (.slice A0_1 l0_1.length c0_1) := (blk_cell BK3.out 1).trans rfl
     have z2 : w3.cell? ⟨w.heap.size, 2, none⟩ = some (.slice (some adN) l0_2.length c0_2) := (blk_cell BK3.out 2).trans rfl
     go_wp2_with (fail)
     refine (spec_l1step.calls ks _ _ l0_0 _ _ l0_1 _ _ l0_2 (i : Int) l0_0 (stT l0_1 (inc zv i)) (stN l0_1 l0_2 (inc zv i)) w3 (S0.out.step HK3.out).now hc0_0 (S1.out.step HK3.out).now hc0_1 (S2.out.step HK3.out).now hc0_2 HKS.out).mono ?_
     rintro e w4 ⟨u0, u1, u2, rfl, q0, q1, q2, hb⟩
     obtain ⟨B0, b0, eb0⟩ := Kd.R_slice q0
     obtain ⟨B1, b1, eb1⟩ := Kd.N_slice q1
     obtain ⟨B2, b2, eb2⟩ := Kd.R_slice q2
     subst eb0 eb1 eb2
     have HL3 := Aside0.mk (show gc < w3.heap.size ∧ gm < w3.heap.size from by have h9 := HLT.out; have h8 := HK3.out.size; omega)
     have T0 := Aside0.mk (Stb.of_R (gc := gc) (gm := gm) q0 (fun k hk => by have h9 := HL3.out; have h8 := hk.1; omega))
     have T1 := Aside0.mk (Stb.of_N (gc := gc) (gm := gm) q1 (fun k hk => by have h9 := HL3.out; have h8 := hk.1; omega))
     have T2 := Aside0.mk (Stb.of_R (gc := gc) (gm := gm) q2 (fun k hk => by have h9 := HL3.out; have h8 := hk.1; omega))
     have T3 := Aside0.mk (And.intro (Kd.R_reads' q0).2.1 (And.intro (Kd.N_reads' q1).2.1 (Kd.R_reads' q2).2.1))
     have HK4 := Aside0.mk (HK3.out.trans (Kp.of_below hb))
     have HQ4 := Aside0.mk (HQ3.out.below hb)
     have BK4 := Aside0.mk (blk_below BK3.out hb)
     have HO4 := Aside0.mk (Kd.R_below HO3.out hb)
     clear q0 q1 q2 hb HK3 HQ3 BK3 HO3 z0 z1 z2 HKS
     go_wp2_with (fail)
     refine (value_calls HRI.out rfl _ (inc zv i) w4 Cs' Ms' HJ.out rfl HQ4.out HG1.out _ _ _ _ _ _ T0.out T3.out.1 T1.out T3.out.2.1 T2.out T3.out.2.2).mono ?_
     rintro e w5 ⟨rfl, hk5, Cs5, Ms5, hq5, hg5⟩
     have HK5 := Aside0.mk (HK4.out.trans hk5)
     have HQ5 := Aside0.mk hq5
     have HG5 := Aside0.mk hg5
     have HO5 := Aside0.mk (Kd.R_kept HO4.out hk5.kept (fun k hk => by have := HLT.out; omega))
     have HS5 := Aside0.mk (show Below w2.heap.size w2 w2 from Below.refl _ _)
     clear hk5 hq5 hg5 HK4 HQ4 BK4 HO4 T0 T1 T2 T3 HJ
     generalize V l0_0 l0_1 (inc zv i) = mm at *
     by_cases m0 : 0 ≤ mm
     ·have d29 : decide (mm ≥ 0) = true := decide_eq_true m0
      go_wp2_with (first
       | ((with_reducible refine gate_builtin (b := .append) (xs := #[.tmp 31, .tmp 33]) rfl ?_); at_builtin; refine Kd.R_append (Kd.int .i64) (w0 := w5) w2.heap.size rfl (.tmp 31) (.tmp 33) 23 3 (.int .i64 0) 8 rfl Try.underlying23 info3 rfl (by decide) (by omega) u4 (alD l0_0 l0_1 l0_2 i) nm [.int .i64 nm] (fun k => w2.heap.size ≤ k) (fun _ => False) rfl rfl ?aP (fun _ hk => hk.elim) ?aF HO5.out (Below.refl _ _) HK5.out.size ?aL ?_; (case aP => exact rfl); (case aF => exact (fun k hk => Nat.le_trans HK5.out.size hk)); (case aL => have := HAL.out; omega); intro v6 w6 ho hb hg hat; have HK6 := Aside0.mk (Kp.far HK5.out hg (fun k hk => HO5.out.1 k hk)); have HQ6 := Aside0.mk (Sq.far HQ5.out HOW.out.1 HOW.out.2.1 HOW.out.2.2 HLT.out.2.2.2.2.2.1 HLT.out.2.2.2.2.2.2 HS12.out hg (fun k hk => HO5.out.1 k hk)); have HO6 := Aside0.mk ho; clear ho hb hg hat HK5 HQ5 HO5))
      go_roundw
      case measure => simp [intOf]; omega
      case rel => exact ⟨i + 1, hlt, by go_num, ⟨by rw [HAS.out, if_pos (by rw [HAW.out, show decide (0 ≤ mm) = true from d29]; decide)]; exact HO6.out⟩, HK6, ⟨Cs5, Ms5, HQ6.out, HG5.out⟩⟩
     ·have d29 : decide (mm ≥ 0) = false := decide_eq_false m0
      go_wp2_with (fail)
      go_roundw
      case measure => simp [intOf]; omega
      case rel => exact ⟨i + 1, hlt, by go_num, ⟨by rw [HAS.out, if_neg (by rw [HAW.out, show decide (0 ≤ mm) = false from d29]; decide), List.append_nil]; exact HO5.out⟩, HK5, ⟨Cs5, Ms5, HQ5.out, HG5.out⟩⟩
   ·have d16 : decide ((i : Int) < (l0_2.length : Int)) = false := decide_eq_false (by have := HN1.out; omega)
    have hie : i = l0_1.length := by omega
    subst hie
    have hn9 : l0_2.length = l0_1.length := HN1.out
    go_wp2_with (fail)
    go_ret
    exact ⟨_, rfl, by rw [← HRD.out]; exact Kd.R_mono (Kd.R_lower HO.out HB.out.size) (fun _ _ => trivial), HK.out.low HB.out HB.out.size (by have := HLT.out; have := HSZ.out; omega) (by have := HLT.out; have := HSZ.out; omega)⟩
 ·have c1 : (t == 0) = false := beq_eq_false_iff_ne.mpr c0
  have c2 : (t != 0) = true := by simp [bne, c1]
  go_enter Try.func35, Try.ntmps35
  go_wp2_with (fail)
  refine (spec_StateOk.calls k _ _ l0_0 _ _ l0_1 _ _ l0_2 t _ (Kd.C_below HR0.out HB.out) hc0_0 (Kd.C_below HR1.out HB.out) hc0_1 (Kd.C_below HR2.out HB.out) hc0_2 HT.out).mono ?_
  rintro e w1 ⟨rfl, hb⟩
  go_wp2_with (fail)
  go_ret
  exact ⟨_, rfl, by rw [← HRR.out, if_neg c0]; exact Kd.R_nil _ _ _ _ _, below_step HB.out hb⟩
theorem specAllowed_tells {R : List Int} {T : List S35} {N : List Int} (hR : R.length ≤ 1048576) (hT : T.length ≤ 1048576) (hN : N.length ≤ 1048576) : Ev (fun k => spec_Allowed.f k R T N) (allowedD R T N) := by
 refine Ev.bind' (specStateOk_tells R T N hR hT hN) (Ev.all fun k => ?_)
 rw [if_pos rfl]
 rfl
end Go.Proofs.Ytpbclogjoangfaa.Al
