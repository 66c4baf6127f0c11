/- The specification's Solve. Walked by hand. -/
import Derived.Test.YtpbclogjoangfaaFnBestSo2
import Derived.Test.YtpbclogjoangfaaFnBestSo3
namespace Go.Proofs.Ytpbclogjoangfaa.So
open Go.RowKit Go.Proofs.YtpbclogjoangfaaW.PrintWords Go.Proofs.YtpbclogjoangfaaW.PrintLast Go.Proofs.YtpbclogjoangfaaW.PrintMore Go.Proofs.Ytpbclogjoangfaa.Q Go.Proofs.Ytpbclogjoangfaa.Pu Go.Proofs.Ytpbclogjoangfaa.Sr Go.Proofs.Ytpbclogjoangfaa.Sp Go.Proofs.Ytpbclogjoangfaa.Al
attribute [local go_sem] max2_int min2_int max_two min_two max_three min_three max_four min_four
set_option linter.unusedVariables false
set_option linter.unusedSimpArgs false
theorem info26 : (Try.prog.info? 26).map (·.size) = some 3 := by kernel_rfl
def lenA : Option Obj → Nat
 | some (.cells c _ _) => match c[2]? with | some (Value.slice _ n _) => n | _ => 0
 | _ => 0
/-- Solve, as the walk of its callers asks for it: no rounds of its own. -/
def spec_Solve.f (k : Nat) (l0_0 : List Int) (l0_1 : List S35) (l0_2 : List Int) : Option (Bool × Int × List Int) :=
 (spec_StateOk.f k l0_0 l0_1 l0_2).bind fun t => if t = okS l0_0 l0_1 l0_2 then some (if t = 0 then (if V l0_0 l0_1 zv < 0 then (false, 0, []) else (true, V l0_0 l0_1 zv, (pthP l0_0 l0_1 zv).map (fun i => l0_2.getD i 0))) else (false, 0, [])) else none
set_option maxHeartbeats 2000000 in
set_option maxRecDepth 100000 in
theorem spec_Solve.calls (k : Nat) (A0_0 : Option Addr) (c0_0 : Nat) (l0_0 : List Int) (A0_1 : Option Addr) (c0_1 : Nat) (l0_1 : List S35) (A0_2 : Option Addr) (c0_2 : Nat) (l0_2 : List Int) (r1 : Bool) (r2 : Int) (r3 : List Int) (w : World) (hr0_0 : Kd.C (Kd.int .i64) w A0_0 l0_0.length l0_0) (hc0_0 : l0_0.length ≤ c0_0) (hr0_1 : Kd.C k35 w A0_1 l0_1.length l0_1) (hc0_1 : l0_1.length ≤ c0_1) (hr0_2 : Kd.C (Kd.int .i64) w A0_2 l0_2.length l0_2) (hc0_2 : l0_2.length ≤ c0_2)
  (h : spec_Solve.f k l0_0 l0_1 l0_2 = some (r1, r2, r3)) :
  Calls Try.prog 27 #[.agg #[.slice A0_0 l0_0.length c0_0, .slice A0_1 l0_1.length c0_1, .slice A0_2 l0_2.length c0_2]] w fun e w' => ∃ v2_ : Value, e = .returned (.agg #[.bool r1, .int .i64 r2, v2_]) ∧ Kd.R (Kd.int .i64) 3 w' w.heap.size (fun _ => True) v2_ r3 ∧ Below w.heap.size w w' := by
 have HR0 := Aside0.mk hr0_0
 have HR1 := Aside0.mk hr0_1
 have HR2 := Aside0.mk hr0_2
 unfold spec_Solve.f at h
 obtain ⟨t, ht, hr⟩ := Option.bind_eq_some_iff.mp h
 by_cases hq : t = okS l0_0 l0_1 l0_2
 rotate_left
 ·rw [if_neg hq] at hr; exact absurd hr (by simp)
 rw [if_pos hq] at hr
 injection hr with hr
 have HT := Aside0.mk ht
 have HW := Aside0.mk (fun h0 : t = 0 => (right_iff _ _ _).1 (hq.symm.trans h0))
 have HRR := Aside0.mk hr
 clear h ht hr hq hr0_0 hr0_1 hr0_2
 have hu26 := Try.underlying26
 have hu41 := Try.underlying41
 go_enter Try.func27, Try.ntmps27
 go_wp2_with (first
  | ((with_reducible refine gate_dst (N := 1) rfl ?_); refine box_event ?hg (N := 1) ?hd (cs := #[.slice A0_0 l0_0.length c0_0, .slice A0_1 l0_1.length c0_1, .slice A0_2 l0_2.length c0_2]) (t := 26) ?hr ?_; (case hd => rfl); (case hg => rfl); (case hr => first | (go_simp; done) | (go_simp; rfl)); intro gb hg wb hbox hb; subst hg; have HB := Aside0.mk hb; have BX := Aside0.mk hbox; clear hb hbox)
  | ((with_reducible refine gate_dst (N := 2) rfl ?_); refine box_event ?hg (N := 2) ?hd (cs := #[.bool false, .int .i64 0, .slice none 0 0]) (t := 41) ?hr ?_; (case hd => rfl); (case hg => rfl); (case hr => first | (go_simp; done) | (go_simp; rfl)); intro gr hgr wa hbox hb; have GR := Aside0.mk (show w.heap.size < gr from by rw [hgr]; exact blk_lt BX.out); have HB_ := Aside0.mk (below_step HB.out hb); have BX_ := Aside0.mk (blk_below BX.out hb); have BR := Aside0.mk hbox; clear HB BX hb hbox hgr; have HB := HB_; have BX := BX_; clear HB_ BX_; have z0 : wa.cell? ⟨w.heap.size, 0, none⟩ = some (.slice A0_0 l0_0.length c0_0) := (blk_cell BX.out 0).trans rfl; have z1 : wa.cell? ⟨w.heap.size, 1, none⟩ = some (.slice A0_1 l0_1.length c0_1) := (blk_cell BX.out 1).trans rfl; have z2 : wa.cell? ⟨w.heap.size, 2, none⟩ = some (.slice A0_2 l0_2.length c0_2) := (blk_cell BX.out 2).trans rfl))
 refine (spec_StateOk.calls k _ _ l0_0 _ _ l0_1 _ _ l0_2 t _ (Kd.C_below HR0.out HB.out) hc0_0 (Kd.C_below HR1.out HB.out) hc0_1 (Kd.C_below HR2.out HB.out) hc0_2 HT.out).mono ?_
 rintro e w1 ⟨rfl, hb⟩
 have HB_ := Aside0.mk (below_step HB.out hb)
 have BX_ := Aside0.mk (blk_below BX.out hb)
 have BR_ := Aside0.mk (blk_below BR.out hb)
 clear HB BX BR hb z0 z1 z2
 have HB := HB_
 have BX := BX_
 have BR := BR_
 clear HB_ BX_ BR_
 by_cases c0 : t = 0
 ·have c1 : (t == 0) = true := beq_iff_eq.mpr c0
  have c2 : (t != 0) = false := by rw [c0]; rfl
  have hr := HW.out c0
  have hw := hr.wf
  have hrr := HRR.out
  rw [if_pos c0] at hrr
  have HRD := Aside0.mk hrr
  clear HRR hrr
  have z0 : w1.cell? ⟨w.heap.size, 0, none⟩ = some (.slice A0_0 l0_0.length c0_0) := (blk_cell BX.out 0).trans rfl
  have z1 : w1.cell? ⟨w.heap.size, 1, none⟩ = some (.slice A0_1 l0_1.length c0_1) := (blk_cell BX.out 1).trans rfl
  have z2 : w1.cell? ⟨w.heap.size, 2, none⟩ = some (.slice A0_2 l0_2.length c0_2) := (blk_cell BX.out 2).trans rfl
  go_wp2_with (fail)
  refine (new_calls w1 hw (Kd.C_below HR0.out HB.out) hc0_0 (Kd.C_below HR1.out HB.out) hc0_1 (Kd.C_below HR2.out HB.out) hc0_2).mono ?_
  rintro e w2 ⟨gt, gc, gm, vp, vn, cc, cm, rfl, hsq⟩
  have HOW := Aside0.mk (And.intro (fun k (hk : vp.ownBlock = some k) => ((Kd.R_bound hsq.pR).1 k hk).2.2.1) (And.intro (fun k (hk : vn.ownBlock = some k) => ((Kd.R_bound hsq.nR).1 k hk).2.2.1) (Array.getElem?_eq_some_iff.1 hsq.blk).1))
  have HLT := Aside0.mk (hsq.ne (szP_pos l0_1 l0_1.length))
  have HSZ := Aside0.mk HB.out.size
  have HSQ := Aside0.mk hsq
  have HBXR := Aside0.mk (And.intro (blk_lt BX.out) (blk_lt BR.out))
  have HB2 := Aside0.mk (below_step HB.out hsq.low)
  have BX2 := Aside0.mk (blk_below BX.out hsq.low)
  have BR2 := Aside0.mk (blk_below BR.out hsq.low)
  have HSZ2 := Aside0.mk hsq.low.size
  clear hsq z0 z1 z2
  have z0 : w2.cell? ⟨w.heap.size, 0, none⟩ = some (.slice A0_0 l0_0.length c0_0) := (blk_cell BX2.out 0).trans rfl
  have z1 : w2.cell? ⟨w.heap.size, 1, none⟩ = some (.slice A0_1 l0_1.length c0_1) := (blk_cell BX2.out 1).trans rfl
  have z2 : w2.cell? ⟨w.heap.size, 2, none⟩ = some (.slice A0_2 l0_2.length c0_2) := (blk_cell BX2.out 2).trans rfl
  go_wp2_with (fail)
  refine calls_of_args (args' := #[.pointer (some ⟨gt, 0, none⟩), .agg #[.slice A0_0 l0_0.length c0_0, .slice A0_1 (stT l0_1 zv).length c0_1, .slice A0_2 (stN l0_1 l0_2 zv).length c0_2]]) (by rw [show stT l0_1 zv = l0_1 from stT_zero hw, show stN l0_1 l0_2 zv = l0_2 from stN_zero hw]) ?_
  have T0 : Stb (Kd.int .i64) gc gm w2 A0_0 l0_0.length l0_0 := fun W' hk => Kd.C_below HR0.out (hk.low HB2.out HB2.out.size (by have := HSZ.out; have := HLT.out; omega) (by have := HSZ.out; have := HLT.out; omega))
  have T1 : Stb k35 gc gm w2 A0_1 (stT l0_1 zv).length (stT l0_1 zv) := fun W' hk => by rw [show stT l0_1 zv = l0_1 from stT_zero hw]; exact Kd.C_below HR1.out (hk.low HB2.out HB2.out.size (by have := HSZ.out; have := HLT.out; omega) (by have := HSZ.out; have := HLT.out; omega))
  have T2 : Stb (Kd.int .i64) gc gm w2 A0_2 (stN l0_1 l0_2 zv).length (stN l0_1 l0_2 zv) := fun W' hk => by rw [show stN l0_1 l0_2 zv = l0_2 from stN_zero hw]; exact Kd.C_below HR2.out (hk.low HB2.out HB2.out.size (by have := HSZ.out; have := HLT.out; omega) (by have := HSZ.out; have := HLT.out; omega))
  refine (value_calls hr rfl _ zv w2 _ _ (okV_zero _) rfl HSQ.out (gm_zero _ _ _) A0_0 c0_0 A0_1 c0_1 A0_2 c0_2 T0 hc0_0 T1 (by rw [show stT l0_1 zv = l0_1 from stT_zero hw]; exact hc0_1) T2 (by rw [show stN l0_1 l0_2 zv = l0_2 from stN_zero hw]; exact hc0_2)).mono ?_
  rintro e w3 ⟨rfl, hk, Cs3, Ms3, hsq3, hgm3⟩
  have HB3 := Aside0.mk (hk.low HB2.out HB2.out.size (by have := HSZ.out; have := HLT.out; omega) (by have := HSZ.out; have := HLT.out; omega))
  have BX3 := Aside0.mk ((hk.block _ (blk_lt BX2.out) (by have := HBXR.out; have := HLT.out; omega) (by have := HBXR.out; have := HLT.out; omega)).trans BX2.out)
  have BR3 := Aside0.mk ((hk.block _ (blk_lt BR2.out) (by have := HBXR.out; have := HLT.out; omega) (by have := HBXR.out; have := HLT.out; omega)).trans BR2.out)
  have HS3 := Aside0.mk (sq_lower hsq3 HB.out)
  have HG3 := Aside0.mk hgm3
  have HSZ3 := Aside0.mk hk.size
  have HRI := Aside0.mk hr
  have HWF := Aside0.mk hw
  have ht1 := hw.t1
  clear hk hsq3 hgm3 T0 T1 T2 z0 z1 z2 HSQ BX2 BR2 HB2
  generalize hvz : V l0_0 l0_1 zv = vz at HRD
  have HVZ := Aside0.mk hvz
  clear hvz
  by_cases cn : vz < 0
  ·have d18 : decide (vz < 0) = true := decide_eq_true cn
   go_wp2_with (first
    | ((with_reducible refine gate_store (t := 41) (p := 2) rfl ?_); refine row_event rfl 41 (.tmp 2) (.tmp 19) rfl rfl gr rfl (c' := #[.bool false, .int .i64 0, .slice none 0 0]) rfl BR3.out info41 rfl (by simp [Value.oneCell']) ?_; intro w9 hw9 hg9; have BR9 := Aside0.mk hw9; have HB9 := Aside0.mk (HB3.out.grown hg9 HB3.out.size (fun k hk => by injection hk with hk; have := GR.out; omega)); clear hw9 hg9))
   refine bodyPost_ret (results_cell_row rfl _ _ gr 41 #[.bool false, .int .i64 0, .slice none 0 0] (0, 0) _ rfl BR9.out Try.underlying41 rfl (by kernel_rfl)) rfl ?_
   have hfin := HRD.out
   rw [if_pos cn] at hfin
   injection hfin with f1 hfin
   injection hfin with f2 f3
   subst f1 f2 f3
   exact ⟨_, rfl, Kd.R_nil _ _ _ _ _, HB9.out⟩
  ·have d18 : decide (vz < 0) = false := decide_eq_false cn
   have hrd := HRD.out
   rw [if_neg cn] at hrd
   injection hrd with f1 hrd
   injection hrd with f2 f3
   subst f1 f2
   have HF3 := Aside0.mk f3
   have HR3L := Aside0.mk (show r3.length ≤ 46 from by rw [← f3, List.length_map]; exact pthP_len hw zv)
   clear f3 HRD
   go_wp2_with (first
    | ((with_reducible refine gate_dst (N := 5) rfl ?_); refine box_event ?hg (N := 5) ?hd (cs := #[.bool false, .int .i64 0, .slice none 0 0]) (t := 41) ?hr ?_; (case hd => rfl); (case hg => rfl); (case hr => first | (go_simp; done) | (go_simp; rfl)); intro gB hgB w5 hbox hb; have HGB := Aside0.mk (show gB = w3.heap.size from hgB); have BB := Aside0.mk hbox; have HS5 := Aside0.mk (HS3.out.below hb); have BX5 := Aside0.mk (blk_below BX3.out hb); have BR5 := Aside0.mk (blk_below BR3.out hb); have HB5 := Aside0.mk (below_step HB3.out hb); have HSZ5 := Aside0.mk hb.size; clear HS3 BX3 BR3 HB3 hb hbox hgB)
    | ((with_reducible refine gate_store (t := 41) (p := 5) rfl ?_); (try simp only [Act.put, List.setIfInBounds_toArray, List.set_cons_zero, List.set_cons_succ]); refine row_event rfl 41 (.tmp 5) (.tmp 21) rfl rfl gB rfl (c' := #[.bool true, .int .i64 vz, .slice none 0 0]) rfl BB.out info41 rfl (by simp [Value.oneCell']) ?_; intro w6 hw6 hg6; have HW6 := Aside0.mk hw6; have HG6 := Aside0.mk hg6; clear hw6 hg6))
   have HB6 := Aside0.mk (HB5.out.grown HG6.out HB5.out.size (fun k hk => by injection hk with hk; have := HGB.out; have := HB5.out.size; have := HSZ3.out; have := HSZ2.out; have := HSZ.out; omega))
   have hgeo : w.heap.size ≤ gc ∧ w.heap.size ≤ gm ∧ w.heap.size ≤ w.heap.size ∧ w.heap.size ≤ gr ∧ w.heap.size ≤ gB ∧ w.heap.size ≤ w5.heap.size := by
    have h1 := HLT.out; have h2 := HSZ.out; have h3 := GR.out; have h4 := HGB.out; have h5 := HSZ2.out; have h6 := HSZ3.out; have h7 := HSZ5.out; omega
   have hlo : gt < w5.heap.size ∧ gc < w5.heap.size ∧ gm < w5.heap.size ∧ w.heap.size < w5.heap.size ∧ gr < w5.heap.size ∧ gB < w5.heap.size := by
    have h1 := HLT.out; have h2 := HOW.out.2.2; have h3 := blk_lt BX5.out; have h4 := blk_lt BR5.out; have h5 := HSZ3.out; have h6 := HSZ5.out; have h7 := blk_lt BB.out; omega
   have hSB : ∀ k, Sx gc gm gB w.heap.size (.slice none 0 0) k → w.heap.size ≤ k := by
    rintro k (e | e | e | e | e)
    ·omega
    ·omega
    ·omega
    ·omega
    ·simp [Value.ownBlock] at e
   have kqb : ∀ W', Kq (Sx gc gm gB w.heap.size (.slice none 0 0)) w6 W' → Below w.heap.size w W' := fun W' hk => HB6.out.trans ⟨hk.os, hk.tape, hk.output, hk.size, fun i hi => hk.block i (by have := HB6.out.size; omega) (fun h9 => by have := hSB i h9; omega)⟩
   have hgrB : gr ≠ gB := by have h1 := HBXR.out; have h2 := HSZ2.out; have h3 := HSZ3.out; have h4 := HGB.out; omega
   have e1 : stT l0_1 zv = l0_1 := stT_zero hw
   have e2 : stN l0_1 l0_2 zv = l0_2 := stN_zero hw
   have HL : Aside0 (Lq w gt gc gm (szP l0_1 l0_1.length) vp vn cc cm w.heap.size gr gB w5.heap.size l0_0 l0_1 l0_2 vz w6 zv (.slice none 0 0) [] A0_0 c0_0 A0_1 c0_1 A0_2 c0_2) := ⟨⟨⟨Cs3, Ms3, sq_typed HS5.out BB.out (by decide) (by decide) (by decide) HG6.out hgeo.2.2.2.2.1, HG3.out⟩, by rw [e1, e2]; exact blk_grown BX5.out HG6.out (fun e => blk_ne BX5.out BB.out (by decide) (by injection e)), blk_grown BR5.out HG6.out (fun e => hgrB (by injection e)), HW6.out, Kd.R_nil _ _ _ _ _, fun W' hk => Kd.C_below HR0.out (kqb W' hk), fun W' hk => by rw [e1]; exact Kd.C_below HR1.out (kqb W' hk), fun W' hk => by rw [e2]; exact Kd.C_below HR2.out (kqb W' hk), hc0_0, by rw [e1]; exact hc0_1, by rw [e2]; exact hc0_2, HG6.out.size, hlo, hgeo, hgrB, fun k hk => by have h1 := HOW.out.1 k hk; have h2 := HSZ3.out; have h3 := HSZ5.out; omega, fun k hk => by have h1 := HOW.out.2.1 k hk; have h2 := HSZ3.out; have h3 := HSZ5.out; omega⟩⟩
   clear hgeo hlo hSB kqb hgrB e1 e2 HB6 HB5 HS5 BX5 BR5 BB HG6 HW6 HOW HLT HG3 hr hw BX BR
   go_loopw [6] (fun x6 wr => ∃ (v : List Nat) (mv : Value) (xs : List Int) (A0 A1 A2 : Option Addr) (c0' c1' c2' : Nat), Aside0 (okV l0_1 v) ∧ Aside0 (0 ≤ V l0_0 l0_1 v) ∧ Aside0 (xs ++ (pthP l0_0 l0_1 v).map (fun i => l0_2.getD i 0) = r3) ∧ Aside0 (Lq w gt gc gm (szP l0_1 l0_1.length) vp vn cc cm w.heap.size gr gB w5.heap.size l0_0 l0_1 l0_2 vz wr v mv xs A0 c0' A1 c1' A2 c2')) (fun _ wr => 100 - lenA (wr.heap[gB]?))
   case atStart => exact ⟨zv, .slice none 0 0, [], A0_0, A0_1, A0_2, c0_0, c0_1, c0_2, ⟨okV_zero _⟩, ⟨by rw [HVZ.out]; omega⟩, ⟨by rw [List.nil_append]; exact HF3.out⟩, HL⟩
   case round =>
    clear HL HF3 HVZ
    obtain ⟨v, mv, xs, A0, A1, A2, c0', c1', c2', HV, HVP, HXS, HL⟩ := hrel
    generalize hwO : wr = wO at *
    clear hwO
    have hv5 := HV.out.1
    have hsl := stT_len l0_1 v
    have HIL := Aside0.mk hsl
    have hTl : (stT l0_1 v).length ≤ 5 := by rw [hsl]; exact Nat.le_trans (idx_len l0_1 v) ht1
    clear hsl
    have z1 : wO.cell? ⟨w.heap.size, 1, none⟩ = some (.slice A1 (stT l0_1 v).length c1') := (blk_cell HL.out.bxx 1).trans rfl
    obtain ⟨AV, cV, eV⟩ := Kd.R_slice HL.out.mr
    have HLEN : Aside0 (lenA (wO.heap[gB]?) = xs.length) := ⟨by rw [HL.out.gbb, eV]; rfl⟩
    have HXL := Aside0.mk (show xs.length ≤ 46 from by have h9 := congrArg List.length HXS.out; rw [List.length_append] at h9; have h8 := HR3L.out; omega)
    by_cases he : (stT l0_1 v).length = 0
    ·have d25 : decide (((stT l0_1 v).length : Int) > 0) = false := decide_eq_false (by omega)
     have hi0 : idx l0_1 v = [] := List.length_eq_zero_iff.1 (HIL.out.symm.trans he)
     have hh : hereP l0_1 v l0_1.length = false := by rw [hereP_idx, hi0]; rfl
     subst eV
     have b0 : wO.cell? ⟨gB, 0, none⟩ = some (.bool true) := (blk_cell HL.out.gbb 0).trans rfl
     have b1 : wO.cell? ⟨gB, 1, none⟩ = some (.int .i64 vz) := (blk_cell HL.out.gbb 1).trans rfl
     have b2 : wO.cell? ⟨gB, 2, none⟩ = some (.slice AV xs.length cV) := (blk_cell HL.out.gbb 2).trans rfl
     obtain ⟨CsV, MsV, hsV, _⟩ := HL.out.sq
     have HB4 := Aside0.mk hsV.low
     clear hsV hi0
     go_wp2_with (first
      | ((with_reducible refine gate_store (t := 41) (p := 2) rfl ?_); refine row_event rfl 41 (.tmp 2) (.tmp 64) rfl rfl gr rfl (c' := #[.bool true, .int .i64 vz, .slice AV xs.length cV]) rfl HL.out.brr info41 rfl (by simp [Value.oneCell']) ?_; intro w9 hw9 hg9; have BR9 := Aside0.mk hw9; have HB9 := Aside0.mk (HB4.out.grown hg9 HB4.out.size (fun k hk => by injection hk with hk; have := GR.out; omega)); have HM9 := Aside0.mk (Kd.R_grown HL.out.mr hg9 (fun k hk e => by injection e with e; have := HL.out.lt; omega)); clear hw9 hg9))
     refine bodyPost_ret (results_cell_row rfl _ _ gr 41 #[.bool true, .int .i64 vz, .slice AV xs.length cV] (0, 0) _ rfl BR9.out Try.underlying41 rfl (by kernel_rfl)) rfl ?_
     have hfin := HXS.out
     rw [pthP_none hh, List.map_nil, List.append_nil] at hfin
     exact ⟨_, rfl, by rw [← hfin]; exact Kd.R_mono HM9.out (fun _ _ => trivial), HB9.out⟩
    ·have d25 : decide (((stT l0_1 v).length : Int) > 0) = true := decide_eq_true (by omega)
     have hh : hereP l0_1 v l0_1.length = true := by
      rw [hereP_idx]
      cases hx : idx l0_1 v with
      | nil => exact absurd (HIL.out.trans (by rw [hx]; rfl)) he
      | cons a l => rfl
     clear eV
     have HNX := Aside0.mk (nxt_some (R := l0_0) (T := l0_1) (v := v) (by omega) hh HVP.out)
     have HPT := Aside0.mk (fun (i : Nat) (h : nxtP l0_0 l0_1 v = some i) => pthP_some (R := l0_0) (T := l0_1) (v := v) (by omega) hh h)
     have HFND := Aside0.mk (nxt_idx (R := l0_0) (T := l0_1) (v := v) (by omega) hh HVP.out)
     have HCAN := Aside0.mk (fun (k : Nat) (hk : k < (stT l0_1 v).length) => (show ∃ kk, spec_l1can.f kk l0_0 (stT l0_1 v) (stN l0_1 l0_2 v) (k : Int) = some (okP l0_0 l0_1 v ((idx l0_1 v).getD k 0)) from by
      have h9 := (l1can_tells (st_wf HWF.out (v := v)) k hk).rounds
      rw [can_st HWF.out (by rw [← stT_len]; exact hk)] at h9
      exact h9))
     have HSTEP := Aside0.mk (fun (k : Nat) (hk : k < (stT l0_1 v).length) => (show ∃ kk, spec_l1step.f kk l0_0 (stT l0_1 v) (stN l0_1 l0_2 v) (k : Int) = some (l0_0, stT l0_1 (inc v ((idx l0_1 v).getD k 0)), stN l0_1 l0_2 (inc v ((idx l0_1 v).getD k 0))) from by
      have h9 := (l1step_tells (st_wf HWF.out (v := v)) k hk).rounds
      rw [step_st HWF.out (by omega) (by rw [← stT_len]; exact hk)] at h9
      exact h9))
     have HWT := Aside0.mk (show ∃ kk, spec_l2weight.f kk l0_0 (stT l0_1 v) (stN l0_1 l0_2 v) = some (wtP l0_1 v l0_1.length) from by
      have h9 := (weight_tells (st_wf HWF.out (v := v))).rounds
      rw [wgt_st] at h9
      exact h9)
     have HJ := Aside0.mk (fun (k : Nat) (hk : k < (stT l0_1 v).length) (hok : okP l0_0 l0_1 v ((idx l0_1 v).getD k 0) = true) => (show okV l0_1 (inc v ((idx l0_1 v).getD k 0)) from by
      rw [stT_len] at hk
      have hmem : (idx l0_1 v).getD k 0 ∈ mvP l0_0 l0_1 v l0_1.length := by
       rw [mvP_idx]; exact List.mem_filter.2 ⟨getD_mem 0 hk, hok⟩
      exact okV_inc ht1 HV.out hmem))
     have hu26b := Try.underlying26
     go_wp2_with (fail)
     refine start_ (n := 7) (S := fun w' => w'.cell? ⟨w.heap.size, 0, none⟩ = some (.slice A0 l0_0.length c0') ∧ w'.cell? ⟨w.heap.size, 1, none⟩ = some (.slice A1 (stT l0_1 v).length c1') ∧ w'.cell? ⟨w.heap.size, 2, none⟩ = some (.slice A2 (stN l0_1 l0_2 v).length c2')) (ds := []) #[false, false, false, false, false, false, false] (by kernel_rfl) rfl rfl ⟨(blk_cell HL.out.bxx 0).trans rfl, (blk_cell HL.out.bxx 1).trans rfl, (blk_cell HL.out.bxx 2).trans rfl⟩ (fun hHeld => ?_)
     have HL_ := Aside0.mk (HL.out.below (below_drew (Below.refl _ _)))
     clear HL
     have HL := HL_
     clear HL_
     generalize wO.drew = wd at *
     refine pure_ (i := 0) (N := some 26) (v := ?_) (a' := ?_) #[true, false, false, false, false, false, false] rfl rfl (by kernel_rfl) (fun _ _ _ h => h) (Or.inl ⟨by rfl, ?_⟩) ?_ ?_
     rotate_left
     ·intro w'
      go_simp
      with_reducible rfl
     rotate_left
     ·simp only [Act.put, List.setIfInBounds_toArray, List.set_cons_zero, List.set_cons_succ, i64_w, i32_w]
      rfl
     refine take_ (i := 1) (N := some 27) (v := ?_) (a' := ?_) #[true, true, false, false, false, false, false] rfl rfl (by kernel_rfl) (fun _ _ _ h => h) (Or.inl ⟨by rfl, ?_⟩) hHeld ?_ ?_
     rotate_left
     ·rintro w' ⟨s0, s1, s2⟩
      go_simp
      with_reducible rfl
     rotate_left
     ·simp only [Act.put, List.setIfInBounds_toArray, List.set_cons_zero, List.set_cons_succ, i64_w, i32_w]
      rfl
     refine take_ (i := 3) (N := some 29) (v := ?_) (a' := ?_) #[true, true, false, true, false, false, false] rfl rfl (by kernel_rfl) (fun _ _ _ h => h) (Or.inl ⟨by rfl, ?_⟩) hHeld ?_ ?_
     rotate_left
     ·rintro w' ⟨s0, s1, s2⟩
      go_simp
      with_reducible rfl
     rotate_left
     ·simp only [Act.put, List.setIfInBounds_toArray, List.set_cons_zero, List.set_cons_succ, i64_w, i32_w]
      rfl
     refine one_ (i := 2) (N := some 28) #[true, true, true, true, false, false, false] rfl rfl (by kernel_rfl) (by decide) (fun K hK => ?_)
     refine goes_ Try.func70 (by kernel_rfl) rfl #[.pointer (some ⟨gt, 0, none⟩), .agg #[.slice A0 l0_0.length c0', .slice A1 (stT l0_1 v).length c1', .slice A2 (stN l0_1 l0_2 v).length c2']] (by rfl) rfl rfl (by (try simp only [List.map_toArray, List.map_cons, List.map_nil]); rfl) ?_
     obtain ⟨CsV, MsV, hsV, hgV⟩ := HL.out.sq
     refine (value_calls HRI.out rfl _ v _ CsV MsV HV.out rfl hsV hgV _ _ _ _ _ _ (HL.out.t0.stb (.inl rfl) (.inr (.inl rfl))) HL.out.k0 (HL.out.t1.stb (.inl rfl) (.inr (.inl rfl))) HL.out.k1 (HL.out.t2.stb (.inl rfl) (.inr (.inl rfl))) HL.out.k2).mono ?_
     rintro e wv ⟨rfl, hkv, hqv⟩
     refine ⟨_, rfl, ?_⟩
     have HL_ := Aside0.mk (HL.out.val hkv hqv)
     clear HL
     have HL := HL_
     clear HL_
     clear hsV hgV hkv hqv
     refine hK.out _ _ ⟨(blk_cell HL.out.bxx 0).trans rfl, (blk_cell HL.out.bxx 1).trans rfl, (blk_cell HL.out.bxx 2).trans rfl⟩ (fun hHeld => ?_)
     clear hK K
     refine norm_ (a' := ?_) ?_ ?_
     rotate_left
     ·show Act.put _ (some 28) _ = _
      simp only [Act.put, List.setIfInBounds_toArray, List.set_cons_zero, List.set_cons_succ, i64_w, i32_w]
      rfl
     refine one_ (i := 4) (N := some 30) #[true, true, true, true, true, false, false] rfl rfl (by kernel_rfl) (by decide) (fun K hK => ?_)
     refine goes_ Try.func71 (by kernel_rfl) rfl #[.agg #[.slice A0 l0_0.length c0', .slice A1 (stT l0_1 v).length c1', .slice A2 (stN l0_1 l0_2 v).length c2']] (by rfl) rfl rfl (by (try simp only [List.map_toArray, List.map_cons, List.map_nil]); rfl) ?_
     obtain ⟨kw, hkw⟩ := HWT.out
     refine (spec_l2weight.calls kw _ _ l0_0 _ _ (stT l0_1 v) _ _ (stN l0_1 l0_2 v) _ _ (HL.out.t0).now HL.out.k0 (HL.out.t1).now HL.out.k1 (HL.out.t2).now HL.out.k2 hkw).mono ?_
     rintro e wv ⟨rfl, hbv⟩
     refine ⟨_, rfl, ?_⟩
     have HL_ := Aside0.mk (HL.out.below hbv)
     clear HL
     have HL := HL_
     clear HL_
     clear hbv hkw
     refine hK.out _ _ ⟨(blk_cell HL.out.bxx 0).trans rfl, (blk_cell HL.out.bxx 1).trans rfl, (blk_cell HL.out.bxx 2).trans rfl⟩ (fun hHeld => ?_)
     clear hK K
     refine norm_ (a' := ?_) ?_ ?_
     rotate_left
     ·show Act.put _ (some 30) _ = _
      simp only [Act.put, List.setIfInBounds_toArray, List.set_cons_zero, List.set_cons_succ, i64_w, i32_w]
      rfl
     have HVX := Aside0.mk (V_small (R := l0_0) (T := l0_1) (N := l0_2) HWF.out (v := v) (by omega))
     have hvr := HVX.out
     have hwr := wtP_range HWF.out v l0_1.length (Nat.le_refl _)
     generalize hvv : V l0_0 l0_1 v = vv at *
     generalize hwt : wtP l0_1 v l0_1.length = wt at *
     have HVV := Aside0.mk hvv
     have HWTT := Aside0.mk hwt
     clear hvv hwt
     have ew : wrap64 (vv - wt) = vv - wt := w64 (by omega) (by omega)
     refine pure_ (i := 5) (N := some 31) (v := ?_) (a' := ?_) #[true, true, true, true, true, true, false] rfl rfl (by kernel_rfl) (fun _ _ _ h => h) (Or.inl ⟨by rfl, ?_⟩) ?_ ?_
     rotate_left
     ·intro w'
      go_simp
      with_reducible rfl
     rotate_left
     ·simp only [Act.put, List.setIfInBounds_toArray, List.set_cons_zero, List.set_cons_succ, i64_w, i32_w]
      rfl
     refine pure_ (i := 6) (N := some 6) (v := ?_) (a' := ?_) #[true, true, true, true, true, true, true] rfl rfl (by kernel_rfl) (fun _ _ _ h => h) (Or.inl ⟨by rfl, ?_⟩) ?_ ?_
     rotate_left
     ·intro w'
      go_simp
      with_reducible rfl
     rotate_left
     ·simp only [Act.put, List.setIfInBounds_toArray, List.set_cons_zero, List.set_cons_succ, i64_w, i32_w]
      rfl
     refine done_ (by kernel_rfl) ?_
     rw [ew]
     have d25c : decide (0 < (stT l0_1 v).length) = true := decide_eq_true (by omega)
     try rw [d25c]
     clear ew
     have z1b : wv.cell? ⟨w.heap.size, 1, none⟩ = some (.slice A1 (stT l0_1 v).length c1') := (blk_cell HL.out.bxx 1).trans rfl
     go_wp2_with (fail)
     go_loopw [35] (fun x35 wr => ∃ k : Nat, k ≤ (stT l0_1 v).length ∧ x35 = .int .i64 k ∧ Aside0 ((idx l0_1 v).find? (goodQ l0_0 l0_1 v) = ((idx l0_1 v).drop k).find? (goodQ l0_0 l0_1 v)) ∧ Aside0 (Lq w gt gc gm (szP l0_1 l0_1.length) vp vn cc cm w.heap.size gr gB w5.heap.size l0_0 l0_1 l0_2 vz wr v mv xs A0 c0' A1 c1' A2 c2')) (fun x35 _ => (stT l0_1 v).length - (intOf x35).toNat)
     case atStart => exact ⟨0, Nat.zero_le _, rfl, ⟨rfl⟩, HL⟩
     case round =>
      clear HL z1 z1b
      obtain ⟨k, hk, rfl, HFD, HL⟩ := hrel
      by_cases hlt : k < (stT l0_1 v).length
      ·have d36 : decide ((k : Int) < ((stT l0_1 v).length : Int)) = true := decide_eq_true (by omega)
       have p5 : (0 : Int) ≤ (k : Int) := by omega
       have q5 : (k : Int) < ((stT l0_1 v).length : Int) := by omega
       obtain ⟨kc, hkc⟩ := HCAN.out k hlt
       have HKC := Aside0.mk hkc
       have HFT := Aside0.mk (find_take (goodQ l0_0 l0_1 v) (idx l0_1 v) 0 (by rw [← HIL.out]; exact hlt) HFD.out)
       have HJI := Aside0.mk (HJ.out k hlt)
       have HGQ : Aside0 (goodQ l0_0 l0_1 v ((idx l0_1 v).getD k 0) = (okP l0_0 l0_1 v ((idx l0_1 v).getD k 0) && decide (V l0_0 l0_1 (inc v ((idx l0_1 v).getD k 0)) = vv - wt))) := ⟨by unfold goodQ; rw [HVV.out, HWTT.out]⟩
       have HIM := Aside0.mk ((idx_mem (T := l0_1) (v := v)).1 (getD_mem 0 (show k < (idx l0_1 v).length by rw [← HIL.out]; exact hlt)))
       have HNMK := Aside0.mk (show (stN l0_1 l0_2 v).getD k 0 = l0_2.getD ((idx l0_1 v).getD k 0) 0 from mapD _ _ (by rw [← HIL.out]; exact hlt) 0 _)
       obtain ⟨ks, hks⟩ := HSTEP.out k hlt
       have HKS := Aside0.mk hks
       clear hkc hks
       generalize (idx l0_1 v).getD k 0 = j at *
       generalize hok : okP l0_0 l0_1 v j = ok at HKC HGQ HJI
       clear hok
       have z0 : wr.cell? ⟨w.heap.size, 0, none⟩ = some (.slice A0 l0_0.length c0') := (blk_cell HL.out.bxx 0).trans rfl
       have z1 : wr.cell? ⟨w.heap.size, 1, none⟩ = some (.slice A1 (stT l0_1 v).length c1') := (blk_cell HL.out.bxx 1).trans rfl
       have z2 : wr.cell? ⟨w.heap.size, 2, none⟩ = some (.slice A2 (stN l0_1 l0_2 v).length c2') := (blk_cell HL.out.bxx 2).trans rfl
       go_wp2_with (fail)
       refine (spec_l1can.calls kc _ _ l0_0 _ _ (stT l0_1 v) _ _ (stN l0_1 l0_2 v) (k : Int) ok wr (HL.out.t0).now HL.out.k0 (HL.out.t1).now HL.out.k1 (HL.out.t2).now HL.out.k2 HKC.out).mono ?_
       rintro e w9 ⟨rfl, hb⟩
       have HL_ := Aside0.mk (HL.out.below hb)
       clear HL
       have HL := HL_
       clear HL_
       clear hb z0 z1 z2 HKC
       cases ok
       ·have HFD2 : Aside0 ((idx l0_1 v).find? (goodQ l0_0 l0_1 v) = ((idx l0_1 v).drop (k + 1)).find? (goodQ l0_0 l0_1 v)) := ⟨by rw [HFT.out, if_neg (by rw [HGQ.out]; simp)]⟩
        go_wp2_with (fail)
        go_roundw
        case measure => simp [intOf]; omega
        case rel => exact ⟨k + 1, hlt, by go_num, HFD2, HL⟩
       ·have HJ2 := Aside0.mk (HJI.out rfl)
        have z0 : w9.cell? ⟨w.heap.size, 0, none⟩ = some (.slice A0 l0_0.length c0') := (blk_cell HL.out.bxx 0).trans rfl
        have z1 : w9.cell? ⟨w.heap.size, 1, none⟩ = some (.slice A1 (stT l0_1 v).length c1') := (blk_cell HL.out.bxx 1).trans rfl
        have z2 : w9.cell? ⟨w.heap.size, 2, none⟩ = some (.slice A2 (stN l0_1 l0_2 v).length c2') := (blk_cell HL.out.bxx 2).trans rfl
        go_wp2_with (fail)
        refine (spec_l1step.calls ks _ _ l0_0 _ _ (stT l0_1 v) _ _ (stN l0_1 l0_2 v) (k : Int) l0_0 (stT l0_1 (inc v j)) (stN l0_1 l0_2 (inc v j)) w9 (HL.out.t0).now HL.out.k0 (HL.out.t1).now HL.out.k1 (HL.out.t2).now HL.out.k2 HKS.out).mono ?_
        rintro e w10 ⟨u0, u1, u2, rfl, q0, q1, q2, hb⟩
        obtain ⟨B0, b0, eb0⟩ := Kd.R_slice q0
        obtain ⟨B1, b1, eb1⟩ := Kd.N_slice q1
        obtain ⟨B2, b2, eb2⟩ := Kd.R_slice q2
        subst eb0 eb1 eb2
        have HL3 := Aside0.mk (show gc < w9.heap.size ∧ gm < w9.heap.size from by have h9 := HL.out.lt; have h8 := HL.out.sz; omega)
        have T0 := Aside0.mk (Stb.of_R (gc := gc) (gm := gm) q0 (fun k hk => by have h9 := HL3.out; have h8 := hk.1; omega))
        have T1 := Aside0.mk (Stb.of_N (gc := gc) (gm := gm) q1 (fun k hk => by have h9 := HL3.out; have h8 := hk.1; omega))
        have T2 := Aside0.mk (Stb.of_R (gc := gc) (gm := gm) q2 (fun k hk => by have h9 := HL3.out; have h8 := hk.1; omega))
        have T3 := Aside0.mk (And.intro (Kd.R_reads' q0).2.1 (And.intro (Kd.N_reads' q1).2.1 (Kd.R_reads' q2).2.1))
        have HL_ := Aside0.mk (HL.out.below hb)
        clear HL
        have HL := HL_
        clear HL_
        clear q0 q1 q2 hb z0 z1 z2 HL3
        go_wp2_with (fail)
        obtain ⟨CsV, MsV, hsV, hgV⟩ := HL.out.sq
        refine (value_calls HRI.out rfl _ (inc v j) w10 CsV MsV HJ2.out rfl hsV hgV _ _ _ _ _ _ T0.out T3.out.1 T1.out T3.out.2.1 T2.out T3.out.2.2).mono ?_
        rintro e wq ⟨rfl, hkv, hqv⟩
        have HL_ := Aside0.mk (HL.out.val hkv hqv)
        clear HL
        have HL := HL_
        clear HL_
        clear hsV hgV hkv hqv T0 T1 T2 T3
        generalize hmm : V l0_0 l0_1 (inc v j) = mm at *
        have HMV := Aside0.mk hmm
        clear hmm
        by_cases m1 : mm = vv - wt
        ·have d48 : (mm == vv - wt) = true := beq_iff_eq.mpr m1
         have HNXT := Aside0.mk (show nxtP l0_0 l0_1 v = some j from by rw [HFND.out, HFT.out, if_pos (by rw [HGQ.out]; simp [m1])])
         have HVN := Aside0.mk (show 0 ≤ V l0_0 l0_1 (inc v j) from by have h9 := (nxt_mem HNXT.out).2; unfold goodP at h9; exact (of_decide_eq_true h9).1)
         have q8 : (k : Int) < ((stN l0_1 l0_2 v).length : Int) := by have h9 := stN_len l0_1 l0_2 v; have h8 := HIL.out; omega
         obtain ⟨adN, eN, n1⟩ := Kd.at_int HL.out.t2.now (k : Int) p5 q8
         have HNM0 := Aside0.mk (fun (W' : World) (hg : wq.grownBy W' mv.ownBlock) => Kd.at_int (HL.out.t2 W' (Kq.of_grown hg (fun k hk => .inr (.inr (.inr (.inr hk)))))) (k : Int) p5 q8)
         subst eN
         rw [Int.toNat_natCast] at n1
         have e1 : rd (stN l0_1 l0_2 v) (k : Int) = l0_2.getD j 0 := (rd_I _ k).trans HNMK.out
         rw [e1] at n1
         have HNM : Aside0 (∀ W', wq.grownBy W' mv.ownBlock → W'.cell? (adN.add k) = some (.int .i64 (l0_2.getD j 0))) := ⟨fun W' hg => by
          obtain ⟨ad9, e9, h9⟩ := HNM0.out W' hg
          injection e9 with e9
          subst e9
          rw [Int.toNat_natCast, e1] at h9
          exact h9⟩
         have HXS2 : Aside0 ((xs ++ [l0_2.getD j 0]) ++ (pthP l0_0 l0_1 (inc v j)).map (fun i => l0_2.getD i 0) = r3) := ⟨by have h9 := HXS.out; rw [HPT.out j HNXT.out, List.map_cons] at h9; rw [List.append_assoc]; exact h9⟩
         clear e1 HNM0 HNMK
         generalize l0_2.getD j 0 = nm at n1 HNM HXS2
         go_wp2_with (fail)
         refine start_ (n := 11) (S := fun w' => w'.cell? ⟨gB, 2, none⟩ = some mv ∧ w'.cell? ⟨w.heap.size, 2, none⟩ = some (.slice (some adN) (stN l0_1 l0_2 v).length c2') ∧ w'.cell? (adN.add k) = some (.int .i64 nm)) (ds := [10]) #[false, false, false, false, false, false, false, false, false, false, false] (by kernel_rfl) rfl rfl ⟨(blk_cell HL.out.gbb 2).trans rfl, (blk_cell HL.out.bxx 2).trans rfl, n1⟩ (fun hHeld => ?_)
         have HNMd : Aside0 (∀ W', wq.drew.grownBy W' mv.ownBlock → W'.cell? (adN.add k) = some (.int .i64 nm)) := ⟨fun W' hg => HNM.out W' ⟨hg.os, hg.tape, hg.output, hg.size, hg.block⟩⟩
         have n2 : wq.drew.cell? (adN.add k) = some (.int .i64 nm) := n1
         clear HNM
         clear n1
         have HL_ := Aside0.mk (HL.out.below (below_drew (Below.refl _ _)))
         clear HL
         have HL := HL_
         clear HL_
         generalize wq.drew = wd at *
         refine pure_ (i := 0) (N := some 50) (v := ?_) (a' := ?_) #[true, false, false, false, false, false, false, false, false, false, false] rfl rfl (by kernel_rfl) (fun _ _ _ h => h) (Or.inl ⟨by rfl, ?_⟩) ?_ ?_
         rotate_left
         ·intro w'
          go_simp
          with_reducible rfl
         rotate_left
         ·simp only [Act.put, List.setIfInBounds_toArray, List.set_cons_zero, List.set_cons_succ, i64_w, i32_w]
          rfl
         refine pure_ (i := 2) (N := some 52) (v := ?_) (a' := ?_) #[true, false, true, false, false, false, false, false, false, false, false] rfl rfl (by kernel_rfl) (fun _ _ _ h => h) (Or.inl ⟨by rfl, ?_⟩) ?_ ?_
         rotate_left
         ·intro w'
          go_simp
          with_reducible rfl
         rotate_left
         ·simp only [Act.put, List.setIfInBounds_toArray, List.set_cons_zero, List.set_cons_succ, i64_w, i32_w]
          rfl
         refine pure_ (i := 4) (N := some 54) (v := ?_) (a' := ?_) #[true, false, true, false, true, false, false, false, false, false, false] rfl rfl (by kernel_rfl) (fun _ _ _ h => h) (Or.inl ⟨by rfl, ?_⟩) ?_ ?_
         rotate_left
         ·intro w'
          go_simp
          with_reducible rfl
         rotate_left
         ·simp only [Act.put, List.setIfInBounds_toArray, List.set_cons_zero, List.set_cons_succ, i64_w, i32_w]
          rfl
         refine take_ (i := 1) (N := some 51) (v := ?_) (a' := ?_) #[true, true, true, false, true, false, false, false, false, false, false] rfl rfl (by kernel_rfl) (fun _ _ _ h => h) (Or.inl ⟨by rfl, ?_⟩) hHeld ?_ ?_
         rotate_left
         ·rintro w' ⟨s0, s1, s2⟩
          go_simp
          with_reducible rfl
         rotate_left
         ·simp only [Act.put, List.setIfInBounds_toArray, List.set_cons_zero, List.set_cons_succ, i64_w, i32_w]
          rfl
         refine take_ (i := 3) (N := some 53) (v := ?_) (a' := ?_) #[true, true, true, true, true, false, false, false, false, false, false] rfl rfl (by kernel_rfl) (fun _ _ _ h => h) (Or.inl ⟨by rfl, ?_⟩) hHeld ?_ ?_
         rotate_left
         ·rintro w' ⟨s0, s1, s2⟩
          go_simp
          with_reducible rfl
         rotate_left
         ·simp only [Act.put, List.setIfInBounds_toArray, List.set_cons_zero, List.set_cons_succ, i64_w, i32_w]
          rfl
         refine pure_ (i := 5) (N := some 55) (v := ?_) (a' := ?_) #[true, true, true, true, true, true, false, false, false, false, false] rfl rfl (by kernel_rfl) (fun _ _ _ h => h) (Or.inl ⟨by rfl, ?_⟩) ?_ ?_
         rotate_left
         ·intro w'
          go_simp
          with_reducible rfl
         rotate_left
         ·simp only [Act.put, List.setIfInBounds_toArray, List.set_cons_zero, List.set_cons_succ, i64_w, i32_w]
          rfl
         refine take_ (i := 6) (N := some 56) (v := ?_) (a' := ?_) #[true, true, true, true, true, true, true, false, false, false, false] rfl rfl (by kernel_rfl) (fun _ _ _ h => h) (Or.inl ⟨by rfl, ?_⟩) hHeld ?_ ?_
         rotate_left
         ·rintro w' ⟨s0, s1, s2⟩
          go_simp
          with_reducible rfl
         rotate_left
         ·simp only [Act.put, List.setIfInBounds_toArray, List.set_cons_zero, List.set_cons_succ, i64_w, i32_w]
          rfl
         refine one_ (i := 7) (N := some 57) #[true, true, true, true, true, true, true, true, false, false, false] rfl rfl (by kernel_rfl) (by decide) (fun K hK => ?_)
         refine value_ (w1 := ?_) (v := ?_) (by rfl) rfl ?_ ?_
         rotate_left 2
         ·go_simp
          constructor
          ·rfl
          ·rfl
         refine hK.out _ _ ⟨(blk_cell (blk_alloc HL.out.gbb _) 2).trans rfl, (blk_cell (blk_alloc HL.out.bxx _) 2).trans rfl, ((below_alloc (Below.refl _ _) _).cell (World.block_lt_of_cell? wd _ n2)).trans n2⟩ (fun hHeld => ?_)
         clear hK K
         refine norm_ (a' := ?_) ?_ ?_
         rotate_left
         ·show Act.put _ (some 57) _ = _
          simp only [Act.put, List.setIfInBounds_toArray, List.set_cons_zero, List.set_cons_succ, i64_w, i32_w]
          rfl
         refine one_ (i := 8) (N := some 58) #[true, true, true, true, true, true, true, true, true, false, false] rfl rfl (by kernel_rfl) (by decide) (fun K hK => ?_)
         refine Kd.R_append_step (Kd.int .i64) (w0 := wd) w.heap.size (by rfl) (.tmp 51) (.tmp 57) 23 3 (.int .i64 0) 8 rfl Try.underlying23 info3 rfl (by decide) (by omega) mv xs nm [.int .i64 nm] (fun k => w5.heap.size ≤ k) (fun _ => False) rfl rfl ?aP (fun _ hk => hk.elim) ?aF HL.out.mr (Below.refl _ _) (Nat.le_trans HL.out.ge.2.2.2.2.2 HL.out.sz) ?aL ?_
         (case aP => exact rfl)
         (case aF => exact (fun k hk => Nat.le_trans HL.out.sz hk))
         (case aL => have := HXL.out; omega)
         intro mv1 w9 ho hb hg hat
         have HAP := Aside0.mk (Lq.app HL.out hg hat ho)
         have GB9 := Aside0.mk (blk_grown HL.out.gbb hg (fun e => by have h9 := HL.out.mr.1 _ e.symm; have h8 := HL.out.lt; omega))
         have BX9 := Aside0.mk (blk_grown HL.out.bxx hg (fun e => by have h9 := HL.out.mr.1 _ e.symm; have h8 := HL.out.lt; omega))
         have n3 : w9.cell? (adN.add k) = some (.int .i64 nm) := HNMd.out w9 hg
         have HMR := Aside0.mk ho
         clear HL ho hb hg hat n2
         refine hK.out _ _ ⟨(blk_cell GB9.out 2).trans rfl, (blk_cell BX9.out 2).trans rfl, n3⟩ (fun hHeld => ?_)
         clear hK K
         refine norm_ (a' := ?_) ?_ ?_
         rotate_left
         ·show Act.put _ (some 58) _ = _
          simp only [Act.put, List.setIfInBounds_toArray, List.set_cons_zero, List.set_cons_succ, i64_w, i32_w]
          rfl
         refine pure_ (i := 9) (N := some 59) (v := ?_) (a' := ?_) #[true, true, true, true, true, true, true, true, true, true, false] rfl rfl (by kernel_rfl) (fun _ _ _ h => h) (Or.inl ⟨by rfl, ?_⟩) ?_ ?_
         rotate_left
         ·intro w'
          go_simp
          with_reducible rfl
         rotate_left
         ·simp only [Act.put, List.setIfInBounds_toArray, List.set_cons_zero, List.set_cons_succ, i64_w, i32_w]
          rfl
         refine last_ (i := 10) (N := none) #[true, true, true, true, true, true, true, true, true, true, true] rfl rfl (by kernel_rfl) (by decide) (fun K hK => ?_)
         obtain ⟨AV1, cV1, ev1⟩ := Kd.R_slice HMR.out
         subst ev1
         have hs13 : w9.cell? ⟨gB, 2, none⟩ = some mv := (blk_cell GB9.out 2).trans rfl
         have hfs13 := blk_frozen GB9.out 2
         refine skip_ (w1 := w9.setCell ⟨gB, 2, none⟩ (.slice AV1 (xs ++ [nm]).length cV1)) (by rfl) rfl ?_ ?_
         ·go_simp
         refine hK.out _ _ ?_
         clear hK K
         refine done_ (by kernel_rfl) ?_
         clear hs13 hfs13 n3 GB9 BX9 HMR
         generalize w9.setCell ⟨gB, 2, none⟩ (.slice AV1 (xs ++ [nm]).length cV1) = wA at *
         have HL := HAP
         clear HAP
         have z0 : wA.cell? ⟨w.heap.size, 0, none⟩ = some (.slice A0 l0_0.length c0') := (blk_cell HL.out.bxx 0).trans rfl
         have z1 : wA.cell? ⟨w.heap.size, 1, none⟩ = some (.slice A1 (stT l0_1 v).length c1') := (blk_cell HL.out.bxx 1).trans rfl
         have z2 : wA.cell? ⟨w.heap.size, 2, none⟩ = some (.slice (some adN) (stN l0_1 l0_2 v).length c2') := (blk_cell HL.out.bxx 2).trans rfl
         go_wp2_with (fail)
         refine (spec_l1step.calls ks _ _ l0_0 _ _ (stT l0_1 v) _ _ (stN l0_1 l0_2 v) (k : Int) l0_0 (stT l0_1 (inc v j)) (stN l0_1 l0_2 (inc v j)) wA (HL.out.t0).now HL.out.k0 (HL.out.t1).now HL.out.k1 (HL.out.t2).now HL.out.k2 HKS.out).mono ?_
         rintro e wB ⟨u0, u1, u2, rfl, q0, q1, q2, hb⟩
         obtain ⟨D0, d0, ed0⟩ := Kd.R_slice q0
         obtain ⟨D1, d1, ed1⟩ := Kd.N_slice q1
         obtain ⟨D2, d2, ed2⟩ := Kd.R_slice q2
         subst ed0 ed1 ed2
         have T0 := Aside0.mk (Sta.of_R (S := Sx gc gm gB w.heap.size (.slice AV1 (xs ++ [nm]).length cV1)) q0 (fun k hk _ => HL.out.fresh hk.1))
         have T1 := Aside0.mk (Sta.of_N (S := Sx gc gm gB w.heap.size (.slice AV1 (xs ++ [nm]).length cV1)) q1 (fun k hk _ => HL.out.fresh hk.1))
         have T2 := Aside0.mk (Sta.of_R (S := Sx gc gm gB w.heap.size (.slice AV1 (xs ++ [nm]).length cV1)) q2 (fun k hk _ => HL.out.fresh hk.1))
         have T3 := Aside0.mk (And.intro (Kd.R_reads' q0).2.1 (And.intro (Kd.N_reads' q1).2.1 (Kd.R_reads' q2).2.1))
         have HL_ := Aside0.mk (HL.out.below hb)
         clear HL
         have HL := HL_
         clear HL_
         clear q0 q1 q2 hb z0 z1 z2
         go_wp2_with (first
          | ((with_reducible refine gate_store (t := 26) (p := 1) rfl ?_); (try simp only [Act.put, List.setIfInBounds_toArray, List.set_cons_zero, List.set_cons_succ]); refine row_event rfl 26 (.tmp 1) (.tmp 62) rfl rfl w.heap.size rfl (c' := #[.slice D0 l0_0.length d0, .slice D1 (stT l0_1 (inc v j)).length d1, .slice D2 (stN l0_1 l0_2 (inc v j)).length d2]) rfl HL.out.bxx info26 rfl (by simp [Value.oneCell']) ?_; intro wE hwE hgE; have HLE := Aside0.mk (HL.out.sta hgE hwE T0.out T1.out T2.out T3.out.1 T3.out.2.1 T3.out.2.2); clear hwE hgE))
         have hsE : lenA (wE.heap[gB]?) = xs.length + 1 := by rw [HLE.out.gbb]; show (xs ++ [nm]).length = _; simp
         go_roundw
         case measure => have := HXL.out; rw [HLEN.out, hsE]; omega
         case rel => exact ⟨inc v j, _, xs ++ [nm], _, _, _, _, _, _, ⟨HJ2.out⟩, ⟨HVN.out⟩, HXS2, HLE⟩
        ·have d48 : (mm == vv - wt) = false := beq_eq_false_iff_ne.mpr m1
         have HFD2 : Aside0 ((idx l0_1 v).find? (goodQ l0_0 l0_1 v) = ((idx l0_1 v).drop (k + 1)).find? (goodQ l0_0 l0_1 v)) := ⟨by rw [HFT.out, if_neg (by rw [HGQ.out]; simp [m1])]⟩
         go_wp2_with (fail)
         go_roundw
         case measure => simp [intOf]; omega
         case rel => exact ⟨k + 1, hlt, by go_num, HFD2, HL⟩
      ·exfalso
       obtain ⟨i, hi⟩ := HNX.out
       rw [HFND.out, HFD.out, List.drop_eq_nil_of_le (by rw [← HIL.out]; omega)] at hi
       exact absurd hi (by simp)
 ·have c1 : (t == 0) = false := beq_eq_false_iff_ne.mpr c0
  have c2 : (t != 0) = true := by simp [bne, c1]
  have hrr := HRR.out
  rw [if_neg c0] at hrr
  have HRD := Aside0.mk hrr
  clear HRR hrr
  go_wp2_with (first
   | ((with_reducible refine gate_store (t := 41) (p := 2) rfl ?_); refine row_event rfl 41 (.tmp 2) (.tmp 11) rfl rfl gr rfl (c' := #[.bool false, .int .i64 0, .slice none 0 0]) rfl BR.out info41 rfl (by simp [Value.oneCell']) ?_; intro w9 hw9 hg9; have BR9 := Aside0.mk hw9; have HB9 := Aside0.mk (HB.out.grown hg9 HB.out.size (fun k hk => by injection hk with hk; have := GR.out; omega)); clear hw9 hg9))
  refine bodyPost_ret (results_cell_row rfl _ _ gr 41 #[.bool false, .int .i64 0, .slice none 0 0] (0, 0) _ rfl BR9.out Try.underlying41 rfl (by kernel_rfl)) rfl ?_
  have hfin := HRD.out
  injection hfin with f1 hfin
  injection hfin with f2 f3
  subst f1 f2 f3
  exact ⟨_, rfl, Kd.R_nil _ _ _ _ _, HB9.out⟩
theorem specSolve_tells {R : List Int} {T : List S35} {N : List Int} (hR : R.length ≤ 1048576) (hT : T.length ≤ 1048576) (hN : N.length ≤ 1048576) : Ev (fun k => spec_Solve.f k R T N) (solveD R T N) := by
 refine Ev.bind' (specStateOk_tells R T N hR hT hN) (Ev.all fun k => ?_)
 rw [if_pos rfl]
 rfl
end Go.Proofs.Ytpbclogjoangfaa.So
