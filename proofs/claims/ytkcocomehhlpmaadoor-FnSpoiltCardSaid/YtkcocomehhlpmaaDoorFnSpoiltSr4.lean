/- The search of the program: who can move at a position. Walked by hand. -/
import Derived.Test.YtkcocomehhlpmaaDoorFnSpoiltSr1
import Derived.Test.YtkcocomehhlpmaaDoorFnSpoiltSr3
import Derived.BigQuiet
namespace Go.Proofs.YtkcocomehhlpmaaDoor.Sr
open Go.RowKit Go.Proofs.YtkcocomehhlpmaaDoorW.PrintWords Go.Proofs.YtkcocomehhlpmaaDoorW.PrintLast Go.Proofs.YtkcocomehhlpmaaDoorW.PrintMore Go.Proofs.YtkcocomehhlpmaaDoor.Q Go.Proofs.YtkcocomehhlpmaaDoor.Pu
attribute [local go_sem] max2_int min2_int max_two min_two max_three min_three max_four min_four
set_option linter.unusedVariables false
set_option linter.unusedSimpArgs false
def arrV (v : List Nat) : Array Value := (v.map (fun (x : Nat) => Value.int .i64 (x : Int))).toArray
theorem arrV_get (v : List Nat) {i : Nat} (hi : i < v.length) : (arrV v)[i]? = some (.int .i64 ((v.getD i 0 : Nat) : Int)) := by simp [arrV, List.getD, hi]
theorem Sr.below {W W2 : World} {gs : Nat} {A0 : Option Addr} {c0 : Nat} {l0 : List Int} {A1 : Option Addr} {c1 : Nat} {l1 : List S48} {A2 : Option Addr} {c2 : Nat} {l2 : List Int} {b : Nat} (h : Sr W gs A0 c0 l0 A1 c1 l1 A2 c2 l2 b) (hb : Below W.heap.size W W2) : Sr W2 gs A0 c0 l0 A1 c1 l1 A2 c2 l2 b :=
 ⟨blk_below h.blk hb, Kd.C_below h.r0 hb, h.h0, Kd.C_below h.r1 hb, h.h1, Kd.C_below h.r2 hb, h.h2⟩
theorem at_callsI (W : World) {gs : Nat} {A0 : Option Addr} {c0 : Nat} {l0 : List Int} {A1 : Option Addr} {c1 : Nat} {l1 : List S48} {A2 : Option Addr} {c2 : Nat} {l2 : List Int} {b : Nat} (h : Sr W gs A0 c0 l0 A1 c1 l1 A2 c2 l2 b)
  (i far : Int) (far' : Nat) (hi0 : 0 ≤ i) (hi : i.toNat < l1.length) (hf0 : far = (far' : Int)) (hf : far' ≤ 1000) (hp : (l1.getD i.toNat z48).f1.length ≤ 1000) :
  Calls Tryd.prog 41 #[.pointer (some ⟨gs, 0, none⟩), .int .i64 i, .int .i64 far] W fun e W' => e = .returned (.int .i64 (atD (l1.getD i.toNat z48) far')) ∧ Below W.heap.size W W' := by
 obtain ⟨n, rfl⟩ := Int.eq_ofNat_of_zero_le hi0
 subst hf0
 rw [Int.toNat_natCast] at hi hp ⊢
 exact at_calls W h n far' hi hf hp
theorem okP_out {R : List Int} {T : List S48} {v : List Nat} {i : Nat} (h : atP T v i < 0) : okP R T v i = false := by
 simp [okP]; omega
theorem okP_leave {R : List Int} {T : List S48} {v : List Nat} {i : Nat} (h : 0 ≤ atP T v i) (h1 : toP T v i < 0) : okP R T v i = true := by
 simp [okP, h, h1]
theorem okP_room {R : List Int} {T : List S48} {v : List Nat} {i : Nat} (h : 0 ≤ atP T v i) (h1 : ¬ toP T v i < 0) : okP R T v i = decide ((thP T v (toP T v i) T.length : Int) < R.getD (toP T v i).toNat 0) := by
 simp [okP, h, h1]
set_option maxHeartbeats 1000000 in
set_option maxRecDepth 100000 in
theorem moves_calls (W : World) {gs : Nat} {A0 : Option Addr} {c0 : Nat} {l0 : List Int} {A1 : Option Addr} {c1 : Nat} {l1 : List S48} {A2 : Option Addr} {c2 : Nat} {l2 : List Int} {b : Nat} (h : Sr W gs A0 c0 l0 A1 c1 l1 A2 c2 l2 b)
  (hw : Wf l0 l1 l2) (v : List Nat) (hv : v.length = 5) (hvb : ∀ x ∈ v, x ≤ 100) :
  Calls Tryd.prog 42 #[.pointer (some ⟨gs, 0, none⟩), .agg (arrV v)] W fun e W' => ∃ v0 : Value, e = .returned v0 ∧ Kd.R (Kd.int .i64) 3 W' W.heap.size (fun k => W.heap.size ≤ k) v0 ((mvP l0 l1 v l1.length).map (fun (i : Nat) => (i : Int))) ∧ Below W.heap.size W W' := by
 have HS := Aside0.mk h
 have HW := Aside0.mk hw
 have x0 : W.cell? ⟨gs, 0, none⟩ = some (.slice A0 l0.length c0) := (blk_cell h.blk 0).trans rfl
 have x1 : W.cell? ⟨gs, 1, none⟩ = some (.slice A1 l1.length c1) := (blk_cell h.blk 1).trans rfl
 have hr1 := hw.r1
 have ht1 := hw.t1
 clear h hw
 go_enter Tryd.func42, Tryd.ntmps42
 have pn : (0 : Int) ≤ (l0.length : Int) := by omega
 go_wp2_with (first | ((with_reducible refine gate_dst (N := 3) rfl ?_); refine box_event ?hg (N := 3) ?hd (cs := arrV v) (t := 75) ?hr ?_; (case hd => rfl); (case hg => rfl); (case hr => first | (go_simp; done) | (go_simp; rfl)); intro gb hg w1 hbox hb; subst hg; have HB := Aside0.mk hb; have BK := Aside0.mk hbox; clear hb hbox; replace x0 := (HB.out.cell (World.block_lt_of_cell? W _ x0)).trans x0; replace x1 := (HB.out.cell (World.block_lt_of_cell? W _ x1)).trans x1) | ((with_reducible refine gate_dst (N := 17) rfl ?_); refine Kd.R_make (Kd.int .i64) _ 3 rfl (N := 17) rfl 22 _ _ rfl (l0.length : Int) rfl rfl Tryd.underlying22 (.int .i64 0) 8 info3 rfl (by decide) (by omega) 0 (ok := fun _ => True) (okp := fun _ => True) rfl (fun _ hk => hk) trivial pn (by rw [Int.toNat_natCast]; omega) (Below.refl _ _) (Nat.le_refl _) ?_; intro vM w2 ho5 hb hg_ hnew_; clear hg_ hnew_; replace x1 := (hb.cell (World.block_lt_of_cell? w1 _ x1)).trans x1; have HO_ := Aside0.mk (Kd.R_lower ho5 (HB.out.size)); have BK_ := Aside0.mk (blk_below BK.out hb); have HB_ := Aside0.mk (below_step HB.out hb); clear HB BK ho5 hb; have HO := HO_; have BK := BK_; have HB := HB_; clear HO_ BK_ HB_))
 have mem : ∀ {i : Nat}, i < l1.length → v.getD i 0 ≤ 100 := fun {i} hi => hvb _ (getD_mem 0 (by omega))
 go_loopw [24] (fun x24 wr => ∃ i : Nat, i ≤ l1.length ∧ x24 = .int .i64 i ∧ Aside0 (Kd.R (Kd.int .i64) 3 wr W.heap.size (fun _ => True) vM (cntR l0 l1 v i)) ∧ Aside0 (wr.heap[W.heap.size]? = some (.cells (arrV v) 75 (0, 0))) ∧ Aside0 (Below W.heap.size W wr)) (fun x24 _ => l1.length - (intOf x24).toNat)
 case atStart => exact ⟨0, Nat.zero_le _, rfl, ⟨by rw [cntR_zero]; simpa using HO.out⟩, BK, HB⟩
 case round =>
  clear HO BK HB x0 x1
  obtain ⟨i, hi, rfl, HO, BK, HB⟩ := hrel
  by_cases hlt : i < l1.length
  ·have d25 : decide ((i : Int) < (l1.length : Int)) = true := decide_eq_true (by omega)
   have p5 : (0 : Int) ≤ (i : Int) := by omega
   have q5 : (i : Int) < 5 := by omega
   have k1 : wr.cell? ⟨W.heap.size, i, none⟩ = some (.int .i64 ((v.getD i 0 : Nat) : Int)) := (blk_cell BK.out i).trans (arrV_get v (by omega))
   have hfm := mem hlt
   have hpl : (l1.getD i z48).f1.length ≤ 1000 := by have := HW.out.path _ (getD_mem z48 hlt); omega
   have hAT := Aside0.mk (atP_range HW.out v hlt)
   have hAE : Aside0 (atP l1 v i = atD (l1.getD i z48) (v.getD i 0)) := ⟨rfl⟩
   generalize hf : v.getD i 0 = f at k1 hfm hAE
   have HF := Aside0.mk hf
   clear hf
   go_wp2_with (fail)
   refine (at_calls wr (HS.out.below HB.out) i f hlt (by omega) hpl).mono ?_
   rintro e w4 ⟨rfl, hb⟩
   rw [← hAE.out]
   have HO_ := Aside0.mk (Kd.R_below HO.out hb)
   have BK_ := Aside0.mk (blk_below BK.out hb)
   have HB_ := Aside0.mk (below_step HB.out hb)
   clear HO BK HB hb k1
   have HO := HO_
   have BK := BK_
   have HB := HB_
   clear HO_ BK_ HB_
   generalize hat : atP l1 v i = at_ at hAT
   by_cases c : 0 ≤ at_
   ·have hr : at_ < (l0.length : Int) := by have := hAT.out; omega
    have d34 : decide (at_ ≥ 0) = true := decide_eq_true c
    have hlen := cntR_len l0 l1 v i
    have HE := Aside0.mk (cntR_in l0 l1 v i (by omega) (by omega))
    rw [hat] at HE
    have hle := thP_le l1 v at_ i
    have hge : (cntR l0 l1 v i).getD at_.toNat 0 = (thP l1 v at_ i : Int) := by
     have := cntR_get l0 l1 v i (a := at_.toNat) (by omega)
     rw [this, Int.toNat_of_nonneg c]
    generalize cntR l0 l1 v i = xs at HO hlen HE hge
    obtain ⟨go, co, eo, gb9, gl9, cl9, HG9⟩ := Kd.R_form HO.out (by omega)
    rw [hlen] at eo
    subst eo
    have GB9 := Aside0.mk gb9
    clear gl9 HG9 cl9
    have p9 : 0 ≤ at_ := c
    have q9 : at_ < (l0.length : Int) := by omega
    have NE := Aside0.mk (Kd.R_ne HO.out BK.out (by decide))
    obtain ⟨hx9, hf9⟩ := Kd.R_celln 0 HO.out at_ p9 q9
    have hx9' : w4.cell? ⟨go, at_.toNat, none⟩ = some (.int .i64 (thP l1 v at_ i : Int)) := by rw [← hge]; exact hx9
    clear hx9
    have hz0 : (0 : Int) ≤ (thP l1 v at_ i : Int) := by omega
    have hz1 : (thP l1 v at_ i : Int) ≤ (i : Int) := by omega
    clear hle
    generalize hth : ((thP l1 v at_ i : Nat) : Int) = th at hx9' hge hz0 hz1
    have ew : wrap64 (th + 1) = th + 1 := w64 (by omega) (by omega)
    have HP10 := Kd.R_putg HO.out at_ (th + 1)
    go_wp2_with (first | ((with_reducible refine gate_store (t := 3) (p := 40) rfl ?_); refine store_event (t := 3) (p := 40) (v := ?vo_w11) (w1 := (w4.setCell ⟨go, at_.toNat, none⟩ (.int .i64 (th + 1)))) ?hg ?ho ?hn ?hr ?_; (case ho => rfl); (case hg => rfl); (case hn => rfl); (case hr => first | (go_simp; done) | (go_simp; rfl)); intro w11 hw; have hg : w4.grownBy w11 (some go) := (by rw [hw]; exact HP10.2); have HO_ : Aside0 (Kd.R (Kd.int .i64) 3 w11 W.heap.size (fun _ => True) (.slice (some ⟨go, 0, none⟩) l0.length co) (xs.set at_.toNat (th + 1))) := ⟨(by rw [hw]; exact HP10.1)⟩; have BK_ := Aside0.mk (blk_grown BK.out hg NE.out); have HB_ : Aside0 (Below W.heap.size W w11) := ⟨(by rw [hw]; exact below_set (HB.out) GB9.out)⟩; clear HO BK HB HP10 hw hg; have HO := HO_; have BK := BK_; have HB := HB_; clear HO_ BK_ HB_))
    go_roundw
    case measure => simp [intOf]; omega
    case rel => exact ⟨i + 1, hlt, by go_num, ⟨by rw [HE.out, hge]; exact HO.out⟩, BK, HB⟩
   ·have d34 : decide (at_ ≥ 0) = false := decide_eq_false c
    have HE := Aside0.mk (cntR_out l0 l1 v i (by omega))
    go_wp2_with (fail)
    go_roundw
    case measure => simp [intOf]; omega
    case rel => exact ⟨i + 1, hlt, by go_num, ⟨by rw [HE.out]; exact HO.out⟩, BK, HB⟩
  ·have d25 : decide ((i : Int) < (l1.length : Int)) = false := decide_eq_false (by omega)
   have hie : i = l1.length := by omega
   have x1 : wr.cell? ⟨gs, 1, none⟩ = some (.slice A1 l1.length c1) := (HB.out.cell (World.block_lt_of_cell? W _ ((blk_cell HS.out.blk 1).trans rfl))).trans ((blk_cell HS.out.blk 1).trans rfl)
   go_wp2_with (fail)
   have HS2 := Aside0.mk (HS.out.below HB.out)
   obtain ⟨AM, cM, eM⟩ := Kd.R_slice HO.out
   rw [cntR_len] at eM
   subst eM
   have HC := Aside0.mk (Kd.R_reads' HO.out).2.2
   have HS2 := Aside0.mk (HS.out.below HB.out)
   subst hie
   clear x1
   generalize hwA : wr = wA at *
   clear hwA
   go_loopw [8, 48] (fun x8 x48 wr => ∃ i : Nat, i ≤ l1.length ∧ x48 = .int .i64 i ∧ Aside0 (Kd.R (Kd.int .i64) 3 wr wA.heap.size (fun k => wA.heap.size ≤ k) x8 ((mvP l0 l1 v i).map (fun (j : Nat) => (j : Int)))) ∧ Aside0 (Below wA.heap.size wA wr)) (fun _ x48 _ => l1.length - (intOf x48).toNat)
   case atStart => exact ⟨0, Nat.zero_le _, rfl, ⟨Kd.R_nil _ _ _ _ _⟩, ⟨Below.refl _ _⟩⟩
   case round =>
    obtain ⟨i, hi, rfl, HQ, HB2⟩ := hrel
    clear HO
    have HD : Aside0 (Kd.C (Kd.int .i64) wr AM l0.length (cntR l0 l1 v l1.length)) := ⟨Kd.C_below (by have h0 := HC.out; rw [cntR_len] at h0; exact h0) HB2.out⟩
    by_cases hlt : i < l1.length
    ·have d49 : decide ((i : Int) < (l1.length : Int)) = true := decide_eq_true (by omega)
     have p5 : (0 : Int) ≤ (i : Int) := by omega
     have q5 : (i : Int) < 5 := by omega
     have BK2 := Aside0.mk (blk_below BK.out HB2.out)
     have k1 : wr.cell? ⟨W.heap.size, i, none⟩ = some (.int .i64 ((v.getD i 0 : Nat) : Int)) := (blk_cell BK2.out i).trans (arrV_get v (by omega))
     have hfm := mem hlt
     have hpl : (l1.getD i z48).f1.length ≤ 1000 := by have := HW.out.path _ (getD_mem z48 hlt); omega
     have HS3 := Aside0.mk (HS2.out.below HB2.out)
     have hz0 : (0 : Int) ≤ ((v.getD i 0 : Nat) : Int) := by omega
     have hz1 : ((v.getD i 0 : Nat) : Int) ≤ 100 := by omega
     have ef : ((v.getD i 0 : Nat) : Int) + 1 = ((v.getD i 0 + 1 : Nat) : Int) := by omega
     generalize hf : ((v.getD i 0 : Nat) : Int) = z at k1 hz0 hz1 ef
     have ew : wrap64 (z + 1) = z + 1 := w64 (by omega) (by omega)
     have HZ := Aside0.mk hf
     have EF := Aside0.mk ef
     clear ef
     clear hf
     go_wp2_with (fail)
     refine (at_callsI wr HS3.out (i : Int) z (v.getD i 0) p5 (by rw [Int.toNat_natCast]; exact hlt) HZ.out.symm (by omega) (by rw [Int.toNat_natCast]; exact hpl)).mono ?_
     rintro e w4 ⟨rfl, hb⟩
     rw [Int.toNat_natCast]
     have eA : atD (l1.getD i z48) (v.getD i 0) = atP l1 v i := rfl
     rw [eA]
     have k2 := (hb.cell (World.block_lt_of_cell? wr _ k1)).trans k1
     have HQ_ := Aside0.mk (Kd.R_below HQ.out hb)
     have HS_ := Aside0.mk (HS3.out.below hb)
     have HD_ := Aside0.mk (Kd.C_below HD.out hb)
     have HB_ := Aside0.mk (below_step HB2.out hb)
     clear HQ HS3 HD HB2 BK2 hb k1 eA
     have HQ := HQ_
     have HS3 := HS_
     have HD := HD_
     have HB2 := HB_
     clear HQ_ HS_ HD_ HB_
     have HM := Aside0.mk (mvP_succ l0 l1 v i)
     have HOA := Aside0.mk (fun h => okP_out (R := l0) (T := l1) (v := v) (i := i) h)
     have HOL := Aside0.mk (fun h h1 => okP_leave (R := l0) (T := l1) (v := v) (i := i) h h1)
     have HOR := Aside0.mk (fun h h1 => okP_room (R := l0) (T := l1) (v := v) (i := i) h h1)
     have HTR := Aside0.mk (toP_range HW.out v hlt)
     generalize hat : atP l1 v i = at_ at HOA HOL HOR
     by_cases c : at_ < 0
     ·have d57 : decide (at_ < 0) = true := decide_eq_true c
      go_wp2_with (fail)
      go_roundw
      case measure => simp [intOf]; omega
      case rel => exact ⟨i + 1, hlt, by go_num, ⟨by rw [HM.out, if_neg (by rw [HOA.out c]; decide), List.append_nil]; exact HQ.out⟩, HB2⟩
     ·have d57 : decide (at_ < 0) = false := decide_eq_false c
      go_wp2_with (fail)
      refine (at_callsI w4 HS3.out (i : Int) (z + 1) (v.getD i 0 + 1) p5 (by rw [Int.toNat_natCast]; exact hlt) EF.out (by omega) (by rw [Int.toNat_natCast]; exact hpl)).mono ?_
      rintro e w5 ⟨rfl, hb⟩
      rw [Int.toNat_natCast]
      have eA : atD (l1.getD i z48) (v.getD i 0 + 1) = toP l1 v i := rfl
      rw [eA]
      have HQ_ := Aside0.mk (Kd.R_below HQ.out hb)
      have HS_ := Aside0.mk (HS3.out.below hb)
      have HD_ := Aside0.mk (Kd.C_below HD.out hb)
      have HB_ := Aside0.mk (below_step HB2.out hb)
      clear HQ HS3 HD HB2 hb k2 eA
      have HQ := HQ_
      have HS3 := HS_
      have HD := HD_
      have HB2 := HB_
      clear HQ_ HS_ HD_ HB_
      have HCG : ∀ a : Nat, a < l0.length → (cntR l0 l1 v l1.length).getD a 0 = (thP l1 v a l1.length : Int) := fun a ha => cntR_get l0 l1 v l1.length ha
      generalize hto : toP l1 v i = to_ at HOL HOR HTR
      by_cases c1 : to_ < 0
      ·have d66 : decide (to_ < 0) = true := decide_eq_true c1
       clear HCG
       have HL := Aside0.mk (mvP_len l0 l1 v i)
       go_wp2_with (fail)
       go_quiet (fail)
       go_wp2_with (first | ((with_reducible refine gate_builtin (b := .append) (xs := #[.tmp 82, .tmp 84]) rfl ?_); at_builtin; refine Kd.R_append (Kd.int .i64) (w0 := wA) wA.heap.size rfl (.tmp 82) (.tmp 84) 22 3 (.int .i64 0) 8 rfl Tryd.underlying22 info3 rfl (by decide) (by omega) u8 ((mvP l0 l1 v i).map (fun (j : Nat) => (j : Int))) (i : Int) [.int .i64 (i : Int)] (fun k => wA.heap.size ≤ k) (fun _ => False) rfl rfl ?aP (fun _ hk => hk.elim) ?aF ?aO ?aB ?aS ?aL ?_; (case aP => exact rfl); (case aB => exact pw_below_drewN HB2.out _); (case aF => exact (fun k hk => Nat.le_trans (below_size (pw_below_drewN HB2.out _)) hk)); (case aO => exact Kd.R_drewN HQ.out _); (case aS => exact (below_size (pw_below_drewN HB2.out _))); (case aL => rw [List.length_map]; have := HL.out; omega); intro v6 w6 ho hb hg hat6; have HQ_ := Aside0.mk ho; have HB_ := Aside0.mk hb; clear HQ HB2 ho hb hg hat6; have HQ := HQ_; have HB2 := HB_; clear HQ_ HB_))
       go_roundw
       case measure => simp [intOf]; omega
       case rel => exact ⟨i + 1, hlt, by go_num, ⟨by rw [HM.out, if_pos (HOL.out (by omega) c1), List.map_append]; exact HQ.out⟩, HB2⟩
      ·have d66 : decide (to_ < 0) = false := decide_eq_false c1
       have t0 : 0 ≤ to_ := by omega
       have t1 : to_ < (l0.length : Int) := by have := HTR.out; omega
       obtain ⟨adM, eM, y1⟩ := Kd.at_int HD.out to_ t0 t1
       obtain ⟨ad0, e0, y2⟩ := Kd.at_int HS3.out.r0 to_ t0 t1
       subst eM e0
       have x0 : w5.cell? ⟨gs, 0, none⟩ = some (.slice (some ad0) l0.length c0) := (blk_cell HS3.out.blk 0).trans rfl
       have e1 : rd (cntR l0 l1 v l1.length) to_ = (thP l1 v to_ l1.length : Int) := by
        have h1 := HCG to_.toNat (by omega)
        rw [Int.toNat_of_nonneg t0] at h1
        exact h1
       have e2 : rd l0 to_ = l0.getD to_.toNat 0 := rfl
       rw [e1] at y1
       rw [e2] at y2
       clear HCG e1 e2
       have HR := Aside0.mk (HOR.out (by omega) t0)
       clear HOR
       generalize hth : ((thP l1 v to_ l1.length : Nat) : Int) = th at y1 HR
       generalize hrm : l0.getD to_.toNat 0 = rm at y2 HR
       clear hth hrm
       have HL := Aside0.mk (mvP_len l0 l1 v i)
       by_cases c2 : th < rm
       ·have d80 : decide (th < rm) = true := decide_eq_true c2
        go_wp2_with (fail)
        go_quiet (fail)
        go_wp2_with (first | ((with_reducible refine gate_builtin (b := .append) (xs := #[.tmp 82, .tmp 84]) rfl ?_); at_builtin; refine Kd.R_append (Kd.int .i64) (w0 := wA) wA.heap.size rfl (.tmp 82) (.tmp 84) 22 3 (.int .i64 0) 8 rfl Tryd.underlying22 info3 rfl (by decide) (by omega) u8 ((mvP l0 l1 v i).map (fun (j : Nat) => (j : Int))) (i : Int) [.int .i64 (i : Int)] (fun k => wA.heap.size ≤ k) (fun _ => False) rfl rfl ?aP (fun _ hk => hk.elim) ?aF ?aO ?aB ?aS ?aL ?_; (case aP => exact rfl); (case aB => exact pw_below_drewN HB2.out _); (case aF => exact (fun k hk => Nat.le_trans (below_size (pw_below_drewN HB2.out _)) hk)); (case aO => exact Kd.R_drewN HQ.out _); (case aS => exact (below_size (pw_below_drewN HB2.out _))); (case aL => rw [List.length_map]; have := HL.out; omega); intro v6 w6 ho hb hg hat6; have HQ_ := Aside0.mk ho; have HB_ := Aside0.mk hb; clear HQ HB2 ho hb hg hat6; have HQ := HQ_; have HB2 := HB_; clear HQ_ HB_))
        go_roundw
        case measure => simp [intOf]; omega
        case rel => exact ⟨i + 1, hlt, by go_num, ⟨by rw [HM.out, if_pos (by rw [HR.out]; exact d80), List.map_append]; exact HQ.out⟩, HB2⟩
       ·have d80 : decide (th < rm) = false := decide_eq_false c2
        go_wp2_with (fail)
        go_quiet (fail)
        go_wp2_with (fail)
        go_roundw
        case measure => simp [intOf]; omega
        case rel => exact ⟨i + 1, hlt, by go_num, ⟨by rw [HM.out, if_neg (by rw [HR.out, d80]; decide), List.append_nil]; exact Kd.R_drewN HQ.out _⟩, ⟨pw_below_drewN HB2.out _⟩⟩
    ·have d49 : decide ((i : Int) < (l1.length : Int)) = false := decide_eq_false (by omega)
     have hie : i = l1.length := by omega
     subst hie
     go_wp2_with (fail)
     go_ret
     exact ⟨_, rfl, Kd.R_mono (Kd.R_lower HQ.out (below_size HB.out)) (fun k hk => Nat.le_trans (below_size HB.out) hk), below_step HB.out HB2.out⟩
end Go.Proofs.YtkcocomehhlpmaaDoor.Sr
