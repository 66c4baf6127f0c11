/- The program's Shown: walked by hand. -/
import Derived.Test.YtkcocomehhlpmaaDoorFnSpoiltSh1
import Derived.Test.YtkcocomehhlpmaaDoorFnSpoiltRw
import Derived.Test.YtkcocomehhlpmaaDoorFnSpoiltQ1
import Derived.Test.YtkcocomehhlpmaaDoorFnSpoiltQ4
namespace Go.Proofs.YtkcocomehhlpmaaDoor.Sh
open Go.Shelf Go.RowKit Go.Proofs.YtkcocomehhlpmaaDoorW.PrintWords Go.Proofs.YtkcocomehhlpmaaDoorW.PrintLast Go.Proofs.YtkcocomehhlpmaaDoorW.PrintMore Go.Proofs.YtkcocomehhlpmaaDoor.Q Go.Proofs.YtkcocomehhlpmaaDoor.Pu Go.Proofs.YtkcocomehhlpmaaDoor.Sr Go.Proofs.YtkcocomehhlpmaaDoor.Rw
set_option linter.unusedVariables false
set_option linter.unusedSimpArgs false
/-- Shown, as the walk of its callers asks for it: no rounds of its own. -/
def impl_Shown.f (k : Nat) (l0_0 : List Int) (l0_1 : List S48) (l0_2 : List Int) : Option ByteArray :=
 (impl_StateOk.f k l0_0 l0_1 l0_2).bind fun t => if t = okS l0_0 l0_1 l0_2 then some (shownD l0_0 l0_1 l0_2) else none
set_option maxHeartbeats 1000000 in
set_option maxRecDepth 100000 in
theorem impl_Shown.calls (k : Nat) (A0_0 : Option Addr) (c0_0 : Nat) (l0_0 : List Int) (A0_1 : Option Addr) (c0_1 : Nat) (l0_1 : List S48) (A0_2 : Option Addr) (c0_2 : Nat) (l0_2 : List Int) (r : ByteArray) (w : World) (hr0_0 : Kd.C (Kd.int .i64) w A0_0 l0_0.length l0_0) (hc0_0 : l0_0.length ≤ c0_0) (hr0_1 : Kd.C k48 w A0_1 l0_1.length l0_1) (hc0_1 : l0_1.length ≤ c0_1) (hr0_2 : Kd.C (Kd.int .i64) w A0_2 l0_2.length l0_2) (hc0_2 : l0_2.length ≤ c0_2)
  (h : impl_Shown.f k l0_0 l0_1 l0_2 = some r) (htab : Tab w) :
  Calls Tryd.prog 8 #[.agg #[.slice A0_0 l0_0.length c0_0, .slice A0_1 l0_1.length c0_1, .slice A0_2 l0_2.length c0_2]] w fun e w' => e = .returned (.string r) ∧ Below w.heap.size w w' := by
 have HR0 := Aside0.mk hr0_0
 have HR1 := Aside0.mk hr0_1
 have HR2 := Aside0.mk hr0_2
 have HTB := Aside0.mk htab
 unfold impl_Shown.f at h
 obtain ⟨t, ht, hr⟩ := Option.bind_eq_some_iff.mp h
 by_cases hq : t = okS l0_0 l0_1 l0_2
 rotate_left
 ·rw [if_neg hq] at hr; exact absurd hr (by simp)
 rw [if_pos hq] at hr
 injection hr with hr
 have HT := Aside0.mk ht
 have HQ := Aside0.mk hq
 have HW := Aside0.mk (fun h0 : t = 0 => (right_iff _ _ _).1 (hq.symm.trans h0))
 have HRR := Aside0.mk hr
 clear h ht hr hq hr0_0 hr0_1 hr0_2 htab
 have hu := Tryd.underlying30
 have hu48 := Tryd.underlying48
 have HB := Aside0.mk ((Below.refl w.heap.size w).alloc (Nat.le_refl _) (.cells #[.slice A0_0 l0_0.length c0_0, .slice A0_1 l0_1.length c0_1, .slice A0_2 l0_2.length c0_2] 30))
 have BX := Aside0.mk (heap_alloc_new w (.cells #[.slice A0_0 l0_0.length c0_0, .slice A0_1 l0_1.length c0_1, .slice A0_2 l0_2.length c0_2] 30))
 by_cases c0 : t = 0
 ·have c1 : (t == 0) = true := beq_iff_eq.mpr c0
  have c2 : (t != 0) = false := by rw [c0]; rfl
  have hr := HW.out c0
  have hrr := HRR.out
  unfold shownD at hrr
  rw [if_pos (HQ.out.symm.trans c0)] at hrr
  have HRD := Aside0.mk hrr
  have HQ0 := Aside0.mk (show okS l0_0 l0_1 l0_2 = 0 from HQ.out.symm.trans c0)
  have hN5 : l0_2.length ≤ 5 := by have := hr.n1; have := hr.t1; omega
  have hT5 : l0_1.length ≤ 5 := hr.t1
  have hnt := hr.n1
  have HNT := Aside0.mk hnt
  have HRI := Aside0.mk hr
  clear HRR hrr hr hnt HQ HW
  go_enter Tryd.func8, Tryd.ntmps8
  go_wp2_with (fail)
  refine (impl_StateOk.calls k _ _ l0_0 _ _ l0_1 _ _ l0_2 t _ (Kd.C_below HR0.out HB.out) hc0_0 (Kd.C_below HR1.out HB.out) hc0_1 (Kd.C_below HR2.out HB.out) hc0_2 HT.out).mono ?_
  rintro e w1 ⟨rfl, hb⟩
  have HB_ := Aside0.mk (below_step HB.out hb)
  have BX_ := Aside0.mk (blk_below BX.out hb)
  clear HB BX hb HT
  have HB := HB_
  have BX := BX_
  clear HB_ BX_
  have z1 : w1.cell? ⟨w.heap.size, 1, none⟩ = some (.slice A0_1 l0_1.length c0_1) := (blk_cell BX.out 1).trans rfl
  obtain ⟨b, hb⟩ : ∃ b, b = w1.heap.size := ⟨_, rfl⟩
  have hw2 := below_alloc (Below.refl w1.heap.size w1) (.cells #[.pointer none, .slice none 0 0] 56)
  have HBD := Aside0.mk (Bd.made w1)
  have HBB := Aside0.mk hb
  have HB2 := Aside0.mk (below_step HB.out hw2)
  have HWB := Aside0.mk (show w.heap.size < w1.heap.size from blk_lt BX.out)
  have BX2 := Aside0.mk (blk_below BX.out hw2)
  have z1' : (w1.alloc (.cells #[.pointer none, .slice none 0 0] 56)).cell? ⟨w.heap.size, 1, none⟩ = some (.slice A0_1 l0_1.length c0_1) := (blk_cell BX2.out 1).trans rfl
  have HW1 := Aside0.mk hw2
  clear hw2 hb z1 HBB HB2 BX2
  go_wp2_with (fail)
  go_loopw [17] (fun x17 wr => ∃ i : Nat, i ≤ l0_1.length ∧ x17 = .int .i64 i ∧ Aside0 (Bd w1.heap.size (linesL l0_0 l0_1 l0_2 i) wr) ∧ Aside0 (Below w1.heap.size w1 wr)) (fun x17 _ => l0_1.length - (intOf x17).toNat)
  case atStart => exact ⟨0, Nat.zero_le _, rfl, HBD, HW1⟩
  case round =>
   rename World => wo
   clear HBD HW1 z1'
   obtain ⟨i, hi, rfl, HD, HW⟩ := hrel
   have HB_ := Aside0.mk (below_step HB.out HW.out)
   have BX_ := Aside0.mk (blk_below BX.out HW.out)
   have HTW := Aside0.mk (HTB.out.below HB_.out)
   by_cases hlt : i < l0_1.length
   ·have d16 : decide ((i : Int) < (l0_1.length : Int)) = true := decide_eq_true (by omega)
    obtain ⟨ad, AP, cP, eA, hx0, hx1, hx2, hlP, hiP⟩ := at_T48 HR1.out (i : Int) (by omega) (by omega)
    rw [rd_T, Int.toNat_natCast] at hx0 hx1 hx2
    rw [rd_T] at hlP hiP
    replace hx0 := (HB_.out.cell (World.block_lt_of_cell? _ _ hx0)).trans hx0
    replace hx1 := (HB_.out.cell (World.block_lt_of_cell? _ _ hx1)).trans hx1
    replace hx2 := (HB_.out.cell (World.block_lt_of_cell? _ _ hx2)).trans hx2
    subst eA
    obtain ⟨tr, htr⟩ : ∃ t, t = l0_1.getD i z48 := ⟨_, rfl⟩
    rw [← htr] at hx0 hx1 hx2 hlP hiP
    have HTR := Aside0.mk htr
    have HIP := Aside0.mk hiP
    have HSM := Aside0.mk (show Sm (l0_2.getD i 0) ∧ Sm tr.f0 ∧ (linesL l0_0 l0_1 l0_2 i).length ≤ 2000 from ⟨name_sm HRI.out (by rw [HNT.out]; exact hlt), by rw [htr]; exact at_sm HRI.out hlt, by have := lines_len HRI.out i hi; omega⟩)
    obtain ⟨an, eN, hn0⟩ := Kd.at_int (Kd.C_below HR2.out HB_.out) (i : Int) (by omega) (by have := HNT.out; omega)
    rw [rd_I, Int.toNat_natCast] at hn0
    subst eN
    obtain ⟨nm, hnm⟩ : ∃ x, x = l0_2.getD i 0 := ⟨_, rfl⟩
    rw [← hnm] at hn0 HSM
    have HNM := Aside0.mk hnm
    clear hiP htr hnm
    have hw5 := below_alloc (Below.refl wo.heap.size wo) (.cells #[.int .i64 tr.f0, .slice AP tr.f1.length cP, .int .i64 tr.f2] 48)
    have HD5 := Aside0.mk (HD.out.kept hw5)
    have HW5 := Aside0.mk (below_step HW.out hw5)
    have HT5 := Aside0.mk (HTW.out.below hw5)
    have BX5 := Aside0.mk (blk_below BX_.out hw5)
    have BT5 := Aside0.mk (heap_alloc_new wo (.cells #[.int .i64 tr.f0, .slice AP tr.f1.length cP, .int .i64 tr.f2] 48))
    have hn5 := (hw5.cell (World.block_lt_of_cell? _ _ hn0)).trans hn0
    have GE := Aside0.mk (show w1.heap.size < wo.heap.size from HD.out.lt)
    have z1 : wo.cell? ⟨w.heap.size, 1, none⟩ = some (.slice (some ad) l0_1.length c0_1) := (blk_cell BX_.out 1).trans rfl
    clear hw5 hn0 HD HW HTW BX_ HB_
    go_wp2_with (fail)
    clear hx0 hx1 hx2 z1
    generalize wo.alloc (.cells #[.int .i64 tr.f0, .slice AP tr.f1.length cP, .int .i64 tr.f2] 48) = W5 at *
    have y2 : W5.cell? ⟨w.heap.size, 2, none⟩ = some (.slice (some an) l0_2.length c0_2) := (blk_cell BX5.out 2).trans rfl
    have y0 : W5.cell? ⟨wo.heap.size, 0, none⟩ = some (.int .i64 tr.f0) := (blk_cell BT5.out 0).trans rfl
    have p7 : (0 : Int) ≤ (i : Int) := by omega
    have q7 : (i : Int) < (l0_2.length : Int) := by have := HNT.out; omega
    refine start_ (n := 12) (S := fun w' => w'.cell? ⟨w.heap.size, 2, none⟩ = some (.slice (some an) l0_2.length c0_2) ∧ w'.cell? (an.add i) = some (.int .i64 nm) ∧ w'.cell? ⟨wo.heap.size, 0, none⟩ = some (.int .i64 tr.f0)) (ds := []) (Array.replicate 12 false) (by kernel_rfl) rfl rfl ⟨y2, hn5, y0⟩ (fun hS => ?_)
    refine np_ 0 22 rfl rfl (by kernel_rfl) (fun _ _ _ h => h) (by rfl) (fun w' => by go_simp; with_reducible rfl) (by simp only [AP_, i64_w]; rfl) ?_
    refine nt_ hS 1 23 rfl rfl (by kernel_rfl) (fun _ _ _ h => h) (by rfl) (fun w' ⟨s0, s1, s2⟩ => by go_simp; with_reducible rfl) (by simp only [AP_, i64_w]; rfl) ?_
    refine np_ 2 24 rfl rfl (by kernel_rfl) (fun _ _ _ h => h) (by rfl) (fun w' => by go_simp; with_reducible rfl) (by simp only [AP_, i64_w]; rfl) ?_
    refine np_ 3 25 rfl rfl (by kernel_rfl) (fun _ _ _ h => h) (by rfl) (fun w' => by go_simp; with_reducible rfl) (by simp only [AP_, i64_w]; rfl) ?_
    refine nt_ hS 4 26 rfl rfl (by kernel_rfl) (fun _ _ _ h => h) (by rfl) (fun w' ⟨s0, s1, s2⟩ => by go_simp; with_reducible rfl) (by simp only [AP_, i64_w]; rfl) ?_
    refine np_ 7 29 rfl rfl (by kernel_rfl) (fun _ _ _ h => h) (by rfl) (fun w' => by go_simp; with_reducible rfl) (by simp only [AP_, i64_w]; rfl) ?_
    refine nt_ hS 8 30 rfl rfl (by kernel_rfl) (fun _ _ _ h => h) (by rfl) (fun w' ⟨s0, s1, s2⟩ => by go_simp; with_reducible rfl) (by simp only [AP_, i64_w]; rfl) ?_
    refine no_ 5 27 rfl rfl (by kernel_rfl) (by decide) (fun K hK => ?_)
    refine goes_ Tryd.func28 (by kernel_rfl) rfl #[.int .i64 nm] (by rfl) rfl rfl (by (try simp only [List.map_toArray, List.map_cons, List.map_nil]); rfl) ?_
    have hd5 := below_drew (Below.refl W5.heap.size W5)
    refine (itoa_calls HSM.out.1 (HT5.out.below hd5)).mono ?_
    rintro e w6 ⟨rfl, hb⟩
    have hb6 : Below W5.heap.size W5 w6 := below_step hd5 hb
    have HD6 := Aside0.mk (HD5.out.kept hb6)
    have HW6 := Aside0.mk (below_step HW5.out hb6)
    have HT6 := Aside0.mk (HT5.out.below hb6)
    have BX6 := Aside0.mk (blk_below BX5.out hb6)
    have BT6 := Aside0.mk (blk_below BT5.out hb6)
    refine ⟨_, rfl, ?_⟩
    refine hK _ _ ⟨(blk_cell BX6.out 2).trans rfl, (hb6.cell (World.block_lt_of_cell? _ _ hn5)).trans hn5, (blk_cell BT6.out 0).trans rfl⟩ (fun hS => ?_)
    clear hb hb6 hd5 HD5 HW5 HT5 BX5 BT5 hn5 y0 y2
    refine norm_ (a' := ?_) ?_ ?_
    rotate_left
    ·show Act.put _ (some 27) _ = _
     simp only [AP_, i64_w]
     rfl
    have hz1 : (Lib.itoa nm).length ≤ 21 := HSM.out.1.len
    have hz2 : (Lib.itoa tr.f0).length ≤ 21 := HSM.out.2.1.len
    have hl1 : ¬ (9223372036854775807 < (Lib.itoa nm).length + 4) := by omega
    refine np_ 6 28 (v := .string (⟨(Lib.itoa nm).toArray⟩ ++ ⟨#[32, 97, 116, 32]⟩)) rfl rfl (by kernel_rfl) (fun _ _ _ h => h) (by rfl) (fun w' => by go_simp) (by simp only [AP_, i64_w]; rfl) ?_
    refine no_ 9 31 rfl rfl (by kernel_rfl) (by decide) (fun K hK => ?_)
    refine goes_ Tryd.func28 (by kernel_rfl) rfl #[.int .i64 tr.f0] (by rfl) rfl rfl (by (try simp only [List.map_toArray, List.map_cons, List.map_nil]); rfl) ?_
    refine (itoa_calls HSM.out.2.1 HT6.out).mono ?_
    rintro e w7 ⟨rfl, hb⟩
    have HD7 := Aside0.mk (HD6.out.kept hb)
    have HW7 := Aside0.mk (below_step HW6.out hb)
    have HT7 := Aside0.mk (HT6.out.below hb)
    have BX7 := Aside0.mk (blk_below BX6.out hb)
    have BT7 := Aside0.mk (blk_below BT6.out hb)
    have hn7 := (hb.cell (World.block_lt_of_cell? _ _ hS.2.1)).trans hS.2.1
    refine ⟨_, rfl, ?_⟩
    refine hK _ _ ⟨(blk_cell BX7.out 2).trans rfl, hn7, (blk_cell BT7.out 0).trans rfl⟩ (fun hS => ?_)
    clear hb HD6 HW6 HT6 BX6 BT6 hn7
    refine norm_ (a' := ?_) ?_ ?_
    rotate_left
    ·show Act.put _ (some 31) _ = _
     simp only [AP_, i64_w]
     rfl
    obtain ⟨s1, hs1⟩ : ∃ s : ByteArray, s = (⟨(Lib.itoa nm).toArray⟩ ++ ⟨#[32, 97, 116, 32]⟩) ++ ⟨(Lib.itoa tr.f0).toArray⟩ := ⟨_, rfl⟩
    have HS1 := Aside0.mk hs1
    have hs2 : s1.data.toList = headL l0_1 l0_2 i := by rw [hs1]; unfold headL; rw [← HNM.out, ← HTR.out]; simp
    have hs3 : s1.size ≤ 46 := by show s1.data.size ≤ 46; rw [← Array.length_toList, hs2]; exact head_len HRI.out hlt
    have HS2 := Aside0.mk hs2
    have HS3 := Aside0.mk hs3
    have hl2 : ¬ (9223372036854775807 < (Lib.itoa nm).length + 4 + (Lib.itoa tr.f0).length) := by omega
    refine np_ 10 32 (v := .string s1) rfl rfl (by kernel_rfl) (fun _ _ _ h => h) (by rfl) (fun w' => by go_simp) (by simp only [AP_, i64_w]; rfl) ?_
    clear hs1 hs2 hs3 hl1 hl2 hz1 hz2
    refine no_ 11 33 rfl rfl (by kernel_rfl) (by decide) (fun K hK => ?_)
    refine goes_ Tryd.func27 (by kernel_rfl) rfl #[.pointer (some ⟨w1.heap.size, 0, none⟩), .string s1] (by rfl) rfl rfl (by (try simp only [List.map_toArray, List.map_cons, List.map_nil]); rfl) ?_
    refine (put_calls HD7.out s1 (by have := HSM.out.2.2; have := HS3.out; omega)).mono ?_
    rintro e w8 ⟨rfl, hD8, hb, hk⟩
    rw [HS2.out] at hD8
    have HD8 := Aside0.mk hD8
    have HW8 := Aside0.mk (HW7.out.trans hb)
    have BX8 := Aside0.mk (blk_below BX.out HW8.out)
    have BT8 := Aside0.mk (others hk BT7.out (by have := GE.out; omega) (by decide))
    have hn8 : w8.cell? (an.add i) = some (.int .i64 nm) := by
     obtain ⟨an', e', h'⟩ := Kd.at_int (Kd.C_below HR2.out (below_step HB.out HW8.out)) (i : Int) (by omega) q7
     injection e' with e'
     subst e'
     rw [rd_I, Int.toNat_natCast, ← HNM.out] at h'
     exact h'
    refine ⟨_, rfl, ?_⟩
    refine hK _ _ ⟨(blk_cell BX8.out 2).trans rfl, hn8, (blk_cell BT8.out 0).trans rfl⟩ (fun hS => ?_)
    clear hD8 hb hk HD7 HW7 HT7 BX7 BT7 hn8
    refine norm_ (a' := ?_) ?_ ?_
    rotate_left
    ·show Act.put _ (some 33) _ = _
     simp only [AP_, i64_w]
     rfl
    refine done_ (by kernel_rfl) ?_
    obtain ⟨Lh, hLh⟩ : ∃ l, l = linesL l0_0 l0_1 l0_2 i ++ headL l0_1 l0_2 i := ⟨_, rfl⟩
    have HLH := Aside0.mk hLh
    have HLN := Aside0.mk (show Lh.length ≤ 2046 from by rw [hLh, List.length_append]; have := HSM.out.2.2; have := head_len HRI.out hlt; omega)
    have HPS := Aside0.mk (show (∀ x ∈ tr.f1, Sm x) ∧ tr.f1.length ≤ 8 from ⟨by rw [HTR.out]; exact path_sm HRI.out hlt, by rw [HTR.out]; exact HRI.out.wf.path _ (getD_mem z48 hlt)⟩)
    rw [← hLh] at HD8
    have t1 : w8.cell? ⟨wo.heap.size, 1, none⟩ = some (.slice AP tr.f1.length cP) := (blk_cell BT8.out 1).trans rfl
    clear hLh hS BX8
    go_wp2_with (fail)
    go_loopw [37] (fun x37 wr => ∃ j : Nat, j ≤ tr.f1.length ∧ x37 = .int .i64 j ∧ Aside0 (Bd w1.heap.size (Lh ++ dsL (tr.f1.take j)) wr) ∧ Aside0 (Below w1.heap.size w1 wr)) (fun x37 _ => tr.f1.length - (intOf x37).toNat)
    case atStart => exact ⟨0, Nat.zero_le _, rfl, ⟨by simpa [dsL] using HD8.out⟩, HW8⟩
    case round =>
     rename World => wp
     clear HD8 HW8 BT8 t1
     obtain ⟨j, hj, rfl, HD, HW⟩ := hrel
     by_cases hlj : j < tr.f1.length
     ·have d38 : decide ((j : Int) < (tr.f1.length : Int)) = true := decide_eq_true (by omega)
      have HBp := Aside0.mk (below_step HB.out HW.out)
      have HTp := Aside0.mk (HTB.out.below HBp.out)
      obtain ⟨ap, eP, hp0⟩ := Kd.at_int (Kd.C_below HIP.out HBp.out) (j : Int) (by omega) (by omega)
      rw [rd_I, Int.toNat_natCast] at hp0
      subst eP
      have HXS := Aside0.mk (HPS.out.1 _ (getD_mem 0 hlj))
      have HXL := Aside0.mk (dsL_take tr.f1 hlj)
      have HXB := Aside0.mk (show (dsL (tr.f1.take j)).length ≤ 176 from by have h1 := dsL_len (tr.f1.take j) (fun y hy => HPS.out.1 y (List.mem_of_mem_take hy)); have h2 := HPS.out.2; rw [List.length_take] at h1; omega)
      obtain ⟨x, hx⟩ : ∃ x, x = tr.f1.getD j 0 := ⟨_, rfl⟩
      rw [← hx] at hp0 HXS HXL
      clear hx
      go_wp2_with (fail)
      refine (itoa_calls HXS.out HTp.out).mono ?_
      rintro e w9 ⟨rfl, hb⟩
      have HD9 := Aside0.mk (HD.out.kept hb)
      have HW9 := Aside0.mk (below_step HW.out hb)
      have hz1 : (Lib.itoa x).length ≤ 21 := HXS.out.len
      have hl1 : ¬ (9223372036854775807 < 1 + (Lib.itoa x).length) := by omega
      clear hb HD HW HTp HBp hp0
      go_wp2_with (fail)
      refine (put_calls HD9.out _ (by have h1 := HLN.out; have h2 := HXB.out; rw [sp_len, List.length_append]; omega)).mono ?_
      rintro e w10 ⟨rfl, hD, hb, hk⟩
      have HD10 := Aside0.mk hD
      have HW10 := Aside0.mk (HW9.out.trans hb)
      clear hD hb hk HD9 HW9 hl1 hz1
      have hp8 : tr.f1.length ≤ 8 := HPS.out.2
      go_wp2_with (fail)
      go_roundw
      case measure => simp [intOf]; omega
      case rel => exact ⟨j + 1, hlj, by go_num, ⟨by have h := HD10.out; rw [HXL.out]; simpa [List.append_assoc] using h⟩, HW10⟩
     ·have d38 : decide ((j : Int) < (tr.f1.length : Int)) = false := decide_eq_false (by omega)
      have e9 : j = tr.f1.length := by omega
      have HD_ := Aside0.mk (show Bd w1.heap.size (Lh ++ dsL tr.f1) wp from by have h := HD.out; rw [e9, List.take_length] at h; exact h)
      have HBp := Aside0.mk (below_step HB.out HW.out)
      have HTp := Aside0.mk (HTB.out.below HBp.out)
      have BXp := Aside0.mk (blk_below BX.out HW.out)
      have z0 : wp.cell? ⟨w.heap.size, 0, none⟩ = some (.slice A0_0 l0_0.length c0_0) := (blk_cell BXp.out 0).trans rfl
      have z1 : wp.cell? ⟨w.heap.size, 1, none⟩ = some (.slice (some ad) l0_1.length c0_1) := (blk_cell BXp.out 1).trans rfl
      have z2 : wp.cell? ⟨w.heap.size, 2, none⟩ = some (.slice (some an) l0_2.length c0_2) := (blk_cell BXp.out 2).trans rfl
      clear HD e9
      go_wp2_with (fail)
      obtain ⟨kw, hkw⟩ := (implwaits_tells HRI.out.wf i hlt).rounds
      refine (impl_waits.calls kw _ _ l0_0 _ _ l0_1 _ _ l0_2 (i : Int) _ wp (Kd.C_below HR0.out HBp.out) hc0_0 (Kd.C_below HR1.out HBp.out) hc0_1 (Kd.C_below HR2.out HBp.out) hc0_2 hkw).mono ?_
      rintro e w11 ⟨v, rfl, hR, hb⟩
      obtain ⟨AW, cW, rfl⟩ := Kd.R_slice hR
      have HWR := Aside0.mk hR
      have HD11 := Aside0.mk (HD_.out.kept hb)
      have HW11 := Aside0.mk (below_step HW.out hb)
      have GP := Aside0.mk (show w1.heap.size < wp.heap.size from HD_.out.lt)
      have HB11 := Aside0.mk (below_step HB.out HW11.out)
      have BX11 := Aside0.mk (blk_below BX.out HW11.out)
      clear hR hb hkw z0 z1 z2 HD_ HBp HTp BXp HW
      have z0 : w11.cell? ⟨w.heap.size, 0, none⟩ = some (.slice A0_0 l0_0.length c0_0) := (blk_cell BX11.out 0).trans rfl
      have z1 : w11.cell? ⟨w.heap.size, 1, none⟩ = some (.slice (some ad) l0_1.length c0_1) := (blk_cell BX11.out 1).trans rfl
      have z2 : w11.cell? ⟨w.heap.size, 2, none⟩ = some (.slice (some an) l0_2.length c0_2) := (blk_cell BX11.out 2).trans rfl
      go_wp2_with (fail)
      obtain ⟨kc, hkc⟩ := (can_tells HRI.out.wf i hlt).rounds
      refine (impl_can.calls kc _ _ l0_0 _ _ l0_1 _ _ l0_2 (i : Int) _ w11 (Kd.C_below HR0.out HB11.out) hc0_0 (Kd.C_below HR1.out HB11.out) hc0_1 (Kd.C_below HR2.out HB11.out) hc0_2 hkc).mono ?_
      rintro e w12 ⟨rfl, hb⟩
      have HD12 := Aside0.mk (HD11.out.kept hb)
      have HW12 := Aside0.mk (below_step HW11.out hb)
      have HR12 := Aside0.mk (Kd.R_below HWR.out hb)
      clear hb hkc z0 z1 z2 HD11 HB11 HW11 BX11 HWR
      by_cases cc : canB l0_0 l0_1 i = true
      ·rw [cc]
       have HLI := Aside0.mk (show lineL l0_0 l0_1 l0_2 i = headL l0_1 l0_2 i ++ dsL tr.f1 ++ [10] from by unfold lineL; rw [if_pos cc, ← HTR.out]; simp)
       have HPB := Aside0.mk (show (dsL tr.f1).length ≤ 176 from by have h1 := dsL_len tr.f1 HPS.out.1; have h2 := HPS.out.2; omega)
       go_wp2_with (fail)
       refine (put_calls HD12.out _ (by have h1 := HLN.out; have h2 := HPB.out; have h3 : (⟨#[10]⟩ : ByteArray).size = 1 := rfl; rw [List.length_append, h3]; omega)).mono ?_
       rintro e w13 ⟨rfl, hD, hb, hk⟩
       have HD13 := Aside0.mk hD
       have HW13 := Aside0.mk (HW12.out.trans hb)
       clear hD hb hk HD12 HW12 HR12
       go_wp2_with (fail)
       go_roundw
       case measure => simp [intOf]; omega
       case rel => exact ⟨i + 1, hlt, by go_num, ⟨by have h := HD13.out; rw [HLH.out] at h; rw [linesL_succ, HLI.out]; simpa [List.append_assoc] using h⟩, HW13⟩
      ·rw [Bool.eq_false_iff.2 cc]
       have HPB := Aside0.mk (show (dsL tr.f1).length ≤ 176 from by have h1 := dsL_len tr.f1 HPS.out.1; have h2 := HPS.out.2; omega)
       have HLI := Aside0.mk (show lineL l0_0 l0_1 l0_2 i = headL l0_1 l0_2 i ++ dsL tr.f1 ++ (waitL ++ dsL (nmsL l0_0 l0_1 l0_2 i)) ++ [10] from by unfold lineL; rw [if_neg cc, ← HTR.out])
       have HNS := Aside0.mk (show (∀ x ∈ nmsL l0_0 l0_1 l0_2 i, Sm x) ∧ (nmsL l0_0 l0_1 l0_2 i).length ≤ 5 from ⟨nms_sm HRI.out i, nms_len HRI.out i⟩)
       have HNW := Aside0.mk (show ∀ x ∈ waitsP l0_0 l0_1 i, ∃ j : Nat, j < l0_1.length ∧ x = (j : Int) from fun x hx => waitsP_mem i x hx)
       obtain ⟨ws, hws⟩ : ∃ l, l = waitsP l0_0 l0_1 i := ⟨_, rfl⟩
       have HNM2 := Aside0.mk (show nmsL l0_0 l0_1 l0_2 i = ws.map (fun j => l0_2.getD j.toNat 0) from by rw [hws]; rfl)
       rw [← hws] at HR12 HNW
       have hwl : ws.length ≤ 5 := by have h1 := HNS.out.2; rw [HNM2.out, List.length_map] at h1; exact h1
       simp only [← hws]
       clear hws
       go_wp2_with (fail)
       refine (put_calls HD12.out _ (by have h1 := HLN.out; have h2 := HPB.out; have h3 : (⟨#[32, 119, 97, 105, 116, 115, 32, 102, 111, 114]⟩ : ByteArray).size = 10 := rfl; rw [List.length_append, h3]; omega)).mono ?_
       rintro e w13 ⟨rfl, hD, hb, hk⟩
       have HD13 := Aside0.mk hD
       have HW13 := Aside0.mk (HW12.out.trans hb)
       have HR13 := Aside0.mk (row_put HR12.out GP.out hk)
       clear hD hb hk HD12 HW12 HR12
       obtain ⟨Lq, hLq⟩ : ∃ l, l = Lh ++ dsL tr.f1 ++ [32, 119, 97, 105, 116, 115, 32, 102, 111, 114] := ⟨_, rfl⟩
       have HLQ := Aside0.mk hLq
       have HLQL := Aside0.mk (show Lq.length ≤ 2232 from by rw [hLq, List.length_append, List.length_append]; have h1 := HLN.out; have h2 := HPB.out; have h3 : ([32, 119, 97, 105, 116, 115, 32, 102, 111, 114] : List UInt8).length = 10 := rfl; omega)
       rw [← hLq] at HD13
       clear hLq
       go_wp2_with (fail)
       go_loopw [56] (fun x56 wr => ∃ q : Nat, q ≤ ws.length ∧ x56 = .int .i64 q ∧ Aside0 (Bd w1.heap.size (Lq ++ dsL ((nmsL l0_0 l0_1 l0_2 i).take q)) wr) ∧ Aside0 (Below w1.heap.size w1 wr) ∧ Aside0 (Kd.R (Kd.int .i64) 3 wr wp.heap.size (fun _ => True) (.slice AW ws.length cW) ws)) (fun x56 _ => ws.length - (intOf x56).toNat)
       case atStart => exact ⟨0, Nat.zero_le _, rfl, ⟨by simpa [dsL] using HD13.out⟩, HW13, HR13⟩
       case round =>
        rename World => wq
        clear HD13 HW13 HR13
        obtain ⟨q, hq, rfl, HD, HW, HR⟩ := hrel
        have HBq := Aside0.mk (below_step HB.out HW.out)
        have BXq := Aside0.mk (blk_below BX.out HW.out)
        by_cases hlq : q < ws.length
        ·have d57 : decide ((q : Int) < (ws.length : Int)) = true := decide_eq_true (by omega)
         have HTq := Aside0.mk (HTB.out.below HBq.out)
         obtain ⟨aw, eW, hw0⟩ := Kd.at_int (Kd.R_reads' HR.out).2.2 (q : Int) (by omega) (by omega)
         rw [rd_I, Int.toNat_natCast] at hw0
         subst eW
         obtain ⟨jn, hjn, ejn⟩ := HNW.out _ (getD_mem 0 hlq)
         rw [ejn] at hw0
         obtain ⟨an', e', hv0⟩ := Kd.at_int (Kd.C_below HR2.out HBq.out) (jn : Int) (by omega) (by have := HNT.out; omega)
         injection e' with e'
         subst e'
         rw [rd_I, Int.toNat_natCast] at hv0
         have hlen : (nmsL l0_0 l0_1 l0_2 i).length = ws.length := by rw [HNM2.out, List.length_map]
         have hnq : (nmsL l0_0 l0_1 l0_2 i).getD q 0 = l0_2.getD jn 0 := by
          have hget : ws[q] = (jn : Int) := by rw [← ejn, List.getD_eq_getElem?_getD, List.getElem?_eq_getElem hlq]; rfl
          rw [HNM2.out, List.getD_eq_getElem?_getD, List.getElem?_map, List.getElem?_eq_getElem hlq, hget]
          simp
         have HXL := Aside0.mk (dsL_take (nmsL l0_0 l0_1 l0_2 i) (by omega : q < (nmsL l0_0 l0_1 l0_2 i).length))
         have HXS := Aside0.mk (HNS.out.1 _ (getD_mem 0 (by omega : q < (nmsL l0_0 l0_1 l0_2 i).length)))
         have HXB := Aside0.mk (show (dsL ((nmsL l0_0 l0_1 l0_2 i).take q)).length ≤ 110 from by have h1 := dsL_len ((nmsL l0_0 l0_1 l0_2 i).take q) (fun y hy => HNS.out.1 y (List.mem_of_mem_take hy)); have h2 := HNS.out.2; rw [List.length_take] at h1; omega)
         rw [hnq] at HXS HXL
         obtain ⟨x, hx⟩ : ∃ x, x = l0_2.getD jn 0 := ⟨_, rfl⟩
         rw [← hx] at hv0 HXS HXL
         have y2 : wq.cell? ⟨w.heap.size, 2, none⟩ = some (.slice (some an) l0_2.length c0_2) := (blk_cell BXq.out 2).trans rfl
         have q9 : (jn : Int) < (l0_2.length : Int) := by have := HNT.out; omega
         have p9 : (0 : Int) ≤ (jn : Int) := by omega
         clear hx hnq hlen ejn hjn
         go_wp2_with (fail)
         refine (itoa_calls HXS.out HTq.out).mono ?_
         rintro e w14 ⟨rfl, hb⟩
         have HD14 := Aside0.mk (HD.out.kept hb)
         have HW14 := Aside0.mk (below_step HW.out hb)
         have HR14 := Aside0.mk (Kd.R_below HR.out hb)
         have hz1 : (Lib.itoa x).length ≤ 21 := HXS.out.len
         have hl1 : ¬ (9223372036854775807 < 1 + (Lib.itoa x).length) := by omega
         clear hb HD HW HR HTq HBq BXq hw0 hv0 y2
         go_wp2_with (fail)
         refine (put_calls HD14.out _ (by have h1 := HLQL.out; have h2 := HXB.out; rw [sp_len, List.length_append]; omega)).mono ?_
         rintro e w15 ⟨rfl, hD, hb, hk⟩
         have HD15 := Aside0.mk hD
         have HW15 := Aside0.mk (HW14.out.trans hb)
         have HR15 := Aside0.mk (row_put HR14.out GP.out hk)
         clear hD hb hk HD14 HW14 HR14 hl1 hz1
         go_wp2_with (fail)
         go_roundw
         case measure => simp [intOf]; omega
         case rel => exact ⟨q + 1, hlq, by go_num, ⟨by have h := HD15.out; rw [HXL.out]; simpa [List.append_assoc] using h⟩, HW15, HR15⟩
        ·have d57 : decide ((q : Int) < (ws.length : Int)) = false := decide_eq_false (by omega)
         have hlen : (nmsL l0_0 l0_1 l0_2 i).length = ws.length := by rw [HNM2.out, List.length_map]
         have e9 : (nmsL l0_0 l0_1 l0_2 i).take q = nmsL l0_0 l0_1 l0_2 i := List.take_of_length_le (by omega)
         have HD_ := Aside0.mk (show Bd w1.heap.size (Lq ++ dsL (nmsL l0_0 l0_1 l0_2 i)) wq from by have h := HD.out; rw [e9] at h; exact h)
         have HXB := Aside0.mk (show (dsL (nmsL l0_0 l0_1 l0_2 i)).length ≤ 110 from by have h1 := dsL_len _ HNS.out.1; have h2 := HNS.out.2; omega)
         clear HD e9 hlen
         go_wp2_with (fail)
         refine (put_calls HD_.out _ (by have h1 := HLQL.out; have h2 := HXB.out; have h3 : (⟨#[10]⟩ : ByteArray).size = 1 := rfl; rw [List.length_append, h3]; omega)).mono ?_
         rintro e w16 ⟨rfl, hD, hb, hk⟩
         have HD16 := Aside0.mk hD
         have HW16 := Aside0.mk (HW.out.trans hb)
         clear hD hb hk HD_ HW HR HBq BXq
         go_wp2_with (fail)
         go_roundw
         case measure => simp [intOf]; omega
         case rel => exact ⟨i + 1, hlt, by go_num, ⟨by have h := HD16.out; rw [HLQ.out, HLH.out] at h; rw [linesL_succ, HLI.out]; simpa [List.append_assoc, waitL] using h⟩, HW16⟩
   ·have d16 : decide ((i : Int) < (l0_1.length : Int)) = false := decide_eq_false (by omega)
    have e9 : i = l0_1.length := by omega
    have HD_ := Aside0.mk (show Bd w1.heap.size (linesL l0_0 l0_1 l0_2 l0_1.length) wo from by have h := HD.out; rw [e9] at h; exact h)
    have HLN := Aside0.mk (show (linesL l0_0 l0_1 l0_2 l0_1.length).length ≤ 2000 from by have := lines_len HRI.out l0_1.length (Nat.le_refl _); omega)
    obtain ⟨ks, hks⟩ := (implSafe_tells (R := l0_0) (T := l0_1) (N := l0_2) (by have := HRI.out.r1; omega) (by omega) (by omega)).rounds
    rw [if_pos (HQ0.out)] at hks
    have HKS := Aside0.mk hks
    have z0 : wo.cell? ⟨w.heap.size, 0, none⟩ = some (.slice A0_0 l0_0.length c0_0) := (blk_cell BX_.out 0).trans rfl
    have z1 : wo.cell? ⟨w.heap.size, 1, none⟩ = some (.slice A0_1 l0_1.length c0_1) := (blk_cell BX_.out 1).trans rfl
    have z2 : wo.cell? ⟨w.heap.size, 2, none⟩ = some (.slice A0_2 l0_2.length c0_2) := (blk_cell BX_.out 2).trans rfl
    clear HD e9 hks
    go_wp2_with (fail)
    refine (impl_Safe.calls ks _ _ l0_0 _ _ l0_1 _ _ l0_2 _ wo (Kd.C_below HR0.out HB_.out) hc0_0 (Kd.C_below HR1.out HB_.out) hc0_1 (Kd.C_below HR2.out HB_.out) hc0_2 HKS.out).mono ?_
    rintro e w17 ⟨rfl, hb⟩
    have HD17 := Aside0.mk (HD_.out.kept hb)
    have HW17 := Aside0.mk (below_step HW.out hb)
    clear hb HD_ HW HB_ BX_ HTW z0 z1 z2
    by_cases cv : 0 ≤ V l0_0 l0_1 [0, 0, 0, 0, 0]
    ·have d72 : decide (0 ≤ V l0_0 l0_1 [0, 0, 0, 0, 0]) = true := decide_eq_true cv
     have hfin := HRD.out
     unfold shownL at hfin
     rw [if_pos cv, List.append_nil] at hfin
     have HFI := Aside0.mk hfin
     clear hfin
     simp only [d72]
     go_wp2_with (fail)
     refine (str_calls HD17.out).mono ?_
     rintro e w18 ⟨rfl, hb⟩
     have HB18 := Aside0.mk (below_step HB.out (HW17.out.trans hb))
     clear hb HD17 HW17
     go_wp2_with (fail)
     go_ret
     exact ⟨by rw [HFI.out]; rfl, HB18.out⟩
    ·have d72 : decide (0 ≤ V l0_0 l0_1 [0, 0, 0, 0, 0]) = false := decide_eq_false cv
     have hfin := HRD.out
     unfold shownL at hfin
     rw [if_neg cv] at hfin
     have HFI := Aside0.mk hfin
     clear hfin
     simp only [d72]
     go_wp2_with (fail)
     refine (put_calls HD17.out _ (by have h1 := HLN.out; have h3 : (⟨#[117, 110, 115, 97, 102, 101, 10]⟩ : ByteArray).size = 7 := rfl; rw [h3]; omega)).mono ?_
     rintro e w18 ⟨rfl, hD, hb, hk⟩
     have HD18 := Aside0.mk hD
     have HW18 := Aside0.mk (HW17.out.trans hb)
     clear hD hb hk HD17 HW17
     go_wp2_with (fail)
     refine (str_calls HD18.out).mono ?_
     rintro e w19 ⟨rfl, hb⟩
     have HB19 := Aside0.mk (below_step HB.out (HW18.out.trans hb))
     clear hb HD18 HW18
     go_wp2_with (fail)
     go_ret
     exact ⟨by rw [← HFI.out]; rfl, HB19.out⟩
 ·have c1 : (t == 0) = false := beq_eq_false_iff_ne.mpr c0
  have c2 : (t != 0) = true := bne_iff_ne.mpr c0
  have hrr := HRR.out
  unfold shownD at hrr
  rw [if_neg (fun h0 => c0 (HQ.out.trans h0))] at hrr
  have HRD := Aside0.mk hrr
  clear HRR hrr HW HQ
  go_enter Tryd.func8, Tryd.ntmps8
  go_wp2_with (fail)
  refine (impl_StateOk.calls k _ _ l0_0 _ _ l0_1 _ _ l0_2 t _ (Kd.C_below HR0.out HB.out) hc0_0 (Kd.C_below HR1.out HB.out) hc0_1 (Kd.C_below HR2.out HB.out) hc0_2 HT.out).mono ?_
  rintro e w1 ⟨rfl, hb⟩
  have HB_ := Aside0.mk (below_step HB.out hb)
  clear HB BX hb HT
  go_wp2_with (fail)
  go_ret
  exact ⟨by rw [HRD.out]; rfl, HB_.out⟩
end Go.Proofs.YtkcocomehhlpmaaDoor.Sh
