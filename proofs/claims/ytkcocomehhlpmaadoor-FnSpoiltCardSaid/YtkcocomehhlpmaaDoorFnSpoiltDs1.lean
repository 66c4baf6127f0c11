/- Where the state is wrong each function answers at once. Walked by hand. (Printed by wip/dsgen.py.) -/
import Derived.Test.YtkcocomehhlpmaaDoorFnSpoiltSq1
import Derived.Test.YtkcocomehhlpmaaDoorFnSpoiltQ4
namespace Go.Proofs.YtkcocomehhlpmaaDoor.Ds
open Go.RowKit Go.Proofs.YtkcocomehhlpmaaDoorW.PrintWords Go.Proofs.YtkcocomehhlpmaaDoorW.PrintLast Go.Proofs.YtkcocomehhlpmaaDoorW.PrintMore Go.Proofs.YtkcocomehhlpmaaDoor.Q Go.Proofs.YtkcocomehhlpmaaDoor.Pu Go.Proofs.YtkcocomehhlpmaaDoor.Sq
set_option linter.unusedVariables false
set_option linter.unusedSimpArgs false
set_option maxRecDepth 100000 in
theorem stuck_wrong (k : Nat) (A0 : Option Addr) (c0 : Nat) (R : List Int) (A1 : Option Addr) (c1 : Nat) (T : List S48) (A2 : Option Addr) (c2 : Nat) (N : List Int) (t : Int) (w : World) (hr0 : Kd.C (Kd.int .i64) w A0 R.length R) (hc0 : R.length ≤ c0) (hr1 : Kd.C k48 w A1 T.length T) (hc1 : T.length ≤ c1) (hr2 : Kd.C (Kd.int .i64) w A2 N.length N) (hc2 : N.length ≤ c2) (ht : impl_StateOk.f k R T N = some t) (hne : t ≠ 0) :
  Calls Tryd.prog 14 #[.agg #[.slice A0 R.length c0, .slice A1 T.length c1, .slice A2 N.length c2]] w fun e w' => e = .returned (.bool false) ∧ Below w.heap.size w w' := by
 have HR0 := Aside0.mk hr0
 have HR1 := Aside0.mk hr1
 have HR2 := Aside0.mk hr2
 have c3 : (t == 0) = false := beq_eq_false_iff_ne.mpr hne
 have c4 : (t != 0) = true := bne_iff_ne.mpr hne
 have hu := Tryd.underlying30
 have HT := Aside0.mk ht
 clear ht hr0 hr1 hr2 hne
 have HB := Aside0.mk ((Below.refl w.heap.size w).alloc (Nat.le_refl _) (.cells #[.slice A0 R.length c0, .slice A1 T.length c1, .slice A2 N.length c2] 30))
 go_enter Tryd.func14, Tryd.ntmps14
 go_wp2_with (fail)
 refine (impl_StateOk.calls k _ _ R _ _ T _ _ N t _ (Kd.C_below HR0.out HB.out) hc0 (Kd.C_below HR1.out HB.out) hc1 (Kd.C_below HR2.out HB.out) hc2 HT.out).mono ?_
 rintro e w1 ⟨rfl, hb⟩
 have HB_ := Aside0.mk (below_step HB.out hb)
 clear HB hb HT
 go_wp2_with (fail)
 go_ret
 exact ⟨rfl, HB_.out⟩
set_option maxRecDepth 100000 in
theorem moves_wrong (k : Nat) (A0 : Option Addr) (c0 : Nat) (R : List Int) (A1 : Option Addr) (c1 : Nat) (T : List S48) (A2 : Option Addr) (c2 : Nat) (N : List Int) (t : Int) (w : World) (hr0 : Kd.C (Kd.int .i64) w A0 R.length R) (hc0 : R.length ≤ c0) (hr1 : Kd.C k48 w A1 T.length T) (hc1 : T.length ≤ c1) (hr2 : Kd.C (Kd.int .i64) w A2 N.length N) (hc2 : N.length ≤ c2) (ht : impl_StateOk.f k R T N = some t) (hne : t ≠ 0) :
  Calls Tryd.prog 15 #[.agg #[.slice A0 R.length c0, .slice A1 T.length c1, .slice A2 N.length c2]] w fun e w' => e = .returned (.slice none 0 0) ∧ Below w.heap.size w w' := by
 have HR0 := Aside0.mk hr0
 have HR1 := Aside0.mk hr1
 have HR2 := Aside0.mk hr2
 have c3 : (t == 0) = false := beq_eq_false_iff_ne.mpr hne
 have c4 : (t != 0) = true := bne_iff_ne.mpr hne
 have hu := Tryd.underlying30
 have HT := Aside0.mk ht
 clear ht hr0 hr1 hr2 hne
 have HB := Aside0.mk ((Below.refl w.heap.size w).alloc (Nat.le_refl _) (.cells #[.slice A0 R.length c0, .slice A1 T.length c1, .slice A2 N.length c2] 30))
 go_enter Tryd.func15, Tryd.ntmps15
 go_wp2_with (fail)
 refine (impl_StateOk.calls k _ _ R _ _ T _ _ N t _ (Kd.C_below HR0.out HB.out) hc0 (Kd.C_below HR1.out HB.out) hc1 (Kd.C_below HR2.out HB.out) hc2 HT.out).mono ?_
 rintro e w1 ⟨rfl, hb⟩
 have HB_ := Aside0.mk (below_step HB.out hb)
 clear HB hb HT
 go_wp2_with (fail)
 go_ret
 exact ⟨rfl, HB_.out⟩
set_option maxRecDepth 100000 in
theorem cost_wrong (k : Nat) (A0 : Option Addr) (c0 : Nat) (R : List Int) (A1 : Option Addr) (c1 : Nat) (T : List S48) (A2 : Option Addr) (c2 : Nat) (N : List Int) (t : Int) (w : World) (hr0 : Kd.C (Kd.int .i64) w A0 R.length R) (hc0 : R.length ≤ c0) (hr1 : Kd.C k48 w A1 T.length T) (hc1 : T.length ≤ c1) (hr2 : Kd.C (Kd.int .i64) w A2 N.length N) (hc2 : N.length ≤ c2) (ht : impl_StateOk.f k R T N = some t) (hne : t ≠ 0) :
  Calls Tryd.prog 17 #[.agg #[.slice A0 R.length c0, .slice A1 T.length c1, .slice A2 N.length c2], .slice none 0 0] w fun e w' => e = .returned (.int .i64 (-1)) ∧ Below w.heap.size w w' := by
 have HR0 := Aside0.mk hr0
 have HR1 := Aside0.mk hr1
 have HR2 := Aside0.mk hr2
 have c3 : (t == 0) = false := beq_eq_false_iff_ne.mpr hne
 have c4 : (t != 0) = true := bne_iff_ne.mpr hne
 have hu := Tryd.underlying30
 have HT := Aside0.mk ht
 clear ht hr0 hr1 hr2 hne
 have HB := Aside0.mk ((Below.refl w.heap.size w).alloc (Nat.le_refl _) (.cells #[.slice A0 R.length c0, .slice A1 T.length c1, .slice A2 N.length c2] 30))
 go_enter Tryd.func17, Tryd.ntmps17
 go_wp2_with (fail)
 refine (impl_StateOk.calls k _ _ R _ _ T _ _ N t _ (Kd.C_below HR0.out HB.out) hc0 (Kd.C_below HR1.out HB.out) hc1 (Kd.C_below HR2.out HB.out) hc2 HT.out).mono ?_
 rintro e w1 ⟨rfl, hb⟩
 have HB_ := Aside0.mk (below_step HB.out hb)
 clear HB hb HT
 go_wp2_with (fail)
 go_ret
 exact ⟨rfl, HB_.out⟩
set_option maxRecDepth 100000 in
theorem free_wrong (k : Nat) (A0 : Option Addr) (c0 : Nat) (R : List Int) (A1 : Option Addr) (c1 : Nat) (T : List S48) (A2 : Option Addr) (c2 : Nat) (N : List Int) (t : Int) (w : World) (hr0 : Kd.C (Kd.int .i64) w A0 R.length R) (hc0 : R.length ≤ c0) (hr1 : Kd.C k48 w A1 T.length T) (hc1 : T.length ≤ c1) (hr2 : Kd.C (Kd.int .i64) w A2 N.length N) (hc2 : N.length ≤ c2) (ht : impl_StateOk.f k R T N = some t) (hne : t ≠ 0) :
  Calls Tryd.prog 18 #[.agg #[.slice A0 R.length c0, .slice A1 T.length c1, .slice A2 N.length c2], .int .i64 0] w fun e w' => e = .returned (.int .i64 (-1)) ∧ Below w.heap.size w w' := by
 have HR0 := Aside0.mk hr0
 have HR1 := Aside0.mk hr1
 have HR2 := Aside0.mk hr2
 have c3 : (t == 0) = false := beq_eq_false_iff_ne.mpr hne
 have c4 : (t != 0) = true := bne_iff_ne.mpr hne
 have hu := Tryd.underlying30
 have HT := Aside0.mk ht
 clear ht hr0 hr1 hr2 hne
 have HB := Aside0.mk ((Below.refl w.heap.size w).alloc (Nat.le_refl _) (.cells #[.slice A0 R.length c0, .slice A1 T.length c1, .slice A2 N.length c2] 30))
 go_enter Tryd.func18, Tryd.ntmps18
 go_wp2_with (fail)
 refine (impl_StateOk.calls k _ _ R _ _ T _ _ N t _ (Kd.C_below HR0.out HB.out) hc0 (Kd.C_below HR1.out HB.out) hc1 (Kd.C_below HR2.out HB.out) hc2 HT.out).mono ?_
 rintro e w1 ⟨rfl, hb⟩
 have HB_ := Aside0.mk (below_step HB.out hb)
 clear HB hb HT
 go_wp2_with (fail)
 go_ret
 exact ⟨rfl, HB_.out⟩
theorem infoB : (Tryd.prog.info? 40).map (·.size) = some 3 := by kernel_rfl
set_option maxRecDepth 100000 in
theorem solve_wrong (k : Nat) (A0 : Option Addr) (c0 : Nat) (R : List Int) (A1 : Option Addr) (c1 : Nat) (T : List S48) (A2 : Option Addr) (c2 : Nat) (N : List Int) (t : Int) (w : World) (hr0 : Kd.C (Kd.int .i64) w A0 R.length R) (hc0 : R.length ≤ c0) (hr1 : Kd.C k48 w A1 T.length T) (hc1 : T.length ≤ c1) (hr2 : Kd.C (Kd.int .i64) w A2 N.length N) (hc2 : N.length ≤ c2) (ht : impl_StateOk.f k R T N = some t) (hne : t ≠ 0) :
  Calls Tryd.prog 16 #[.agg #[.slice A0 R.length c0, .slice A1 T.length c1, .slice A2 N.length c2]] w fun e w' => e = .returned (.agg #[.bool false, .int .i64 0, .slice none 0 0]) ∧ Below w.heap.size w w' := by
 have HR0 := Aside0.mk hr0
 have HR1 := Aside0.mk hr1
 have HR2 := Aside0.mk hr2
 have c3 : (t == 0) = false := beq_eq_false_iff_ne.mpr hne
 have c4 : (t != 0) = true := bne_iff_ne.mpr hne
 have hu := Tryd.underlying30
 have hu2 := Tryd.underlying40
 have HT := Aside0.mk ht
 clear ht hr0 hr1 hr2 hne
 have h1 := (Below.refl w.heap.size w).alloc (Nat.le_refl _) (.cells #[.slice A0 R.length c0, .slice A1 T.length c1, .slice A2 N.length c2] 30)
 have HB := Aside0.mk (h1.alloc (by simp) (.cells #[.bool false, .int .i64 0, .slice none 0 0] 40))
 have hs : (w.alloc (.cells #[.slice A0 R.length c0, .slice A1 T.length c1, .slice A2 N.length c2] 30)).heap.size = w.heap.size + 1 := by simp
 have BR := Aside0.mk (heap_alloc_new (w.alloc (.cells #[.slice A0 R.length c0, .slice A1 T.length c1, .slice A2 N.length c2] 30)) (.cells #[.bool false, .int .i64 0, .slice none 0 0] 40))
 rw [hs] at BR
 have z0 : ((w.alloc (.cells #[.slice A0 R.length c0, .slice A1 T.length c1, .slice A2 N.length c2] 30)).alloc (.cells #[.bool false, .int .i64 0, .slice none 0 0] 40)).cell? ⟨w.heap.size, 0, none⟩ = some (.slice A0 R.length c0) := (blk_cell (blk_alloc (heap_alloc_new w (.cells #[.slice A0 R.length c0, .slice A1 T.length c1, .slice A2 N.length c2] 30)) _) 0).trans rfl
 have z1 : ((w.alloc (.cells #[.slice A0 R.length c0, .slice A1 T.length c1, .slice A2 N.length c2] 30)).alloc (.cells #[.bool false, .int .i64 0, .slice none 0 0] 40)).cell? ⟨w.heap.size, 1, none⟩ = some (.slice A1 T.length c1) := (blk_cell (blk_alloc (heap_alloc_new w (.cells #[.slice A0 R.length c0, .slice A1 T.length c1, .slice A2 N.length c2] 30)) _) 1).trans rfl
 have z2 : ((w.alloc (.cells #[.slice A0 R.length c0, .slice A1 T.length c1, .slice A2 N.length c2] 30)).alloc (.cells #[.bool false, .int .i64 0, .slice none 0 0] 40)).cell? ⟨w.heap.size, 2, none⟩ = some (.slice A2 N.length c2) := (blk_cell (blk_alloc (heap_alloc_new w (.cells #[.slice A0 R.length c0, .slice A1 T.length c1, .slice A2 N.length c2] 30)) _) 2).trans rfl
 clear h1
 go_enter Tryd.func16, Tryd.ntmps16
 go_wp2_with (fail)
 clear z0 z1 z2 hs
 generalize ((w.alloc (.cells #[.slice A0 R.length c0, .slice A1 T.length c1, .slice A2 N.length c2] 30)).alloc (.cells #[.bool false, .int .i64 0, .slice none 0 0] 40)) = W at *
 refine (impl_StateOk.calls k _ _ R _ _ T _ _ N t _ (Kd.C_below HR0.out HB.out) hc0 (Kd.C_below HR1.out HB.out) hc1 (Kd.C_below HR2.out HB.out) hc2 HT.out).mono ?_
 rintro e w1 ⟨rfl, hb⟩
 have HB_ := Aside0.mk (below_step HB.out hb)
 have BR_ := Aside0.mk (blk_below BR.out hb)
 clear HB BR hb HT
 go_wp2_with (first
  | ((with_reducible refine gate_store (t := 40) (p := 2) rfl ?_); (try simp only [Act.put, List.setIfInBounds_toArray, List.set_cons_zero, List.set_cons_succ]); refine row_wr_ rfl 40 (.tmp 2) (.tmp 17) rfl rfl (w.heap.size + 1) rfl (c' := #[.bool false, .int .i64 0, .slice none 0 0]) rfl BR_.out infoB rfl (by simp [Value.oneCell']) ?_; intro wE hwE hgE; have BE := Aside0.mk hwE; have HG := Aside0.mk hgE; clear hwE hgE))
 refine bodyPost_ret (results_cell_row rfl _ _ (w.heap.size + 1) 40 #[.bool false, .int .i64 0, .slice none 0 0] (0, 0) _ rfl BE.out Tryd.underlying40 rfl (by kernel_rfl)) rfl ?_
 exact ⟨rfl, pw_below_grown HB_.out _ HB_.out.size HG.out (fun k hk => by injection hk with hk; omega)⟩
end Go.Proofs.YtkcocomehhlpmaaDoor.Ds
