/- The search of the program: what a position costs. Walked by hand. -/
import Derived.Test.YtkcocomehhlpmaaDoorFnSpoiltSr4
import Derived.Test.YtkcocomehhlpmaaDoorFnSpoiltSr6
import Derived.Deep.WholeRow
namespace Go.Proofs.YtkcocomehhlpmaaDoor.Sr
open Go.RowKit Go.Maps Go.Proofs.YtkcocomehhlpmaaDoorW.PrintWords Go.Proofs.YtkcocomehhlpmaaDoorW.PrintLast Go.Proofs.YtkcocomehhlpmaaDoorW.PrintMore Go.Proofs.YtkcocomehhlpmaaDoor.Q Go.Proofs.YtkcocomehhlpmaaDoor.Pu
attribute [local go_sem] max2_int min2_int max_two min_two max_three min_three max_four min_four
set_option linter.unusedVariables false
set_option linter.unusedSimpArgs false
/-- The search at gs, in a world that has come from w0, where the state's rows lie. -/
structure St (w0 W : World) (gs : Nat) (A0 : Option Addr) (c0 : Nat) (l0 : List Int) (A1 : Option Addr) (c1 : Nat) (l1 : List S48) (A2 : Option Addr) (c2 : Nat) (l2 : List Int) (b : Nat) : Prop where
 blk : W.heap[gs]? = some (.cells #[.slice A0 l0.length c0, .slice A1 l1.length c1, .slice A2 l2.length c2, .map (some b)] 90 (0, 0))
 low : Below w0.heap.size w0 W
 gl : w0.heap.size ≤ gs
 bl : w0.heap.size ≤ b
 r0 : Kd.C (Kd.int .i64) w0 A0 l0.length l0
 h0 : l0.length ≤ c0
 r1 : Kd.C k48 w0 A1 l1.length l1
 h1 : l1.length ≤ c1
 r2 : Kd.C (Kd.int .i64) w0 A2 l2.length l2
 h2 : l2.length ≤ c2
section
variable {w0 W W' : World} {gs : Nat} {A0 : Option Addr} {c0 : Nat} {l0 : List Int} {A1 : Option Addr} {c1 : Nat} {l1 : List S48} {A2 : Option Addr} {c2 : Nat} {l2 : List Int} {b : Nat} {D : DataW Unit}
theorem St.sr (h : St w0 W gs A0 c0 l0 A1 c1 l1 A2 c2 l2 b) : Sr W gs A0 c0 l0 A1 c1 l1 A2 c2 l2 b :=
 ⟨h.blk, Kd.C_below h.r0 h.low, h.h0, Kd.C_below h.r1 h.low, h.h1, Kd.C_below h.r2 h.low, h.h2⟩
theorem St.grown (h : St w0 W gs A0 c0 l0 A1 c1 l1 A2 c2 l2 b) (hm : Memo W b l0 l1 D) (hg : W.grownBy W' (some b)) : St w0 W' gs A0 c0 l0 A1 c1 l1 A2 c2 l2 b := by
 have hlt : gs < W.heap.size := (Array.getElem?_eq_some_iff.1 h.blk).1
 have hne := hm.ne h.blk
 exact ⟨(hg.block gs hlt (fun e => hne (by injection e))).trans h.blk, h.low.grown hg h.low.size (fun k hk => by injection hk with hk; rw [← hk]; exact h.bl), h.gl, h.bl, h.r0, h.h0, h.r1, h.h1, h.r2, h.h2⟩
end
theorem grown_below {W W' : World} (h : Below W.heap.size W W') (r : Option Nat) : W.grownBy W' r := ⟨h.os, h.tape, h.output, h.size, fun i hi _ => h.block i hi⟩
theorem grown_trans {a b c : World} {r : Option Nat} (h : a.grownBy b r) (k : b.grownBy c r) : a.grownBy c r :=
 ⟨k.os.trans h.os, k.tape.trans h.tape, k.output.trans h.output, Nat.le_trans h.size k.size, fun i hi hr => (k.block i (Nat.lt_of_lt_of_le hi h.size) hr).trans (h.block i hi hr)⟩
theorem info74 : (Tryd.prog.info? 75).map (·.size) = some 5 := by kernel_rfl
theorem load_arr {W : World} {g : Nat} {v : List Nat} (h : W.heap[g]? = some (.cells (arrV v) 75 (0, 0))) (hv : v.length = 5) : (Instr.loadAt 75 (.pointer (some ⟨g, 0, none⟩))).run Tryd.prog W = .ok (.agg (arrV v)) W := by
 simp only [Instr.loadAt, Instr.sureAddr, Sem.run_bind, Sem.run_pure, Result.andThen]
 exact run_loadVar_row W g 75 75 (arrV v) (0, 0) _ h Tryd.underlying75 rfl (by rw [info74]; simp [arrV, hv])
section
variable {P : Program} {C : World → Prop} {K : Act → Prop} {a : Act} {o : Oper}
theorem quiet_load (t : TypeId) (x : Operand) (u val : Value) (ho : o.op = .load t x) (hx : a.eval x = u) (h : ∀ w, C w → (Instr.loadAt t u).run P w = .ok val w) (hk : K (a.put o.dst val)) : o.quiet P a C K :=
 ⟨_, fun w hw => by unfold Oper.quietAt; simp only [execOp, ho, hx, Sem.run_bind, h w hw, Sem.run_pure, Result.andThen_ok]; exact ⟨rfl, rfl⟩, hk⟩
end
theorem exec_load {P : Program} {ρ : Operand → Value} {o : Oper} {w : World} (t : TypeId) (x : Operand) (u val : Value) (ho : o.op = .load t x) (hx : ρ x = u) (h : (Instr.loadAt t u).run P w = .ok val w) : (execOp ρ o).run P w = .ok (.value val) w := by
 simp only [execOp, ho, hx, Sem.run_bind, h, Sem.run_pure, Result.andThen_ok]
theorem exec_store {P : Program} {ρ : Operand → Value} {o : Oper} {w w' : World} (t : TypeId) (x y : Operand) (u val : Value) (ho : o.op = .store t x y) (hx : ρ x = u) (hy : ρ y = val) (h : (Instr.storeAt t u val).run P w = .ok () w') : (execOp ρ o).run P w = .ok .skip w' := by
 simp only [execOp, ho, hx, hy, Sem.run_bind, h, Sem.run_pure, Result.andThen_ok]
theorem exec_update {P : Program} {ρ : Operand → Value} {o : Oper} {w w' : World} (t : TypeId) (m x y : Operand) (um ux uy : Value) (ho : o.op = .mapUpdate t m x y) (hm : ρ m = um) (hx : ρ x = ux) (hy : ρ y = uy) (h : (Instr.mapUpdate t um ux uy).run P w = .ok () w') : (execOp ρ o).run P w = .ok .skip w' := by
 simp only [execOp, ho, hm, hx, hy, Sem.run_bind, h, Sem.run_pure, Result.andThen_ok]
def zer : Array Value := #[.int .i64 0, .int .i64 0, .int .i64 0, .int .i64 0, .int .i64 0]
theorem alloc_arr (W : World) : (Instr.alloc 75 true (.tuple #[])).run Tryd.prog W = .ok (.pointer (some ⟨W.heap.size, 0, none⟩)) (W.alloc (.cells zer 75)) := by kernel_rfl
theorem exec_alloc {P : Program} {ρ : Operand → Value} {o : Oper} {w w' : World} (t : TypeId) (val : Value) (ho : o.op = .alloc t) (h : (Instr.alloc t true (.tuple #[])).run P w = .ok val w') : (execOp ρ o).run P w = .ok (.value val) w' := by
 simp only [execOp, ho, Sem.run_bind, h, Sem.run_pure, Result.andThen_ok]
theorem store_arr (W : World) {v : List Nat} (hv : v.length = 5) : (Instr.storeAt 75 (.pointer (some ⟨W.heap.size, 0, none⟩)) (.agg (arrV v))).run Tryd.prog (W.alloc (.cells zer 75)) = .ok () (W.alloc (.cells (arrV v) 75)) :=
 run_storeAt_new W 75 zer (arrV v) (by rw [info74]; simp [arrV, hv]) (by simp [arrV, hv, zer]) (by simp [arrV, Value.oneCell'])
theorem arrV_inc {v : List Nat} {j : Nat} (hj : j < v.length) : (arrV v).setIfInBounds j (.int .i64 ((v.getD j 0 : Nat) + 1 : Int)) = arrV (inc v j) := by
 unfold arrV inc
 simp [List.map_set]
theorem map_getD (L : List Nat) (i : Nat) : (L.map (fun (j : Nat) => (j : Int))).getD i 0 = ((L.getD i 0 : Nat) : Int) := by
 simp [List.getD]
 cases L[i]? <;> simp
set_option maxHeartbeats 1000000 in
set_option maxRecDepth 100000 in
theorem best_calls (K : Keyed Tryd.prog 75) {w0 : World} {gs : Nat} {A0 : Option Addr} {c0 : Nat} {l0 : List Int} {A1 : Option Addr} {c1 : Nat} {l1 : List S48} {A2 : Option Addr} {c2 : Nat} {l2 : List Int} {b : Nat} (hw : Wf l0 l1 l2) :
  ∀ (m : Nat) (v : List Nat) (W : World) (D : DataW Unit), okV l1 v → lftP l1 v l1.length = m → St w0 W gs A0 c0 l0 A1 c1 l1 A2 c2 l2 b → Memo W b l0 l1 D →
  Calls Tryd.prog 40 #[.pointer (some ⟨gs, 0, none⟩), .agg (arrV v)] W fun e W' => e = .returned (.int .i64 (V l0 l1 v)) ∧ W.grownBy W' (some b) ∧ ∃ D', Memo W' b l0 l1 D' := by
 intro m
 induction m using Nat.strongRecOn with
 | _ m ih =>
 intro v W D hv hm hst hme
 have IH := Aside0.mk ih
 have HW := Aside0.mk hw
 have HV := Aside0.mk hv
 have HT := Aside0.mk hst
 have HM := Aside0.mk hme
 have HMW := Aside0.mk hme
 have HLF := Aside0.mk hm
 have hv5 := hv.1
 have hbox := boxL_mem 5 v hv.1 (okV_le hw hv)
 have HBX := Aside0.mk hbox
 have x1 : W.cell? ⟨gs, 1, none⟩ = some (.slice A1 l1.length c1) := (blk_cell hst.blk 1).trans rfl
 have x3 : W.cell? ⟨gs, 3, none⟩ = some (.map (some b)) := (blk_cell hst.blk 3).trans rfl
 have ht1 := hw.t1
 clear ih hv hm hst hme hbox hw
 go_enter Tryd.func40, Tryd.ntmps40
 go_wp2_with (first | ((with_reducible refine gate_dst (N := 3) rfl ?_); refine box_event ?hg (N := 3) ?hd (cs := arrV v) (t := 75) ?hr ?_; (case hd => rfl); (case hg => rfl); (case hr => first | (go_simp; done) | (go_simp; rfl)); intro gb hg w1 hbox hb; subst hg; have HB := Aside0.mk hb; have BK := Aside0.mk hbox; clear hb hbox; replace x3 := (HB.out.cell (World.block_lt_of_cell? W _ x3)).trans x3; replace x1 := (HB.out.cell (World.block_lt_of_cell? W _ x1)).trans x1))
 have HM1 := Aside0.mk (HM.out.kept (grown_below HB.out none) (by simp))
 obtain ⟨c, hlk, hc⟩ := HM1.out.look K HBX.out
 have hlk' : ∀ n, (Instr.lookup 88 (.map (some b)) (.agg (arrV v)) true).run Tryd.prog (w1.drewN n) = .ok (.tuple #[.int .i64 c, .bool (Maps.has D (keyP v))]) (w1.drewN n) := hlk
 have hld : ∀ n, (Instr.loadAt 75 (.pointer (some ⟨W.heap.size, 0, none⟩))).run Tryd.prog (w1.drewN n) = .ok (.agg (arrV v)) (w1.drewN n) := fun n => load_arr BK.out hv5
 clear hlk
 have HC := Aside0.mk hc
 clear hc
 generalize Maps.has D (keyP v) = hit at hlk' HC
 cases hit
 ·skip
  refine wp_region_quiet_lit (by kernel_rfl) (by kernel_rfl) ?_
  repeat (go_big_quiet_step (fail))
  go_big_quiet_want
  refine quiet_load 75 (.tmp 3) (.pointer (some ⟨W.heap.size, 0, none⟩)) (.agg (arrV v)) rfl rfl (fun w hw => by obtain ⟨n, rfl⟩ := hw; exact hld n) ?_
  go_simp
  go_big_quiet_on
  repeat (go_big_quiet_step (fail))
  refine wpQuiet_nil ?_
  intro _ hw'
  obtain ⟨nq, hw''⟩ := hw'
  subst hw''
  have HBn := Aside0.mk (pw_below_drewN HB.out nq)
  have BKn : Aside0 ((w1.drewN nq).heap[W.heap.size]? = some (.cells (arrV v) 75 (0, 0))) := ⟨BK.out⟩
  have HMn := Aside0.mk (HM1.out.drew nq)
  clear HB BK HM1 HC hlk' hld HM
  generalize w1.drewN nq = wB at *
  have HB := HBn
  have BK := BKn
  have HM := HMn
  clear HBn BKn HMn
  replace x1 : wB.cell? ⟨gs, 1, none⟩ = some (.slice A1 l1.length c1) := (HB.out.cell (World.block_lt_of_cell? W _ ((blk_cell HT.out.blk 1).trans rfl))).trans ((blk_cell HT.out.blk 1).trans rfl)
  clear x3
  have HS := Aside0.mk (HT.out.sr.below HB.out)
  go_wp2_with (fail)
  go_loopw [7, 8, 33] (fun x7 x8 x33 wr => ∃ i : Nat, i ≤ l1.length ∧ x33 = .int .i64 i ∧ x7 = .int .i64 (wtP l1 v i) ∧ x8 = .bool (hereP l1 v i) ∧ Aside0 (Below wB.heap.size wB wr)) (fun _ _ x33 _ => l1.length - (intOf x33).toNat)
  case atStart => exact ⟨0, Nat.zero_le _, rfl, rfl, rfl, ⟨Below.refl _ _⟩⟩
  case round =>
   obtain ⟨i, hi, rfl, rfl, rfl, HB1⟩ := hrel
   by_cases hlt : i < l1.length
   ·have d34 : decide ((i : Int) < (l1.length : Int)) = true := decide_eq_true (by omega)
    have p5 : (0 : Int) ≤ (i : Int) := by omega
    have q5 : (i : Int) < 5 := by omega
    have q6 : (i : Int) < (l1.length : Int) := by omega
    have HS1 := Aside0.mk (HS.out.below HB1.out)
    obtain ⟨ad, B, c, e, y0, y1, y2, hl, hC⟩ := at_T48 HS1.out.r1 (i : Int) p5 q6
    subst e
    rw [Int.toNat_natCast] at y0 y1 y2
    have er : rd_T48 l1 (i : Int) = l1.getD i z48 := rd_T l1 i
    rw [er] at y0 y1 y2
    clear hl hC er
    have BK1 := Aside0.mk (blk_below BK.out HB1.out)
    have k1 : wr.cell? ⟨W.heap.size, i, none⟩ = some (.int .i64 ((v.getD i 0 : Nat) : Int)) := (blk_cell BK1.out i).trans (arrV_get v (by omega))
    have hu := Tryd.underlying48
    have hpl : (l1.getD i z48).f1.length ≤ 1000 := by have := HW.out.path _ (getD_mem z48 hlt); omega
    have hwt := HW.out.wt _ (getD_mem z48 hlt)
    have eA : atP l1 v i = atD (l1.getD i z48) (v.getD i 0) := rfl
    have HWS := Aside0.mk (show wtP l1 v (i + 1) = wtP l1 v i + (if 0 ≤ atP l1 v i then (l1.getD i z48).f2 else 0) from rfl)
    have HHS := Aside0.mk (hereP_succ l1 v i)
    have hwr := wtP_range HW.out v i hi
    have hz0 : (0 : Int) ≤ ((v.getD i 0 : Nat) : Int) := by omega
    have hz1 : v.getD i 0 ≤ 1000 := by have := HV.out.2.1 i hlt; have := HW.out.path _ (getD_mem z48 hlt); omega
    have HPL := Aside0.mk hpl
    have HEA := Aside0.mk eA
    have HZ1 := Aside0.mk hz1
    clear hpl eA hz1
    generalize hf : ((v.getD i 0 : Nat) : Int) = z at k1 hz0
    have HZ := Aside0.mk hf
    clear hf
    generalize hte : l1.getD i z48 = t at y0 y1 y2 hwt HWS
    have HTE := Aside0.mk hte
    clear hte
    generalize hwt' : wtP l1 v i = wt at HWS hwr
    generalize hhr : hereP l1 v i = hr at HHS
    clear hwt' hhr
    have HBA := Aside0.mk ((Below.refl wr.heap.size wr).alloc (Nat.le_refl _) (.cells #[.int .i64 t.f0, .slice B t.f1.length c, .int .i64 t.f2] 48))
    have HBB := Aside0.mk (HB1.out.alloc (below_size HB1.out) (.cells #[.int .i64 t.f0, .slice B t.f1.length c, .int .i64 t.f2] 48))
    have k2 := (HBA.out.cell (World.block_lt_of_cell? wr _ k1)).trans k1
    go_wp2_with (fail)
    refine (at_callsI _ (HS1.out.below HBA.out) (i : Int) z (v.getD i 0) p5 (by rw [Int.toNat_natCast]; exact hlt) HZ.out.symm HZ1.out (by rw [Int.toNat_natCast]; exact HPL.out)).mono ?_
    rintro e w4 ⟨rfl, hb⟩
    rw [Int.toNat_natCast, ← HEA.out]
    have BT := blk_below (heap_alloc_new wr (.cells #[.int .i64 t.f0, .slice B t.f1.length c, .int .i64 t.f2] 48)) hb
    have yt : w4.cell? ⟨wr.heap.size, 2, none⟩ = some (.int .i64 t.f2) := (blk_cell BT 2).trans rfl
    have HB2 := Aside0.mk (below_step HBB.out hb)
    clear HB1 HS1 HBA HBB hb BK1 k1 k2 y0 y1 y2 BT
    generalize hat : atP l1 v i = at_ at HWS HHS
    clear hat
    by_cases c : 0 ≤ at_
    ·have d44 : decide (at_ ≥ 0) = true := decide_eq_true c
     have ew : wrap64 (wt + t.f2) = wt + t.f2 := w64 (by omega) (by omega)
     go_wp2_with (fail)
     go_roundw
     case measure => simp [intOf]; omega
     case rel => exact ⟨i + 1, hlt, by go_num, by rw [HWS.out, if_pos c], by rw [HHS.out, show decide (0 ≤ at_) = true from d44, Bool.or_true], HB2⟩
    ·have d44 : decide (at_ ≥ 0) = false := decide_eq_false c
     go_wp2_with (fail)
     go_roundw
     case measure => simp [intOf]; omega
     case rel => exact ⟨i + 1, hlt, by go_num, by rw [HWS.out, if_neg (by omega), Int.add_zero], by rw [HHS.out, show decide (0 ≤ at_) = false from d44, Bool.or_false], HB2⟩
   ·have d34 : decide ((i : Int) < (l1.length : Int)) = false := decide_eq_false (by omega)
    have hie : i = l1.length := by omega
    subst hie
    have HBC := Aside0.mk (below_step HB.out HB1.out)
    have BKC := Aside0.mk (blk_below BK.out HB1.out)
    have HSC := Aside0.mk (HS.out.below HB1.out)
    have HMC := Aside0.mk (HM.out.kept (grown_below HB1.out none) (by simp))
    clear HB BK HS HM HB1 x1
    generalize hwC : wr = wC at *
    clear hwC
    have hwr := wtP_range HW.out v l1.length (Nat.le_refl _)
    have HVE := Aside0.mk (V_eq (R := l0) (T := l1) (v := v) (by omega))
    have hvb : ∀ x ∈ v, x ≤ 100 := fun x hx => by have := okV_le HW.out HV.out x hx; omega
    generalize hwt : wtP l1 v l1.length = wt at hwr HVE
    generalize hhr : hereP l1 v l1.length = hr at HVE
    clear hwt hhr
    have LOOP : True := trivial
    cases hr
    ·go_wp2_with (first | ((with_reducible refine gate_dst (N := 53) rfl ?_); refine wpList_load_row rfl 75 (.tmp 3) rfl W.heap.size rfl 75 (arrV v) (0, 0) _ BKC.out Tryd.underlying75 rfl (by rw [info74]; simp [arrV, hv5]) ?_))
     refine (moves_calls wC HSC.out HW.out v hv5 hvb).mono ?_
     rintro e w4 ⟨vM, rfl, hR, hb⟩
     obtain ⟨AM, cM, eM⟩ := Kd.R_slice hR
     rw [List.length_map] at eM
     subst eM
     have HMEM := Aside0.mk (fun (i : Nat) (h : i ∈ mvP l0 l1 v l1.length) => (⟨(mvP_mem h).1, okV_inc HW.out.t1 HV.out h, lft_mv (R := l0) (T := l1) (v := v) (by omega) h⟩ : i < l1.length ∧ okV l1 (inc v i) ∧ lftP l1 (inc v i) l1.length + 1 = lftP l1 v l1.length))
     have hll : (mvP l0 l1 v l1.length).length ≤ 5 := Nat.le_trans (mvP_len l0 l1 v l1.length) ht1
     generalize mvP l0 l1 v l1.length = L at *
     have HR := Aside0.mk hR
     have HBD := Aside0.mk (below_step HBC.out hb)
     have BKD := Aside0.mk (blk_below BKC.out hb)
     have HMD := Aside0.mk (HMC.out.kept (grown_below hb none) (by simp))
     have HCS := Aside0.mk (below_size HBC.out)
     clear HBC BKC HSC HMC hR hb
     have HGD : Aside0 (W.grownBy w4 (some b)) := ⟨grown_below HBD.out _⟩
     go_wp2_with (fail)
     go_loopw [11, 56] (fun x11 x56 wr => ∃ i : Nat, i ≤ L.length ∧ x56 = .int .i64 i ∧ x11 = .int .i64 ((L.take i).foldl (fun c j => betP wt c (V l0 l1 (inc v j))) (0)) ∧ Aside0 (w4.grownBy wr (some b)) ∧ Aside0 (∃ D', Memo wr b l0 l1 D')) (fun _ x56 _ => L.length - (intOf x56).toNat)
     case atStart => exact ⟨0, Nat.zero_le _, rfl, rfl, ⟨World.grownBy.refl _ _⟩, ⟨D, HMD.out⟩⟩
     case round =>
      obtain ⟨i, hi, rfl, rfl, HG, HME⟩ := hrel
      obtain ⟨D', hme⟩ := HME.out
      have HM := Aside0.mk hme
      clear hme HME
      by_cases hlt : i < L.length
      ·have d57 : decide ((i : Int) < (L.length : Int)) = true := decide_eq_true (by omega)
       have p5 : (0 : Int) ≤ (i : Int) := by omega
       have q6 : (i : Int) < (L.length : Int) := by omega
       obtain ⟨gM, cM', eM, gbM, glM, clM, HGM⟩ := Kd.R_form HR.out (by rw [List.length_map]; omega)
       rw [List.length_map] at eM
       injection eM with eM _ eM'
       subst eM eM'
       obtain ⟨k58, _⟩ := Kd.R_celln 0 HR.out (i : Int) p5 q6
       have hj := getD_mem 0 hlt
       obtain ⟨hj1, hj2, hj3⟩ := HMEM.out _ hj
       have ej : rdOf 0 (L.map (fun (j : Nat) => (j : Int))) (i : Int) = ((L.getD i 0 : Nat) : Int) := map_getD L i
       rw [ej, Int.toNat_natCast] at k58
       have HTS : Aside0 ((L.take (i + 1)).foldl (fun c j => betP wt c (V l0 l1 (inc v j))) (0) = betP wt ((L.take i).foldl (fun c j => betP wt c (V l0 l1 (inc v j))) (0)) (V l0 l1 (inc v (L.getD i 0)))) := ⟨by
        have h1 : L.take (i + 1) = L.take i ++ [L.getD i 0] := by
         rw [List.take_add_one]
         simp [List.getD, hlt]
        rw [h1, List.foldl_append]; rfl⟩
       have k58' := HG.out.cell k58 (by intro e; injection e with e; have := HCS.out; have := HM.out.lt; have := HMD.out.lt; have hbb := HT.out; have := (HMW.out).lt; dsimp only at e; omega)
       have hjr : L.getD i 0 < 5 := by have := hj1; have := HW.out.t1; omega
       have HJ2 := Aside0.mk hj2
       have HJ3 := Aside0.mk hj3
       clear hj hj1 hj2 hj3 k58 ej
       generalize L.getD i 0 = j at *
       have p7 : (0 : Int) ≤ (j : Int) := by omega
       have q7 : (j : Int) < 5 := by omega
       have BKr : Aside0 (wr.heap[W.heap.size]? = some (.cells (arrV v) 75 (0, 0))) := ⟨(HG.out.block _ (Array.getElem?_eq_some_iff.1 BKD.out).1 (fun e => HMD.out.ne BKD.out (by injection e))).trans BKD.out⟩
       have hz0 : (0 : Int) ≤ ((v.getD j 0 : Nat) : Int) := by omega
       have hz1 : ((v.getD j 0 : Nat) : Int) ≤ 100 := by have := hvb _ (getD_mem 0 (show j < v.length by omega)); omega
       have kz : (arrV v)[j]? = some (.int .i64 ((v.getD j 0 : Nat) : Int)) := arrV_get v (by omega)
       have hinc := arrV_inc (v := v) (j := j) (by omega)
       generalize hf : ((v.getD j 0 : Nat) : Int) = z at hz0 hz1 kz hinc
       clear hf
       have KZ := Aside0.mk kz
       have HINC := Aside0.mk hinc
       clear kz hinc
       have ew : wrap64 (z + 1) = z + 1 := w64 (by omega) (by omega)
       go_wp2_with (first
        | ((with_reducible refine gate_dst (N := 60) rfl ?_); refine wpList_load_row rfl 75 (.tmp 3) rfl W.heap.size rfl 75 (arrV v) (0, 0) _ BKr.out Tryd.underlying75 rfl (by rw [info74]; simp [arrV, hv5]) ?_)
        | ((with_reducible refine gate_dst (N := 14) rfl ?_); refine Kd.event_run rfl (exec_alloc 75 _ rfl (alloc_arr wr)) ?_)
        | ((with_reducible refine gate_store (t := 75) (p := 14) rfl ?_); refine store_event (t := 75) (p := 14) (v := .tmp 60) (w1 := wr.alloc (.cells (arrV v) 75)) rfl rfl rfl (exec_store 75 (.tmp 14) (.tmp 60) _ _ rfl rfl rfl (store_arr wr hv5)) ?_; intro w5 hw5; have k63 : w5.cell? ⟨wr.heap.size, j, none⟩ = some (.int .i64 z) := (by rw [hw5]; exact (blk_cell (heap_alloc_new wr _) j).trans KZ.out); have f63 : w5.frozen? ⟨wr.heap.size, j, none⟩ = false := (by rw [hw5]; exact blk_frozen (heap_alloc_new wr _) j); have HW5 := Aside0.mk hw5; clear hw5)
        | ((with_reducible refine gate_store (t := 3) (p := 65) rfl ?_); refine store_event (t := 3) (p := 65) (v := .tmp 64) (w1 := w5.setCell ⟨wr.heap.size, j, none⟩ (.int .i64 (z + 1))) rfl rfl rfl ?hr ?_; (case hr => first | (go_simp; done) | (go_simp; rfl)); intro w6 hw6; rw [HW5.out, World.setCell_alloc_new, HINC.out] at hw6; have BN := Aside0.mk (show w6.heap[wr.heap.size]? = some (.cells (arrV (inc v j)) 75 (0, 0)) from by rw [hw6]; exact heap_alloc_new wr _); have GB := Aside0.mk (show Below wr.heap.size wr w6 from by rw [hw6]; exact (Below.refl _ _).alloc (Nat.le_refl _) _); clear hw6 HW5 k63 f63)
        | ((with_reducible refine gate_dst (N := 67) rfl ?_); refine wpList_load_row rfl 75 (.tmp 14) rfl wr.heap.size rfl 75 (arrV (inc v j)) (0, 0) _ BN.out Tryd.underlying75 rfl (by rw [info74]; simp [arrV, inc, hv5]) ?_))
       have HG6 := Aside0.mk (grown_trans HG.out (grown_below GB.out (some b)))
       have HM6 := Aside0.mk (HM.out.kept (grown_below GB.out none) (by simp))
       have HT6 := Aside0.mk (HT.out.grown HMW.out (grown_trans HGD.out HG6.out))
       refine (IH.out _ (by have h1 := HLF.out; have h2 := HJ3.out; omega) (inc v j) w6 D' HJ2.out rfl HT6.out HM6.out).mono ?_
       rintro e w7 ⟨rfl, hg7, D7, hm7⟩
       have HG7 := Aside0.mk (grown_trans HG6.out hg7)
       have HM7 := Aside0.mk hm7
       have hvs := V_small (R := l0) (T := l1) (N := l2) HW.out (v := inc v j) (by rw [inc_len]; omega)
       clear HG6 HM6 HT6 HM HG hg7 hm7 BN GB BKr KZ HINC HJ2 HJ3 k58'
       generalize V l0 l1 (inc v j) = mm at *
       generalize List.foldl (fun c j => betP wt c (V l0 l1 (inc v j))) (0) (L.take i) = cc at *
       have ew2 : wrap64 (mm + wt) = mm + wt := w64 (by omega) (by omega)
       by_cases m0 : 0 ≤ mm
       ·have d70 : decide (mm ≥ 0) = true := decide_eq_true m0
        by_cases m1 : cc < 0
        ·have d73 : decide (cc < 0) = true := decide_eq_true m1
         go_wp2_with (fail)
         go_roundw
         case measure => simp [intOf]; omega
         case rel => exact ⟨i + 1, hlt, by go_num, by rw [HTS.out]; unfold betP; rw [if_pos ⟨m0, .inl m1⟩], HG7, ⟨D7, HM7.out⟩⟩
        ·have d73 : decide (cc < 0) = false := decide_eq_false m1
         by_cases m2 : mm + wt < cc
         ·have d79 : decide (mm + wt < cc) = true := decide_eq_true m2
          go_wp2_with (fail)
          go_roundw
          case measure => simp [intOf]; omega
          case rel => exact ⟨i + 1, hlt, by go_num, by rw [HTS.out]; unfold betP; rw [if_pos ⟨m0, .inr m2⟩], HG7, ⟨D7, HM7.out⟩⟩
         ·have d79 : decide (mm + wt < cc) = false := decide_eq_false m2
          go_wp2_with (fail)
          go_roundw
          case measure => simp [intOf]; omega
          case rel => exact ⟨i + 1, hlt, by go_num, by rw [HTS.out]; unfold betP; rw [if_neg (by omega)], HG7, ⟨D7, HM7.out⟩⟩
       ·have d70 : decide (mm ≥ 0) = false := decide_eq_false m0
        go_wp2_with (fail)
        go_roundw
        case measure => simp [intOf]; omega
        case rel => exact ⟨i + 1, hlt, by go_num, by rw [HTS.out]; unfold betP; rw [if_neg (by omega)], HG7, ⟨D7, HM7.out⟩⟩
      ·have d57 : decide ((i : Int) < (L.length : Int)) = false := decide_eq_false (by omega)
       have hie : i = L.length := by omega
       subst hie
       have HTr := Aside0.mk (HT.out.grown HMW.out (grown_trans HGD.out HG.out))
       have x3 : wr.cell? ⟨gs, 3, none⟩ = some (.map (some b)) := (blk_cell HTr.out.blk 3).trans rfl
       have BKr : wr.heap[W.heap.size]? = some (.cells (arrV v) 75 (0, 0)) := (HG.out.block _ (Array.getElem?_eq_some_iff.1 BKD.out).1 (fun e => HMD.out.ne BKD.out (by injection e))).trans BKD.out
       have hve : List.foldl (fun c j => betP wt c (V l0 l1 (inc v j))) (0) (List.take L.length L) = V l0 l1 v := by rw [List.take_length, HVE.out]; rfl
       rw [hve]
       have hvs := V_small (R := l0) (T := l1) (N := l2) HW.out (v := v) (by omega)
       have hwf : (Lit.int .i64 (V l0 l1 v)).wf = true := by
        have h1 : IntKind.i64.min = -9223372036854775808 := by decide
        have h2 : IntKind.i64.max = 9223372036854775807 := by decide
        simp only [Lit.wf, Bool.and_eq_true, decide_eq_true_eq, h1, h2]
        omega
       have HMd : Aside0 (Memo wr.drew b l0 l1 D') := ⟨HM.out.kept (row := none) ⟨rfl, rfl, rfl, Nat.le_refl _, fun _ _ _ => rfl⟩ (by simp)⟩
       obtain ⟨w8, D8, hrun, hm8, hg8⟩ := HMd.out.store K HBX.out rfl hwf
       have HR8 := Aside0.mk hrun
       have HM8 := Aside0.mk hm8
       have HG8 : Aside0 (W.grownBy w8 (some b)) := ⟨grown_trans (grown_trans HGD.out HG.out) (grown_trans (b := wr.drew) ⟨rfl, rfl, rfl, Nat.le_refl _, fun _ _ _ => rfl⟩ hg8)⟩
       clear hrun hm8 hg8 hve hvs hwf HVE HTr HMd
       generalize hvv : V l0 l1 v = vv at *
       have HVV := Aside0.mk hvv
       clear hvv
       go_wp2_with (fail)
       refine start_ (n := 7) (S := fun w' => w'.cell? ⟨gs, 3, none⟩ = some (.map (some b)) ∧ w'.heap[W.heap.size]? = some (.cells (arrV v) 75 (0, 0))) (ds := [6]) #[false, false, false, false, false, false, false] (by kernel_rfl) rfl rfl ⟨x3, BKr⟩ (fun hHeld => ?_)
       refine pure_ (i := 0) (N := some 86) (v := ?_) (a' := ?_) #[true, false, false, false, false, false, false] rfl rfl (by kernel_rfl) (fun _ _ _ h => h) (Or.inl ⟨by rfl, ?_⟩) ?_ ?_
       rotate_left
       ·intro w'
        go_simp
        with_reducible rfl
       rotate_left
       ·simp only [Act.put, List.setIfInBounds_toArray, List.set_cons_zero, List.set_cons_succ, i64_w, i32_w]
        rfl
       refine pure_ (i := 1) (N := some 87) (v := ?_) (a' := ?_) #[true, true, false, false, false, false, false] rfl rfl (by kernel_rfl) (fun _ _ _ h => h) (Or.inl ⟨by rfl, ?_⟩) ?_ ?_
       rotate_left
       ·intro w'
        go_simp
        with_reducible rfl
       rotate_left
       ·simp only [Act.put, List.setIfInBounds_toArray, List.set_cons_zero, List.set_cons_succ, i64_w, i32_w]
        rfl
       refine pure_ (i := 2) (N := some 88) (v := ?_) (a' := ?_) #[true, true, true, false, false, false, false] rfl rfl (by kernel_rfl) (fun _ _ _ h => h) (Or.inl ⟨by rfl, ?_⟩) ?_ ?_
       rotate_left
       ·intro w'
        go_simp
        with_reducible rfl
       rotate_left
       ·simp only [Act.put, List.setIfInBounds_toArray, List.set_cons_zero, List.set_cons_succ, i64_w, i32_w]
        rfl
       refine pure_ (i := 5) (N := some 91) (v := ?_) (a' := ?_) #[true, true, true, false, false, true, false] rfl rfl (by kernel_rfl) (fun _ _ _ h => h) (Or.inl ⟨by rfl, ?_⟩) ?_ ?_
       rotate_left
       ·intro w'
        go_simp
        with_reducible rfl
       rotate_left
       ·simp only [Act.put, List.setIfInBounds_toArray, List.set_cons_zero, List.set_cons_succ, i64_w, i32_w]
        rfl
       refine take_ (i := 3) (N := some 89) (v := ?_) (a' := ?_) #[true, true, true, true, false, true, false] rfl rfl (by kernel_rfl) (fun _ _ _ h => h) (Or.inl ⟨by rfl, ?_⟩) hHeld ?_ ?_
       rotate_left
       ·rintro w' ⟨s0, s1⟩
        go_simp
        with_reducible rfl
       rotate_left
       ·simp only [Act.put, List.setIfInBounds_toArray, List.set_cons_zero, List.set_cons_succ, i64_w, i32_w]
        rfl
       refine take_ (i := 4) (N := some 90) (v := .agg (arrV v)) (a' := ?_) #[true, true, true, true, true, true, false] rfl rfl (by kernel_rfl) (fun _ _ _ h => h) (Or.inl ⟨by rfl, ?_⟩) hHeld ?_ ?_
       ·rintro w' ⟨s0, s1⟩
        exact exec_load 75 (.tmp 3) (.pointer (some ⟨W.heap.size, 0, none⟩)) (.agg (arrV v)) rfl rfl (load_arr s1 hv5)
       rotate_left
       ·simp only [Act.put, List.setIfInBounds_toArray, List.set_cons_zero, List.set_cons_succ, i64_w, i32_w]
        rfl
       refine last_ (i := 6) (N := none) #[true, true, true, true, true, true, true] rfl rfl (by kernel_rfl) (by decide) (fun K_ hK_ => ?_)
       refine skip_ (w1 := w8) (by rfl) rfl (exec_update 88 (.tmp 89) (.tmp 90) (.tmp 91) (.map (some b)) (.agg (arrV v)) (.int .i64 vv) rfl rfl rfl rfl HR8.out) ?_
       refine hK_.out _ _ ?_
       refine done_ (by kernel_rfl) ?_
       go_wp2_with (fail)
       go_ret
       exact ⟨by have hq := HVV.out; simp [hq], HG8.out, D8, HM8.out⟩
    ·go_wp2_with (first | ((with_reducible refine gate_dst (N := 53) rfl ?_); refine wpList_load_row rfl 75 (.tmp 3) rfl W.heap.size rfl 75 (arrV v) (0, 0) _ BKC.out Tryd.underlying75 rfl (by rw [info74]; simp [arrV, hv5]) ?_))
     refine (moves_calls wC HSC.out HW.out v hv5 hvb).mono ?_
     rintro e w4 ⟨vM, rfl, hR, hb⟩
     obtain ⟨AM, cM, eM⟩ := Kd.R_slice hR
     rw [List.length_map] at eM
     subst eM
     have HMEM := Aside0.mk (fun (i : Nat) (h : i ∈ mvP l0 l1 v l1.length) => (⟨(mvP_mem h).1, okV_inc HW.out.t1 HV.out h, lft_mv (R := l0) (T := l1) (v := v) (by omega) h⟩ : i < l1.length ∧ okV l1 (inc v i) ∧ lftP l1 (inc v i) l1.length + 1 = lftP l1 v l1.length))
     have hll : (mvP l0 l1 v l1.length).length ≤ 5 := Nat.le_trans (mvP_len l0 l1 v l1.length) ht1
     generalize mvP l0 l1 v l1.length = L at *
     have HR := Aside0.mk hR
     have HBD := Aside0.mk (below_step HBC.out hb)
     have BKD := Aside0.mk (blk_below BKC.out hb)
     have HMD := Aside0.mk (HMC.out.kept (grown_below hb none) (by simp))
     have HCS := Aside0.mk (below_size HBC.out)
     clear HBC BKC HSC HMC hR hb
     have HGD : Aside0 (W.grownBy w4 (some b)) := ⟨grown_below HBD.out _⟩
     go_wp2_with (fail)
     go_loopw [11, 56] (fun x11 x56 wr => ∃ i : Nat, i ≤ L.length ∧ x56 = .int .i64 i ∧ x11 = .int .i64 ((L.take i).foldl (fun c j => betP wt c (V l0 l1 (inc v j))) (-1)) ∧ Aside0 (w4.grownBy wr (some b)) ∧ Aside0 (∃ D', Memo wr b l0 l1 D')) (fun _ x56 _ => L.length - (intOf x56).toNat)
     case atStart => exact ⟨0, Nat.zero_le _, rfl, rfl, ⟨World.grownBy.refl _ _⟩, ⟨D, HMD.out⟩⟩
     case round =>
      obtain ⟨i, hi, rfl, rfl, HG, HME⟩ := hrel
      obtain ⟨D', hme⟩ := HME.out
      have HM := Aside0.mk hme
      clear hme HME
      by_cases hlt : i < L.length
      ·have d57 : decide ((i : Int) < (L.length : Int)) = true := decide_eq_true (by omega)
       have p5 : (0 : Int) ≤ (i : Int) := by omega
       have q6 : (i : Int) < (L.length : Int) := by omega
       obtain ⟨gM, cM', eM, gbM, glM, clM, HGM⟩ := Kd.R_form HR.out (by rw [List.length_map]; omega)
       rw [List.length_map] at eM
       injection eM with eM _ eM'
       subst eM eM'
       obtain ⟨k58, _⟩ := Kd.R_celln 0 HR.out (i : Int) p5 q6
       have hj := getD_mem 0 hlt
       obtain ⟨hj1, hj2, hj3⟩ := HMEM.out _ hj
       have ej : rdOf 0 (L.map (fun (j : Nat) => (j : Int))) (i : Int) = ((L.getD i 0 : Nat) : Int) := map_getD L i
       rw [ej, Int.toNat_natCast] at k58
       have HTS : Aside0 ((L.take (i + 1)).foldl (fun c j => betP wt c (V l0 l1 (inc v j))) (-1) = betP wt ((L.take i).foldl (fun c j => betP wt c (V l0 l1 (inc v j))) (-1)) (V l0 l1 (inc v (L.getD i 0)))) := ⟨by
        have h1 : L.take (i + 1) = L.take i ++ [L.getD i 0] := by
         rw [List.take_add_one]
         simp [List.getD, hlt]
        rw [h1, List.foldl_append]; rfl⟩
       have k58' := HG.out.cell k58 (by intro e; injection e with e; have := HCS.out; have := HM.out.lt; have := HMD.out.lt; have hbb := HT.out; have := (HMW.out).lt; dsimp only at e; omega)
       have hjr : L.getD i 0 < 5 := by have := hj1; have := HW.out.t1; omega
       have HJ2 := Aside0.mk hj2
       have HJ3 := Aside0.mk hj3
       clear hj hj1 hj2 hj3 k58 ej
       generalize L.getD i 0 = j at *
       have p7 : (0 : Int) ≤ (j : Int) := by omega
       have q7 : (j : Int) < 5 := by omega
       have BKr : Aside0 (wr.heap[W.heap.size]? = some (.cells (arrV v) 75 (0, 0))) := ⟨(HG.out.block _ (Array.getElem?_eq_some_iff.1 BKD.out).1 (fun e => HMD.out.ne BKD.out (by injection e))).trans BKD.out⟩
       have hz0 : (0 : Int) ≤ ((v.getD j 0 : Nat) : Int) := by omega
       have hz1 : ((v.getD j 0 : Nat) : Int) ≤ 100 := by have := hvb _ (getD_mem 0 (show j < v.length by omega)); omega
       have kz : (arrV v)[j]? = some (.int .i64 ((v.getD j 0 : Nat) : Int)) := arrV_get v (by omega)
       have hinc := arrV_inc (v := v) (j := j) (by omega)
       generalize hf : ((v.getD j 0 : Nat) : Int) = z at hz0 hz1 kz hinc
       clear hf
       have KZ := Aside0.mk kz
       have HINC := Aside0.mk hinc
       clear kz hinc
       have ew : wrap64 (z + 1) = z + 1 := w64 (by omega) (by omega)
       go_wp2_with (first
        | ((with_reducible refine gate_dst (N := 60) rfl ?_); refine wpList_load_row rfl 75 (.tmp 3) rfl W.heap.size rfl 75 (arrV v) (0, 0) _ BKr.out Tryd.underlying75 rfl (by rw [info74]; simp [arrV, hv5]) ?_)
        | ((with_reducible refine gate_dst (N := 14) rfl ?_); refine Kd.event_run rfl (exec_alloc 75 _ rfl (alloc_arr wr)) ?_)
        | ((with_reducible refine gate_store (t := 75) (p := 14) rfl ?_); refine store_event (t := 75) (p := 14) (v := .tmp 60) (w1 := wr.alloc (.cells (arrV v) 75)) rfl rfl rfl (exec_store 75 (.tmp 14) (.tmp 60) _ _ rfl rfl rfl (store_arr wr hv5)) ?_; intro w5 hw5; have k63 : w5.cell? ⟨wr.heap.size, j, none⟩ = some (.int .i64 z) := (by rw [hw5]; exact (blk_cell (heap_alloc_new wr _) j).trans KZ.out); have f63 : w5.frozen? ⟨wr.heap.size, j, none⟩ = false := (by rw [hw5]; exact blk_frozen (heap_alloc_new wr _) j); have HW5 := Aside0.mk hw5; clear hw5)
        | ((with_reducible refine gate_store (t := 3) (p := 65) rfl ?_); refine store_event (t := 3) (p := 65) (v := .tmp 64) (w1 := w5.setCell ⟨wr.heap.size, j, none⟩ (.int .i64 (z + 1))) rfl rfl rfl ?hr ?_; (case hr => first | (go_simp; done) | (go_simp; rfl)); intro w6 hw6; rw [HW5.out, World.setCell_alloc_new, HINC.out] at hw6; have BN := Aside0.mk (show w6.heap[wr.heap.size]? = some (.cells (arrV (inc v j)) 75 (0, 0)) from by rw [hw6]; exact heap_alloc_new wr _); have GB := Aside0.mk (show Below wr.heap.size wr w6 from by rw [hw6]; exact (Below.refl _ _).alloc (Nat.le_refl _) _); clear hw6 HW5 k63 f63)
        | ((with_reducible refine gate_dst (N := 67) rfl ?_); refine wpList_load_row rfl 75 (.tmp 14) rfl wr.heap.size rfl 75 (arrV (inc v j)) (0, 0) _ BN.out Tryd.underlying75 rfl (by rw [info74]; simp [arrV, inc, hv5]) ?_))
       have HG6 := Aside0.mk (grown_trans HG.out (grown_below GB.out (some b)))
       have HM6 := Aside0.mk (HM.out.kept (grown_below GB.out none) (by simp))
       have HT6 := Aside0.mk (HT.out.grown HMW.out (grown_trans HGD.out HG6.out))
       refine (IH.out _ (by have h1 := HLF.out; have h2 := HJ3.out; omega) (inc v j) w6 D' HJ2.out rfl HT6.out HM6.out).mono ?_
       rintro e w7 ⟨rfl, hg7, D7, hm7⟩
       have HG7 := Aside0.mk (grown_trans HG6.out hg7)
       have HM7 := Aside0.mk hm7
       have hvs := V_small (R := l0) (T := l1) (N := l2) HW.out (v := inc v j) (by rw [inc_len]; omega)
       clear HG6 HM6 HT6 HM HG hg7 hm7 BN GB BKr KZ HINC HJ2 HJ3 k58'
       generalize V l0 l1 (inc v j) = mm at *
       generalize List.foldl (fun c j => betP wt c (V l0 l1 (inc v j))) (-1) (L.take i) = cc at *
       have ew2 : wrap64 (mm + wt) = mm + wt := w64 (by omega) (by omega)
       by_cases m0 : 0 ≤ mm
       ·have d70 : decide (mm ≥ 0) = true := decide_eq_true m0
        by_cases m1 : cc < 0
        ·have d73 : decide (cc < 0) = true := decide_eq_true m1
         go_wp2_with (fail)
         go_roundw
         case measure => simp [intOf]; omega
         case rel => exact ⟨i + 1, hlt, by go_num, by rw [HTS.out]; unfold betP; rw [if_pos ⟨m0, .inl m1⟩], HG7, ⟨D7, HM7.out⟩⟩
        ·have d73 : decide (cc < 0) = false := decide_eq_false m1
         by_cases m2 : mm + wt < cc
         ·have d79 : decide (mm + wt < cc) = true := decide_eq_true m2
          go_wp2_with (fail)
          go_roundw
          case measure => simp [intOf]; omega
          case rel => exact ⟨i + 1, hlt, by go_num, by rw [HTS.out]; unfold betP; rw [if_pos ⟨m0, .inr m2⟩], HG7, ⟨D7, HM7.out⟩⟩
         ·have d79 : decide (mm + wt < cc) = false := decide_eq_false m2
          go_wp2_with (fail)
          go_roundw
          case measure => simp [intOf]; omega
          case rel => exact ⟨i + 1, hlt, by go_num, by rw [HTS.out]; unfold betP; rw [if_neg (by omega)], HG7, ⟨D7, HM7.out⟩⟩
       ·have d70 : decide (mm ≥ 0) = false := decide_eq_false m0
        go_wp2_with (fail)
        go_roundw
        case measure => simp [intOf]; omega
        case rel => exact ⟨i + 1, hlt, by go_num, by rw [HTS.out]; unfold betP; rw [if_neg (by omega)], HG7, ⟨D7, HM7.out⟩⟩
      ·have d57 : decide ((i : Int) < (L.length : Int)) = false := decide_eq_false (by omega)
       have hie : i = L.length := by omega
       subst hie
       have HTr := Aside0.mk (HT.out.grown HMW.out (grown_trans HGD.out HG.out))
       have x3 : wr.cell? ⟨gs, 3, none⟩ = some (.map (some b)) := (blk_cell HTr.out.blk 3).trans rfl
       have BKr : wr.heap[W.heap.size]? = some (.cells (arrV v) 75 (0, 0)) := (HG.out.block _ (Array.getElem?_eq_some_iff.1 BKD.out).1 (fun e => HMD.out.ne BKD.out (by injection e))).trans BKD.out
       have hve : List.foldl (fun c j => betP wt c (V l0 l1 (inc v j))) (-1) (List.take L.length L) = V l0 l1 v := by rw [List.take_length, HVE.out]; rfl
       rw [hve]
       have hvs := V_small (R := l0) (T := l1) (N := l2) HW.out (v := v) (by omega)
       have hwf : (Lit.int .i64 (V l0 l1 v)).wf = true := by
        have h1 : IntKind.i64.min = -9223372036854775808 := by decide
        have h2 : IntKind.i64.max = 9223372036854775807 := by decide
        simp only [Lit.wf, Bool.and_eq_true, decide_eq_true_eq, h1, h2]
        omega
       have HMd : Aside0 (Memo wr.drew b l0 l1 D') := ⟨HM.out.kept (row := none) ⟨rfl, rfl, rfl, Nat.le_refl _, fun _ _ _ => rfl⟩ (by simp)⟩
       obtain ⟨w8, D8, hrun, hm8, hg8⟩ := HMd.out.store K HBX.out rfl hwf
       have HR8 := Aside0.mk hrun
       have HM8 := Aside0.mk hm8
       have HG8 : Aside0 (W.grownBy w8 (some b)) := ⟨grown_trans (grown_trans HGD.out HG.out) (grown_trans (b := wr.drew) ⟨rfl, rfl, rfl, Nat.le_refl _, fun _ _ _ => rfl⟩ hg8)⟩
       clear hrun hm8 hg8 hve hvs hwf HVE HTr HMd
       generalize hvv : V l0 l1 v = vv at *
       have HVV := Aside0.mk hvv
       clear hvv
       go_wp2_with (fail)
       refine start_ (n := 7) (S := fun w' => w'.cell? ⟨gs, 3, none⟩ = some (.map (some b)) ∧ w'.heap[W.heap.size]? = some (.cells (arrV v) 75 (0, 0))) (ds := [6]) #[false, false, false, false, false, false, false] (by kernel_rfl) rfl rfl ⟨x3, BKr⟩ (fun hHeld => ?_)
       refine pure_ (i := 0) (N := some 86) (v := ?_) (a' := ?_) #[true, false, false, false, false, false, false] rfl rfl (by kernel_rfl) (fun _ _ _ h => h) (Or.inl ⟨by rfl, ?_⟩) ?_ ?_
       rotate_left
       ·intro w'
        go_simp
        with_reducible rfl
       rotate_left
       ·simp only [Act.put, List.setIfInBounds_toArray, List.set_cons_zero, List.set_cons_succ, i64_w, i32_w]
        rfl
       refine pure_ (i := 1) (N := some 87) (v := ?_) (a' := ?_) #[true, true, false, false, false, false, false] rfl rfl (by kernel_rfl) (fun _ _ _ h => h) (Or.inl ⟨by rfl, ?_⟩) ?_ ?_
       rotate_left
       ·intro w'
        go_simp
        with_reducible rfl
       rotate_left
       ·simp only [Act.put, List.setIfInBounds_toArray, List.set_cons_zero, List.set_cons_succ, i64_w, i32_w]
        rfl
       refine pure_ (i := 2) (N := some 88) (v := ?_) (a' := ?_) #[true, true, true, false, false, false, false] rfl rfl (by kernel_rfl) (fun _ _ _ h => h) (Or.inl ⟨by rfl, ?_⟩) ?_ ?_
       rotate_left
       ·intro w'
        go_simp
        with_reducible rfl
       rotate_left
       ·simp only [Act.put, List.setIfInBounds_toArray, List.set_cons_zero, List.set_cons_succ, i64_w, i32_w]
        rfl
       refine pure_ (i := 5) (N := some 91) (v := ?_) (a' := ?_) #[true, true, true, false, false, true, false] rfl rfl (by kernel_rfl) (fun _ _ _ h => h) (Or.inl ⟨by rfl, ?_⟩) ?_ ?_
       rotate_left
       ·intro w'
        go_simp
        with_reducible rfl
       rotate_left
       ·simp only [Act.put, List.setIfInBounds_toArray, List.set_cons_zero, List.set_cons_succ, i64_w, i32_w]
        rfl
       refine take_ (i := 3) (N := some 89) (v := ?_) (a' := ?_) #[true, true, true, true, false, true, false] rfl rfl (by kernel_rfl) (fun _ _ _ h => h) (Or.inl ⟨by rfl, ?_⟩) hHeld ?_ ?_
       rotate_left
       ·rintro w' ⟨s0, s1⟩
        go_simp
        with_reducible rfl
       rotate_left
       ·simp only [Act.put, List.setIfInBounds_toArray, List.set_cons_zero, List.set_cons_succ, i64_w, i32_w]
        rfl
       refine take_ (i := 4) (N := some 90) (v := .agg (arrV v)) (a' := ?_) #[true, true, true, true, true, true, false] rfl rfl (by kernel_rfl) (fun _ _ _ h => h) (Or.inl ⟨by rfl, ?_⟩) hHeld ?_ ?_
       ·rintro w' ⟨s0, s1⟩
        exact exec_load 75 (.tmp 3) (.pointer (some ⟨W.heap.size, 0, none⟩)) (.agg (arrV v)) rfl rfl (load_arr s1 hv5)
       rotate_left
       ·simp only [Act.put, List.setIfInBounds_toArray, List.set_cons_zero, List.set_cons_succ, i64_w, i32_w]
        rfl
       refine last_ (i := 6) (N := none) #[true, true, true, true, true, true, true] rfl rfl (by kernel_rfl) (by decide) (fun K_ hK_ => ?_)
       refine skip_ (w1 := w8) (by rfl) rfl (exec_update 88 (.tmp 89) (.tmp 90) (.tmp 91) (.map (some b)) (.agg (arrV v)) (.int .i64 vv) rfl rfl rfl rfl HR8.out) ?_
       refine hK_.out _ _ ?_
       refine done_ (by kernel_rfl) ?_
       go_wp2_with (fail)
       go_ret
       exact ⟨by have hq := HVV.out; simp [hq], HG8.out, D8, HM8.out⟩
 ·skip
  refine wp_region_quiet_lit (by kernel_rfl) (by kernel_rfl) ?_
  repeat (go_big_quiet_step (fail))
  go_big_quiet_want
  refine quiet_load 75 (.tmp 3) (.pointer (some ⟨W.heap.size, 0, none⟩)) (.agg (arrV v)) rfl rfl (fun w hw => by obtain ⟨n, rfl⟩ := hw; exact hld n) ?_
  go_simp
  go_big_quiet_on
  repeat (go_big_quiet_step (fail))
  refine wpQuiet_nil ?_
  intro _ hw'
  obtain ⟨nq, hw''⟩ := hw'
  subst hw''
  go_wp2_with (fail)
  go_ret
  exact ⟨by have hq := HC.out trivial; simp [hq], grown_below (pw_below_drewN HB.out _) _, D, HM1.out.drew _⟩
end Go.Proofs.YtkcocomehhlpmaaDoor.Sr
