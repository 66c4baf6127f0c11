/- The drawn states' spoiler. Walked by hand. (Printed by wip/spgen.py.) -/
import Derived.Test.YtkcocomehhlpmaaDoorFnSpoiltSq1
namespace Go.Proofs.YtkcocomehhlpmaaDoor.Sq
open Go.RowKit Go.Proofs.YtkcocomehhlpmaaDoorW.PrintWords Go.Proofs.YtkcocomehhlpmaaDoorW.PrintLast Go.Proofs.YtkcocomehhlpmaaDoorW.PrintMore Go.Proofs.YtkcocomehhlpmaaDoor.Q Go.Proofs.YtkcocomehhlpmaaDoor.Pu
attribute [local go_sem] max2_int min2_int max_two min_two max_three min_three max_four min_four
set_option linter.unusedVariables false
set_option linter.unusedSimpArgs false
set_option maxHeartbeats 4000000 in
set_option maxRecDepth 100000 in
theorem spec_l5Cur_spoil.calls (k : Nat) (g : Nat) (s0_0 : List Int) (s0_1 : Int) (s0_2 : Int) (A0_0 : Option Addr) (c0_0 : Nat) (l0_0 : List Int) (A0_1 : Option Addr) (c0_1 : Nat) (l0_1 : List S48) (A0_2 : Option Addr) (c0_2 : Nat) (l0_2 : List Int) (r1 : List Int) (r2 : List S48) (r3 : List Int) (r4 r5 : Int) (w0 w : World) (hI : IsS67 w0 w g s0_0 s0_1 s0_2) (hB : Below w0.heap.size w0 w)
  (hr0 : Kd.C (Kd.int .i64) w A0_0 l0_0.length l0_0) (hc0 : l0_0.length ≤ c0_0) (hf0 : ∀ ad, A0_0 = some ad → 0 < l0_0.length → ad.block ≠ g) (hr1 : ∀ W', KeepBut w W' g none → Kd.C k48 W' A0_1 l0_1.length l0_1) (hc1 : l0_1.length ≤ c0_1) (hr2 : Kd.C (Kd.int .i64) w A0_2 l0_2.length l0_2) (hc2 : l0_2.length ≤ c0_2) (hf2 : ∀ ad, A0_2 = some ad → 0 < l0_2.length → ad.block ≠ g)
  (h : spec_l5Cur_spoil.f k s0_0 s0_1 s0_2 l0_0 l0_1 l0_2 = some (r1, r2, r3, r4, r5)) :
  Calls Tryd.prog 36 #[.pointer (some ⟨g, 0, none⟩), .agg #[.slice A0_0 l0_0.length c0_0, .slice A0_1 l0_1.length c0_1, .slice A0_2 l0_2.length c0_2]] w fun e w' => ∃ v0_ v1_ v2_ : Value, e = .returned (.agg #[v0_, v1_, v2_]) ∧ Kd.R (Kd.int .i64) 3 w' w.heap.size (fun k_ => some k_ ≠ (v2_ : Value).ownBlock) v0_ r1 ∧ Kd.N k48 48 w' w.heap.size (fun k_ => (w.heap.size ≤ k_) ∧ some k_ ≠ (v0_ : Value).ownBlock ∧ some k_ ≠ (v2_ : Value).ownBlock) v1_ r2 ∧ Kd.R (Kd.int .i64) 3 w' w.heap.size (fun k_ => some k_ ≠ (v0_ : Value).ownBlock) v2_ r3 ∧ IsS67 w0 w' g s0_0 r4 r5 ∧ Below w0.heap.size w0 w' ∧ KeepBut w w' g none := by
 have HR0 := Aside0.mk hr0
 have HR1 := Aside0.mk (hr1 w (KeepBut.refl _ _ _))
 have HR2 := Aside0.mk hr2
 have HI := Aside0.mk hI
 have HB := Aside0.mk hB
 have GL := Aside0.mk hI.lt
 have G0 := Aside0.mk hB.size
 obtain ⟨⟨R, T, N⟩, hcp, hsp⟩ := Option.bind_eq_some_iff.mp h
 obtain ⟨⟨q, a2, s2⟩, hpk, hsp⟩ := Option.bind_eq_some_iff.mp hsp
 have HCP := Aside0.mk hcp
 have HP := Aside0.mk hpk
 have HQ := Aside0.mk hsp
 have hqr := (pk_pick hpk).2
 clear hcp hsp hpk h hr0 hr1 hr2 hI hB hf0 hf2
 have hu := Tryd.underlying30
 have hu2 := Tryd.underlying48
 go_enter Tryd.func36, Tryd.ntmps36
 go_wp2_with (first
  | ((with_reducible refine gate_dst (N := 3) rfl ?_); refine box2 (gg := w.heap.size) rfl ?hg (M := 3) ?hd (cs := #[.slice A0_0 l0_0.length c0_0, .slice A0_1 l0_1.length c0_1, .slice A0_2 l0_2.length c0_2]) (t := 30) ?hr ?_; (case hd => rfl); (case hg => rfl); (case hr => first | (go_simp; done) | (go_simp; rfl)); intro w1 hbox hb hs; have B1 := Aside0.mk hbox; have L1 := Aside0.mk hb; have Z1 := Aside0.mk hs; clear hbox hb hs; have z0 := (blk_cell B1.out 0).trans (show _ = some (Value.slice A0_0 l0_0.length c0_0) from rfl); have z1 := (blk_cell B1.out 1).trans (show _ = some (Value.slice A0_1 l0_1.length c0_1) from rfl); have z2 := (blk_cell B1.out 2).trans (show _ = some (Value.slice A0_2 l0_2.length c0_2) from rfl))
  | ((with_reducible refine gate_dst (N := 4) rfl ?_); refine box2 (gg := w.heap.size + 1) Z1.out ?hg (M := 4) ?hd (cs := #[.slice none 0 0, .slice none 0 0, .slice none 0 0]) (t := 30) ?hr ?_; (case hd => rfl); (case hg => rfl); (case hr => first | (go_simp; done) | (go_simp; rfl)); intro w2 hbox hb hs; have B2 := Aside0.mk hbox; have L2 := Aside0.mk hb; have Z2 := Aside0.mk hs; clear hbox hb hs; replace z0 := (L2.out.cell (World.block_lt_of_cell? _ _ z0)).trans z0; replace z1 := (L2.out.cell (World.block_lt_of_cell? _ _ z1)).trans z1; replace z2 := (L2.out.cell (World.block_lt_of_cell? _ _ z2)).trans z2))
 have L12 := Aside0.mk (below_step L1.out L2.out)
 refine (spec_l1copy.calls k _ _ l0_0 _ _ l0_1 _ _ l0_2 R T N w2 (Kd.C_below HR0.out L12.out) hc0 (Kd.C_below HR1.out L12.out) hc1 (Kd.C_below HR2.out L12.out) hc2 HCP.out).mono ?_
 rintro e w3 ⟨v0, v1, v2, rfl, h0, h1, h2, hb⟩
 obtain ⟨A0, c0, e0⟩ := Kd.R_slice h0
 obtain ⟨A1, c1, e1⟩ := Kd.S_slice h1
 obtain ⟨A2, c2, e2⟩ := Kd.R_slice h2
 subst e0 e1 e2
 have HZ : Aside0 (w2.heap.size = w.heap.size + 2) := Z2
 have BX3 := Aside0.mk (blk_below (blk_below B1.out L2.out) hb)
 have BR3 := Aside0.mk (blk_below B2.out hb)
 have L3 := Aside0.mk (below_step L12.out hb)
 have HH := Aside0.mk (And.intro h0 (And.intro h1 h2))
 clear h0 h1 h2 hb z0 z1 z2 HCP B1 B2 L1 L2 Z2 L12 HR0 HR1 HR2
 go_wp2_with (first
  | ((with_reducible refine gate_store (t := 30) (p := 3) rfl ?_); (try simp only [Act.put, List.setIfInBounds_toArray, List.set_cons_zero, List.set_cons_succ]); refine row_wr_ rfl 30 (.tmp 3) (.tmp 9) rfl rfl w.heap.size rfl (c' := #[.slice A0 R.length c0, .slice A1 T.length c1, .slice A2 N.length c2]) rfl BX3.out infoS rfl (by simp [Value.oneCell']) ?_; intro w4 hw4 hg4; have B4 := Aside0.mk hw4; have HG := Aside0.mk hg4; clear hw4 hg4))
 have HS := Aside0.mk (show Sp w0 w w4 g s0_0 s0_1 s0_2 (.slice A0 R.length c0) (.slice A1 T.length c1) (.slice A2 N.length c2) R T N from by
  have e1 : w1.heap.size = w.heap.size + 1 := Z1.out
  have e2 := HZ.out
  have g1 : ∀ k : Nat, w2.heap.size ≤ k → some k ≠ some w.heap.size := fun k hk e => by injection e with e; omega
  obtain ⟨q1, q2, q3⟩ := own_step (HI.out.below L3.out) (below_step HB.out L3.out) (KeepBut.of_below L3.out g none) G0.out GL.out HG.out (fun k hk => by injection hk; omega)
  have br := (HG.out.block (w.heap.size + 1) (blk_lt BR3.out) (fun e => by injection e; omega)).trans BR3.out
  have l0 := Kd.R_typed HH.out.1
  have n1 := Kd.S_typed HH.out.2.1
  have r0 := Kd.R_apart' (Kd.R_mono (Kd.R_bound HH.out.1) (ok' := fun k => some k ≠ (Value.slice A2 N.length c2).ownBlock ∧ w2.heap.size ≤ k) (fun k hk => ⟨hk.1, hk.2.1⟩)) n1 (by decide)
  have r2 := Kd.R_apart' (Kd.R_mono (Kd.R_bound HH.out.2.2) (ok' := fun k => some k ≠ (Value.slice A0 R.length c0).ownBlock ∧ w2.heap.size ≤ k) (fun k hk => ⟨hk.1, hk.2.1⟩)) n1 (by decide)
  have s1 := Kd.S_mono (Kd.S_bound HH.out.2.1) (ok' := fun k => (some k ≠ (Value.slice A0 R.length c0).ownBlock ∧ some k ≠ (Value.slice A2 N.length c2).ownBlock) ∧ w2.heap.size ≤ k) (fun k hk => ⟨hk.1, hk.2.1⟩)
  refine ⟨q1, q2, q3, G0.out, B4.out, br, GL.out, ?_, ?_, ?_⟩
  ·exact Kd.R_mono (Kd.R_lower (Kd.R_grown r0 HG.out (fun k hk => g1 k hk.1.2)) (by omega)) (fun k hk => ⟨by have := hk.1.2; omega, hk.1.1, hk.2⟩)
  ·exact Kd.S_mono (Kd.S_lower (Kd.S_grown s1 HG.out (fun k hk => g1 k hk.2)) (by omega)) (fun k hk => ⟨by have := hk.2; omega, hk.1⟩)
  ·exact Kd.R_mono (Kd.R_lower (Kd.R_grown r2 HG.out (fun k hk => g1 k hk.1.2)) (by omega)) (fun k hk => ⟨by have := hk.1.2; omega, hk.1.1, hk.2⟩))
 clear HI HB G0 BX3 BR3 L3 HH B4 HG HZ Z1
 go_wp2_with (fail)
 refine (spec_l5Cur_pick.calls g s0_0 _ _ 9 _ _ _ w0 _ HS.out.hI HS.out.hB (pk_pick HP.out).1).mono ?_
 rintro e w5 ⟨rfl, hI', hB', hk'⟩
 have HS5 := Aside0.mk (HS.out.read hI' hB' hk')
 clear hI' hB' hk'
 clear HS HP
 have HQ0 := HQ.out
 try dsimp only at HQ0 hqr
 clear HQ
 by_cases q0 : q = 0
 ·subst q0
  rw [if_pos rfl] at HQ0
  obtain ⟨⟨q, a3, s3⟩, hp1, HQ0⟩ := Option.bind_eq_some_iff.mp HQ0
  obtain ⟨⟨y, a4, s4⟩, hp2, HQ0⟩ := Option.bind_eq_some_iff.mp HQ0
  simp only [Option.some.injEq, Prod.mk.injEq] at HQ0
  obtain ⟨rfl, rfl, rfl, rfl, rfl⟩ := HQ0
  have hr1 := (pk_pick hp1).2
  have hr2 := (pk_pick hp2).2
  have HP1 := Aside0.mk hp1
  have HP2 := Aside0.mk hp2
  try dsimp only at hr1 hr2
  clear hp1 hp2
  obtain ⟨gR, cR, eR, _, _, _⟩ := Kd.R_form HS5.out.r0 (by omega)
  injection eR with e1 _ e2
  subst e1 e2
  obtain ⟨⟨z0, z1, z2⟩, f0, f1, f2⟩ := HS5.out.cells
  have b0 : ((0 : Int) == 0) = true := rfl
  have HSd := Aside0.mk (HS5.out.below (below_drew (Below.refl _ _)))
  go_wp2_with (fail)
  refine start_ (n := 14) (S := fun w' => w'.cell? ⟨w.heap.size, 0, none⟩ = some (.slice (some ⟨gR, 0, none⟩) R.length c0)) (ds := [13]) (Array.replicate 14 false) (by kernel_rfl) rfl rfl z0 (fun hS => ?_)
  refine np_ 0 127 rfl rfl (by kernel_rfl) (fun _ _ _ h => h) (by rfl) (fun w' => by go_simp; with_reducible rfl) (by simp only [AP_, i64_w]; rfl) ?_
  refine nt_ hS 1 128 rfl rfl (by kernel_rfl) (fun _ _ _ h => h) (by rfl) (fun w' s0 => by go_simp; with_reducible rfl) (by simp only [AP_, i64_w]; rfl) ?_
  refine np_ 2 129 rfl rfl (by kernel_rfl) (fun _ _ _ h => h) (by rfl) (fun w' => by go_simp; with_reducible rfl) (by simp only [AP_, i64_w]; rfl) ?_
  refine np_ 3 130 rfl rfl (by kernel_rfl) (fun _ _ _ h => h) (by rfl) (fun w' => by go_simp; with_reducible rfl) (by simp only [AP_, i64_w]; rfl) ?_
  refine nt_ hS 4 131 rfl rfl (by kernel_rfl) (fun _ _ _ h => h) (by rfl) (fun w' s0 => by go_simp; with_reducible rfl) (by simp only [AP_, i64_w]; rfl) ?_
  refine np_ 5 132 rfl rfl (by kernel_rfl) (fun _ _ _ h => h) (by rfl) (fun w' => by go_simp; with_reducible rfl) (by simp only [AP_, i64_w]; rfl) ?_
  refine np_ 8 135 rfl rfl (by kernel_rfl) (fun _ _ _ h => h) (by rfl) (fun w' => by go_simp; with_reducible rfl) (by simp only [AP_, i64_w]; rfl) ?_
  refine join_ (σ := Nat) 4 #[true, true, true, true, true, true, true, true, true, true, false, false, false, false] (fun gL => [(133, .int .i64 q), (134, .slice (some ⟨gL, 0, none⟩) 3 3), (136, .int .i64 y)]) (fun gL w' => Sp w0 w w' g s0_0 a4 s4 (.slice (some ⟨gR, 0, none⟩) R.length c0) (.slice A1 T.length c1) (.slice A2 N.length c2) R T N ∧ w'.heap[gL]? = some (.cells #[.int .i64 0, .int .i64 5, .int .i64 6] 3 (0, 0))) ?_ ?_
  ·intro gL w9 hF
   obtain ⟨hS9, hL9⟩ := hF
   have HS9 := Aside0.mk hS9
   have hS := hS9.cells.1.1
   refine norm_ (a' := ?_) ?_ ?_
   rotate_left
   ·simp only [putAll, AP_]
    rfl
   have c9 : w9.cell? ⟨gL, y.toNat, none⟩ = some (.int .i64 (([0, 5, 6] : List Int).getD y.toNat 0)) := by
    have h3 : y = 0 ∨ y = 1 ∨ y = 2 := by omega
    rcases h3 with rfl | rfl | rfl <;> exact (blk_cell hL9 _).trans rfl
   obtain ⟨x9, hx9⟩ : ∃ x, x = ([0, 5, 6] : List Int).getD y.toNat 0 := ⟨_, rfl⟩
   rw [← hx9] at c9
   have HX9 := Aside0.mk hx9
   clear hx9
   have py : (0 : Int) ≤ y := hr2.1
   have qy : y < 3 := hr2.2
   have pq : (0 : Int) ≤ q := hr1.1
   have qq : q < (R.length : Int) := hr1.2
   refine np_ 10 137 (v := (.pointer (some ⟨gL, y.toNat, none⟩))) rfl rfl (by kernel_rfl) (fun _ _ _ h => h) (by rfl) (fun w' => by go_simp) (by simp only [AP_, i64_w]; rfl) ?_
   refine no_ 11 138 rfl rfl (by kernel_rfl) (by decide) (fun K hK => ?_)
   refine Go.Proofs.YtkcocomehhlpmaaDoorW.PrintWords.event_step (w1 := w9) (v := .int .i64 x9) (by rfl) (by go_simp) ?_
   refine hK _ _ hS (fun hS => ?_)
   refine norm_ (a' := ?_) ?_ ?_
   rotate_left
   ·show Act.put _ (some 138) _ = _
    simp only [AP_, i64_w]
    rfl
   refine np_ 12 139 (v := (.pointer (some ⟨gR, q.toNat, none⟩))) rfl rfl (by kernel_rfl) (fun _ _ _ h => h) (by rfl) (fun w' => by go_simp) (by simp only [AP_, i64_w]; rfl) ?_
   obtain ⟨hx1, hx2⟩ := Kd.R_celln 0 hS9.r0 q pq (by omega)
   refine nl_ 13 (w9.setCell ⟨gR, q.toNat, none⟩ (.int .i64 x9)) rfl rfl (by kernel_rfl) (by decide) (by rfl) (by kernel_rfl) (by go_simp) ?_
   have HSn := Aside0.mk (hS9.roomSet q x9).sn
   clear hx1 hx2 c9 hL9 HS9 hS9 hS HSd HS5 z0 z1 z2 f0 f1 f2
   generalize w9.setCell ⟨gR, q.toNat, none⟩ (.int .i64 x9) = wT at *
   rw [HX9.out] at HSn
   obtain ⟨⟨z0, z1, z2⟩, f0, f1, f2⟩ := HSn.out.cells
   have BRR := Aside0.mk HSn.out.br
   go_wp2_with (first
    | ((with_reducible refine gate_store (t := 30) (p := 4) rfl ?_); (try simp only [Act.put, List.setIfInBounds_toArray, List.set_cons_zero, List.set_cons_succ]); refine row_wr_ rfl 30 (.tmp 4) (.tmp 161) rfl rfl (w.heap.size + 1) rfl (c' := #[.slice (some ⟨gR, 0, none⟩) R.length c0, .slice A1 T.length c1, .slice A2 N.length c2]) rfl BRR.out infoS rfl (by simp [Value.oneCell']) ?_; intro wE hwE hgE; have BE := Aside0.mk hwE; have HG := Aside0.mk hgE; clear hwE hgE z0 z1 z2 f0 f1 f2))
   refine bodyPost_ret (results_cell_row rfl _ _ (w.heap.size + 1) 30 _ (0, 0) _ rfl BE.out Tryd.underlying30 rfl (by kernel_rfl)) rfl ?_
   exact ⟨_, _, _, rfl, HSn.out.done HG.out⟩
  ·intro hcont
   clear HS5 z0 z1 z2 f0 f1 f2
   refine two_ (i := 6) (j := 7) (Ni := some 133) (Nj := some 134) #[true, true, true, true, true, true, true, false, true, false, false, false, false, false] #[true, true, true, true, true, true, false, true, true, false, false, false, false, false] rfl rfl rfl rfl (by kernel_rfl) (by decide) (by decide) (fun K hK => ?_) (fun K hK => ?_)
   ·refine goes_ Tryd.func35 (by kernel_rfl) rfl #[.pointer (some ⟨g, 0, none⟩), .int .i64 ((R.length : Int))] (by rfl) rfl rfl (by (try simp only [List.map_toArray, List.map_cons, List.map_nil]); rfl) ?_
    refine (spec_l5Cur_pick.calls g s0_0 _ _ ((R.length : Int)) _ _ _ w0 _ HSd.out.hI HSd.out.hB (pk_pick HP1.out).1).mono ?_
    rintro e w6 ⟨rfl, hI', hB', hk'⟩
    have HS6 := Aside0.mk (HSd.out.read hI' hB' hk')
    clear hI' hB' hk'
    refine ⟨_, rfl, ?_⟩
    refine hK.out _ _ HS6.out.cells.1.1 (fun hS => ?_)
    refine norm_ (a' := ?_) ?_ ?_
    rotate_left
    ·show Act.put _ (some 133) _ = _
     simp only [AP_, i64_w]
     rfl
    refine two_ (i := 7) (j := 9) (Ni := some 134) (Nj := some 136) #[true, true, true, true, true, true, true, true, true, false, false, false, false, false] #[true, true, true, true, true, true, true, false, true, true, false, false, false, false] rfl rfl rfl rfl (by kernel_rfl) (by decide) (by decide) (fun K hK => ?_) (fun K hK => ?_)
    ·refine Go.Proofs.YtkcocomehhlpmaaDoorW.PrintWords.event_step (w1 := w6.alloc (.cells #[.int .i64 0, .int .i64 5, .int .i64 6] 3)) (v := .slice (some ⟨w6.heap.size, 0, none⟩) 3 3) (by rfl) (by first | (go_simp; done) | (go_simp; rfl)) ?_
     have hbl := heap_alloc_new w6 (.cells #[.int .i64 0, .int .i64 5, .int .i64 6] 3)
     have HS7 := Aside0.mk (HS6.out.below (below_alloc (Below.refl w6.heap.size w6) (.cells #[.int .i64 0, .int .i64 5, .int .i64 6] 3)))
     obtain ⟨w7, hw8⟩ : ∃ W, W = w6.alloc (.cells #[.int .i64 0, .int .i64 5, .int .i64 6] 3) := ⟨_, rfl⟩
     rw [← hw8] at hbl HS7 ⊢
     have HBL := Aside0.mk hbl
     clear hbl hw8
     refine hK.out _ _ HS7.out.cells.1.1 (fun hS => ?_)
     refine norm_ (a' := ?_) ?_ ?_
     rotate_left
     ·show Act.put _ (some 134) _ = _
      simp only [AP_, i64_w]
      rfl
     refine one_ (i := 9) (N := some 136) #[true, true, true, true, true, true, true, true, true, true, false, false, false, false] rfl rfl (by kernel_rfl) (by decide) (fun K hK => ?_)
     refine goes_ Tryd.func35 (by kernel_rfl) rfl #[.pointer (some ⟨g, 0, none⟩), .int .i64 (3)] (by rfl) rfl rfl (by (try simp only [List.map_toArray, List.map_cons, List.map_nil]); rfl) ?_
     refine (spec_l5Cur_pick.calls g s0_0 _ _ (3) _ _ _ w0 _ HS7.out.hI HS7.out.hB (pk_pick HP2.out).1).mono ?_
     rintro e w8 ⟨rfl, hI', hB', hk'⟩
     have HS8 := Aside0.mk (HS7.out.read hI' hB' hk')
     replace HBL := Aside0.mk (KeepBut.blk hk' HBL.out (by have := HS6.out.le; have := HS6.out.gl; omega) (by simp))
     clear hI' hB' hk'
     refine ⟨_, rfl, ?_⟩
     refine hK.out _ _ HS8.out.cells.1.1 (fun hS => ?_)
     refine norm_ (a' := ?_) ?_ ?_
     rotate_left
     ·show Act.put _ (some 136) _ = _
      simp only [AP_, i64_w]
      rfl
     have hfin := hcont (w6.heap.size) _ ⟨HS8.out, HBL.out⟩
     refine norm_ ?_ hfin
     simp only [putAll, AP_]
    ·refine goes_ Tryd.func35 (by kernel_rfl) rfl #[.pointer (some ⟨g, 0, none⟩), .int .i64 (3)] (by rfl) rfl rfl (by (try simp only [List.map_toArray, List.map_cons, List.map_nil]); rfl) ?_
     refine (spec_l5Cur_pick.calls g s0_0 _ _ (3) _ _ _ w0 _ HS6.out.hI HS6.out.hB (pk_pick HP2.out).1).mono ?_
     rintro e w7 ⟨rfl, hI', hB', hk'⟩
     have HS7 := Aside0.mk (HS6.out.read hI' hB' hk')
     clear hI' hB' hk'
     refine ⟨_, rfl, ?_⟩
     refine hK.out _ _ HS7.out.cells.1.1 (fun hS => ?_)
     refine norm_ (a' := ?_) ?_ ?_
     rotate_left
     ·show Act.put _ (some 136) _ = _
      simp only [AP_, i64_w]
      rfl
     refine one_ (i := 7) (N := some 134) #[true, true, true, true, true, true, true, true, true, true, false, false, false, false] rfl rfl (by kernel_rfl) (by decide) (fun K hK => ?_)
     refine Go.Proofs.YtkcocomehhlpmaaDoorW.PrintWords.event_step (w1 := w7.alloc (.cells #[.int .i64 0, .int .i64 5, .int .i64 6] 3)) (v := .slice (some ⟨w7.heap.size, 0, none⟩) 3 3) (by rfl) (by first | (go_simp; done) | (go_simp; rfl)) ?_
     have hbl := heap_alloc_new w7 (.cells #[.int .i64 0, .int .i64 5, .int .i64 6] 3)
     have HS8 := Aside0.mk (HS7.out.below (below_alloc (Below.refl w7.heap.size w7) (.cells #[.int .i64 0, .int .i64 5, .int .i64 6] 3)))
     obtain ⟨w8, hw8⟩ : ∃ W, W = w7.alloc (.cells #[.int .i64 0, .int .i64 5, .int .i64 6] 3) := ⟨_, rfl⟩
     rw [← hw8] at hbl HS8 ⊢
     have HBL := Aside0.mk hbl
     clear hbl hw8
     refine hK.out _ _ HS8.out.cells.1.1 (fun hS => ?_)
     refine norm_ (a' := ?_) ?_ ?_
     rotate_left
     ·show Act.put _ (some 134) _ = _
      simp only [AP_, i64_w]
      rfl
     have hfin := hcont (w7.heap.size) _ ⟨HS8.out, HBL.out⟩
     refine norm_ ?_ hfin
     simp only [putAll, AP_]
   ·obtain ⟨wD, hwD⟩ : ∃ W, W = w5.drew := ⟨_, rfl⟩
    rw [← hwD] at HSd ⊢
    clear hwD
    refine Go.Proofs.YtkcocomehhlpmaaDoorW.PrintWords.event_step (w1 := wD.alloc (.cells #[.int .i64 0, .int .i64 5, .int .i64 6] 3)) (v := .slice (some ⟨wD.heap.size, 0, none⟩) 3 3) (by rfl) (by first | (go_simp; done) | (go_simp; rfl)) ?_
    have hbl := heap_alloc_new wD (.cells #[.int .i64 0, .int .i64 5, .int .i64 6] 3)
    have HS6 := Aside0.mk (HSd.out.below (below_alloc (Below.refl wD.heap.size wD) (.cells #[.int .i64 0, .int .i64 5, .int .i64 6] 3)))
    obtain ⟨w6, hw8⟩ : ∃ W, W = wD.alloc (.cells #[.int .i64 0, .int .i64 5, .int .i64 6] 3) := ⟨_, rfl⟩
    rw [← hw8] at hbl HS6 ⊢
    have HBL := Aside0.mk hbl
    clear hbl hw8
    refine hK.out _ _ HS6.out.cells.1.1 (fun hS => ?_)
    refine norm_ (a' := ?_) ?_ ?_
    rotate_left
    ·show Act.put _ (some 134) _ = _
     simp only [AP_, i64_w]
     rfl
    refine one_ (i := 6) (N := some 133) #[true, true, true, true, true, true, true, true, true, false, false, false, false, false] rfl rfl (by kernel_rfl) (by decide) (fun K hK => ?_)
    refine goes_ Tryd.func35 (by kernel_rfl) rfl #[.pointer (some ⟨g, 0, none⟩), .int .i64 ((R.length : Int))] (by rfl) rfl rfl (by (try simp only [List.map_toArray, List.map_cons, List.map_nil]); rfl) ?_
    refine (spec_l5Cur_pick.calls g s0_0 _ _ ((R.length : Int)) _ _ _ w0 _ HS6.out.hI HS6.out.hB (pk_pick HP1.out).1).mono ?_
    rintro e w7 ⟨rfl, hI', hB', hk'⟩
    have HS7 := Aside0.mk (HS6.out.read hI' hB' hk')
    replace HBL := Aside0.mk (KeepBut.blk hk' HBL.out (by have := HSd.out.le; have := HSd.out.gl; omega) (by simp))
    clear hI' hB' hk'
    refine ⟨_, rfl, ?_⟩
    refine hK.out _ _ HS7.out.cells.1.1 (fun hS => ?_)
    refine norm_ (a' := ?_) ?_ ?_
    rotate_left
    ·show Act.put _ (some 133) _ = _
     simp only [AP_, i64_w]
     rfl
    refine one_ (i := 9) (N := some 136) #[true, true, true, true, true, true, true, true, true, true, false, false, false, false] rfl rfl (by kernel_rfl) (by decide) (fun K hK => ?_)
    refine goes_ Tryd.func35 (by kernel_rfl) rfl #[.pointer (some ⟨g, 0, none⟩), .int .i64 (3)] (by rfl) rfl rfl (by (try simp only [List.map_toArray, List.map_cons, List.map_nil]); rfl) ?_
    refine (spec_l5Cur_pick.calls g s0_0 _ _ (3) _ _ _ w0 _ HS7.out.hI HS7.out.hB (pk_pick HP2.out).1).mono ?_
    rintro e w8 ⟨rfl, hI', hB', hk'⟩
    have HS8 := Aside0.mk (HS7.out.read hI' hB' hk')
    replace HBL := Aside0.mk (KeepBut.blk hk' HBL.out (by have := HSd.out.le; have := HSd.out.gl; omega) (by simp))
    clear hI' hB' hk'
    refine ⟨_, rfl, ?_⟩
    refine hK.out _ _ HS8.out.cells.1.1 (fun hS => ?_)
    refine norm_ (a' := ?_) ?_ ?_
    rotate_left
    ·show Act.put _ (some 136) _ = _
     simp only [AP_, i64_w]
     rfl
    have hfin := hcont (wD.heap.size) _ ⟨HS8.out, HBL.out⟩
    refine norm_ ?_ hfin
    simp only [putAll, AP_]
 rw [if_neg q0] at HQ0
 have b0 : (q == 0) = false := beq_eq_false_iff_ne.mpr q0
 by_cases q1 : q = 1
 ·subst q1
  rw [if_pos rfl] at HQ0
  obtain ⟨⟨R9, a9, s9⟩, hl, HQ0⟩ := Option.bind_eq_some_iff.mp HQ0
  simp only [Option.some.injEq, Prod.mk.injEq] at HQ0
  obtain ⟨rfl, rfl, rfl, rfl, rfl⟩ := HQ0
  have HL := Aside0.mk hl
  clear hl
  have b1 : ((1 : Int) == 1) = true := rfl
  have b2 : ((1 : Int) == 0) = false := rfl
  go_wp2_with (fail)
  go_loopg [144] k (fun kq x144 wr => ∃ (R1 : List Int) (a1 s1 : Int) (x0 : Value), Aside0 (rms kq s0_0 a1 s1 R1 = some (R9, a9, s9)) ∧ Aside0 (Sp w0 w wr g s0_0 a1 s1 x0 (.slice A1 T.length c1) (.slice A2 N.length c2) R1 T N))
  case atStart => exact ⟨R, a2, s2, _, HL, HS5⟩
  case round =>
   clear HL HS5
   obtain ⟨R1, a1, s1, x0, HL, HS⟩ := hrel
   cases gk with
   | zero => exact absurd HL.out (by simp [rms])
   | succ k1 =>
    have hl := HL.out
    unfold rms at hl
    obtain ⟨⟨p, a3, s3⟩, hp, hl⟩ := Option.bind_eq_some_iff.mp hl
    have hpr := (pk_pick hp).2
    have HP := Aside0.mk hp
    try dsimp only at hpr hl
    clear hp HL
    obtain ⟨A0', c0', e0⟩ := Kd.R_slice HS.out.r0
    subst e0
    obtain ⟨⟨z0, z1, z2⟩, f0, f1, f2⟩ := HS.out.cells
    have HSd := Aside0.mk (HS.out.below (below_drew (Below.refl _ _)))
    have ew : wrap64 (40 + p) = 40 + p := w64 (by omega) (by omega)
    go_wp2_with (fail)
    refine start_ (n := 7) (S := fun w' => w'.cell? ⟨w.heap.size, 0, none⟩ = some (.slice A0' R1.length c0')) (ds := []) (Array.replicate 7 false) (by kernel_rfl) rfl rfl z0 (fun hS => ?_)
    refine np_ 0 142 rfl rfl (by kernel_rfl) (fun _ _ _ h => h) (by rfl) (fun w' => by go_simp; with_reducible rfl) (by simp only [AP_, i64_w]; rfl) ?_
    refine nt_ hS 1 143 rfl rfl (by kernel_rfl) (fun _ _ _ h => h) (by rfl) (fun w' s0 => by go_simp; with_reducible rfl) (by simp only [AP_, i64_w]; rfl) ?_
    refine np_ 2 144 rfl rfl (by kernel_rfl) (fun _ _ _ h => h) (by rfl) (fun w' => by go_simp; with_reducible rfl) (by simp only [AP_, i64_w]; rfl) ?_
    refine np_ 3 145 rfl rfl (by kernel_rfl) (fun _ _ _ h => h) (by rfl) (fun w' => by go_simp; with_reducible rfl) (by simp only [AP_, i64_w]; rfl) ?_
    refine no_ 4 146 rfl rfl (by kernel_rfl) (by decide) (fun K hK => ?_)
    refine goes_ Tryd.func35 (by kernel_rfl) rfl #[.pointer (some ⟨g, 0, none⟩), .int .i64 (2)] (by rfl) rfl rfl (by (try simp only [List.map_toArray, List.map_cons, List.map_nil]); rfl) ?_
    refine (spec_l5Cur_pick.calls g s0_0 _ _ (2) _ _ _ w0 _ HSd.out.hI HSd.out.hB (pk_pick HP.out).1).mono ?_
    rintro e w6 ⟨rfl, hI', hB', hk'⟩
    have HS1 := Aside0.mk (HSd.out.read hI' hB' hk')
    clear hI' hB' hk'
    refine ⟨_, rfl, ?_⟩
    refine hK _ _ HS1.out.cells.1.1 (fun hS => ?_)
    refine norm_ (a' := ?_) ?_ ?_
    rotate_left
    ·show Act.put _ (some 146) _ = _
     simp only [AP_, i64_w]
     rfl
    clear HS HSd z0 z1 z2 f0 f1 f2
    refine np_ 5 147 (v := (.int .i64 (40 + p))) rfl rfl (by kernel_rfl) (fun _ _ _ h => h) (by rfl) (fun w' => by go_simp; rw [i64_w]; exact ew) (by simp only [AP_, i64_w]; rfl) ?_
    by_cases c : (R1.length : Int) < 40 + p
    ·have d : decide ((R1.length : Int) < 40 + p) = true := decide_eq_true c
     rw [if_pos c] at hl
     refine np_ 6 148 (v := (.bool true)) rfl rfl (by kernel_rfl) (fun _ _ _ h => h) (by rfl) (fun w' => by go_simp) (by simp only [AP_, i64_w]; rfl) ?_
     refine done_ (by kernel_rfl) ?_
     by_cases cl : R1.length < 1000000
     rotate_left
     ·rw [if_neg cl] at hl; cases hl
     rw [if_pos cl] at hl
     have HL := Aside0.mk hl
     clear hl ew c d
     obtain ⟨⟨z0, z1, z2⟩, f0, f1, f2⟩ := HS1.out.cells
     go_wp2_with (first
      | ((with_reducible refine gate_builtin (b := .append) (xs := #[.tmp 150, .tmp 151]) rfl ?_); at_builtin; refine Kd.R_append (Kd.int .i64) (w0 := w6) w.heap.size rfl (.tmp 150) (.tmp 151) 22 3 (.int .i64 0) 8 rfl Tryd.underlying22 info3 rfl (by decide) (by omega) (.slice A0' R1.length c0') R1 1 [.int .i64 1] (fun k => w.heap.size + 2 ≤ k ∧ some k ≠ (Value.slice A2 N.length c2).ownBlock ∧ some k ≠ (Value.slice A1 T.length c1).ownBlock) (fun _ => False) rfl rfl ?aP (fun _ hk => hk.elim) ?aF HS1.out.r0 (Below.refl _ _) (by have := HS1.out.le; omega) ?aL ?_; (case aP => exact rfl); (case aF => exact (fun k hk => ⟨by have := HS1.out.le; omega, fun e => by have := Kd.R_lt HS1.out.r2 k e.symm; omega, fun e => by have := Kd.S_lt HS1.out.s1 k e.symm; omega⟩)); (case aL => omega); intro v7 w7 ho hb hg hat; obtain ⟨A7, c7, e7⟩ := Kd.R_slice ho; subst e7; have HS7 := Aside0.mk (HS1.out.roomApp ho hg hat); have bx7 := (hg.block _ (blk_lt HS1.out.bx) (fun e => by have := (HS1.out.r0.1 _ e.symm).1; omega)).trans HS1.out.bx; have z7 := (blk_cell bx7 0).trans (show _ = some (Value.slice A0' R1.length c0') from rfl); have f7 := blk_frozen bx7 0; clear ho hb hg hat bx7 HS1 z0 z1 z2 f0 f1 f2)
      | ((with_reducible refine gate_store (t := 22) (p := 153) rfl ?_); refine store_event (t := 22) (p := 153) (v := ?vo1_) (w1 := w7.setCell ⟨w.heap.size, 0, none⟩ (.slice A7 (R1 ++ [1]).length c7)) ?hg ?ho ?hn ?hr ?_; (case ho => rfl); (case hg => rfl); (case hn => rfl); (case hr => first | (go_simp; done) | (go_simp; rfl)); intro w8 hw; rw [← hw] at HS7; clear hw z7 f7))
     go_roundg k1
     case measure => omega
     case rel => exact ⟨R1 ++ [1], a3, s3, _, HL, HS7⟩
    ·have d : decide ((R1.length : Int) < 40 + p) = false := decide_eq_false c
     rw [if_neg c] at hl
     refine np_ 6 148 (v := (.bool false)) rfl rfl (by kernel_rfl) (fun _ _ _ h => h) (by rfl) (fun w' => by go_simp) (by simp only [AP_, i64_w]; rfl) ?_
     refine done_ (by kernel_rfl) ?_
     simp only [Option.some.injEq, Prod.mk.injEq] at hl
     obtain ⟨rfl, rfl, rfl⟩ := hl
     clear ew c d
     have HSn := Aside0.mk HS1.out.sn
     obtain ⟨⟨z0, z1, z2⟩, f0, f1, f2⟩ := HSn.out.cells
     have BRR := Aside0.mk HSn.out.br
     go_wp2_with (first
      | ((with_reducible refine gate_store (t := 30) (p := 4) rfl ?_); (try simp only [Act.put, List.setIfInBounds_toArray, List.set_cons_zero, List.set_cons_succ]); refine row_wr_ rfl 30 (.tmp 4) (.tmp 161) rfl rfl (w.heap.size + 1) rfl (c' := #[.slice A0' R1.length c0', .slice A1 T.length c1, .slice A2 N.length c2]) rfl BRR.out infoS rfl (by simp [Value.oneCell']) ?_; intro wE hwE hgE; have BE := Aside0.mk hwE; have HG := Aside0.mk hgE; clear hwE hgE z0 z1 z2 f0 f1 f2))
     refine bodyPost_ret (results_cell_row rfl _ _ (w.heap.size + 1) 30 _ (0, 0) _ rfl BE.out Tryd.underlying30 rfl (by kernel_rfl)) rfl ?_
     exact ⟨_, _, _, rfl, HSn.out.done HG.out⟩
 rw [if_neg q1] at HQ0
 have b1 : (q == 1) = false := beq_eq_false_iff_ne.mpr q1
 by_cases q2 : q = 2
 ·subst q2
  rw [if_pos rfl] at HQ0
  unfold sp2 at HQ0
  by_cases c : N.length < 1000000
  rotate_left
  ·rw [if_neg c] at HQ0; cases HQ0
  rw [if_pos c] at HQ0
  simp only [Option.some.injEq, Prod.mk.injEq] at HQ0
  obtain ⟨rfl, rfl, rfl, rfl, rfl⟩ := HQ0
  have b1 : ((2 : Int) == 2) = true := rfl
  have b2 : ((2 : Int) == 0) = false := rfl
  have b3 : ((2 : Int) == 1) = false := rfl
  have HN := Aside0.mk HS5.out.sn
  obtain ⟨⟨z0, z1, z2⟩, f0, f1, f2⟩ := HN.out.cells
  go_wp2_with (first
   | ((with_reducible refine gate_builtin (b := .append) (xs := #[.tmp 157, .tmp 158]) rfl ?_); at_builtin; refine Kd.R_append (Kd.int .i64) (w0 := _) w.heap.size rfl (.tmp 157) (.tmp 158) 22 3 (.int .i64 0) 8 rfl Tryd.underlying22 info3 rfl (by decide) (by omega) (.slice A2 N.length c2) N 9 [.int .i64 9] (fun k => w.heap.size + 2 ≤ k ∧ some k ≠ (Value.slice A0 R.length c0).ownBlock) (fun _ => False) rfl rfl ?aP (fun _ hk => hk.elim) ?aF HN.out.r2 (Below.refl _ _) (by have := HN.out.le; omega) ?aL ?_; (case aP => exact rfl); (case aF => exact (fun k hk => ⟨by have := HN.out.le; omega, fun e => by have := Kd.R_lt HN.out.r0 k e.symm; omega⟩)); (case aL => omega); intro v7 w7 ho hb hg hat; obtain ⟨NX, hNX⟩ : ∃ x, x = N ++ [9] := ⟨_, rfl⟩; rw [← hNX] at ho; have HNX := Aside0.mk hNX; clear hNX; obtain ⟨A7, c7, e7⟩ := Kd.R_slice ho; subst e7; have HN7 := Aside0.mk (HN.out.nameApp ho hg hat); have bx7 := (hg.block _ (blk_lt HN.out.bx) (fun e => by have := (HN.out.r2.1 _ e.symm).1; omega)).trans HN.out.bx; have z7 := (blk_cell bx7 2).trans (show _ = some (Value.slice A2 N.length c2) from rfl); have f7 := blk_frozen bx7 2; clear ho hb hg hat bx7 z0 z1 z2 f0 f1 f2)
   | ((with_reducible refine gate_store (t := 22) (p := 160) rfl ?_); refine store_event (t := 22) (p := 160) (v := ?vo2_) (w1 := w7.setCell ⟨w.heap.size, 2, none⟩ (.slice A7 NX.length c7)) ?hg ?ho ?hn ?hr ?_; (case ho => rfl); (case hg => rfl); (case hn => rfl); (case hr => first | (go_simp; done) | (go_simp; rfl)); intro w8 hw; rw [← hw] at HN7; clear hw z7 f7; obtain ⟨⟨z0, z1, z2⟩, f0, f1, f2⟩ := HN7.out.cells; have BRR := Aside0.mk HN7.out.br)
   | ((with_reducible refine gate_store (t := 30) (p := 4) rfl ?_); (try simp only [Act.put, List.setIfInBounds_toArray, List.set_cons_zero, List.set_cons_succ]); refine row_wr_ rfl 30 (.tmp 4) (.tmp 161) rfl rfl (w.heap.size + 1) rfl (c' := #[.slice A0 R.length c0, .slice A1 T.length c1, .slice A7 NX.length c7]) rfl BRR.out infoS rfl (by simp [Value.oneCell']) ?_; intro wE hwE hgE; have BE := Aside0.mk hwE; have HG := Aside0.mk hgE; clear hwE hgE z0 z1 z2 f0 f1 f2))
  refine bodyPost_ret (results_cell_row rfl _ _ (w.heap.size + 1) 30 _ (0, 0) _ rfl BE.out Tryd.underlying30 rfl (by kernel_rfl)) rfl ?_
  have h9 := HNX.out
  subst h9
  exact ⟨_, _, _, rfl, HN7.out.done HG.out⟩
 rw [if_neg q2] at HQ0
 have b2 : (q == 2) = false := beq_eq_false_iff_ne.mpr q2
 by_cases t0 : T.length = 0
 ·rw [if_pos t0] at HQ0
  simp only [Option.some.injEq, Prod.mk.injEq] at HQ0
  obtain ⟨rfl, rfl, rfl, rfl, rfl⟩ := HQ0
  obtain ⟨⟨z0, z1, z2⟩, f0, f1, f2⟩ := HS5.out.cells
  have d15 : ((T.length : Int) == 0) = true := by rw [t0]; rfl
  have d15b : decide ((T.length : Int) = 0) = true := by rw [t0]; rfl
  clear t0
  have HSn := Aside0.mk HS5.out.roomNil
  obtain ⟨wN, hwN⟩ : ∃ W, W = w5.setCell ⟨w.heap.size, 0, none⟩ (.slice none 0 0) := ⟨_, rfl⟩
  have HWN := Aside0.mk hwN
  rw [← hwN] at HSn
  clear hwN
  go_wp2_with (first
   | ((with_reducible refine gate_store (t := 22) (p := 16) rfl ?_); refine store_event (t := 22) (p := 16) (v := ?vo3_) (w1 := w5.setCell ⟨w.heap.size, 0, none⟩ (.slice none 0 0)) ?hg ?ho ?hn ?hr ?_; (case ho => rfl); (case hg => rfl); (case hn => rfl); (case hr => first | (go_simp; done) | (go_simp; rfl)); intro w6 hw; rw [← HWN.out] at hw; subst hw; clear z0 z1 z2 f0 f1 f2 HS5 HWN; obtain ⟨⟨z0, z1, z2⟩, f0, f1, f2⟩ := HSn.out.cells; have BRR := Aside0.mk HSn.out.br)
   | ((with_reducible refine gate_store (t := 30) (p := 4) rfl ?_); (try simp only [Act.put, List.setIfInBounds_toArray, List.set_cons_zero, List.set_cons_succ]); refine row_wr_ rfl 30 (.tmp 4) (.tmp 17) rfl rfl (w.heap.size + 1) rfl (c' := #[.slice none 0 0, .slice A1 T.length c1, .slice A2 N.length c2]) rfl BRR.out infoS rfl (by simp [Value.oneCell']) ?_; intro wE hwE hgE; have BE := Aside0.mk hwE; have HG := Aside0.mk hgE; clear hwE hgE z0 z1 z2 f0 f1 f2))
  refine bodyPost_ret (results_cell_row rfl _ _ (w.heap.size + 1) 30 _ (0, 0) _ rfl BE.out Tryd.underlying30 rfl (by kernel_rfl)) rfl ?_
  exact ⟨_, _, _, rfl, HSn.out.done HG.out⟩
 rw [if_neg t0] at HQ0
 obtain ⟨⟨ii, a3, s3⟩, hpi, HQ0⟩ := Option.bind_eq_some_iff.mp HQ0
 have hir := (pk_pick hpi).2
 try dsimp only at hir HQ0
 obtain ⟨i, rfl⟩ := Int.eq_ofNat_of_zero_le hir.1
 have hiT : i < T.length := by omega
 rw [Int.toNat_natCast] at HQ0
 have HPI := Aside0.mk hpi
 have d15 : ((T.length : Int) == 0) = false := beq_eq_false_iff_ne.mpr (by omega)
 have d15b : decide ((T.length : Int) = 0) = false := decide_eq_false (by omega)
 clear t0 hpi hir
 obtain ⟨gT, cT, eT, _, _, _⟩ := Kd.S_form HS5.out.s1 (by omega)
 injection eT with e1 _ e2
 subst e1 e2
 obtain ⟨⟨z0, z1, z2⟩, f0, f1, f2⟩ := HS5.out.cells
 go_wp2_with (fail)
 clear z0 z1 z2 f0 f1 f2
 refine (spec_l5Cur_pick.calls g s0_0 _ _ (T.length : Int) _ _ _ w0 _ HS5.out.hI HS5.out.hB (pk_pick HPI.out).1).mono ?_
 rintro e w6 ⟨rfl, hI', hB', hk'⟩
 have HS6 := Aside0.mk (HS5.out.read hI' hB' hk')
 clear hI' hB' hk'
 clear HS5 HPI
 obtain ⟨⟨z0, z1, z2⟩, f0, f1, f2⟩ := HS6.out.cells
 have p7 : (0 : Int) ≤ (i : Int) := by omega
 have q7 : (i : Int) < (T.length : Int) := by omega
 unfold sp3 at HQ0
 obtain ⟨⟨x, a4, s4⟩, hp_, HQ0⟩ := Option.bind_eq_some_iff.mp HQ0
 have hxr := (pk_pick hp_).2
 try dsimp only at hxr HQ0
 have HPX := Aside0.mk hp_
 clear hp_
 go_wp2_with (fail)
 clear z0 z1 z2 f0 f1 f2
 refine (spec_l5Cur_pick.calls g s0_0 _ _ 6 _ _ _ w0 _ HS6.out.hI HS6.out.hB (pk_pick HPX.out).1).mono ?_
 rintro e w7 ⟨rfl, hI', hB', hk'⟩
 have HS7 := Aside0.mk (HS6.out.read hI' hB' hk')
 clear hI' hB' hk'
 clear HS6 HPX b0 b1 b2 q0 q1 q2 hqr d15 d15b
 by_cases q0 : x = 0
 ·subst q0
  rw [if_pos rfl] at HQ0
  have e0 : ((0 : Int) == 0) = true := rfl
  by_cases cl : R.length < 1000000
  rotate_left
  ·rw [if_neg cl] at HQ0; cases HQ0
  rw [if_pos cl] at HQ0
  obtain ⟨⟨r, a5, s5⟩, hp_, HQ0⟩ := Option.bind_eq_some_iff.mp HQ0
  have hrr := (pk_pick hp_).2
  try dsimp only at hrr HQ0
  have HPR := Aside0.mk hp_
  clear hp_
  simp only [Option.some.injEq, Prod.mk.injEq] at HQ0
  obtain ⟨rfl, rfl, rfl, rfl, rfl⟩ := HQ0
  obtain ⟨⟨z0, z1, z2⟩, f0, f1, f2⟩ := HS7.out.cells
  go_wp2_with (fail)
  clear z0 z1 z2 f0 f1 f2
  refine (spec_l5Cur_pick.calls g s0_0 _ _ ((R.length : Int) + 2) _ _ _ w0 _ HS7.out.hI HS7.out.hB (pk_pick HPR.out).1).mono ?_
  rintro e w8 ⟨rfl, hI', hB', hk'⟩
  have HS8 := Aside0.mk (HS7.out.read hI' hB' hk')
  clear hI' hB' hk'
  clear HS7 HPR
  obtain ⟨gT', cT', Ap, cp, oki, eT, hg1, hg2, hoki, ⟨x0, x1, x2⟩, ⟨y0, y1, y2⟩, hv, hAt, hWt, hPa⟩ := HS8.out.lend hiT
  injection eT with e1 _ e2
  injection e1 with e1
  injection e1 with e1
  subst e1 e2
  have HSn := Aside0.mk (hAt (r - 1)).sn
  clear hv hAt hWt hPa HS8
  go_wp2_with (first
   | ((with_reducible refine gate_store (t := 3) (p := 53) rfl ?_); refine store_event (t := 3) (p := 53) (v := ?vo4_) (w1 := w8.setCell ⟨gT, i * 3, none⟩ (.int .i64 (r - 1))) ?hg ?ho ?hn ?hr ?_; (case ho => rfl); (case hg => rfl); (case hn => rfl); (case hr => first | (go_simp; done) | (go_simp; rfl)); intro w9 hw; rw [← hw] at HSn; clear hw x0 x1 x2 y0 y1 y2; obtain ⟨⟨z0, z1, z2⟩, f0, f1, f2⟩ := HSn.out.cells; have BRR := Aside0.mk HSn.out.br)
   | ((with_reducible refine gate_store (t := 30) (p := 4) rfl ?_); (try simp only [Act.put, List.setIfInBounds_toArray, List.set_cons_zero, List.set_cons_succ]); refine row_wr_ rfl 30 (.tmp 4) (.tmp 161) rfl rfl (w.heap.size + 1) rfl (c' := #[.slice A0 R.length c0, .slice (some ⟨gT, 0, none⟩) T.length c1, .slice A2 N.length c2]) rfl BRR.out infoS rfl (by simp [Value.oneCell']) ?_; intro wE hwE hgE; have BE := Aside0.mk hwE; have HG := Aside0.mk hgE; clear hwE hgE z0 z1 z2 f0 f1 f2))
  refine bodyPost_ret (results_cell_row rfl _ _ (w.heap.size + 1) 30 _ (0, 0) _ rfl BE.out Tryd.underlying30 rfl (by kernel_rfl)) rfl ?_
  exact ⟨_, _, _, rfl, HSn.out.done HG.out⟩
 rw [if_neg q0] at HQ0
 have b0 : (x == 0) = false := beq_eq_false_iff_ne.mpr q0
 by_cases q1 : x = 1
 ·subst q1
  rw [if_pos rfl] at HQ0
  have e0 : ((1 : Int) == 0) = false := rfl
  have e1 : ((1 : Int) == 1) = true := rfl
  obtain ⟨t, ht⟩ : ∃ t, t = T.getD i z48 := ⟨_, rfl⟩
  rw [← ht] at HQ0
  have HTT := Aside0.mk ht
  clear ht
  by_cases cl : R.length < 1000000 ∧ t.f1.length < 1000000
  rotate_left
  ·rw [if_neg cl] at HQ0; cases HQ0
  rw [if_pos cl] at HQ0
  obtain ⟨⟨r, a5, s5⟩, hp_, HQ0⟩ := Option.bind_eq_some_iff.mp HQ0
  have hrr := (pk_pick hp_).2
  try dsimp only at hrr HQ0
  have HPR := Aside0.mk hp_
  clear hp_
  simp only [Option.some.injEq, Prod.mk.injEq] at HQ0
  obtain ⟨rfl, rfl, rfl, rfl, rfl⟩ := HQ0
  have o1 : (-9223372036854775808 : Int) ≤ (R.length : Int) + 2 := by omega
  have o2 : (R.length : Int) + 2 ≤ 9223372036854775807 := by omega
  have o3 : (-9223372036854775808 : Int) ≤ r - 1 := by omega
  have o4 : r - 1 ≤ 9223372036854775807 := by omega
  have ew : wrap64 ((R.length : Int) + 2) = (R.length : Int) + 2 := w64 o1 o2
  have EW := Aside0.mk (w64 o3 o4)
  clear o1 o2 o3 o4
  obtain ⟨⟨z0, z1, z2⟩, f0, f1, f2⟩ := HS7.out.cells
  obtain ⟨gT', cT', Ap, cp, oki, eT, hg1, hg2, hoki, ⟨x0, x1, x2⟩, ⟨y0, y1, y2⟩, hv, hAt, hWt, hPa⟩ := HS7.out.lend hiT
  injection eT with e1 _ e2
  injection e1 with e1
  injection e1 with e1
  subst e1 e2
  rw [← HTT.out] at x1
  clear hv hAt hWt hPa x0 x2 y0 y1 y2 hoki oki hg2
  have HSd := Aside0.mk (HS7.out.below (below_drew (Below.refl _ _)))
  go_wp2_with (fail)
  refine start_ (n := 17) (S := fun w' => w'.cell? ⟨w.heap.size, 0, none⟩ = some (.slice A0 R.length c0) ∧ w'.cell? ⟨gT, i * 3 + 1, none⟩ = some (.slice Ap t.f1.length cp)) (ds := [16]) (Array.replicate 17 false) (by kernel_rfl) rfl rfl ⟨z0, x1⟩ (fun hS => ?_)
  refine np_ 0 56 rfl rfl (by kernel_rfl) (fun _ _ _ h => h) (by rfl) (fun w' => by go_simp; with_reducible rfl) (by simp only [AP_, i64_w]; rfl) ?_
  refine np_ 1 57 rfl rfl (by kernel_rfl) (fun _ _ _ h => h) (by rfl) (fun w' => by go_simp; with_reducible rfl) (by simp only [AP_, i64_w]; rfl) ?_
  refine np_ 2 58 rfl rfl (by kernel_rfl) (fun _ _ _ h => h) (by rfl) (fun w' => by go_simp; with_reducible rfl) (by simp only [AP_, i64_w]; rfl) ?_
  refine np_ 3 59 rfl rfl (by kernel_rfl) (fun _ _ _ h => h) (by rfl) (fun w' => by go_simp; with_reducible rfl) (by simp only [AP_, i64_w]; rfl) ?_
  refine nt_ hS 4 60 rfl rfl (by kernel_rfl) (fun _ _ _ h => h) (by rfl) (fun w' ⟨s0, s1⟩ => by go_simp; with_reducible rfl) (by simp only [AP_, i64_w]; rfl) ?_
  refine np_ 5 61 rfl rfl (by kernel_rfl) (fun _ _ _ h => h) (by rfl) (fun w' => by go_simp; with_reducible rfl) (by simp only [AP_, i64_w]; rfl) ?_
  refine np_ 6 62 rfl rfl (by kernel_rfl) (fun _ _ _ h => h) (by rfl) (fun w' => by go_simp; with_reducible rfl) (by simp only [AP_, i64_w]; rfl) ?_
  refine nt_ hS 7 63 rfl rfl (by kernel_rfl) (fun _ _ _ h => h) (by rfl) (fun w' ⟨s0, s1⟩ => by go_simp; with_reducible rfl) (by simp only [AP_, i64_w]; rfl) ?_
  refine np_ 8 64 rfl rfl (by kernel_rfl) (fun _ _ _ h => h) (by rfl) (fun w' => by go_simp; with_reducible rfl) (by simp only [AP_, i64_w]; rfl) ?_
  refine np_ 9 65 (v := (.int .i64 ((R.length : Int) + 2))) rfl rfl (by kernel_rfl) (fun _ _ _ h => h) (by rfl) (fun w' => by go_simp; rw [i64_w]; exact ew) (by simp only [AP_, i64_w]; rfl) ?_
  clear ew
  refine no_ 10 66 rfl rfl (by kernel_rfl) (by decide) (fun K hK => ?_)
  refine goes_ Tryd.func35 (by kernel_rfl) rfl #[.pointer (some ⟨g, 0, none⟩), .int .i64 ((R.length : Int) + 2)] (by rfl) rfl rfl (by (try simp only [List.map_toArray, List.map_cons, List.map_nil]); rfl) ?_
  refine (spec_l5Cur_pick.calls g s0_0 _ _ ((R.length : Int) + 2) _ _ _ w0 _ HSd.out.hI HSd.out.hB (pk_pick HPR.out).1).mono ?_
  rintro e w8 ⟨rfl, hI', hB', hk'⟩
  have HS8 := Aside0.mk (HSd.out.read hI' hB' hk')
  have x1' : w8.cell? ⟨gT, i * 3 + 1, none⟩ = some (.slice Ap t.f1.length cp) := keep_cell hk' (show w7.drew.cell? ⟨gT, i * 3 + 1, none⟩ = _ from x1) (by have := HS7.out.gl; simp; omega)
  clear hI' hB' hk' x1 z0 z1 z2 f0 f1 f2 HS7 HSd
  refine ⟨_, rfl, ?_⟩
  refine hK _ _ ⟨HS8.out.cells.1.1, x1'⟩ (fun hS => ?_)
  refine norm_ (a' := ?_) ?_ ?_
  rotate_left
  ·show Act.put _ (some 66) _ = _
   simp only [AP_, i64_w]
   rfl
  obtain ⟨gT', cT', Ap', cp', oki, eT, _, hg2, hoki, ⟨x0, x1, x2⟩, ⟨y0, y1, y2⟩, hv, hAt, hWt, hPa⟩ := HS8.out.lend hiT
  injection eT with e1 _ e2
  injection e1 with e1
  injection e1 with e1
  subst e1 e2
  rw [← HTT.out] at x1 hv hPa
  rw [x1'] at x1
  injection x1 with x1
  injection x1 with e1 _ e2
  subst e1 e2
  clear x0 x2 y0 y2 hAt hWt
  refine np_ 11 67 (v := (.int .i64 (r - 1))) rfl rfl (by kernel_rfl) (fun _ _ _ h => h) (by rfl) (fun w' => by go_simp; rw [i64_w]; exact EW.out) (by simp only [AP_, i64_w]; rfl) ?_
  refine no_ 12 68 rfl rfl (by kernel_rfl) (by decide) (fun K hK => ?_)
  refine Go.Proofs.YtkcocomehhlpmaaDoorW.PrintWords.event_step (w1 := w8.alloc (.cells #[.int .i64 (r - 1)] 3)) (v := .slice (some ⟨w8.heap.size, 0, none⟩) 1 1) (by rfl) (by first | (go_simp; done) | (go_simp; rfl)) ?_
  refine hK _ _ ?_ (fun hS => ?_)
  ·have hba : Below w8.heap.size w8 (w8.alloc (.cells #[.int .i64 (r - 1)] 3)) := below_alloc (Below.refl _ _) _
   exact ⟨(hba.cell (World.block_lt_of_cell? _ _ hS.1)).trans hS.1, (hba.cell (World.block_lt_of_cell? _ _ hS.2)).trans hS.2⟩
  refine norm_ (a' := ?_) ?_ ?_
  rotate_left
  ·show Act.put _ (some 68) _ = _
   simp only [AP_, i64_w]
   rfl
  refine no_ 13 69 rfl rfl (by kernel_rfl) (by decide) (fun K hK => ?_)
  refine Kd.R_append_step (Kd.int .i64) (w0 := w8) w.heap.size (by rfl) (.tmp 60) (.tmp 68) 22 3 (.int .i64 0) 8 rfl Tryd.underlying22 info3 rfl (by decide) (by omega) (.slice Ap t.f1.length cp) t.f1 (r - 1) [.int .i64 (r - 1)] (fun k => oki k ∨ w8.heap.size ≤ k) (fun _ => False) rfl rfl rfl (fun _ hk => hk.elim) (fun k hk => .inr hk) (Kd.R_mono hv (fun k hk => .inl hk)) (Below.refl _ _) (by have := HS8.out.le; omega) (by have := cl.2; omega) ?_
  intro v9 w9 ho hb hg hat
  obtain ⟨NX, hNX⟩ : ∃ x, x = t.f1 ++ [(r - 1)] := ⟨_, rfl⟩
  rw [← hNX] at ho
  have HNX := Aside0.mk hNX
  clear hNX
  obtain ⟨Ax, cx, ex⟩ := Kd.R_slice ho
  subst ex
  have hrow : ∀ k, (Value.slice Ap t.f1.length cp).ownBlock = some k → w.heap.size + 2 ≤ k ∧ k ≠ gT := fun k hk => ⟨(hoki k (hv.1 k hk)).1.1, (hoki k (hv.1 k hk)).2⟩
  have x1n := (hg.cell_far (⟨gT, i * 3 + 1, none⟩ : Addr) hg2 (fun e => (hrow gT e.symm).2 rfl)).trans x1'
  have y1' : w9.frozen? ⟨gT, i * 3 + 1, none⟩ = false := (show w9.frozen? ⟨gT, i * 3 + 1, none⟩ = w8.frozen? ⟨gT, i * 3 + 1, none⟩ from by unfold World.frozen?; rw [hg.block gT hg2 (fun e => (hrow gT e.symm).2 rfl)]).trans y1
  refine hK _ _ ⟨(hg.cell_far (⟨w.heap.size, 0, none⟩ : Addr) (blk_lt HS8.out.bx) (fun e => by have := (hrow _ e.symm).1; simp at this; omega)).trans HS8.out.cells.1.1, x1n⟩ (fun hS => ?_)
  refine norm_ (a' := ?_) ?_ ?_
  rotate_left
  ·show Act.put _ (some 69) _ = _
   simp only [AP_, i64_w]
   rfl
  refine np_ 14 70 rfl rfl (by kernel_rfl) (fun _ _ _ h => h) (by rfl) (fun w' => by go_simp; with_reducible rfl) (by simp only [AP_, i64_w]; rfl) ?_
  refine np_ 15 71 rfl rfl (by kernel_rfl) (fun _ _ _ h => h) (by rfl) (fun w' => by go_simp; with_reducible rfl) (by simp only [AP_, i64_w]; rfl) ?_
  refine nl_ 16 (w9.setCell ⟨gT, i * 3 + 1, none⟩ (.slice Ax NX.length cx)) rfl rfl (by kernel_rfl) (by decide) (by rfl) (by kernel_rfl) (by go_simp) ?_
  have HSn := Aside0.mk (hPa w9 _ _ hg ho).sn
  clear hPa hg ho hb hat hv hS HS8 x1' y1 y1' x1n hrow
  generalize w9.setCell ⟨gT, i * 3 + 1, none⟩ (.slice Ax NX.length cx) = wT at *
  obtain ⟨⟨z0, z1, z2⟩, f0, f1, f2⟩ := HSn.out.cells
  have BRR := Aside0.mk HSn.out.br
  go_wp2_with (first
   | ((with_reducible refine gate_store (t := 30) (p := 4) rfl ?_); (try simp only [Act.put, List.setIfInBounds_toArray, List.set_cons_zero, List.set_cons_succ]); refine row_wr_ rfl 30 (.tmp 4) (.tmp 161) rfl rfl (w.heap.size + 1) rfl (c' := #[.slice A0 R.length c0, .slice (some ⟨gT, 0, none⟩) T.length c1, .slice A2 N.length c2]) rfl BRR.out infoS rfl (by simp [Value.oneCell']) ?_; intro wE hwE hgE; have BE := Aside0.mk hwE; have HG := Aside0.mk hgE; clear hwE hgE z0 z1 z2 f0 f1 f2))
  refine bodyPost_ret (results_cell_row rfl _ _ (w.heap.size + 1) 30 _ (0, 0) _ rfl BE.out Tryd.underlying30 rfl (by kernel_rfl)) rfl ?_
  have h9 := HNX.out
  subst h9
  exact ⟨_, _, _, rfl, HSn.out.done HG.out⟩
 rw [if_neg q1] at HQ0
 have b1 : (x == 1) = false := beq_eq_false_iff_ne.mpr q1
 by_cases q2 : x = 2
 ·subst q2
  rw [if_pos rfl] at HQ0
  have e0 : ((2 : Int) == 0) = false := rfl
  have e1 : ((2 : Int) == 1) = false := rfl
  have e2 : ((2 : Int) == 2) = true := rfl
  obtain ⟨t, ht⟩ : ∃ t, t = T.getD i z48 := ⟨_, rfl⟩
  rw [← ht] at HQ0
  have HTT := Aside0.mk ht
  clear ht
  obtain ⟨⟨r, a5, s5⟩, hp_, HQ0⟩ := Option.bind_eq_some_iff.mp HQ0
  have hrr := (pk_pick hp_).2
  try dsimp only at hrr HQ0
  have HPR := Aside0.mk hp_
  clear hp_
  obtain ⟨pp, hp_, HQ0⟩ := Option.bind_eq_some_iff.mp HQ0
  have HPT := Aside0.mk hp_
  clear hp_
  simp only [Option.some.injEq, Prod.mk.injEq] at HQ0
  obtain ⟨rfl, rfl, rfl, rfl, rfl⟩ := HQ0
  go_wp2_with (fail)
  refine (spec_l5Cur_pick.calls g s0_0 _ _ 2 _ _ _ w0 _ HS7.out.hI HS7.out.hB (pk_pick HPR.out).1).mono ?_
  rintro e w8 ⟨rfl, hI', hB', hk'⟩
  have HS8 := Aside0.mk (HS7.out.read hI' hB' hk')
  clear hI' hB' hk'
  clear HS7 HPR
  have HS9 : Aside0 (Sp w0 w w8 g s0_0 a5 s5 (.slice A0 R.length c0) (.slice (some ⟨gT, 0, none⟩) T.length c1) (.slice A2 N.length c2) R (T.set i ⟨t.f0, t.f1, t.f2⟩) N) := ⟨by rw [HTT.out, set_same T hiT]; exact HS8.out⟩
  clear HS8
  have HS8 := HS9
  clear HS9
  go_wp2_with (fail)
  go_loopg [84] k (fun kq x84 wr => ∃ p : List Int, Aside0 (pth kq (8 + r) p = some pp) ∧ Aside0 (Sp w0 w wr g s0_0 a5 s5 (.slice A0 R.length c0) (.slice (some ⟨gT, 0, none⟩) T.length c1) (.slice A2 N.length c2) R (T.set i ⟨t.f0, p, t.f2⟩) N))
  case atStart => exact ⟨t.f1, HPT, HS8⟩
  case round =>
   clear HPT HS8
   obtain ⟨p, HL, HS⟩ := hrel
   cases gk with
   | zero => exact absurd HL.out (by simp [pth])
   | succ k1 =>
    have hl := HL.out
    unfold pth at hl
    clear HL
    have hl9 := HS.out.lend (i := i) (by rw [List.length_set]; exact hiT)
    rw [getD_set' T hiT] at hl9
    simp only [List.set_set, List.length_set] at hl9
    obtain ⟨gT', cT', Ap, cp, oki, eT, hg1, hg2, hoki, ⟨x0, x1, x2⟩, ⟨y0, y1, y2⟩, hv, hAt, hWt, hPa⟩ := hl9
    injection eT with e1 _ e2
    injection e1 with e1
    injection e1 with e1
    subst e1 e2
    clear hAt hWt x0 x2 y0 y2
    by_cases c : (p.length : Int) < 8 + r
    ·rw [if_pos c] at hl
     have d : decide ((p.length : Int) < 8 + r) = true := decide_eq_true c
     by_cases cl : p.length < 1000000
     rotate_left
     ·rw [if_neg cl] at hl; cases hl
     rw [if_pos cl] at hl
     have HL := Aside0.mk hl
     clear hl
     have em : Int.tmod (p.length : Int) 2 = (p.length : Int) % 2 := Int.tmod_eq_emod_of_nonneg (by omega)
     have HSd := Aside0.mk (HS.out.below (below_drew (Below.refl _ _)))
     have HPA := Aside0.mk hPa
     have HHV := Aside0.mk hv
     clear hPa hv
     go_wp2_with (fail)
     clear d c
     have hPa := HPA.out
     have hv := Kd.R_drew HHV.out
     clear HHV
     refine start_ (n := 16) (S := fun w' => w'.cell? ⟨gT, i * 3 + 1, none⟩ = some (.slice Ap p.length cp)) (ds := [15]) (Array.replicate 16 false) (by kernel_rfl) rfl rfl x1 (fun hS => ?_)
     refine np_ 0 84 rfl rfl (by kernel_rfl) (fun _ _ _ h => h) (by rfl) (fun w' => by go_simp; with_reducible rfl) (by simp only [AP_, i64_w]; rfl) ?_
     refine np_ 1 85 rfl rfl (by kernel_rfl) (fun _ _ _ h => h) (by rfl) (fun w' => by go_simp; with_reducible rfl) (by simp only [AP_, i64_w]; rfl) ?_
     refine np_ 2 86 rfl rfl (by kernel_rfl) (fun _ _ _ h => h) (by rfl) (fun w' => by go_simp; with_reducible rfl) (by simp only [AP_, i64_w]; rfl) ?_
     refine np_ 3 87 rfl rfl (by kernel_rfl) (fun _ _ _ h => h) (by rfl) (fun w' => by go_simp; with_reducible rfl) (by simp only [AP_, i64_w]; rfl) ?_
     refine nt_ hS 4 88 rfl rfl (by kernel_rfl) (fun _ _ _ h => h) (by rfl) (fun w' s0 => by go_simp; with_reducible rfl) (by simp only [AP_, i64_w]; rfl) ?_
     refine np_ 5 89 rfl rfl (by kernel_rfl) (fun _ _ _ h => h) (by rfl) (fun w' => by go_simp; with_reducible rfl) (by simp only [AP_, i64_w]; rfl) ?_
     refine np_ 6 90 rfl rfl (by kernel_rfl) (fun _ _ _ h => h) (by rfl) (fun w' => by go_simp; with_reducible rfl) (by simp only [AP_, i64_w]; rfl) ?_
     refine np_ 7 91 rfl rfl (by kernel_rfl) (fun _ _ _ h => h) (by rfl) (fun w' => by go_simp; with_reducible rfl) (by simp only [AP_, i64_w]; rfl) ?_
     refine nt_ hS 8 92 rfl rfl (by kernel_rfl) (fun _ _ _ h => h) (by rfl) (fun w' s0 => by go_simp; with_reducible rfl) (by simp only [AP_, i64_w]; rfl) ?_
     refine np_ 9 93 rfl rfl (by kernel_rfl) (fun _ _ _ h => h) (by rfl) (fun w' => by go_simp; with_reducible rfl) (by simp only [AP_, i64_w]; rfl) ?_
     refine np_ 10 94 (v := (.int .i64 ((p.length : Int) % 2))) rfl rfl (by kernel_rfl) (fun _ _ _ h => h) (by rfl) (fun w' => by first | (go_simp; done) | (go_simp; exact em)) (by simp only [AP_, i64_w]; rfl) ?_
     have x1' := x1
     clear x1
     obtain ⟨wd, hwd⟩ : ∃ W, W = wr.drew := ⟨_, rfl⟩
     have hld := HSd.out.lend (i := i) (by rw [List.length_set]; exact hiT)
     rw [getD_set' T hiT] at hld
     simp only [List.set_set, List.length_set] at hld
     clear hPa hv HPA hoki y1 oki hg2 HS
     obtain ⟨gT', cT', Ap', cp', oki, eT, _, hg2, hoki, ⟨x0, x1, x2⟩, ⟨y0, y1, y2⟩, hv, hAt, hWt, hPa⟩ := hld
     injection eT with e1 _ e2
     injection e1 with e1
     injection e1 with e1
     subst e1 e2
     clear hAt hWt x0 x2 y0 y2
     have hS9 : wd.cell? ⟨gT, i * 3 + 1, none⟩ = some (.slice Ap p.length cp) := by rw [hwd]; exact x1'
     clear hS
     have hS := hS9
     rw [← hwd] at HSd hv x1 y1 hPa hg2 ⊢
     have x2' : wd.cell? ⟨gT, i * 3 + 1, none⟩ = some (.slice Ap p.length cp) := by rw [hwd]; exact x1'
     rw [x2'] at x1
     injection x1 with x1
     injection x1 with e1 _ e2
     subst e1 e2
     clear x1' hwd
     have x1' := x2'
     clear x2'
     refine no_ 11 95 rfl rfl (by kernel_rfl) (by decide) (fun K hK => ?_)
     refine Go.Proofs.YtkcocomehhlpmaaDoorW.PrintWords.event_step (w1 := wd.alloc (.cells #[.int .i64 ((p.length : Int) % 2)] 3)) (v := .slice (some ⟨wd.heap.size, 0, none⟩) 1 1) (by rfl) (by first | (go_simp; done) | (go_simp; rfl)) ?_
     refine hK _ _ ?_ (fun hS => ?_)
     ·have hba : Below wd.heap.size wd (wd.alloc (.cells #[.int .i64 ((p.length : Int) % 2)] 3)) := below_alloc (Below.refl _ _) _
      exact (hba.cell (World.block_lt_of_cell? _ _ hS)).trans hS
     refine norm_ (a' := ?_) ?_ ?_
     rotate_left
     ·show Act.put _ (some 95) _ = _
      simp only [AP_, i64_w]
      rfl
     refine no_ 12 96 rfl rfl (by kernel_rfl) (by decide) (fun K hK => ?_)
     refine Kd.R_append_step (Kd.int .i64) (w0 := wd) w.heap.size (by rfl) (.tmp 88) (.tmp 95) 22 3 (.int .i64 0) 8 rfl Tryd.underlying22 info3 rfl (by decide) (by omega) (.slice Ap p.length cp) p ((p.length : Int) % 2) [.int .i64 ((p.length : Int) % 2)] (fun k => oki k ∨ wd.heap.size ≤ k) (fun _ => False) rfl rfl rfl (fun _ hk => hk.elim) (fun k hk => .inr hk) (Kd.R_mono hv (fun k hk => .inl hk)) (Below.refl _ _) (by have := HSd.out.le; omega) (by have := cl; omega) ?_
     intro v9 w9 ho hb hg hat
     obtain ⟨NX, hNX⟩ : ∃ x, x = p ++ [((p.length : Int) % 2)] := ⟨_, rfl⟩
     rw [← hNX] at ho
     have HNX := Aside0.mk hNX
     clear hNX
     obtain ⟨Ax, cx, ex⟩ := Kd.R_slice ho
     subst ex
     have hrow : ∀ k, (Value.slice Ap p.length cp).ownBlock = some k → w.heap.size + 2 ≤ k ∧ k ≠ gT := fun k hk => ⟨(hoki k (hv.1 k hk)).1.1, (hoki k (hv.1 k hk)).2⟩
     have x1n := (hg.cell_far (⟨gT, i * 3 + 1, none⟩ : Addr) hg2 (fun e => (hrow gT e.symm).2 rfl)).trans x1'
     have y1' : w9.frozen? ⟨gT, i * 3 + 1, none⟩ = false := (show w9.frozen? ⟨gT, i * 3 + 1, none⟩ = wd.frozen? ⟨gT, i * 3 + 1, none⟩ from by unfold World.frozen?; rw [hg.block gT hg2 (fun e => (hrow gT e.symm).2 rfl)]).trans y1
     refine hK _ _ x1n (fun hS => ?_)
     refine norm_ (a' := ?_) ?_ ?_
     rotate_left
     ·show Act.put _ (some 96) _ = _
      simp only [AP_, i64_w]
      rfl
     refine np_ 13 97 rfl rfl (by kernel_rfl) (fun _ _ _ h => h) (by rfl) (fun w' => by go_simp; with_reducible rfl) (by simp only [AP_, i64_w]; rfl) ?_
     refine np_ 14 98 rfl rfl (by kernel_rfl) (fun _ _ _ h => h) (by rfl) (fun w' => by go_simp; with_reducible rfl) (by simp only [AP_, i64_w]; rfl) ?_
     refine nl_ 15 (w9.setCell ⟨gT, i * 3 + 1, none⟩ (.slice Ax NX.length cx)) rfl rfl (by kernel_rfl) (by decide) (by rfl) (by kernel_rfl) (by go_simp) ?_
     have HSn := Aside0.mk (hPa w9 _ _ hg ho)
     clear hPa hg ho hb hat hv hS HSd x1' y1 y1' em x1n hrow
     obtain ⟨wT, hwT⟩ : ∃ W, W = w9.setCell ⟨gT, i * 3 + 1, none⟩ (.slice Ax NX.length cx) := ⟨_, rfl⟩
     rw [← hwT] at HSn ⊢
     clear hwT
     go_wp2_with (fail)
     go_roundg k1
     case measure => omega
     case rel => exact ⟨NX, ⟨by rw [HNX.out]; exact HL.out⟩, HSn⟩
    ·rw [if_neg c] at hl
     have d : decide ((p.length : Int) < 8 + r) = false := decide_eq_false c
     injection hl with hl
     subst hl
     have HSn := Aside0.mk HS.out.sn
     clear hPa hv hoki c HS
     obtain ⟨⟨z0, z1, z2⟩, f0, f1, f2⟩ := HSn.out.cells
     have BRR := Aside0.mk HSn.out.br
     go_wp2_with (first
      | ((with_reducible refine gate_store (t := 30) (p := 4) rfl ?_); (try simp only [Act.put, List.setIfInBounds_toArray, List.set_cons_zero, List.set_cons_succ]); refine row_wr_ rfl 30 (.tmp 4) (.tmp 161) rfl rfl (w.heap.size + 1) rfl (c' := #[.slice A0 R.length c0, .slice (some ⟨gT, 0, none⟩) T.length c1, .slice A2 N.length c2]) rfl BRR.out infoS rfl (by simp [Value.oneCell']) ?_; intro wE hwE hgE; have BE := Aside0.mk hwE; have HG := Aside0.mk hgE; clear hwE hgE x1 y1 z0 z1 z2 f0 f1 f2))
     refine bodyPost_ret (results_cell_row rfl _ _ (w.heap.size + 1) 30 _ (0, 0) _ rfl BE.out Tryd.underlying30 rfl (by kernel_rfl)) rfl ?_
     exact ⟨_, _, _, rfl, HSn.out.done HG.out⟩
 rw [if_neg q2] at HQ0
 have b2 : (x == 2) = false := beq_eq_false_iff_ne.mpr q2
 by_cases q3 : x = 3
 ·subst q3
  rw [if_pos rfl] at HQ0
  have e0 : ((3 : Int) == 0) = false := rfl
  have e1 : ((3 : Int) == 1) = false := rfl
  have e2 : ((3 : Int) == 2) = false := rfl
  have e3 : ((3 : Int) == 3) = true := rfl
  obtain ⟨⟨y, a5, s5⟩, hp_, HQ0⟩ := Option.bind_eq_some_iff.mp HQ0
  have hrr := (pk_pick hp_).2
  try dsimp only at hrr HQ0
  have HPR := Aside0.mk hp_
  clear hp_
  simp only [Option.some.injEq, Prod.mk.injEq] at HQ0
  obtain ⟨rfl, rfl, rfl, rfl, rfl⟩ := HQ0
  go_wp2_with (first
   | ((with_reducible refine gate_dst (N := 102) rfl ?_); refine lit2 ?hg (M := 102) ?hd (cs := #[.int .i64 0, .int .i64 100, .int .i64 101]) (n := 3) (t := 3) ?hr ?_; (case hd => rfl); (case hg => rfl); (case hr => first | (go_simp; done) | (go_simp; rfl)); intro gL w8 hgL hbl hb; have HS8 := Aside0.mk (HS7.out.below hb); have HBL := Aside0.mk hbl; have HGL := Aside0.mk (show w.heap.size + 2 ≤ gL from by rw [hgL]; exact HS7.out.le); clear hgL hbl hb HS7))
  refine (spec_l5Cur_pick.calls g s0_0 _ _ 3 _ _ _ w0 _ HS8.out.hI HS8.out.hB (pk_pick HPR.out).1).mono ?_
  rintro e w9 ⟨rfl, hI', hB', hk'⟩
  have HS9 := Aside0.mk (HS8.out.read hI' hB' hk')
  replace HBL := Aside0.mk (KeepBut.blk hk' HBL.out (by have := HGL.out; have := HS8.out.gl; omega) (by simp))
  clear hI' hB' hk'
  clear HS8 HPR
  have c9 : w9.cell? ⟨gL, y.toNat, none⟩ = some (.int .i64 (([0, 100, 101] : List Int).getD y.toNat 0)) := by
   have h3 : y = 0 ∨ y = 1 ∨ y = 2 := by omega
   rcases h3 with rfl | rfl | rfl <;> exact (blk_cell HBL.out _).trans rfl
  obtain ⟨x9, hx9⟩ : ∃ x, x = ([0, 100, 101] : List Int).getD y.toNat 0 := ⟨_, rfl⟩
  rw [← hx9] at c9
  have HX9 := Aside0.mk hx9
  clear hx9
  have py : (0 : Int) ≤ y := hrr.1
  have qy : y < 3 := hrr.2
  obtain ⟨gT', cT', Ap, cp, oki, eT, hg1, hg2, hoki, ⟨x0, x1, x2⟩, ⟨y0, y1, y2⟩, hv, hAt, hWt, hPa⟩ := HS9.out.lend hiT
  injection eT with e1 _ e2
  injection e1 with e1
  injection e1 with e1
  subst e1 e2
  have HSn := Aside0.mk (hWt x9).sn
  clear hv hAt hWt hPa HS9 HBL hrr
  go_wp2_with (first
   | ((with_reducible refine gate_store (t := 3) (p := 108) rfl ?_); refine store_event (t := 3) (p := 108) (v := ?vo5_) (w1 := w9.setCell ⟨gT, i * 3 + 2, none⟩ (.int .i64 x9)) ?hg ?ho ?hn ?hr ?_; (case ho => rfl); (case hg => rfl); (case hn => rfl); (case hr => first | (go_simp; done) | (go_simp; rfl)); intro w10 hw; rw [← hw] at HSn; clear hw c9 x0 x1 x2 y0 y1 y2; obtain ⟨⟨z0, z1, z2⟩, f0, f1, f2⟩ := HSn.out.cells; have BRR := Aside0.mk HSn.out.br)
   | ((with_reducible refine gate_store (t := 30) (p := 4) rfl ?_); (try simp only [Act.put, List.setIfInBounds_toArray, List.set_cons_zero, List.set_cons_succ]); refine row_wr_ rfl 30 (.tmp 4) (.tmp 161) rfl rfl (w.heap.size + 1) rfl (c' := #[.slice A0 R.length c0, .slice (some ⟨gT, 0, none⟩) T.length c1, .slice A2 N.length c2]) rfl BRR.out infoS rfl (by simp [Value.oneCell']) ?_; intro wE hwE hgE; have BE := Aside0.mk hwE; have HG := Aside0.mk hgE; clear hwE hgE z0 z1 z2 f0 f1 f2))
  refine bodyPost_ret (results_cell_row rfl _ _ (w.heap.size + 1) 30 _ (0, 0) _ rfl BE.out Tryd.underlying30 rfl (by kernel_rfl)) rfl ?_
  rw [HX9.out] at HSn
  exact ⟨_, _, _, rfl, HSn.out.done HG.out⟩
 rw [if_neg q3] at HQ0
 have b3 : (x == 3) = false := beq_eq_false_iff_ne.mpr q3
 by_cases q4 : x = 4
 ·subst q4
  rw [if_pos rfl] at HQ0
  have e0 : ((4 : Int) == 0) = false := rfl
  have e1 : ((4 : Int) == 1) = false := rfl
  have e2 : ((4 : Int) == 2) = false := rfl
  have e3 : ((4 : Int) == 3) = false := rfl
  have e4 : ((4 : Int) == 4) = true := rfl
  by_cases cn : i < N.length
  ·rw [if_pos cn] at HQ0
   obtain ⟨⟨y, a5, s5⟩, hp_, HQ0⟩ := Option.bind_eq_some_iff.mp HQ0
   have hrr := (pk_pick hp_).2
   try dsimp only at hrr HQ0
   have HPR := Aside0.mk hp_
   clear hp_
   simp only [Option.some.injEq, Prod.mk.injEq] at HQ0
   obtain ⟨rfl, rfl, rfl, rfl, rfl⟩ := HQ0
   have d : decide ((i : Int) < (N.length : Int)) = true := decide_eq_true (by omega)
   obtain ⟨gN, cN, eN, _, _, _⟩ := Kd.R_form HS7.out.r2 (by omega)
   injection eN with e1 _ e2
   subst e1 e2
   obtain ⟨⟨z0, z1, z2⟩, f0, f1, f2⟩ := HS7.out.cells
   have HSd := Aside0.mk (HS7.out.below (below_drew (Below.refl _ _)))
   go_wp2_with (fail)
   refine start_ (n := 10) (S := fun w' => w'.cell? ⟨w.heap.size, 2, none⟩ = some (.slice (some ⟨gN, 0, none⟩) N.length c2)) (ds := [9]) (Array.replicate 10 false) (by kernel_rfl) rfl rfl z2 (fun hS => ?_)
   refine np_ 0 116 rfl rfl (by kernel_rfl) (fun _ _ _ h => h) (by rfl) (fun w' => by go_simp; with_reducible rfl) (by simp only [AP_, i64_w]; rfl) ?_
   refine nt_ hS 1 117 rfl rfl (by kernel_rfl) (fun _ _ _ h => h) (by rfl) (fun w' s0 => by go_simp; with_reducible rfl) (by simp only [AP_, i64_w]; rfl) ?_
   refine np_ 2 118 rfl rfl (by kernel_rfl) (fun _ _ _ h => h) (by rfl) (fun w' => by go_simp; with_reducible rfl) (by simp only [AP_, i64_w]; rfl) ?_
   refine np_ 4 120 rfl rfl (by kernel_rfl) (fun _ _ _ h => h) (by rfl) (fun w' => by go_simp; with_reducible rfl) (by simp only [AP_, i64_w]; rfl) ?_
   refine join_ (σ := Nat) 4 #[true, true, true, true, true, true, false, false, false, false] (fun gL => [(119, .slice (some ⟨gL, 0, none⟩) 4 4), (121, .int .i64 y)]) (fun gL w' => Sp w0 w w' g s0_0 a5 s5 (.slice A0 R.length c0) (.slice (some ⟨gT, 0, none⟩) T.length c1) (.slice (some ⟨gN, 0, none⟩) N.length c2) R T N ∧ w'.heap[gL]? = some (.cells #[.int .i64 (-1), .int .i64 0, .int .i64 1000, .int .i64 1001] 3 (0, 0))) ?_ ?_
   ·intro gL w9 hF
    obtain ⟨hS9, hL9⟩ := hF
    have HS9 := Aside0.mk hS9
    have hS := hS9.cells.1.2.2
    refine norm_ (a' := ?_) ?_ ?_
    rotate_left
    ·simp only [putAll, AP_]
     rfl
    have c9 : w9.cell? ⟨gL, y.toNat, none⟩ = some (.int .i64 (([-1, 0, 1000, 1001] : List Int).getD y.toNat 0)) := by
     have h3 : y = 0 ∨ y = 1 ∨ y = 2 ∨ y = 3 := by omega
     rcases h3 with rfl | rfl | rfl | rfl <;> exact (blk_cell hL9 _).trans rfl
    obtain ⟨x9, hx9⟩ : ∃ x, x = ([-1, 0, 1000, 1001] : List Int).getD y.toNat 0 := ⟨_, rfl⟩
    rw [← hx9] at c9
    have HX9 := Aside0.mk hx9
    clear hx9
    have py : (0 : Int) ≤ y := hrr.1
    have qy : y < 4 := hrr.2
    have qn : (i : Int) < (N.length : Int) := by omega
    refine np_ 6 122 (v := (.pointer (some ⟨gL, y.toNat, none⟩))) rfl rfl (by kernel_rfl) (fun _ _ _ h => h) (by rfl) (fun w' => by go_simp) (by simp only [AP_, i64_w]; rfl) ?_
    refine no_ 7 123 rfl rfl (by kernel_rfl) (by decide) (fun K hK => ?_)
    refine Go.Proofs.YtkcocomehhlpmaaDoorW.PrintWords.event_step (w1 := w9) (v := .int .i64 x9) (by rfl) (by go_simp) ?_
    refine hK _ _ hS (fun hS => ?_)
    refine norm_ (a' := ?_) ?_ ?_
    rotate_left
    ·show Act.put _ (some 123) _ = _
     simp only [AP_, i64_w]
     rfl
    refine np_ 8 124 (v := (.pointer (some ⟨gN, i, none⟩))) rfl rfl (by kernel_rfl) (fun _ _ _ h => h) (by rfl) (fun w' => by go_simp) (by simp only [AP_, i64_w]; rfl) ?_
    obtain ⟨hx1, hx2⟩ := Kd.R_celln 0 hS9.r2 (i : Int) p7 (by omega)
    rw [Int.toNat_natCast] at hx1 hx2
    refine nl_ 9 (w9.setCell ⟨gN, i, none⟩ (.int .i64 x9)) rfl rfl (by kernel_rfl) (by decide) (by rfl) (by kernel_rfl) (by go_simp) ?_
    have hn9 := (hS9.nameSet (i : Int) x9).sn
    rw [Int.toNat_natCast] at hn9
    have HSn := Aside0.mk hn9
    clear hn9 hx1 hx2 c9 hL9 HS9 hS9 hS HSd HS7 z0 z1 z2 f0 f1 f2
    generalize w9.setCell ⟨gN, i, none⟩ (.int .i64 x9) = wT at *
    rw [HX9.out] at HSn
    obtain ⟨⟨z0, z1, z2⟩, f0, f1, f2⟩ := HSn.out.cells
    have BRR := Aside0.mk HSn.out.br
    go_wp2_with (first
     | ((with_reducible refine gate_store (t := 30) (p := 4) rfl ?_); (try simp only [Act.put, List.setIfInBounds_toArray, List.set_cons_zero, List.set_cons_succ]); refine row_wr_ rfl 30 (.tmp 4) (.tmp 161) rfl rfl (w.heap.size + 1) rfl (c' := #[.slice A0 R.length c0, .slice (some ⟨gT, 0, none⟩) T.length c1, .slice (some ⟨gN, 0, none⟩) N.length c2]) rfl BRR.out infoS rfl (by simp [Value.oneCell']) ?_; intro wE hwE hgE; have BE := Aside0.mk hwE; have HG := Aside0.mk hgE; clear hwE hgE z0 z1 z2 f0 f1 f2))
    refine bodyPost_ret (results_cell_row rfl _ _ (w.heap.size + 1) 30 _ (0, 0) _ rfl BE.out Tryd.underlying30 rfl (by kernel_rfl)) rfl ?_
    exact ⟨_, _, _, rfl, HSn.out.done HG.out⟩
   ·intro hcont
    clear HS7 z0 z1 z2 f0 f1 f2
    refine two_ (i := 3) (j := 5) (Ni := some 119) (Nj := some 121) #[true, true, true, true, true, false, false, false, false, false] #[true, true, true, false, true, true, false, false, false, false] rfl rfl rfl rfl (by kernel_rfl) (by decide) (by decide) (fun K hK => ?_) (fun K hK => ?_)
    ·obtain ⟨wD, hwD⟩ : ∃ W, W = w7.drew := ⟨_, rfl⟩
     rw [← hwD] at HSd ⊢
     clear hwD
     refine Go.Proofs.YtkcocomehhlpmaaDoorW.PrintWords.event_step (w1 := wD.alloc (.cells #[.int .i64 (-1), .int .i64 0, .int .i64 1000, .int .i64 1001] 3)) (v := .slice (some ⟨wD.heap.size, 0, none⟩) 4 4) (by rfl) (by first | (go_simp; done) | (go_simp; rfl)) ?_
     have hbl := heap_alloc_new wD (.cells #[.int .i64 (-1), .int .i64 0, .int .i64 1000, .int .i64 1001] 3)
     have HS8 := Aside0.mk (HSd.out.below (below_alloc (Below.refl wD.heap.size wD) (.cells #[.int .i64 (-1), .int .i64 0, .int .i64 1000, .int .i64 1001] 3)))
     obtain ⟨w8, hw8⟩ : ∃ W, W = wD.alloc (.cells #[.int .i64 (-1), .int .i64 0, .int .i64 1000, .int .i64 1001] 3) := ⟨_, rfl⟩
     rw [← hw8] at hbl HS8 ⊢
     have HBL := Aside0.mk hbl
     clear hbl hw8
     refine hK.out _ _ HS8.out.cells.1.2.2 (fun hS => ?_)
     refine norm_ (a' := ?_) ?_ ?_
     rotate_left
     ·show Act.put _ (some 119) _ = _
      simp only [AP_, i64_w]
      rfl
     refine one_ (i := 5) (N := some 121) #[true, true, true, true, true, true, false, false, false, false] rfl rfl (by kernel_rfl) (by decide) (fun K hK => ?_)
     refine goes_ Tryd.func35 (by kernel_rfl) rfl #[.pointer (some ⟨g, 0, none⟩), .int .i64 (4)] (by rfl) rfl rfl (by (try simp only [List.map_toArray, List.map_cons, List.map_nil]); rfl) ?_
     refine (spec_l5Cur_pick.calls g s0_0 _ _ (4) _ _ _ w0 _ HS8.out.hI HS8.out.hB (pk_pick HPR.out).1).mono ?_
     rintro e w9 ⟨rfl, hI', hB', hk'⟩
     have HS9 := Aside0.mk (HS8.out.read hI' hB' hk')
     replace HBL := Aside0.mk (KeepBut.blk hk' HBL.out (by have := HSd.out.le; have := HSd.out.gl; omega) (by simp))
     clear hI' hB' hk'
     refine ⟨_, rfl, ?_⟩
     refine hK.out _ _ HS9.out.cells.1.2.2 (fun hS => ?_)
     refine norm_ (a' := ?_) ?_ ?_
     rotate_left
     ·show Act.put _ (some 121) _ = _
      simp only [AP_, i64_w]
      rfl
     have hfin := hcont (wD.heap.size) _ ⟨HS9.out, HBL.out⟩
     refine norm_ ?_ hfin
     simp only [putAll, AP_]
    ·refine goes_ Tryd.func35 (by kernel_rfl) rfl #[.pointer (some ⟨g, 0, none⟩), .int .i64 (4)] (by rfl) rfl rfl (by (try simp only [List.map_toArray, List.map_cons, List.map_nil]); rfl) ?_
     refine (spec_l5Cur_pick.calls g s0_0 _ _ (4) _ _ _ w0 _ HSd.out.hI HSd.out.hB (pk_pick HPR.out).1).mono ?_
     rintro e w8 ⟨rfl, hI', hB', hk'⟩
     have HS8 := Aside0.mk (HSd.out.read hI' hB' hk')
     clear hI' hB' hk'
     refine ⟨_, rfl, ?_⟩
     refine hK.out _ _ HS8.out.cells.1.2.2 (fun hS => ?_)
     refine norm_ (a' := ?_) ?_ ?_
     rotate_left
     ·show Act.put _ (some 121) _ = _
      simp only [AP_, i64_w]
      rfl
     refine one_ (i := 3) (N := some 119) #[true, true, true, true, true, true, false, false, false, false] rfl rfl (by kernel_rfl) (by decide) (fun K hK => ?_)
     refine Go.Proofs.YtkcocomehhlpmaaDoorW.PrintWords.event_step (w1 := w8.alloc (.cells #[.int .i64 (-1), .int .i64 0, .int .i64 1000, .int .i64 1001] 3)) (v := .slice (some ⟨w8.heap.size, 0, none⟩) 4 4) (by rfl) (by first | (go_simp; done) | (go_simp; rfl)) ?_
     have hbl := heap_alloc_new w8 (.cells #[.int .i64 (-1), .int .i64 0, .int .i64 1000, .int .i64 1001] 3)
     have HS9 := Aside0.mk (HS8.out.below (below_alloc (Below.refl w8.heap.size w8) (.cells #[.int .i64 (-1), .int .i64 0, .int .i64 1000, .int .i64 1001] 3)))
     obtain ⟨w9, hw8⟩ : ∃ W, W = w8.alloc (.cells #[.int .i64 (-1), .int .i64 0, .int .i64 1000, .int .i64 1001] 3) := ⟨_, rfl⟩
     rw [← hw8] at hbl HS9 ⊢
     have HBL := Aside0.mk hbl
     clear hbl hw8
     refine hK.out _ _ HS9.out.cells.1.2.2 (fun hS => ?_)
     refine norm_ (a' := ?_) ?_ ?_
     rotate_left
     ·show Act.put _ (some 119) _ = _
      simp only [AP_, i64_w]
      rfl
     have hfin := hcont (w8.heap.size) _ ⟨HS9.out, HBL.out⟩
     refine norm_ ?_ hfin
     simp only [putAll, AP_]
  ·rw [if_neg cn] at HQ0
   simp only [Option.some.injEq, Prod.mk.injEq] at HQ0
   obtain ⟨rfl, rfl, rfl, rfl, rfl⟩ := HQ0
   have d : decide ((i : Int) < (N.length : Int)) = false := decide_eq_false (by omega)
   have HSn := Aside0.mk HS7.out.sn
   clear HS7
   obtain ⟨⟨z0, z1, z2⟩, f0, f1, f2⟩ := HSn.out.cells
   have BRR := Aside0.mk HSn.out.br
   go_wp2_with (first
    | ((with_reducible refine gate_store (t := 30) (p := 4) rfl ?_); (try simp only [Act.put, List.setIfInBounds_toArray, List.set_cons_zero, List.set_cons_succ]); refine row_wr_ rfl 30 (.tmp 4) (.tmp 161) rfl rfl (w.heap.size + 1) rfl (c' := #[.slice A0 R.length c0, .slice (some ⟨gT, 0, none⟩) T.length c1, .slice A2 N.length c2]) rfl BRR.out infoS rfl (by simp [Value.oneCell']) ?_; intro wE hwE hgE; have BE := Aside0.mk hwE; have HG := Aside0.mk hgE; clear hwE hgE z0 z1 z2 f0 f1 f2))
   refine bodyPost_ret (results_cell_row rfl _ _ (w.heap.size + 1) 30 _ (0, 0) _ rfl BE.out Tryd.underlying30 rfl (by kernel_rfl)) rfl ?_
   exact ⟨_, _, _, rfl, HSn.out.done HG.out⟩
 rw [if_neg q4] at HQ0
 have b4 : (x == 4) = false := beq_eq_false_iff_ne.mpr q4
 obtain ⟨t, ht⟩ : ∃ t, t = T.getD i z48 := ⟨_, rfl⟩
 rw [← ht] at HQ0
 have HTT := Aside0.mk ht
 clear ht
 by_cases cl : T.length < 1000000 ∧ N.length < 1000000
 rotate_left
 ·rw [if_neg cl] at HQ0; cases HQ0
 rw [if_pos cl] at HQ0
 simp only [Option.some.injEq, Prod.mk.injEq] at HQ0
 obtain ⟨rfl, rfl, rfl, rfl, rfl⟩ := HQ0
 obtain ⟨⟨z0, z1, z2⟩, f0, f1, f2⟩ := HS7.out.cells
 obtain ⟨gT', cT', Ap, cp, oki, eT, hg1, hg2, hoki, ⟨x0, x1, x2⟩, ⟨y0, y1, y2⟩, hv, hAt, hWt, hPa⟩ := HS7.out.lend hiT
 injection eT with e1 _ e2
 injection e1 with e1
 injection e1 with e1
 subst e1 e2
 rw [← HTT.out] at x0 x1 x2 hv
 have HL := Aside0.mk hv
 have HOK := Aside0.mk hoki
 clear hv hoki hAt hWt hPa y0 y1 y2
 have HN := Aside0.mk HS7.out.sn
 go_wp2_with (fail)
 refine start_ (n := 9) (S := fun w' => w'.cell? ⟨w.heap.size, 1, none⟩ = some (.slice (some ⟨gT, 0, none⟩) T.length c1)) (ds := [8]) (Array.replicate 9 false) (by kernel_rfl) rfl rfl z1 (fun hS => ?_)
 refine np_ 0 29 rfl rfl (by kernel_rfl) (fun _ _ _ h => h) (by rfl) (fun w' => by go_simp; with_reducible rfl) (by simp only [AP_, i64_w]; rfl) ?_
 refine nt_ hS 1 30 rfl rfl (by kernel_rfl) (fun _ _ _ h => h) (by rfl) (fun w' s0 => by go_simp; with_reducible rfl) (by simp only [AP_, i64_w]; rfl) ?_
 refine np_ 2 31 rfl rfl (by kernel_rfl) (fun _ _ _ h => h) (by rfl) (fun w' => by go_simp; with_reducible rfl) (by simp only [AP_, i64_w]; rfl) ?_
 refine np_ 3 32 rfl rfl (by kernel_rfl) (fun _ _ _ h => h) (by rfl) (fun w' => by go_simp; with_reducible rfl) (by simp only [AP_, i64_w]; rfl) ?_
 obtain ⟨wD, hwD⟩ : ∃ W, W = w7.drew := ⟨_, rfl⟩
 have HND := Aside0.mk (HN.out.below (below_drew (Below.refl _ _)))
 have HLD := Aside0.mk (Kd.R_drew HL.out)
 have x0' : wD.cell? ⟨gT, i * 3, none⟩ = some (.int .i64 t.f0) := by rw [hwD]; exact x0
 have x1' : wD.cell? ⟨gT, i * 3 + 1, none⟩ = some (.slice Ap t.f1.length cp) := by rw [hwD]; exact x1
 have x2' : wD.cell? ⟨gT, i * 3 + 2, none⟩ = some (.int .i64 t.f2) := by rw [hwD]; exact x2
 rw [← hwD] at HND HLD ⊢
 clear hwD HN HL z0 z1 z2 f0 f1 f2 x0 x1 x2 HS7 hS
 refine no_ 4 33 rfl rfl (by kernel_rfl) (by decide) (fun K hK => ?_)
 refine Go.Proofs.YtkcocomehhlpmaaDoorW.PrintWords.event_step (w1 := wD) (v := .agg #[.int .i64 t.f0, .slice Ap t.f1.length cp, .int .i64 t.f2]) (by rfl) (by first | (go_simp; done) | (go_simp; rfl)) ?_
 refine hK _ _ HND.out.cells.1.2.1 (fun hS => ?_)
 refine norm_ (a' := ?_) ?_ ?_
 rotate_left
 ·show Act.put _ (some 33) _ = _
  simp only [AP_, i64_w]
  rfl
 clear x0' x1' x2'
 refine no_ 5 34 rfl rfl (by kernel_rfl) (by decide) (fun K hK => ?_)
 refine Go.Proofs.YtkcocomehhlpmaaDoorW.PrintWords.event_step (w1 := wD.alloc (.cells #[.int .i64 t.f0, .slice Ap t.f1.length cp, .int .i64 t.f2] 48)) (v := .slice (some ⟨wD.heap.size, 0, none⟩) 1 1) (by rfl) (by first | (go_simp; done) | (go_simp; rfl)) ?_
 refine hK _ _ ?_ (fun hS => ?_)
 ·have hba : Below wD.heap.size wD (wD.alloc (.cells #[.int .i64 t.f0, .slice Ap t.f1.length cp, .int .i64 t.f2] 48)) := below_alloc (Below.refl _ _) _
  exact (hba.cell (World.block_lt_of_cell? _ _ HND.out.cells.1.2.1)).trans HND.out.cells.1.2.1
 refine norm_ (a' := ?_) ?_ ?_
 rotate_left
 ·show Act.put _ (some 34) _ = _
  simp only [AP_, i64_w]
  rfl
 refine no_ 6 35 rfl rfl (by kernel_rfl) (by decide) (fun K hK => ?_)
 refine Kd.N_append_step k48 (w0 := wD) w.heap.size (by rfl) (.tmp 30) (.tmp 34) 28 48 (.agg #[(.int .i64 0), (.slice none 0 0), (.int .i64 0)]) 40 rfl Tryd.underlying28 info48 rfl (by decide) (by omega) (.slice (some ⟨gT, 0, none⟩) T.length c1) T t [.int .i64 t.f0, .slice Ap t.f1.length cp, .int .i64 t.f2] (fun k => w.heap.size + 2 ≤ k ∧ some k ≠ (Value.slice A0 R.length c0).ownBlock ∧ some k ≠ (Value.slice A2 N.length c2).ownBlock) oki rfl rfl ?aP ?aK ?aF HND.out.n1 (Below.refl _ _) (by have := HND.out.le; omega) (by have := cl.1; omega) ?_
 case aP => exact k48_mkF wD _ t (Kd.R_reads' HLD.out).2.1 (Kd.R_F HLD.out)
 case aK => exact (fun k hk => ⟨(HOK.out k hk).1, fun e => (HOK.out k hk).2 (by injection e)⟩)
 case aF => exact (fun k hk => ⟨by have := HND.out.le; omega, fun e => by have := Kd.R_lt HND.out.r0 k e.symm; omega, fun e => by have := Kd.R_lt HND.out.r2 k e.symm; omega⟩)
 intro v9 w9 ho hb hg hat
 obtain ⟨TX, hTX⟩ : ∃ x, x = T ++ [t] := ⟨_, rfl⟩
 rw [← hTX] at ho
 have HTX := Aside0.mk hTX
 clear hTX
 obtain ⟨Ax, cx, ex⟩ := Kd.N_slice ho
 subst ex
 have bx9 := (hg.block _ (blk_lt HND.out.bx) (fun e => by have h9 := HND.out.n1.1 _ e.symm; have := h9.1; omega)).trans HND.out.bx
 have z9 := (blk_cell bx9 1).trans (show _ = some (Value.slice (some ⟨gT, 0, none⟩) T.length c1) from rfl)
 have f9 := blk_frozen bx9 1
 refine hK _ _ z9 (fun hS => ?_)
 refine norm_ (a' := ?_) ?_ ?_
 rotate_left
 ·show Act.put _ (some 35) _ = _
  simp only [AP_, i64_w]
  rfl
 refine np_ 7 36 rfl rfl (by kernel_rfl) (fun _ _ _ h => h) (by rfl) (fun w' => by go_simp; with_reducible rfl) (by simp only [AP_, i64_w]; rfl) ?_
 refine nl_ 8 (w9.setCell ⟨w.heap.size, 1, none⟩ (.slice Ax TX.length cx)) rfl rfl (by kernel_rfl) (by decide) (by rfl) (by kernel_rfl) (by go_simp) ?_
 have HS10 := Aside0.mk (HND.out.trainApp ho hg)
 clear ho hb hg hat bx9 z9 f9 hS HND HLD HOK
 obtain ⟨wT, hwT⟩ : ∃ W, W = w9.setCell ⟨w.heap.size, 1, none⟩ (.slice Ax TX.length cx) := ⟨_, rfl⟩
 rw [← hwT] at HS10 ⊢
 clear hwT
 obtain ⟨⟨z0, z1, z2⟩, f0, f1, f2⟩ := HS10.out.cells
 have hN9 := cl.2
 go_wp2_with (first
  | ((with_reducible refine gate_builtin (b := .append) (xs := #[.tmp 38, .tmp 39]) rfl ?_); at_builtin; refine Kd.R_append (Kd.int .i64) (w0 := _) w.heap.size rfl (.tmp 38) (.tmp 39) 22 3 (.int .i64 0) 8 rfl Tryd.underlying22 info3 rfl (by decide) (by omega) (.slice A2 N.length c2) N 1000 [.int .i64 1000] (fun k => w.heap.size + 2 ≤ k ∧ some k ≠ (Value.slice A0 R.length c0).ownBlock) (fun _ => False) rfl rfl ?aP (fun _ hk => hk.elim) ?aF HS10.out.r2 (Below.refl _ _) (by have := HS10.out.le; omega) ?aL ?_; (case aP => exact rfl); (case aF => exact (fun k hk => ⟨by have := HS10.out.le; omega, fun e => by have := Kd.R_lt HS10.out.r0 k e.symm; omega⟩)); (case aL => omega); intro v11 w11 ho hb hg hat; obtain ⟨NX, hNX⟩ : ∃ x, x = N ++ [1000] := ⟨_, rfl⟩; rw [← hNX] at ho; have HNX := Aside0.mk hNX; clear hNX; obtain ⟨A7, c7, e7⟩ := Kd.R_slice ho; subst e7; have HS11 := Aside0.mk (HS10.out.nameApp ho hg hat); have bx7 := (hg.block _ (blk_lt HS10.out.bx) (fun e => by have := (HS10.out.r2.1 _ e.symm).1; omega)).trans HS10.out.bx; have z7 := (blk_cell bx7 2).trans (show _ = some (Value.slice A2 N.length c2) from rfl); have f7 := blk_frozen bx7 2; clear ho hb hg hat bx7 z0 z1 z2 f0 f1 f2)
  | ((with_reducible refine gate_store (t := 22) (p := 41) rfl ?_); refine store_event (t := 22) (p := 41) (v := ?vo6_) (w1 := w11.setCell ⟨w.heap.size, 2, none⟩ (.slice A7 NX.length c7)) ?hg ?ho ?hn ?hr ?_; (case ho => rfl); (case hg => rfl); (case hn => rfl); (case hr => first | (go_simp; done) | (go_simp; rfl)); intro w12 hw; rw [← hw] at HS11; clear hw z7 f7; obtain ⟨⟨z0, z1, z2⟩, f0, f1, f2⟩ := HS11.out.cells; have BRR := Aside0.mk HS11.out.br)
  | ((with_reducible refine gate_store (t := 30) (p := 4) rfl ?_); (try simp only [Act.put, List.setIfInBounds_toArray, List.set_cons_zero, List.set_cons_succ]); refine row_wr_ rfl 30 (.tmp 4) (.tmp 161) rfl rfl (w.heap.size + 1) rfl (c' := #[.slice A0 R.length c0, .slice Ax TX.length cx, .slice A7 NX.length c7]) rfl BRR.out infoS rfl (by simp [Value.oneCell']) ?_; intro wE hwE hgE; have BE := Aside0.mk hwE; have HG := Aside0.mk hgE; clear hwE hgE z0 z1 z2 f0 f1 f2))
 refine bodyPost_ret (results_cell_row rfl _ _ (w.heap.size + 1) 30 _ (0, 0) _ rfl BE.out Tryd.underlying30 rfl (by kernel_rfl)) rfl ?_
 have h9 := HNX.out
 have h8 := HTX.out
 subst h9 h8
 exact ⟨_, _, _, rfl, HS11.out.done HG.out⟩
end Go.Proofs.YtkcocomehhlpmaaDoor.Sq
