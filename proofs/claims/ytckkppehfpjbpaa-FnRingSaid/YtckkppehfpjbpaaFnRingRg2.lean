/- The reference's l2ring: a shortest ring from one on. Walked by hand. (Printed by wip/rggen.py.) -/
import Derived.Test.YtckkppehfpjbpaaFnRingRg1
namespace Go.Proofs.Ytckkppehfpjbpaa.Rg
open Go.RowKit Go.Proofs.YtckkppehfpjbpaaW.PrintWords Go.Proofs.YtckkppehfpjbpaaW.PrintLast Go.Proofs.YtckkppehfpjbpaaW.PrintMore Go.Proofs.Ytckkppehfpjbpaa.Q Go.Proofs.Ytckkppehfpjbpaa.Pu
attribute [local go_sem] max2_int min2_int max_two min_two max_three min_three max_four min_four
set_option linter.unusedVariables false
set_option linter.unusedSimpArgs false
section
variable {W : World} {A0 A1 A2 : Option Addr} {c0 c1 c2 : Nat} {R N : List Int} {T : List S40}
/-- A number of a train's. -/
def inN (R : List Int) (T : List S40) (N : List Int) (x : Int) : Prop := x ∈ N
theorem waitsD_le (a : Int) : (waitsD R T N a).length ≤ T.length := waitsD_len a
theorem inN_le (hr : Right R T N) {s : List Int} (hs : s.Nodup) (h : ∀ x ∈ s, inN R T N x) : s.length ≤ 5 := by
 have h1 := nodup_le s N hs h
 have h2 := hr.wf.n1
 have h3 := hr.wf.t1
 omega
theorem waitsD_in (hr : Right R T N) {a : Int} : ∀ x ∈ waitsD R T N a, inN R T N x := by
 intro x hx
 unfold waitsD at hx
 split at hx
 ·split at hx
  ·simp at hx
  ·split at hx
   ·simp at hx
   ·obtain ⟨j, _, h2, rfl⟩ := onF_mem _ _ _ _ x hx
    exact getD_mem 0 (by have := hr.wf.n1; omega)
 ·simp at hx
theorem inN_range (hr : Right R T N) {x : Int} (hx : inN R T N x) : 0 ≤ x ∧ x ≤ 1000 := names_range hr x hx
theorem sw_rd (hr : Right R T N) (h0 : Kd.C (Kd.int .i64) W A0 R.length R) (l0 : R.length ≤ c0) (h1 : Kd.C k40 W A1 T.length T) (l1 : T.length ≤ c1) (h2 : Kd.C (Kd.int .i64) W A2 N.length N) (l2 : N.length ≤ c2) {a : Int} (ha : inN R T N a) :
  Calls Try.prog 40 #[.agg #[.slice A0 R.length c0, .slice A1 T.length c1, .slice A2 N.length c2], .int .i64 a] W fun e W' => ∃ AX cX, e = .returned (.slice AX (waitsD R T N a).length cX) ∧ (Kd.int .i64).R 3 W' W.heap.size (fun _ => True) (.slice AX (waitsD R T N a).length cX) (waitsD R T N a) ∧ Below W.heap.size W W' := by
 have hs := right_small hr
 obtain ⟨k, hk⟩ := (specWaits_tells hs.1 hs.2.1 hs.2.2 a).rounds
 refine (spec_Waits.calls k _ _ R _ _ T _ _ N a _ W h0 l0 h1 l1 h2 l2 hk).mono ?_
 rintro e W' ⟨v, rfl, hR, hb⟩
 obtain ⟨AX, cX, rfl⟩ := Kd.R_slice hR
 exact ⟨AX, cX, rfl, hR, hb⟩
theorem zB_get {base g c : Nat} {s : List Int} (h : zB base g c W s) {x : Int} (h0 : 0 ≤ x) (h1 : x ≤ 1000) : W.cell? ⟨g, x.toNat, none⟩ = some (.bool (decide (x ∈ s))) ∧ W.frozen? ⟨g, x.toNat, none⟩ = false := by
 obtain ⟨h2, h3⟩ := Kd.R_celln false h x h0 (by omega)
 rw [mkB_get s h0 h1] at h2
 exact ⟨h2, h3⟩
theorem zB_put {base g c : Nat} {s : List Int} (h : zB base g c W s) {x : Int} (h0 : 0 ≤ x) (h1 : x ≤ 1000) : zB base g c (W.setCell ⟨g, x.toNat, none⟩ (.bool true)) (s ++ [x]) ∧ W.grownBy (W.setCell ⟨g, x.toNat, none⟩ (.bool true)) (some g) := by
 obtain ⟨h2, h3⟩ := Kd.R_putg h x true
 rw [mkB_set s h0 h1] at h2
 exact ⟨h2, h3⟩
end
set_option maxHeartbeats 1000000 in
set_option maxRecDepth 100000 in
theorem l2ring_calls {A0 A1 A2 : Option Addr} {c0 c1 c2 : Nat} {R N : List Int} {T : List S40} (hr : Right R T N) {w : World} (h0 : Kd.C (Kd.int .i64) w A0 R.length R) (l0 : R.length ≤ c0) (h1 : Kd.C k40 w A1 T.length T) (l1 : T.length ≤ c1) (h2 : Kd.C (Kd.int .i64) w A2 N.length N) (l2 : N.length ≤ c2) (a : Int) (ha : inN R T N a) :
  Calls Try.prog 24 #[.agg #[.slice A0 R.length c0, .slice A1 T.length c1, .slice A2 N.length c2], .int .i64 a] w fun e w' => ∃ v, e = .returned v ∧ (Kd.int .i64).R 3 w' w.heap.size (fun _ => True) v (ringF (waitsD R T N) a) ∧ Below w.heap.size w w' ∧ (ringF (waitsD R T N) a = [] → v = .slice none 0 0) := by
 have HR := Aside0.mk hr
 have H0 := Aside0.mk h0
 have H1 := Aside0.mk h1
 have H2 := Aside0.mk h2
 have HA := Aside0.mk ha
 generalize hr0 : ringF (waitsD R T N) a = r0
 have HR0 := Aside0.mk hr0
 clear hr h0 h1 h2 ha hr0
 have hu := Try.underlying30
 go_enter Try.func24, Try.ntmps24
 go_wp2_with (first
  | ((with_reducible refine gate_dst (N := 2) rfl ?_); refine box_event ?hg (N := 2) ?hd (cs := #[.slice A0 R.length c0, .slice A1 T.length c1, .slice A2 N.length c2]) (t := 30) ?hr ?_; (case hd => rfl); (case hg => rfl); (case hr => first | (go_simp; done) | (go_simp; rfl)); intro gb hg w1 hbox hb; subst hg; have HB1 := Aside0.mk hb; have BX1 := Aside0.mk hbox; have G1 := Aside0.mk (Array.getElem?_eq_some_iff.1 hbox).1; clear hbox hb)
  | ((with_reducible refine gate_dst (N := 13) rfl ?_); refine Kd.R_lit (Kd.int .i64) w.heap.size 3 ?hg (N := 13) ?hd (xs := [a]) (inner := [.int .i64 a]) (ok := fun k => True) (okp := fun k => True) ?hr ?hp (fun _ hk => hk) trivial HB1.out HB1.out.size (by simp) ?_; (case hd => rfl); (case hg => rfl); (case hr => first | (go_simp; done) | (go_simp; rfl)); (case hp => exact Kd.reps_scalar [a]); intro vL w2 ho hb hg_ hnew_; obtain ⟨AL, cL, eL⟩ := Kd.R_slice ho; rw [List.length_singleton] at eL; subst eL; have LA := Aside0.mk ho; have HB2 := Aside0.mk hb; have S2 := Aside0.mk hg_; clear ho hb hg_ hnew_)
  | ((with_reducible refine gate_dst (N := 14) rfl ?_); refine Kd.R_lit kR w.heap.size 22 ?hg (N := 14) ?hd (xs := [[a]]) (inner := [.slice AL 1 cL]) (ok := fun k => True) (okp := fun k => True) ?hr ?hp (fun _ hk => hk) trivial HB2.out HB2.out.size (by simp) ?_; (case hd => rfl); (case hg => rfl); (case hr => first | (go_simp; done) | (go_simp; rfl)); (case hp => exact reps1 ⟨_, rfl, LA.out⟩ rfl); intro vM w3 ho hb hg_ hnew_; have LM := Aside0.mk ho; have HB3 := Aside0.mk hb; have S3 := Aside0.mk hg_; clear ho hb hg_ hnew_)
  | ((with_reducible refine gate_dst (N := 15) rfl ?_); refine Kd.R_make Kd.bool _ 4 rfl (N := 15) rfl 65 _ _ rfl (1001 : Int) rfl rfl Try.underlying65 (.bool false) 1 infoB rfl (by decide) (by omega) false (ok := fun _ => True) (okp := fun _ => True) rfl (fun _ hk => hk) trivial (by omega) (by decide) (Below.refl _ _) (Nat.le_refl _) ?_; intro vS w4 ho hb hg hnew; rw [show (1001 : Int).toNat = 1001 from rfl] at ho; obtain ⟨gS, cS, eS, gSb, gSl, _⟩ := Kd.R_form ho (by rw [List.length_replicate]; decide); rw [List.length_replicate] at eS; subst eS; have ZS := Aside0.mk (show zB w.heap.size gS cS w4 [] from by unfold zB; rw [mkB_nil]; exact own_only (Kd.R_lower ho HB3.out.size)); have GS := Aside0.mk (And.intro gSb gSl); have HB4 := Aside0.mk hb; clear ho hb hg hnew gSb gSl))
 have HY := Aside0.mk (show Wy (zB w.heap.size gS cS) gS #[.slice A0 R.length c0, .slice A1 T.length c1, .slice A2 N.length c2] w w4 w4.heap.size vM (.slice none 0 0) [[a]] [] [] from
  ⟨zB_m _ _ _, below_step HB3.out HB4.out, blk_below (blk_grown (blk_grown BX1.out S2.out (by simp)) S3.out (by simp)) HB4.out, ZS.out, ⟨by have := GS.out; have := S2.out.size; have := S3.out.size; have := G1.out; omega, GS.out.2, Nat.le_refl _⟩,
   Kd.R_mono (Kd.R_below (Kd.R_bound LM.out) HB4.out) (fun k hk => by have := hk.2.2.1; have := GS.out; have := HB4.out.size; omega), Kd.R_nil _ _ _ _ _⟩)
 clear HB1 BX1 G1 LA HB2 S2 LM HB3 S3 ZS GS HB4
 go_loopg [5] 8 (fun kq x5 wr => ∃ (n : Nat) (l : List (List Int)) (s : List Int), Aside0 (rnd (waitsD R T N) a kq l s = r0) ∧ Aside0 (Gd (inN R T N) 0 0 s []) ∧ Aside0 (okL (inN R T N) (9 - kq) l ∧ kq ≤ 8 ∧ (l = [] ∨ 8 ≤ kq + s.length) ∧ l.length ≤ 5) ∧ Aside0 (Wy (zB w.heap.size gS cS) gS #[.slice A0 R.length c0, .slice A1 T.length c1, .slice A2 N.length c2] w wr n x5 (.slice none 0 0) l [] s))
 case atStart => exact ⟨_, [[a]], [], HR0, ⟨Gd.start 0⟩, ⟨by intro v hv; rw [List.mem_singleton.1 hv]; exact ⟨by simp, fun x hx => by rw [List.mem_singleton.1 hx]; exact HA.out, by simp⟩, Nat.le_refl _, .inr (Nat.le_refl _), by simp⟩, HY⟩
 case round =>
  clear HY HR0
  obtain ⟨n, l, s, HRr, HG, HL, HY⟩ := hrel
  obtain ⟨A5, c5, e5⟩ := Kd.R_slice HY.out.line
  subst e5
  by_cases hl : l.length = 0
  ·have d18 : decide ((l.length : Int) > 0) = false := decide_eq_false (by omega)
   go_wp2_with (fail)
   go_ret
   exact ⟨_, rfl, by rw [← HRr.out, List.length_eq_zero_iff.1 hl, rnd_nil]; exact Kd.R_nil _ _ _ _ _, HY.out.low, fun _ => rfl⟩
  ·have d18 : decide ((l.length : Int) > 0) = true := decide_eq_true (by omega)
   have hpos : 0 < l.length := by omega
   have hne : l ≠ [] := fun e => hl (by rw [e]; rfl)
   have hgk : 3 ≤ gk := by
    have h3 := HL.out.2.2.1.resolve_left hne
    have h4 := inN_le HR.out HG.out.nd HG.out.sP
    omega
   have hgk8 := HL.out.2.1
   have hl5 := HL.out.2.2.2
   obtain ⟨k1, rfl⟩ : ∃ k1, gk = k1 + 1 := ⟨gk - 1, by omega⟩
   have HRR := HRr.out
   rw [rnd_go hne] at HRR
   have HRQ := Aside0.mk HRR
   have HK := Aside0.mk (And.intro hgk hgk8)
   have HOK := Aside0.mk HL.out.1
   have H8 := Aside0.mk (HL.out.2.2.1.resolve_left hne)
   have HG0 := Aside0.mk (HG.out.turn (n' := 9 - k1))
   clear HRR HRr hgk hgk8 hne HL
   generalize hlin : lin (waitsD R T N) a l s [] = LIN at HRQ
   have HLIN := Aside0.mk hlin
   clear hlin
   go_wp2_with (fail)
   go_loopw [7, 21] (fun x7 x21 wr => ∃ (i : Nat) (s' : List Int) (m : List (List Int)), i ≤ l.length ∧ x21 = .int .i64 i ∧ Aside0 (lin (waitsD R T N) a (l.drop i) s' m = LIN) ∧ Aside0 (Gd (inN R T N) s.length (9 - k1) s' m) ∧ Aside0 (Wy (zB w.heap.size gS cS) gS #[.slice A0 R.length c0, .slice A1 T.length c1, .slice A2 N.length c2] w wr n (.slice A5 l.length c5) x7 l m s')) (fun _ x21 _ => l.length - (intOf x21).toNat)
   case atStart => exact ⟨0, s, [], Nat.zero_le _, rfl, HLIN, HG0, HY⟩
   case round =>
    rename World => wb
    clear HLIN HG0 HY HG
    obtain ⟨i, s1, m1, hi, rfl, HLIN, HG, HY⟩ := hrel
    obtain ⟨A7, c7, e7⟩ := Kd.R_slice HY.out.next
    subst e7
    by_cases hlt : i < l.length
    ·have d22 : decide ((i : Int) < (l.length : Int)) = true := decide_eq_true (by omega)
     have p5 : (0 : Int) ≤ (i : Int) := by omega
     have q5 : (i : Int) < (l.length : Int) := by omega
     obtain ⟨g5, c5', v, e5, hcell, hway⟩ := HY.out.way hlt
     injection e5 with e5 _ e6
     subst e5 e6
     have hokw := HOK.out _ (getD_mem [] hlt)
     have hdr : l.drop i = l.getD i [] :: l.drop (i + 1) := drop_cons [] hlt
     have hLI := HLIN.out
     rw [hdr, lin_cons] at hLI
     generalize l.getD i [] = wl at hway hokw hLI
     have hwl : 0 < wl.length := List.length_pos_iff.2 hokw.1
     obtain ⟨gv, cv, rfl, _, _, _⟩ := Kd.R_form hway hwl
     have hlast := (Kd.R_cell 0 hway ((wl.length : Int) - 1) (by omega) (by omega)).1
     have elast : rdOf 0 wl ((wl.length : Int) - 1) = wl.getLastD 0 := getLast_rd hwl
     rw [elast] at hlast
     have HPL := Aside0.mk (getLast_in hokw.1 hokw.2.1)
     have HLI := Aside0.mk hLI
     have HOW := Aside0.mk hokw
     have HWAY := Aside0.mk hway
     have hwl9 : wl.length ≤ 9 := by have := hokw.2.2; omega
     clear hdr hLI hokw hway elast HLIN
     generalize hinn : inn a wl (waitsD R T N (wl.getLastD 0)) s1 m1 = INN at HLI
     have HINN := Aside0.mk hinn
     clear hinn
     generalize wl.getLastD 0 = la at hlast HPL HINN
     have z0 : wb.cell? ⟨w.heap.size, 0, none⟩ = some (.slice A0 R.length c0) := HY.out.cells 0 rfl
     have z1 : wb.cell? ⟨w.heap.size, 1, none⟩ = some (.slice A1 T.length c1) := HY.out.cells 1 rfl
     have z2 : wb.cell? ⟨w.heap.size, 2, none⟩ = some (.slice A2 N.length c2) := HY.out.cells 2 rfl
     have p6 : (0 : Int) ≤ (wl.length : Int) - 1 := by omega
     have q6 : (wl.length : Int) - 1 < (wl.length : Int) := by omega
     have ew : wrap64 ((wl.length : Int) - 1) = (wl.length : Int) - 1 := w64 (by omega) (by omega)
     generalize hpl : (wl.length : Int) - 1 = pl at hlast p6 q6
     rw [hpl] at ew
     have ew2 : wrap64 ((wl.length : Int) - 1) = pl := by rw [hpl]; exact ew
     clear hpl ew
     have HYd := Aside0.mk (HY.out.below (below_drew (Below.refl _ _)))
     have HWd := Aside0.mk (Kd.R_below HWAY.out (below_drew (Below.refl _ _)))
     clear HY HWAY
     go_wp2_with (fail)
     refine start_ (n := 10) (S := fun w' => w'.cell? ⟨w.heap.size, 0, none⟩ = some (.slice A0 R.length c0) ∧ w'.cell? ⟨w.heap.size, 1, none⟩ = some (.slice A1 T.length c1) ∧ w'.cell? ⟨w.heap.size, 2, none⟩ = some (.slice A2 N.length c2) ∧ w'.cell? ⟨gv, pl.toNat, none⟩ = some (.int .i64 la)) (ds := []) (Array.replicate 10 false) (by kernel_rfl) rfl rfl ⟨z0, z1, z2, hlast⟩ (fun hS => ?_)
     refine nt_ hS 0 25 rfl rfl (by kernel_rfl) (fun _ _ _ h => h) (by rfl) (fun w' ⟨s0, s1, s2, s3⟩ => by go_simp; with_reducible rfl) (by simp only [AP_, i64_w]; rfl) ?_
     refine np_ 1 26 rfl rfl (by kernel_rfl) (fun _ _ _ h => h) (by rfl) (fun w' => by go_simp; with_reducible rfl) (by simp only [AP_, i64_w]; rfl) ?_
     refine np_ 2 27 rfl rfl (by kernel_rfl) (fun _ _ _ h => h) (by rfl) (fun w' => by go_simp; with_reducible rfl) (by simp only [AP_, i64_w]; rfl) ?_
     refine np_ 3 28 rfl rfl (by kernel_rfl) (fun _ _ _ h => h) (by rfl) (fun w' => by go_simp; with_reducible rfl) (by simp only [AP_, i64_w]; rfl) ?_
     refine np_ 4 29 (v := .int .i64 pl) rfl rfl (by kernel_rfl) (fun _ _ _ h => h) (by rfl) (fun w' => by go_simp; rw [i64_w]; exact ew2) (by simp only [AP_, i64_w]; rfl) ?_
     refine np_ 5 30 (v := .pointer (some ⟨gv, pl.toNat, none⟩)) rfl rfl (by kernel_rfl) (fun _ _ _ h => h) (by rfl) (fun w' => by go_simp) (by simp only [AP_, i64_w]; rfl) ?_
     refine nt_ hS 6 31 (v := .int .i64 la) rfl rfl (by kernel_rfl) (fun _ _ _ h => h) (by rfl) (fun w' ⟨s0, s1, s2, s3⟩ => by go_simp) (by simp only [AP_, i64_w]; rfl) ?_
     refine np_ 9 34 rfl rfl (by kernel_rfl) (fun _ _ _ h => h) (by rfl) (fun w' => by go_simp; with_reducible rfl) (by simp only [AP_, i64_w]; rfl) ?_
     refine no_ 7 32 rfl rfl (by kernel_rfl) (by simp) (fun K hK => ?_)
     refine goes_ Try.func40 (by kernel_rfl) rfl #[.agg #[.slice A0 R.length c0, .slice A1 T.length c1, .slice A2 N.length c2], .int .i64 la] (by rfl) rfl rfl (by (try simp only [List.map_toArray, List.map_cons, List.map_nil]); rfl) ?_
     refine (sw_rd HR.out (Kd.C_below H0.out HYd.out.low) l0 (Kd.C_below H1.out HYd.out.low) l1 (Kd.C_below H2.out HYd.out.low) l2 HPL.out).mono ?_
     rintro e w3 ⟨AX, cX, rfl, hX, hb⟩
     refine ⟨_, rfl, ?_⟩
     refine hK _ _ ⟨(hb.cell (World.block_lt_of_cell? _ _ z0)).trans z0, (hb.cell (World.block_lt_of_cell? _ _ z1)).trans z1, (hb.cell (World.block_lt_of_cell? _ _ z2)).trans z2, (hb.cell (World.block_lt_of_cell? _ _ hlast)).trans hlast⟩ (fun hS => ?_)
     refine norm_ (a' := ?_) ?_ ?_
     rotate_left
     ·simp only [AP_, i64_w]
      rfl
     refine np_ 8 33 rfl rfl (by kernel_rfl) (fun _ _ _ h => h) (by rfl) (fun w' => by go_simp; with_reducible rfl) (by simp only [AP_, i64_w]; rfl) ?_
     refine done_ (by kernel_rfl) ?_
     have hXl : (waitsD R T N la).length ≤ 5 := Nat.le_trans (waitsD_le (R := R) (T := T) (N := N) la) HR.out.t1
     have HXM := Aside0.mk (waitsD_in HR.out (a := la))
     have HX := Aside0.mk (show Wx (zB w.heap.size gS cS) gS #[.slice A0 R.length c0, .slice A1 T.length c1, .slice A2 N.length c2] w w3 n (.slice (some ⟨g5, 0, none⟩) l.length c5) (.slice A7 m1.length c7) l m1 s1 (.slice (some ⟨gv, 0, none⟩) wl.length cv) wl (.slice AX (waitsD R T N la).length cX) (waitsD R T N la) from ⟨HYd.out.below hb, Kd.R_below HWd.out hb, Kd.R_mono (Kd.R_lower (Kd.R_bound hX) HYd.out.low.size) (fun k hk => Nat.le_trans HYd.out.hS.2.2 hk.2.1)⟩)
     clear z0 z1 z2 hlast hb hX HYd HWd hcell ew2 p6 q6 hS
     generalize hXX : waitsD R T N la = X at *
     clear hXX
     go_wp2_with (fail)
     go_loopw [7, 34] (fun x7 x34 wr => ∃ (j : Nat) (s2 : List Int) (m2 : List (List Int)), j ≤ X.length ∧ x34 = .int .i64 j ∧ Aside0 (inn a wl (X.drop j) s2 m2 = INN) ∧ Aside0 (Gd (inN R T N) s.length (9 - k1) s2 m2) ∧ Aside0 (Wx (zB w.heap.size gS cS) gS #[.slice A0 R.length c0, .slice A1 T.length c1, .slice A2 N.length c2] w wr n (.slice (some ⟨g5, 0, none⟩) l.length c5) x7 l m2 s2 (.slice (some ⟨gv, 0, none⟩) wl.length cv) wl (.slice AX X.length cX) X)) (fun _ x34 _ => X.length - (intOf x34).toNat)
     case atStart => exact ⟨0, s1, m1, Nat.zero_le _, rfl, HINN, HG, HX⟩
     case round =>
      rename World => wc
      clear HINN HG HX
      obtain ⟨j, s2, m2, hj, rfl, HINN, HG, HX⟩ := hrel
      obtain ⟨A8, c8, e8⟩ := Kd.R_slice HX.out.y.next
      subst e8
      by_cases hjt : j < X.length
      ·have d35 : decide ((j : Int) < (X.length : Int)) = true := decide_eq_true (by omega)
       have p7 : (0 : Int) ≤ (j : Int) := by omega
       have q7 : (j : Int) < (X.length : Int) := by omega
       obtain ⟨adX, eX, hxc⟩ := Kd.at_int (Kd.R_reads' HX.out.row).2.2 (j : Int) p7 q7
       subst eX
       rw [Int.toNat_natCast, show rd X (j : Int) = X.getD j 0 from rd_I X j] at hxc
       have hxP := HXM.out _ (getD_mem 0 hjt)
       have hdr : X.drop j = X.getD j 0 :: X.drop (j + 1) := drop_cons 0 hjt
       have hIN := HINN.out
       rw [hdr] at hIN
       have HDR := Aside0.mk hdr
       have HP := Aside0.mk hxP
       have HIN := Aside0.mk hIN
       clear hdr hxP hIN HINN
       generalize X.getD j 0 = x at hxc HDR HP HIN
       by_cases hxa : x = a
       ·have d40 : (x == a) = true := beq_iff_eq.mpr hxa
        have hI1 : INN.1 = true := by rw [← HIN.out, hxa]; exact inn_here
        have hLL := HLI.out
        rw [if_pos hI1] at hLL
        have hr9 : wl = r0 := by
         have h9 := HRQ.out
         rw [← hLL, if_neg HOW.out.1] at h9
         exact h9
        have HR9 := Aside0.mk hr9
        clear hLL hr9 hxa
        go_wp2_with (fail)
        go_ret
        exact ⟨_, rfl, by rw [← HR9.out]; exact Kd.R_mono HX.out.way (fun _ _ => trivial), HX.out.y.low, fun h => absurd (HR9.out.trans h) HOW.out.1⟩
       ·have d40 : (x == a) = false := beq_eq_false_iff_ne.mpr hxa
        by_cases hxs : x ∈ s2
        ·have HI2 := Aside0.mk ((inn_seen hxa hxs).symm.trans HIN.out)
         have hrg := inN_range HR.out HP.out
         obtain ⟨hc9, hf9⟩ := zB_get HX.out.y.seen hrg.1 hrg.2
         rw [decide_eq_true hxs] at hc9
         have p9 : 0 ≤ x := hrg.1
         have q9 : x < 1001 := by omega
         clear hxs hrg
         go_wp2_with (fail)
         go_roundw
         case measure => simp [intOf]; omega
         case rel => exact ⟨j + 1, s2, m2, hjt, by go_num, HI2, HG, HX⟩
        ·have HI2 := Aside0.mk ((inn_new hxa hxs).symm.trans HIN.out)
         have HG2 := Aside0.mk (HG.out.add hxs HP.out HOW.out.2.1 (by have := HOW.out.2.2; have := HK.out; omega))
         have hml : m2.length ≤ 5 := by
          have h3 := inN_le HR.out HG.out.nd HG.out.sP
          have h4 := HG.out.cnt
          omega
         have hrg := inN_range HR.out HP.out
         obtain ⟨hc9, hf9⟩ := zB_get HX.out.y.seen hrg.1 hrg.2
         rw [decide_eq_false hxs] at hc9
         obtain ⟨hz9, hg9⟩ := zB_put HX.out.y.seen hrg.1 hrg.2
         have ZP := Aside0.mk (And.intro hz9 hg9)
         have p9 : 0 ≤ x := hrg.1
         have q9 : x < 1001 := by omega
         obtain ⟨y, hy⟩ : ∃ y : List Int, y = wl ++ [x] := ⟨_, rfl⟩
         have HYE := Aside0.mk hy
         clear hy
         clear hxs hrg hz9 hg9
         go_wp2_with (first
          | ((with_reducible refine gate_store (t := 4) (p := 49) rfl ?_); refine store_event (t := 4) (p := 49) (v := ?vo_w11) (w1 := wc.setCell ⟨gS, x.toNat, none⟩ (.bool true)) ?hg ?ho ?hn ?hr ?_; (case ho => rfl); (case hg => rfl); (case hn => rfl); (case hr => first | (go_simp; done) | (go_simp; rfl)); intro w4 hw; have HXM2 := Aside0.mk (show Wx (zB w.heap.size gS cS) gS #[.slice A0 R.length c0, .slice A1 T.length c1, .slice A2 N.length c2] w w4 n (.slice (some ⟨g5, 0, none⟩) l.length c5) (.slice A8 m2.length c8) l m2 (s2 ++ [x]) (.slice (some ⟨gv, 0, none⟩) wl.length cv) wl (.slice (some adX) X.length cX) X from by rw [hw]; exact HX.out.mark ZP.out.2 ZP.out.1); clear hw hc9 hf9 hxc HX ZP)
          | ((with_reducible refine gate_dst (N := 51) rfl ?_); refine Kd.R_lit (Kd.int .i64) w4.heap.size 3 ?hg (N := 51) ?hd (xs := ([] : List Int)) (inner := []) (ok := fun k => w4.heap.size ≤ k) (okp := fun _ => False) ?hr ?hp (fun _ hk => hk.elim) (Nat.le_refl _) (Below.refl _ _) (Nat.le_refl _) (by simp) ?_; (case hd => rfl); (case hg => rfl); (case hr => first | (go_simp; done) | (go_simp; rfl)); (case hp => exact (Reps.none _ _)); intro v1 w5 ho hb hg_ hnew_; have O1 := Aside0.mk ho; have B1 := Aside0.mk hb; clear ho hb hg_ hnew_)
          | ((with_reducible refine gate_builtin (b := .append) (xs := #[.tmp 51, .tmp 52]) rfl ?_); at_builtin; refine Kd.R_append_rows (Kd.int .i64) (w0 := w4) w4.heap.size rfl (.tmp 51) (.tmp 52) 22 3 (.int .i64 0) 8 rfl Try.underlying22 info3 rfl (by decide) (by omega) v1 ([] : List Int) wl _ _ _ (fun k => w4.heap.size ≤ k) (fun _ => False) rfl rfl ?aO ?aR (fun _ _ h => h) (fun _ h => h.elim) ?aF ?aB ?aS ?aL ?_; (case aO => exact O1.out); (case aR => exact (Kd.C_below (Kd.R_reads' HXM2.out.way).2.2 B1.out)); (case aF => exact (fun _ hk => Nat.le_trans B1.out.size hk)); (case aB => exact B1.out); (case aS => exact B1.out.size); (case aL => simp only [List.length_nil]; omega); intro v2 w6 ho hb hg_ hat_; rw [List.nil_append] at ho; have OA := Aside0.mk ho; have BA := Aside0.mk hb; clear ho hb hg_ hat_)
          | ((with_reducible refine gate_builtin (b := .append) (xs := #[.tmp 53, .tmp 55]) rfl ?_); at_builtin; refine Kd.R_append (Kd.int .i64) (w0 := w4) w4.heap.size rfl (.tmp 53) (.tmp 55) 22 3 (.int .i64 0) 8 rfl Try.underlying22 info3 rfl (by decide) (by omega) v2 wl x [.int .i64 x] (fun k => w4.heap.size ≤ k) (fun _ => False) rfl rfl ?aP (fun _ hk => hk.elim) ?aF OA.out BA.out BA.out.size ?aL ?_; (case aP => exact rfl); (case aF => exact (fun k hk => Nat.le_trans BA.out.size hk)); (case aL => omega); intro v3 w7 ho hb hg_ hat_; rw [← HYE.out] at ho; obtain ⟨A3, c3, e3⟩ := Kd.R_slice ho; subst e3; have OB := Aside0.mk ho; have BB := Aside0.mk hb; have HXB := Aside0.mk (HXM2.out.below hb); clear ho hb hg_ hat_ OA BA)
          | ((with_reducible refine gate_builtin (b := .append) (xs := #[.tmp 50, .tmp 57]) rfl ?_); at_builtin; refine Kd.R_append kR (w0 := w) w.heap.size rfl (.tmp 50) (.tmp 57) 64 22 (.slice none 0 0) 24 rfl Try.underlying64 infoI rfl (by decide) (by omega) (.slice A8 m2.length c8) m2 y [.slice A3 y.length c3] (fun k => n ≤ k) (fun k => w4.heap.size ≤ k) rfl rfl ?aP ?aK ?aF HXB.out.y.next HXB.out.y.low HXB.out.y.low.size ?aL ?_; (case aP => exact ⟨_, rfl, Kd.R_lower OB.out HXM2.out.y.low.size⟩); (case aK => exact (fun k hk => ⟨Nat.le_trans HXM2.out.y.hS.2.2 hk, fun e => by have := (HXM2.out.y.nlt k e.symm).2; omega⟩)); (case aF => exact (fun k hk => Nat.le_trans HXB.out.y.hS.2.2 hk)); (case aL => omega); intro v4 w8 ho hb hg hat_; have HXN := Aside0.mk (HXB.out.app hg hb ho); clear ho hb hg hat_ OB BB HXB HXM2))
         have HX := HXN
         rw [HYE.out] at HX
         clear HXN
         go_roundw
         case measure => simp [intOf]; omega
         case rel => exact ⟨j + 1, s2 ++ [x], m2 ++ [wl ++ [x]], hjt, by go_num, HI2, HG2, HX⟩
      ·have d35 : decide ((j : Int) < (X.length : Int)) = false := decide_eq_false (by omega)
       have HL2 : Aside0 (lin (waitsD R T N) a (l.drop (i + 1)) s2 m2 = LIN) := ⟨by
        have h9 := HINN.out
        rw [List.drop_eq_nil_of_le (by omega)] at h9
        have h8 := HLI.out
        rw [← h9] at h8
        simpa [inn] using h8⟩
       have HYY := Aside0.mk HX.out.y
       go_wp2_with (fail)
       go_roundw
       case measure => simp [intOf]; omega
       case rel => exact ⟨i + 1, s2, m2, hlt, by go_num, HL2, HG, HYY⟩
    ·have d22 : decide ((i : Int) < (l.length : Int)) = false := decide_eq_false (by omega)
     have hLL := HLIN.out
     rw [List.drop_eq_nil_of_le (by omega)] at hLL
     have HR1 := Aside0.mk (show rnd (waitsD R T N) a k1 m1 s1 = r0 from by
      have h9 := HRQ.out
      rw [← hLL] at h9
      simpa [lin] using h9)
     have HT := Aside0.mk HY.out.turn
     clear hLL
     go_wp2_with (fail)
     go_roundg k1
     case measure => omega
     case rel => exact ⟨_, m1, s1, HR1, ⟨HG.out.nd, HG.out.sP, by simp, by simp [okL]⟩, ⟨HG.out.ok, by have := HK.out; omega, by
      by_cases c : m1 = []
      ·exact .inl c
      ·right
       have h3 : 0 < m1.length := List.length_pos_iff.2 c
       have h4 := HG.out.cnt
       have h5 := H8.out
       omega, by
      have h3 := inN_le HR.out HG.out.nd HG.out.sP
      have h4 := HG.out.cnt
      omega⟩, HT⟩
end Go.Proofs.Ytckkppehfpjbpaa.Rg
