/- The drawn states of spoilt ones: a drawn state, spoilt up to twice. Walked by hand. -/
import Derived.Test.YtkcocomehhlpmaaDoorFnSpoiltSq2
import Derived.Test.YtkcocomehhlpmaaDoorFnSpoiltQ2
import Derived.Test.YtkcocomehhlpmaaDoorFnSpoiltQ6
namespace Go.Proofs.YtkcocomehhlpmaaDoor.Ds
open Go.RowKit Go.Proofs.YtkcocomehhlpmaaDoorW.PrintWords Go.Proofs.YtkcocomehhlpmaaDoorW.PrintLast Go.Proofs.YtkcocomehhlpmaaDoorW.PrintMore Go.Proofs.YtkcocomehhlpmaaDoor.Q Go.Proofs.YtkcocomehhlpmaaDoor.Pu Go.Proofs.YtkcocomehhlpmaaDoor.Sq
set_option linter.unusedVariables false
set_option linter.unusedSimpArgs false
def drw : Nat → Int → List Int → Int → Int → List Int → List S48 → List Int → Option (List Int × List S48 × List Int)
 | 0, _, _, _, _, _, _, _ => none
 | k + 1, n, l, a, s, R, T, N => if n > 0 ∧ 0 < R.length then (spec_l5Cur_spoil.f k l a s R T N).bind fun t => drw k (n - 1) l t.2.2.2.1 t.2.2.2.2 t.1 t.2.1 t.2.2.1 else some (R, T, N)
def spec_DrawStateOk.f (k : Nat) (l : List Int) : Option (List Int × List S48 × List Int) :=
 (spec_l5Cur_state.f k l 0 0).bind fun t => (spec_l5Cur_pick.f l t.2.2.2.1 t.2.2.2.2 3).bind fun p => if 0 ≤ p.1 ∧ p.1 ≤ 3 then drw k p.1 l p.2.1 p.2.2 t.1 t.2.1 t.2.2.1 else none
section
variable {α : Type} {d : Kd α} {e base b0 gs : Nat} {ok : Nat → Prop} {W1 wE : World} {v : Value} {xs : List α}
theorem row_in (h : d.R e W1 base ok v xs) (hb : b0 ≤ base) (hs : ∀ k, k < W1.heap.size → base ≤ k → k ≠ gs ∧ wE.heap[k]? = W1.heap[k]?) : d.R e wE b0 (fun k => k ≠ gs ∧ b0 ≤ k) v xs :=
 Kd.R_lower (Kd.R_mono (Kd.R_step (Kd.R_bound h) (fun k hk hl => (hs k hl hk.2.1).2)) (fun k hk => ⟨(hs k hk.2.2.1 hk.2.1).1, by have := hk.2.1; omega⟩)) hb
theorem row_inN (h : Kd.N d e W1 base (fun k => base ≤ k ∧ ok k) v xs) (hb : b0 ≤ base) (hs : ∀ k, k < W1.heap.size → base ≤ k → k ≠ gs ∧ wE.heap[k]? = W1.heap[k]?) : Kd.N d e wE b0 (fun k => k ≠ gs ∧ b0 ≤ k) v xs :=
 Kd.N_lower (Kd.N_mono (Kd.N_step (Kd.N_bound h) (fun k hk hl => (hs k hl hk.1.1).2)) (fun k hk => ⟨(hs k hk.2 hk.1.1).1, by have := hk.1.1; omega⟩)) hb
end
/-- The state at hand lies in its box; the cursor and the answer's box lie below it. -/
structure Dv (w W : World) (gs : Nat) (l : List Int) (a s : Int) (v0 v1 v2 : Value) (R : List Int) (T : List S48) (N : List Int) : Prop where
 hI : IsS67 w W (w.heap.size + 1) l a s
 hB : Below w.heap.size w W
 br : W.heap[w.heap.size]? = some (.cells #[.slice none 0 0, .slice none 0 0, .slice none 0 0] 30 (0, 0))
 bx : W.heap[gs]? = some (.cells #[v0, v1, v2] 30 (0, 0))
 hg : w.heap.size + 2 ≤ gs
 r0 : Kd.R (Kd.int .i64) 3 W (w.heap.size + 2) (fun k => k ≠ gs ∧ w.heap.size + 2 ≤ k) v0 R
 n1 : Kd.N k48 48 W (w.heap.size + 2) (fun k => k ≠ gs ∧ w.heap.size + 2 ≤ k) v1 T
 r2 : Kd.R (Kd.int .i64) 3 W (w.heap.size + 2) (fun k => k ≠ gs ∧ w.heap.size + 2 ≤ k) v2 N
section
variable {w W W2 wE : World} {gs : Nat} {l : List Int} {a s a2 s2 : Int} {v0 v1 v2 u0 u1 u2 : Value} {R R2 : List Int} {T T2 : List S48} {N N2 : List Int}
theorem Dv.call (h : Dv w W gs l a s v0 v1 v2 R T N) (hI : IsS67 w W2 (w.heap.size + 1) l a2 s2) (hB : Below w.heap.size w W2) (hk : KeepBut W W2 (w.heap.size + 1) none) : Dv w W2 gs l a2 s2 v0 v1 v2 R T N :=
 ⟨hI, hB, hk.blk h.br (by omega) (by simp), hk.blk h.bx (by have := h.hg; omega) (by simp), h.hg, Kd.R_keep h.r0 hk (fun k hk => by omega), Kd.N_keep h.n1 hk (fun k hk => by omega), Kd.R_keep h.r2 hk (fun k hk => by omega)⟩
theorem Dv.put (h : Dv w W gs l a s v0 v1 v2 R T N) (hI : IsS67 w W2 (w.heap.size + 1) l a2 s2) (hB : Below w.heap.size w W2) (hk : KeepBut W W2 (w.heap.size + 1) none)
  {ok0 ok1 ok2 : Nat → Prop} (o0 : Kd.R (Kd.int .i64) 3 W2 W.heap.size ok0 u0 R2) (o1 : Kd.N k48 48 W2 W.heap.size (fun k => W.heap.size ≤ k ∧ ok1 k) u1 T2) (o2 : Kd.R (Kd.int .i64) 3 W2 W.heap.size ok2 u2 N2)
  (hE : wE.heap[gs]? = some (.cells #[u0, u1, u2] 30 (0, 0))) (hG : W2.grownBy wE (some gs)) : Dv w wE gs l a2 s2 u0 u1 u2 R2 T2 N2 := by
 have hgl := blk_lt h.bx
 have h2 := h.hg
 have hs : ∀ k, k < W2.heap.size → W.heap.size ≤ k → k ≠ gs ∧ wE.heap[k]? = W2.heap[k]? := fun k hk hb => ⟨by omega, hG.block k hk (by intro e; injection e with e; omega)⟩
 exact ⟨hI.grown hG (by intro e; injection e with e; omega), pw_below_grown hB _ hB.size hG (fun k hk => by injection hk with hk; omega), blk_grown (hk.blk h.br (by omega) (by simp)) hG (by intro e; injection e with e; omega), hE, h.hg, row_in o0 (by omega) hs, row_inN o1 (by omega) hs, row_in o2 (by omega) hs⟩
end
set_option maxHeartbeats 2000000 in
set_option maxRecDepth 100000 in
theorem spec_DrawStateOk.calls (k : Nat) (A0 : Option Addr) (c0 : Nat) (l0 : List Int) (r1 : List Int) (r2 : List S48) (r3 : List Int) (w : World) (hr0 : Kd.C (Kd.int .u8) w A0 l0.length l0) (hc0 : l0.length ≤ c0)
  (h : spec_DrawStateOk.f k l0 = some (r1, r2, r3)) :
  Calls Tryd.prog 10 #[.slice A0 l0.length c0] w fun e w' => ∃ v0_ v1_ v2_ : Value, e = .returned (.agg #[v0_, v1_, v2_]) ∧ Kd.R (Kd.int .i64) 3 w' w.heap.size (fun _ => True) v0_ r1 ∧ Kd.N k48 48 w' w.heap.size (fun _ => True) v1_ r2 ∧ Kd.R (Kd.int .i64) 3 w' w.heap.size (fun _ => True) v2_ r3 ∧ Below w.heap.size w w' := by
 have HR0 := Aside0.mk hr0
 obtain ⟨⟨t1, t2, t3, t4, t5⟩, ht, h⟩ := Option.bind_eq_some_iff.mp h
 obtain ⟨⟨p1, p2, p3⟩, hp, h⟩ := Option.bind_eq_some_iff.mp h
 simp only at hp h
 by_cases hq : 0 ≤ p1 ∧ p1 ≤ 3
 rotate_left
 ·rw [if_neg hq] at h; exact absurd h (by simp)
 rw [if_pos hq] at h
 obtain ⟨q0, q1⟩ := hq
 have HT := Aside0.mk ht
 have HP := Aside0.mk hp
 have HH := Aside0.mk h
 clear h ht hp hr0
 have hu30 := Tryd.underlying30
 go_enter Tryd.func10, Tryd.ntmps10
 go_wp2_with (fail)
 have hB := Aside0.mk (((Below.refl w.heap.size w).alloc (Nat.le_refl _) (.cells #[.slice none 0 0, .slice none 0 0, .slice none 0 0] 30)))
 have BR := Aside0.mk (heap_alloc_new w (.cells #[.slice none 0 0, .slice none 0 0, .slice none 0 0] 30))
 have hs : (w.alloc (.cells #[.slice none 0 0, .slice none 0 0, .slice none 0 0] 30)).heap.size = w.heap.size + 1 := by simp
 have hI := IsS67.new w _ A0 c0 l0 0 0 hB.out HR0.out
 rw [hs] at hI
 have hB2 := hB.out.alloc (by omega) (.cells #[.slice A0 l0.length c0, .int .i64 0, .int .u64 0] 67)
 have BR2 : ((w.alloc (.cells #[.slice none 0 0, .slice none 0 0, .slice none 0 0] 30)).alloc (.cells #[.slice A0 l0.length c0, .int .i64 0, .int .u64 0] 67)).heap[w.heap.size]? = some (.cells #[.slice none 0 0, .slice none 0 0, .slice none 0 0] 30 (0, 0)) := blk_alloc BR.out _
 have HS2 := Aside0.mk (show ((w.alloc (.cells #[.slice none 0 0, .slice none 0 0, .slice none 0 0] 30)).alloc (.cells #[.slice A0 l0.length c0, .int .i64 0, .int .u64 0] 67)).heap.size = w.heap.size + 2 from by simp)
 generalize ((w.alloc (.cells #[.slice none 0 0, .slice none 0 0, .slice none 0 0] 30)).alloc (.cells #[.slice A0 l0.length c0, .int .i64 0, .int .u64 0] 67)) = W at *
 clear hs hB
 refine (spec_l5Cur_state.calls k (w.heap.size + 1) l0 0 0 t1 t2 t3 t4 t5 w W hI hB2 HT.out).mono ?_
 rintro e w1 ⟨v0, v1, v2, rfl, ho0, ho1, ho2, hI1, hBw, hK⟩
 have HI1 := Aside0.mk hI1
 have HB1 := Aside0.mk hBw
 have BR1 := Aside0.mk (hK.blk BR2 (by omega) (by simp))
 have O0 := Aside0.mk ho0
 have O1 := Aside0.mk (Kd.S_N (Kd.S_mono (Kd.S_bound ho1) (fun k hk => (⟨hk.2.1, hk.1⟩ : W.heap.size ≤ k ∧ _))))
 have O2 := Aside0.mk ho2
 have HW1 := Aside0.mk (show w.heap.size + 2 ≤ w1.heap.size from by have := hK.1; have := HS2.out; omega)
 have BS := Aside0.mk (heap_alloc_new w1 (.cells #[.slice none 0 0, .slice none 0 0, .slice none 0 0] 30))
 have HG1 := Aside0.mk (below_alloc (Below.refl w1.heap.size w1) (.cells #[.slice none 0 0, .slice none 0 0, .slice none 0 0] 30))
 obtain ⟨D0, d0, rfl⟩ := Kd.R_slice ho0
 obtain ⟨D1, d1, rfl⟩ := Kd.S_slice ho1
 obtain ⟨D2, d2, rfl⟩ := Kd.R_slice ho2
 clear ho0 ho1 ho2 hI1 hBw hK BR2 hI hB2 BR
 go_wp2_with (first
  | ((with_reducible refine gate_store (t := 30) (p := 4) rfl ?_); (try simp only [Act.put, List.setIfInBounds_toArray, List.set_cons_zero, List.set_cons_succ]); refine row_wr_ rfl 30 (.tmp 4) (.tmp 10) rfl rfl w1.heap.size rfl (c' := #[.slice D0 t1.length d0, .slice D1 t2.length d1, .slice D2 t3.length d2]) rfl BS.out infoS rfl (by simp [Value.oneCell']) ?_; intro wE hwE hgE; have BE := Aside0.mk hwE; have HG := Aside0.mk hgE; clear hwE hgE))
 have hgs : ∀ k, k < w1.heap.size → W.heap.size ≤ k → k ≠ w1.heap.size ∧ wE.heap[k]? = w1.heap[k]? := fun k hk hb => ⟨by omega, (HG.out.block k (by have := HG1.out.size; omega) (by intro e; injection e with e; omega)).trans (HG1.out.block k hk)⟩
 have hW2 := HS2.out
 have HV := Aside0.mk (show Dv w wE w1.heap.size l0 t4 t5 (.slice D0 t1.length d0) (.slice D1 t2.length d1) (.slice D2 t3.length d2) t1 t2 t3 from
  ⟨(HI1.out.alloc _).grown HG.out (by intro e; injection e with e; have := HW1.out; omega), pw_below_grown (HB1.out.alloc HB1.out.size (.cells #[.slice none 0 0, .slice none 0 0, .slice none 0 0] 30)) _ (by have := HG1.out.size; have := HW1.out; omega) HG.out (fun k hk => by injection hk with hk; have := HW1.out; omega), blk_grown (blk_below BR1.out HG1.out) HG.out (by intro e; injection e with e; have := HW1.out; omega), BE.out, HW1.out, row_in O0.out (by omega) hgs, row_inN O1.out (by omega) hgs, row_in O2.out (by omega) hgs⟩)
 clear hgs hW2 HS2 HI1 HB1 BR1 HW1 BS HG1 O0 O1 O2 BE HG
 generalize w1.heap.size = gs at *
 refine (spec_l5Cur_pick.calls (w.heap.size + 1) l0 t4 t5 3 p1 p2 p3 w wE HV.out.hI HV.out.hB HP.out).mono ?_
 rintro e w2 ⟨rfl, hi, hb, hk⟩
 have HV2 := Aside0.mk (HV.out.call hi hb hk)
 clear HV hi hb hk HP HT
 go_wp2_with (fail)
 go_loopg [5] k (fun kq v5 w' => ∃ (n a s : Int) (R : List Int) (T : List S48) (N : List Int) (v0 v1 v2 : Value), v5 = .int .i64 n ∧ 0 ≤ n ∧ n ≤ 3 ∧ Aside0 (drw kq n l0 a s R T N = some (r1, r2, r3)) ∧ Aside0 (kq ≤ k) ∧ Aside0 (Dv w w' gs l0 a s v0 v1 v2 R T N))
 case atStart => exact ⟨p1, p2, p3, t1, t2, t3, _, _, _, rfl, q0, q1, HH, ⟨Nat.le_refl _⟩, HV2⟩
 case round =>
  clear HH HV2 q0 q1
  rename World => W3
  obtain ⟨n, a, s, R, T, N, v0, v1, v2, rfl, n0, n3, HA, HK1, HV⟩ := hrel
  cases gk with
  | zero => exact absurd HA.out (by simp [drw])
  | succ k1 =>
   have H := HA.out
   clear HA
   unfold drw at H
   obtain ⟨A0', c0', rfl⟩ := Kd.R_slice HV.out.r0
   obtain ⟨A1', c1', rfl⟩ := Kd.N_slice HV.out.n1
   obtain ⟨A2', c2', rfl⟩ := Kd.R_slice HV.out.r2
   have z0 : W3.cell? ⟨gs, 0, none⟩ = some (.slice A0' R.length c0') := (blk_cell HV.out.bx 0).trans rfl
   have z1 : W3.cell? ⟨gs, 1, none⟩ = some (.slice A1' T.length c1') := (blk_cell HV.out.bx 1).trans rfl
   have z2 : W3.cell? ⟨gs, 2, none⟩ = some (.slice A2' N.length c2') := (blk_cell HV.out.bx 2).trans rfl
   by_cases cc : n > 0 ∧ 0 < R.length
   ·rw [if_pos cc] at H
    obtain ⟨⟨x1, x2, x3, x4, x5⟩, hsp, H⟩ := Option.bind_eq_some_iff.mp H
    simp only at H
    have HSP := Aside0.mk hsp
    have HH := Aside0.mk H
    clear H hsp
    obtain ⟨cn, cR⟩ := cc
    have cn0 : (0 : Int) < n := cn
    have b0 : decide ((0 : Int) < n) = true := decide_eq_true cn0
    have b1 : decide (0 < R.length) = true := decide_eq_true (by omega)
    clear cn
    go_wp2_with (fail)
    have e0 := Kd.R_reads' HV.out.r0
    have e2 := Kd.R_reads' HV.out.r2
    have e1 := Kd.N_reads' HV.out.n1
    refine (spec_l5Cur_spoil.calls k1 (w.heap.size + 1) l0 a s A0' c0' R A1' c1' T A2' c2' N x1 x2 x3 x4 x5 w W3 HV.out.hI HV.out.hB e0.2.2 e0.2.1 (fun ad ea _ => by have := HV.out.r0.1 ad.block (by rw [ea]; rfl); omega) (fun W' hk => (Kd.N_reads' (Kd.N_keep HV.out.n1 hk (fun k hk => by omega))).2.2) e1.2.1 e2.2.2 e2.2.1 (fun ad ea _ => by have := HV.out.r2.1 ad.block (by rw [ea]; rfl); omega) HSP.out).mono ?_
    rintro e w4 ⟨u0, u1, u2, rfl, ho0, ho1, ho2, hi, hb, hk⟩
    have O0 := Aside0.mk ho0
    have O1 := Aside0.mk ho1
    have O2 := Aside0.mk ho2
    have HI4 := Aside0.mk hi
    have HB4 := Aside0.mk hb
    have HK4 := Aside0.mk hk
    have BX4 := Aside0.mk (hk.blk HV.out.bx (by have := HV.out.hg; omega) (by simp))
    obtain ⟨D0, d0, rfl⟩ := Kd.R_slice ho0
    obtain ⟨D1, d1, rfl⟩ := Kd.N_slice ho1
    obtain ⟨D2, d2, rfl⟩ := Kd.R_slice ho2
    clear ho0 ho1 ho2 hi hb hk e0 e1 e2 z0 z1 z2
    go_wp2_with (first
     | ((with_reducible refine gate_store (t := 30) (p := 4) rfl ?_); (try simp only [Act.put, List.setIfInBounds_toArray, List.set_cons_zero, List.set_cons_succ]); refine row_wr_ rfl 30 (.tmp 4) (.tmp 25) rfl rfl gs rfl (c' := #[.slice D0 x1.length d0, .slice D1 x2.length d1, .slice D2 x3.length d2]) rfl BX4.out infoS rfl (by simp [Value.oneCell']) ?_; intro wE hwE hgE; have BE := Aside0.mk hwE; have HG := Aside0.mk hgE; clear hwE hgE))
    have HV5 := Aside0.mk (HV.out.put HI4.out HB4.out HK4.out O0.out O1.out O2.out BE.out HG.out)
    go_roundg k1
    case measure => have := HK1.out; omega
    case rel => exact ⟨n - 1, x4, x5, x1, x2, x3, _, _, _, by go_num, by omega, by omega, HH, ⟨by have := HK1.out; omega⟩, HV5⟩
   ·rw [if_neg cc] at H
    simp only [Option.some.injEq, Prod.mk.injEq] at H
    obtain ⟨rfl, rfl, rfl⟩ := H
    by_cases cn : (0 : Int) < n
    ·have hR : R.length = 0 := by omega
     have b0 : decide ((0 : Int) < n) = true := decide_eq_true cn
     have b1 : decide (0 < R.length) = false := decide_eq_false (by omega)
     clear hR cc
     go_wp2_with (first
      | ((with_reducible refine gate_store (t := 30) (p := 2) rfl ?_); (try simp only [Act.put, List.setIfInBounds_toArray, List.set_cons_zero, List.set_cons_succ]); refine row_wr_ rfl 30 (.tmp 2) (.tmp 26) rfl rfl w.heap.size rfl (c' := #[.slice A0' R.length c0', .slice A1' T.length c1', .slice A2' N.length c2']) rfl HV.out.br infoS rfl (by simp [Value.oneCell']) ?_; intro wE hwE hgE; have BE := Aside0.mk hwE; have HG := Aside0.mk hgE; clear hwE hgE))
     refine bodyPost_ret (results_cell_row rfl _ _ w.heap.size 30 #[.slice A0' R.length c0', .slice A1' T.length c1', .slice A2' N.length c2'] (0, 0) _ rfl BE.out Tryd.underlying30 rfl (by kernel_rfl)) rfl ?_
     have hne : ∀ (k : Nat), (k ≠ gs ∧ w.heap.size + 2 ≤ k) → k < W3.heap.size → wE.heap[k]? = W3.heap[k]? := fun k hk hl => HG.out.block k hl (by intro he; injection he with he; omega)
     exact ⟨_, _, _, rfl, Kd.R_lower (Kd.R_mono (Kd.R_step HV.out.r0 hne) fun k hk => trivial) (by omega), Kd.N_lower (Kd.N_mono (Kd.N_step HV.out.n1 hne) fun k hk => trivial) (by omega), Kd.R_lower (Kd.R_mono (Kd.R_step HV.out.r2 hne) fun k hk => trivial) (by omega), pw_below_grown HV.out.hB _ HV.out.hB.size HG.out (fun k hk => by injection hk with hk; omega)⟩
    ·obtain rfl : n = 0 := by omega
     have b0 : decide ((0 : Int) < 0) = false := rfl
     clear cc cn
     go_wp2_with (first
      | ((with_reducible refine gate_store (t := 30) (p := 2) rfl ?_); (try simp only [Act.put, List.setIfInBounds_toArray, List.set_cons_zero, List.set_cons_succ]); refine row_wr_ rfl 30 (.tmp 2) (.tmp 26) rfl rfl w.heap.size rfl (c' := #[.slice A0' R.length c0', .slice A1' T.length c1', .slice A2' N.length c2']) rfl HV.out.br infoS rfl (by simp [Value.oneCell']) ?_; intro wE hwE hgE; have BE := Aside0.mk hwE; have HG := Aside0.mk hgE; clear hwE hgE))
     refine bodyPost_ret (results_cell_row rfl _ _ w.heap.size 30 #[.slice A0' R.length c0', .slice A1' T.length c1', .slice A2' N.length c2'] (0, 0) _ rfl BE.out Tryd.underlying30 rfl (by kernel_rfl)) rfl ?_
     have hne : ∀ (k : Nat), (k ≠ gs ∧ w.heap.size + 2 ≤ k) → k < W3.heap.size → wE.heap[k]? = W3.heap[k]? := fun k hk hl => HG.out.block k hl (by intro he; injection he with he; omega)
     exact ⟨_, _, _, rfl, Kd.R_lower (Kd.R_mono (Kd.R_step HV.out.r0 hne) fun k hk => trivial) (by omega), Kd.N_lower (Kd.N_mono (Kd.N_step HV.out.n1 hne) fun k hk => trivial) (by omega), Kd.R_lower (Kd.R_mono (Kd.R_step HV.out.r2 hne) fun k hk => trivial) (by omega), pw_below_grown HV.out.hB _ HV.out.hB.size HG.out (fun k hk => by injection hk with hk; omega)⟩
end Go.Proofs.YtkcocomehhlpmaaDoor.Ds
