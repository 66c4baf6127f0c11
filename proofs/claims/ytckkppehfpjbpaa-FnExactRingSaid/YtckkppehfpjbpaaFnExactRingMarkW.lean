/- markTrainS and markState write numbers into a state of the caller's own: walked by hand. -/
import Derived.Test.YtckkppehfpjbpaaFnExactRingMark
import Derived.Outline
namespace Go.Proofs.Ytckkppehfpjbpaa.Mk
open Go.RowKit Go.Proofs.YtckkppehfpjbpaaW.PrintWords Go.Proofs.YtckkppehfpjbpaaW.PrintLast Go.Proofs.YtckkppehfpjbpaaW.PrintMore Go.Proofs.Ytckkppehfpjbpaa.Q Go.Proofs.Ytckkppehfpjbpaa.Pu
set_option linter.unusedVariables false
set_option linter.unusedSimpArgs false

theorem at_succ1 (a : Int) (l : List S40) (i : Nat) (h : i < l.length) : (at_ a l i).set i ⟨a + szT (l.take i), upTo (a + szT (l.take i) + 1) (l.getD i z40).f1.length, a + szT (l.take i) + 1 + (l.getD i z40).f1.length⟩ = at_ a l (i + 1) := by
 have := at_succ a l i h z40
 rwa [List.set_set] at this
theorem frozen_kept {W W2 : World} {S : Nat → Prop} {a : Addr} (hlt : a.block < W.heap.size) (hk : Kept W W2 S) (hne : ¬ S a.block) : W2.frozen? a = W.frozen? a := by
 unfold World.frozen?
 rw [hk.2 _ hlt hne]

def MarkPost (w0 w : World) (P : Nat → Prop) (v : Value) (l : List S40) (a : Int) (e : Ending) (w' : World) : Prop :=
 e = .returned (.int .i64 (a + szT l)) ∧ Kd.S k40 40 w' w0.heap.size P v (mkT a l) ∧ Below w0.heap.size w0 w' ∧ Kept w w' P

set_option maxHeartbeats 1000000 in
set_option maxRecDepth 100000 in
theorem markTrainS_calls (w0 w : World) (hB : Below w0.heap.size w0 w) (P : Nat → Prop) (v : Value) (l : List S40) (a : Int) (h : Kd.S k40 40 w w0.heap.size P v l) (ha : 0 ≤ a) (hl : l.length ≤ 1048576)
  (ha2 : a + szT l ≤ 2305843009213693952) :
  Calls Try.prog 30 #[v, .int .i64 a] w (MarkPost w0 w P v l a) := by
 have hu := Try.underlying40
 obtain ⟨A, c, hv⟩ := Kd.S_slice h
 have HB := Aside0.mk hB
 have HS := Aside0.mk (show Kd.S k40 40 w w0.heap.size P (.slice A l.length c) (at_ a l 0) from by rw [← hv]; simpa [at_, mkT] using h)
 clear h hB
 subst hv
 go_enter Try.func30, Try.ntmps30
 go_wp2
 go_loopw [1, 5] (fun x1 x5 wr => ∃ i : Nat, i ≤ l.length ∧ x5 = .int .i64 i ∧ x1 = .int .i64 (a + szT (l.take i)) ∧ Aside0 (Kd.S k40 40 wr w0.heap.size P (.slice A l.length c) (at_ a l i)) ∧ Aside0 (Below w0.heap.size w0 wr) ∧ Aside0 (Kept w wr P)) (fun _ x5 _ => l.length - (intOf x5).toNat)
 case atStart => exact ⟨0, Nat.zero_le _, rfl, by simp [szT], HS, HB, ⟨Kept.refl _ _⟩⟩
 case round =>
  clear HS HB
  obtain ⟨i, hi, rfl, rfl, HS, HB, HK⟩ := hrel
  have hsl := sz_le l i
  have hsp := szT_pos (l.take i)
  by_cases hlt : i < l.length
  ·have hs1 := sz_succ l i hlt
   have hsl1 := sz_le l (i + 1)
   have hlen := at_len a l i hi
   obtain ⟨g, cap, hv, hgb, hgl, cells, hcells⟩ := Kd.S_form HS.out (by omega)
   injection hv with hA hn hc
   subst hA hc
   clear hn
   have hSi := HS.out
   obtain ⟨oki, cs, hcl, hM, hcc, hfr, hoki, hH⟩ := Kd.S_elem hSi z40 (i : Int) (by omega) (by omega)
   obtain ⟨v1, rfl, g1⟩ := k40_openM hM
   obtain ⟨A1, c1, hv1⟩ := Kd.R_slice g1
   rw [Int.toNat_natCast, at_getD a l i hlt] at hM hcc g1 hv1
   clear hcells
   generalize hT : l.getD i z40 = t at hM hcc g1 hv1 hs1
   have HT := Aside0.mk hT
   clear hT
   have HHH := Aside0.mk hH
   have HMM := Aside0.mk hM
   have HOK := Aside0.mk hoki
   have HCC := Aside0.mk hcc
   have HFR := Aside0.mk hfr
   have HO1 := Aside0.mk g1.1
   have hc0 : wr.cell? ⟨g, i * 3, none⟩ = some (.int .i64 t.f0) := hcc 0 _ rfl
   have hf0 : wr.frozen? ⟨g, i * 3, none⟩ = false := hfr 0
   have hf2 : wr.frozen? ⟨g, i * 3 + 2, none⟩ = false := hfr 2
   have hPg : ∀ k, (Value.slice (some ⟨g, 0, none⟩) l.length c).ownBlock = some k → P k := fun k hk => (Kd.S_R HS.out).1 k hk
   clear hH hM hoki hcc hfr hSi
   subst hv1
   have Hs1 := Aside0.mk hs1
   have hc1 : wr.cell? ⟨g, i * 3 + 1, none⟩ = some (.slice A1 t.f1.length c1) := HCC.out 1 _ rfl
   have hc2 : wr.cell? ⟨g, i * 3 + 2, none⟩ = some (.int .i64 t.f2) := HCC.out 2 _ rfl
   have hok1 : ∀ k, (Value.slice A1 t.f1.length c1).ownBlock = some k → oki k := fun k hk => g1.1 k hk
   have HG := Aside0.mk (show Kd.R (Kd.int .i64) 3 (wr.setCell ⟨g, i * 3, none⟩ (.int .i64 (a + szT (l.take i)))) w0.heap.size (fun k => some k = (Value.slice A1 t.f1.length c1).ownBlock) (.slice A1 t.f1.length c1) t.f1 from Kd.R_tight rfl (Kd.R_far (p := ⟨g, i * 3, none⟩) g1 (fun k hk => (HOK.out k hk).2) _))
   have HH1 := Aside0.mk (Kd.H_seg HHH.out (by omega) (by omega) (seg := [.int .i64 (a + szT (l.take i))]) (j := 0) (by show 0 + 1 ≤ 3; omega) (by simp [Value.oneCell'])).1
   have HB1 := Aside0.mk (show Below w0.heap.size w0 (wr.setCell ⟨g, i * 3, none⟩ (.int .i64 (a + szT (l.take i)))) from HB.out.setCell hgb _)
   have HK1 := Aside0.mk (show Kept w (wr.setCell ⟨g, i * 3, none⟩ (.int .i64 (a + szT (l.take i)))) P from HK.out.setCell (.inl (hPg g rfl)) _)
   obtain ⟨kk, hkk⟩ := (markIntS_tells t.f1 (a + szT (l.take i) + 1) (by omega) (by omega)).rounds
   have HKK := Aside0.mk hkk
   clear hs1 hlen hcl hkk g1 hok1
   go_wp2_with (fail)
   refine (laws_markIntS.calls kk (fun k => some k = (Value.slice A1 t.f1.length c1).ownBlock) (.slice A1 t.f1.length c1) t.f1 (a + szT (l.take i) + 1) _ _ w0 _ HB1.out HG.out HKK.out).mono ?_
   rintro e w2 ⟨rfl, hr2, hb2, hk2⟩
   have hgP : ¬ (fun k => some k = (Value.slice A1 t.f1.length c1).ownBlock) g := fun hk => (HOK.out g (HO1.out g hk.symm)).2 rfl
   have hd2 : w2.cell? ⟨g, i * 3 + 2, none⟩ = some (.int .i64 t.f2) := cell_kept (by go_simp) hk2 hgP
   have hf2 : w2.frozen? ⟨g, i * 3 + 2, none⟩ = false := (frozen_kept (by simpa using hgl) hk2 hgP).trans (by go_simp)
   have HR2 := Aside0.mk hr2
   have HB2 := Aside0.mk hb2
   have HK2 := Aside0.mk hk2
   clear hr2 hb2 hk2
   have hbd : a + szT (l.take i) + 1 + (t.f1.length : Int) + 1 ≤ 2305843009213693952 := by have := Hs1.out; omega
   go_wp2_with (fail)
   go_roundw
   case measure => simp [intOf]; omega
   case rel =>
    refine ⟨i + 1, hlt, by go_num, ?_, ⟨?_⟩, ⟨HB2.out.setCell hgb _⟩, ⟨?_⟩⟩
    ·rw [Hs1.out]; congr 1; omega
    ·have hH2 := Kd.H_step HH1.out (fun k _ hno hlt => HK2.out.2 k hlt (fun e => hno (HO1.out k e.symm)))
     have hH3 := (Kd.H_seg hH2 (by omega) (by omega) (seg := [.int .i64 (a + szT (l.take i) + 1 + t.f1.length)]) (j := 2) (by show 2 + 1 ≤ 3; omega) (by simp [Value.oneCell'])).1
     have hR3 := Kd.R_far (p := ⟨g, i * 3 + 2, none⟩) (Kd.R_reok rfl HR2.out (fun k e => HO1.out k e)) (fun k hk => (HOK.out k hk).2) (.int .i64 (a + szT (l.take i) + 1 + t.f1.length))
     have hM3 := k40_mkM _ _ _ ⟨a + szT (l.take i), upTo (a + szT (l.take i) + 1) t.f1.length, a + szT (l.take i) + 1 + t.f1.length⟩ hR3
     have hS3 := Kd.H_back hH3 hM3 (fun _ hk => hk)
     have e := at_succ1 a l i hlt
     rw [HT.out] at e
     rw [Int.toNat_natCast, e] at hS3
     exact hS3
    ·exact (HK1.out.then_ HK2.out (fun k hk => .inl (HOK.out k (HO1.out k hk.symm)).1)).setCell (.inl (hPg g rfl)) _
  ·have hil : i = l.length := by omega
   have HIL := Aside0.mk hil
   clear hil
   go_wp2_with (fail)
   go_ret
   have e := HIL.out
   subst e
   refine ⟨?_, ?_, HB.out, HK.out⟩
   ·simp
   ·have := HS.out
    rwa [at_, List.take_length, List.drop_length, List.append_nil] at this
/-- A state of the caller's own: its three rows lie apart, in blocks of P. -/
structure St (base : Nat) (w : World) (P : Nat → Prop) (v0 v1 v2 : Value) (l0 : List Int) (l1 : List S40) (l2 : List Int) : Prop where
 r0 : Kd.R (Kd.int .i64) 3 w base (fun k => P k ∧ some k ≠ v2.ownBlock) v0 l0
 s1 : Kd.S k40 40 w base (fun k => P k ∧ some k ≠ v0.ownBlock ∧ some k ≠ v2.ownBlock) v1 l1
 r2 : Kd.R (Kd.int .i64) 3 w base (fun k => P k ∧ some k ≠ v0.ownBlock) v2 l2
def MarkStPost (w0 w : World) (P : Nat → Prop) (v0 v1 v2 : Value) (l0 : List Int) (l1 : List S40) (l2 : List Int) (a : Int) (e : Ending) (w' : World) : Prop :=
 e = .returned (.int .i64 (a + l0.length + szT l1 + l2.length)) ∧ St w0.heap.size w' P v0 v1 v2 (upTo a l0.length) (mkT (a + l0.length) l1) (upTo (a + l0.length + szT l1) l2.length) ∧ Below w0.heap.size w0 w' ∧ Kept w w' P
set_option maxHeartbeats 1000000 in
set_option maxRecDepth 100000 in
theorem markState_calls (w0 w : World) (hB : Below w0.heap.size w0 w) (P : Nat → Prop) (v0 v1 v2 : Value) (l0 : List Int) (l1 : List S40) (l2 : List Int) (a : Int) (h : St w0.heap.size w P v0 v1 v2 l0 l1 l2) (ha : 0 ≤ a) (hl : l1.length ≤ 1048576)
  (ha2 : a + l0.length + szT l1 + l2.length ≤ 2305843009213693952) :
  Calls Try.prog 11 #[.agg #[v0, v1, v2], .int .i64 a] w (MarkStPost w0 w P v0 v1 v2 l0 l1 l2 a) := by
 obtain ⟨h0, h1, h2⟩ := h
 have hz1 := szT_pos l1
 have b0 : ∀ k, v0.ownBlock = some k → k < w.heap.size := Kd.R_lt h0
 have b2 : ∀ k, v2.ownBlock = some k → k < w.heap.size := Kd.R_lt h2
 obtain ⟨A0, c0, e0⟩ := Kd.R_slice h0
 obtain ⟨A1, c1, e1⟩ := Kd.S_slice h1
 obtain ⟨A2, c2, e2⟩ := Kd.R_slice h2
 have H0 := Aside0.mk (Kd.R_alloc (Kd.R_tight rfl h0) (.cells #[v0, v1, v2] 30))
 have H1 := Aside0.mk (Kd.S_alloc (Kd.S_mono (Kd.S_bound h1) (ok' := fun k => (P k ∧ some k ≠ v0.ownBlock ∧ some k ≠ v2.ownBlock) ∧ k < w.heap.size) (fun _ hk => ⟨hk.1, hk.2.2.1⟩)) (.cells #[v0, v1, v2] 30))
 have H2 := Aside0.mk (Kd.R_alloc (Kd.R_tight2 rfl h2) (.cells #[v0, v1, v2] 30))
 have P0 := Aside0.mk (fun k (hk : some k = v0.ownBlock) => h0.1 k hk.symm)
 have P2 := Aside0.mk (fun k (hk : some k = v2.ownBlock) => h2.1 k hk.symm)
 have B0 := Aside0.mk b0
 have B2 := Aside0.mk b2
 have HB := Aside0.mk (hB.alloc hB.size (.cells #[v0, v1, v2] 30))
 have HK := Aside0.mk (Kept.alloc (Kept.refl w P) (.cells #[v0, v1, v2] 30))
 have hbx : (w.alloc (.cells #[v0, v1, v2] 30)).heap[w.heap.size]? = some (.cells #[v0, v1, v2] 30 (0, 0)) := by simpa using heap_alloc_new w (.cells #[v0, v1, v2] 30)
 have HX := Aside0.mk hbx
 clear h0 h1 h2 b0 b2 hB hbx
 subst e0 e1 e2
 obtain ⟨k1, hk1⟩ := (markIntS_tells l0 a ha (by omega)).rounds
 have HK1 := Aside0.mk hk1
 obtain ⟨k2, hk2⟩ := (markIntS_tells l2 (a + l0.length + szT l1) (by omega) (by omega)).rounds
 have HK2 := Aside0.mk hk2
 clear hk1 hk2
 go_enter Try.func11, Try.ntmps11
 go_wp2_with (fail)
 refine (laws_markIntS.calls k1 (fun k => some k = (Value.slice A0 l0.length c0).ownBlock) (.slice A0 l0.length c0) l0 a _ _ w0 _ HB.out H0.out HK1.out).mono ?_
 rintro e w1 ⟨rfl, hr1, hb1, hkp1⟩
 have G0 := Aside0.mk (Kd.R_reok (ok := fun k => some k = (Value.slice A0 l0.length c0).ownBlock) rfl hr1 (fun k e => e.symm))
 have G1 := Aside0.mk (Kd.S_kept H1.out hkp1 (fun k hk hs => hk.1.2.1 hs))
 have G2 := Aside0.mk (Kd.R_kept H2.out hkp1 (fun k hk hs => hk.2.2 hs))
 have GX := Aside0.mk (blk_kept HX.out hkp1 (fun hs => Nat.lt_irrefl _ (B0.out _ hs.symm)))
 have GB := Aside0.mk hb1
 have GK := Aside0.mk (HK.out.then_ hkp1 (fun k hk => .inl (P0.out k hk).1))
 have x1 : w1.cell? ⟨w.heap.size, 1, none⟩ = some (.slice A1 l1.length c1) := (blk_cell GX.out 1).trans rfl
 clear H0 H1 H2 HX HB HK hr1 hb1 hkp1
 go_wp2_with (fail)
 refine (markTrainS_calls w0 _ GB.out _ _ l1 (a + l0.length) G1.out (by omega) hl (by omega)).mono ?_
 rintro e w2 ⟨rfl, hs2, hb2, hkp2⟩
 clear x1
 have H0 := Aside0.mk (Kd.R_kept G0.out hkp2 (fun k hk hs => hs.1.2.1 hk))
 have H1 := Aside0.mk hs2
 have H2 := Aside0.mk (Kd.R_kept G2.out hkp2 (fun k hk hs => hs.1.2.2 hk.1))
 have HX := Aside0.mk (blk_kept GX.out hkp2 (fun hs => Nat.lt_irrefl _ hs.2))
 have HB := Aside0.mk hb2
 have HK := Aside0.mk (GK.out.then_ hkp2 (fun k hk => .inl hk.1.1))
 have x2 : w2.cell? ⟨w.heap.size, 2, none⟩ = some (.slice A2 l2.length c2) := (blk_cell HX.out 2).trans rfl
 clear G0 G1 G2 GX GB GK hs2 hb2 hkp2
 go_wp2_with (fail)
 refine (laws_markIntS.calls k2 (fun k => some k = (Value.slice A2 l2.length c2).ownBlock) (.slice A2 l2.length c2) l2 (a + l0.length + szT l1) _ _ w0 _ HB.out (Kd.R_mono H2.out (fun _ hk => hk.1)) HK2.out).mono ?_
 rintro e w3 ⟨rfl, hr3, hb3, hkp3⟩
 clear x2
 have G0 := Aside0.mk (Kd.R_kept H0.out hkp3 (fun k hk hs => (P0.out k hk).2 hs))
 have G1 := Aside0.mk (Kd.S_kept H1.out hkp3 (fun k hk hs => hk.1.2.2 hs))
 have G2 := Aside0.mk (Kd.R_reok (ok := fun k => P k ∧ some k ≠ (Value.slice A0 l0.length c0).ownBlock) rfl hr3 (fun k e => P2.out k e.symm))
 have GB := Aside0.mk hb3
 have GK := Aside0.mk (HK.out.then_ hkp3 (fun k hk => .inl (P2.out k hk).1))
 clear H0 H1 H2 HX HB HK hr3 hb3 hkp3
 go_wp2_with (fail)
 go_ret
 exact ⟨rfl, ⟨Kd.R_mono G0.out (fun k hk => P0.out k hk), Kd.S_mono G1.out (fun _ hk => hk.1), G2.out⟩, GB.out, GK.out⟩
end Go.Proofs.Ytckkppehfpjbpaa.Mk
