/- markAskedS writes numbers into a guard's answers: walked by hand; the marks read again; answers compared. -/
import Derived.Test.YtpbclogjoangfaaFnExactGuardGd0
import Derived.Test.YtpbclogjoangfaaFnExactGuardQ7
import Derived.Test.YtpbclogjoangfaaFnExactGuardQ8
namespace Go.Proofs.Ytpbclogjoangfaa.Gd
open Go.RowKit Go.Proofs.YtpbclogjoangfaaW.PrintWords Go.Proofs.YtpbclogjoangfaaW.PrintLast Go.Proofs.YtpbclogjoangfaaW.PrintMore Go.Proofs.Ytpbclogjoangfaa.Q Go.Proofs.Ytpbclogjoangfaa.Pu Go.Proofs.Ytpbclogjoangfaa.Mk Go.Proofs.Ytpbclogjoangfaa.Lw
set_option linter.unusedVariables false
set_option linter.unusedSimpArgs false
section
variable {w0 w : World} {P : Nat → Prop} {v0 v1 v2 : Value} {l0 l2 : List Int} {l1 : List S35} {a : Int}
theorem mark0 (hB : Below w0.heap.size w0 w) (h : St w0.heap.size w P v0 v1 v2 l0 l1 l2) (ha : 0 ≤ a) (hl : a + l0.length ≤ 9223372036854775807) :
  Calls Try.prog 38 #[v0, .int .i64 a] w fun e w' => e = .returned (.int .i64 (a + l0.length)) ∧ St w0.heap.size w' P v0 v1 v2 (upTo a l0.length) l1 l2 ∧ Below w0.heap.size w0 w' ∧ Kept w w' P := by
 obtain ⟨A0, c0, A1, c1, A2, c2, rfl, rfl, rfl⟩ := h.slices
 obtain ⟨k, hk⟩ := (markIntS_tells l0 a ha hl).rounds
 refine (laws_markIntS.calls k (fun k => some k = (Value.slice A0 l0.length c0).ownBlock) (.slice A0 l0.length c0) l0 a _ _ w0 _ hB (Kd.R_tight rfl h.r0) hk).mono ?_
 rintro e w1 ⟨rfl, hr, hb, hkp⟩
 exact ⟨rfl, ⟨Kd.R_reok rfl hr (fun k e => h.r0.1 k e), Kd.S_kept h.s1 hkp (fun k hk hs => hk.2.1 hs), Kd.R_kept h.r2 hkp (fun k hk hs => hk.2 hs)⟩, hb, hkp.mono (fun k hs => (h.r0.1 k hs.symm).1)⟩
theorem mark2 (hB : Below w0.heap.size w0 w) (h : St w0.heap.size w P v0 v1 v2 l0 l1 l2) (ha : 0 ≤ a) (hl : a + l2.length ≤ 9223372036854775807) :
  Calls Try.prog 38 #[v2, .int .i64 a] w fun e w' => e = .returned (.int .i64 (a + l2.length)) ∧ St w0.heap.size w' P v0 v1 v2 l0 l1 (upTo a l2.length) ∧ Below w0.heap.size w0 w' ∧ Kept w w' P := by
 obtain ⟨A0, c0, A1, c1, A2, c2, rfl, rfl, rfl⟩ := h.slices
 obtain ⟨k, hk⟩ := (markIntS_tells l2 a ha hl).rounds
 refine (laws_markIntS.calls k (fun k => some k = (Value.slice A2 l2.length c2).ownBlock) (.slice A2 l2.length c2) l2 a _ _ w0 _ hB (Kd.R_tight rfl h.r2) hk).mono ?_
 rintro e w1 ⟨rfl, hr, hb, hkp⟩
 exact ⟨rfl, ⟨Kd.R_kept h.r0 hkp (fun k hk hs => hk.2 hs), Kd.S_kept h.s1 hkp (fun k hk hs => hk.2.2 hs), Kd.R_reok rfl hr (fun k e => h.r2.1 k e)⟩, hb, hkp.mono (fun k hs => (h.r2.1 k hs.symm).1)⟩
theorem mark1 (hB : Below w0.heap.size w0 w) (h : St w0.heap.size w P v0 v1 v2 l0 l1 l2) (ha : 0 ≤ a) (hl : l1.length ≤ 1048576) (ha2 : a + szT l1 ≤ 2305843009213693952) :
  Calls Try.prog 76 #[v1, .int .i64 a] w fun e w' => e = .returned (.int .i64 (a + szT l1)) ∧ St w0.heap.size w' P v0 v1 v2 l0 (mkT a l1) l2 ∧ Below w0.heap.size w0 w' ∧ Kept w w' P := by
 refine (markTrainS_calls w0 w hB _ v1 l1 a h.s1 ha hl ha2).mono ?_
 rintro e w1 ⟨rfl, hs, hb, hkp⟩
 exact ⟨rfl, ⟨Kd.R_reok rfl (Kd.R_kept (Kd.R_tight rfl h.r0) hkp (fun k hk hs => hs.2.1 hk)) (fun k e => h.r0.1 k e), hs, Kd.R_reok rfl (Kd.R_kept (Kd.R_tight rfl h.r2) hkp (fun k hk hs => hs.2.2 hk)) (fun k e => h.r2.1 k e)⟩, hb, hkp.mono (fun k hs => hs.1)⟩
end
theorem _root_.Go.Proofs.Ytpbclogjoangfaa.Mk.St.step {base : Nat} {w w' : World} {P : Nat → Prop} {v0 v1 v2 : Value} {l0 l2 : List Int} {l1 : List S35} (h : St base w P v0 v1 v2 l0 l1 l2) (hm : ∀ k, P k → k < w.heap.size → w'.heap[k]? = w.heap[k]?) : St base w' P v0 v1 v2 l0 l1 l2 :=
 ⟨Kd.R_step h.r0 (fun k hk hl => hm k hk.1 hl), Kd.S_step h.s1 (fun k hk hl => hm k hk.1 hl), Kd.R_step h.r2 (fun k hk hl => hm k hk.1 hl)⟩
def one (x : AT) : Int := 1 + x.f1.f0.length + szT x.f1.f1 + x.f1.f2.length
def mk1 (a : Int) (x : AT) : AT := ⟨a, ⟨upTo (a + 1) x.f1.f0.length, mkT (a + 1 + x.f1.f0.length) x.f1.f1, upTo (a + 1 + x.f1.f0.length + szT x.f1.f1) x.f1.f2.length⟩⟩
def szA : List AT → Int
 | [] => 0
 | x :: r => one x + szA r
def mkA : Int → List AT → List AT
 | _, [] => []
 | a, x :: r => mk1 a x :: mkA (a + one x) r
theorem one_pos (x : AT) : 1 ≤ one x := by have := szT_pos x.f1.f1; unfold one; omega
theorem szA_pos : ∀ l, 0 ≤ szA l
 | [] => by simp [szA]
 | x :: r => by have := szA_pos r; have := one_pos x; simp only [szA]; omega
theorem mkA_len : ∀ (l : List AT) (a : Int), (mkA a l).length = l.length
 | [], _ => rfl
 | x :: r, a => by simp [mkA, mkA_len r]
theorem szA_append : ∀ (l m : List AT), szA (l ++ m) = szA l + szA m
 | [], m => by simp [szA]
 | x :: r, m => by simp only [List.cons_append, szA, szA_append r m]; omega
theorem mkA_append : ∀ (l m : List AT) (a : Int), mkA a (l ++ m) = mkA a l ++ mkA (a + szA l) m
 | [], m, a => by simp [mkA, szA]
 | x :: r, m, a => by simp only [List.cons_append, mkA, szA, mkA_append r m]; rw [show a + one x + szA r = a + (one x + szA r) by omega]
abbrev zA : AT := z33
def aAt (a : Int) (l : List AT) (i : Nat) : List AT := mkA a (l.take i) ++ l.drop i
theorem aAt_len (a : Int) (l : List AT) (i : Nat) (h : i ≤ l.length) : (aAt a l i).length = l.length := by simp [aAt, mkA_len]; omega
theorem aAt_getD (a : Int) (l : List AT) (i : Nat) (h : i < l.length) : (aAt a l i).getD i zA = l.getD i zA := by
 unfold aAt
 rw [List.getD_eq_getElem?_getD, List.getElem?_append_right (by simp [mkA_len]; omega), List.getElem?_drop, mkA_len, List.length_take, Nat.min_eq_left (by omega)]
 simp [List.getD]
theorem aAt_succ (a : Int) (l : List AT) (i : Nat) (h : i < l.length) : (aAt a l i).set i (mk1 (a + szA (l.take i)) (l.getD i zA)) = aAt a l (i + 1) := by
 have e : l[i] = l.getD i zA := by rw [List.getD_eq_getElem?_getD, List.getElem?_eq_getElem h]; rfl
 unfold aAt
 rw [List.set_append_right _ _ (by simp [mkA_len]; omega), mkA_len, List.length_take, Nat.min_eq_left (by omega), Nat.sub_self, List.drop_eq_getElem_cons h, List.set_cons_zero, List.take_succ_eq_append_getElem h, mkA_append, e]
 simp [mkA, List.append_assoc]
theorem szA_succ (l : List AT) (i : Nat) (h : i < l.length) : szA (l.take (i + 1)) = szA (l.take i) + one (l.getD i zA) := by
 have e : l[i] = l.getD i zA := by rw [List.getD_eq_getElem?_getD, List.getElem?_eq_getElem h]; rfl
 rw [List.take_succ_eq_append_getElem h, szA_append, e]
 simp only [szA]; omega
theorem szA_le (l : List AT) (i : Nat) : szA (l.take i) ≤ szA l := by
 have := szA_append (l.take i) (l.drop i)
 rw [List.take_append_drop] at this
 have := szA_pos (l.drop i)
 omega
theorem mkA_getD (a : Int) (l : List AT) (i : Nat) (h : i < l.length) : (mkA a l).getD i zA = mk1 (a + szA (l.take i)) (l.getD i zA) := by
 have e := mkA_append (l.take i) (l.drop i) a
 rw [List.take_append_drop] at e
 rw [e, List.getD_eq_getElem?_getD, List.getElem?_append_right (by rw [mkA_len, List.length_take]; omega), mkA_len, List.length_take, Nat.min_eq_left (by omega), Nat.sub_self, drop_cons zA h]
 rfl
set_option maxHeartbeats 2000000 in
set_option maxRecDepth 100000 in
theorem markAskedS_calls (w0 w : World) (hB : Below w0.heap.size w0 w) (P : Nat → Prop) (v : Value) (l : List AT) (a : Int) (h : Kd.S kA 33 w w0.heap.size P v l) (ha : 0 ≤ a) (hl : l.length ≤ 1048576) (hT : ∀ x ∈ l, x.f1.f1.length ≤ 1048576)
  (ha2 : a + szA l ≤ 2305843009213693952) :
  Calls Try.prog 52 #[v, .int .i64 a] w fun e w' => e = .returned (.int .i64 (a + szA l)) ∧ Kd.S kA 33 w' w0.heap.size P v (mkA a l) ∧ Below w0.heap.size w0 w' ∧ Kept w w' P := by
 have hu := Try.underlying33
 have hu26 := Try.underlying26
 obtain ⟨A, c, hv⟩ := Kd.S_slice h
 have HB := Aside0.mk hB
 have HS := Aside0.mk (show Kd.S kA 33 w w0.heap.size P (.slice A l.length c) (aAt a l 0) from by rw [← hv]; simpa [aAt, mkA] using h)
 have HTT := Aside0.mk hT
 clear h hB hT
 subst hv
 go_enter Try.func52, Try.ntmps52
 go_wp2
 go_loopw [1, 5] (fun x1 x5 wr => ∃ i : Nat, i ≤ l.length ∧ x5 = .int .i64 i ∧ x1 = .int .i64 (a + szA (l.take i)) ∧ Aside0 (Kd.S kA 33 wr w0.heap.size P (.slice A l.length c) (aAt a l i)) ∧ Aside0 (Below w0.heap.size w0 wr) ∧ Aside0 (Kept w wr P)) (fun _ x5 _ => l.length - (intOf x5).toNat)
 case atStart => exact ⟨0, Nat.zero_le _, rfl, by simp [szA], HS, HB, ⟨Kept.refl _ _⟩⟩
 case round =>
  clear HS HB
  obtain ⟨i, hi, rfl, rfl, HS, HB, HK⟩ := hrel
  have hsl := szA_le l i
  have hsp := szA_pos (l.take i)
  by_cases hlt : i < l.length
  ·have hs1 := szA_succ l i hlt
   have hsl1 := szA_le l (i + 1)
   have hlen := aAt_len a l i hi
   obtain ⟨g, cap, hv, hgb, hgl, cells, hcells⟩ := Kd.S_form HS.out (by omega)
   injection hv with hA hn hc
   subst hA hc
   clear hn
   have hSi := HS.out
   obtain ⟨oki, cs, hcl, hM, hcc, hfr, hoki, hH⟩ := Kd.S_elem hSi zA (i : Int) (by omega) (by omega)
   obtain ⟨v0, v1, v2, rfl, hst⟩ := hM
   rw [Int.toNat_natCast, aAt_getD a l i hlt] at hst hcc
   have hmem : l.getD i zA ∈ l := by rw [List.getD_eq_getElem?_getD, List.getElem?_eq_getElem hlt]; exact List.getElem_mem hlt
   have hT1 := HTT.out _ hmem
   clear hcells hmem
   have HX := Aside0.mk (aAt_succ a l i hlt)
   have hx0 := aAt_getD a l i hlt
   generalize hx : l.getD i zA = x at hst hcc hs1 hT1 HX hx0
   clear hx
   have hone : one x = 1 + x.f1.f0.length + szT x.f1.f1 + x.f1.f2.length := rfl
   have hzT := szT_pos x.f1.f1
   have hPg : ∀ k, (Value.slice (some ⟨g, 0, none⟩) l.length c).ownBlock = some k → P k := fun k hk => (Kd.S_R HS.out).1 k hk
   have HPg := Aside0.mk (hPg g rfl)
   have HHH := Aside0.mk hH
   have HOK := Aside0.mk hoki
   have HCC := Aside0.mk hcc
   have hc0 : wr.cell? ⟨g, i * 4, none⟩ = some (.int .i64 x.f0) := hcc 0 _ rfl
   have hf0 : wr.frozen? ⟨g, i * 4, none⟩ = false := hfr 0
   have hc1 : wr.cell? ⟨g, i * 4 + 1, none⟩ = some v0 := hcc 1 _ rfl
   have hc2 : wr.cell? ⟨g, i * 4 + 2, none⟩ = some v1 := hcc 2 _ rfl
   have hc3 : wr.cell? ⟨g, i * 4 + 3, none⟩ = some v2 := hcc 3 _ rfl
   have hgo : ¬ oki g := fun h => (hoki g h).2 rfl
   have hst1 : St w0.heap.size (wr.setCell ⟨g, i * 4, none⟩ (.int .i64 (a + szA (l.take i)))) oki v0 v1 v2 x.f1.f0 x.f1.f1 x.f1.f2 := hst.step (fun k hk _ => Below.heap_setCell wr ⟨g, i * 4, none⟩ _ k (fun e => by have e : k = g := e; rw [e] at hk; exact hgo hk))
   have HST := Aside0.mk hst1
   have HH1 := Aside0.mk (Kd.H_seg HHH.out (by omega) (by omega) (seg := [.int .i64 (a + szA (l.take i))]) (j := 0) (by show 0 + 1 ≤ 4; omega) (by simp [Value.oneCell'])).1
   have HB1 := Aside0.mk (show Below w0.heap.size w0 (wr.setCell ⟨g, i * 4, none⟩ (.int .i64 (a + szA (l.take i)))) from HB.out.setCell hgb _)
   have HK1 := Aside0.mk (show Kept w (wr.setCell ⟨g, i * 4, none⟩ (.int .i64 (a + szA (l.take i)))) P from HK.out.setCell (.inl HPg.out) _)
   have d1 : (wr.setCell ⟨g, i * 4, none⟩ (.int .i64 (a + szA (l.take i)))).cell? ⟨g, i * 4 + 1, none⟩ = some v0 := (World.cell?_setCell_other _ _ _ _ (by simp)).trans hc1
   have d2 : (wr.setCell ⟨g, i * 4, none⟩ (.int .i64 (a + szA (l.take i)))).cell? ⟨g, i * 4 + 2, none⟩ = some v1 := (World.cell?_setCell_other _ _ _ _ (by simp)).trans hc2
   have d3 : (wr.setCell ⟨g, i * 4, none⟩ (.int .i64 (a + szA (l.take i)))).cell? ⟨g, i * 4 + 3, none⟩ = some v2 := (World.cell?_setCell_other _ _ _ _ (by simp)).trans hc3
   have hsz : g < (wr.setCell ⟨g, i * 4, none⟩ (.int .i64 (a + szA (l.take i)))).heap.size := by simpa using hgl
   have D2 := Aside0.mk d2
   have D3 := Aside0.mk d3
   have HGO := Aside0.mk hgo
   have Hs1 := Aside0.mk hs1
   have Hone := Aside0.mk hone
   clear hst hst1 hcc hfr hoki hH hSi hPg hc1 hc2 hc3 d2 d3 hgo hcl hlen hs1 hone
   go_wp2_with (fail)
   refine (mark0 HB1.out HST.out (by omega) (by have := Hs1.out; have := Hone.out; omega)).mono ?_
   rintro e w2 ⟨rfl, hst2, hb2, hk2⟩
   have HST2 := Aside0.mk hst2
   have HB2 := Aside0.mk hb2
   have HH2 := Aside0.mk (Kd.H_step HH1.out (fun k _ hno hlt => hk2.2 k hlt hno))
   have HK2 := Aside0.mk (HK1.out.then_ hk2 (fun k hk => .inl (HOK.out k hk).1))
   have e2 : w2.cell? ⟨g, i * 4 + 2, none⟩ = some v1 := cell_kept D2.out hk2 HGO.out
   have E3 := Aside0.mk (cell_kept D3.out hk2 HGO.out)
   clear hst2 hb2 hk2 d1 D2 D3 HST HH1 HB1 HK1
   go_wp2_with (fail)
   refine (mark1 HB2.out HST2.out (by omega) hT1 (by have := Hs1.out; have := Hone.out; omega)).mono ?_
   rintro e w3 ⟨rfl, hst3, hb3, hk3⟩
   have HST3 := Aside0.mk hst3
   have HB3 := Aside0.mk hb3
   have HH3 := Aside0.mk (Kd.H_step HH2.out (fun k _ hno hlt => hk3.2 k hlt hno))
   have HK3 := Aside0.mk (HK2.out.then_ hk3 (fun k hk => .inl (HOK.out k hk).1))
   have e3 : w3.cell? ⟨g, i * 4 + 3, none⟩ = some v2 := cell_kept E3.out hk3 HGO.out
   clear hst3 hb3 hk3 e2 E3 HST2 HH2 HB2 HK2
   go_wp2_with (fail)
   refine (mark2 HB3.out HST3.out (by omega) (by have := Hs1.out; have := Hone.out; omega)).mono ?_
   rintro e w4 ⟨rfl, hst4, hb4, hk4⟩
   have HST4 := Aside0.mk hst4
   have HB4 := Aside0.mk hb4
   have HH4 := Aside0.mk (Kd.H_step HH3.out (fun k _ hno hlt => hk4.2 k hlt hno))
   have HK4 := Aside0.mk (HK3.out.then_ hk4 (fun k hk => .inl (HOK.out k hk).1))
   clear hst4 hb4 hk4 e3 HST3 HH3 HB3 HK3
   go_wp2_with (fail)
   go_roundw
   case measure => simp [intOf]; omega
   case rel =>
    refine ⟨i + 1, hlt, by go_num, ?_, ⟨?_⟩, HB4, HK4⟩
    ·rw [Hs1.out, Hone.out]; congr 1; omega
    ·have hM4 : kA.M w4 w0.heap.size oki (mk1 (a + szA (l.take i)) x) [.int .i64 (a + szA (l.take i)), v0, v1, v2] := ⟨v0, v1, v2, rfl, HST4.out⟩
     have hS4 := Kd.H_back HH4.out hM4 (fun _ hk => hk)
     rw [Int.toNat_natCast, HX.out] at hS4
     exact hS4
  ·have hil : i = l.length := by omega
   have HIL := Aside0.mk hil
   clear hil
   go_wp2_with (fail)
   go_ret
   have e := HIL.out
   subst e
   refine ⟨?_, ?_, HB.out, HK.out⟩
   ·simp
   ·have := HS.out
    rwa [aAt, List.take_length, List.drop_length, List.append_nil] at this
theorem rd_A (xs : List AT) (i : Nat) : rd_T33 xs (i : Int) = xs.getD i zA := by unfold rd_T33; simp
theorem heldAskedS_loop (l : List AT) (a : Int) (h0 : 0 ≤ a) (hl : l.length ≤ 1048576) (hT : ∀ x ∈ l, x.f1.f1.length ≤ 1048576) (ha : a + szA l ≤ 2305843009213693952) : ∀ (d i : Nat), i + d = l.length →
  Ev (fun k => laws_heldAskedS.l0 k (mkA a l) (a + szA (l.take i)) (i : Int)) (a + szA l)
 | 0, i, h => by
  refine Ev.one (fun k => ?_)
  simp only [laws_heldAskedS.l0]; rw [if_neg (by rw [mkA_len]; omega), List.take_of_length_le (by omega)]
 | d + 1, i, h => by
  have hi : i < l.length := by omega
  have h1 := szA_pos (l.take i)
  have h2 := szA_succ l i hi
  have h3 := szA_le l (i + 1)
  have hm : l.getD i zA ∈ l := by rw [List.getD_eq_getElem?_getD, List.getElem?_eq_getElem hi]; exact List.getElem_mem hi
  have hTx := hT _ hm
  have hr := mkA_getD a l i hi
  have ih := heldAskedS_loop l a h0 hl hT ha d (i + 1) (by omega)
  generalize hx : l.getD i zA = x at *
  have hz := szT_pos x.f1.f1
  have ho : one x = 1 + x.f1.f0.length + szT x.f1.f1 + x.f1.f2.length := rfl
  generalize hK : a + szA (l.take i) = K at *
  refine Ev.step (f := fun k => (laws_heldIntS.f k (upTo (K + 1) x.f1.f0.length) (K + 1)).bind fun t => if t < 0 then some (-1) else (laws_heldTrainS.f k (mkT (K + 1 + x.f1.f0.length) x.f1.f1) t).bind fun u => if u < 0 then some (-1) else (laws_heldIntS.f k (upTo (K + 1 + x.f1.f0.length + szT x.f1.f1) x.f1.f2.length) u).bind fun v => if v < 0 then some (-1) else laws_heldAskedS.l0 k (mkA a l) v ((i + 1 : Nat) : Int)) (fun k => ?_) ?_
  ·simp only [laws_heldAskedS.l0]
   rw [if_pos (by rw [mkA_len]; omega), if_pos (by omega), rd_A, hr, wsucc hi (by omega), w64 (x := K + 1) (by omega) (by omega)]
   simp only [mk1, if_true]
  ·refine Ev.bind (heldIntS_tells _ _ (by omega) (by omega)) ?_
   simp only [show ¬ (K + 1 + (x.f1.f0.length : Int) < 0) by omega, if_false]
   refine Ev.bind (heldTrainS_tells _ _ (by omega) hTx (by omega)) ?_
   simp only [show ¬ (K + 1 + (x.f1.f0.length : Int) + szT x.f1.f1 < 0) by omega, if_false]
   refine Ev.bind (heldIntS_tells _ _ (by omega) (by omega)) ?_
   simp only [show ¬ (K + 1 + (x.f1.f0.length : Int) + szT x.f1.f1 + (x.f1.f2.length : Int) < 0) by omega, if_false]
   rw [show K + 1 + (x.f1.f0.length : Int) + szT x.f1.f1 + (x.f1.f2.length : Int) = a + szA (l.take (i + 1)) by omega]
   exact ih
theorem heldAskedS_tells (l : List AT) (a : Int) (h0 : 0 ≤ a) (hl : l.length ≤ 1048576) (hT : ∀ x ∈ l, x.f1.f1.length ≤ 1048576) (ha : a + szA l ≤ 2305843009213693952) : Ev (fun k => laws_heldAskedS.f k (mkA a l) a) (a + szA l) := by
 have e := heldAskedS_loop l a h0 hl hT ha l.length 0 (by omega)
 simp only [List.take_zero, szA, Int.add_zero] at e
 exact Ev.congr (fun k => by unfold laws_heldAskedS.f; rfl) e
/-- An answer as small as the exact laws want it. -/
def SmallA (x : AT) : Prop := x.f1.f0.length ≤ 1048576 ∧ x.f1.f1.length ≤ 1048576 ∧ x.f1.f2.length ≤ 1048576 ∧ ∀ t ∈ x.f1.f1, t.f1.length ≤ 1048576
theorem eqAskedS_loop (l : List AT) (hl : l.length ≤ 1048576) (hs : ∀ x ∈ l, SmallA x) : ∀ (d i : Nat), i + d = l.length → Ev (fun k => laws_eqAskedS.l0 k l l (i : Int)) true
 | 0, i, h => by
  refine Ev.one (fun k => ?_)
  simp only [laws_eqAskedS.l0]; rw [if_neg (by omega)]
 | d + 1, i, h => by
  have hi : i < l.length := by omega
  have hm : l.getD i zA ∈ l := by rw [List.getD_eq_getElem?_getD, List.getElem?_eq_getElem hi]; exact List.getElem_mem hi
  obtain ⟨s0, s1, s2, s3⟩ := hs _ hm
  refine Ev.step (f := fun k => (laws_eqAsked.f k (l.getD i zA).f0 (l.getD i zA).f1.f0 (l.getD i zA).f1.f1 (l.getD i zA).f1.f2 (l.getD i zA).f0 (l.getD i zA).f1.f0 (l.getD i zA).f1.f1 (l.getD i zA).f1.f2).bind fun t => if t = true then laws_eqAskedS.l0 k l l ((i + 1 : Nat) : Int) else some false) (fun k => ?_) ?_
  ·simp only [laws_eqAskedS.l0]
   rw [if_pos (by omega), if_pos (by omega), if_pos (by omega), wsucc hi (by omega)]
   simp only [rd_A]
  ·refine Ev.bind (a := true) ?_ (Ev.congr (fun k => by rw [if_pos rfl]) (eqAskedS_loop l hl hs d (i + 1) (by omega)))
   unfold laws_eqAsked.f
   simp only [if_true]
   refine Ev.bind (eqState_tells _ _ _ _ _ _ (by omega) (by omega) (by omega) (fun t ht => Nat.le_trans (s3 t ht) (by decide))) ?_
   simp only [and_self, decide_true, if_true]
   exact Ev.now _
theorem eqAskedS_same (l : List AT) (hl : l.length ≤ 1048576) (hs : ∀ x ∈ l, SmallA x) : Ev (fun k => laws_eqAskedS.f k l l) true := by
 refine Ev.congr (fun k => ?_) (eqAskedS_loop l hl hs l.length 0 (by omega))
 unfold laws_eqAskedS.f
 rw [if_pos rfl]
 rfl
theorem one_bound (x : AT) (h : SmallA x) : one x ≤ 1099513724928 + 2097153 := by
 obtain ⟨s0, s1, s2, s3⟩ := h
 have := szT_bound x.f1.f1 s3
 unfold one
 omega
theorem szA_bound : ∀ (l : List AT), (∀ x ∈ l, SmallA x) → szA l ≤ 1099515822081 * l.length
 | [], _ => by simp [szA]
 | x :: r, h => by
  have h1 := szA_bound r (fun y hy => h y (by simp [hy]))
  have h2 := one_bound x (h x (by simp))
  simp only [szA, List.length_cons]
  omega
end Go.Proofs.Ytpbclogjoangfaa.Gd
