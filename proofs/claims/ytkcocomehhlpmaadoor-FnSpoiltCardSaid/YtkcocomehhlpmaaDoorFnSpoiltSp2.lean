/- The specification's search: what lies in memory; the number of a state. Walked by hand. -/
import Derived.Test.YtkcocomehhlpmaaDoorFnSpoiltSp1
import Derived.Test.YtkcocomehhlpmaaDoorFnSpoiltSr4
import Derived.Test.YtkcocomehhlpmaaDoorFnSpoiltQ7
namespace Go.Proofs.YtkcocomehhlpmaaDoor.Sp
open Go.RowKit Go.Proofs.YtkcocomehhlpmaaDoorW.PrintWords Go.Proofs.YtkcocomehhlpmaaDoorW.PrintLast Go.Proofs.YtkcocomehhlpmaaDoorW.PrintMore Go.Proofs.YtkcocomehhlpmaaDoor.Q Go.Proofs.YtkcocomehhlpmaaDoor.Pu Go.Proofs.YtkcocomehhlpmaaDoor.Sr
attribute [local go_sem] max2_int min2_int max_two min_two max_three min_three max_four min_four
set_option linter.unusedVariables false
set_option linter.unusedSimpArgs false
/-- The lengths of the paths. -/
def lensP (T : List S48) : List Int := (List.range T.length).map (fun i => (lenP T i : Int))
theorem lensP_len (T : List S48) : (lensP T).length = T.length := by simp [lensP]
theorem lensP_get (T : List S48) {i : Nat} (hi : i < T.length) : (lensP T).getD i 0 = (lenP T i : Int) := by simp [lensP, List.getD, hi]
/-- The search at gt, in a world that has come from w0. -/
structure Sq (w0 W : World) (gt gc gm M : Nat) (vp vn : Value) (cc cm : Nat) (T : List S48) (N : List Int) (Cs : List Int) (Ms : List Bool) : Prop where
 blk : W.heap[gt]? = some (.cells #[vp, vn, .slice (some ⟨gc, 0, none⟩) M cc, .slice (some ⟨gm, 0, none⟩) M cm] 94 (0, 0))
 low : Below w0.heap.size w0 W
 gl : w0.heap.size ≤ gt
 pR : Kd.R (Kd.int .i64) 3 W w0.heap.size (fun k => k ≠ gc ∧ k ≠ gm) vp (lensP T)
 nR : Kd.R (Kd.int .i64) 3 W w0.heap.size (fun k => k ≠ gc ∧ k ≠ gm) vn N
 cR : Kd.R (Kd.int .i64) 3 W w0.heap.size (fun k => k = gc) (.slice (some ⟨gc, 0, none⟩) M cc) Cs
 mR : Kd.R Kd.bool 4 W w0.heap.size (fun k => k = gm) (.slice (some ⟨gm, 0, none⟩) M cm) Ms
 cl : Cs.length = M
 ml : Ms.length = M
theorem Sq.below {w0 W W' : World} {gt gc gm M : Nat} {vp vn : Value} {cc cm : Nat} {T : List S48} {N : List Int} {Cs : List Int} {Ms : List Bool} (h : Sq w0 W gt gc gm M vp vn cc cm T N Cs Ms) (hb : Below W.heap.size W W') : Sq w0 W' gt gc gm M vp vn cc cm T N Cs Ms :=
 ⟨blk_below h.blk hb, below_step h.low hb, h.gl, Kd.R_below h.pR hb, Kd.R_below h.nR hb, Kd.R_below h.cR hb, Kd.R_below h.mR hb, h.cl, h.ml⟩
theorem mul_cast (a b c : Nat) : (a : Int) * ((b : Int) + 2) + (c : Int) = ((a * (b + 2) + c : Nat) : Int) := by
 rw [Int.natCast_add, Int.natCast_mul, Int.natCast_add]; rfl
set_option maxHeartbeats 1000000 in
set_option maxRecDepth 100000 in
theorem at_calls {w0 W : World} {gt gc gm M : Nat} {vp vn : Value} {cc cm : Nat} {R : List Int} {T : List S48} {N : List Int} {Cs : List Int} {Ms : List Bool} (h : Sq w0 W gt gc gm M vp vn cc cm T N Cs Ms)
  (hR : Right R T N) {v : List Nat} (hv : okV T v) {A0 : Option Addr} {c0 : Nat} {A1 : Option Addr} {c1 : Nat} {A2 : Option Addr} {c2 : Nat}
  (r0 : Kd.C (Kd.int .i64) W A0 R.length R) (h0 : R.length ≤ c0) (r1 : Kd.C k48 W A1 (stT T v).length (stT T v)) (h1 : (stT T v).length ≤ c1) (r2 : Kd.C (Kd.int .i64) W A2 (stN T N v).length (stN T N v)) (h2 : (stN T N v).length ≤ c2) :
  Calls Tryd.prog 57 #[.pointer (some ⟨gt, 0, none⟩), .agg #[.slice A0 R.length c0, .slice A1 (stT T v).length c1, .slice A2 (stN T N v).length c2]] W fun e W' => e = .returned (.int .i64 (numP T v T.length : Nat)) ∧ Below W.heap.size W W' := by
 have HS := Aside0.mk h
 have HRT := Aside0.mk hR
 have HV := Aside0.mk hv
 have hw := hR.wf
 have HWF := Aside0.mk hw
 have HC0 := Aside0.mk r0
 have HC1 := Aside0.mk r1
 have HC2 := Aside0.mk r2
 have hn1 := hw.n1
 have ht1 := hw.t1
 have hTl : (stT T v).length ≤ 5 := by rw [stT_len]; exact Nat.le_trans (idx_len T v) ht1
 have hNl : (stN T N v).length ≤ 1048576 := by rw [stN_len]; have := idx_len T v; omega
 have hTi : (stT T v).length = (idx T v).length := stT_len T v
 obtain ⟨AP, cP, eP⟩ := Kd.R_slice h.pR
 obtain ⟨AN, cN, eN⟩ := Kd.R_slice h.nR
 rw [lensP_len] at eP
 subst eP eN
 have hp := h.pR
 have HPC : Aside0 (Kd.C (Kd.int .i64) W AP T.length (lensP T)) := ⟨by have h9 := (Kd.R_reads' hp).2.2; rw [lensP_len] at h9; exact h9⟩
 have HNC := Aside0.mk (Kd.R_reads' h.nR).2.2
 have HFO := Aside0.mk (fun (i : Nat) (hi : i < T.length) (ho : i ∉ idx T v) => (⟨find_out hR hi ho, far_out hv hi ho hw⟩ : findD (stN T N v) (N.getD i 0) = -1 ∧ v.getD i 0 = lenP T i + 1))
 have HFI := Aside0.mk (fun (i : Nat) (hi : i ∈ idx T v) => (show ∃ k : Nat, k < (stT T v).length ∧ findD (stN T N v) (N.getD i 0) = (k : Int) ∧ ((stT T v).getD k z48).f1.length = lenP T i - v.getD i 0 ∧ v.getD i 0 ≤ lenP T i from by
  obtain ⟨k, hk, e⟩ := idx_at hi
  have h3 := find_in hR hk
  have h4 := far_in (T := T) hk
  rw [e] at h3 h4
  exact ⟨k, by rw [stT_len]; exact hk, h3, h4⟩))
 clear h hR hv r0 r1 r2 hw hp hTi
 generalize stT T v = T' at *
 generalize stN T N v = N' at *
 go_enter Tryd.func57, Tryd.ntmps57
 have y1 : W.cell? ⟨gt, 1, none⟩ = some (.slice AN N.length cN) := (blk_cell HS.out.blk 1).trans rfl
 go_wp2_with (first | ((with_reducible refine gate_dst (N := 3) rfl ?_); refine box_event ?hg (N := 3) ?hd (cs := #[.slice A0 R.length c0, .slice A1 T'.length c1, .slice A2 N'.length c2]) (t := 30) ?hr ?_; (case hd => rfl); (case hg => rfl); (case hr => first | (go_simp; done) | (go_simp; rfl)); intro gb hg w1 hbox hb; subst hg; have HB := Aside0.mk hb; have BK := Aside0.mk hbox; clear hb hbox; replace y1 := (HB.out.cell (World.block_lt_of_cell? W _ y1)).trans y1))
 go_loopw [5, 15] (fun x5 x15 wr => ∃ i : Nat, i ≤ T.length ∧ x15 = .int .i64 i ∧ x5 = .int .i64 (numP T v i : Nat) ∧ Aside0 (Below W.heap.size W wr) ∧ Aside0 (wr.heap[W.heap.size]? = some (.cells #[.slice A0 R.length c0, .slice A1 T'.length c1, .slice A2 N'.length c2] 30 (0, 0)))) (fun _ x15 _ => T.length - (intOf x15).toNat)
 case atStart => exact ⟨0, Nat.zero_le _, rfl, rfl, HB, BK⟩
 case round =>
  clear HB BK y1
  obtain ⟨i, hi, rfl, rfl, HB, BK⟩ := hrel
  by_cases hlt : i < T.length
  ·have d16 : decide ((i : Int) < (N.length : Int)) = true := decide_eq_true (by omega)
   have p5 : (0 : Int) ≤ (i : Int) := by omega
   have q5 : (i : Int) < (N.length : Int) := by omega
   have q6 : (i : Int) < (T.length : Int) := by omega
   obtain ⟨adN, eN, n1⟩ := Kd.at_int (Kd.C_below HNC.out HB.out) (i : Int) p5 q5
   obtain ⟨adP, eP, n2⟩ := Kd.at_int (Kd.C_below HPC.out HB.out) (i : Int) p5 q6
   subst eN eP
   rw [Int.toNat_natCast] at n1 n2
   have e1 : rd N (i : Int) = N.getD i 0 := rd_I N i
   have e2 : rd (lensP T) (i : Int) = (lenP T i : Int) := (rd_I _ i).trans (lensP_get T hlt)
   rw [e1] at n1
   rw [e2] at n2
   obtain ⟨kn, hkn⟩ := (name_tells R T' hNl (N.getD i 0)).rounds
   have HKN := Aside0.mk hkn
   have hfi := HFI.out i
   have hfo := HFO.out i hlt
   have hpl : lenP T i ≤ 8 := HWF.out.path _ (getD_mem z48 hlt)
   have hnu := numP_lt HV.out (i + 1) hlt
   have hsz := szP_small HWF.out (n := i + 1) hlt
   have hnum := mul_cast (numP T v i) (lenP T i) (v.getD i 0)
   have hq0 : (0 : Int) ≤ (numP T v i : Int) * ((lenP T i : Int) + 2) := by
    have := mul_cast (numP T v i) (lenP T i) 0
    have h9 : (0 : Int) ≤ ((numP T v i * (lenP T i + 2) + 0 : Nat) : Int) := by omega
    rw [← this] at h9
    omega
   have hstep : numP T v (i + 1) = numP T v i * (lenP T i + 2) + v.getD i 0 := rfl
   rw [← hstep] at hnum
   have hpl1 : (lenP T i : Int) ≤ 8 := by omega
   have hpl0 : (0 : Int) ≤ (lenP T i : Int) := by omega
   have hv0 : (0 : Int) ≤ ((v.getD i 0 : Nat) : Int) := by omega
   have hnu2 : ((numP T v (i + 1) : Nat) : Int) ≤ 100000 := by omega
   have hf1 : i ∈ idx T v → ∃ k : Nat, k < T'.length ∧ findD N' (N.getD i 0) = (k : Int) ∧ ((T'.getD k z48).f1.length : Int) = (lenP T i : Int) - ((v.getD i 0 : Nat) : Int) := by
    intro hm
    obtain ⟨k, q1, q2, q3, q4⟩ := hfi hm
    exact ⟨k, q1, q2, by omega⟩
   have hf2 : i ∉ idx T v → findD N' (N.getD i 0) = -1 ∧ ((v.getD i 0 : Nat) : Int) = (lenP T i : Int) + 1 := by
    intro hm
    obtain ⟨q1, q2⟩ := hfo hm
    exact ⟨q1, by omega⟩
   have HN1 := Aside0.mk hf1
   have HN2 := Aside0.mk hf2
   clear hf1 hf2 hfi hfo hkn hnu hstep hpl e1 e2
   generalize N.getD i 0 = nm at *
   generalize ((v.getD i 0 : Nat) : Int) = vi at *
   generalize hnx : ((numP T v (i + 1) : Nat) : Int) = nx at *
   have HNX := Aside0.mk hnx
   clear hnx
   generalize ((lenP T i : Nat) : Int) = pl at *
   generalize ((numP T v i : Nat) : Int) = q at *
   have HNUM := Aside0.mk hnum
   have z0 : wr.cell? ⟨W.heap.size, 0, none⟩ = some (.slice A0 R.length c0) := (blk_cell BK.out 0).trans rfl
   have z1 : wr.cell? ⟨W.heap.size, 1, none⟩ = some (.slice A1 T'.length c1) := (blk_cell BK.out 1).trans rfl
   have z2 : wr.cell? ⟨W.heap.size, 2, none⟩ = some (.slice A2 N'.length c2) := (blk_cell BK.out 2).trans rfl
   have hu26 := Tryd.underlying30
   have ew1 : wrap64 (pl + 1) = pl + 1 := w64 (by omega) (by omega)
   have ew2 : wrap64 (pl + 2) = pl + 2 := w64 (by omega) (by omega)
   have ew3 : wrap64 (q * (pl + 2)) = q * (pl + 2) := w64 (by omega) (by omega)
   have ew4 : wrap64 (q * (pl + 2) + vi) = nx := by rw [hnum]; exact w64 (by omega) (by omega)
   clear hnum
   go_wp2_with (fail)
   refine (spec_l1name.calls kn _ _ R _ _ T' _ _ N' nm (findD N' nm) wr (Kd.C_below HC0.out HB.out) h0 (Kd.C_below HC1.out HB.out) h1 (Kd.C_below HC2.out HB.out) h2 HKN.out).mono ?_
   rintro e w4 ⟨rfl, hb⟩
   have HB_ := Aside0.mk (below_step HB.out hb)
   have BK_ := Aside0.mk (blk_below BK.out hb)
   replace n2 := (hb.cell (World.block_lt_of_cell? wr _ n2)).trans n2
   clear HB BK hb n1 z0 z1 z2 HKN
   have HB := HB_
   have BK := BK_
   clear HB_ BK_
   have y0 : w4.cell? ⟨gt, 0, none⟩ = some (.slice (some adP) T.length cP) := (blk_cell (HS.out.below HB.out).blk 0).trans rfl
   generalize findD N' nm = fd at *
   by_cases hm : i ∈ idx T v
   ·obtain ⟨k, hk, hfd, hlen⟩ := HN1.out hm
    subst hfd
    have d32 : decide ((k : Int) ≥ 0) = true := decide_eq_true (by omega)
    have pk : (0 : Int) ≤ (k : Int) := by omega
    have qk : (k : Int) < (T'.length : Int) := by omega
    obtain ⟨ad, B, c, e, t0, t1, t2, hl, hC⟩ := at_T48 (Kd.C_below HC1.out HB.out) (k : Int) pk qk
    subst e
    rw [Int.toNat_natCast] at t1
    have er : rd_T48 T' (k : Int) = T'.getD k z48 := rd_T T' k
    rw [er] at t1
    clear t0 t2 hl hC er
    generalize (T'.getD k z48).f1.length = nl at t1 hlen
    have ew5 : wrap64 (pl - (nl : Int)) = vi := by rw [w64 (by omega) (by omega)]; omega
    have z1 : w4.cell? ⟨W.heap.size, 1, none⟩ = some (.slice (some ad) T'.length c1) := (blk_cell BK.out 1).trans rfl
    have HNL := Aside0.mk hlen
    clear hlen
    go_wp2_with (fail)
    go_quiet (fail)
    go_wp2_with (fail)
    go_roundw
    case measure => simp [intOf]; omega
    case rel => exact ⟨i + 1, hlt, by go_num, by rw [HNX.out, ew4], ⟨pw_below_drewN HB.out _⟩, ⟨BK.out⟩⟩
   ·obtain ⟨hfd, hvi⟩ := HN2.out hm
    subst hfd
    have d32 : decide ((-1 : Int) ≥ 0) = false := by decide
    have ew6 : wrap64 (q * (pl + 2) + (pl + 1)) = nx := by rw [← hvi]; exact ew4
    clear hvi
    go_wp2_with (fail)
    go_roundw
    case measure => simp [intOf]; omega
    case rel => exact ⟨i + 1, hlt, by go_num, by rw [HNX.out]; first | rw [ew6] | rw [ew4], HB, BK⟩
  ·have d16 : decide ((i : Int) < (N.length : Int)) = false := decide_eq_false (by omega)
   have hie : i = T.length := by omega
   subst hie
   go_wp2_with (fail)
   go_ret
   exact ⟨by simp, HB.out⟩
end Go.Proofs.YtkcocomehhlpmaaDoor.Sp
