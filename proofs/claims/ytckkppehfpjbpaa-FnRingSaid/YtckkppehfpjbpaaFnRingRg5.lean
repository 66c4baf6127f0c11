/- The program's Ring. Walked by hand. -/
import Derived.Test.YtckkppehfpjbpaaFnRingRg3
namespace Go.Proofs.Ytckkppehfpjbpaa.Rg
open Go.RowKit Go.Proofs.YtckkppehfpjbpaaW.PrintWords Go.Proofs.YtckkppehfpjbpaaW.PrintLast Go.Proofs.YtckkppehfpjbpaaW.PrintMore Go.Proofs.Ytckkppehfpjbpaa.Q Go.Proofs.Ytckkppehfpjbpaa.Pu
attribute [local go_sem] max2_int min2_int max_two min_two max_three min_three max_four min_four Option.isNone_none Option.isNone_some Bool.not_true Bool.not_false
set_option linter.unusedVariables false
set_option linter.unusedSimpArgs false
theorem equalIn_nil {P : Program} (w : World) (d : Nat) (t e : TypeId) (a : Option Addr) (l c : Nat) (h : P.underlying t = some (.slice e)) : (Op.equalIn (d + 1) t (.slice a l c) (.slice none 0 0)).run P w = .ok a.isNone w := by
 cases a <;> simp [Op.equalIn, run_underlying h]
theorem equal_nil {P : Program} (w : World) (t e : TypeId) (a : Option Addr) (l c : Nat) (h : P.underlying t = some (.slice e)) : (Op.equal t (.slice a l c) (.slice none 0 0)).run P w = .ok a.isNone w := equalIn_nil w 9999 t e a l c h
theorem neq_some : ∀ (w : World) (a : Addr) (n c : Nat), (binOp .neq 22 (.slice (some a) n c) (.slice none 0 0)).run Try.prog w = .ok (.bool true) w := fun w a n c => by
 simp only [binOp]
 simp [equal_nil w _ _ (some a) n c Try.underlying22]
theorem neq_none : ∀ (w : World), (binOp .neq 22 (.slice none 0 0) (.slice none 0 0)).run Try.prog w = .ok (.bool false) w := fun w => by
 simp only [binOp]
 simp [equal_nil w _ _ none 0 0 Try.underlying22]
theorem eql_some : ∀ (w : World) (a : Addr) (n c : Nat), (binOp .eql 22 (.slice (some a) n c) (.slice none 0 0)).run Try.prog w = .ok (.bool false) w := fun w a n c => by
 simp only [binOp]
 simp [equal_nil w _ _ (some a) n c Try.underlying22]
theorem eql_none : ∀ (w : World), (binOp .eql 22 (.slice none 0 0) (.slice none 0 0)).run Try.prog w = .ok (.bool true) w := fun w => by
 simp only [binOp]
 simp [equal_nil w _ _ none 0 0 Try.underlying22]
/-- The places. -/
def plc (n : Nat) : List Int := (List.range n).map (fun (j : Nat) => (j : Int))
theorem plc_len (n : Nat) : (plc n).length = n := by simp [plc]
theorem plc_get {n i : Nat} (h : i < n) : (plc n).getD i 0 = (i : Int) := by simp [plc, List.getD, h]
def iBest (R : List Int) (T : List S40) (N : List Int) : List Int := bestR ((plc T.length).map (ringF (waitsI R T N)))
def iRing (R : List Int) (T : List S40) (N : List Int) : List Int := (iBest R T N).map (fun p => N.getD p.toNat 0)
theorem bstI_in {R : List Int} {T : List S40} {N : List Int} (hr : Right R T N) (i : Nat) : ∀ x ∈ bstI (ringF (waitsI R T N)) (plc T.length) i, inP R T N x := by
 unfold bstI bestR
 refine bestR_keep _ _ (fun r hr2 => ?_) (by simp)
 obtain ⟨p, hp, rfl⟩ := List.mem_map.1 hr2
 obtain ⟨j, hj, rfl⟩ := List.mem_map.1 (List.mem_of_mem_take hp)
 exact ringF_keep (P := inP R T N) (fun p _ => waitsI_in hr) ⟨j, List.mem_range.1 hj, rfl⟩
theorem foldl_betR_len : ∀ (rs : List (List Int)) (b : List Int) (n : Nat), (∀ r ∈ rs, r.length ≤ n) → b.length ≤ n → (rs.foldl betR b).length ≤ n
 | [], b, n, _, hb => hb
 | r :: rs, b, n, h, hb => by
  simp only [List.foldl_cons]
  refine foldl_betR_len rs _ n (fun q hq => h q (by simp [hq])) ?_
  unfold betR
  split
  ·exact h r (by simp)
  ·exact hb
theorem inn_ways {P : List Int → Prop} {fr : Int} {w : List Int} : ∀ (xs s : List Int) (m : List (List Int)), (∀ x, P (w ++ [x])) → (∀ v ∈ m, P v) → ∀ v ∈ (inn fr w xs s m).2.2, P v
 | [], s, m, _, hm => hm
 | x :: xs, s, m, hw, hm => by
  simp only [inn]
  by_cases c : x = fr
  ·rw [if_pos c]; exact hm
  ·rw [if_neg c]
   by_cases d : x ∈ s
   ·rw [if_pos d]; exact inn_ways xs s m hw hm
   ·rw [if_neg d]
    refine inn_ways xs _ _ hw (fun v hv => ?_)
    rcases List.mem_append.1 hv with hv | hv
    ·exact hm v hv
    ·rw [List.mem_singleton.1 hv]; exact hw x
theorem lin_ways {nb : Int → List Int} {fr : Int} {n : Nat} : ∀ (ws : List (List Int)) (s : List Int) (m : List (List Int)), (∀ v ∈ ws, v.length ≤ n) → (∀ v ∈ m, v.length ≤ n + 1) → (lin nb fr ws s m).1.length ≤ n ∧ ∀ v ∈ (lin nb fr ws s m).2.2, v.length ≤ n + 1
 | [], s, m, _, hm => ⟨by simp [lin], hm⟩
 | w :: ws, s, m, hw, hm => by
  have h1 := hw w (by simp)
  have h2 := inn_ways (P := fun v => v.length ≤ n + 1) (fr := fr) (w := w) (nb (w.getLastD 0)) s m (fun x => by simpa using h1) hm
  rw [lin_cons]
  by_cases c : (inn fr w (nb (w.getLastD 0)) s m).1 = true
  ·rw [if_pos c]; exact ⟨h1, h2⟩
  ·rw [if_neg c]
   exact lin_ways ws _ _ (fun v hv => hw v (by simp [hv])) h2
theorem rnd_ways {nb : Int → List Int} {fr : Int} : ∀ (k n : Nat) (l : List (List Int)) (s : List Int), (∀ v ∈ l, v.length ≤ n) → (rnd nb fr k l s).length ≤ n + k
 | 0, n, l, s, _ => by simp [rnd]
 | k + 1, n, l, s, hl => by
  have h := lin_ways (nb := nb) (fr := fr) l s [] hl (by simp)
  simp only [rnd]
  by_cases c : l = []
  ·rw [if_pos c]; simp
  ·rw [if_neg c]
   by_cases d : (lin nb fr l s []).1 = []
   ·rw [if_pos d]
    have := rnd_ways (nb := nb) (fr := fr) k (n + 1) (lin nb fr l s []).2.2 (lin nb fr l s []).2.1 h.2
    omega
   ·rw [if_neg d]; have := h.1; omega
theorem ringF_len (nb : Int → List Int) (fr : Int) : (ringF nb fr).length ≤ 9 := rnd_ways 8 1 [[fr]] [] (by simp)
theorem iBest_len (R : List Int) (T : List S40) (N : List Int) : (iBest R T N).length ≤ 9 := by
 unfold iBest bestR
 refine foldl_betR_len _ _ 9 (fun r hr => ?_) (by simp)
 obtain ⟨p, _, rfl⟩ := List.mem_map.1 hr
 exact ringF_len _ _
/-- Ring, as the walk of its callers asks for it: no rounds of its own. -/
def impl_Ring.f (k : Nat) (l0_0 : List Int) (l0_1 : List S40) (l0_2 : List Int) : Option (List Int) :=
 (impl_StateOk.f k l0_0 l0_1 l0_2).bind fun t => if t = okS l0_0 l0_1 l0_2 then some (if t = 0 then iRing l0_0 l0_1 l0_2 else []) else none
set_option maxHeartbeats 1000000 in
set_option maxRecDepth 100000 in
theorem impl_Ring.calls (k : Nat) (A0_0 : Option Addr) (c0_0 : Nat) (l0_0 : List Int) (A0_1 : Option Addr) (c0_1 : Nat) (l0_1 : List S40) (A0_2 : Option Addr) (c0_2 : Nat) (l0_2 : List Int) (r : List Int) (w : World) (hr0_0 : Kd.C (Kd.int .i64) w A0_0 l0_0.length l0_0) (hc0_0 : l0_0.length ≤ c0_0) (hr0_1 : Kd.C k40 w A0_1 l0_1.length l0_1) (hc0_1 : l0_1.length ≤ c0_1) (hr0_2 : Kd.C (Kd.int .i64) w A0_2 l0_2.length l0_2) (hc0_2 : l0_2.length ≤ c0_2)
  (h : impl_Ring.f k l0_0 l0_1 l0_2 = some r) :
  Calls Try.prog 8 #[.agg #[.slice A0_0 l0_0.length c0_0, .slice A0_1 l0_1.length c0_1, .slice A0_2 l0_2.length c0_2]] w fun e w' => ∃ v0_ : Value, e = .returned v0_ ∧ Kd.R (Kd.int .i64) 3 w' w.heap.size (fun _ => True) v0_ r ∧ Below w.heap.size w w' := by
 have HR0 := Aside0.mk hr0_0
 have HR1 := Aside0.mk hr0_1
 have HR2 := Aside0.mk hr0_2
 unfold impl_Ring.f at h
 obtain ⟨t, ht, hr⟩ := Option.bind_eq_some_iff.mp h
 by_cases hq : t = okS l0_0 l0_1 l0_2
 rotate_left
 ·rw [if_neg hq] at hr; exact absurd hr (by simp)
 rw [if_pos hq] at hr
 injection hr with hr
 have HT := Aside0.mk ht
 have HW := Aside0.mk (fun h0 : t = 0 => (right_iff _ _ _).1 (hq.symm.trans h0))
 have HRR := Aside0.mk hr
 clear h ht hr hq hr0_0 hr0_1 hr0_2
 have hu := Try.underlying30
 have HB := Aside0.mk ((Below.refl w.heap.size w).alloc (Nat.le_refl _) (.cells #[.slice A0_0 l0_0.length c0_0, .slice A0_1 l0_1.length c0_1, .slice A0_2 l0_2.length c0_2] 30))
 have BX := Aside0.mk (heap_alloc_new w (.cells #[.slice A0_0 l0_0.length c0_0, .slice A0_1 l0_1.length c0_1, .slice A0_2 l0_2.length c0_2] 30))
 by_cases c0 : t = 0
 ·have c1 : (t == 0) = true := beq_iff_eq.mpr c0
  have c2 : (t != 0) = false := by rw [c0]; rfl
  have hr := HW.out c0
  have hrr := HRR.out
  rw [if_pos c0] at hrr
  have HRD := Aside0.mk hrr
  have hN5 : l0_2.length ≤ 5 := by have := hr.n1; have := hr.t1; omega
  have hT5 : l0_1.length ≤ 5 := hr.t1
  have HRI := Aside0.mk hr
  clear HRR hrr hr
  go_enter Try.func8, Try.ntmps8
  go_wp2_with (fail)
  refine (impl_StateOk.calls k _ _ l0_0 _ _ l0_1 _ _ l0_2 t _ (Kd.C_below HR0.out HB.out) hc0_0 (Kd.C_below HR1.out HB.out) hc0_1 (Kd.C_below HR2.out HB.out) hc0_2 HT.out).mono ?_
  rintro e w1 ⟨rfl, hb⟩
  have HB_ := Aside0.mk (below_step HB.out hb)
  have BX_ := Aside0.mk (blk_below BX.out hb)
  clear HB BX hb
  have HB := HB_
  have BX := BX_
  clear HB_ BX_
  have z1 : w1.cell? ⟨w.heap.size, 1, none⟩ = some (.slice A0_1 l0_1.length c0_1) := (blk_cell BX.out 1).trans rfl
  go_wp2_with (fail)
  go_loopw [3, 15] (fun x3 x15 wr => ∃ i : Nat, i ≤ l0_1.length ∧ x15 = .int .i64 i ∧ Aside0 (Kd.R (Kd.int .i64) 3 wr w.heap.size (fun _ => True) x3 (bstI (ringF (waitsI l0_0 l0_1 l0_2)) (plc l0_1.length) i) ∧ (bstI (ringF (waitsI l0_0 l0_1 l0_2)) (plc l0_1.length) i = [] → x3 = .slice none 0 0)) ∧ Aside0 (Below w.heap.size w wr) ∧ Aside0 (wr.heap[w.heap.size]? = some (.cells #[.slice A0_0 l0_0.length c0_0, .slice A0_1 l0_1.length c0_1, .slice A0_2 l0_2.length c0_2] 30 (0, 0)))) (fun _ x15 _ => l0_1.length - (intOf x15).toNat)
  case atStart => exact ⟨0, Nat.zero_le _, rfl, ⟨Kd.R_nil _ _ _ _ _, fun _ => rfl⟩, HB, BX⟩
  case round =>
   clear HB BX z1
   obtain ⟨i, hi, rfl, HO, HB, BX⟩ := hrel
   by_cases hlt : i < l0_1.length
   ·have d16 : decide ((i : Int) < (l0_1.length : Int)) = true := decide_eq_true (by omega)
    have HN := Aside0.mk (show inP l0_0 l0_1 l0_2 (i : Int) from ⟨i, hlt, rfl⟩)
    have HS := Aside0.mk (bstI_succ (ringF (waitsI l0_0 l0_1 l0_2)) (plc l0_1.length) (i := i) (by rw [plc_len]; exact hlt))
    rw [plc_get hlt] at HS
    generalize bstI (ringF (waitsI l0_0 l0_1 l0_2)) (plc l0_1.length) i = b at HO HS
    have z0 : wr.cell? ⟨w.heap.size, 0, none⟩ = some (.slice A0_0 l0_0.length c0_0) := (blk_cell BX.out 0).trans rfl
    have z1 : wr.cell? ⟨w.heap.size, 1, none⟩ = some (.slice A0_1 l0_1.length c0_1) := (blk_cell BX.out 1).trans rfl
    have z2 : wr.cell? ⟨w.heap.size, 2, none⟩ = some (.slice A0_2 l0_2.length c0_2) := (blk_cell BX.out 2).trans rfl
    go_wp2_with (fail)
    refine (ringFrom_calls HRI.out (Kd.C_below HR0.out HB.out) hc0_0 (Kd.C_below HR1.out HB.out) hc0_1 (Kd.C_below HR2.out HB.out) hc0_2 (i : Int) HN.out).mono ?_
    rintro e w3 ⟨v, rfl, hR, hb, hnil⟩
    have HO_ := Aside0.mk (And.intro (Kd.R_below HO.out.1 hb) HO.out.2)
    have HB_ := Aside0.mk (below_step HB.out hb)
    have BX_ := Aside0.mk (blk_below BX.out hb)
    have HV := Aside0.mk (And.intro (Kd.R_lower hR HB.out.size) hnil)
    clear HO HB BX hb z0 z1 z2 hR hnil
    have HO := HO_
    have HB := HB_
    have BX := BX_
    clear HO_ HB_ BX_
    generalize ringF (waitsI l0_0 l0_1 l0_2) (i : Int) = q at HV HS
    have hq1 := neq_some
    have hq2 := neq_none
    have hq3 := eql_some
    have hq4 := eql_none
    by_cases g0 : q = []
    ·have hv := HV.out.2 g0
     subst hv
     subst g0
     have HS2 := Aside0.mk (HS.out.trans (betR_none b))
     clear HS
     go_wp2_with (fail)
     go_roundw
     case measure => simp [intOf]; omega
     case rel => exact ⟨i + 1, hlt, by go_num, ⟨by rw [HS2.out]; exact HO.out⟩, HB, BX⟩
    ·have g1 : 0 < q.length := List.length_pos_iff.2 g0
     obtain ⟨g9, c6, e6, _, _, _⟩ := Kd.R_form HV.out.1 g1
     subst e6
     have HVN := Aside0.mk (And.intro HV.out.1 (show q = [] → False from fun e => g0 e))
     by_cases g2 : b = []
     ·have hv := HO.out.2 g2
      subst hv
      subst g2
      have HS2 := Aside0.mk (HS.out.trans (betR_first g0))
      clear HS g0
      go_wp2_with (fail)
      go_roundw
      case measure => simp [intOf]; omega
      case rel => exact ⟨i + 1, hlt, by go_num, ⟨by rw [HS2.out]; exact ⟨HVN.out.1, fun e => (HVN.out.2 e).elim⟩⟩, HB, BX⟩
     ·have g3 : 0 < b.length := List.length_pos_iff.2 g2
      obtain ⟨g8, c3, e3, _, _, _⟩ := Kd.R_form HO.out.1 g3
      subst e3
      by_cases g6 : q.length < b.length
      ·have HS2 := Aside0.mk (HS.out.trans (betR_less g0 g6))
       have g7 : decide ((q.length : Int) < (b.length : Int)) = true := decide_eq_true (by omega)
       clear HS
       go_wp2_with (fail)
       go_roundw
       case measure => simp [intOf]; omega
       case rel => exact ⟨i + 1, hlt, by go_num, ⟨by rw [HS2.out]; exact ⟨HVN.out.1, fun e => (HVN.out.2 e).elim⟩⟩, HB, BX⟩
      ·have HS2 := Aside0.mk (HS.out.trans (betR_more g2 g6))
       have g7 : decide ((q.length : Int) < (b.length : Int)) = false := decide_eq_false (by omega)
       clear HS
       go_wp2_with (fail)
       go_roundw
       case measure => simp [intOf]; omega
       case rel => exact ⟨i + 1, hlt, by go_num, ⟨by rw [HS2.out]; exact HO.out⟩, HB, BX⟩
   ·have d16 : decide ((i : Int) < (l0_1.length : Int)) = false := decide_eq_false (by omega)
    have hie : i = l0_1.length := by omega
    subst hie
    have hbe : bstI (ringF (waitsI l0_0 l0_1 l0_2)) (plc l0_1.length) l0_1.length = iBest l0_0 l0_1 l0_2 := by
     have h9 := bstI_all (ringF (waitsI l0_0 l0_1 l0_2)) (plc l0_1.length)
     rw [plc_len] at h9
     exact h9
    have HIN := Aside0.mk (bstI_in HRI.out l0_1.length)
    rw [hbe] at HIN
    have HOO := HO.out.1
    rw [hbe] at HOO
    clear hbe HO
    have HB5 : (iBest l0_0 l0_1 l0_2).length ≤ 9 := iBest_len l0_0 l0_1 l0_2
    have HRE := Aside0.mk HRD.out
    unfold iRing at HRE
    generalize iBest l0_0 l0_1 l0_2 = L at HIN HOO HB5 HRE
    obtain ⟨AL, cL, eL⟩ := Kd.R_slice HOO
    subst eL
    have HL := Aside0.mk HOO
    have hn1 : l0_2.length = l0_1.length := HRI.out.n1
    have HN1 := Aside0.mk hn1
    generalize hwA : wr = wA at *
    clear hwA HOO hn1
    go_wp2_with (fail)
    go_loopw [6, 38] (fun x6 x38 wr => ∃ m : Nat, m ≤ L.length ∧ x38 = .int .i64 m ∧ Aside0 (Kd.R (Kd.int .i64) 3 wr w.heap.size (fun k => wA.heap.size ≤ k) x6 ((L.take m).map (fun p => l0_2.getD p.toNat 0))) ∧ Aside0 (Kd.R (Kd.int .i64) 3 wr w.heap.size (fun k => k < wA.heap.size) (.slice AL L.length cL) L) ∧ Aside0 (Below w.heap.size w wr) ∧ Aside0 (wA.heap.size ≤ wr.heap.size) ∧ Aside0 (wr.heap[w.heap.size]? = some (.cells #[.slice A0_0 l0_0.length c0_0, .slice A0_1 l0_1.length c0_1, .slice A0_2 l0_2.length c0_2] 30 (0, 0)))) (fun _ x38 _ => L.length - (intOf x38).toNat)
    case atStart => exact ⟨0, Nat.zero_le _, rfl, ⟨Kd.R_nil _ _ _ _ _⟩, ⟨Kd.R_mono (Kd.R_bound HL.out) (fun k hk => hk.2.2.1)⟩, HB, ⟨Nat.le_refl _⟩, BX⟩
    case round =>
     rename World => wb
     have HAX := Aside0.mk (Array.getElem?_eq_some_iff.1 BX.out).1
     clear HB BX HL
     obtain ⟨m, hm, rfl, HO, HL, HB, HZ, BX⟩ := hrel
     by_cases hlt : m < L.length
     ·have d39 : decide ((m : Int) < (L.length : Int)) = true := decide_eq_true (by omega)
      have p6 : (0 : Int) ≤ (m : Int) := by omega
      have q6 : (m : Int) < (L.length : Int) := by omega
      obtain ⟨adL, eL, hx⟩ := Kd.at_int (Kd.R_reads' HL.out).2.2 (m : Int) p6 q6
      subst eL
      rw [Int.toNat_natCast, show rd L (m : Int) = L.getD m 0 from rd_I L m] at hx
      obtain ⟨j, hj, hje⟩ := HIN.out _ (getD_mem 0 hlt)
      have HTK := Aside0.mk (take_succ' L 0 hlt)
      rw [hje] at hx HTK
      have p7 : (0 : Int) ≤ (j : Int) := by omega
      have q7 : (j : Int) < (l0_2.length : Int) := by have := HN1.out; omega
      obtain ⟨adN, eN, n1⟩ := Kd.at_int (Kd.C_below HR2.out HB.out) (j : Int) p7 q7
      subst eN
      rw [Int.toNat_natCast, show rd l0_2 (j : Int) = l0_2.getD j 0 from rd_I l0_2 j] at n1
      obtain ⟨nm, hnm⟩ : ∃ nm, nm = l0_2.getD j 0 := ⟨_, rfl⟩
      rw [← hnm] at n1
      have HNM := Aside0.mk hnm
      clear hnm hje
      have z2 : wb.cell? ⟨w.heap.size, 2, none⟩ = some (.slice (some adN) l0_2.length c0_2) := (blk_cell BX.out 2).trans rfl
      have HLN := Aside0.mk (show ((L.take m).map (fun p => l0_2.getD p.toNat 0)).length ≤ 9 from by rw [List.length_map, List.length_take]; omega)
      generalize hTM : (L.take m).map (fun p => l0_2.getD p.toNat 0) = tm at HO HLN
      have HTM := Aside0.mk hTM
      clear hTM
      go_wp2_with (first
       | ((with_reducible refine gate_builtin (b := .append) (xs := #[.tmp 42, .tmp 48]) rfl ?_); at_builtin; refine Kd.R_append (Kd.int .i64) (w0 := w) w.heap.size rfl (.tmp 42) (.tmp 48) 22 3 (.int .i64 0) 8 rfl Try.underlying22 info3 rfl (by decide) (by omega) u6 tm nm [.int .i64 nm] (fun k => wA.heap.size ≤ k) (fun _ => False) rfl rfl ?aP (fun _ hk => hk.elim) ?aF HO.out HB.out HB.out.size ?aL ?_; (case aP => exact rfl); (case aF => exact (fun k hk => Nat.le_trans HZ.out hk)); (case aL => have := HLN.out; omega); intro v6 w6 ho hb hg hat; have HL6 := Aside0.mk (Kd.R_grown HL.out hg (fun k hk e => by have := HO.out.1 k e.symm; omega)); have BX6 := Aside0.mk ((hg.block _ (Nat.lt_of_lt_of_le HAX.out HZ.out) (fun e => by have := HO.out.1 _ e.symm; have := HAX.out; omega)).trans BX.out); have HZ6 := Aside0.mk (Nat.le_trans HZ.out hg.size); have HO6 := Aside0.mk ho; have HB6 := Aside0.mk hb; clear ho hb hg hat HO HL HB BX HZ n1 hx z2))
      go_roundw
      case measure => simp [intOf]; omega
      case rel => exact ⟨m + 1, hlt, by go_num, ⟨by rw [HTK.out, List.map_append, HTM.out, List.map_singleton, Int.toNat_natCast, ← HNM.out]; exact HO6.out⟩, HL6, HB6, HZ6, BX6⟩
     ·have d39 : decide ((m : Int) < (L.length : Int)) = false := decide_eq_false (by omega)
      have hme : m = L.length := by omega
      subst hme
      go_wp2_with (fail)
      go_ret
      refine ⟨_, rfl, ?_, HB.out⟩
      rw [← HRE.out]
      have h9 := HO.out
      rw [List.take_length] at h9
      exact Kd.R_mono h9 (fun _ _ => trivial)
 ·have c1 : (t == 0) = false := beq_eq_false_iff_ne.mpr c0
  have c2 : (t != 0) = true := by simp [bne, c1]
  go_enter Try.func8, Try.ntmps8
  go_wp2_with (fail)
  refine (impl_StateOk.calls k _ _ l0_0 _ _ l0_1 _ _ l0_2 t _ (Kd.C_below HR0.out HB.out) hc0_0 (Kd.C_below HR1.out HB.out) hc0_1 (Kd.C_below HR2.out HB.out) hc0_2 HT.out).mono ?_
  rintro e w1 ⟨rfl, hb⟩
  go_wp2_with (fail)
  go_ret
  exact ⟨_, rfl, by rw [← HRR.out, if_neg c0]; exact Kd.R_nil _ _ _ _ _, below_step HB.out hb⟩
end Go.Proofs.Ytckkppehfpjbpaa.Rg
