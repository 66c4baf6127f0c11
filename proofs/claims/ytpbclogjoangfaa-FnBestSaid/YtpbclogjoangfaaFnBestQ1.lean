-- Written by programs of this session (wip/drv.py, wip/mkclaim.py) over the kit's print; not trusted: Lean checks it.
import Derived.Test.YtpbclogjoangfaaFnBestQ0
namespace Go.Proofs.Ytpbclogjoangfaa.Q
open Go.RowKit Go.Proofs.YtpbclogjoangfaaW.PrintWords Go.Proofs.YtpbclogjoangfaaW.PrintLast Go.Proofs.YtpbclogjoangfaaW.PrintMore
attribute [local go_sem] max2_int min2_int max_two min_two max_three min_three max_four min_four   -- for this text's walks alone
set_option linter.unusedVariables false
set_option linter.unusedSimpArgs false

/-! ### laws_wInts: function 21 -/
def laws_wInts.l0 : Nat → List Int → List Int → Int → Int → Option (Bool)
 | 0, _, _, _, _ => none
 | k + 1, x0, x1, x12, x13 => if x13 < x12 then (if 0 ≤ x13 then (if x13 < (x0.length : Int) then (if x13 < (x1.length : Int) then (if (rd x0 x13) = (rd x1 x13) then (laws_wInts.l0 k x0 x1 x12 (wrap64 (x13 + 1))) else (some false)) else (none)) else (none)) else (none)) else (some true)
def laws_wInts.f (k : Nat) (l0 : List Int) (l1 : List Int) : Option (Bool) := if (l0.length : Int) = (l1.length : Int) then (laws_wInts.l0 k l0 l1 (l0.length : Int) 0) else (some false)
theorem laws_wInts.mono_l : ∀ k, (∀ y0 y1 y2 y3, LeO (laws_wInts.l0 k y0 y1 y2 y3) (laws_wInts.l0 (k + 1) y0 y1 y2 y3))
 | 0 => fun _ _ _ _ r h => by simp [laws_wInts.l0] at h
 | k + 1 => by
  have ih0 := laws_wInts.mono_l k
  ·intro y0 y1 y2 y3
   unfold laws_wInts.l0
   repeat' with_reducible first | exact ih0 _ _ _ _ | exact LeO.refl _ | exact LeO.none _ | refine LeO.ite ?_ ?_ | refine LeO.bind ?_ (fun _ => ?_)
theorem laws_wInts.mono : ∀ a0 a1 k, LeO (laws_wInts.f k a0 a1) (laws_wInts.f (k + 1) a0 a1) := by
 intro a0 a1 k
 have ih0 := laws_wInts.mono_l k
 unfold laws_wInts.f
 repeat' with_reducible first | exact ih0 _ _ _ _ | exact LeO.refl _ | exact LeO.none _ | refine LeO.ite ?_ ?_ | refine LeO.bind ?_ (fun _ => ?_)
set_option maxHeartbeats 8000000 in
set_option maxRecDepth 100000 in
theorem laws_wInts.calls (k : Nat) (A0 : Option Addr) (c0 : Nat) (l0 : List Int) (A1 : Option Addr) (c1 : Nat) (l1 : List Int) (r : Bool) (w : World) (hr0 : Kd.C (Kd.int .i64) w A0 l0.length l0) (hc0 : l0.length ≤ c0) (hr1 : Kd.C (Kd.int .i64) w A1 l1.length l1) (hc1 : l1.length ≤ c1) (h : laws_wInts.f k l0 l1 = some r) :
  Calls Try.prog 21 #[.slice A0 l0.length c0, .slice A1 l1.length c1] w fun e w' => e = .returned (.bool r) ∧ Drawn0 w w' := by
 have HR0 := K_ hr0
 have HC0 := K_ hc0
 clear hr0 hc0
 have HR1 := K_ hr1
 have HC1 := K_ hc1
 clear hr1 hc1
 unfold laws_wInts.f at h
 have H := h
 clear h
 replace H := ps_ H
 rcases H with ⟨c3, H⟩ | ⟨c3, H⟩
 case inr =>
  have c3b0 := beq_eq_false_iff_ne.mpr c3
  have c3b1 := bne_iff_ne.mpr c3
  have c3b2 : (l0.length == l1.length) = false := by first | simpa using c3 | (simp at c3 ⊢; omega)
  obtain rfl := Option.some.inj H
  go_enter Try.func21, Try.ntmps21
  go_wp2
  repeat (go_quiet (fail); try go_wp2)
  go_ret
  exact ⟨by first | rfl | (simp; done) | (simp [*]; done), by repeat (first | exact Drawn0.refl _ | apply Drawn0.step)⟩
 have c3b0 := beq_iff_eq.mpr c3
 have c3b1 := bne_eq_false_iff_eq.mpr c3
 have c3b2 : (l0.length == l1.length) = true := by first | simpa using c3 | (simp at c3 ⊢; omega)
 clear c3
 have H' := K_ H
 clear H
 go_enter Try.func21, Try.ntmps21
 go_wp2
 repeat (go_quiet (fail); try go_wp2)
 go_loopg [13] k (fun kq v13 w' => ∃ (x13_1 : Int), v13 = .int .i64 x13_1 ∧ Aside0 (laws_wInts.l0 kq l0 l1 (l0.length : Int) x13_1 = some r) ∧ Aside0 (kq ≤ k) ∧ Drawn0 w w')
 case atStart => exact ⟨(0), rfl, H', ⟨Nat.le_refl _⟩, by repeat (first | exact Drawn0.refl _ | apply Drawn0.step)⟩
 case round =>
  clear H'
  clear c3b0 c3b1 c3b2
  obtain ⟨x13_1, rfl, HA, HK1, ⟨m1, rfl⟩⟩ := hrel
  cases gk with
  | zero => exact absurd HA.out (by simp [laws_wInts.l0])
  | succ k1 =>
   have H := HA.out
   clear HA
   simp only [laws_wInts.l0] at H
   replace H := ds_ H
   rcases H with ⟨c4b0, H⟩ | ⟨c4b0, H⟩
   case inr =>
    obtain rfl := Option.some.inj H
    go_wp2
    repeat (go_quiet (fail); try go_wp2)
    go_ret
    exact ⟨by first | rfl | (simp; done) | (simp [*]; done), by repeat (first | exact Drawn0.refl _ | apply Drawn0.step)⟩
   replace H := dn_ H
   obtain ⟨c5b0, H⟩ := H
   replace H := dn_ H
   obtain ⟨c6b0, H⟩ := H
   replace H := dn_ H
   obtain ⟨c7b0, H⟩ := H
   replace H := ps_ H
   rcases H with ⟨c8, H⟩ | ⟨c8, H⟩
   case inr =>
    have c8b0 := beq_eq_false_iff_ne.mpr c8
    have c8b1 := bne_iff_ne.mpr c8
    obtain rfl := Option.some.inj H
    have p430 : 0 ≤ (x13_1 : Int) := of_decide_eq_true (by assumption)
    have q430 : x13_1 < (l0.length : Int) := of_decide_eq_true (by assumption)
    obtain ⟨ad430, e430, hx430_0⟩ := Kd.at_int HR0.out x13_1 p430 q430
    cases e430
    replace p430 := eq_true p430
    replace q430 := eq_true q430
    have p431 : 0 ≤ (x13_1 : Int) := of_decide_eq_true (by assumption)
    have q431 : x13_1 < (l1.length : Int) := of_decide_eq_true (by assumption)
    obtain ⟨ad431, e431, hx431_0⟩ := Kd.at_int HR1.out x13_1 p431 q431
    cases e431
    replace p431 := eq_true p431
    replace q431 := eq_true q431
    go_wp2
    repeat (go_quiet (fail); try go_wp2)
    go_ret
    exact ⟨by first | rfl | (simp; done) | (simp [*]; done), by repeat (first | exact Drawn0.refl _ | apply Drawn0.step)⟩
   have c8b0 := beq_iff_eq.mpr c8
   have c8b1 := bne_eq_false_iff_eq.mpr c8
   clear c8
   have H' := K_ H
   clear H
   have p430 : 0 ≤ (x13_1 : Int) := of_decide_eq_true (by assumption)
   have q430 : x13_1 < (l0.length : Int) := of_decide_eq_true (by assumption)
   obtain ⟨ad430, e430, hx430_0⟩ := Kd.at_int HR0.out x13_1 p430 q430
   cases e430
   replace p430 := eq_true p430
   replace q430 := eq_true q430
   have p431 : 0 ≤ (x13_1 : Int) := of_decide_eq_true (by assumption)
   have q431 : x13_1 < (l1.length : Int) := of_decide_eq_true (by assumption)
   obtain ⟨ad431, e431, hx431_0⟩ := Kd.at_int HR1.out x13_1 p431 q431
   cases e431
   replace p431 := eq_true p431
   replace q431 := eq_true q431
   go_wp2
   repeat (go_quiet (fail); try go_wp2)
   go_roundg k1
   case measure => have := HK1.out; omega
   case rel => exact ⟨(wrap64 (x13_1 + 1)), rfl, H', ⟨by have := HK1.out; omega⟩, by repeat (first | exact Drawn0.refl _ | apply Drawn0.step)⟩


/-! ### spec_l5Cur_next: function 93 -/
def spec_l5Cur_next.f (s0_0 : List Int) (s0_1 : Int) (s0_2 : Int) : Option (Int × Int × Int) := if s0_1 < (s0_0.length : Int) then (if 0 ≤ s0_1 then (some (wrap64 (rd s0_0 s0_1), wrap64 (s0_1 + 1), IntKind.u64.wrap ((IntKind.u64.wrap ((IntKind.u64.wrap (s0_2 * 6364136223846793005)) + (IntKind.u64.wrap (rd s0_0 s0_1)))) + 1442695040888963407))) else (none)) else (some (wrap64 (Go.bits .and .u64 ((IntKind.u64.wrap ((IntKind.u64.wrap (s0_2 * 6364136223846793005)) + 1442695040888963407)) / 1099511627776) 255), wrap64 (s0_1 + 1), IntKind.u64.wrap ((IntKind.u64.wrap (s0_2 * 6364136223846793005)) + 1442695040888963407)))
set_option maxHeartbeats 8000000 in
set_option maxRecDepth 100000 in
theorem spec_l5Cur_next.calls (g : Nat) (s0_0 : List Int) (s0_1 : Int) (s0_2 : Int) (r1 : Int) (r2 : Int) (r3 : Int) (w0 w : World) (hI : IsS67 w0 w g s0_0 s0_1 s0_2) (hB : Below w0.heap.size w0 w) (h : spec_l5Cur_next.f s0_0 s0_1 s0_2 = some (r1, r2, r3)) :
  Calls Try.prog 93 #[.pointer (some ⟨g, 0, none⟩)] w fun e w' => e = .returned (.int .i64 r1) ∧ IsS67 w0 w' g s0_0 r2 r3 ∧ Below w0.heap.size w0 w' ∧ KeepBut w w' g none := by
 have HI0 := K_ hI
 have HK := K_ (KeepBut.refl w g none)
 have HL := K_ hB.size
 clear hI
 have HW0 := K_ hB.size
 have HB := K_ hB
 clear hB
 unfold spec_l5Cur_next.f at h
 have H := h
 clear h
 replace H := ds_ H
 rcases H with ⟨c2b0, H⟩ | ⟨c2b0, H⟩
 case inr =>
  simp only [Option.some.injEq, Prod.mk.injEq] at H
  obtain ⟨rfl, rfl, rfl⟩ := H
  obtain ⟨ASz5_0, cSz5_0, HGz5, hgz5, HSz5_0⟩ := HI0.out
  have hcz5_0 := cellS67_0 HGz5
  have hcz5_1 := cellS67_1 HGz5
  have hcz5_2 := cellS67_2 HGz5
  have hfz5_1 := blk_frozen HGz5 1
  have hfz5_2 := blk_frozen HGz5 2
  clear HGz5 hgz5
  go_enter Try.func93, Try.ntmps93
  go_wp2
  repeat (go_quiet (fail); try go_wp2)
  go_ret
  exact ⟨by first | rfl | (simp [errW_none, errW_some] <;> rfl) | (simp [*, errW_none, errW_some] <;> rfl), by repeat (first | (with_reducible first | exact HI0.out | apply IsS67.alloc | apply IsS67.drewN | apply IsS67.drew | apply IsS67.set_1 | apply IsS67.set_2) | exact HI0.out), by repeat (first | (with_reducible first | exact HB.out | apply below_alloc | apply pw_below_drewN | apply below_drew1 | refine below_set ?_ (IsS67.ge HI0.out)) | exact HB.out), by repeat (first | (with_reducible first | exact HK.out | apply KeepBut.set_ | apply keep_drewN | apply keep_drew | apply keep_alloc) | exact HK.out)⟩
 replace H := dn_ H
 obtain ⟨c3b0, H⟩ := H
 simp only [Option.some.injEq, Prod.mk.injEq] at H
 obtain ⟨rfl, rfl, rfl⟩ := H
 obtain ⟨ASz4_0, cSz4_0, HGz4, hgz4, HSz4_0⟩ := HI0.out
 have hcz4_0 := cellS67_0 HGz4
 have hcz4_1 := cellS67_1 HGz4
 have hcz4_2 := cellS67_2 HGz4
 have hfz4_1 := blk_frozen HGz4 1
 have hfz4_2 := blk_frozen HGz4 2
 clear HGz4 hgz4
 have p101 : 0 ≤ (s0_1 : Int) := of_decide_eq_true (by assumption)
 have q101 : s0_1 < (s0_0.length : Int) := of_decide_eq_true (by assumption)
 obtain ⟨ad101, e101, hx101_0⟩ := Kd.at_int HSz4_0 s0_1 p101 q101
 cases e101
 replace hx101_0 := pw_cell_below HB.out hx101_0
 replace p101 := eq_true p101
 replace q101 := eq_true q101
 go_enter Try.func93, Try.ntmps93
 go_wp2
 repeat (go_quiet (fail); try go_wp2)
 go_ret
 exact ⟨by first | rfl | (simp [errW_none, errW_some] <;> rfl) | (simp [*, errW_none, errW_some] <;> rfl), by repeat (first | (with_reducible first | exact HI0.out | apply IsS67.alloc | apply IsS67.drewN | apply IsS67.drew | apply IsS67.set_1 | apply IsS67.set_2) | exact HI0.out), by repeat (first | (with_reducible first | exact HB.out | apply below_alloc | apply pw_below_drewN | apply below_drew1 | refine below_set ?_ (IsS67.ge HI0.out)) | exact HB.out), by repeat (first | (with_reducible first | exact HK.out | apply KeepBut.set_ | apply keep_drewN | apply keep_drew | apply keep_alloc) | exact HK.out)⟩


/-! ### spec_l5Cur_pick: function 83 -/
def spec_l5Cur_pick.f (s0_0 : List Int) (s0_1 : Int) (s0_2 : Int) (a1 : Int) : Option (Int × Int × Int) := if a1 ≤ 1 then (some (0, s0_1, s0_2)) else ((spec_l5Cur_next.f s0_0 s0_1 s0_2).bind fun bt102 => (if a1 > 200 then ((spec_l5Cur_next.f s0_0 bt102.2.1 bt102.2.2).bind fun bt105 => (if a1 = 0 then (none) else (some (Int.tmod (wrap64 ((wrap64 (bt102.1 * 256)) + bt105.1)) a1, bt105.2.1, bt105.2.2)))) else (if a1 = 0 then (none) else (some (Int.tmod bt102.1 a1, bt102.2.1, bt102.2.2)))))
set_option maxHeartbeats 8000000 in
set_option maxRecDepth 100000 in
theorem spec_l5Cur_pick.calls (g : Nat) (s0_0 : List Int) (s0_1 : Int) (s0_2 : Int) (a1 : Int) (r1 : Int) (r2 : Int) (r3 : Int) (w0 w : World) (hI : IsS67 w0 w g s0_0 s0_1 s0_2) (hB : Below w0.heap.size w0 w) (h : spec_l5Cur_pick.f s0_0 s0_1 s0_2 a1 = some (r1, r2, r3)) :
  Calls Try.prog 83 #[.pointer (some ⟨g, 0, none⟩), .int .i64 a1] w fun e w' => e = .returned (.int .i64 r1) ∧ IsS67 w0 w' g s0_0 r2 r3 ∧ Below w0.heap.size w0 w' ∧ KeepBut w w' g none := by
 have HI0 := K_ hI
 have HK := K_ (KeepBut.refl w g none)
 have HL := K_ hB.size
 clear hI
 have HW0 := K_ hB.size
 have HB := K_ hB
 clear hB
 unfold spec_l5Cur_pick.f at h
 have H := h
 clear h
 replace H := ds_ H
 rcases H with ⟨c3b0, H⟩ | ⟨c3b0, H⟩
 case inl =>
  simp only [Option.some.injEq, Prod.mk.injEq] at H
  obtain ⟨rfl, rfl, rfl⟩ := H
  go_enter Try.func83, Try.ntmps83
  go_wp2
  go_ret
  exact ⟨rfl, by repeat (first | (with_reducible first | exact HI0.out | apply IsS67.alloc | apply IsS67.drewN | apply IsS67.drew | apply IsS67.set_1 | apply IsS67.set_2) | exact HI0.out), by repeat (first | (with_reducible first | exact HB.out | refine below_set ?_ (IsS67.ge HI0.out)) | exact HB.out), by repeat (first | (with_reducible first | exact HK.out | apply KeepBut.set_ | apply keep_drewN | apply keep_drew | apply keep_alloc) | exact HK.out)⟩
 replace H := Option.bind_eq_some_iff.mp H
 obtain ⟨⟨t102, t103, t104⟩, A40, H⟩ := H
 try dsimp only at H
 have A4 := K_ A40
 clear A40
 by_cases c5 : a1 > 200
 case neg =>
  rw [if_neg c5] at H
  have c5b0 := decide_eq_false c5
  clear c5
  replace H := nn_ H
  obtain ⟨c10, H⟩ := H
  have c10b0 := beq_eq_false_iff_ne.mpr c10
  have c10b1 := bne_iff_ne.mpr c10
  simp only [Option.some.injEq, Prod.mk.injEq] at H
  obtain ⟨rfl, rfl, rfl⟩ := H
  go_enter Try.func83, Try.ntmps83
  go_wp2_with (first | ((with_reducible refine gate_callee (f := 93) rfl ?_); refine goesL_ (some 9) rfl rfl Try.func93 (by kernel_rfl) rfl #[.pointer (some ⟨g, 0, none⟩)] rfl (by simp only [List.map_toArray, List.map_cons, List.map_nil]; try rfl) ?_; (with_reducible refine (spec_l5Cur_next.calls g s0_0 s0_1 s0_2 t102 t103 t104 w0 _ ?side1 ?side2 A4.out).mono ?_); (case side1 => repeat (first | (with_reducible first | exact HI0.out | apply IsS67.alloc | apply IsS67.drewN | apply IsS67.drew | apply IsS67.set_1 | apply IsS67.set_2) | exact HI0.out)); (case side2 => repeat (first | (with_reducible first | exact HB.out | refine below_set ?_ (IsS67.ge HI0.out)) | exact HB.out)); rintro e w11 ⟨rfl, hi, hb, hk⟩; refine ⟨_, rfl, ?_⟩; replace HK := K_ (KeepBut.trans (by repeat (first | (with_reducible first | exact HK.out | apply KeepBut.set_ | apply keep_drewN | apply keep_drew | apply keep_alloc) | exact HK.out)) hk (.inl rfl)); replace HB := K_ (hb); replace HI0 := K_ (hi); clear hb hk hi))
  go_ret
  exact ⟨rfl, by repeat (first | (with_reducible first | exact HI0.out | apply IsS67.alloc | apply IsS67.drewN | apply IsS67.drew | apply IsS67.set_1 | apply IsS67.set_2) | exact HI0.out), by repeat (first | (with_reducible first | exact HB.out | refine below_set ?_ (IsS67.ge HI0.out)) | exact HB.out), by repeat (first | (with_reducible first | exact HK.out | apply KeepBut.set_ | apply keep_drewN | apply keep_drew | apply keep_alloc) | exact HK.out)⟩
 rw [if_pos c5] at H
 have c5b0 := decide_eq_true c5
 clear c5
 replace H := Option.bind_eq_some_iff.mp H
 obtain ⟨⟨t105, t106, t107⟩, A60, H⟩ := H
 try dsimp only at H
 have A6 := K_ A60
 clear A60
 replace H := nn_ H
 obtain ⟨c7, H⟩ := H
 have c7b0 := beq_eq_false_iff_ne.mpr c7
 have c7b1 := bne_iff_ne.mpr c7
 simp only [Option.some.injEq, Prod.mk.injEq] at H
 obtain ⟨rfl, rfl, rfl⟩ := H
 go_enter Try.func83, Try.ntmps83
 go_wp2_with (first | ((with_reducible refine gate_callee (f := 93) rfl ?_); refine goesL_ (some 9) rfl rfl Try.func93 (by kernel_rfl) rfl #[.pointer (some ⟨g, 0, none⟩)] rfl (by simp only [List.map_toArray, List.map_cons, List.map_nil]; try rfl) ?_; (with_reducible refine (spec_l5Cur_next.calls g s0_0 s0_1 s0_2 t102 t103 t104 w0 _ ?side1 ?side2 A4.out).mono ?_); (case side1 => repeat (first | (with_reducible first | exact HI0.out | apply IsS67.alloc | apply IsS67.drewN | apply IsS67.drew | apply IsS67.set_1 | apply IsS67.set_2) | exact HI0.out)); (case side2 => repeat (first | (with_reducible first | exact HB.out | refine below_set ?_ (IsS67.ge HI0.out)) | exact HB.out)); rintro e w8 ⟨rfl, hi, hb, hk⟩; refine ⟨_, rfl, ?_⟩; replace HK := K_ (KeepBut.trans (by repeat (first | (with_reducible first | exact HK.out | apply KeepBut.set_ | apply keep_drewN | apply keep_drew | apply keep_alloc) | exact HK.out)) hk (.inl rfl)); replace HB := K_ (hb); replace HI0 := K_ (hi); clear hb hk hi) | ((with_reducible refine gate_callee (f := 93) rfl ?_); refine goesL_ (some 15) rfl rfl Try.func93 (by kernel_rfl) rfl #[.pointer (some ⟨g, 0, none⟩)] rfl (by simp only [List.map_toArray, List.map_cons, List.map_nil]; try rfl) ?_; (with_reducible refine (spec_l5Cur_next.calls g s0_0 t103 t104 t105 t106 t107 w0 _ ?side1 ?side2 A6.out).mono ?_); (case side1 => repeat (first | (with_reducible first | exact HI0.out | apply IsS67.alloc | apply IsS67.drewN | apply IsS67.drew | apply IsS67.set_1 | apply IsS67.set_2) | exact HI0.out)); (case side2 => repeat (first | (with_reducible first | exact HB.out | refine below_set ?_ (IsS67.ge HI0.out)) | exact HB.out)); rintro e w9 ⟨rfl, hi, hb, hk⟩; refine ⟨_, rfl, ?_⟩; replace HK := K_ (KeepBut.trans (by repeat (first | (with_reducible first | exact HK.out | apply KeepBut.set_ | apply keep_drewN | apply keep_drew | apply keep_alloc) | exact HK.out)) hk (.inl rfl)); replace HB := K_ (hb); replace HI0 := K_ (hi); clear hb hk hi))
 go_ret
 exact ⟨rfl, by repeat (first | (with_reducible first | exact HI0.out | apply IsS67.alloc | apply IsS67.drewN | apply IsS67.drew | apply IsS67.set_1 | apply IsS67.set_2) | exact HI0.out), by repeat (first | (with_reducible first | exact HB.out | refine below_set ?_ (IsS67.ge HI0.out)) | exact HB.out), by repeat (first | (with_reducible first | exact HK.out | apply KeepBut.set_ | apply keep_drewN | apply keep_drew | apply keep_alloc) | exact HK.out)⟩


/-! ### spec_l1there: function 84 -/
def spec_l1there.l0 : Nat → Int → Int → List (S35) → Int → Int → Option (Int)
 | 0, _, _, _, _, _ => none
 | k + 1, x1, x5, x9, x10, x11 => if x11 < x10 then (if 0 ≤ x11 then (if x11 < (x9.length : Int) then (if ((rd_T35 x9 x11).f0) = x1 then (spec_l1there.l0 k x1 (wrap64 (x5 + 1)) x9 x10 (wrap64 (x11 + 1))) else (spec_l1there.l0 k x1 x5 x9 x10 (wrap64 (x11 + 1)))) else (none)) else (none)) else (some x5)
def spec_l1there.f (k : Nat) (l0_0 : List Int) (l0_1 : List (S35)) (l0_2 : List Int) (a1 : Int) : Option (Int) := spec_l1there.l0 k a1 0 l0_1 (l0_1.length : Int) 0
theorem spec_l1there.mono_l : ∀ k, (∀ y0 y1 y2 y3 y4, LeO (spec_l1there.l0 k y0 y1 y2 y3 y4) (spec_l1there.l0 (k + 1) y0 y1 y2 y3 y4))
 | 0 => fun _ _ _ _ _ r h => by simp [spec_l1there.l0] at h
 | k + 1 => by
  have ih0 := spec_l1there.mono_l k
  ·intro y0 y1 y2 y3 y4
   unfold spec_l1there.l0
   repeat' with_reducible first | exact ih0 _ _ _ _ _ | exact LeO.refl _ | exact LeO.none _ | refine LeO.ite ?_ ?_ | refine LeO.bind ?_ (fun _ => ?_)
theorem spec_l1there.mono : ∀ a0 a1 a2 a3 k, LeO (spec_l1there.f k a0 a1 a2 a3) (spec_l1there.f (k + 1) a0 a1 a2 a3) := by
 intro a0 a1 a2 a3 k
 have ih0 := spec_l1there.mono_l k
 unfold spec_l1there.f
 repeat' with_reducible first | exact ih0 _ _ _ _ _ | exact LeO.refl _ | exact LeO.none _ | refine LeO.ite ?_ ?_ | refine LeO.bind ?_ (fun _ => ?_)
set_option maxHeartbeats 8000000 in
set_option maxRecDepth 100000 in
theorem spec_l1there.calls (k : Nat) (A0_0 : Option Addr) (c0_0 : Nat) (l0_0 : List Int) (A0_1 : Option Addr) (c0_1 : Nat) (l0_1 : List (S35)) (A0_2 : Option Addr) (c0_2 : Nat) (l0_2 : List Int) (a1 : Int) (r : Int) (w : World) (hr0_0 : Kd.C (Kd.int .i64) w A0_0 l0_0.length l0_0) (hc0_0 : l0_0.length ≤ c0_0) (hr0_1 : Kd.C k35 w A0_1 l0_1.length l0_1) (hc0_1 : l0_1.length ≤ c0_1) (hr0_2 : Kd.C (Kd.int .i64) w A0_2 l0_2.length l0_2) (hc0_2 : l0_2.length ≤ c0_2) (h : spec_l1there.f k l0_0 l0_1 l0_2 a1 = some r) :
  Calls Try.prog 84 #[.agg #[.slice A0_0 l0_0.length c0_0, .slice A0_1 l0_1.length c0_1, .slice A0_2 l0_2.length c0_2], .int .i64 a1] w fun e w' => e = .returned (.int .i64 r) ∧ Below w.heap.size w w' := by
 have hu26 := Try.underlying26
 have hu35 := Try.underlying35
 have HR0_0 := K_ hr0_0
 have HC0_0 := K_ hc0_0
 clear hr0_0 hc0_0
 have HR0_1 := K_ hr0_1
 have HC0_1 := K_ hc0_1
 clear hr0_1 hc0_1
 have HR0_2 := K_ hr0_2
 have HC0_2 := K_ hc0_2
 clear hr0_2 hc0_2
 have HB := K_ (Below.refl w.heap.size w)
 unfold spec_l1there.f at h
 have H := h
 clear h
 have H' := K_ H
 clear H
 go_enter Try.func84, Try.ntmps84
 go_wp2_with (first | ((with_reducible refine gate_dst (N := 2) rfl ?_); refine box_event (by rfl) (N := 2) (by rfl) (cs := #[.slice A0_0 l0_0.length c0_0, .slice A0_1 l0_1.length c0_1, .slice A0_2 l0_2.length c0_2]) (t := 26) (by go_simp; try rfl) ?_; intro gb108 hg w3 hbox hb; have BK108 := K_ (hbox); have GW108 := ge_ hg HB.out; have GE108 := ge_ hg HB.out; replace HB := K_ (below_step HB.out hb); clear hb hbox hg; obtain ⟨hcz4_0, hcz4_1, hcz4_2, hfz4_0, hfz4_1, hfz4_2⟩ := blkf3_ BK108.out))
 go_loopg [5, 11] k (fun kq v5 v11 w' => ∃ (x5_1 : Int) (x11_1 : Int), v5 = .int .i64 x5_1 ∧ v11 = .int .i64 x11_1 ∧ Aside0 (spec_l1there.l0 kq a1 x5_1 l0_1 (l0_1.length : Int) x11_1 = some r) ∧ Aside0 (kq ≤ k) ∧ Aside0 (w'.heap[gb108]? = some (.cells #[(.slice A0_0 l0_0.length c0_0), (.slice A0_1 l0_1.length c0_1), (.slice A0_2 l0_2.length c0_2)] 26 (0, 0))) ∧ Aside0 (Below w.heap.size w w'))
 case atStart => exact ⟨(0), (0), rfl, rfl, H', ⟨Nat.le_refl _⟩, ⟨BK108.out⟩, ⟨HB.out⟩⟩
 case round =>
  clear H'
  clear hcz4_0 hcz4_1 hcz4_2 hfz4_0 hfz4_1 hfz4_2
  obtain ⟨x5_1, x11_1, rfl, rfl, HA, HK1, BK108, HB⟩ := hrel
  cases gk with
  | zero => exact absurd HA.out (by simp [spec_l1there.l0])
  | succ k1 =>
   have H := HA.out
   clear HA
   simp only [spec_l1there.l0] at H
   replace H := ds_ H
   rcases H with ⟨c5b0, H⟩ | ⟨c5b0, H⟩
   case inr =>
    obtain rfl := Option.some.inj H
    go_wp2
    go_ret
    exact ⟨rfl, HB.out⟩
   replace H := dn_ H
   obtain ⟨c6b0, H⟩ := H
   replace H := dn_ H
   obtain ⟨c7b0, H⟩ := H
   replace H := ps_ H
   rcases H with ⟨c8, H⟩ | ⟨c8, H⟩
   case inr =>
    have c8b0 := beq_eq_false_iff_ne.mpr c8
    have c8b1 := bne_iff_ne.mpr c8
    have H' := K_ H
    clear H
    have p109 : 0 ≤ (x11_1 : Int) := of_decide_eq_true (by assumption)
    have q109 : x11_1 < (l0_1.length : Int) := of_decide_eq_true (by assumption)
    obtain ⟨ad109, A109_1, c109_1, e109, hx109_0, hx109_1, hx109_2, hl109_1, hi109_1⟩ := at_T35 HR0_1.out x11_1 p109 q109
    cases e109
    replace hx109_0 := (HB.out.cell (World.block_lt_of_cell? w _ hx109_0)).trans hx109_0
    replace hx109_1 := (HB.out.cell (World.block_lt_of_cell? w _ hx109_1)).trans hx109_1
    replace hx109_2 := (HB.out.cell (World.block_lt_of_cell? w _ hx109_2)).trans hx109_2
    have HR109_1 := K_ hi109_1
    have HC109_1 := K_ hl109_1
    clear hi109_1 hl109_1
    replace p109 := eq_true p109
    replace q109 := eq_true q109
    go_wp2_with (first | ((with_reducible refine gate_dst (N := 7) rfl ?_); refine box_event (by rfl) (N := 7) (by rfl) (cs := #[.int .i64 0, .slice none 0 0, .int .i64 0]) (t := 35) (by go_simp; try rfl) ?_; intro gb110 hg w12 hbox hb; have BK110 := K_ (hbox); have GW110 := ge_ hg HB.out; have GE110 := ge_ hg HB.out; have NB108_110 := nl_ hg BK108.out; have NB110_108 := ng_ hg BK108.out; replace BK108 := K_ (blk_below BK108.out hb); replace HB := K_ (below_step HB.out hb); clear hb hbox hg; have hnb13 := NB110_108.out; have hnc13 := NB108_110.out; obtain ⟨hcz14_0, hcz14_1, hcz14_2, hfz14_0, hfz14_1, hfz14_2⟩ := blkf3_ BK110.out))
    go_roundg k1
    case measure => have := HK1.out; omega
    case rel => exact ⟨(x5_1), (wrap64 (x11_1 + 1)), rfl, rfl, H', ⟨by have := HK1.out; omega⟩, ⟨by refine blk_far ?_ NB108_110.out _; refine blk_far ?_ NB108_110.out _; refine blk_far ?_ NB108_110.out _; exact BK108.out⟩, ⟨by repeat (first | exact HB.out | refine below_set ?_ GE108.out | refine below_set ?_ GE110.out)⟩⟩
   have c8b0 := beq_iff_eq.mpr c8
   have c8b1 := bne_eq_false_iff_eq.mpr c8
   clear c8
   have H' := K_ H
   clear H
   have p109 : 0 ≤ (x11_1 : Int) := of_decide_eq_true (by assumption)
   have q109 : x11_1 < (l0_1.length : Int) := of_decide_eq_true (by assumption)
   obtain ⟨ad109, A109_1, c109_1, e109, hx109_0, hx109_1, hx109_2, hl109_1, hi109_1⟩ := at_T35 HR0_1.out x11_1 p109 q109
   cases e109
   replace hx109_0 := (HB.out.cell (World.block_lt_of_cell? w _ hx109_0)).trans hx109_0
   replace hx109_1 := (HB.out.cell (World.block_lt_of_cell? w _ hx109_1)).trans hx109_1
   replace hx109_2 := (HB.out.cell (World.block_lt_of_cell? w _ hx109_2)).trans hx109_2
   have HR109_1 := K_ hi109_1
   have HC109_1 := K_ hl109_1
   clear hi109_1 hl109_1
   replace p109 := eq_true p109
   replace q109 := eq_true q109
   go_wp2_with (first | ((with_reducible refine gate_dst (N := 7) rfl ?_); refine box_event (by rfl) (N := 7) (by rfl) (cs := #[.int .i64 0, .slice none 0 0, .int .i64 0]) (t := 35) (by go_simp; try rfl) ?_; intro gb110 hg w9 hbox hb; have BK110 := K_ (hbox); have GW110 := ge_ hg HB.out; have GE110 := ge_ hg HB.out; have NB108_110 := nl_ hg BK108.out; have NB110_108 := ng_ hg BK108.out; replace BK108 := K_ (blk_below BK108.out hb); replace HB := K_ (below_step HB.out hb); clear hb hbox hg; have hnb10 := NB110_108.out; have hnc10 := NB108_110.out; obtain ⟨hcz11_0, hcz11_1, hcz11_2, hfz11_0, hfz11_1, hfz11_2⟩ := blkf3_ BK110.out))
   go_roundg k1
   case measure => have := HK1.out; omega
   case rel => exact ⟨(wrap64 (x5_1 + 1)), (wrap64 (x11_1 + 1)), rfl, rfl, H', ⟨by have := HK1.out; omega⟩, ⟨by refine blk_far ?_ NB108_110.out _; refine blk_far ?_ NB108_110.out _; refine blk_far ?_ NB108_110.out _; exact BK108.out⟩, ⟨by repeat (first | exact HB.out | refine below_set ?_ GE108.out | refine below_set ?_ GE110.out)⟩⟩


/-! ### spec_l1in: function 86 -/
def spec_l1in.f (a0 : Int) (a1 : Int) (a2 : Int) : Option (Bool) := if a0 ≥ a1 then (some (decide (a0 ≤ a2))) else (some false)
set_option maxHeartbeats 8000000 in
set_option maxRecDepth 100000 in
theorem spec_l1in.calls (a0 : Int) (a1 : Int) (a2 : Int) (r : Bool) (w : World) (h : spec_l1in.f a0 a1 a2 = some r) :
  Calls Try.prog 86 #[.int .i64 a0, .int .i64 a1, .int .i64 a2] w fun e w' => e = .returned (.bool r) ∧ Drawn0 w w' := by
 unfold spec_l1in.f at h
 have H := h
 clear h
 replace H := ps_ H
 rcases H with ⟨c4, H⟩ | ⟨c4, H⟩
 case inr =>
  have c4b0 := decide_eq_false c4
  clear c4
  obtain rfl := Option.some.inj H
  go_enter Try.func86, Try.ntmps86
  go_wp2
  go_ret
  exact ⟨by first | rfl | (simp; done) | (simp [*]; done), by repeat (first | exact Drawn0.refl _ | apply Drawn0.step)⟩
 have c4b0 := decide_eq_true c4
 clear c4
 obtain rfl := Option.some.inj H
 go_enter Try.func86, Try.ntmps86
 go_wp2
 go_ret
 exact ⟨by first | rfl | (simp; done) | (simp [*]; done), by repeat (first | exact Drawn0.refl _ | apply Drawn0.step)⟩


/-! ### spec_StateOk: function 67 -/
mutual
def spec_StateOk.j0 : Nat → Bool → List Int → List (S35) → List Int → Option (Int)
 | 0, _, _, _, _ => none
 | k + 1, x33, x00, x01, x02 => if x33 = true then (some 1) else (spec_StateOk.l0 k x00 (x00.length : Int) 0 x00 x01 x02)
def spec_StateOk.l0 : Nat → List Int → Int → Int → List Int → List (S35) → List Int → Option (Int)
 | 0, _, _, _, _, _, _ => none
 | k + 1, x35, x36, x37, x00, x01, x02 => if x37 < x36 then (if 0 ≤ x37 then (if x37 < (x35.length : Int) then ((spec_l1in.f (rd x35 x37) 1 5).bind fun t210 => (if t210 = true then (spec_StateOk.l0 k x35 x36 (wrap64 (x37 + 1)) x00 x01 x02) else (some 2))) else (none)) else (none)) else (spec_StateOk.l1 k x01 (x01.length : Int) 0 x00 x01 x02)
def spec_StateOk.l1 : Nat → List (S35) → Int → Int → List Int → List (S35) → List Int → Option (Int)
 | 0, _, _, _, _, _, _ => none
 | k + 1, x46, x47, x48, x00, x01, x02 => if x48 < x47 then (if 0 ≤ x48 then (if x48 < (x46.length : Int) then ((spec_l1in.f ((rd_T35 x46 x48).f0) 0 (wrap64 ((x00.length : Int) - 1))).bind fun t213 => (if t213 = true then (if (((rd_T35 x46 x48).f1).length : Int) > 8 then (spec_StateOk.j3 k x46 x47 x48 true x00 x01 x02 ((rd_T35 x46 x48).f0) ((rd_T35 x46 x48).f1) ((rd_T35 x46 x48).f2)) else ((spec_l1in.f ((rd_T35 x46 x48).f2) 1 100).bind fun t214 => (spec_StateOk.j3 k x46 x47 x48 (!t214) x00 x01 x02 ((rd_T35 x46 x48).f0) ((rd_T35 x46 x48).f1) ((rd_T35 x46 x48).f2)))) else (spec_StateOk.j3 k x46 x47 x48 true x00 x01 x02 ((rd_T35 x46 x48).f0) ((rd_T35 x46 x48).f1) ((rd_T35 x46 x48).f2)))) else (none)) else (none)) else (spec_StateOk.l3 k x02 (x02.length : Int) 0 x00 x01 x02)
def spec_StateOk.j3 : Nat → List (S35) → Int → Int → Bool → List Int → List (S35) → List Int → Int → List Int → Int → Option (Int)
 | 0, _, _, _, _, _, _, _, _, _, _ => none
 | k + 1, x46, x47, x48, x71, x00, x01, x02, x03, x04, x05 => if x71 = true then (some 3) else (spec_StateOk.l2 k x03 x46 x47 x48 x04 (x04.length : Int) 0 x00 x01 x02)
def spec_StateOk.l2 : Nat → Int → List (S35) → Int → Int → List Int → Int → Int → List Int → List (S35) → List Int → Option (Int)
 | 0, _, _, _, _, _, _, _, _, _, _ => none
 | k + 1, x7, x46, x47, x48, x75, x76, x77, x00, x01, x02 => if x77 < x76 then (if 0 ≤ x77 then (if x77 < (x75.length : Int) then ((spec_l1in.f (rd x75 x77) 0 (wrap64 ((x00.length : Int) - 1))).bind fun t216 => (if t216 = true then (if (rd x75 x77) = x7 then (some 3) else (spec_StateOk.l2 k (rd x75 x77) x46 x47 x48 x75 x76 (wrap64 (x77 + 1)) x00 x01 x02)) else (some 3))) else (none)) else (none)) else (spec_StateOk.l1 k x46 x47 (wrap64 (x48 + 1)) x00 x01 x02)
def spec_StateOk.l3 : Nat → List Int → Int → Int → List Int → List (S35) → List Int → Option (Int)
 | 0, _, _, _, _, _, _ => none
 | k + 1, x97, x98, x99, x00, x01, x02 => if x99 < x98 then (if 0 ≤ x99 then (if x99 < (x97.length : Int) then ((spec_l1in.f (rd x97 x99) 0 1000).bind fun t218 => (if t218 = true then (if x99 > 0 then (if 0 ≤ (wrap64 (x99 - 1)) then (if (wrap64 (x99 - 1)) < (x02.length : Int) then (if (rd x97 x99) ≤ (rd x02 (wrap64 (x99 - 1))) then (some 4) else (spec_StateOk.l3 k x97 x98 (wrap64 (x99 + 1)) x00 x01 x02)) else (none)) else (none)) else (spec_StateOk.l3 k x97 x98 (wrap64 (x99 + 1)) x00 x01 x02)) else (some 4))) else (none)) else (none)) else (spec_StateOk.l4 k x00 (x00.length : Int) 0 x00 x01 x02)
def spec_StateOk.l4 : Nat → List Int → Int → Int → List Int → List (S35) → List Int → Option (Int)
 | 0, _, _, _, _, _, _ => none
 | k + 1, x123, x124, x125, x00, x01, x02 => if x125 < x124 then (if 0 ≤ x125 then (if x125 < (x123.length : Int) then ((spec_l1there.f k x00 x01 x02 x125).bind fun t221 => (if t221 > (rd x123 x125) then (some 5) else (spec_StateOk.l4 k x123 x124 (wrap64 (x125 + 1)) x00 x01 x02))) else (none)) else (none)) else (some 0)
end
def spec_StateOk.f (k : Nat) (l0_0 : List Int) (l0_1 : List (S35)) (l0_2 : List Int) : Option (Int) := (spec_l1in.f (l0_0.length : Int) 1 40).bind fun t208 => (if t208 = true then (if (l0_1.length : Int) > 5 then (spec_StateOk.j0 k true l0_0 l0_1 l0_2) else (spec_StateOk.j0 k ((l0_2.length : Int) != (l0_1.length : Int)) l0_0 l0_1 l0_2)) else (spec_StateOk.j0 k true l0_0 l0_1 l0_2))
theorem spec_StateOk.mono_l : ∀ k, (∀ y0 y1 y2 y3, LeO (spec_StateOk.j0 k y0 y1 y2 y3) (spec_StateOk.j0 (k + 1) y0 y1 y2 y3)) ∧ (∀ y0 y1 y2 y3 y4 y5, LeO (spec_StateOk.l0 k y0 y1 y2 y3 y4 y5) (spec_StateOk.l0 (k + 1) y0 y1 y2 y3 y4 y5)) ∧ (∀ y0 y1 y2 y3 y4 y5, LeO (spec_StateOk.l1 k y0 y1 y2 y3 y4 y5) (spec_StateOk.l1 (k + 1) y0 y1 y2 y3 y4 y5)) ∧ (∀ y0 y1 y2 y3 y4 y5 y6 y7 y8 y9, LeO (spec_StateOk.j3 k y0 y1 y2 y3 y4 y5 y6 y7 y8 y9) (spec_StateOk.j3 (k + 1) y0 y1 y2 y3 y4 y5 y6 y7 y8 y9)) ∧ (∀ y0 y1 y2 y3 y4 y5 y6 y7 y8 y9, LeO (spec_StateOk.l2 k y0 y1 y2 y3 y4 y5 y6 y7 y8 y9) (spec_StateOk.l2 (k + 1) y0 y1 y2 y3 y4 y5 y6 y7 y8 y9)) ∧ (∀ y0 y1 y2 y3 y4 y5, LeO (spec_StateOk.l3 k y0 y1 y2 y3 y4 y5) (spec_StateOk.l3 (k + 1) y0 y1 y2 y3 y4 y5)) ∧ (∀ y0 y1 y2 y3 y4 y5, LeO (spec_StateOk.l4 k y0 y1 y2 y3 y4 y5) (spec_StateOk.l4 (k + 1) y0 y1 y2 y3 y4 y5))
 | 0 => ⟨fun _ _ _ _ r h => by simp [spec_StateOk.j0] at h, fun _ _ _ _ _ _ r h => by simp [spec_StateOk.l0] at h, fun _ _ _ _ _ _ r h => by simp [spec_StateOk.l1] at h, fun _ _ _ _ _ _ _ _ _ _ r h => by simp [spec_StateOk.j3] at h, fun _ _ _ _ _ _ _ _ _ _ r h => by simp [spec_StateOk.l2] at h, fun _ _ _ _ _ _ r h => by simp [spec_StateOk.l3] at h, fun _ _ _ _ _ _ r h => by simp [spec_StateOk.l4] at h⟩
 | k + 1 => by
  obtain ⟨ih0, ih1, ih2, ih3, ih4, ih5, ih6⟩ := spec_StateOk.mono_l k
  refine ⟨?_, ?_, ?_, ?_, ?_, ?_, ?_⟩
  ·intro y0 y1 y2 y3
   unfold spec_StateOk.j0
   repeat' with_reducible first | exact ih0 _ _ _ _ | exact ih1 _ _ _ _ _ _ | exact ih2 _ _ _ _ _ _ | exact ih3 _ _ _ _ _ _ _ _ _ _ | exact ih4 _ _ _ _ _ _ _ _ _ _ | exact ih5 _ _ _ _ _ _ | exact ih6 _ _ _ _ _ _ | exact spec_l1there.mono _ _ _ _ _ | exact LeO.refl _ | exact LeO.none _ | refine LeO.ite ?_ ?_ | refine LeO.bind ?_ (fun _ => ?_)
  ·intro y0 y1 y2 y3 y4 y5
   unfold spec_StateOk.l0
   repeat' with_reducible first | exact ih0 _ _ _ _ | exact ih1 _ _ _ _ _ _ | exact ih2 _ _ _ _ _ _ | exact ih3 _ _ _ _ _ _ _ _ _ _ | exact ih4 _ _ _ _ _ _ _ _ _ _ | exact ih5 _ _ _ _ _ _ | exact ih6 _ _ _ _ _ _ | exact spec_l1there.mono _ _ _ _ _ | exact LeO.refl _ | exact LeO.none _ | refine LeO.ite ?_ ?_ | refine LeO.bind ?_ (fun _ => ?_)
  ·intro y0 y1 y2 y3 y4 y5
   unfold spec_StateOk.l1
   repeat' with_reducible first | exact ih0 _ _ _ _ | exact ih1 _ _ _ _ _ _ | exact ih2 _ _ _ _ _ _ | exact ih3 _ _ _ _ _ _ _ _ _ _ | exact ih4 _ _ _ _ _ _ _ _ _ _ | exact ih5 _ _ _ _ _ _ | exact ih6 _ _ _ _ _ _ | exact spec_l1there.mono _ _ _ _ _ | exact LeO.refl _ | exact LeO.none _ | refine LeO.ite ?_ ?_ | refine LeO.bind ?_ (fun _ => ?_)
  ·intro y0 y1 y2 y3 y4 y5 y6 y7 y8 y9
   unfold spec_StateOk.j3
   repeat' with_reducible first | exact ih0 _ _ _ _ | exact ih1 _ _ _ _ _ _ | exact ih2 _ _ _ _ _ _ | exact ih3 _ _ _ _ _ _ _ _ _ _ | exact ih4 _ _ _ _ _ _ _ _ _ _ | exact ih5 _ _ _ _ _ _ | exact ih6 _ _ _ _ _ _ | exact spec_l1there.mono _ _ _ _ _ | exact LeO.refl _ | exact LeO.none _ | refine LeO.ite ?_ ?_ | refine LeO.bind ?_ (fun _ => ?_)
  ·intro y0 y1 y2 y3 y4 y5 y6 y7 y8 y9
   unfold spec_StateOk.l2
   repeat' with_reducible first | exact ih0 _ _ _ _ | exact ih1 _ _ _ _ _ _ | exact ih2 _ _ _ _ _ _ | exact ih3 _ _ _ _ _ _ _ _ _ _ | exact ih4 _ _ _ _ _ _ _ _ _ _ | exact ih5 _ _ _ _ _ _ | exact ih6 _ _ _ _ _ _ | exact spec_l1there.mono _ _ _ _ _ | exact LeO.refl _ | exact LeO.none _ | refine LeO.ite ?_ ?_ | refine LeO.bind ?_ (fun _ => ?_)
  ·intro y0 y1 y2 y3 y4 y5
   unfold spec_StateOk.l3
   repeat' with_reducible first | exact ih0 _ _ _ _ | exact ih1 _ _ _ _ _ _ | exact ih2 _ _ _ _ _ _ | exact ih3 _ _ _ _ _ _ _ _ _ _ | exact ih4 _ _ _ _ _ _ _ _ _ _ | exact ih5 _ _ _ _ _ _ | exact ih6 _ _ _ _ _ _ | exact spec_l1there.mono _ _ _ _ _ | exact LeO.refl _ | exact LeO.none _ | refine LeO.ite ?_ ?_ | refine LeO.bind ?_ (fun _ => ?_)
  ·intro y0 y1 y2 y3 y4 y5
   unfold spec_StateOk.l4
   repeat' with_reducible first | exact ih0 _ _ _ _ | exact ih1 _ _ _ _ _ _ | exact ih2 _ _ _ _ _ _ | exact ih3 _ _ _ _ _ _ _ _ _ _ | exact ih4 _ _ _ _ _ _ _ _ _ _ | exact ih5 _ _ _ _ _ _ | exact ih6 _ _ _ _ _ _ | exact spec_l1there.mono _ _ _ _ _ | exact LeO.refl _ | exact LeO.none _ | refine LeO.ite ?_ ?_ | refine LeO.bind ?_ (fun _ => ?_)
theorem spec_StateOk.mono : ∀ a0 a1 a2 k, LeO (spec_StateOk.f k a0 a1 a2) (spec_StateOk.f (k + 1) a0 a1 a2) := by
 intro a0 a1 a2 k
 obtain ⟨ih0, ih1, ih2, ih3, ih4, ih5, ih6⟩ := spec_StateOk.mono_l k
 unfold spec_StateOk.f
 repeat' with_reducible first | exact ih0 _ _ _ _ | exact ih1 _ _ _ _ _ _ | exact ih2 _ _ _ _ _ _ | exact ih3 _ _ _ _ _ _ _ _ _ _ | exact ih4 _ _ _ _ _ _ _ _ _ _ | exact ih5 _ _ _ _ _ _ | exact ih6 _ _ _ _ _ _ | exact spec_l1there.mono _ _ _ _ _ | exact LeO.refl _ | exact LeO.none _ | refine LeO.ite ?_ ?_ | refine LeO.bind ?_ (fun _ => ?_)
set_option maxHeartbeats 8000000 in
set_option maxRecDepth 100000 in
theorem spec_StateOk.calls (k : Nat) (A0_0 : Option Addr) (c0_0 : Nat) (l0_0 : List Int) (A0_1 : Option Addr) (c0_1 : Nat) (l0_1 : List (S35)) (A0_2 : Option Addr) (c0_2 : Nat) (l0_2 : List Int) (r : Int) (w : World) (hr0_0 : Kd.C (Kd.int .i64) w A0_0 l0_0.length l0_0) (hc0_0 : l0_0.length ≤ c0_0) (hr0_1 : Kd.C k35 w A0_1 l0_1.length l0_1) (hc0_1 : l0_1.length ≤ c0_1) (hr0_2 : Kd.C (Kd.int .i64) w A0_2 l0_2.length l0_2) (hc0_2 : l0_2.length ≤ c0_2) (h : spec_StateOk.f k l0_0 l0_1 l0_2 = some r) :
  Calls Try.prog 67 #[.agg #[.slice A0_0 l0_0.length c0_0, .slice A0_1 l0_1.length c0_1, .slice A0_2 l0_2.length c0_2]] w fun e w' => e = .returned (.int .i64 r) ∧ Below w.heap.size w w' := by
 have hu26 := Try.underlying26
 have hu35 := Try.underlying35
 have HR0_0 := K_ hr0_0
 have HC0_0 := K_ hc0_0
 clear hr0_0 hc0_0
 have HR0_1 := K_ hr0_1
 have HC0_1 := K_ hc0_1
 clear hr0_1 hc0_1
 have HR0_2 := K_ hr0_2
 have HC0_2 := K_ hc0_2
 clear hr0_2 hc0_2
 have HB := K_ (Below.refl w.heap.size w)
 unfold spec_StateOk.f at h
 have H := h
 clear h
 have HC2 := K_ H
 clear H
 go_enter Try.func67, Try.ntmps67
 go_upto_region 1 with (first | ((with_reducible refine gate_dst (N := 1) rfl ?_); refine box_event (by rfl) (N := 1) (by rfl) (cs := #[.slice A0_0 l0_0.length c0_0, .slice A0_1 l0_1.length c0_1, .slice A0_2 l0_2.length c0_2]) (t := 26) (by go_simp; try rfl) ?_; intro gb207 hg w3 hbox hb; have BK207 := K_ (hbox); have GW207 := ge_ hg HB.out; have GE207 := ge_ hg HB.out; replace HB := K_ (below_step HB.out hb); clear hb hbox hg))
 (try simp only [P_])
 go_cut [33] (fun v33 wc => ∃ (kq : Nat) (x33_1 : Bool), v33 = .bool x33_1 ∧ Aside0 (spec_StateOk.j0 kq x33_1 l0_0 l0_1 l0_2 = some r) ∧ Aside0 (kq ≤ k) ∧ Aside0 (wc.heap[gb207]? = some (.cells #[(.slice A0_0 l0_0.length c0_0), (.slice A0_1 l0_1.length c0_1), (.slice A0_2 l0_2.length c0_2)] 26 (0, 0))) ∧ Aside0 (Below w.heap.size w wc))
 case first =>
  have H := HC2.out
  clear HC2
  replace H := Option.bind_eq_some_iff.mp H
  obtain ⟨t208, A40, H⟩ := H
  try dsimp only at H
  have A4 := K_ A40
  clear A40
  by_cases c5 : t208 = true
  case neg =>
   replace c5 := Bool.eq_false_iff.mpr c5
   subst c5
   rw [if_neg (show ¬ (false = true) by decide)] at H
   have H' := K_ H
   clear H
   obtain ⟨hcz9_0, hcz9_1, hcz9_2, hfz9_0, hfz9_1, hfz9_2⟩ := blkf3_ BK207.out
   go_wp2_with (first | ((with_reducible refine gate_callee (f := 86) rfl ?_); refine goesL_ (some 17) rfl rfl Try.func86 (by kernel_rfl) rfl #[.int .i64 (l0_0.length : Int), .int .i64 1, .int .i64 40] rfl (by simp only [List.map_toArray, List.map_cons, List.map_nil]; try rfl) ?_; (with_reducible refine (spec_l1in.calls (l0_0.length : Int) 1 40 false _ A4.out).mono ?_); rintro e w' ⟨rfl, ⟨nd, rfl⟩⟩; refine ⟨_, rfl, ?_⟩))
   go_meet
   case rel => exact ⟨_, (true), (by first | rfl | (simp; done) | (simp [*]; done)), H', ⟨by first | omega | exact Nat.le_refl _⟩, ⟨by (with_reducible repeat (first | refine blk_drewN ?_ _ | refine blk_drew ?_ | refine blk_alloc ?_ _)); exact BK207.out⟩, ⟨by repeat (first | (with_reducible first | exact HB.out | apply below_alloc | apply pw_below_drewN | apply below_drew1 | refine below_set ?_ GE207.out) | exact HB.out)⟩⟩
  subst c5
  rw [if_pos rfl] at H
  replace H := ps_ H
  rcases H with ⟨c6, H⟩ | ⟨c6, H⟩
  case inr =>
   have c6b0 := decide_eq_false c6
   have c6b1 : decide (5 < l0_1.length) = false := decide_eq_false (by omega)
   clear c6
   (first | rw [c6b0] | (simp only [i64_w, i32_w]; rw [c6b0]) | skip)
   have H' := K_ H
   clear H
   obtain ⟨hcz8_0, hcz8_1, hcz8_2, hfz8_0, hfz8_1, hfz8_2⟩ := blkf3_ BK207.out
   go_wp2_with (first | ((with_reducible refine gate_callee (f := 86) rfl ?_); refine goesL_ (some 17) rfl rfl Try.func86 (by kernel_rfl) rfl #[.int .i64 (l0_0.length : Int), .int .i64 1, .int .i64 40] rfl (by simp only [List.map_toArray, List.map_cons, List.map_nil]; try rfl) ?_; (with_reducible refine (spec_l1in.calls (l0_0.length : Int) 1 40 true _ A4.out).mono ?_); rintro e w' ⟨rfl, ⟨nd, rfl⟩⟩; refine ⟨_, rfl, ?_⟩))
   go_meet
   case rel => exact ⟨_, (((l0_2.length : Int) != (l0_1.length : Int))), (by first | rfl | (simp; done) | (simp [*]; done)), H', ⟨by first | omega | exact Nat.le_refl _⟩, ⟨by (with_reducible repeat (first | refine blk_drewN ?_ _ | refine blk_drew ?_ | refine blk_alloc ?_ _)); exact BK207.out⟩, ⟨by repeat (first | (with_reducible first | exact HB.out | apply below_alloc | apply pw_below_drewN | apply below_drew1 | refine below_set ?_ GE207.out) | exact HB.out)⟩⟩
  have c6b0 := decide_eq_true c6
  have c6b1 : decide (5 < l0_1.length) = true := decide_eq_true (by omega)
  clear c6
  (first | rw [c6b0] | (simp only [i64_w, i32_w]; rw [c6b0]) | skip)
  have H' := K_ H
  clear H
  obtain ⟨hcz7_0, hcz7_1, hcz7_2, hfz7_0, hfz7_1, hfz7_2⟩ := blkf3_ BK207.out
  go_wp2_with (first | ((with_reducible refine gate_callee (f := 86) rfl ?_); refine goesL_ (some 17) rfl rfl Try.func86 (by kernel_rfl) rfl #[.int .i64 (l0_0.length : Int), .int .i64 1, .int .i64 40] rfl (by simp only [List.map_toArray, List.map_cons, List.map_nil]; try rfl) ?_; (with_reducible refine (spec_l1in.calls (l0_0.length : Int) 1 40 true _ A4.out).mono ?_); rintro e w' ⟨rfl, ⟨nd, rfl⟩⟩; refine ⟨_, rfl, ?_⟩))
  go_meet
  case rel => exact ⟨_, (true), (by first | rfl | (simp; done) | (simp [*]; done)), H', ⟨by first | omega | exact Nat.le_refl _⟩, ⟨by (with_reducible repeat (first | refine blk_drewN ?_ _ | refine blk_drew ?_ | refine blk_alloc ?_ _)); exact BK207.out⟩, ⟨by repeat (first | (with_reducible first | exact HB.out | apply below_alloc | apply pw_below_drewN | apply below_drew1 | refine below_set ?_ GE207.out) | exact HB.out)⟩⟩
 case rest =>
  clear HC2
  skip
  obtain ⟨kq, x33_1, rfl, HA, HJ1, BK207, HB⟩ := hcut
  cases kq with
  | zero => exact absurd HA.out (by simp [spec_StateOk.j0])
  | succ kj1 =>
   have H := HA.out
   clear HA
   simp only [spec_StateOk.j0] at H
   by_cases c10 : x33_1 = true
   case pos =>
    subst c10
    rw [if_pos rfl] at H
    obtain rfl := Option.some.inj H
    go_wp2
    go_ret
    exact ⟨rfl, HB.out⟩
   replace c10 := Bool.eq_false_iff.mpr c10
   subst c10
   rw [if_neg (show ¬ (false = true) by decide)] at H
   have H' := K_ H
   clear H
   obtain ⟨hcz11_0, hcz11_1, hcz11_2, hfz11_0, hfz11_1, hfz11_2⟩ := blkf3_ BK207.out
   go_wp2
   go_loopg [37] kj1 (fun kq v37 w' => ∃ (x37_2 : Int), v37 = .int .i64 x37_2 ∧ Aside0 (spec_StateOk.l0 kq l0_0 (l0_0.length : Int) x37_2 l0_0 l0_1 l0_2 = some r) ∧ Aside0 (kq ≤ kj1) ∧ Aside0 (w'.heap[gb207]? = some (.cells #[(.slice A0_0 l0_0.length c0_0), (.slice A0_1 l0_1.length c0_1), (.slice A0_2 l0_2.length c0_2)] 26 (0, 0))) ∧ Aside0 (Below w.heap.size w w'))
   case atStart => exact ⟨(0), rfl, H', ⟨Nat.le_refl _⟩, ⟨BK207.out⟩, ⟨HB.out⟩⟩
   case round =>
    clear H'
    clear hcz11_0 hcz11_1 hcz11_2 hfz11_0 hfz11_1 hfz11_2
    obtain ⟨x37_2, rfl, HA, HK2, BK207, HB⟩ := hrel
    cases gk with
    | zero => exact absurd HA.out (by simp [spec_StateOk.l0])
    | succ k2 =>
     have H := HA.out
     clear HA
     simp only [spec_StateOk.l0] at H
     by_cases c12 : x37_2 < (l0_0.length : Int)
     case pos =>
      rw [if_pos c12] at H
      have c12b0 := decide_eq_true c12
      clear c12
      replace H := dn_ H
      obtain ⟨c13b0, H⟩ := H
      replace H := dn_ H
      obtain ⟨c14b0, H⟩ := H
      replace H := Option.bind_eq_some_iff.mp H
      obtain ⟨t210, A150, H⟩ := H
      try dsimp only at H
      have A15 := K_ A150
      clear A150
      by_cases c16 : t210 = true
      case neg =>
       replace c16 := Bool.eq_false_iff.mpr c16
       subst c16
       rw [if_neg (show ¬ (false = true) by decide)] at H
       obtain rfl := Option.some.inj H
       obtain ⟨ad209, rfl, hx209_0, p209, q209⟩ := rd_ HR0_0.out HB.out x37_2 (by assumption) (by assumption)
       go_wp2_with (first | ((with_reducible refine gate_callee (f := 86) rfl ?_); refine goesL_ (some 42) rfl rfl Try.func86 (by kernel_rfl) rfl #[.int .i64 (rd l0_0 x37_2), .int .i64 1, .int .i64 5] rfl (by simp only [List.map_toArray, List.map_cons, List.map_nil]; try rfl) ?_; (with_reducible refine (spec_l1in.calls (rd l0_0 x37_2) 1 5 false _ A15.out).mono ?_); rintro e w' ⟨rfl, ⟨nd, rfl⟩⟩; refine ⟨_, rfl, ?_⟩))
       go_ret
       exact ⟨by first | rfl | (simp [errW_none, errW_some] <;> rfl) | (simp [*, errW_none, errW_some] <;> rfl), by repeat (first | (with_reducible first | exact HB.out | apply below_alloc | apply pw_below_drewN | apply below_drew1 | refine below_set ?_ GE207.out) | exact HB.out)⟩
      subst c16
      rw [if_pos rfl] at H
      have H' := K_ H
      clear H
      obtain ⟨ad209, rfl, hx209_0, p209, q209⟩ := rd_ HR0_0.out HB.out x37_2 (by assumption) (by assumption)
      go_wp2_with (first | ((with_reducible refine gate_callee (f := 86) rfl ?_); refine goesL_ (some 42) rfl rfl Try.func86 (by kernel_rfl) rfl #[.int .i64 (rd l0_0 x37_2), .int .i64 1, .int .i64 5] rfl (by simp only [List.map_toArray, List.map_cons, List.map_nil]; try rfl) ?_; (with_reducible refine (spec_l1in.calls (rd l0_0 x37_2) 1 5 true _ A15.out).mono ?_); rintro e w' ⟨rfl, ⟨nd, rfl⟩⟩; refine ⟨_, rfl, ?_⟩))
      go_roundg k2
      case measure => have := HJ1.out; have := HK2.out; omega
      case rel => exact ⟨(wrap64 (x37_2 + 1)), (by first | rfl | (simp; done) | (simp [*]; done)), H', ⟨by have := HJ1.out; have := HK2.out; omega⟩, ⟨by (with_reducible repeat (first | refine blk_drewN ?_ _ | refine blk_drew ?_ | refine blk_alloc ?_ _)); exact BK207.out⟩, ⟨by repeat (first | (with_reducible first | exact HB.out | apply below_alloc | apply pw_below_drewN | apply below_drew1 | refine below_set ?_ GE207.out) | exact HB.out)⟩⟩
     rw [if_neg c12] at H
     have c12b0 := decide_eq_false c12
     clear c12
     have H' := K_ H
     clear H
     obtain ⟨hcz17_0, hcz17_1, hcz17_2, hfz17_0, hfz17_1, hfz17_2⟩ := blkf3_ BK207.out
     go_wp2
     go_loopg [48] k2 (fun kq v48 w' => ∃ (x48_3 : Int), v48 = .int .i64 x48_3 ∧ Aside0 (spec_StateOk.l1 kq l0_1 (l0_1.length : Int) x48_3 l0_0 l0_1 l0_2 = some r) ∧ Aside0 (kq ≤ k2) ∧ Aside0 (w'.heap[gb207]? = some (.cells #[(.slice A0_0 l0_0.length c0_0), (.slice A0_1 l0_1.length c0_1), (.slice A0_2 l0_2.length c0_2)] 26 (0, 0))) ∧ Aside0 (Below w.heap.size w w'))
     case atStart => exact ⟨(0), rfl, H', ⟨Nat.le_refl _⟩, ⟨BK207.out⟩, ⟨HB.out⟩⟩
     case round =>
      clear H'
      clear c12b0 hcz17_0 hcz17_1 hcz17_2 hfz17_0 hfz17_1 hfz17_2
      obtain ⟨x48_3, rfl, HA, HK3, BK207, HB⟩ := hrel
      cases gk with
      | zero => exact absurd HA.out (by simp [spec_StateOk.l1])
      | succ k3 =>
       have H := HA.out
       clear HA
       simp only [spec_StateOk.l1] at H
       by_cases c18 : x48_3 < (l0_1.length : Int)
       case pos =>
        rw [if_pos c18] at H
        have c18b0 := decide_eq_true c18
        clear c18
        replace H := dn_ H
        obtain ⟨c19b0, H⟩ := H
        replace H := dn_ H
        obtain ⟨c20b0, H⟩ := H
        have HC21 := K_ H
        clear H
        have p211 : 0 ≤ (x48_3 : Int) := of_decide_eq_true (by assumption)
        have q211 : x48_3 < (l0_1.length : Int) := of_decide_eq_true (by assumption)
        obtain ⟨ad211, A211_1, c211_1, e211, hx211_0, hx211_1, hx211_2, hl211_1, hi211_1⟩ := at_T35 HR0_1.out x48_3 p211 q211
        cases e211
        replace hx211_0 := (HB.out.cell (World.block_lt_of_cell? w _ hx211_0)).trans hx211_0
        replace hx211_1 := (HB.out.cell (World.block_lt_of_cell? w _ hx211_1)).trans hx211_1
        replace hx211_2 := (HB.out.cell (World.block_lt_of_cell? w _ hx211_2)).trans hx211_2
        have HR211_1 := K_ hi211_1
        have HC211_1 := K_ hl211_1
        clear hi211_1 hl211_1
        replace p211 := eq_true p211
        replace q211 := eq_true q211
        go_upto_region 12 with (first | ((with_reducible refine gate_dst (N := 6) rfl ?_); refine box_event (by rfl) (N := 6) (by rfl) (cs := #[.int .i64 0, .slice none 0 0, .int .i64 0]) (t := 35) (by go_simp; try rfl) ?_; intro gb212 hg w22 hbox hb; have BK212 := K_ (hbox); have GW212 := ge_ hg HB.out; have GE212 := ge_ hg HB.out; have NB207_212 := nl_ hg BK207.out; have NB212_207 := ng_ hg BK207.out; replace BK207 := K_ (blk_below BK207.out hb); replace HB := K_ (below_step HB.out hb); clear hb hbox hg; have hnb23 := NB212_207.out; have hnc23 := NB207_212.out; obtain ⟨hcz24_0, hcz24_1, hcz24_2, hfz24_0, hfz24_1, hfz24_2⟩ := blkf3_ BK212.out))
        (try simp only [P_])
        go_cut [71] (fun v71 wc => ∃ (kq : Nat) (x71_20 : Bool), v71 = .bool x71_20 ∧ Aside0 (spec_StateOk.j3 kq l0_1 (l0_1.length : Int) x48_3 x71_20 l0_0 l0_1 l0_2 ((rd_T35 l0_1 x48_3).f0) ((rd_T35 l0_1 x48_3).f1) ((rd_T35 l0_1 x48_3).f2) = some r) ∧ Aside0 (kq ≤ k3) ∧ Aside0 (wc.heap[gb207]? = some (.cells #[(.slice A0_0 l0_0.length c0_0), (.slice (some ad211) l0_1.length c0_1), (.slice A0_2 l0_2.length c0_2)] 26 (0, 0))) ∧ Aside0 (wc.heap[gb212]? = some (.cells #[.int .i64 ((rd_T35 l0_1 x48_3).f0), (.slice A211_1 ((rd_T35 l0_1 x48_3).f1).length c211_1), .int .i64 ((rd_T35 l0_1 x48_3).f2)] 35 (0, 0))) ∧ Aside0 (Below w.heap.size w wc))
        case first =>
         have H := HC21.out
         clear HC21
         replace H := Option.bind_eq_some_iff.mp H
         obtain ⟨t213, A250, H⟩ := H
         try dsimp only at H
         have A25 := K_ A250
         clear A250
         by_cases c26 : t213 = true
         case neg =>
          replace c26 := Bool.eq_false_iff.mpr c26
          subst c26
          rw [if_neg (show ¬ (false = true) by decide)] at H
          have H' := K_ H
          clear H
          have hnb35 := NB212_207.out
          have hnc35 := NB207_212.out
          obtain ⟨hcz36_0, hcz36_1, hcz36_2, hfz36_0, hfz36_1, hfz36_2⟩ := blkf3_ BK212.out
          obtain ⟨hcz37_0, hcz37_1, hcz37_2, hfz37_0, hfz37_1, hfz37_2⟩ := blkf3_ BK207.out
          go_wp2_with (first | ((with_reducible refine gate_callee (f := 86) rfl ?_); refine goesL_ (some 58) rfl rfl Try.func86 (by kernel_rfl) rfl #[.int .i64 ((rd_T35 l0_1 x48_3).f0), .int .i64 0, .int .i64 (wrap64 ((l0_0.length : Int) - 1))] rfl (by simp only [List.map_toArray, List.map_cons, List.map_nil]; try rfl) ?_; (with_reducible refine (spec_l1in.calls ((rd_T35 l0_1 x48_3).f0) 0 (wrap64 ((l0_0.length : Int) - 1)) false _ A25.out).mono ?_); rintro e w' ⟨rfl, ⟨nd, rfl⟩⟩; refine ⟨_, rfl, ?_⟩))
          go_meet
          case rel => exact ⟨_, (true), (by first | rfl | (simp; done) | (simp [*]; done)), H', ⟨by have := HJ1.out; have := HK2.out; have := HK3.out; first | omega | exact Nat.le_refl _⟩, ⟨by (with_reducible repeat (first | refine blk_drewN ?_ _ | refine blk_drew ?_ | refine blk_alloc ?_ _)); refine blk_far ?_ NB207_212.out _; refine blk_far ?_ NB207_212.out _; refine blk_far ?_ NB207_212.out _; exact BK207.out⟩, ⟨by (with_reducible repeat (first | refine blk_drewN ?_ _ | refine blk_drew ?_ | refine blk_alloc ?_ _)); refine blk_put (cs := #[.int .i64 ((rd_T35 l0_1 x48_3).f0), .slice A211_1 ((rd_T35 l0_1 x48_3).f1).length c211_1, .int .i64 0]) ?_ 2 _ rfl; refine blk_put (cs := #[.int .i64 ((rd_T35 l0_1 x48_3).f0), .slice none 0 0, .int .i64 0]) ?_ 1 _ rfl; refine blk_put (cs := #[.int .i64 0, .slice none 0 0, .int .i64 0]) ?_ 0 _ rfl; exact BK212.out⟩, ⟨by repeat (first | (with_reducible first | exact HB.out | apply below_alloc | apply pw_below_drewN | apply below_drew1 | refine below_set ?_ GE207.out | refine below_set ?_ GE212.out) | exact HB.out)⟩⟩
         subst c26
         rw [if_pos rfl] at H
         replace H := ps_ H
         rcases H with ⟨c27, H⟩ | ⟨c27, H⟩
         case inl =>
          have c27b0 := decide_eq_true c27
          have c27b1 : decide (8 < ((rd_T35 l0_1 x48_3).f1).length) = true := decide_eq_true (by omega)
          clear c27
          (first | rw [c27b0] | (simp only [i64_w, i32_w]; rw [c27b0]) | skip)
          have H' := K_ H
          clear H
          have hnb28 := NB212_207.out
          have hnc28 := NB207_212.out
          obtain ⟨hcz29_0, hcz29_1, hcz29_2, hfz29_0, hfz29_1, hfz29_2⟩ := blkf3_ BK212.out
          obtain ⟨hcz30_0, hcz30_1, hcz30_2, hfz30_0, hfz30_1, hfz30_2⟩ := blkf3_ BK207.out
          go_wp2_with (first | ((with_reducible refine gate_callee (f := 86) rfl ?_); refine goesL_ (some 58) rfl rfl Try.func86 (by kernel_rfl) rfl #[.int .i64 ((rd_T35 l0_1 x48_3).f0), .int .i64 0, .int .i64 (wrap64 ((l0_0.length : Int) - 1))] rfl (by simp only [List.map_toArray, List.map_cons, List.map_nil]; try rfl) ?_; (with_reducible refine (spec_l1in.calls ((rd_T35 l0_1 x48_3).f0) 0 (wrap64 ((l0_0.length : Int) - 1)) true _ A25.out).mono ?_); rintro e w' ⟨rfl, ⟨nd, rfl⟩⟩; refine ⟨_, rfl, ?_⟩))
          go_meet
          case rel => exact ⟨_, (true), (by first | rfl | (simp; done) | (simp [*]; done)), H', ⟨by have := HJ1.out; have := HK2.out; have := HK3.out; first | omega | exact Nat.le_refl _⟩, ⟨by (with_reducible repeat (first | refine blk_drewN ?_ _ | refine blk_drew ?_ | refine blk_alloc ?_ _)); refine blk_far ?_ NB207_212.out _; refine blk_far ?_ NB207_212.out _; refine blk_far ?_ NB207_212.out _; exact BK207.out⟩, ⟨by (with_reducible repeat (first | refine blk_drewN ?_ _ | refine blk_drew ?_ | refine blk_alloc ?_ _)); refine blk_put (cs := #[.int .i64 ((rd_T35 l0_1 x48_3).f0), .slice A211_1 ((rd_T35 l0_1 x48_3).f1).length c211_1, .int .i64 0]) ?_ 2 _ rfl; refine blk_put (cs := #[.int .i64 ((rd_T35 l0_1 x48_3).f0), .slice none 0 0, .int .i64 0]) ?_ 1 _ rfl; refine blk_put (cs := #[.int .i64 0, .slice none 0 0, .int .i64 0]) ?_ 0 _ rfl; exact BK212.out⟩, ⟨by repeat (first | (with_reducible first | exact HB.out | apply below_alloc | apply pw_below_drewN | apply below_drew1 | refine below_set ?_ GE207.out | refine below_set ?_ GE212.out) | exact HB.out)⟩⟩
         have c27b0 := decide_eq_false c27
         have c27b1 : decide (8 < ((rd_T35 l0_1 x48_3).f1).length) = false := decide_eq_false (by omega)
         clear c27
         (first | rw [c27b0] | (simp only [i64_w, i32_w]; rw [c27b0]) | skip)
         replace H := Option.bind_eq_some_iff.mp H
         obtain ⟨t214, A310, H⟩ := H
         try dsimp only at H
         have A31 := K_ A310
         clear A310
         have H' := K_ H
         clear H
         have hnb32 := NB212_207.out
         have hnc32 := NB207_212.out
         obtain ⟨hcz33_0, hcz33_1, hcz33_2, hfz33_0, hfz33_1, hfz33_2⟩ := blkf3_ BK212.out
         obtain ⟨hcz34_0, hcz34_1, hcz34_2, hfz34_0, hfz34_1, hfz34_2⟩ := blkf3_ BK207.out
         go_wp2_with (first | ((with_reducible refine gate_callee (f := 86) rfl ?_); refine goesL_ (some 58) rfl rfl Try.func86 (by kernel_rfl) rfl #[.int .i64 ((rd_T35 l0_1 x48_3).f0), .int .i64 0, .int .i64 (wrap64 ((l0_0.length : Int) - 1))] rfl (by simp only [List.map_toArray, List.map_cons, List.map_nil]; try rfl) ?_; (with_reducible refine (spec_l1in.calls ((rd_T35 l0_1 x48_3).f0) 0 (wrap64 ((l0_0.length : Int) - 1)) true _ A25.out).mono ?_); rintro e w' ⟨rfl, ⟨nd, rfl⟩⟩; refine ⟨_, rfl, ?_⟩) | (go_at_call 86; (with_reducible refine (spec_l1in.calls ((rd_T35 l0_1 x48_3).f2) 1 100 t214 _ A31.out).mono ?_); rintro e w' ⟨rfl, ⟨nd, rfl⟩⟩))
         go_meet
         case rel => exact ⟨_, (!t214), (by first | rfl | (simp; done) | (simp [*]; done)), H', ⟨by have := HJ1.out; have := HK2.out; have := HK3.out; first | omega | exact Nat.le_refl _⟩, ⟨by (with_reducible repeat (first | refine blk_drewN ?_ _ | refine blk_drew ?_ | refine blk_alloc ?_ _)); refine blk_far ?_ NB207_212.out _; refine blk_far ?_ NB207_212.out _; refine blk_far ?_ NB207_212.out _; exact BK207.out⟩, ⟨by (with_reducible repeat (first | refine blk_drewN ?_ _ | refine blk_drew ?_ | refine blk_alloc ?_ _)); refine blk_put (cs := #[.int .i64 ((rd_T35 l0_1 x48_3).f0), .slice A211_1 ((rd_T35 l0_1 x48_3).f1).length c211_1, .int .i64 0]) ?_ 2 _ rfl; refine blk_put (cs := #[.int .i64 ((rd_T35 l0_1 x48_3).f0), .slice none 0 0, .int .i64 0]) ?_ 1 _ rfl; refine blk_put (cs := #[.int .i64 0, .slice none 0 0, .int .i64 0]) ?_ 0 _ rfl; exact BK212.out⟩, ⟨by repeat (first | (with_reducible first | exact HB.out | apply below_alloc | apply pw_below_drewN | apply below_drew1 | refine below_set ?_ GE207.out | refine below_set ?_ GE212.out) | exact HB.out)⟩⟩
        case rest =>
         clear HC21
         skip
         obtain ⟨kq, x71_20, rfl, HA, HJ20, BK207, BK212, HB⟩ := hcut
         cases kq with
         | zero => exact absurd HA.out (by simp [spec_StateOk.j3])
         | succ kj20 =>
          have H := HA.out
          clear HA
          simp only [spec_StateOk.j3] at H
          by_cases c38 : x71_20 = true
          case pos =>
           subst c38
           rw [if_pos rfl] at H
           obtain rfl := Option.some.inj H
           go_wp2
           go_ret
           exact ⟨rfl, HB.out⟩
          replace c38 := Bool.eq_false_iff.mpr c38
          subst c38
          rw [if_neg (show ¬ (false = true) by decide)] at H
          have H' := K_ H
          clear H
          have hnb39 := NB212_207.out
          have hnc39 := NB207_212.out
          obtain ⟨hcz40_0, hcz40_1, hcz40_2, hfz40_0, hfz40_1, hfz40_2⟩ := blkf3_ BK212.out
          go_wp2
          go_loopg [7, 77] kj20 (fun kq v7 v77 w' => ∃ (x7_5 : Int) (x77_5 : Int), v7 = .int .i64 x7_5 ∧ v77 = .int .i64 x77_5 ∧ Aside0 (spec_StateOk.l2 kq x7_5 l0_1 (l0_1.length : Int) x48_3 ((rd_T35 l0_1 x48_3).f1) (((rd_T35 l0_1 x48_3).f1).length : Int) x77_5 l0_0 l0_1 l0_2 = some r) ∧ Aside0 (kq ≤ kj20) ∧ Aside0 (w'.heap[gb207]? = some (.cells #[(.slice A0_0 l0_0.length c0_0), (.slice (some ad211) l0_1.length c0_1), (.slice A0_2 l0_2.length c0_2)] 26 (0, 0))) ∧ Aside0 (w'.heap[gb212]? = some (.cells #[.int .i64 ((rd_T35 l0_1 x48_3).f0), (.slice A211_1 ((rd_T35 l0_1 x48_3).f1).length c211_1), .int .i64 ((rd_T35 l0_1 x48_3).f2)] 35 (0, 0))) ∧ Aside0 (Below w.heap.size w w'))
          case atStart => exact ⟨(((rd_T35 l0_1 x48_3).f0)), (0), rfl, rfl, H', ⟨Nat.le_refl _⟩, ⟨BK207.out⟩, ⟨BK212.out⟩, ⟨HB.out⟩⟩
          case round =>
           clear H'
           clear hcz40_0 hcz40_1 hcz40_2 hfz40_0 hfz40_1 hfz40_2
           obtain ⟨x7_5, x77_5, rfl, rfl, HA, HK5, BK207, BK212, HB⟩ := hrel
           cases gk with
           | zero => exact absurd HA.out (by simp [spec_StateOk.l2])
           | succ k5 =>
            have H := HA.out
            clear HA
            simp only [spec_StateOk.l2] at H
            replace H := ds_ H
            rcases H with ⟨c41b0, H⟩ | ⟨c41b0, H⟩
            case inr =>
             have H' := K_ H
             clear H
             go_wp2
             go_roundg k5
             case measure => have := HJ1.out; have := HK2.out; have := HK3.out; have := HJ20.out; have := HK5.out; omega
             case rel => exact ⟨(wrap64 (x48_3 + 1)), rfl, H', ⟨by have := HJ1.out; have := HK2.out; have := HK3.out; have := HJ20.out; have := HK5.out; omega⟩, ⟨BK207.out⟩, ⟨HB.out⟩⟩
            replace H := dn_ H
            obtain ⟨c42b0, H⟩ := H
            replace H := dn_ H
            obtain ⟨c43b0, H⟩ := H
            replace H := Option.bind_eq_some_iff.mp H
            obtain ⟨t216, A440, H⟩ := H
            try dsimp only at H
            have A44 := K_ A440
            clear A440
            by_cases c45 : t216 = true
            case neg =>
             replace c45 := Bool.eq_false_iff.mpr c45
             subst c45
             rw [if_neg (show ¬ (false = true) by decide)] at H
             obtain rfl := Option.some.inj H
             obtain ⟨ad215, rfl, hx215_0, p215, q215⟩ := rd_ HR211_1.out HB.out x77_5 (by assumption) (by assumption)
             have hnb51 := NB207_212.out
             have hnc51 := NB212_207.out
             obtain ⟨hcz52_0, hcz52_1, hcz52_2, hfz52_0, hfz52_1, hfz52_2⟩ := blkf3_ BK207.out
             go_wp2_with (first | ((with_reducible refine gate_callee (f := 86) rfl ?_); refine goesL_ (some 86) rfl rfl Try.func86 (by kernel_rfl) rfl #[.int .i64 (rd ((rd_T35 l0_1 x48_3).f1) x77_5), .int .i64 0, .int .i64 (wrap64 ((l0_0.length : Int) - 1))] rfl (by simp only [List.map_toArray, List.map_cons, List.map_nil]; try rfl) ?_; (with_reducible refine (spec_l1in.calls (rd ((rd_T35 l0_1 x48_3).f1) x77_5) 0 (wrap64 ((l0_0.length : Int) - 1)) false _ A44.out).mono ?_); rintro e w' ⟨rfl, ⟨nd, rfl⟩⟩; refine ⟨_, rfl, ?_⟩))
             go_ret
             exact ⟨by first | rfl | (simp [errW_none, errW_some] <;> rfl) | (simp [*, errW_none, errW_some] <;> rfl), by repeat (first | (with_reducible first | exact HB.out | apply below_alloc | apply pw_below_drewN | apply below_drew1 | refine below_set ?_ GE207.out | refine below_set ?_ GE212.out) | exact HB.out)⟩
            subst c45
            rw [if_pos rfl] at H
            replace H := ps_ H
            rcases H with ⟨c46, H⟩ | ⟨c46, H⟩
            case inl =>
             have c46b0 := beq_iff_eq.mpr c46
             have c46b1 := bne_eq_false_iff_eq.mpr c46
             clear c46
             obtain rfl := Option.some.inj H
             obtain ⟨ad215, rfl, hx215_0, p215, q215⟩ := rd_ HR211_1.out HB.out x77_5 (by assumption) (by assumption)
             have hnb47 := NB207_212.out
             have hnc47 := NB212_207.out
             obtain ⟨hcz48_0, hcz48_1, hcz48_2, hfz48_0, hfz48_1, hfz48_2⟩ := blkf3_ BK207.out
             go_wp2_with (first | ((with_reducible refine gate_callee (f := 86) rfl ?_); refine goesL_ (some 86) rfl rfl Try.func86 (by kernel_rfl) rfl #[.int .i64 (rd ((rd_T35 l0_1 x48_3).f1) x77_5), .int .i64 0, .int .i64 (wrap64 ((l0_0.length : Int) - 1))] rfl (by simp only [List.map_toArray, List.map_cons, List.map_nil]; try rfl) ?_; (with_reducible refine (spec_l1in.calls (rd ((rd_T35 l0_1 x48_3).f1) x77_5) 0 (wrap64 ((l0_0.length : Int) - 1)) true _ A44.out).mono ?_); rintro e w' ⟨rfl, ⟨nd, rfl⟩⟩; refine ⟨_, rfl, ?_⟩))
             go_ret
             exact ⟨by first | rfl | (simp [errW_none, errW_some] <;> rfl) | (simp [*, errW_none, errW_some] <;> rfl), by repeat (first | (with_reducible first | exact HB.out | apply below_alloc | apply pw_below_drewN | apply below_drew1 | refine below_set ?_ GE207.out | refine below_set ?_ GE212.out) | exact HB.out)⟩
            have c46b0 := beq_eq_false_iff_ne.mpr c46
            have c46b1 := bne_iff_ne.mpr c46
            have H' := K_ H
            clear H
            obtain ⟨ad215, rfl, hx215_0, p215, q215⟩ := rd_ HR211_1.out HB.out x77_5 (by assumption) (by assumption)
            have hnb49 := NB207_212.out
            have hnc49 := NB212_207.out
            obtain ⟨hcz50_0, hcz50_1, hcz50_2, hfz50_0, hfz50_1, hfz50_2⟩ := blkf3_ BK207.out
            go_wp2_with (first | ((with_reducible refine gate_callee (f := 86) rfl ?_); refine goesL_ (some 86) rfl rfl Try.func86 (by kernel_rfl) rfl #[.int .i64 (rd ((rd_T35 l0_1 x48_3).f1) x77_5), .int .i64 0, .int .i64 (wrap64 ((l0_0.length : Int) - 1))] rfl (by simp only [List.map_toArray, List.map_cons, List.map_nil]; try rfl) ?_; (with_reducible refine (spec_l1in.calls (rd ((rd_T35 l0_1 x48_3).f1) x77_5) 0 (wrap64 ((l0_0.length : Int) - 1)) true _ A44.out).mono ?_); rintro e w' ⟨rfl, ⟨nd, rfl⟩⟩; refine ⟨_, rfl, ?_⟩))
            go_roundg k5
            case measure => have := HJ1.out; have := HK2.out; have := HK3.out; have := HJ20.out; have := HK5.out; omega
            case rel => exact ⟨(rd ((rd_T35 l0_1 x48_3).f1) x77_5), (wrap64 (x77_5 + 1)), (by first | rfl | (simp; done) | (simp [*]; done)), (by first | rfl | (simp; done) | (simp [*]; done)), H', ⟨by have := HJ1.out; have := HK2.out; have := HK3.out; have := HJ20.out; have := HK5.out; omega⟩, ⟨by (with_reducible repeat (first | refine blk_drewN ?_ _ | refine blk_drew ?_ | refine blk_alloc ?_ _)); exact BK207.out⟩, ⟨by (with_reducible repeat (first | refine blk_drewN ?_ _ | refine blk_drew ?_ | refine blk_alloc ?_ _)); exact BK212.out⟩, ⟨by repeat (first | (with_reducible first | exact HB.out | apply below_alloc | apply pw_below_drewN | apply below_drew1 | refine below_set ?_ GE207.out | refine below_set ?_ GE212.out) | exact HB.out)⟩⟩
       rw [if_neg c18] at H
       have c18b0 := decide_eq_false c18
       clear c18
       have H' := K_ H
       clear H
       obtain ⟨hcz53_0, hcz53_1, hcz53_2, hfz53_0, hfz53_1, hfz53_2⟩ := blkf3_ BK207.out
       go_wp2
       go_loopg [99] k3 (fun kq v99 w' => ∃ (x99_4 : Int), v99 = .int .i64 x99_4 ∧ Aside0 (spec_StateOk.l3 kq l0_2 (l0_2.length : Int) x99_4 l0_0 l0_1 l0_2 = some r) ∧ Aside0 (kq ≤ k3) ∧ Aside0 (w'.heap[gb207]? = some (.cells #[(.slice A0_0 l0_0.length c0_0), (.slice A0_1 l0_1.length c0_1), (.slice A0_2 l0_2.length c0_2)] 26 (0, 0))) ∧ Aside0 (Below w.heap.size w w'))
       case atStart => exact ⟨(0), rfl, H', ⟨Nat.le_refl _⟩, ⟨BK207.out⟩, ⟨HB.out⟩⟩
       case round =>
        clear H'
        clear c18b0 hcz53_0 hcz53_1 hcz53_2 hfz53_0 hfz53_1 hfz53_2
        obtain ⟨x99_4, rfl, HA, HK4, BK207, HB⟩ := hrel
        cases gk with
        | zero => exact absurd HA.out (by simp [spec_StateOk.l3])
        | succ k4 =>
         have H := HA.out
         clear HA
         simp only [spec_StateOk.l3] at H
         by_cases c54 : x99_4 < (l0_2.length : Int)
         case pos =>
          rw [if_pos c54] at H
          have c54b0 := decide_eq_true c54
          clear c54
          replace H := dn_ H
          obtain ⟨c55b0, H⟩ := H
          replace H := dn_ H
          obtain ⟨c56b0, H⟩ := H
          replace H := Option.bind_eq_some_iff.mp H
          obtain ⟨t218, A570, H⟩ := H
          try dsimp only at H
          have A57 := K_ A570
          clear A570
          by_cases c58 : t218 = true
          case neg =>
           replace c58 := Bool.eq_false_iff.mpr c58
           subst c58
           rw [if_neg (show ¬ (false = true) by decide)] at H
           obtain rfl := Option.some.inj H
           obtain ⟨ad217, rfl, hx217_0, p217, q217⟩ := rd_ HR0_2.out HB.out x99_4 (by assumption) (by assumption)
           go_wp2_with (first | ((with_reducible refine gate_callee (f := 86) rfl ?_); refine goesL_ (some 105) rfl rfl Try.func86 (by kernel_rfl) rfl #[.int .i64 (rd l0_2 x99_4), .int .i64 0, .int .i64 1000] rfl (by simp only [List.map_toArray, List.map_cons, List.map_nil]; try rfl) ?_; (with_reducible refine (spec_l1in.calls (rd l0_2 x99_4) 0 1000 false _ A57.out).mono ?_); rintro e w' ⟨rfl, ⟨nd, rfl⟩⟩; refine ⟨_, rfl, ?_⟩))
           go_ret
           exact ⟨by first | rfl | (simp [errW_none, errW_some] <;> rfl) | (simp [*, errW_none, errW_some] <;> rfl), by repeat (first | (with_reducible first | exact HB.out | apply below_alloc | apply pw_below_drewN | apply below_drew1 | refine below_set ?_ GE207.out) | exact HB.out)⟩
          subst c58
          rw [if_pos rfl] at H
          replace H := ps_ H
          rcases H with ⟨c59, H⟩ | ⟨c59, H⟩
          case inr =>
           have c59b0 := decide_eq_false c59
           clear c59
           have H' := K_ H
           clear H
           obtain ⟨ad217, rfl, hx217_0, p217, q217⟩ := rd_ HR0_2.out HB.out x99_4 (by assumption) (by assumption)
           go_wp2_with (first | ((with_reducible refine gate_callee (f := 86) rfl ?_); refine goesL_ (some 105) rfl rfl Try.func86 (by kernel_rfl) rfl #[.int .i64 (rd l0_2 x99_4), .int .i64 0, .int .i64 1000] rfl (by simp only [List.map_toArray, List.map_cons, List.map_nil]; try rfl) ?_; (with_reducible refine (spec_l1in.calls (rd l0_2 x99_4) 0 1000 true _ A57.out).mono ?_); rintro e w' ⟨rfl, ⟨nd, rfl⟩⟩; refine ⟨_, rfl, ?_⟩))
           go_roundg k4
           case measure => have := HJ1.out; have := HK2.out; have := HK3.out; have := HK4.out; omega
           case rel => exact ⟨(wrap64 (x99_4 + 1)), (by first | rfl | (simp; done) | (simp [*]; done)), H', ⟨by have := HJ1.out; have := HK2.out; have := HK3.out; have := HK4.out; omega⟩, ⟨by (with_reducible repeat (first | refine blk_drewN ?_ _ | refine blk_drew ?_ | refine blk_alloc ?_ _)); exact BK207.out⟩, ⟨by repeat (first | (with_reducible first | exact HB.out | apply below_alloc | apply pw_below_drewN | apply below_drew1 | refine below_set ?_ GE207.out) | exact HB.out)⟩⟩
          have c59b0 := decide_eq_true c59
          clear c59
          obtain ⟨ji60, hji60⟩ : ∃ j_ : Int, (wrap64 (x99_4 - 1)) = j_ := ⟨_, rfl⟩
          replace H : (if 0 ≤ (ji60) then (if (ji60) < (l0_2.length : Int) then (if (rd l0_2 x99_4) ≤ (rd l0_2 (ji60)) then (some 4) else (spec_StateOk.l3 k4 l0_2 (l0_2.length : Int) (wrap64 (x99_4 + 1)) l0_0 l0_1 l0_2)) else (none)) else (none)) = some r := by first | (rw [hji60] at H; exact H) | (simp only [hji60] at H ⊢; exact H)
          (try rw [hji60] at A57)
          have hji60w : (IntKind.i64.wrap (x99_4 - 1)) = ji60 := (i64_w _).trans hji60
          replace H := dn_ H
          obtain ⟨c61b0, H⟩ := H
          replace H := dn_ H
          obtain ⟨c62b0, H⟩ := H
          replace H := ds_ H
          rcases H with ⟨c63b0, H⟩ | ⟨c63b0, H⟩
          case inl =>
           obtain rfl := Option.some.inj H
           obtain ⟨ad217, rfl, hx217_0, p217, q217⟩ := rd_ HR0_2.out HB.out x99_4 (by assumption) (by assumption)
           go_wp2_with (first | ((with_reducible refine gate_callee (f := 86) rfl ?_); refine goesL_ (some 105) rfl rfl Try.func86 (by kernel_rfl) rfl #[.int .i64 (rd l0_2 x99_4), .int .i64 0, .int .i64 1000] rfl (by simp only [List.map_toArray, List.map_cons, List.map_nil]; try rfl) ?_; (with_reducible refine (spec_l1in.calls (rd l0_2 x99_4) 0 1000 true _ A57.out).mono ?_); rintro e w' ⟨rfl, ⟨nd, rfl⟩⟩; refine ⟨_, rfl, ?_⟩; obtain ⟨hcz64_0, hcz64_1, hcz64_2, hfz64_0, hfz64_1, hfz64_2⟩ := blkf3_ BK207.out; have p219 : 0 ≤ ((ji60) : Int) := of_decide_eq_true (by assumption); have q219 : (ji60) < (l0_2.length : Int) := of_decide_eq_true (by assumption); obtain ⟨ad219, e219, hx219_0⟩ := Kd.at_int HR0_2.out (ji60) p219 q219; obtain rfl : ad217 = ad219 := (by injection e219); replace hx219_0 := (HB.out.cell (World.block_lt_of_cell? w _ hx219_0)).trans hx219_0; replace p219 := eq_true p219; replace q219 := eq_true q219))
           go_ret
           exact ⟨by first | rfl | (simp [errW_none, errW_some] <;> rfl) | (simp only [← hji60]; first | rfl | (simp [errW_none, errW_some] <;> rfl)) | (simp [*, errW_none, errW_some] <;> rfl), by repeat (first | (with_reducible first | exact HB.out | apply below_alloc | apply pw_below_drewN | apply below_drew1 | refine below_set ?_ GE207.out) | exact HB.out)⟩
          have H' := K_ H
          clear H
          obtain ⟨ad217, rfl, hx217_0, p217, q217⟩ := rd_ HR0_2.out HB.out x99_4 (by assumption) (by assumption)
          go_wp2_with (first | ((with_reducible refine gate_callee (f := 86) rfl ?_); refine goesL_ (some 105) rfl rfl Try.func86 (by kernel_rfl) rfl #[.int .i64 (rd l0_2 x99_4), .int .i64 0, .int .i64 1000] rfl (by simp only [List.map_toArray, List.map_cons, List.map_nil]; try rfl) ?_; (with_reducible refine (spec_l1in.calls (rd l0_2 x99_4) 0 1000 true _ A57.out).mono ?_); rintro e w' ⟨rfl, ⟨nd, rfl⟩⟩; refine ⟨_, rfl, ?_⟩; obtain ⟨hcz65_0, hcz65_1, hcz65_2, hfz65_0, hfz65_1, hfz65_2⟩ := blkf3_ BK207.out; have p219 : 0 ≤ ((ji60) : Int) := of_decide_eq_true (by assumption); have q219 : (ji60) < (l0_2.length : Int) := of_decide_eq_true (by assumption); obtain ⟨ad219, e219, hx219_0⟩ := Kd.at_int HR0_2.out (ji60) p219 q219; obtain rfl : ad217 = ad219 := (by injection e219); replace hx219_0 := (HB.out.cell (World.block_lt_of_cell? w _ hx219_0)).trans hx219_0; replace p219 := eq_true p219; replace q219 := eq_true q219))
          go_roundg k4
          case measure => have := HJ1.out; have := HK2.out; have := HK3.out; have := HK4.out; omega
          case rel => exact ⟨(wrap64 (x99_4 + 1)), (by first | rfl | (simp; done) | (simp [*]; done)), H', ⟨by have := HJ1.out; have := HK2.out; have := HK3.out; have := HK4.out; omega⟩, ⟨by (with_reducible repeat (first | refine blk_drewN ?_ _ | refine blk_drew ?_ | refine blk_alloc ?_ _)); exact BK207.out⟩, ⟨by repeat (first | (with_reducible first | exact HB.out | apply below_alloc | apply pw_below_drewN | apply below_drew1 | refine below_set ?_ GE207.out) | exact HB.out)⟩⟩
         rw [if_neg c54] at H
         have c54b0 := decide_eq_false c54
         clear c54
         have H' := K_ H
         clear H
         obtain ⟨hcz66_0, hcz66_1, hcz66_2, hfz66_0, hfz66_1, hfz66_2⟩ := blkf3_ BK207.out
         go_wp2
         go_loopg [125] k4 (fun kq v125 w' => ∃ (x125_5 : Int), v125 = .int .i64 x125_5 ∧ Aside0 (spec_StateOk.l4 kq l0_0 (l0_0.length : Int) x125_5 l0_0 l0_1 l0_2 = some r) ∧ Aside0 (kq ≤ k4) ∧ Aside0 (w'.heap[gb207]? = some (.cells #[(.slice A0_0 l0_0.length c0_0), (.slice A0_1 l0_1.length c0_1), (.slice A0_2 l0_2.length c0_2)] 26 (0, 0))) ∧ Aside0 (Below w.heap.size w w'))
         case atStart => exact ⟨(0), rfl, H', ⟨Nat.le_refl _⟩, ⟨BK207.out⟩, ⟨HB.out⟩⟩
         case round =>
          clear H'
          clear c54b0 hcz66_0 hcz66_1 hcz66_2 hfz66_0 hfz66_1 hfz66_2
          obtain ⟨x125_5, rfl, HA, HK5, BK207, HB⟩ := hrel
          cases gk with
          | zero => exact absurd HA.out (by simp [spec_StateOk.l4])
          | succ k5 =>
           have H := HA.out
           clear HA
           simp only [spec_StateOk.l4] at H
           replace H := ds_ H
           rcases H with ⟨c67b0, H⟩ | ⟨c67b0, H⟩
           case inr =>
            obtain rfl := Option.some.inj H
            go_wp2
            go_ret
            exact ⟨rfl, HB.out⟩
           replace H := dn_ H
           obtain ⟨c68b0, H⟩ := H
           replace H := dn_ H
           obtain ⟨c69b0, H⟩ := H
           replace H := Option.bind_eq_some_iff.mp H
           obtain ⟨t221, A700, H⟩ := H
           try dsimp only at H
           have A70 := K_ A700
           clear A700
           replace H := ps_ H
           rcases H with ⟨c71, H⟩ | ⟨c71, H⟩
           case inl =>
            have c71b0 := decide_eq_true c71
            clear c71
            obtain rfl := Option.some.inj H
            obtain ⟨ad220, rfl, hx220_0, p220, q220⟩ := rd_ HR0_0.out HB.out x125_5 (by assumption) (by assumption)
            obtain ⟨hcz72_0, hcz72_1, hcz72_2, hfz72_0, hfz72_1, hfz72_2⟩ := blkf3_ BK207.out
            go_wp2_with (first | ((with_reducible refine gate_callee (f := 84) rfl ?_); refine goesL_ (some 132) rfl rfl Try.func84 (by kernel_rfl) rfl #[.agg #[.slice (some ad220) l0_0.length c0_0, .slice A0_1 l0_1.length c0_1, .slice A0_2 l0_2.length c0_2], .int .i64 x125_5] rfl (by simp only [List.map_toArray, List.map_cons, List.map_nil]; try rfl) ?_; (with_reducible refine (spec_l1there.calls k5 _ _ l0_0 _ _ l0_1 _ _ l0_2 x125_5 t221 _ ?side1 ?side2 ?side3 ?side4 ?side5 ?side6 A70.out).mono ?_); (case side1 => exact (Kd.C_below HR0_0.out HB.out)); (case side2 => exact HC0_0.out); (case side3 => exact (Kd.C_below HR0_1.out HB.out)); (case side4 => exact HC0_1.out); (case side5 => exact (Kd.C_below HR0_2.out HB.out)); (case side6 => exact HC0_2.out); rintro e w73 ⟨rfl, hb⟩; refine ⟨_, rfl, ?_⟩; replace BK207 := K_ (blk_below BK207.out hb); replace HB := K_ (below_step HB.out hb); clear hb))
            go_ret
            exact ⟨rfl, HB.out⟩
           have c71b0 := decide_eq_false c71
           clear c71
           have H' := K_ H
           clear H
           obtain ⟨ad220, rfl, hx220_0, p220, q220⟩ := rd_ HR0_0.out HB.out x125_5 (by assumption) (by assumption)
           obtain ⟨hcz74_0, hcz74_1, hcz74_2, hfz74_0, hfz74_1, hfz74_2⟩ := blkf3_ BK207.out
           go_wp2_with (first | ((with_reducible refine gate_callee (f := 84) rfl ?_); refine goesL_ (some 132) rfl rfl Try.func84 (by kernel_rfl) rfl #[.agg #[.slice (some ad220) l0_0.length c0_0, .slice A0_1 l0_1.length c0_1, .slice A0_2 l0_2.length c0_2], .int .i64 x125_5] rfl (by simp only [List.map_toArray, List.map_cons, List.map_nil]; try rfl) ?_; (with_reducible refine (spec_l1there.calls k5 _ _ l0_0 _ _ l0_1 _ _ l0_2 x125_5 t221 _ ?side1 ?side2 ?side3 ?side4 ?side5 ?side6 A70.out).mono ?_); (case side1 => exact (Kd.C_below HR0_0.out HB.out)); (case side2 => exact HC0_0.out); (case side3 => exact (Kd.C_below HR0_1.out HB.out)); (case side4 => exact HC0_1.out); (case side5 => exact (Kd.C_below HR0_2.out HB.out)); (case side6 => exact HC0_2.out); rintro e w75 ⟨rfl, hb⟩; refine ⟨_, rfl, ?_⟩; replace BK207 := K_ (blk_below BK207.out hb); replace HB := K_ (below_step HB.out hb); clear hb))
           go_roundg k5
           case measure => have := HJ1.out; have := HK2.out; have := HK3.out; have := HK4.out; have := HK5.out; omega
           case rel => exact ⟨(wrap64 (x125_5 + 1)), rfl, H', ⟨by have := HJ1.out; have := HK2.out; have := HK3.out; have := HK4.out; have := HK5.out; omega⟩, ⟨BK207.out⟩, ⟨HB.out⟩⟩


end Go.Proofs.Ytpbclogjoangfaa.Q
