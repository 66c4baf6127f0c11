-- Written by programs of this session (wip/drv.py, wip/mkclaim.py) over the kit's print; not trusted: Lean checks it.
import Derived.Test.YtpbclogjoangfaaFnBestQ0
import Derived.Test.YtpbclogjoangfaaFnBestQ2
namespace Go.Proofs.Ytpbclogjoangfaa.Q
open Go.RowKit Go.Proofs.YtpbclogjoangfaaW.PrintWords Go.Proofs.YtpbclogjoangfaaW.PrintLast Go.Proofs.YtpbclogjoangfaaW.PrintMore
attribute [local go_sem] max2_int min2_int max_two min_two max_three min_three max_four min_four   -- for this text's walks alone
set_option linter.unusedVariables false
set_option linter.unusedSimpArgs false

/-! ### impl_copyState: function 63 -/
def impl_copyState.l0 : Nat → List (S35) → Int → Int → List Int → List (S35) → List Int → Option (List Int × (List (S35)) × List Int)
 | 0, _, _, _, _, _, _ => none
 | k + 1, x14, x15, x16, x00, x01, x02 => if x16 < x15 then (if 0 ≤ x16 then (if x16 < (x14.length : Int) then (if ([] : List Int).length + ((rd_T35 x14 x16).f1).length < 17592186044416 then (if x01.length < 3518437208883 then (impl_copyState.l0 k x14 x15 (wrap64 (x16 + 1)) x00 (x01 ++ [(⟨(rd_T35 x14 x16).f0, (([] : List Int) ++ ((rd_T35 x14 x16).f1)), (rd_T35 x14 x16).f2⟩ : S35)]) x02) else (none)) else (none)) else (none)) else (none)) else (some (x00, x01, x02))
def impl_copyState.f (k : Nat) (l0_0 : List Int) (l0_1 : List (S35)) (l0_2 : List Int) : Option (List Int × (List (S35)) × List Int) := if ([] : List Int).length + l0_0.length < 17592186044416 then (if ([] : List Int).length + l0_2.length < 17592186044416 then (impl_copyState.l0 k l0_1 (l0_1.length : Int) 0 (([] : List Int) ++ l0_0) ([] : List (S35)) (([] : List Int) ++ l0_2)) else (none)) else (none)
theorem impl_copyState.mono_l : ∀ k, (∀ y0 y1 y2 y3 y4 y5, LeO (impl_copyState.l0 k y0 y1 y2 y3 y4 y5) (impl_copyState.l0 (k + 1) y0 y1 y2 y3 y4 y5))
 | 0 => fun _ _ _ _ _ _ r h => by simp [impl_copyState.l0] at h
 | k + 1 => by
  have ih0 := impl_copyState.mono_l k
  ·intro y0 y1 y2 y3 y4 y5
   unfold impl_copyState.l0
   repeat' with_reducible first | exact ih0 _ _ _ _ _ _ | exact LeO.refl _ | exact LeO.none _ | refine LeO.ite ?_ ?_ | refine LeO.bind ?_ (fun _ => ?_)
theorem impl_copyState.mono : ∀ a0 a1 a2 k, LeO (impl_copyState.f k a0 a1 a2) (impl_copyState.f (k + 1) a0 a1 a2) := by
 intro a0 a1 a2 k
 have ih0 := impl_copyState.mono_l k
 unfold impl_copyState.f
 repeat' with_reducible first | exact ih0 _ _ _ _ _ _ | exact LeO.refl _ | exact LeO.none _ | refine LeO.ite ?_ ?_ | refine LeO.bind ?_ (fun _ => ?_)
def impl_copyState.T1 : Bool × List (List Nat × List Nat) := (true, [([], []), ([0], [0]), ([1], [1]), ([], []), ([3], [3]), ([4, 2], [4]), ([2, 5], [2, 5]), ([], []), ([7, 6, 5, 0, 1, 2, 3, 4, 5, 6, 7], [6, 7])])
def impl_copyState.B1 : List Nat := [0, 1, 3, 0, 8, 31, 63, 0, 255]
theorem impl_copyState.tab1 : rtab .any (opsOf Try.f63 1) = impl_copyState.T1 := by kernel_rfl
theorem impl_copyState.bits1 : waitsOk impl_copyState.T1.2 impl_copyState.B1 = true := by kernel_rfl
set_option maxHeartbeats 8000000 in
set_option maxRecDepth 100000 in
theorem impl_copyState.calls (k : Nat) (A0_0 : Option Addr) (c0_0 : Nat) (l0_0 : List Int) (A0_1 : Option Addr) (c0_1 : Nat) (l0_1 : List (S35)) (A0_2 : Option Addr) (c0_2 : Nat) (l0_2 : List Int) (r1 : List Int) (r2 : List (S35)) (r3 : List Int) (w : World) (hr0_0 : Kd.C (Kd.int .i64) w A0_0 l0_0.length l0_0) (hc0_0 : l0_0.length ≤ c0_0) (hr0_1 : Kd.C k35 w A0_1 l0_1.length l0_1) (hc0_1 : l0_1.length ≤ c0_1) (hr0_2 : Kd.C (Kd.int .i64) w A0_2 l0_2.length l0_2) (hc0_2 : l0_2.length ≤ c0_2) (h : impl_copyState.f k l0_0 l0_1 l0_2 = some (r1, r2, r3)) :
  Calls Try.prog 63 #[.agg #[.slice A0_0 l0_0.length c0_0, .slice A0_1 l0_1.length c0_1, .slice A0_2 l0_2.length c0_2]] w fun e w' => ∃ v0_ v1_ v2_ : Value, e = .returned (.agg #[v0_, v1_, v2_]) ∧ Kd.R (Kd.int .i64) 3 w' w.heap.size (fun k_ => X_ k_ v2_) v0_ r1 ∧ Kd.S k35 35 w' w.heap.size (fun k_ => X_ k_ v0_ ∧ X_ k_ v2_) v1_ r2 ∧ Kd.R (Kd.int .i64) 3 w' w.heap.size (fun k_ => X_ k_ v0_) v2_ r3 ∧ Below w.heap.size w w' := by
 have hu26 := Try.underlying26
 have hu35 := Try.underlying35
 have HR0_0 := K_ hr0_0
 have HC0_0 := K_ hc0_0
 clear hr0_0 hc0_0
 have HR0_1 := K_ hr0_1
 have HC0_1 := K_ hc0_1
 clear hr0_1 hc0_1
 have HR0_2 := K_ hr0_2
 have HC0_2 := K_ hc0_2
 clear hr0_2 hc0_2
 have HB := K_ (Below.refl w.heap.size w)
 unfold impl_copyState.f at h
 have H := h
 clear h
 by_cases c2 : ([] : List Int).length + l0_0.length < 17592186044416
 ·rw [if_pos c2] at H
  have LMc2 := K_ c2
  clear c2
  obtain ⟨y362, hy362⟩ : ∃ y_ : List Int, y_ = (([] : List Int) ++ l0_0) := ⟨_, rfl⟩
  rw [← hy362] at H
  have Ny362 := K_ hy362
  clear hy362
  by_cases c3 : ([] : List Int).length + l0_2.length < 17592186044416
  ·rw [if_pos c3] at H
   have LMc3 := K_ c3
   clear c3
   obtain ⟨y365, hy365⟩ : ∃ y_ : List Int, y_ = (([] : List Int) ++ l0_2) := ⟨_, rfl⟩
   rw [← hy365] at H
   have Ny365 := K_ hy365
   clear hy365
   have H' := K_ H
   clear H
   go_enter Try.func63, Try.ntmps63
   try go_wp2_with (first | ((with_reducible refine gate_dst (N := 1) rfl ?_); refine box_event (by rfl) (N := 1) (by rfl) (cs := #[.slice A0_0 l0_0.length c0_0, .slice A0_1 l0_1.length c0_1, .slice A0_2 l0_2.length c0_2]) (t := 26) (by go_simp; try rfl) ?_; intro gb360 hg w4 hbox hb; have BK360 := K_ (hbox); have GW360 := ge_ hg HB.out; have GE360 := ge_ hg HB.out; replace HB := K_ (below_step HB.out hb); clear hb hbox hg) | ((with_reducible refine gate_dst (N := 2) rfl ?_); refine box_event (by rfl) (N := 2) (by rfl) (cs := #[.slice none 0 0, .slice none 0 0, .slice none 0 0]) (t := 26) (by go_simp; try rfl) ?_; intro gb361 hg w5 hbox hb; have BK361 := K_ (hbox); have GW361 := ge_ hg HB.out; have GE361 := ge_ hg HB.out; have NB360_361 := nl_ hg BK360.out; have NB361_360 := ng_ hg BK360.out; replace BK360 := K_ (blk_below BK360.out hb); replace HB := K_ (below_step HB.out hb); clear hb hbox hg))
   replace BK360 := K_ (blk_drew BK360.out)
   replace BK361 := K_ (blk_drew BK361.out)
   replace HB := K_ (below_drew1 HB.out)
   refine start_ (n := 9) (S := fun w' => w'.cell? ⟨gb360, 0, none⟩ = some (.slice A0_0 l0_0.length c0_0) ∧ w'.cell? ⟨gb360, 1, none⟩ = some (.slice A0_1 l0_1.length c0_1) ∧ w'.cell? ⟨gb360, 2, none⟩ = some (.slice A0_2 l0_2.length c0_2)) (ds := []) #[ff, ff, ff, ff, ff, ff, ff, ff, ff] (by kernel_rfl) rfl rfl ⟨(blk_cell BK360.out 0).trans rfl, (blk_cell BK360.out 1).trans rfl, (blk_cell BK360.out 2).trans rfl⟩ (fun hHeld => ?_); refine with_tabW impl_copyState.tab1 impl_copyState.bits1 (fun HT_ HW_ => ?_)
   generalize w5.drew = w6 at BK360 BK361 HB hHeld ⊢
   refine pure_ (i := 0) (N := some 6) (v := ?_) (a' := ?_) (M_ 9 1) rfl rfl (any_of HT_.out (by kernel_rfl)) (fun _ _ _ h => h) (Or.inl ⟨by rfl, ?_⟩) ?_ ?_
   rotate_left
   ·intro w'
    go_simp
    with_reducible rfl
   rotate_left
   ·simp only [P_, i64_w, i32_w]
    rfl
   refine pure_ (i := 3) (N := some 9) (v := ?_) (a' := ?_) (M_ 9 9) rfl rfl (any_of HT_.out (by kernel_rfl)) (fun _ _ _ h => h) (Or.inl ⟨by rfl, ?_⟩) ?_ ?_
   rotate_left
   ·intro w'
    go_simp
    with_reducible rfl
   rotate_left
   ·simp only [P_, i64_w, i32_w]
    rfl
   refine take_ (i := 1) (N := some 7) (v := ?_) (a' := ?_) (M_ 9 11) rfl rfl (take_ofW HT_.out HW_.out (by kernel_rfl)) (fun _ _ _ h => h) (Or.inl ⟨by rfl, ?_⟩) hHeld ?_ ?_
   rotate_left
   ·rintro w' ⟨s0, s1, s2⟩
    go_simp
    with_reducible rfl
   rotate_left
   ·simp only [P_, i64_w, i32_w]
    rfl
   refine take_ (i := 4) (N := some 10) (v := ?_) (a' := ?_) (M_ 9 27) rfl rfl (take_ofW HT_.out HW_.out (by kernel_rfl)) (fun _ _ _ h => h) (Or.inl ⟨by rfl, ?_⟩) hHeld ?_ ?_
   rotate_left
   ·rintro w' ⟨s0, s1, s2⟩
    go_simp
    with_reducible rfl
   rotate_left
   ·simp only [P_, i64_w, i32_w]
    rfl
   refine join_ (σ := Value × Value × Nat) 1 #[tt, tt, tt, tt, tt, tt, tt, tt, ff] (fun s_ => [(8, s_.1), (11, s_.2.1), (3, .pointer (some ⟨s_.2.2, 0, none⟩)), (12, .agg #[s_.1, .slice none 0 0, s_.2.1])]) (fun s_ w' => (w'.cell? ⟨gb360, 0, none⟩ = some (.slice A0_0 l0_0.length c0_0) ∧ w'.cell? ⟨gb360, 1, none⟩ = some (.slice A0_1 l0_1.length c0_1) ∧ w'.cell? ⟨gb360, 2, none⟩ = some (.slice A0_2 l0_2.length c0_2)) ∧ (Kd.R (Kd.int .i64) 3 w' w.heap.size (fun k_ => some k_ ≠ (s_.2.1 : Value).ownBlock) s_.1 y362) ∧ (Kd.R (Kd.int .i64) 3 w' w.heap.size (fun k_ => some k_ ≠ (s_.1 : Value).ownBlock) s_.2.1 y365) ∧ (w'.heap[gb360]? = some (.cells #[.slice A0_0 l0_0.length c0_0, .slice A0_1 l0_1.length c0_1, .slice A0_2 l0_2.length c0_2] 26 (0, 0))) ∧ (w'.heap[gb361]? = some (.cells #[.slice none 0 0, .slice none 0 0, .slice none 0 0] 26 (0, 0))) ∧ (w'.heap[s_.2.2]? = some (.cells #[.slice none 0 0, .slice none 0 0, .slice none 0 0] 26 (0, 0))) ∧ (w.heap.size ≤ s_.2.2) ∧ (w.heap.size ≤ s_.2.2) ∧ (gb360 ≠ s_.2.2) ∧ (s_.2.2 ≠ gb360) ∧ (gb361 ≠ s_.2.2) ∧ (s_.2.2 ≠ gb361) ∧ (Below w.heap.size w w')) ?_ ?_
   rotate_left
   ·intro hCont
    refine two_ (i := 2) (j := 7) (Ni := some 8) (Nj := some 3) #[tt, tt, tt, tt, tt, ff, ff, ff, ff] (M_ 9 155) rfl rfl rfl rfl (two_of HT_.out (by kernel_rfl)) (by decide) (by decide) (fun K hK => ?_) (fun K hK => ?_)
    ·skip
     refine Kd.R_append_rows_step (Kd.int .i64) (w0 := w) w.heap.size (by rfl) (.const (.slice none 0 0)) (.tmp 7) 23 3 (.int .i64 0) 8 rfl Try.underlying23 info3 rfl (by decide) (by omega) (.slice none 0 0) ([] : List Int) l0_0 _ _ _ (fun _ => True) (fun _ => False) rfl rfl ?aO ?aR (fun _ _ h => h) (fun _ h => h.elim) ?aF ?aB ?aS ?aL ?_
     (case aR => exact (Kd.C_below HR0_0.out HB.out))
     (case aB => exact HB.out)
     (case aF => exact (fun _ _ => trivial))
     (case aO => exact ((Kd.R_nil _ _ _ _ (fun _ => True))))
     (case aS => exact (below_size HB.out))
     (case aL => have := LMc2.out; omega)
     intro v363 w7 ho hb hg hat
     rw [← Ny362.out] at ho
     have HO364 := K_ (ho)
     replace BK360 := K_ (blk_grown BK360.out hg (by simp [Value.ownBlock]))
     replace BK361 := K_ (blk_grown BK361.out hg (by simp [Value.ownBlock]))
     replace HB := K_ (hb)
     clear ho hb hg hat
     refine hK.out _ _ ⟨(blk_cell BK360.out 0).trans rfl, (blk_cell BK360.out 1).trans rfl, (blk_cell BK360.out 2).trans rfl⟩ (fun hHeld => ?_)
     clear hK K
     refine norm_ (a' := ?_) ?_ ?_
     rotate_left
     ·show Act.put _ (some 8) _ = _
      simp only [P_, i64_w, i32_w]
      rfl
     refine two_ (i := 5) (j := 7) (Ni := some 11) (Nj := some 3) #[tt, tt, tt, tt, tt, tt, ff, ff, ff] (M_ 9 159) rfl rfl rfl rfl (two_of HT_.out (by kernel_rfl)) (by decide) (by decide) (fun K hK => ?_) (fun K hK => ?_)
     ·skip
      refine Kd.R_append_rows_step (Kd.int .i64) (w0 := w) w.heap.size (by rfl) (.const (.slice none 0 0)) (.tmp 10) 23 3 (.int .i64 0) 8 rfl Try.underlying23 info3 rfl (by decide) (by omega) (.slice none 0 0) ([] : List Int) l0_2 _ _ _ (fun k_ => X_ k_ v363) (fun _ => False) rfl rfl ?aO ?aR (fun _ _ h => h) (fun _ h => h.elim) ?aF ?aB ?aS ?aL ?_
      (case aR => exact (Kd.C_below HR0_2.out HB.out))
      (case aB => exact HB.out)
      (case aF => exact (fun k_ hk => Kd.fresh' (Kd.R_lt HO364.out) k_ hk))
      (case aO => exact ((Kd.R_nil _ _ _ _ (fun k_ => X_ k_ v363))))
      (case aS => exact (below_size HB.out))
      (case aL => have := LMc3.out; omega)
      intro v366 w8 ho hb hg hat
      rw [← Ny365.out] at ho
      have HO367 := K_ (ho)
      replace BK360 := K_ (blk_grown BK360.out hg (by simp [Value.ownBlock]))
      replace BK361 := K_ (blk_grown BK361.out hg (by simp [Value.ownBlock]))
      replace HO364 := K_ (Kd.R_after (Kd.R_apart_nil HO364.out) hg hat)
      replace HB := K_ (hb)
      clear ho hb hg hat
      obtain ⟨Ao9, co9, eo9⟩ := Kd.R_slice HO367.out
      (first | subst eo9 | (injection eo9 with f1_ f2_ f3_; have f4_ := f1_.symm; have f5_ := f3_.symm; clear f1_ f2_ f3_; subst f4_; subst f5_))
      obtain ⟨Ao10, co10, eo10⟩ := Kd.R_slice HO364.out
      (first | subst eo10 | (injection eo10 with f1_ f2_ f3_; have f4_ := f1_.symm; have f5_ := f3_.symm; clear f1_ f2_ f3_; subst f4_; subst f5_))
      refine hK.out _ _ ⟨(blk_cell BK360.out 0).trans rfl, (blk_cell BK360.out 1).trans rfl, (blk_cell BK360.out 2).trans rfl⟩ (fun hHeld => ?_)
      clear hK K
      refine norm_ (a' := ?_) ?_ ?_
      rotate_left
      ·show Act.put _ (some 11) _ = _
       simp only [P_, i64_w, i32_w]
       rfl
      refine pure_ (i := 6) (N := some 12) (v := ?_) (a' := ?_) (M_ 9 127) rfl rfl (any_of HT_.out (by kernel_rfl)) (fun _ _ _ h => h) (Or.inl ⟨by rfl, ?_⟩) ?_ ?_
      rotate_left
      ·intro w'
       go_simp
       with_reducible rfl
      rotate_left
      ·simp only [P_, i64_w, i32_w]
       rfl
      refine one_ (i := 7) (N := some 3) (M_ 9 255) rfl rfl (one_of HT_.out (by kernel_rfl)) (by decide) (fun K hK => ?_)
      refine box_step ?hg (N := 3) ?hd (cs := #[.slice none 0 0, .slice none 0 0, .slice none 0 0]) (t := 26) ?hr ?_; (case hd => rfl); (case hg => rfl); (case hr => go_simp; try rfl)
      intro gb368 hg w11 hbox hb
      have BK368 := K_ (hbox)
      have GW368 := ge_ hg HB.out
      have GE368 := ge_ hg HB.out
      have NB360_368 := nl_ hg BK360.out
      have NB368_360 := ng_ hg BK360.out
      have NB361_368 := nl_ hg BK361.out
      have NB368_361 := ng_ hg BK361.out
      replace HO364 := K_ (Kd.R_below HO364.out hb)
      replace HO367 := K_ (Kd.R_below HO367.out hb)
      replace BK360 := K_ (blk_below BK360.out hb)
      replace BK361 := K_ (blk_below BK361.out hb)
      replace HB := K_ (below_step HB.out hb)
      clear hb hbox hg
      refine hK.out _ _ ⟨(blk_cell BK360.out 0).trans rfl, (blk_cell BK360.out 1).trans rfl, (blk_cell BK360.out 2).trans rfl⟩ (fun hHeld => ?_)
      clear hK K
      refine norm_ (a' := ?_) ?_ ?_
      rotate_left
      ·show Act.put _ (some 3) _ = _
       simp only [P_, i64_w, i32_w]
       rfl
      exact norm_ (by simp only [putAll, P_]) (hCont (.slice Ao10 y362.length co10, .slice Ao9 y365.length co9, gb368) _ ⟨hHeld, (by exact Kd.R_mono HO364.out (fun _ hk => hk.2)), HO367.out, BK360.out, BK361.out, BK368.out, GW368.out, GE368.out, NB360_368.out, NB368_360.out, NB361_368.out, NB368_361.out, HB.out⟩)
     ·skip
      refine box_step ?hg (N := 3) ?hd (cs := #[.slice none 0 0, .slice none 0 0, .slice none 0 0]) (t := 26) ?hr ?_; (case hd => rfl); (case hg => rfl); (case hr => go_simp; try rfl)
      intro gb368 hg w8 hbox hb
      have BK368 := K_ (hbox)
      have GW368 := ge_ hg HB.out
      have GE368 := ge_ hg HB.out
      have NB360_368 := nl_ hg BK360.out
      have NB368_360 := ng_ hg BK360.out
      have NB361_368 := nl_ hg BK361.out
      have NB368_361 := ng_ hg BK361.out
      replace HO364 := K_ (Kd.R_below HO364.out hb)
      replace BK360 := K_ (blk_below BK360.out hb)
      replace BK361 := K_ (blk_below BK361.out hb)
      replace HB := K_ (below_step HB.out hb)
      clear hb hbox hg
      refine hK.out _ _ ⟨(blk_cell BK360.out 0).trans rfl, (blk_cell BK360.out 1).trans rfl, (blk_cell BK360.out 2).trans rfl⟩ (fun hHeld => ?_)
      clear hK K
      refine norm_ (a' := ?_) ?_ ?_
      rotate_left
      ·show Act.put _ (some 3) _ = _
       simp only [P_, i64_w, i32_w]
       rfl
      refine one_ (i := 5) (N := some 11) (M_ 9 191) rfl rfl (one_of HT_.out (by kernel_rfl)) (by decide) (fun K hK => ?_)
      refine Kd.R_append_rows_step (Kd.int .i64) (w0 := w) w.heap.size (by rfl) (.const (.slice none 0 0)) (.tmp 10) 23 3 (.int .i64 0) 8 rfl Try.underlying23 info3 rfl (by decide) (by omega) (.slice none 0 0) ([] : List Int) l0_2 _ _ _ (fun k_ => X_ k_ v363) (fun _ => False) rfl rfl ?aO ?aR (fun _ _ h => h) (fun _ h => h.elim) ?aF ?aB ?aS ?aL ?_
      (case aR => exact (Kd.C_below HR0_2.out HB.out))
      (case aB => exact HB.out)
      (case aF => exact (fun k_ hk => Kd.fresh' (Kd.R_lt HO364.out) k_ hk))
      (case aO => exact ((Kd.R_nil _ _ _ _ (fun k_ => X_ k_ v363))))
      (case aS => exact (below_size HB.out))
      (case aL => have := LMc3.out; omega)
      intro v366 w9 ho hb hg hat
      rw [← Ny365.out] at ho
      have HO367 := K_ (ho)
      replace BK360 := K_ (blk_grown BK360.out hg (by simp [Value.ownBlock]))
      replace BK361 := K_ (blk_grown BK361.out hg (by simp [Value.ownBlock]))
      replace HO364 := K_ (Kd.R_after (Kd.R_apart_nil HO364.out) hg hat)
      replace BK368 := K_ (blk_grown BK368.out hg (by simp [Value.ownBlock]))
      replace HB := K_ (hb)
      clear ho hb hg hat
      obtain ⟨Ao10, co10, eo10⟩ := Kd.R_slice HO367.out
      (first | subst eo10 | (injection eo10 with f1_ f2_ f3_; have f4_ := f1_.symm; have f5_ := f3_.symm; clear f1_ f2_ f3_; subst f4_; subst f5_))
      obtain ⟨Ao11, co11, eo11⟩ := Kd.R_slice HO364.out
      (first | subst eo11 | (injection eo11 with f1_ f2_ f3_; have f4_ := f1_.symm; have f5_ := f3_.symm; clear f1_ f2_ f3_; subst f4_; subst f5_))
      refine hK.out _ _ ⟨(blk_cell BK360.out 0).trans rfl, (blk_cell BK360.out 1).trans rfl, (blk_cell BK360.out 2).trans rfl⟩ (fun hHeld => ?_)
      clear hK K
      refine norm_ (a' := ?_) ?_ ?_
      rotate_left
      ·show Act.put _ (some 11) _ = _
       simp only [P_, i64_w, i32_w]
       rfl
      refine pure_ (i := 6) (N := some 12) (v := ?_) (a' := ?_) (M_ 9 255) rfl rfl (any_of HT_.out (by kernel_rfl)) (fun _ _ _ h => h) (Or.inl ⟨by rfl, ?_⟩) ?_ ?_
      rotate_left
      ·intro w'
       go_simp
       with_reducible rfl
      rotate_left
      ·simp only [P_, i64_w, i32_w]
       rfl
      exact norm_ (by simp only [putAll, P_]) (hCont (.slice Ao11 y362.length co11, .slice Ao10 y365.length co10, gb368) _ ⟨hHeld, (by exact Kd.R_mono HO364.out (fun _ hk => hk.2)), HO367.out, BK360.out, BK361.out, BK368.out, GW368.out, GE368.out, NB360_368.out, NB368_360.out, NB361_368.out, NB368_361.out, HB.out⟩)
    ·skip
     refine box_step ?hg (N := 3) ?hd (cs := #[.slice none 0 0, .slice none 0 0, .slice none 0 0]) (t := 26) ?hr ?_; (case hd => rfl); (case hg => rfl); (case hr => go_simp; try rfl)
     intro gb368 hg w7 hbox hb
     have BK368 := K_ (hbox)
     have GW368 := ge_ hg HB.out
     have GE368 := ge_ hg HB.out
     have NB360_368 := nl_ hg BK360.out
     have NB368_360 := ng_ hg BK360.out
     have NB361_368 := nl_ hg BK361.out
     have NB368_361 := ng_ hg BK361.out
     replace BK360 := K_ (blk_below BK360.out hb)
     replace BK361 := K_ (blk_below BK361.out hb)
     replace HB := K_ (below_step HB.out hb)
     clear hb hbox hg
     refine hK.out _ _ ⟨(blk_cell BK360.out 0).trans rfl, (blk_cell BK360.out 1).trans rfl, (blk_cell BK360.out 2).trans rfl⟩ (fun hHeld => ?_)
     clear hK K
     refine norm_ (a' := ?_) ?_ ?_
     rotate_left
     ·show Act.put _ (some 3) _ = _
      simp only [P_, i64_w, i32_w]
      rfl
     refine one_ (i := 2) (N := some 8) (M_ 9 159) rfl rfl (one_of HT_.out (by kernel_rfl)) (by decide) (fun K hK => ?_)
     refine Kd.R_append_rows_step (Kd.int .i64) (w0 := w) w.heap.size (by rfl) (.const (.slice none 0 0)) (.tmp 7) 23 3 (.int .i64 0) 8 rfl Try.underlying23 info3 rfl (by decide) (by omega) (.slice none 0 0) ([] : List Int) l0_0 _ _ _ (fun _ => True) (fun _ => False) rfl rfl ?aO ?aR (fun _ _ h => h) (fun _ h => h.elim) ?aF ?aB ?aS ?aL ?_
     (case aR => exact (Kd.C_below HR0_0.out HB.out))
     (case aB => exact HB.out)
     (case aF => exact (fun _ _ => trivial))
     (case aO => exact ((Kd.R_nil _ _ _ _ (fun _ => True))))
     (case aS => exact (below_size HB.out))
     (case aL => have := LMc2.out; omega)
     intro v363 w8 ho hb hg hat
     rw [← Ny362.out] at ho
     have HO364 := K_ (ho)
     replace BK360 := K_ (blk_grown BK360.out hg (by simp [Value.ownBlock]))
     replace BK361 := K_ (blk_grown BK361.out hg (by simp [Value.ownBlock]))
     replace BK368 := K_ (blk_grown BK368.out hg (by simp [Value.ownBlock]))
     replace HB := K_ (hb)
     clear ho hb hg hat
     refine hK.out _ _ ⟨(blk_cell BK360.out 0).trans rfl, (blk_cell BK360.out 1).trans rfl, (blk_cell BK360.out 2).trans rfl⟩ (fun hHeld => ?_)
     clear hK K
     refine norm_ (a' := ?_) ?_ ?_
     rotate_left
     ·show Act.put _ (some 8) _ = _
      simp only [P_, i64_w, i32_w]
      rfl
     refine one_ (i := 5) (N := some 11) (M_ 9 191) rfl rfl (one_of HT_.out (by kernel_rfl)) (by decide) (fun K hK => ?_)
     refine Kd.R_append_rows_step (Kd.int .i64) (w0 := w) w.heap.size (by rfl) (.const (.slice none 0 0)) (.tmp 10) 23 3 (.int .i64 0) 8 rfl Try.underlying23 info3 rfl (by decide) (by omega) (.slice none 0 0) ([] : List Int) l0_2 _ _ _ (fun k_ => X_ k_ v363) (fun _ => False) rfl rfl ?aO ?aR (fun _ _ h => h) (fun _ h => h.elim) ?aF ?aB ?aS ?aL ?_
     (case aR => exact (Kd.C_below HR0_2.out HB.out))
     (case aB => exact HB.out)
     (case aF => exact (fun k_ hk => Kd.fresh' (Kd.R_lt HO364.out) k_ hk))
     (case aO => exact ((Kd.R_nil _ _ _ _ (fun k_ => X_ k_ v363))))
     (case aS => exact (below_size HB.out))
     (case aL => have := LMc3.out; omega)
     intro v366 w9 ho hb hg hat
     rw [← Ny365.out] at ho
     have HO367 := K_ (ho)
     replace BK360 := K_ (blk_grown BK360.out hg (by simp [Value.ownBlock]))
     replace BK361 := K_ (blk_grown BK361.out hg (by simp [Value.ownBlock]))
     replace BK368 := K_ (blk_grown BK368.out hg (by simp [Value.ownBlock]))
     replace HO364 := K_ (Kd.R_after (Kd.R_apart_nil HO364.out) hg hat)
     replace HB := K_ (hb)
     clear ho hb hg hat
     obtain ⟨Ao10, co10, eo10⟩ := Kd.R_slice HO367.out
     (first | subst eo10 | (injection eo10 with f1_ f2_ f3_; have f4_ := f1_.symm; have f5_ := f3_.symm; clear f1_ f2_ f3_; subst f4_; subst f5_))
     obtain ⟨Ao11, co11, eo11⟩ := Kd.R_slice HO364.out
     (first | subst eo11 | (injection eo11 with f1_ f2_ f3_; have f4_ := f1_.symm; have f5_ := f3_.symm; clear f1_ f2_ f3_; subst f4_; subst f5_))
     refine hK.out _ _ ⟨(blk_cell BK360.out 0).trans rfl, (blk_cell BK360.out 1).trans rfl, (blk_cell BK360.out 2).trans rfl⟩ (fun hHeld => ?_)
     clear hK K
     refine norm_ (a' := ?_) ?_ ?_
     rotate_left
     ·show Act.put _ (some 11) _ = _
      simp only [P_, i64_w, i32_w]
      rfl
     refine pure_ (i := 6) (N := some 12) (v := ?_) (a' := ?_) (M_ 9 255) rfl rfl (any_of HT_.out (by kernel_rfl)) (fun _ _ _ h => h) (Or.inl ⟨by rfl, ?_⟩) ?_ ?_
     rotate_left
     ·intro w'
      go_simp
      with_reducible rfl
     rotate_left
     ·simp only [P_, i64_w, i32_w]
      rfl
     exact norm_ (by simp only [putAll, P_]) (hCont (.slice Ao11 y362.length co11, .slice Ao10 y365.length co10, gb368) _ ⟨hHeld, (by exact Kd.R_mono HO364.out (fun _ hk => hk.2)), HO367.out, BK360.out, BK361.out, BK368.out, GW368.out, GE368.out, NB360_368.out, NB368_360.out, NB361_368.out, NB368_361.out, HB.out⟩)
   rintro ⟨v363, v366, gb368⟩ w12 ⟨hS_, h0_, h1_, h2_, h3_, h4_, h5_, h6_, h7_, h8_, h9_, h10_, h11_⟩
   have n0_ : Aside0 (Kd.R (Kd.int .i64) 3 w12 w.heap.size (fun k_ => X_ k_ v366) v363 y362) := ⟨h0_⟩
   have n1_ : Aside0 (Kd.R (Kd.int .i64) 3 w12 w.heap.size (fun k_ => X_ k_ v363) v366 y365) := ⟨h1_⟩
   have n2_ : Aside0 (w12.heap[gb360]? = some (.cells #[.slice A0_0 l0_0.length c0_0, .slice A0_1 l0_1.length c0_1, .slice A0_2 l0_2.length c0_2] 26 (0, 0))) := ⟨h2_⟩
   have n3_ : Aside0 (w12.heap[gb361]? = some (.cells #[.slice none 0 0, .slice none 0 0, .slice none 0 0] 26 (0, 0))) := ⟨h3_⟩
   have n4_ : Aside0 (w12.heap[gb368]? = some (.cells #[.slice none 0 0, .slice none 0 0, .slice none 0 0] 26 (0, 0))) := ⟨h4_⟩
   have n5_ : Aside0 (w.heap.size ≤ gb368) := ⟨h5_⟩
   have n6_ : Aside0 (w.heap.size ≤ gb368) := ⟨h6_⟩
   have n7_ : Aside0 (gb360 ≠ gb368) := ⟨h7_⟩
   have n8_ : Aside0 (gb368 ≠ gb360) := ⟨h8_⟩
   have n9_ : Aside0 (gb361 ≠ gb368) := ⟨h9_⟩
   have n10_ : Aside0 (gb368 ≠ gb361) := ⟨h10_⟩
   have n11_ : Aside0 (Below w.heap.size w w12) := ⟨h11_⟩
   clear BK360
   clear BK361
   clear HB
   clear h0_ h1_ h2_ h3_ h4_ h5_ h6_ h7_ h8_ h9_ h10_ h11_
   have HO364 := n0_
   have HO367 := n1_
   have BK360 := n2_
   have BK361 := n3_
   have BK368 := n4_
   have GW368 := n5_
   have GE368 := n6_
   have NB360_368 := n7_
   have NB368_360 := n8_
   have NB361_368 := n9_
   have NB368_361 := n10_
   have HB := n11_
   clear n0_ n1_ n2_ n3_ n4_ n5_ n6_ n7_ n8_ n9_ n10_ n11_
   have hHeld : w12.cell? ⟨gb360, 0, none⟩ = some (.slice A0_0 l0_0.length c0_0) ∧ w12.cell? ⟨gb360, 1, none⟩ = some (.slice A0_1 l0_1.length c0_1) ∧ w12.cell? ⟨gb360, 2, none⟩ = some (.slice A0_2 l0_2.length c0_2) := hS_
   obtain ⟨Ao13, co13, eo13⟩ := Kd.R_slice HO367.out
   (first | subst eo13 | (injection eo13 with f1_ f2_ f3_; have f4_ := f1_.symm; have f5_ := f3_.symm; clear f1_ f2_ f3_; subst f4_; subst f5_))
   obtain ⟨Ao14, co14, eo14⟩ := Kd.R_slice HO364.out
   (first | subst eo14 | (injection eo14 with f1_ f2_ f3_; have f4_ := f1_.symm; have f5_ := f3_.symm; clear f1_ f2_ f3_; subst f4_; subst f5_))
   refine norm_ (a' := ?_) ?_ ?_
   rotate_left
   ·simp only [putAll, P_]
    rfl
   refine one_ (i := 8) (N := none) (M_ 9 511) rfl rfl (one_of HT_.out (by kernel_rfl)) (by decide) (fun K hK => ?_)
   have hs15 : w12.cell? ⟨gb368, 0, none⟩ = some (.slice none 0 0) := (blk_cell BK368.out 0).trans rfl
   have hfs15 := blk_frozen BK368.out 0
   have hns15_0 := NB360_368.out
   have hns15_1 := NB361_368.out
   have hms15_0 := NB368_360.out
   have hms15_1 := NB368_361.out
   have hs16 : w12.cell? ⟨gb368, 1, none⟩ = some (.slice none 0 0) := (blk_cell BK368.out 1).trans rfl
   have hfs16 := blk_frozen BK368.out 1
   have hns16_0 := NB360_368.out
   have hns16_1 := NB361_368.out
   have hms16_0 := NB368_360.out
   have hms16_1 := NB368_361.out
   have hs17 : w12.cell? ⟨gb368, 2, none⟩ = some (.slice none 0 0) := (blk_cell BK368.out 2).trans rfl
   have hfs17 := blk_frozen BK368.out 2
   have hns17_0 := NB360_368.out
   have hns17_1 := NB361_368.out
   have hms17_0 := NB368_360.out
   have hms17_1 := NB368_361.out
   refine skip_ (w1 := ?_) (by rfl) rfl ?_ ?_
   rotate_left
   ·go_simp
    rfl
   refine hK.out _ _ ⟨((cell_far (p := ⟨gb368, _, none⟩) NB360_368.out _).trans (((cell_far (p := ⟨gb368, _, none⟩) NB360_368.out _).trans (((cell_far (p := ⟨gb368, _, none⟩) NB360_368.out _).trans (hHeld.1)))))), ((cell_far (p := ⟨gb368, _, none⟩) NB360_368.out _).trans (((cell_far (p := ⟨gb368, _, none⟩) NB360_368.out _).trans (((cell_far (p := ⟨gb368, _, none⟩) NB360_368.out _).trans (hHeld.2.1)))))), ((cell_far (p := ⟨gb368, _, none⟩) NB360_368.out _).trans (((cell_far (p := ⟨gb368, _, none⟩) NB360_368.out _).trans (((cell_far (p := ⟨gb368, _, none⟩) NB360_368.out _).trans (hHeld.2.2))))))⟩ (fun hHeld => ?_)
   clear hK K
   refine done_ (done_of HT_.out (by kernel_rfl)) ?_
   have hnb18 := NB360_361.out
   have hnc18 := NB361_360.out
   have hnb19 := NB360_368.out
   have hnc19 := NB368_360.out
   obtain ⟨hcz20_0, hcz20_1, hcz20_2, hfz20_0, hfz20_1, hfz20_2⟩ := blkf3_ BK360.out
   try go_wp2
   go_loopg [16] k (fun kq v16 w' => ∃ (x16_1 : Int) (x01_1 : List (S35)) (u01 : Value), v16 = .int .i64 x16_1 ∧ Aside0 (impl_copyState.l0 kq l0_1 (l0_1.length : Int) x16_1 y362 x01_1 y365 = some (r1, r2, r3)) ∧ Aside0 (kq ≤ k) ∧ Aside0 (Kd.R (Kd.int .i64) 3 w' w.heap.size (fun k_ => some k_ ≠ ((.slice Ao13 y365.length co13) : Value).ownBlock) (.slice Ao14 y362.length co14) y362) ∧ Aside0 (Kd.S k35 35 w' w.heap.size (fun k_ => some k_ ≠ ((.slice Ao14 y362.length co14) : Value).ownBlock ∧ some k_ ≠ ((.slice Ao13 y365.length co13) : Value).ownBlock) u01 x01_1) ∧ Aside0 (Kd.R (Kd.int .i64) 3 w' w.heap.size (fun k_ => some k_ ≠ ((.slice Ao14 y362.length co14) : Value).ownBlock) (.slice Ao13 y365.length co13) y365) ∧ Aside0 (w'.heap[gb360]? = some (.cells #[(.slice A0_0 l0_0.length c0_0), (.slice A0_1 l0_1.length c0_1), (.slice A0_2 l0_2.length c0_2)] 26 (0, 0))) ∧ Aside0 (w'.heap[gb361]? = some (.cells #[(.slice none 0 0), (.slice none 0 0), (.slice none 0 0)] 26 (0, 0))) ∧ Aside0 (w'.heap[gb368]? = some (.cells #[(.slice Ao14 y362.length co14), u01, (.slice Ao13 y365.length co13)] 26 (0, 0))) ∧ Aside0 (Below w.heap.size w w'))
   case atStart => exact ⟨(0), (([] : List (S35))), (.slice none 0 0), rfl, H', ⟨Nat.le_refl _⟩, ⟨by exact Kd.R_mono (Kd.R_far (p := ⟨gb368, 2, none⟩) (Kd.R_far (p := ⟨gb368, 1, none⟩) (Kd.R_far (p := ⟨gb368, 0, none⟩) (Kd.R_types HO364.out BK368.out (by decide)) (fun _ hk => hk.2) (.slice Ao14 y362.length co14)) (fun _ hk => hk.2) (.slice none 0 0)) (fun _ hk => hk.2) (.slice Ao13 y365.length co13)) (fun _ hk => hk.1)⟩, ⟨Kd.S_nil _ _ _ _ _⟩, ⟨by exact Kd.R_mono (Kd.R_far (p := ⟨gb368, 2, none⟩) (Kd.R_far (p := ⟨gb368, 1, none⟩) (Kd.R_far (p := ⟨gb368, 0, none⟩) (Kd.R_types HO367.out BK368.out (by decide)) (fun _ hk => hk.2) (.slice Ao14 y362.length co14)) (fun _ hk => hk.2) (.slice none 0 0)) (fun _ hk => hk.2) (.slice Ao13 y365.length co13)) (fun _ hk => hk.1)⟩, ⟨by refine blk_far ?_ NB360_368.out _; refine blk_far ?_ NB360_368.out _; refine blk_far ?_ NB360_368.out _; exact BK360.out⟩, ⟨by refine blk_far ?_ NB361_368.out _; refine blk_far ?_ NB361_368.out _; refine blk_far ?_ NB361_368.out _; exact BK361.out⟩, ⟨by refine blk_put (cs := #[.slice Ao14 y362.length co14, .slice none 0 0, .slice none 0 0]) ?_ 2 _ rfl; refine blk_put (cs := #[.slice Ao14 y362.length co14, .slice none 0 0, .slice none 0 0]) ?_ 1 _ rfl; refine blk_put (cs := #[.slice none 0 0, .slice none 0 0, .slice none 0 0]) ?_ 0 _ rfl; exact BK368.out⟩, ⟨by repeat (first | exact HB.out | refine below_set ?_ GE360.out | refine below_set ?_ GE361.out | refine below_set ?_ GE368.out)⟩⟩
   case round =>
    clear H'
    clear hcz20_0 hcz20_1 hcz20_2 hfz20_0 hfz20_1 hfz20_2
    obtain ⟨x16_1, x01_1, u01, rfl, HA, HK1, HO_00, HO_01, HO_02, BK360, BK361, BK368, HB⟩ := hrel
    cases gk with
    | zero => exact absurd HA.out (by simp [impl_copyState.l0])
    | succ k1 =>
     have H := HA.out
     clear HA
     simp only [impl_copyState.l0] at H
     by_cases c21 : x16_1 < (l0_1.length : Int)
     ·rw [if_pos c21] at H
      have c21b0 := decide_eq_true c21
      clear c21
      by_cases c22 : 0 ≤ x16_1
      ·rw [if_pos c22] at H
       have c22b0 := decide_eq_true c22
       clear c22
       by_cases c23 : x16_1 < (l0_1.length : Int)
       ·rw [if_pos c23] at H
        have c23b0 := decide_eq_true c23
        clear c23
        by_cases c24 : ([] : List Int).length + ((rd_T35 l0_1 x16_1).f1).length < 17592186044416
        ·rw [if_pos c24] at H
         have LMc24 := K_ c24
         clear c24
         obtain ⟨y371, hy371⟩ : ∃ y_ : List Int, y_ = (([] : List Int) ++ ((rd_T35 l0_1 x16_1).f1)) := ⟨_, rfl⟩
         rw [← hy371] at H
         have Ny371 := K_ hy371
         clear hy371
         by_cases c25 : x01_1.length < 3518437208883
         ·rw [if_pos c25] at H
          have LMc25 := K_ c25
          clear c25
          obtain ⟨y374, hy374⟩ : ∃ y_ : List (S35), y_ = (x01_1 ++ [(⟨(rd_T35 l0_1 x16_1).f0, y371, (rd_T35 l0_1 x16_1).f2⟩ : S35)]) := ⟨_, rfl⟩
          rw [← hy374] at H
          have Ny374 := K_ hy374
          clear hy374
          have H' := K_ H
          clear H
          have p369 : 0 ≤ (x16_1 : Int) := of_decide_eq_true (by assumption)
          have q369 : x16_1 < (l0_1.length : Int) := of_decide_eq_true (by assumption)
          obtain ⟨ad369, A369_1, c369_1, e369, hx369_0, hx369_1, hx369_2, hl369_1, hi369_1⟩ := at_T35 HR0_1.out x16_1 p369 q369
          cases e369
          replace hx369_0 := (HB.out.cell (World.block_lt_of_cell? w _ hx369_0)).trans hx369_0
          replace hx369_1 := (HB.out.cell (World.block_lt_of_cell? w _ hx369_1)).trans hx369_1
          replace hx369_2 := (HB.out.cell (World.block_lt_of_cell? w _ hx369_2)).trans hx369_2
          have HR369_1 := K_ hi369_1
          have HC369_1 := K_ hl369_1
          clear hi369_1 hl369_1
          replace p369 := eq_true p369
          replace q369 := eq_true q369
          go_wp2_with (first | ((with_reducible refine gate_dst (N := 5) rfl ?_); refine box_event (by rfl) (N := 5) (by rfl) (cs := #[.int .i64 0, .slice none 0 0, .int .i64 0]) (t := 35) (by go_simp; try rfl) ?_; intro gb370 hg w26 hbox hb; have BK370 := K_ (hbox); have GW370 := ge_ hg HB.out; have GE370 := ge_ hg HB.out; have NB360_370 := nl_ hg BK360.out; have NB370_360 := ng_ hg BK360.out; have NB361_370 := nl_ hg BK361.out; have NB370_361 := ng_ hg BK361.out; have NB368_370 := nl_ hg BK368.out; have NB370_368 := ng_ hg BK368.out; replace HO_00 := K_ (Kd.R_below HO_00.out hb); replace HO_01 := K_ (Kd.S_below (Kd.S_elderB HO_01.out gb370 (Nat.le_of_eq hg.symm)) hb); replace HO_02 := K_ (Kd.R_below HO_02.out hb); replace BK360 := K_ (blk_below BK360.out hb); replace BK361 := K_ (blk_below BK361.out hb); replace BK368 := K_ (blk_below BK368.out hb); replace HB := K_ (below_step HB.out hb); clear hb hbox hg; have hnb27 := NB370_360.out; have hnc27 := NB360_370.out; have hnb28 := NB370_361.out; have hnc28 := NB361_370.out; have hnb29 := NB370_368.out; have hnc29 := NB368_370.out; obtain ⟨hcz30_0, hcz30_1, hcz30_2, hfz30_0, hfz30_1, hfz30_2⟩ := blkf3_ BK370.out) | ((with_reducible refine gate_builtin (b := .append) (xs := #[.const (.slice none 0 0), .tmp 21]) rfl ?_); at_builtin; refine Kd.R_append_rows (Kd.int .i64) (w0 := w) w.heap.size rfl (.const (.slice none 0 0)) (.tmp 21) 23 3 (.int .i64 0) 8 rfl Try.underlying23 info3 rfl (by decide) (by omega) (.slice none 0 0) ([] : List Int) ((rd_T35 l0_1 x16_1).f1) _ _ _ (fun k_ => X_ k_ (.slice Ao14 y362.length co14) ∧ X_ k_ (.slice Ao13 y365.length co13)) (fun _ => False) rfl rfl ?aO ?aR (fun _ _ h => h) (fun _ h => h.elim) ?aF ?aB ?aS ?aL ?_; (case aR => exact Kd.C_below HR369_1.out (by repeat (first | exact HB.out | refine below_set ?_ GE360.out | refine below_set ?_ GE361.out | refine below_set ?_ GE368.out | refine below_set ?_ GE370.out))); (case aB => exact (by repeat (first | exact HB.out | refine below_set ?_ GE360.out | refine below_set ?_ GE361.out | refine below_set ?_ GE368.out | refine below_set ?_ GE370.out))); (case aF => exact (fun k_ hk => ⟨Kd.fresh' (Kd.R_lt (by exact (Kd.R_mono (Kd.R_far (p := ⟨gb370, 2, none⟩) (Kd.R_far (p := ⟨gb370, 1, none⟩) (Kd.R_far (p := ⟨gb370, 0, none⟩) (Kd.R_types HO_00.out BK370.out (by decide)) (fun _ hk => hk.2) (.int .i64 ((rd_T35 l0_1 x16_1).f0))) (fun _ hk => hk.2) (.slice A369_1 ((rd_T35 l0_1 x16_1).f1).length c369_1)) (fun _ hk => hk.2) (.int .i64 ((rd_T35 l0_1 x16_1).f2))) (fun _ h_ => h_.1)))) k_ hk, Kd.fresh' (Kd.R_lt (by exact (Kd.R_mono (Kd.R_far (p := ⟨gb370, 2, none⟩) (Kd.R_far (p := ⟨gb370, 1, none⟩) (Kd.R_far (p := ⟨gb370, 0, none⟩) (Kd.R_types HO_02.out BK370.out (by decide)) (fun _ hk => hk.2) (.int .i64 ((rd_T35 l0_1 x16_1).f0))) (fun _ hk => hk.2) (.slice A369_1 ((rd_T35 l0_1 x16_1).f1).length c369_1)) (fun _ hk => hk.2) (.int .i64 ((rd_T35 l0_1 x16_1).f2))) (fun _ h_ => h_.1)))) k_ hk⟩)); (case aO => exact ((Kd.R_nil _ _ _ _ (fun k_ => X_ k_ (.slice Ao14 y362.length co14) ∧ X_ k_ (.slice Ao13 y365.length co13))))); (case aS => exact (below_size (by repeat (first | exact HB.out | refine below_set ?_ GE360.out | refine below_set ?_ GE361.out | refine below_set ?_ GE368.out | refine below_set ?_ GE370.out)))); (case aL => have := LMc24.out; omega); intro v372 w31 ho hb hg hat; rw [← Ny371.out] at ho; have HO373 := K_ (ho); replace HO_00 := K_ (Kd.R_after (Kd.R_apart_nil (by exact (Kd.R_mono (Kd.R_far (p := ⟨gb370, 2, none⟩) (Kd.R_far (p := ⟨gb370, 1, none⟩) (Kd.R_far (p := ⟨gb370, 0, none⟩) (Kd.R_types HO_00.out BK370.out (by decide)) (fun _ hk => hk.2) (.int .i64 ((rd_T35 l0_1 x16_1).f0))) (fun _ hk => hk.2) (.slice A369_1 ((rd_T35 l0_1 x16_1).f1).length c369_1)) (fun _ hk => hk.2) (.int .i64 ((rd_T35 l0_1 x16_1).f2))) (fun _ h_ => h_.1)))) hg hat); replace HO_01 := K_ (Kd.S_after (Kd.S_apart_nil (by exact (Kd.S_mono (Kd.S_far (p := ⟨gb370, 2, none⟩) (Kd.S_far (p := ⟨gb370, 1, none⟩) (Kd.S_far (p := ⟨gb370, 0, none⟩) (Kd.S_mono HO_01.out (fun k_ hk => (⟨hk, hk.2⟩ : _ ∧ k_ ≠ gb370))) (fun _ hk => hk.2) (.int .i64 ((rd_T35 l0_1 x16_1).f0))) (fun _ hk => hk.2) (.slice A369_1 ((rd_T35 l0_1 x16_1).f1).length c369_1)) (fun _ hk => hk.2) (.int .i64 ((rd_T35 l0_1 x16_1).f2))) (fun _ h_ => h_.1)))) hg hat); replace HO_02 := K_ (Kd.R_after (Kd.R_apart_nil (by exact (Kd.R_mono (Kd.R_far (p := ⟨gb370, 2, none⟩) (Kd.R_far (p := ⟨gb370, 1, none⟩) (Kd.R_far (p := ⟨gb370, 0, none⟩) (Kd.R_types HO_02.out BK370.out (by decide)) (fun _ hk => hk.2) (.int .i64 ((rd_T35 l0_1 x16_1).f0))) (fun _ hk => hk.2) (.slice A369_1 ((rd_T35 l0_1 x16_1).f1).length c369_1)) (fun _ hk => hk.2) (.int .i64 ((rd_T35 l0_1 x16_1).f2))) (fun _ h_ => h_.1)))) hg hat); replace BK360 := K_ (blk_grown (g := gb360) (o := .cells #[.slice A0_0 l0_0.length c0_0, .slice (some ad369) l0_1.length c0_1, .slice A0_2 l0_2.length c0_2] 26 (0, 0)) (by refine blk_far ?_ NB360_370.out _; refine blk_far ?_ NB360_370.out _; refine blk_far ?_ NB360_370.out _; exact BK360.out) hg (by simp [Value.ownBlock])); replace BK361 := K_ (blk_grown (g := gb361) (o := .cells #[.slice none 0 0, .slice none 0 0, .slice none 0 0] 26 (0, 0)) (by refine blk_far ?_ NB361_370.out _; refine blk_far ?_ NB361_370.out _; refine blk_far ?_ NB361_370.out _; exact BK361.out) hg (by simp [Value.ownBlock])); replace BK368 := K_ (blk_grown (g := gb368) (o := .cells #[.slice Ao14 y362.length co14, u01, .slice Ao13 y365.length co13] 26 (0, 0)) (by refine blk_far ?_ NB368_370.out _; refine blk_far ?_ NB368_370.out _; refine blk_far ?_ NB368_370.out _; exact BK368.out) hg (by simp [Value.ownBlock])); replace BK370 := K_ (blk_grown (g := gb370) (o := .cells #[.int .i64 ((rd_T35 l0_1 x16_1).f0), .slice A369_1 ((rd_T35 l0_1 x16_1).f1).length c369_1, .int .i64 ((rd_T35 l0_1 x16_1).f2)] 35 (0, 0)) (by refine blk_put (cs := #[.int .i64 ((rd_T35 l0_1 x16_1).f0), .slice A369_1 ((rd_T35 l0_1 x16_1).f1).length c369_1, .int .i64 0]) ?_ 2 _ rfl; refine blk_put (cs := #[.int .i64 ((rd_T35 l0_1 x16_1).f0), .slice none 0 0, .int .i64 0]) ?_ 1 _ rfl; refine blk_put (cs := #[.int .i64 0, .slice none 0 0, .int .i64 0]) ?_ 0 _ rfl; exact BK370.out) hg (by simp [Value.ownBlock])); replace HB := K_ (hb); clear ho hb hg hat; obtain ⟨Ao32, co32, eo32⟩ := Kd.R_slice HO373.out; subst eo32; obtain ⟨hcz33_0, hcz33_1, hcz33_2, hfz33_0, hfz33_1, hfz33_2⟩ := blkf3_ BK370.out) | ((with_reducible refine gate_store (t := 23) (p := 23) rfl ?_); refine store_event (t := 23) (p := 23) (v := ?vo_w34) (w1 := (w31.setCell ⟨gb370, 1, none⟩ (.slice Ao32 y371.length co32))) ?hg ?ho ?hn ?hr ?_; (case ho => rfl); (case hg => rfl); (case hn => rfl); (case hr => go_simp; try rfl); intro w34 hw; replace HO_00 : Aside0 (Kd.R (Kd.int .i64) 3 w34 w.heap.size (fun k_ => X_ k_ (.slice Ao13 y365.length co13) ∧ X_ k_ (.slice Ao32 y371.length co32)) (.slice Ao14 y362.length co14) y362) := ⟨(by rw [hw]; exact (by exact Kd.R_mono (Kd.R_far (p := ⟨gb370, 1, none⟩) (Kd.R_types HO_00.out BK370.out (by decide)) (fun _ hk => hk.2) (.slice Ao32 y371.length co32)) (fun _ hk => ⟨hk.1.1, hk.1.2⟩)))⟩; replace HO_01 : Aside0 (Kd.S k35 35 w34 w.heap.size (fun k_ => X_ k_ (.slice Ao14 y362.length co14) ∧ X_ k_ (.slice Ao13 y365.length co13) ∧ X_ k_ (.slice Ao32 y371.length co32) ∧ k_ ≠ gb370) u01 x01_1) := ⟨(by rw [hw]; exact (by exact Kd.S_mono (Kd.S_far (p := ⟨gb370, 1, none⟩) (Kd.S_mono HO_01.out (fun k_ hk => (⟨hk, hk.1.2⟩ : _ ∧ k_ ≠ gb370))) (fun _ hk => hk.2) (.slice Ao32 y371.length co32)) (fun _ hk => ⟨hk.1.1.1.1, ⟨hk.1.1.1.2, ⟨hk.1.2, hk.1.1.2⟩⟩⟩)))⟩; replace HO_02 : Aside0 (Kd.R (Kd.int .i64) 3 w34 w.heap.size (fun k_ => X_ k_ (.slice Ao14 y362.length co14) ∧ X_ k_ (.slice Ao32 y371.length co32)) (.slice Ao13 y365.length co13) y365) := ⟨(by rw [hw]; exact (by exact Kd.R_mono (Kd.R_far (p := ⟨gb370, 1, none⟩) (Kd.R_types HO_02.out BK370.out (by decide)) (fun _ hk => hk.2) (.slice Ao32 y371.length co32)) (fun _ hk => ⟨hk.1.1, hk.1.2⟩)))⟩; replace HO373 : Aside0 (Kd.R (Kd.int .i64) 3 w34 w.heap.size (fun k_ => X_ k_ (.slice Ao14 y362.length co14) ∧ X_ k_ (.slice Ao13 y365.length co13)) (.slice Ao32 y371.length co32) y371) := ⟨(by rw [hw]; exact (by exact Kd.R_mono (Kd.R_far (p := ⟨gb370, 1, none⟩) (Kd.R_types HO373.out BK370.out (by decide)) (fun _ hk => hk.2) (.slice Ao32 y371.length co32)) (fun _ hk => ⟨hk.1.1, hk.1.2⟩)))⟩; replace BK360 : Aside0 (w34.heap[gb360]? = some (.cells #[.slice A0_0 l0_0.length c0_0, .slice (some ad369) l0_1.length c0_1, .slice A0_2 l0_2.length c0_2] 26 (0, 0))) := ⟨(by rw [hw]; exact (by refine blk_far ?_ NB360_370.out _; exact BK360.out))⟩; replace BK361 : Aside0 (w34.heap[gb361]? = some (.cells #[.slice none 0 0, .slice none 0 0, .slice none 0 0] 26 (0, 0))) := ⟨(by rw [hw]; exact (by refine blk_far ?_ NB361_370.out _; exact BK361.out))⟩; replace BK368 : Aside0 (w34.heap[gb368]? = some (.cells #[.slice Ao14 y362.length co14, u01, .slice Ao13 y365.length co13] 26 (0, 0))) := ⟨(by rw [hw]; exact (by refine blk_far ?_ NB368_370.out _; exact BK368.out))⟩; replace BK370 : Aside0 (w34.heap[gb370]? = some (.cells #[.int .i64 ((rd_T35 l0_1 x16_1).f0), .slice Ao32 y371.length co32, .int .i64 ((rd_T35 l0_1 x16_1).f2)] 35 (0, 0))) := ⟨(by rw [hw]; exact (by refine blk_put (cs := #[.int .i64 ((rd_T35 l0_1 x16_1).f0), .slice A369_1 ((rd_T35 l0_1 x16_1).f1).length c369_1, .int .i64 ((rd_T35 l0_1 x16_1).f2)]) ?_ 1 _ rfl; exact BK370.out))⟩; replace HB : Aside0 (Below w.heap.size w w34) := ⟨(by rw [hw]; exact (by repeat (first | exact HB.out | refine below_set ?_ GE360.out | refine below_set ?_ GE361.out | refine below_set ?_ GE368.out | refine below_set ?_ GE370.out)))⟩; clear hw; have hnb35 := NB368_360.out; have hnc35 := NB360_368.out; have hnb36 := NB368_361.out; have hnc36 := NB361_368.out; obtain ⟨hcz37_0, hcz37_1, hcz37_2, hfz37_0, hfz37_1, hfz37_2⟩ := blkf3_ BK368.out; obtain ⟨hcz38_0, hcz38_1, hcz38_2, hfz38_0, hfz38_1, hfz38_2⟩ := blkf3_ BK370.out) | ((with_reducible refine gate_builtin (b := .append) (xs := #[.tmp 25, .tmp 27]) rfl ?_); at_builtin; refine Kd.S_append k35 (w0 := w) w.heap.size rfl (.tmp 25) (.tmp 27) 24 35 (.agg #[(.int .i64 0), (.slice none 0 0), (.int .i64 0)]) 40 rfl Try.underlying24 info35 rfl (by decide) (by omega) u01 x01_1 (⟨(rd_T35 l0_1 x16_1).f0, y371, (rd_T35 l0_1 x16_1).f2⟩ : S35) [.int .i64 ((rd_T35 l0_1 x16_1).f0), .slice Ao32 y371.length co32, .int .i64 ((rd_T35 l0_1 x16_1).f2)] (fun k_ => X_ k_ (.slice Ao14 y362.length co14) ∧ X_ k_ (.slice Ao13 y365.length co13) ∧ k_ ≠ gb370) (fun k_ => some k_ = (.slice Ao32 y371.length co32 : Value).ownBlock) rfl rfl ?aP (fun k_ hk_ => ((Kd.R_mono (ok' := fun k_ => ((fun k_ => X_ k_ (.slice Ao14 y362.length co14) ∧ X_ k_ (.slice Ao13 y365.length co13) ∧ k_ ≠ gb370)) k_ ∧ X_ k_ u01) (Kd.R_types (Kd.R_apart' (HO373.out) (Kd.S_typed HO_01.out) (by decide)) BK370.out (by decide)) (fun k_ hk => ⟨⟨hk.1.1.1, ⟨hk.1.1.2, hk.2⟩⟩, hk.1.2⟩))).1 k_ hk_.symm) ?aF ?aO ?aB ?aS ?aL ?_; (case aP => exact k35_mkM _ _ _ (⟨(rd_T35 l0_1 x16_1).f0, y371, (rd_T35 l0_1 x16_1).f2⟩ : S35) (Kd.R_mono (Kd.R_tight rfl (Kd.R_mono (ok' := fun k_ => ((fun k_ => X_ k_ (.slice Ao14 y362.length co14) ∧ X_ k_ (.slice Ao13 y365.length co13) ∧ k_ ≠ gb370)) k_ ∧ X_ k_ u01) (Kd.R_types (Kd.R_apart' (HO373.out) (Kd.S_typed HO_01.out) (by decide)) BK370.out (by decide)) (fun k_ hk => ⟨⟨hk.1.1.1, ⟨hk.1.1.2, hk.2⟩⟩, hk.1.2⟩))) (fun _ h_ => h_))); (case aB => exact HB.out); (case aF => exact (fun k_ hk => ⟨Kd.fresh' (Kd.R_lt HO_00.out) k_ hk, Kd.fresh' (Kd.R_lt HO_02.out) k_ hk, Kd.freshB BK370.out k_ hk⟩)); (case aO => exact (by exact Kd.S_mono HO_01.out (fun k_ hk => ⟨⟨hk.1, ⟨hk.2.1, hk.2.2.2⟩⟩, fun e_ => hk.2.2.1 e_⟩))); (case aS => exact (below_size HB.out)); (case aL => have := LMc25.out; omega); intro v375 w39 ho hb hg hat; rw [← Ny374.out] at ho; have HO376 := K_ (ho); replace HO_00 := K_ (Kd.R_over' HO_00.out (Kd.S_typed HO_01.out) (by decide) hg); replace HO_02 := K_ (Kd.R_over' HO_02.out (Kd.S_typed HO_01.out) (by decide) hg); replace BK360 := K_ (blk_grown BK360.out hg (Kd.S_ne HO_01.out BK360.out (by decide))); replace BK361 := K_ (blk_grown BK361.out hg (Kd.S_ne HO_01.out BK361.out (by decide))); replace BK368 := K_ (blk_grown BK368.out hg (Kd.S_ne HO_01.out BK368.out (by decide))); replace BK370 := K_ (blk_grown BK370.out hg (Kd.S_away HO_01.out (fun _ hk => hk.2.2.2))); replace HB := K_ (hb); clear HO_01 HO373; clear ho hb hg hat; obtain ⟨Ao40, co40, eo40⟩ := Kd.S_slice HO376.out; subst eo40; obtain ⟨hcz41_0, hcz41_1, hcz41_2, hfz41_0, hfz41_1, hfz41_2⟩ := blkf3_ BK368.out))
          go_roundg k1
          case measure => have := HK1.out; omega
          case rel => exact ⟨(wrap64 (x16_1 + 1)), (y374), (.slice Ao40 y374.length co40), rfl, H', ⟨by have := HK1.out; omega⟩, ⟨by exact Kd.R_mono (Kd.R_far (p := ⟨gb368, 1, none⟩) (Kd.R_types HO_00.out BK368.out (by decide)) (fun _ hk => hk.2) (.slice Ao40 y374.length co40)) (fun _ hk => hk.1.1)⟩, ⟨by exact Kd.S_mono (Kd.S_far (p := ⟨gb368, 1, none⟩) (Kd.S_types HO376.out BK368.out (by decide)) (fun _ hk => hk.2) (.slice Ao40 y374.length co40)) (fun _ hk => ⟨hk.1.1, hk.1.2.1⟩)⟩, ⟨by exact Kd.R_mono (Kd.R_far (p := ⟨gb368, 1, none⟩) (Kd.R_types HO_02.out BK368.out (by decide)) (fun _ hk => hk.2) (.slice Ao40 y374.length co40)) (fun _ hk => hk.1.1)⟩, ⟨by refine blk_far ?_ NB360_368.out _; exact BK360.out⟩, ⟨by refine blk_far ?_ NB361_368.out _; exact BK361.out⟩, ⟨by refine blk_put (cs := #[.slice Ao14 y362.length co14, u01, .slice Ao13 y365.length co13]) ?_ 1 _ rfl; exact BK368.out⟩, ⟨by repeat (first | exact HB.out | refine below_set ?_ GE360.out | refine below_set ?_ GE361.out | refine below_set ?_ GE368.out | refine below_set ?_ GE370.out)⟩⟩
         ·rw [if_neg c25] at H
          exact absurd H (by simp)
        ·rw [if_neg c24] at H
         exact absurd H (by simp)
       ·rw [if_neg c23] at H
        exact absurd H (by simp)
      ·rw [if_neg c22] at H
       exact absurd H (by simp)
     ·rw [if_neg c21] at H
      have c21b0 := decide_eq_false c21
      clear c21
      simp only [Option.some.injEq, Prod.mk.injEq] at H
      obtain ⟨rfl, rfl, rfl⟩ := H
      have hnb42 := NB368_360.out
      have hnc42 := NB360_368.out
      have hnb43 := NB368_361.out
      have hnc43 := NB361_368.out
      obtain ⟨hcz44_0, hcz44_1, hcz44_2, hfz44_0, hfz44_1, hfz44_2⟩ := blkf3_ BK368.out
      have hnb45 := NB361_360.out
      have hnc45 := NB360_361.out
      obtain ⟨hcz46_0, hcz46_1, hcz46_2, hfz46_0, hfz46_1, hfz46_2⟩ := blkf3_ BK361.out
      obtain ⟨Ao47, co47, eo47⟩ := Kd.S_slice HO_01.out
      subst eo47
      go_wp2
      refine bodyPost_ret (results_cell_row rfl _ _ gb361 26 #[.slice Ao14 y362.length co14, .slice Ao47 x01_1.length co47, .slice Ao13 y365.length co13] (0, 0) _ rfl (by refine blk_put (cs := #[.slice Ao14 y362.length co14, .slice Ao47 x01_1.length co47, .slice none 0 0]) ?_ 2 _ rfl; refine blk_put (cs := #[.slice Ao14 y362.length co14, .slice none 0 0, .slice none 0 0]) ?_ 1 _ rfl; refine blk_put (cs := #[.slice none 0 0, .slice none 0 0, .slice none 0 0]) ?_ 0 _ rfl; exact BK361.out) Try.underlying26 rfl (by kernel_rfl)) rfl ?_
      exact ⟨_, _, _, rfl, by exact Kd.R_mono (Kd.R_far (p := ⟨gb361, 2, none⟩) (Kd.R_far (p := ⟨gb361, 1, none⟩) (Kd.R_far (p := ⟨gb361, 0, none⟩) (Kd.R_types HO_00.out BK361.out (by decide)) (fun _ hk => hk.2) (.slice Ao14 y362.length co14)) (fun _ hk => hk.2) (.slice Ao47 x01_1.length co47)) (fun _ hk => hk.2) (.slice Ao13 y365.length co13)) (fun _ hk => hk.1), by exact Kd.S_mono (Kd.S_far (p := ⟨gb361, 2, none⟩) (Kd.S_far (p := ⟨gb361, 1, none⟩) (Kd.S_far (p := ⟨gb361, 0, none⟩) (Kd.S_types HO_01.out BK361.out (by decide)) (fun _ hk => hk.2) (.slice Ao14 y362.length co14)) (fun _ hk => hk.2) (.slice Ao47 x01_1.length co47)) (fun _ hk => hk.2) (.slice Ao13 y365.length co13)) (fun _ hk => ⟨hk.1.1, hk.1.2⟩), by exact Kd.R_mono (Kd.R_far (p := ⟨gb361, 2, none⟩) (Kd.R_far (p := ⟨gb361, 1, none⟩) (Kd.R_far (p := ⟨gb361, 0, none⟩) (Kd.R_types HO_02.out BK361.out (by decide)) (fun _ hk => hk.2) (.slice Ao14 y362.length co14)) (fun _ hk => hk.2) (.slice Ao47 x01_1.length co47)) (fun _ hk => hk.2) (.slice Ao13 y365.length co13)) (fun _ hk => hk.1), by repeat (first | exact HB.out | refine below_set ?_ GE360.out | refine below_set ?_ GE361.out | refine below_set ?_ GE368.out)⟩
  ·rw [if_neg c3] at H
   exact absurd H (by simp)
 ·rw [if_neg c2] at H
  exact absurd H (by simp)


/-! ### impl_step: function 62 -/
def impl_step.f (k : Nat) (l0_0 : List Int) (l0_1 : List (S35)) (l0_2 : List Int) (a1 : Int) : Option (List Int × (List (S35)) × List Int) := (impl_copyState.f k l0_0 l0_1 l0_2).bind fun bt379 => (if 0 ≤ a1 then (if a1 < (bt379.2.1.length : Int) then (if (((rd_T35 bt379.2.1 a1).f1).length : Int) = 0 then (if a1 ≤ (bt379.2.1.length : Int) then (if 0 ≤ (wrap64 (a1 + 1)) then (if (wrap64 (a1 + 1)) ≤ (bt379.2.1.length : Int) then (if a1 ≤ (bt379.2.2.length : Int) then (if (wrap64 (a1 + 1)) ≤ (bt379.2.2.length : Int) then (some (bt379.1, (bt379.2.1.eraseIdx (a1 : Int).toNat), (bt379.2.2.eraseIdx (a1 : Int).toNat))) else (none)) else (none)) else (none)) else (none)) else (none)) else (if 0 < (((rd_T35 bt379.2.1 a1).f1).length : Int) then ((some (bt379.2.1.set (a1 : Int).toNat (⟨rd ((rd_T35 bt379.2.1 a1).f1) 0, (rd_T35 bt379.2.1 a1).f1, (rd_T35 bt379.2.1 a1).f2⟩ : S35) : List (S35))).bind fun y418 => (if 1 ≤ (((rd_T35 y418 a1).f1).length : Int) then ((some (((rd_T35 y418 a1).f1).drop 1 : List Int)).bind fun y420 => (if ([] : List Int).length + y420.length < 17592186044416 then (some (bt379.1, (y418.set (a1 : Int).toNat (⟨(rd_T35 y418 a1).f0, (([] : List Int) ++ y420), (rd_T35 y418 a1).f2⟩ : S35)), bt379.2.2)) else (none))) else (none))) else (none))) else (none)) else (none))
theorem impl_step.mono : ∀ a0 a1 a2 a3 k, LeO (impl_step.f k a0 a1 a2 a3) (impl_step.f (k + 1) a0 a1 a2 a3) := by
 intro a0 a1 a2 a3 k
 unfold impl_step.f
 repeat' with_reducible first | exact impl_copyState.mono _ _ _ _ | exact LeO.refl _ | exact LeO.none _ | refine LeO.ite ?_ ?_ | refine LeO.bind ?_ (fun _ => ?_)
set_option maxHeartbeats 1000000 in
set_option maxRecDepth 100000 in
theorem impl_step.calls (k : Nat) (A0_0 : Option Addr) (c0_0 : Nat) (l0_0 : List Int) (A0_1 : Option Addr) (c0_1 : Nat) (l0_1 : List (S35)) (A0_2 : Option Addr) (c0_2 : Nat) (l0_2 : List Int) (a1 : Int) (r1 : List Int) (r2 : List (S35)) (r3 : List Int) (w : World) (hr0_0 : Kd.C (Kd.int .i64) w A0_0 l0_0.length l0_0) (hc0_0 : l0_0.length ≤ c0_0) (hr0_1 : Kd.C k35 w A0_1 l0_1.length l0_1) (hc0_1 : l0_1.length ≤ c0_1) (hr0_2 : Kd.C (Kd.int .i64) w A0_2 l0_2.length l0_2) (hc0_2 : l0_2.length ≤ c0_2) (h : impl_step.f k l0_0 l0_1 l0_2 a1 = some (r1, r2, r3)) :
  Calls Try.prog 62 #[.agg #[.slice A0_0 l0_0.length c0_0, .slice A0_1 l0_1.length c0_1, .slice A0_2 l0_2.length c0_2], .int .i64 a1] w fun e w' => ∃ v0_ v1_ v2_ : Value, e = .returned (.agg #[v0_, v1_, v2_]) ∧ Kd.R (Kd.int .i64) 3 w' w.heap.size (fun k_ => (w.heap.size ≤ k_) ∧ X_ k_ v2_) v0_ r1 ∧ Kd.N k35 35 w' w.heap.size (fun k_ => (w.heap.size ≤ k_) ∧ X_ k_ v0_ ∧ X_ k_ v2_) v1_ r2 ∧ Kd.R (Kd.int .i64) 3 w' w.heap.size (fun k_ => (w.heap.size ≤ k_) ∧ X_ k_ v0_) v2_ r3 ∧ Below w.heap.size w w' := by
  have HR0 := K_ hr0_0
  have HR1 := K_ hr0_1
  have HR2 := K_ hr0_2
  obtain ⟨⟨t1, t2, t3⟩, ht, hr⟩ := Option.bind_eq_some_iff.mp h
  have HT := K_ ht
  dsimp only at hr
  clear h ht hr0_0 hr0_1 hr0_2
  by_cases ha : 0 ≤ a1
  rotate_left
  · rw [if_neg ha] at hr; exact absurd hr (by simp)
  rw [if_pos ha] at hr
  obtain ⟨i, rfl⟩ := Int.eq_ofNat_of_zero_le ha
  by_cases hi : (i : Int) < (t2.length : Int)
  rotate_left
  · rw [if_neg hi] at hr; exact absurd hr (by simp)
  rw [if_pos hi] at hr
  rw [show rd_T35 t2 (i : Int) = t2.getD i z35 from by unfold rd_T35; simp] at hr
  have HRR := K_ hr
  clear hr
  have hu26 := Try.underlying26
  have hu35 := Try.underlying35
  have hB := K_ (((Below.refl w.heap.size w).alloc (Nat.le_refl _) (.cells #[.slice A0_0 l0_0.length c0_0, .slice A0_1 l0_1.length c0_1, .slice A0_2 l0_2.length c0_2] 26)))
  have BR := K_ (heap_alloc_new w (.cells #[.slice A0_0 l0_0.length c0_0, .slice A0_1 l0_1.length c0_1, .slice A0_2 l0_2.length c0_2] 26))
  have hs : (w.alloc (.cells #[.slice A0_0 l0_0.length c0_0, .slice A0_1 l0_1.length c0_1, .slice A0_2 l0_2.length c0_2] 26)).heap.size = w.heap.size + 1 := by simp
  go_enter Try.func62, Try.ntmps62
  go_wp2_with (fail)
  have hB2 := K_ (hB.out.alloc (by omega) (.cells #[.slice none 0 0, .slice none 0 0, .slice none 0 0] 26))
  have BN := K_ (heap_alloc_new (w.alloc (.cells #[.slice A0_0 l0_0.length c0_0, .slice A0_1 l0_1.length c0_1, .slice A0_2 l0_2.length c0_2] 26)) (.cells #[.slice none 0 0, .slice none 0 0, .slice none 0 0] 26))
  rw [hs] at BN
  generalize ((w.alloc (.cells #[.slice A0_0 l0_0.length c0_0, .slice A0_1 l0_1.length c0_1, .slice A0_2 l0_2.length c0_2] 26)).alloc (.cells #[.slice none 0 0, .slice none 0 0, .slice none 0 0] 26)) = W at *
  refine (impl_copyState.calls k _ _ l0_0 _ _ l0_1 _ _ l0_2 t1 t2 t3 W (Kd.C_below HR0.out hB2.out) hc0_0 (Kd.C_below HR1.out hB2.out) hc0_1 (Kd.C_below HR2.out hB2.out) hc0_2 HT.out).mono ?_
  rintro e w1 ⟨v0, v1, v2, rfl, ho0, ho1, ho2, hb⟩
  obtain ⟨B0, d0, rfl⟩ := Kd.R_slice ho0
  obtain ⟨B2, d2, rfl⟩ := Kd.R_slice ho2
  obtain ⟨gT, d1, rfl, hgT1, hgT2, hgT3⟩ := Kd.S_form ho1 (by omega)
  have e5 : (w1.alloc (.cells #[.slice none 0 0, .slice none 0 0, .slice none 0 0] 26)).heap.size = w1.heap.size + 1 := by simp
  have b1 : Below w.heap.size w w1 := below_step hB2.out hb
  have cN := blk_lt BN.out
  have BN1 := K_ (blk_below BN.out hb)
  have BO1 := K_ (heap_alloc_new w1 (.cells #[.slice none 0 0, .slice none 0 0, .slice none 0 0] 26))
  have HB1 := K_ (b1.alloc b1.size (.cells #[.slice none 0 0, .slice none 0 0, .slice none 0 0] 26))
  have hW := hb.size
  have P0 := K_ (Kd.R_bound ho0)
  have P1 := K_ (Kd.S_N (Kd.S_bound ho1))
  have P1s := K_ (Kd.S_bound ho1)
  have P2 := K_ (Kd.R_bound ho2)
  obtain ⟨cs, hcl, hM, hcc, hfr⟩ := Kd.N_elem P1.out z35 (i : Int) (by omega) (by omega)
  rw [Int.toNat_natCast] at hM hcc hfr
  generalize hx : t2.getD i z35 = x at hM HRR
  obtain ⟨Ap, cp, rfl, hle, hF⟩ := k35_openF hM
  have hp1 : w1.cell? ⟨gT, i * 3 + 1, none⟩ = some (.slice Ap x.f1.length cp) := hcc 1 _ rfl
  have HCC := K_ hcc
  have HFR := K_ hfr
  have HF := K_ hF
  have HX := K_ hx
  clear hM hF hcc hfr hx ho0 ho1 ho2 hb b1 hB hB2 BN BR hs
  have hrr := HRR.out
  clear HRR
  by_cases c0 : (x.f1.length : Int) > 0
  · rw [if_neg (by omega), if_pos (by omega), Option.bind_some] at hrr
    have eS : rd_T35 (t2.set (↑i : Int).toNat ⟨rd x.f1 0, x.f1, x.f2⟩) (↑i : Int) = ⟨rd x.f1 0, x.f1, x.f2⟩ := by unfold rd_T35; rw [Int.toNat_natCast, List.getD_eq_getElem?_getD, List.getElem?_set_self (by omega)]; rfl
    rw [eS] at hrr
    dsimp only at hrr
    rw [if_pos (by omega), Option.bind_some] at hrr
    by_cases c5 : ([] : List Int).length + (x.f1.drop 1).length < 17592186044416
    rotate_left
    · rw [if_neg c5] at hrr; exact absurd hrr (by simp)
    rw [if_pos c5, List.set_set, Int.toNat_natCast, Option.some.injEq, Prod.mk.injEq, Prod.mk.injEq, List.nil_append] at hrr
    have L5 := K_ c5
    clear c5
    obtain ⟨rfl, rfl, rfl⟩ := hrr
    clear eS
    have d15 : decide ((x.f1.length : Int) = 0) = false := decide_eq_false (by omega)
    have q0 : 0 < x.f1.length := by omega
    obtain ⟨adP, cP, pe, _, _, _, hPk⟩ := Kd.F_get HF.out 0 0 (by omega) c0
    subst pe
    have hPg : adP.block ≠ gT := (hPk (by decide)).2
    obtain ⟨_, pe, hp0⟩ := Kd.at_int (Kd.F_now HF.out) 0 (by omega) c0
    injection pe with pe
    subst pe
    clear hPk
    have hp0 : w1.cell? adP = some (.int .i64 (rd x.f1 0)) := by simpa [Addr.add] using hp0
    have p0 : (0 : Int) ≤ (i : Int) := by omega
    go_wp2_with (first
      | ((with_reducible refine gate_store (t := 26) (p := 5) rfl ?_); (try simp only [P_]); refine spec_l1copy.row_wr_ rfl 26 (.tmp 5) (.tmp 7) rfl rfl w1.heap.size rfl (c' := #[.slice B0 t1.length d0, .slice (some ⟨gT, 0, none⟩) t2.length d1, .slice B2 t3.length d2]) rfl BO1.out spec_l1copy.info26_ rfl (by simp [Value.oneCell']) ?_; intro w2 h2 g2; have BO := K_ h2; have HG := K_ g2; have HE := K_ (fun k (hk : k < w1.heap.size) => (HG.out.block k (by rw [e5]; omega) (by intro e; injection e with e; omega)).trans (Below.heap_alloc w1 _ k hk)); have z1 : w2.cell? ⟨w1.heap.size, 1, none⟩ = some (.slice (some ⟨gT, 0, none⟩) t2.length d1) := (blk_cell h2 1).trans rfl; have z2 := Kd.cell_heap HE.out hp1; have z3 := Kd.cell_heap HE.out hp0; clear h2 g2))
    have z4 : w2.cell? ⟨gT, i * 3, none⟩ = some (.int .i64 x.f0) := Kd.cell_heap HE.out (HCC.out 0 _ rfl)
    have f4 : w2.frozen? ⟨gT, i * 3, none⟩ = false := (show w2.frozen? ⟨gT, i * 3, none⟩ = w1.frozen? ⟨gT, i * 3, none⟩ from by unfold World.frozen?; rw [HE.out gT hgT2]).trans (HFR.out 0)
    have hO : w1.heap.size ≠ gT := by omega
    go_region_held3 (fun w' => w'.cell? ⟨w1.heap.size, 1, none⟩ = some (.slice (some ⟨gT, 0, none⟩) t2.length d1) ∧ w'.cell? ⟨gT, i * 3 + 1, none⟩ = some (.slice (some adP) x.f1.length cp) ∧ w'.cell? adP = some (.int .i64 (rd x.f1 0))) (first | exact ⟨z1, z2, z3⟩ | exact ⟨(World.cell?_setCell_far _ _ _ _ (Ne.symm hO)).trans z1, (World.cell?_setCell_other _ _ _ _ (by simp)).trans z2, (World.cell?_setCell_far _ _ _ _ (Ne.symm hPg)).trans z3⟩) (fail)
    go_wp2_with (fail)
    have y1 : (w2.setCell ⟨gT, i * 3, none⟩ (.int .i64 (rd x.f1 0))).drew.cell? ⟨w1.heap.size, 1, none⟩ = _ := (World.cell?_setCell_far _ _ _ _ (Ne.symm hO)).trans z1
    have y2 : (w2.setCell ⟨gT, i * 3, none⟩ (.int .i64 (rd x.f1 0))).drew.cell? ⟨gT, i * 3 + 1, none⟩ = _ := (World.cell?_setCell_other _ _ _ _ (by simp)).trans z2
    have y4 : (w2.setCell ⟨gT, i * 3, none⟩ (.int .i64 (rd x.f1 0))).drew.frozen? ⟨gT, i * 3 + 1, none⟩ = false := by have h9 := (show w2.frozen? ⟨gT, i * 3 + 1, none⟩ = w1.frozen? ⟨gT, i * 3 + 1, none⟩ from by unfold World.frozen?; rw [HE.out gT hgT2]).trans (HFR.out 1); go_simp
    generalize hw3 : (w2.setCell ⟨gT, i * 3, none⟩ (.int .i64 (rd x.f1 0))).drew = w3 at *
    have HW3 := K_ hw3
    clear hw3 z1 z2 z3 z4 f4
    have q1 : (1 : Int) ≤ (x.f1.length : Int) := by omega
    have q2 : (x.f1.length : Int) ≤ (cp : Int) := by omega
    obtain ⟨A', hA⟩ : ∃ A' : Option Addr, A' = if cp = 1 then some adP else (some adP).map (·.add (1 * 1)) := ⟨_, rfl⟩
    have HA := K_ hA
    clear hA
    refine start_ (n := 14) (S := fun w' => w'.cell? ⟨w1.heap.size, 1, none⟩ = some (.slice (some ⟨gT, 0, none⟩) t2.length d1) ∧ w'.cell? ⟨gT, i * 3 + 1, none⟩ = some (.slice (some adP) x.f1.length cp)) (ds := [13]) (Array.replicate 14 false) (by kernel_rfl) rfl rfl ⟨y1, y2⟩ (fun hS => ?_)
    refine spec_l1copy.np_ 0 52 rfl rfl (by kernel_rfl) (fun _ _ _ h => h) (by rfl) (fun w' => by go_simp; with_reducible rfl) (by simp only [spec_l1copy.AP_, i64_w]; rfl) ?_
    refine spec_l1copy.nt_ hS 1 53 rfl rfl (by kernel_rfl) (fun _ _ _ h => h) (by rfl) (fun w' ⟨s0, s1⟩ => by go_simp; with_reducible rfl) (by simp only [spec_l1copy.AP_, i64_w]; rfl) ?_
    refine spec_l1copy.np_ 2 54 rfl rfl (by kernel_rfl) (fun _ _ _ h => h) (by rfl) (fun w' => by go_simp; with_reducible rfl) (by simp only [spec_l1copy.AP_, i64_w]; rfl) ?_
    refine spec_l1copy.np_ 3 55 rfl rfl (by kernel_rfl) (fun _ _ _ h => h) (by rfl) (fun w' => by go_simp; with_reducible rfl) (by simp only [spec_l1copy.AP_, i64_w]; rfl) ?_
    refine spec_l1copy.nt_ hS 4 56 rfl rfl (by kernel_rfl) (fun _ _ _ h => h) (by rfl) (fun w' ⟨s0, s1⟩ => by go_simp; with_reducible rfl) (by simp only [spec_l1copy.AP_, i64_w]; rfl) ?_
    refine spec_l1copy.np_ 5 57 rfl rfl (by kernel_rfl) (fun _ _ _ h => h) (by rfl) (fun w' => by go_simp; with_reducible rfl) (by simp only [spec_l1copy.AP_, i64_w]; rfl) ?_
    refine spec_l1copy.np_ 6 58 rfl rfl (by kernel_rfl) (fun _ _ _ h => h) (by rfl) (fun w' => by go_simp; with_reducible rfl) (by simp only [spec_l1copy.AP_, i64_w]; rfl) ?_
    refine spec_l1copy.np_ 7 59 rfl rfl (by kernel_rfl) (fun _ _ _ h => h) (by rfl) (fun w' => by go_simp; with_reducible rfl) (by simp only [spec_l1copy.AP_, i64_w]; rfl) ?_
    refine spec_l1copy.nt_ hS 8 60 rfl rfl (by kernel_rfl) (fun _ _ _ h => h) (by rfl) (fun w' ⟨s0, s1⟩ => by go_simp; with_reducible rfl) (by simp only [spec_l1copy.AP_, i64_w]; rfl) ?_
    refine spec_l1copy.np_ 9 61 (v := .slice A' (x.f1.length - 1) (cp - 1)) rfl rfl (by kernel_rfl) (fun _ _ _ h => h) (by rfl) (fun w' => by go_simp; rw [HA.out]; simp [Addr.add]) (by simp only [spec_l1copy.AP_, i64_w]; rfl) ?_
    have hk3 : ∀ k, k < w1.heap.size → k ≠ gT → w3.heap[k]? = w1.heap[k]? := fun k hk hn => by rw [← HW3.out]; exact (Below.heap_setCell w2 ⟨gT, i * 3, none⟩ _ k hn).trans (HE.out k hk)
    have hk3' : ∀ k, k ≠ gT → w3.heap[k]? = w2.heap[k]? := fun k hn => by rw [← HW3.out]; exact Below.heap_setCell w2 ⟨gT, i * 3, none⟩ _ k hn
    have hs3 : w3.heap.size = w2.heap.size := by rw [← HW3.out]; simp
    have hs2 : w1.heap.size < w2.heap.size := blk_lt BO.out
    have n2 := Kd.N_step P1.out (w1 := w2) (fun k hk hlt => HE.out k hlt)
    have F2 := Kd.F_step HF.out (W1 := w2) (fun k hk hlt => HE.out k hlt)
    have F3 := Kd.F_step HF.out (W1 := w3) (fun k hk hlt => hk3 k hlt hk.2)
    have n3 := Kd.N_drew (Kd.N_seg n2 (i : Int) (by omega) hi (c := [.int .i64 x.f0, .slice (some adP) x.f1.length cp, .int .i64 x.f2]) (seg := [.int .i64 (rd x.f1 0)]) (j := 0) rfl (fun j u hu => Kd.cell_heap HE.out (HCC.out j u hu)) (show 0 + 1 ≤ 3 by omega) (x' := ⟨rd x.f1 0, x.f1, x.f2⟩) (k35_mkF w2 _ ⟨rd x.f1 0, x.f1, x.f2⟩ hle F2) (fun _ hk => hk)).1
    replace n3 : Kd.N k35 35 w3 _ _ _ _ := HW3.out ▸ n3
    have F5 := Kd.F_cut (m := 1) (c := cp) (Kd.F_drew F3) (by omega) hle
    replace F5 : Kd.F (Kd.int .i64) w3.drew _ A' (x.f1.drop 1).length (x.f1.drop 1) := HA.out ▸ F5
    have e1 : x.f1.length - 1 = (x.f1.drop 1).length := by rw [List.length_drop]
    rw [e1]
    have HB3 : Below w.heap.size w w3 := by rw [← HW3.out]; exact below_drew ((pw_below_grown HB1.out _ HB1.out.size HG.out (by intro k hk; injection hk with hk; omega)).setCell (show w.heap.size ≤ gT by omega) _)
    have HK3 := K_ hk3
    have HK3' := K_ hk3'
    have N3 := K_ n3
    have FF5 := K_ F5
    have HB3 := K_ HB3
    clear hk3 hk3' n3 n2 F2 F3 F5 e1
    refine spec_l1copy.no_ 10 62 rfl rfl (by kernel_rfl) (by decide) (fun K hK => ?_)
    refine Kd.R_append_rows_step (Kd.int .i64) (w0 := w) w.heap.size (by rfl) (.const (.slice none 0 0)) (.tmp 61) 23 3 (.int .i64 0) 8 rfl Try.underlying23 info3 rfl (by decide) (by omega) (.slice none 0 0) ([] : List Int) (x.f1.drop 1) _ _ _ (fun k => w3.heap.size ≤ k) (fun _ => False) rfl rfl (Kd.R_nil _ _ _ _ _) (Kd.F_now FF5.out) (fun _ _ h => h) (fun _ h => h.elim) (fun k hk => hk) (below_drew HB3.out) HB3.out.size (by have := L5.out; simp only [List.length_nil] at this ⊢; omega) ?_
    intro v4 w4 r4 b4 g4 _
    rw [List.nil_append] at r4
    obtain ⟨A4, c4, rfl⟩ := Kd.R_slice r4
    have hs4 := g4.size
    have h4 : ∀ k, k < w3.heap.size → w4.heap[k]? = w3.heap[k]? := fun k hl => g4.block k hl (by simp [Value.ownBlock])
    have u1 : w4.cell? ⟨w1.heap.size, 1, none⟩ = some (.slice (some ⟨gT, 0, none⟩) t2.length d1) := Kd.cell_heap h4 y1
    have u2 : w4.cell? ⟨gT, i * 3 + 1, none⟩ = some (.slice (some adP) x.f1.length cp) := Kd.cell_heap h4 y2
    have u4 : w4.frozen? ⟨gT, i * 3 + 1, none⟩ = false := (show w4.frozen? ⟨gT, i * 3 + 1, none⟩ = w3.frozen? ⟨gT, i * 3 + 1, none⟩ from by unfold World.frozen?; rw [h4 gT (by omega)]).trans y4
    have H4 := K_ h4
    have R4 := K_ r4
    have G4 := K_ g4
    have BB4 := K_ b4
    clear h4 r4 g4 b4
    refine hK _ _ ⟨u1, u2⟩ (fun hS => norm_ (by show Act.put _ (some 62) _ = _; simp only [spec_l1copy.AP_]; rfl) ?_)
    refine spec_l1copy.np_ 11 63 rfl rfl (by kernel_rfl) (fun _ _ _ h => h) (by rfl) (fun w' => by go_simp; with_reducible rfl) (by simp only [spec_l1copy.AP_, i64_w]; rfl) ?_
    refine spec_l1copy.np_ 12 64 rfl rfl (by kernel_rfl) (fun _ _ _ h => h) (by rfl) (fun w' => by go_simp; with_reducible rfl) (by simp only [spec_l1copy.AP_, i64_w]; rfl) ?_
    refine spec_l1copy.nl_ 13 (w4.setCell ⟨gT, i * 3 + 1, none⟩ (.slice A4 (x.f1.drop 1).length c4)) rfl rfl (by kernel_rfl) (by decide) (by rfl) (by kernel_rfl) (by go_simp) ?_
    have h4 := H4.out
    have r4 := R4.out
    have b4 := BB4.out
    have hk3 := HK3.out
    have hk3' := HK3'.out
    have n4 := Kd.N_step (Kd.N_mono (Kd.N_drew N3.out) (ok' := fun k => ((some k ≠ (Value.slice B0 t1.length d0).ownBlock ∧ some k ≠ (Value.slice B2 t3.length d2).ownBlock) ∧ W.heap.size ≤ k)) (fun k hk => ⟨hk.1, hk.2.1⟩)) (w1 := w4) (fun k hk hlt => h4 k hlt)
    obtain ⟨c3, hc3, hM3, hcc3, _⟩ := Kd.N_elem n4 z35 (i : Int) (by omega) (by omega)
    rw [show (t2.set (i : Int).toNat ⟨rd x.f1 0, x.f1, x.f2⟩).getD (i : Int).toNat z35 = ⟨rd x.f1 0, x.f1, x.f2⟩ from by rw [Int.toNat_natCast, List.getD_eq_getElem?_getD, List.getElem?_set_self (by omega)]; rfl] at hM3
    obtain ⟨A3, c3', rfl, _, _⟩ := k35_openF hM3
    have b0 := Kd.R_lt P0.out
    have b2 := Kd.R_lt P2.out
    have F6 := Kd.F_mono (Kd.R_F r4) (ok' := fun k => ((some k ≠ (Value.slice B0 t1.length d0).ownBlock ∧ some k ≠ (Value.slice B2 t3.length d2).ownBlock) ∧ W.heap.size ≤ k) ∧ k ≠ gT) (fun k hk => ⟨⟨⟨fun e => by have := b0 k e.symm; omega, fun e => by have := b2 k e.symm; omega⟩, by omega⟩, by omega⟩)
    have n5 := (Kd.N_seg n4 (i : Int) (by omega) hi (seg := [.slice A4 (x.f1.drop 1).length c4]) (j := 1) hc3 hcc3 (show 1 + 1 ≤ 3 by omega) (x' := ⟨rd x.f1 0, x.f1.drop 1, x.f2⟩) (k35_mkF w4 _ ⟨rd x.f1 0, x.f1.drop 1, x.f2⟩ (Kd.R_reads' r4).2.1 F6) (fun _ hk => hk)).1
    rw [List.set_set] at n5
    have hk5 : ∀ k, k < w1.heap.size → k ≠ gT → (w4.setCell ⟨gT, i * 3 + 1, none⟩ (.slice A4 (x.f1.drop 1).length c4)).heap[k]? = w1.heap[k]? := fun k hk hn => (Below.heap_setCell w4 ⟨gT, i * 3 + 1, none⟩ _ k hn).trans ((h4 k (by omega)).trans (hk3 k hk hn))
    have BO5 : (w4.setCell ⟨gT, i * 3 + 1, none⟩ (.slice A4 (x.f1.drop 1).length c4)).heap[w1.heap.size]? = _ := (Below.heap_setCell w4 ⟨gT, i * 3 + 1, none⟩ _ _ hO).trans ((h4 _ (by omega)).trans ((hk3' _ hO).trans BO.out))
    have HB5 : Below w.heap.size w (w4.setCell ⟨gT, i * 3 + 1, none⟩ (.slice A4 (x.f1.drop 1).length c4)) := b4.setCell (show w.heap.size ≤ gT by omega) _
    replace n5 : Kd.N k35 35 (w4.setCell ⟨gT, i * 3 + 1, none⟩ (.slice A4 (x.f1.drop 1).length c4)) _ _ _ _ := n5
    generalize (w4.setCell ⟨gT, i * 3 + 1, none⟩ (.slice A4 (x.f1.drop 1).length c4)) = w5 at *
    have hg := (P1.out.1 gT rfl).1
    have hWl : w.heap.size ≤ W.heap.size := by omega
    have Z0 := K_ (Kd.R_step (Kd.R_tight rfl P0.out) (w1 := w5) (fun k hk hlt => hk5 k hlt (fun e => hg.1 (e ▸ hk))))
    have Z2 := K_ (Kd.R_step (Kd.R_tight rfl P2.out) (w1 := w5) (fun k hk hlt => hk5 k hlt (fun e => hg.2 (e ▸ hk))))
    have Z1 := K_ n5
    have BN5 := K_ ((hk5 _ (blk_lt BN1.out) (by omega)).trans BN1.out)
    have ZB := K_ HB5
    have x0 : w5.cell? ⟨w1.heap.size, 0, none⟩ = some (.slice B0 t1.length d0) := (blk_cell BO5 0).trans rfl
    have x1 : w5.cell? ⟨w1.heap.size, 1, none⟩ = some (.slice (some ⟨gT, 0, none⟩) t2.length d1) := (blk_cell BO5 1).trans rfl
    have x2 : w5.cell? ⟨w1.heap.size, 2, none⟩ = some (.slice B2 t3.length d2) := (blk_cell BO5 2).trans rfl
    clear n5 n4 hk3 hk3' HB5 HB3 hk5 F6 FF5 hcc3 hc3 BO5 y1 y2 y4 u1 u2 u4 hS BO HG HE hM3 r4 b4 h4 hK K b0 b2 H4 R4 G4 BB4 HK3 HK3' N3
    go_wp2_with (first
      | ((with_reducible refine gate_store (t := 26) (p := 4) rfl ?_); (try simp only [P_]); refine spec_l1copy.row_wr_ rfl 26 (.tmp 4) (.tmp 65) rfl rfl (w.heap.size + 1) rfl (c' := #[.slice B0 t1.length d0, .slice (some ⟨gT, 0, none⟩) t2.length d1, .slice B2 t3.length d2]) rfl BN5.out spec_l1copy.info26_ rfl (by simp [Value.oneCell']) ?_; intro w6 h6 g6; have BR6 := K_ h6; have HG6 := K_ g6; clear h6 g6))
    refine bodyPost_ret (results_cell_row rfl _ _ (w.heap.size + 1) 26 #[.slice B0 t1.length d0, .slice (some ⟨gT, 0, none⟩) t2.length d1, .slice B2 t3.length d2] (0, 0) _ rfl BR6.out hu26 rfl spec_l1copy.info26_) rfl ?_
    have hst : ∀ k, W.heap.size ≤ k → k < w5.heap.size → w6.heap[k]? = w5.heap[k]? := fun k hk hl => HG6.out.block k hl (by intro e; injection e with e; omega)
    refine ⟨_, _, _, rfl, Kd.R_reok rfl (Kd.R_lower (Kd.R_step Z0.out (fun k hk hl => hst k (P0.out.1 k hk.symm).2.1 hl)) hWl) (fun k e => ⟨Nat.le_trans hWl (P0.out.1 k e).2.1, (P0.out.1 k e).1⟩), ?_, Kd.R_reok rfl (Kd.R_lower (Kd.R_step Z2.out (fun k hk hl => hst k (P2.out.1 k hk.symm).2.1 hl)) hWl) (fun k e => ⟨Nat.le_trans hWl (P2.out.1 k e).2.1, (P2.out.1 k e).1⟩), pw_below_grown ZB.out _ ZB.out.size HG6.out (by intro k hk; injection hk with hk; omega)⟩
    have hz := Kd.N_mono (Kd.N_lower (Kd.N_step Z1.out (w1 := w6) (fun k hk hl => hst k hk.2 hl)) hWl) (ok' := fun k => w.heap.size ≤ k ∧ some k ≠ (Value.slice B0 t1.length d0).ownBlock ∧ some k ≠ (Value.slice B2 t3.length d2).ownBlock) (fun k hk => ⟨Nat.le_trans hWl hk.2, hk.1⟩)
    rw [List.drop_one] at hz
    exact hz
  · rw [if_pos (by omega), if_pos (by omega)] at hrr
    have d15 : decide ((x.f1.length : Int) = 0) = true := decide_eq_true (by omega)
    have hlt := (Kd.S_reads' P1s.out).2.2.2.1
    by_cases c1 : 0 ≤ wrap64 ((i : Int) + 1)
    rotate_left
    · rw [if_neg c1] at hrr; exact absurd hrr (by simp)
    rw [if_pos c1] at hrr
    have ew : wrap64 ((i : Int) + 1) = ((i + 1 : Nat) : Int) := by unfold wrap64 at c1 ⊢; omega
    by_cases c2 : wrap64 ((i : Int) + 1) ≤ (t2.length : Int)
    rotate_left
    · rw [if_neg c2] at hrr; exact absurd hrr (by simp)
    rw [if_pos c2] at hrr
    by_cases c3 : (i : Int) ≤ (t3.length : Int)
    rotate_left
    · rw [if_neg c3] at hrr; exact absurd hrr (by simp)
    rw [if_pos c3] at hrr
    by_cases c4 : wrap64 ((i : Int) + 1) ≤ (t3.length : Int)
    rotate_left
    · rw [if_neg c4] at hrr; exact absurd hrr (by simp)
    rw [if_pos c4, Option.some.injEq, Prod.mk.injEq, Prod.mk.injEq] at hrr
    obtain ⟨rfl, rfl, rfl⟩ := hrr
    rw [ew] at c2 c4
    have EW := K_ ew
    clear c1 ew
    obtain ⟨gN, dN, eN, _, hN2, _⟩ := Kd.R_form P2.out (by omega)
    injection eN with eN _ eN'
    subst eN eN'
    have p0 : (0 : Int) ≤ (i : Int) := by omega
    have p1 : (i : Int) ≤ (t2.length : Int) := by omega
    have p2 : (t2.length : Int) ≤ (d1 : Int) := by have := (Kd.S_reads' P1s.out).2.1; omega
    have p3 : (t3.length : Int) ≤ (d2 : Int) := by have := (Kd.R_reads' P2.out).2.1; omega
    clear hlt
    go_wp2_with (first
      | ((with_reducible refine gate_store (t := 26) (p := 5) rfl ?_); (try simp only [P_]); refine spec_l1copy.row_wr_ rfl 26 (.tmp 5) (.tmp 7) rfl rfl w1.heap.size rfl (c' := #[.slice B0 t1.length d0, .slice (some ⟨gT, 0, none⟩) t2.length d1, .slice (some ⟨gN, 0, none⟩) t3.length d2]) rfl BO1.out spec_l1copy.info26_ rfl (by simp [Value.oneCell']) ?_; intro w2 h2 g2; have BO := K_ h2; have HG := K_ g2; have HE := K_ (fun k (hk : k < w1.heap.size) => (HG.out.block k (by rw [e5]; omega) (by intro e; injection e with e; omega)).trans (Below.heap_alloc w1 _ k hk)); have z1 : w2.cell? ⟨w1.heap.size, 1, none⟩ = some (.slice (some ⟨gT, 0, none⟩) t2.length d1) := (blk_cell h2 1).trans rfl; have z2 := Kd.cell_heap HE.out hp1; clear h2 g2))
    obtain ⟨A6, hA6⟩ : ∃ A' : Option Addr, A' = if d1 = i + 1 then some ⟨gT, 0, none⟩ else (some (⟨gT, 0, none⟩ : Addr)).map (·.add ((i + 1) * 3)) := ⟨_, rfl⟩
    have HA6 := K_ hA6
    clear hA6 z2
    refine start_ (n := 12) (S := fun w' => w'.cell? ⟨w1.heap.size, 1, none⟩ = some (.slice (some ⟨gT, 0, none⟩) t2.length d1)) (ds := [11]) (Array.replicate 12 false) (by kernel_rfl) rfl rfl z1 (fun hS => ?_)
    refine spec_l1copy.np_ 0 16 rfl rfl (by kernel_rfl) (fun _ _ _ h => h) (by rfl) (fun w' => by go_simp; with_reducible rfl) (by simp only [spec_l1copy.AP_, i64_w]; rfl) ?_
    refine spec_l1copy.nt_ hS 1 17 rfl rfl (by kernel_rfl) (fun _ _ _ h => h) (by rfl) (fun w' s0 => by go_simp; with_reducible rfl) (by simp only [spec_l1copy.AP_, i64_w]; rfl) ?_
    refine spec_l1copy.np_ 2 18 rfl rfl (by kernel_rfl) (fun _ _ _ h => h) (by rfl) (fun w' => by go_simp; with_reducible rfl) (by simp only [spec_l1copy.AP_, i64_w]; rfl) ?_
    refine spec_l1copy.np_ 3 19 (v := .slice (some ⟨gT, 0, none⟩) i d1) rfl rfl (by kernel_rfl) (fun _ _ _ h => h) (by rfl) (fun w' => by go_simp; intro _; exfalso; omega) (by simp only [spec_l1copy.AP_, i64_w]; rfl) ?_
    refine spec_l1copy.np_ 4 20 rfl rfl (by kernel_rfl) (fun _ _ _ h => h) (by rfl) (fun w' => by go_simp; with_reducible rfl) (by simp only [spec_l1copy.AP_, i64_w]; rfl) ?_
    refine spec_l1copy.nt_ hS 5 21 rfl rfl (by kernel_rfl) (fun _ _ _ h => h) (by rfl) (fun w' s0 => by go_simp; with_reducible rfl) (by simp only [spec_l1copy.AP_, i64_w]; rfl) ?_
    refine spec_l1copy.np_ 6 22 rfl rfl (by kernel_rfl) (fun _ _ _ h => h) (by rfl) (fun w' => by go_simp; with_reducible rfl) (by simp only [spec_l1copy.AP_, i64_w]; rfl) ?_
    refine spec_l1copy.np_ 7 23 (v := .int .i64 ((i + 1 : Nat) : Int)) rfl rfl (by kernel_rfl) (fun _ _ _ h => h) (by rfl) (fun w' => by go_simp; rw [i64_w, EW.out]; omega) (by simp only [spec_l1copy.AP_, i64_w]; rfl) ?_
    refine spec_l1copy.np_ 8 24 (v := .slice A6 (t2.length - (i + 1)) (d1 - (i + 1))) rfl rfl (by kernel_rfl) (fun _ _ _ h => h) (by rfl) (fun w' => by go_simp; rw [if_pos (by omega), HA6.out]; simp [Addr.add]) (by simp only [spec_l1copy.AP_, i64_w]; rfl) ?_
    have n2 := Kd.N_lower (Kd.N_drew (Kd.N_step P1.out (w1 := w2) (fun k hk hlt => HE.out k hlt))) (show w.heap.size ≤ W.heap.size by omega)
    have b2 : Below w.heap.size w w2.drew := below_drew (pw_below_grown HB1.out _ HB1.out.size HG.out (by intro k hk; injection hk with hk; omega))
    have ll : w1.heap.size < w2.heap.size := blk_lt BO.out
    refine spec_l1copy.no_ 9 25 rfl rfl (by kernel_rfl) (by decide) (fun K hK => ?_)
    refine Kd.N_delete_step k35 (w0 := w) w.heap.size (by rfl) (.tmp 19) (.tmp 24) 24 35 rfl Try.underlying24 (by kernel_rfl) (g := gT) (n := t2.length) (c := d1) (k := i) rfl rfl HA6.out rfl n2 (by omega) b2 b2.size ?_
    intro w4 n4 b4 g4
    have h4 : ∀ k, k ≠ gT → k < w2.heap.size → w4.heap[k]? = w2.heap[k]? := fun k hn hl => g4.block k hl (fun e => hn (by injection e))
    have BO4 := K_ ((h4 _ (by omega) ll).trans BO.out)
    refine hK _ _ ((blk_cell BO4.out 1).trans rfl) (fun hS => norm_ (by show Act.put _ (some 25) _ = _; simp only [spec_l1copy.AP_]; rfl) ?_)
    refine spec_l1copy.np_ 10 26 rfl rfl (by kernel_rfl) (fun _ _ _ h => h) (by rfl) (fun w' => by go_simp; with_reducible rfl) (by simp only [spec_l1copy.AP_, i64_w]; rfl) ?_
    refine spec_l1copy.nl_ 11 (w4.setCell ⟨w1.heap.size, 1, none⟩ (.slice (some ⟨gT, 0, none⟩) (t2.length - 1) d1)) rfl rfl (by kernel_rfl) (by decide) (by rfl) (by kernel_rfl) (by have h9 := blk_frozen BO4.out 1; go_simp) ?_
    go_wp2_with (fail)
    have hg := (P1.out.1 gT rfl).1
    have hNT : gN ≠ gT := fun e => hg.2 (by rw [← e]; rfl)
    have BO5 := K_ (show (w4.setCell ⟨w1.heap.size, 1, none⟩ (.slice (some ⟨gT, 0, none⟩) (t2.length - 1) d1)).heap[w1.heap.size]? = some (.cells #[.slice B0 t1.length d0, .slice (some ⟨gT, 0, none⟩) (t2.length - 1) d1, .slice (some ⟨gN, 0, none⟩) t3.length d2] 26 (0, 0)) from blk_put BO4.out 1 _ rfl)
    have n5 := Kd.N_far (p := ⟨w1.heap.size, 1, none⟩) n4 (fun k hk => by have := hk.2.2.1; show k ≠ w1.heap.size; omega) (.slice (some ⟨gT, 0, none⟩) (t2.length - 1) d1)
    have h5 : ∀ k, k < w1.heap.size → k ≠ gT → (w4.setCell ⟨w1.heap.size, 1, none⟩ (.slice (some ⟨gT, 0, none⟩) (t2.length - 1) d1)).heap[k]? = w1.heap[k]? := fun k hk hn => (Below.heap_setCell w4 ⟨w1.heap.size, 1, none⟩ _ k (by show k ≠ w1.heap.size; omega)).trans ((h4 k hn (by omega)).trans (HE.out k hk))
    have b5 := b4.setCell (p := ⟨w1.heap.size, 1, none⟩) (show w.heap.size ≤ w1.heap.size by omega) (u := .slice (some ⟨gT, 0, none⟩) (t2.length - 1) d1)
    clear n4 h4 BO4 b4 g4 n2 b2 hK K
    generalize w4.setCell ⟨w1.heap.size, 1, none⟩ (.slice (some ⟨gT, 0, none⟩) (t2.length - 1) d1) = w5 at *
    have r5 := Kd.R_lower (Kd.R_drew (Kd.R_step (Kd.R_tight rfl P2.out) (w1 := w5) (fun k hk hlt => h5 k hlt (fun e => hg.2 (e ▸ hk))))) (show w.heap.size ≤ W.heap.size by omega)
    have z5 : w5.cell? ⟨w1.heap.size, 2, none⟩ = some (.slice (some ⟨gN, 0, none⟩) t3.length d2) := (blk_cell BO5.out 2).trans rfl
    have p4 : (i : Int) ≤ (d2 : Int) := by omega
    obtain ⟨A7, hA7⟩ : ∃ A' : Option Addr, A' = if d2 = i + 1 then some ⟨gN, 0, none⟩ else (some (⟨gN, 0, none⟩ : Addr)).map (·.add ((i + 1) * 1)) := ⟨_, rfl⟩
    have HA7 := K_ hA7
    clear hA7
    refine start_ (n := 12) (S := fun w' => w'.cell? ⟨w1.heap.size, 2, none⟩ = some (.slice (some ⟨gN, 0, none⟩) t3.length d2)) (ds := [11]) (Array.replicate 12 false) (by kernel_rfl) rfl rfl z5 (fun hS => ?_)
    refine spec_l1copy.np_ 0 27 rfl rfl (by kernel_rfl) (fun _ _ _ h => h) (by rfl) (fun w' => by go_simp; with_reducible rfl) (by simp only [spec_l1copy.AP_, i64_w]; rfl) ?_
    refine spec_l1copy.nt_ hS 1 28 rfl rfl (by kernel_rfl) (fun _ _ _ h => h) (by rfl) (fun w' s0 => by go_simp; with_reducible rfl) (by simp only [spec_l1copy.AP_, i64_w]; rfl) ?_
    refine spec_l1copy.np_ 2 29 rfl rfl (by kernel_rfl) (fun _ _ _ h => h) (by rfl) (fun w' => by go_simp; with_reducible rfl) (by simp only [spec_l1copy.AP_, i64_w]; rfl) ?_
    refine spec_l1copy.np_ 3 30 (v := .slice (some ⟨gN, 0, none⟩) i d2) rfl rfl (by kernel_rfl) (fun _ _ _ h => h) (by rfl) (fun w' => by go_simp) (by simp only [spec_l1copy.AP_, i64_w]; rfl) ?_
    refine spec_l1copy.np_ 4 31 rfl rfl (by kernel_rfl) (fun _ _ _ h => h) (by rfl) (fun w' => by go_simp; with_reducible rfl) (by simp only [spec_l1copy.AP_, i64_w]; rfl) ?_
    refine spec_l1copy.nt_ hS 5 32 rfl rfl (by kernel_rfl) (fun _ _ _ h => h) (by rfl) (fun w' s0 => by go_simp; with_reducible rfl) (by simp only [spec_l1copy.AP_, i64_w]; rfl) ?_
    refine spec_l1copy.np_ 6 33 rfl rfl (by kernel_rfl) (fun _ _ _ h => h) (by rfl) (fun w' => by go_simp; with_reducible rfl) (by simp only [spec_l1copy.AP_, i64_w]; rfl) ?_
    refine spec_l1copy.np_ 7 34 (v := .int .i64 ((i + 1 : Nat) : Int)) rfl rfl (by kernel_rfl) (fun _ _ _ h => h) (by rfl) (fun w' => by go_simp; rw [i64_w, EW.out]; omega) (by simp only [spec_l1copy.AP_, i64_w]; rfl) ?_
    refine spec_l1copy.np_ 8 35 (v := .slice A7 (t3.length - (i + 1)) (d2 - (i + 1))) rfl rfl (by kernel_rfl) (fun _ _ _ h => h) (by rfl) (fun w' => by go_simp; rw [if_pos (by omega), HA7.out]; simp [Addr.add]) (by simp only [spec_l1copy.AP_, i64_w]; rfl) ?_
    refine spec_l1copy.no_ 9 36 rfl rfl (by kernel_rfl) (by decide) (fun K hK => ?_)
    refine Kd.R_delete_step (Kd.int .i64) (w0 := w) w.heap.size (by rfl) (.tmp 30) (.tmp 35) 23 3 rfl Try.underlying23 (by kernel_rfl) (g := gN) (n := t3.length) (c := d2) (k := i) rfl rfl HA7.out rfl r5 (by omega) (below_drew b5) b5.size ?_
    intro w6 r6 b6 g6
    have h6 : ∀ k, k ≠ gN → k < w5.heap.size → w6.heap[k]? = w5.heap[k]? := fun k hn hl => g6.block k hl (fun e => hn (by injection e))
    have BO6 := K_ ((h6 _ (by omega) (blk_lt BO5.out)).trans BO5.out)
    refine hK _ _ ((blk_cell BO6.out 2).trans rfl) (fun hS => norm_ (by show Act.put _ (some 36) _ = _; simp only [spec_l1copy.AP_]; rfl) ?_)
    refine spec_l1copy.np_ 10 37 rfl rfl (by kernel_rfl) (fun _ _ _ h => h) (by rfl) (fun w' => by go_simp; with_reducible rfl) (by simp only [spec_l1copy.AP_, i64_w]; rfl) ?_
    refine spec_l1copy.nl_ 11 (w6.setCell ⟨w1.heap.size, 2, none⟩ (.slice (some ⟨gN, 0, none⟩) (t3.length - 1) d2)) rfl rfl (by kernel_rfl) (by decide) (by rfl) (by kernel_rfl) (by have h9 := blk_frozen BO6.out 2; go_simp) ?_
    have BO7 := K_ (show (w6.setCell ⟨w1.heap.size, 2, none⟩ (.slice (some ⟨gN, 0, none⟩) (t3.length - 1) d2)).heap[w1.heap.size]? = some (.cells #[.slice B0 t1.length d0, .slice (some ⟨gT, 0, none⟩) (t2.length - 1) d1, .slice (some ⟨gN, 0, none⟩) (t3.length - 1) d2] 26 (0, 0)) from blk_put BO6.out 2 _ rfl)
    have h7 : ∀ k, k < w1.heap.size → k ≠ gN → (w6.setCell ⟨w1.heap.size, 2, none⟩ (.slice (some ⟨gN, 0, none⟩) (t3.length - 1) d2)).heap[k]? = w5.heap[k]? := fun k hk hn => (Below.heap_setCell w6 ⟨w1.heap.size, 2, none⟩ _ k (by show k ≠ w1.heap.size; omega)).trans (h6 k hn (Nat.lt_trans hk (blk_lt BO5.out)))
    have hN3 : some gN ≠ (Value.slice B0 t1.length d0).ownBlock := (P2.out.1 gN rfl).1
    have Z0 := K_ (Kd.R_step (Kd.R_tight rfl P0.out) (w1 := w6.setCell ⟨w1.heap.size, 2, none⟩ (.slice (some ⟨gN, 0, none⟩) (t3.length - 1) d2)) (fun k hk hlt => (h7 k hlt (fun e => hN3 (e ▸ hk))).trans (h5 k hlt (fun e => hg.1 (e ▸ hk)))))
    have Z1 := K_ (Kd.N_step (Kd.N_mono n5 (fun k hk => (⟨hk, fun e => hk.1.2 (by rw [e]; rfl)⟩ : _ ∧ k ≠ gN))) (w1 := w6.setCell ⟨w1.heap.size, 2, none⟩ (.slice (some ⟨gN, 0, none⟩) (t3.length - 1) d2)) (fun k hk _ => h7 k hk.1.2.2.1 hk.2))
    have Z2 := K_ (Kd.R_far (p := ⟨w1.heap.size, 2, none⟩) r6 (fun k hk => by have h9 : k = gN := Option.some.inj hk; show k ≠ w1.heap.size; omega) (.slice (some ⟨gN, 0, none⟩) (t3.length - 1) d2))
    have ZB := K_ (b6.setCell (p := ⟨w1.heap.size, 2, none⟩) (show w.heap.size ≤ w1.heap.size by omega) (u := .slice (some ⟨gN, 0, none⟩) (t3.length - 1) d2))
    have BN7 := K_ ((h7 _ (blk_lt BN1.out) (by have := (P2.out.1 gN rfl).2.1; omega)).trans ((h5 _ (blk_lt BN1.out) (by omega)).trans BN1.out))
    clear r6 h6 BO6 b6 g6 r5 hK K h5 n5 b5 h7 z5 hS
    generalize w6.setCell ⟨w1.heap.size, 2, none⟩ (.slice (some ⟨gN, 0, none⟩) (t3.length - 1) d2) = w7 at *
    have x0 : w7.cell? ⟨w1.heap.size, 0, none⟩ = some (.slice B0 t1.length d0) := (blk_cell BO7.out 0).trans rfl
    have x1 : w7.cell? ⟨w1.heap.size, 1, none⟩ = some (.slice (some ⟨gT, 0, none⟩) (t2.length - 1) d1) := (blk_cell BO7.out 1).trans rfl
    have x2 : w7.cell? ⟨w1.heap.size, 2, none⟩ = some (.slice (some ⟨gN, 0, none⟩) (t3.length - 1) d2) := (blk_cell BO7.out 2).trans rfl
    go_wp2_with (first
      | ((with_reducible refine gate_store (t := 26) (p := 4) rfl ?_); (try simp only [P_]); refine spec_l1copy.row_wr_ rfl 26 (.tmp 4) (.tmp 38) rfl rfl (w.heap.size + 1) rfl (c' := #[.slice B0 t1.length d0, .slice (some ⟨gT, 0, none⟩) (t2.length - 1) d1, .slice (some ⟨gN, 0, none⟩) (t3.length - 1) d2]) rfl BN7.out spec_l1copy.info26_ rfl (by simp [Value.oneCell']) ?_; intro w8 h8 g8; have BR8 := K_ h8; have HG8 := K_ g8; clear h8 g8))
    refine bodyPost_ret (results_cell_row rfl _ _ (w.heap.size + 1) 26 #[.slice B0 t1.length d0, .slice (some ⟨gT, 0, none⟩) (t2.length - 1) d1, .slice (some ⟨gN, 0, none⟩) (t3.length - 1) d2] (0, 0) _ rfl BR8.out hu26 rfl spec_l1copy.info26_) rfl ?_
    have hst : ∀ k, W.heap.size ≤ k → k < w7.heap.size → w8.heap[k]? = w7.heap[k]? := fun k hk hl => HG8.out.block k hl (by intro e; injection e with e; omega)
    have hWl : w.heap.size ≤ W.heap.size := by omega
    refine ⟨_, _, _, rfl, Kd.R_reok rfl (Kd.R_lower (Kd.R_step Z0.out (fun k hk hl => hst k (P0.out.1 k hk.symm).2.1 hl)) hWl) (fun k e => ⟨Nat.le_trans hWl (P0.out.1 k e).2.1, (P0.out.1 k e).1⟩), ?_, Kd.R_reok rfl (Kd.R_step Z2.out (fun k hk hl => hst k (P2.out.1 k hk.symm).2.1 hl)) (fun k e => ⟨Nat.le_trans hWl (P2.out.1 k e).2.1, (P2.out.1 k e).1⟩), pw_below_grown ZB.out _ ZB.out.size HG8.out (by intro k hk; injection hk with hk; omega)⟩
    exact Kd.N_mono (Kd.N_step Z1.out (w1 := w8) (fun k hk hl => hst k hk.1.2.1 hl)) (ok' := fun k => w.heap.size ≤ k ∧ some k ≠ (Value.slice B0 t1.length d0).ownBlock ∧ some k ≠ (Value.slice (some ⟨gN, 0, none⟩) (t3.length - 1) d2).ownBlock) (fun k hk => ⟨Nat.le_trans hWl hk.1.2.1, hk.1.1⟩)


end Go.Proofs.Ytpbclogjoangfaa.Q
