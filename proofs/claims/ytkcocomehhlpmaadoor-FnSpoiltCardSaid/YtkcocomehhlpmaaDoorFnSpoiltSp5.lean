/- The specification's search: a new one. Walked by hand. -/
import Derived.Test.YtkcocomehhlpmaaDoorFnSpoiltSp2
namespace Go.Proofs.YtkcocomehhlpmaaDoor.Sp
open Go.RowKit Go.Proofs.YtkcocomehhlpmaaDoorW.PrintWords Go.Proofs.YtkcocomehhlpmaaDoorW.PrintLast Go.Proofs.YtkcocomehhlpmaaDoorW.PrintMore Go.Proofs.YtkcocomehhlpmaaDoor.Q Go.Proofs.YtkcocomehhlpmaaDoor.Pu Go.Proofs.YtkcocomehhlpmaaDoor.Sr
attribute [local go_sem] max2_int min2_int max_two min_two max_three min_three max_four min_four
set_option linter.unusedVariables false
set_option linter.unusedSimpArgs false
theorem two_fresh {α : Type} {d : Kd α} {e base : Nat} {ok : Nat → Prop} {w : World} {u : Value} {xs : List α} (h : d.R e w base ok u xs) : ∀ k, w.heap.size ≤ k → some k ≠ u.ownBlock := by
 intro k hk he
 have h1 := (Kd.R_bound h).1 k he.symm
 omega
theorem two_grown {α : Type} {d : Kd α} {e base : Nat} {w w1 : World} {u v v1 : Value} {xs : List α} (hu : d.R e w base (fun k => some k ≠ v.ownBlock) u xs) (hg : w.grownBy w1 v.ownBlock) (hat : v1.ownBlock = v.ownBlock ∨ ∃ b, v1.ownBlock = some b ∧ w.heap.size ≤ b) :
  d.R e w1 base (fun k => some k ≠ v1.ownBlock) u xs := by
 refine Kd.R_mono (Kd.R_grown (Kd.R_bound hu) hg (fun k hk => hk.1)) (fun k hk => ?_)
 rcases hat with e1 | ⟨b, e1, hb⟩
 ·rw [e1]; exact hk.1
 ·rw [e1]
  intro e2
  injection e2 with e2
  have := hk.2.2.1
  omega
theorem take_snocI {l : List Int} {i : Nat} (hi : i < l.length) : l.take i ++ [l.getD i 0] = l.take (i + 1) := by
 rw [List.take_succ_eq_append_getElem hi, List.getD_eq_getElem?_getD, List.getElem?_eq_getElem hi]
 rfl
theorem szP_pos (T : List S48) : ∀ n, 0 < szP T n
 | 0 => by simp [szP]
 | n + 1 => by simp only [szP]; exact Nat.mul_pos (szP_pos T n) (by omega)
theorem own_only {α : Type} {enc : α → Value} {h1 : ∀ x : α, (enc x).oneCell' = true} {e base g n c : Nat} {ok : Nat → Prop} {w : World} {xs : List α} (h : (Kd.scalar enc h1).R e w base ok (.slice (some ⟨g, 0, none⟩) n c) xs) : (Kd.scalar enc h1).R e w base (fun k => k = g) (.slice (some ⟨g, 0, none⟩) n c) xs :=
 Kd.R_flat (fun h => h) h (fun k hk _ => by
  have : g = k := by simpa [Value.ownBlock] using hk
  exact this.symm)
theorem row_far {α : Type} {d : Kd α} {e base : Nat} {ok : Nat → Prop} {w : World} {v : Value} {xs : List α} {g t : Nat} {cells : Array Value} (h : d.R e w base ok v xs) (hb : w.heap[g]? = some (.cells cells t (0, 0))) (ht : ∀ q, q ∈ e :: d.E → q ≠ t) (j : Nat) (u : Value) : d.R e (w.setCell ⟨g, j, none⟩ u) base ok v xs :=
 Kd.R_mono (Kd.R_far (p := ⟨g, j, none⟩) (Kd.R_types h hb ht) (fun _ hk => hk.2) u) (fun _ hk => hk.1)
theorem info4 : (Tryd.prog.info? 4).map (fun i => (i.zero, i.size, i.bytes)) = some (some (.bool false), 1, 1) := by kernel_rfl
set_option maxHeartbeats 2000000 in
set_option maxRecDepth 100000 in
theorem new_calls (W : World) {A0 : Option Addr} {c0 : Nat} {l0 : List Int} {A1 : Option Addr} {c1 : Nat} {l1 : List S48} {A2 : Option Addr} {c2 : Nat} {l2 : List Int} (hw : Wf l0 l1 l2)
  (r0 : Kd.C (Kd.int .i64) W A0 l0.length l0) (h0 : l0.length ≤ c0) (r1 : Kd.C k48 W A1 l1.length l1) (h1 : l1.length ≤ c1) (r2 : Kd.C (Kd.int .i64) W A2 l2.length l2) (h2 : l2.length ≤ c2) :
  Calls Tryd.prog 48 #[.agg #[.slice A0 l0.length c0, .slice A1 l1.length c1, .slice A2 l2.length c2]] W fun e W' => ∃ gt gc gm vp vn cc cm, e = .returned (.pointer (some ⟨gt, 0, none⟩)) ∧ Sq W W' gt gc gm (szP l1 l1.length) vp vn cc cm l1 l2 (List.replicate (szP l1 l1.length) 0) (List.replicate (szP l1 l1.length) false) := by
 have HW := Aside0.mk hw
 have R1 := Aside0.mk r1
 have R2 := Aside0.mk r2
 have ht1 := hw.t1
 have HN1 := Aside0.mk hw.n1
 have hu26 := Tryd.underlying30
 have hu93 := Tryd.underlying94
 have hu := Tryd.underlying48
 clear hw r0 r1 r2
 go_enter Tryd.func48, Tryd.ntmps48
 go_wp2_with (first
  | ((with_reducible refine gate_dst (N := 1) rfl ?_); refine box_event ?hg (N := 1) ?hd (cs := #[.slice A0 l0.length c0, .slice A1 l1.length c1, .slice A2 l2.length c2]) (t := 30) ?hr ?_; (case hd => rfl); (case hg => rfl); (case hr => first | (go_simp; done) | (go_simp; rfl)); intro gb hg w1 hbox hb; subst hg; have HB := Aside0.mk hb; have BX := Aside0.mk hbox; clear hb hbox; have z1 : w1.cell? ⟨W.heap.size, 1, none⟩ = some (.slice A1 l1.length c1) := (blk_cell BX.out 1).trans rfl)
  | ((with_reducible refine gate_dst (N := 8) rfl ?_); refine box_event ?hg (N := 8) ?hd (cs := #[.slice none 0 0, .slice none 0 0, .slice none 0 0, .slice none 0 0]) (t := 94) ?hr ?_; (case hd => rfl); (case hg => rfl); (case hr => first | (go_simp; done) | (go_simp; rfl)); intro gt hgt w2 hbox hb; have GE := Aside0.mk (show W.heap.size ≤ gt from by rw [hgt]; exact below_size HB.out); have HB_ := Aside0.mk (below_step HB.out hb); have BX_ := Aside0.mk (blk_below BX.out hb); have BG := Aside0.mk hbox; replace z1 := (hb.cell (World.block_lt_of_cell? w1 _ z1)).trans z1; clear HB BX hb hbox hgt; have HB := HB_; have BX := BX_; clear HB_ BX_))
 go_loopw [4, 12] (fun x4 x12 wr => ∃ (i : Nat) (vp vn : Value), i ≤ l1.length ∧ x12 = .int .i64 i ∧ x4 = .int .i64 (szP l1 i : Nat) ∧ Aside0 (Below W.heap.size W wr) ∧ Aside0 (wr.heap[gt]? = some (.cells #[vp, vn, .slice none 0 0, .slice none 0 0] 94 (0, 0))) ∧ Aside0 (wr.heap[W.heap.size]? = some (.cells #[.slice A0 l0.length c0, .slice A1 l1.length c1, .slice A2 l2.length c2] 30 (0, 0))) ∧ Aside0 (Kd.R (Kd.int .i64) 3 wr W.heap.size (fun k => some k ≠ vn.ownBlock) vp ((lensP l1).take i)) ∧ Aside0 (Kd.R (Kd.int .i64) 3 wr W.heap.size (fun k => some k ≠ vp.ownBlock) vn (l2.take i))) (fun _ x12 _ => l1.length - (intOf x12).toNat)
 case atStart => exact ⟨0, .slice none 0 0, .slice none 0 0, Nat.zero_le _, rfl, rfl, HB, BG, BX, ⟨Kd.R_nil _ _ _ _ _⟩, ⟨Kd.R_nil _ _ _ _ _⟩⟩
 case round =>
  clear HB BG BX z1
  obtain ⟨i, vp, vn, hi, rfl, rfl, HB, BG, BX, HP, HN⟩ := hrel
  by_cases hlt : i < l1.length
  ·have d13 : decide ((i : Int) < (l1.length : Int)) = true := decide_eq_true (by omega)
   have p5 : (0 : Int) ≤ (i : Int) := by omega
   have q5 : (i : Int) < (l2.length : Int) := by have := HN1.out; omega
   have q6 : (i : Int) < (l1.length : Int) := by omega
   obtain ⟨ad, B, c, e, y0, y1, y2, hl, hC⟩ := at_T48 (Kd.C_below R1.out HB.out) (i : Int) p5 q6
   obtain ⟨ad2, e2, n0⟩ := Kd.at_int R2.out (i : Int) p5 q5
   subst e e2
   rw [Int.toNat_natCast] at y0 y1 y2 n0
   have er : rd_T48 l1 (i : Int) = l1.getD i z48 := rd_T l1 i
   rw [er] at y0 y1 y2
   have e1 : rd l2 (i : Int) = l2.getD i 0 := rd_I l2 i
   rw [e1] at n0
   have HAL := Aside0.mk (World.block_lt_of_cell? W _ n0)
   have HXL := Aside0.mk (show ((lensP l1).take i).length ≤ 5 from by rw [List.length_take]; have := HN1.out; omega)
   have HYL := Aside0.mk (show (l2.take i).length ≤ 5 from by rw [List.length_take]; have := HN1.out; omega)
   have HXS := Aside0.mk (show (lensP l1).take i ++ [((l1.getD i z48).f1.length : Int)] = (lensP l1).take (i + 1) from by
    have h9 := take_snocI (l := lensP l1) (i := i) (by rw [lensP_len]; exact hlt)
    rw [lensP_get l1 hlt] at h9
    exact h9)
   have HYS := Aside0.mk (take_snocI (l := l2) (i := i) (by have := HN1.out; omega))
   have hsz := szP_small HW.out (n := i + 1) hlt
   have hst : szP l1 (i + 1) = szP l1 i * ((l1.getD i z48).f1.length + 2) := rfl
   have hpl := HW.out.path _ (getD_mem z48 hlt)
   generalize hxs : (lensP l1).take i = xs at HP HXL HXS
   generalize hys : l2.take i = ys at HN HYL HYS
   clear hxs hys hl hC er e1
   generalize (l1.getD i z48).f1.length = pl at y1 HXS hst hpl
   generalize l2.getD i 0 = nm at n0 HYS
   generalize (l1.getD i z48).f0 = f0 at y0
   generalize (l1.getD i z48).f2 = f2 at y2
   have hq : ((szP l1 i : Nat) : Int) * ((pl : Int) + 2) = ((szP l1 (i + 1) : Nat) : Int) := by
    rw [hst]
    rw [Int.natCast_mul, Int.natCast_add]
    rfl
   have hq1 : ((szP l1 (i + 1) : Nat) : Int) ≤ 100000 := by omega
   have hq0 : (0 : Int) ≤ ((szP l1 (i + 1) : Nat) : Int) := by omega
   clear hst hsz
   generalize hqx : ((szP l1 (i + 1) : Nat) : Int) = qx at hq hq1 hq0
   have HQX := Aside0.mk hqx
   clear hqx
   generalize ((szP l1 i : Nat) : Int) = qi at *
   go_wp2_with (fail)
   have BQ := Aside0.mk (heap_alloc_new wr (.cells #[.int .i64 f0, .slice B pl c, .int .i64 f2] 48))
   have HB_ := Aside0.mk (HB.out.alloc (below_size HB.out) (.cells #[.int .i64 f0, .slice B pl c, .int .i64 f2] 48))
   have BG_ := Aside0.mk (blk_alloc BG.out (.cells #[.int .i64 f0, .slice B pl c, .int .i64 f2] 48))
   have BX_ := Aside0.mk (blk_alloc BX.out (.cells #[.int .i64 f0, .slice B pl c, .int .i64 f2] 48))
   have HP_ := Aside0.mk (Kd.R_alloc HP.out (.cells #[.int .i64 f0, .slice B pl c, .int .i64 f2] 48))
   have HN_ := Aside0.mk (Kd.R_alloc HN.out (.cells #[.int .i64 f0, .slice B pl c, .int .i64 f2] 48))
   clear HB BG BX HP HN y0 y1 y2
   have HB := HB_
   have BG := BG_
   have BX := BX_
   have HP := HP_
   have HN := HN_
   clear HB_ BG_ BX_ HP_ HN_
   generalize wr.alloc (.cells #[.int .i64 f0, .slice B pl c, .int .i64 f2] 48) = wq at *
   generalize wr.heap.size = gq at *
   refine start_ (n := 13) (S := fun w' => w'.cell? ⟨gt, 0, none⟩ = some vp ∧ w'.cell? ⟨gq, 1, none⟩ = some (.slice B pl c)) (ds := [12]) #[false, false, false, false, false, false, false, false, false, false, false, false, false] (by kernel_rfl) rfl rfl ⟨(blk_cell BG.out 0).trans rfl, (blk_cell BQ.out 1).trans rfl⟩ (fun hHeld => ?_)
   have HB_ := Aside0.mk (below_drew HB.out)
   have BG_ : Aside0 (wq.drew.heap[gt]? = some (.cells #[vp, vn, .slice none 0 0, .slice none 0 0] 94 (0, 0))) := ⟨BG.out⟩
   have BQ_ : Aside0 (wq.drew.heap[gq]? = some (.cells #[.int .i64 f0, .slice B pl c, .int .i64 f2] 48 (0, 0))) := ⟨BQ.out⟩
   have BX_ : Aside0 (wq.drew.heap[W.heap.size]? = some (.cells #[.slice A0 l0.length c0, .slice (some ad) l1.length c1, .slice (some ad2) l2.length c2] 30 (0, 0))) := ⟨BX.out⟩
   have HP_ := Aside0.mk (Kd.R_drew HP.out)
   have HN_ := Aside0.mk (Kd.R_drew HN.out)
   clear HB BG BQ BX HP HN
   generalize wq.drew = wd at *
   have HB := HB_
   have BG := BG_
   have BQ := BQ_
   have BX := BX_
   have HP := HP_
   have HN := HN_
   clear HB_ BG_ BQ_ BX_ HP_ HN_
   refine pure_ (i := 0) (N := some 17) (v := ?_) (a' := ?_) #[true, false, false, false, false, false, false, false, false, false, false, false, false] rfl rfl (by kernel_rfl) (fun _ _ _ h => h) (Or.inl ⟨by rfl, ?_⟩) ?_ ?_
   rotate_left
   ·intro w'
    go_simp
    with_reducible rfl
   rotate_left
   ·simp only [Act.put, List.setIfInBounds_toArray, List.set_cons_zero, List.set_cons_succ, i64_w, i32_w]
    rfl
   refine pure_ (i := 1) (N := some 18) (v := ?_) (a' := ?_) #[true, true, false, false, false, false, false, false, false, false, false, false, false] rfl rfl (by kernel_rfl) (fun _ _ _ h => h) (Or.inl ⟨by rfl, ?_⟩) ?_ ?_
   rotate_left
   ·intro w'
    go_simp
    with_reducible rfl
   rotate_left
   ·simp only [Act.put, List.setIfInBounds_toArray, List.set_cons_zero, List.set_cons_succ, i64_w, i32_w]
    rfl
   refine pure_ (i := 2) (N := some 19) (v := ?_) (a' := ?_) #[true, true, true, false, false, false, false, false, false, false, false, false, false] rfl rfl (by kernel_rfl) (fun _ _ _ h => h) (Or.inl ⟨by rfl, ?_⟩) ?_ ?_
   rotate_left
   ·intro w'
    go_simp
    with_reducible rfl
   rotate_left
   ·simp only [Act.put, List.setIfInBounds_toArray, List.set_cons_zero, List.set_cons_succ, i64_w, i32_w]
    rfl
   refine pure_ (i := 3) (N := some 20) (v := ?_) (a' := ?_) #[true, true, true, true, false, false, false, false, false, false, false, false, false] rfl rfl (by kernel_rfl) (fun _ _ _ h => h) (Or.inl ⟨by rfl, ?_⟩) ?_ ?_
   rotate_left
   ·intro w'
    go_simp
    with_reducible rfl
   rotate_left
   ·simp only [Act.put, List.setIfInBounds_toArray, List.set_cons_zero, List.set_cons_succ, i64_w, i32_w]
    rfl
   refine pure_ (i := 5) (N := some 22) (v := ?_) (a' := ?_) #[true, true, true, true, false, true, false, false, false, false, false, false, false] rfl rfl (by kernel_rfl) (fun _ _ _ h => h) (Or.inl ⟨by rfl, ?_⟩) ?_ ?_
   rotate_left
   ·intro w'
    go_simp
    with_reducible rfl
   rotate_left
   ·simp only [Act.put, List.setIfInBounds_toArray, List.set_cons_zero, List.set_cons_succ, i64_w, i32_w]
    rfl
   refine take_ (i := 4) (N := some 21) (v := ?_) (a' := ?_) #[true, true, true, true, true, true, false, false, false, false, false, false, false] rfl rfl (by kernel_rfl) (fun _ _ _ h => h) (Or.inl ⟨by rfl, ?_⟩) hHeld ?_ ?_
   rotate_left
   ·rintro w' ⟨s0, s1⟩
    go_simp
    with_reducible rfl
   rotate_left
   ·simp only [Act.put, List.setIfInBounds_toArray, List.set_cons_zero, List.set_cons_succ, i64_w, i32_w]
    rfl
   refine take_ (i := 6) (N := some 23) (v := ?_) (a' := ?_) #[true, true, true, true, true, true, true, false, false, false, false, false, false] rfl rfl (by kernel_rfl) (fun _ _ _ h => h) (Or.inl ⟨by rfl, ?_⟩) hHeld ?_ ?_
   rotate_left
   ·rintro w' ⟨s0, s1⟩
    go_simp
    with_reducible rfl
   rotate_left
   ·simp only [Act.put, List.setIfInBounds_toArray, List.set_cons_zero, List.set_cons_succ, i64_w, i32_w]
    rfl
   refine pure_ (i := 7) (N := some 24) (v := ?_) (a' := ?_) #[true, true, true, true, true, true, true, true, false, false, false, false, false] rfl rfl (by kernel_rfl) (fun _ _ _ h => h) (Or.inl ⟨by rfl, ?_⟩) ?_ ?_
   rotate_left
   ·intro w'
    go_simp
    with_reducible rfl
   rotate_left
   ·simp only [Act.put, List.setIfInBounds_toArray, List.set_cons_zero, List.set_cons_succ, i64_w, i32_w]
    rfl
   refine one_ (i := 8) (N := some 25) #[true, true, true, true, true, true, true, true, true, false, false, false, false] rfl rfl (by kernel_rfl) (by decide) (fun K hK => ?_)
   refine value_ (w1 := ?_) (v := ?_) (by rfl) rfl ?_ ?_
   rotate_left 2
   ·go_simp
    constructor
    ·rfl
    ·rfl
   refine hK.out _ _ ⟨(blk_cell (blk_alloc BG.out _) 0).trans rfl, (blk_cell (blk_alloc BQ.out _) 1).trans rfl⟩ (fun hHeld => ?_)
   clear hK K
   refine norm_ (a' := ?_) ?_ ?_
   rotate_left
   ·show Act.put _ (some 25) _ = _
    simp only [Act.put, List.setIfInBounds_toArray, List.set_cons_zero, List.set_cons_succ, i64_w, i32_w]
    rfl
   refine one_ (i := 9) (N := some 26) #[true, true, true, true, true, true, true, true, true, true, false, false, false] rfl rfl (by kernel_rfl) (by decide) (fun K hK => ?_)
   refine Kd.R_append_step (Kd.int .i64) (w0 := W) W.heap.size (by rfl) (.tmp 21) (.tmp 25) 22 3 (.int .i64 0) 8 rfl Tryd.underlying22 info3 rfl (by decide) (by omega) vp xs (pl : Int) [.int .i64 (pl : Int)] (fun k => some k ≠ vn.ownBlock) (fun _ => False) rfl rfl ?aP (fun _ hk => hk.elim) ?aF HP.out HB.out (below_size HB.out) ?aL ?_
   (case aP => exact rfl)
   (case aF => exact two_fresh HN.out)
   (case aL => have := HXL.out; omega)
   intro vp1 w6 ho hb hg hat
   have HN_ := Aside0.mk (two_grown HN.out hg hat)
   have HP_ := Aside0.mk ho
   have BG_ := Aside0.mk (blk_grown BG.out hg (Kd.R_ne HP.out BG.out (by decide)))
   have BQ_ := Aside0.mk (blk_grown BQ.out hg (Kd.R_ne HP.out BQ.out (by decide)))
   have BX_ := Aside0.mk (blk_grown BX.out hg (Kd.R_ne HP.out BX.out (by decide)))
   have HB_ := Aside0.mk hb
   clear HN HP BG BQ BX HB ho hb hg hat
   have HB := HB_
   have BG := BG_
   have BQ := BQ_
   have BX := BX_
   have HP := HP_
   have HN := HN_
   clear HB_ BG_ BQ_ BX_ HP_ HN_
   refine hK.out _ _ ⟨(blk_cell BG.out 0).trans rfl, (blk_cell BQ.out 1).trans rfl⟩ (fun hHeld => ?_)
   clear hK K
   refine norm_ (a' := ?_) ?_ ?_
   rotate_left
   ·show Act.put _ (some 26) _ = _
    simp only [Act.put, List.setIfInBounds_toArray, List.set_cons_zero, List.set_cons_succ, i64_w, i32_w]
    rfl
   refine pure_ (i := 10) (N := some 27) (v := ?_) (a' := ?_) #[true, true, true, true, true, true, true, true, true, true, true, false, false] rfl rfl (by kernel_rfl) (fun _ _ _ h => h) (Or.inl ⟨by rfl, ?_⟩) ?_ ?_
   rotate_left
   ·intro w'
    go_simp
    with_reducible rfl
   rotate_left
   ·simp only [Act.put, List.setIfInBounds_toArray, List.set_cons_zero, List.set_cons_succ, i64_w, i32_w]
    rfl
   refine pure_ (i := 11) (N := some 28) (v := ?_) (a' := ?_) #[true, true, true, true, true, true, true, true, true, true, true, true, false] rfl rfl (by kernel_rfl) (fun _ _ _ h => h) (Or.inl ⟨by rfl, ?_⟩) ?_ ?_
   rotate_left
   ·intro w'
    go_simp
    with_reducible rfl
   rotate_left
   ·simp only [Act.put, List.setIfInBounds_toArray, List.set_cons_zero, List.set_cons_succ, i64_w, i32_w]
    rfl
   refine last_ (i := 12) (N := none) #[true, true, true, true, true, true, true, true, true, true, true, true, true] rfl rfl (by kernel_rfl) (by decide) (fun K hK => ?_)
   obtain ⟨Ap1, cp1, ep1⟩ := Kd.R_slice HP.out
   subst ep1
   have hs13 : w6.cell? ⟨gt, 0, none⟩ = some vp := (blk_cell BG.out 0).trans rfl
   have hfs13 := blk_frozen BG.out 0
   refine skip_ (w1 := w6.setCell ⟨gt, 0, none⟩ (.slice Ap1 (xs ++ [(pl : Int)]).length cp1)) (by rfl) rfl ?_ ?_
   ·go_simp
   refine hK.out _ _ ?_
   clear hK K
   refine done_ (by kernel_rfl) ?_
   have HP_ := Aside0.mk (Kd.R_mono (Kd.R_far (p := ⟨gt, 0, none⟩) (Kd.R_types HP.out BG.out (by decide)) (fun _ hk => hk.2) (.slice Ap1 (xs ++ [(pl : Int)]).length cp1)) (fun _ hk => hk.1))
   have HN_ := Aside0.mk (Kd.R_mono (Kd.R_far (p := ⟨gt, 0, none⟩) (Kd.R_types HN.out BG.out (by decide)) (fun _ hk => hk.2) (.slice Ap1 (xs ++ [(pl : Int)]).length cp1)) (fun _ hk => hk.1))
   have BQ_ := Aside0.mk (blk_far BQ.out (p := ⟨gt, 0, none⟩) (blk_ne BQ.out BG.out (by decide)) (.slice Ap1 (xs ++ [(pl : Int)]).length cp1))
   have BX_ := Aside0.mk (blk_far BX.out (p := ⟨gt, 0, none⟩) (blk_ne BX.out BG.out (by decide)) (.slice Ap1 (xs ++ [(pl : Int)]).length cp1))
   have BG_ : Aside0 ((w6.setCell ⟨gt, 0, none⟩ (.slice Ap1 (xs ++ [(pl : Int)]).length cp1)).heap[gt]? = some (.cells #[.slice Ap1 (xs ++ [(pl : Int)]).length cp1, vn, .slice none 0 0, .slice none 0 0] 94 (0, 0))) := ⟨blk_put BG.out 0 _ rfl⟩
   have HB_ := Aside0.mk (show Below W.heap.size W (w6.setCell ⟨gt, 0, none⟩ (.slice Ap1 (xs ++ [(pl : Int)]).length cp1)) from below_set HB.out GE.out)
   clear HN HP BG BQ BX HB hs13 hfs13
   generalize w6.setCell ⟨gt, 0, none⟩ (.slice Ap1 (xs ++ [(pl : Int)]).length cp1) = w7 at *
   have HB := HB_
   have BG := BG_
   have BQ := BQ_
   have BX := BX_
   have HP := HP_
   have HN := HN_
   clear HB_ BG_ BQ_ BX_ HP_ HN_
   have n7 : w7.cell? (ad2.add i) = some (.int .i64 nm) := (HB.out.cell HAL.out).trans n0
   go_wp2_with (fail)
   refine start_ (n := 15) (S := fun w' => w'.cell? ⟨gt, 1, none⟩ = some vn ∧ w'.cell? ⟨W.heap.size, 2, none⟩ = some (.slice (some ad2) l2.length c2) ∧ w'.cell? (ad2.add i) = some (.int .i64 nm)) (ds := [14]) #[false, false, false, false, false, false, false, false, false, false, false, false, false, false, false] (by kernel_rfl) rfl rfl ⟨(blk_cell BG.out 1).trans rfl, (blk_cell BX.out 2).trans rfl, n7⟩ (fun hHeld => ?_)
   have HB_ := Aside0.mk (below_drew HB.out)
   have BG_ : Aside0 (w7.drew.heap[gt]? = some (.cells #[.slice Ap1 (xs ++ [(pl : Int)]).length cp1, vn, .slice none 0 0, .slice none 0 0] 94 (0, 0))) := ⟨BG.out⟩
   have BQ_ : Aside0 (w7.drew.heap[gq]? = some (.cells #[.int .i64 f0, .slice B pl c, .int .i64 f2] 48 (0, 0))) := ⟨BQ.out⟩
   have BX_ : Aside0 (w7.drew.heap[W.heap.size]? = some (.cells #[.slice A0 l0.length c0, .slice (some ad) l1.length c1, .slice (some ad2) l2.length c2] 30 (0, 0))) := ⟨BX.out⟩
   have HP_ := Aside0.mk (Kd.R_drew HP.out)
   have HN_ := Aside0.mk (Kd.R_drew HN.out)
   have n8 : w7.drew.cell? (ad2.add i) = some (.int .i64 nm) := n7
   clear HB BG BQ BX HP HN n7
   generalize w7.drew = wd2 at *
   have HB := HB_
   have BG := BG_
   have BQ := BQ_
   have BX := BX_
   have HP := HP_
   have HN := HN_
   clear HB_ BG_ BQ_ BX_ HP_ HN_
   refine pure_ (i := 0) (N := some 29) (v := ?_) (a' := ?_) #[true, false, false, false, false, false, false, false, false, false, false, false, false, false, false] rfl rfl (by kernel_rfl) (fun _ _ _ h => h) (Or.inl ⟨by rfl, ?_⟩) ?_ ?_
   rotate_left
   ·intro w'
    go_simp
    with_reducible rfl
   rotate_left
   ·simp only [Act.put, List.setIfInBounds_toArray, List.set_cons_zero, List.set_cons_succ, i64_w, i32_w]
    rfl
   refine pure_ (i := 1) (N := some 30) (v := ?_) (a' := ?_) #[true, true, false, false, false, false, false, false, false, false, false, false, false, false, false] rfl rfl (by kernel_rfl) (fun _ _ _ h => h) (Or.inl ⟨by rfl, ?_⟩) ?_ ?_
   rotate_left
   ·intro w'
    go_simp
    with_reducible rfl
   rotate_left
   ·simp only [Act.put, List.setIfInBounds_toArray, List.set_cons_zero, List.set_cons_succ, i64_w, i32_w]
    rfl
   refine pure_ (i := 2) (N := some 31) (v := ?_) (a' := ?_) #[true, true, true, false, false, false, false, false, false, false, false, false, false, false, false] rfl rfl (by kernel_rfl) (fun _ _ _ h => h) (Or.inl ⟨by rfl, ?_⟩) ?_ ?_
   rotate_left
   ·intro w'
    go_simp
    with_reducible rfl
   rotate_left
   ·simp only [Act.put, List.setIfInBounds_toArray, List.set_cons_zero, List.set_cons_succ, i64_w, i32_w]
    rfl
   refine pure_ (i := 3) (N := some 32) (v := ?_) (a' := ?_) #[true, true, true, true, false, false, false, false, false, false, false, false, false, false, false] rfl rfl (by kernel_rfl) (fun _ _ _ h => h) (Or.inl ⟨by rfl, ?_⟩) ?_ ?_
   rotate_left
   ·intro w'
    go_simp
    with_reducible rfl
   rotate_left
   ·simp only [Act.put, List.setIfInBounds_toArray, List.set_cons_zero, List.set_cons_succ, i64_w, i32_w]
    rfl
   refine pure_ (i := 5) (N := some 34) (v := ?_) (a' := ?_) #[true, true, true, true, false, true, false, false, false, false, false, false, false, false, false] rfl rfl (by kernel_rfl) (fun _ _ _ h => h) (Or.inl ⟨by rfl, ?_⟩) ?_ ?_
   rotate_left
   ·intro w'
    go_simp
    with_reducible rfl
   rotate_left
   ·simp only [Act.put, List.setIfInBounds_toArray, List.set_cons_zero, List.set_cons_succ, i64_w, i32_w]
    rfl
   refine pure_ (i := 7) (N := some 36) (v := ?_) (a' := ?_) #[true, true, true, true, false, true, false, true, false, false, false, false, false, false, false] rfl rfl (by kernel_rfl) (fun _ _ _ h => h) (Or.inl ⟨by rfl, ?_⟩) ?_ ?_
   rotate_left
   ·intro w'
    go_simp
    with_reducible rfl
   rotate_left
   ·simp only [Act.put, List.setIfInBounds_toArray, List.set_cons_zero, List.set_cons_succ, i64_w, i32_w]
    rfl
   refine take_ (i := 4) (N := some 33) (v := ?_) (a' := ?_) #[true, true, true, true, true, true, false, true, false, false, false, false, false, false, false] rfl rfl (by kernel_rfl) (fun _ _ _ h => h) (Or.inl ⟨by rfl, ?_⟩) hHeld ?_ ?_
   rotate_left
   ·rintro w' ⟨s0, s1, s2⟩
    go_simp
    with_reducible rfl
   rotate_left
   ·simp only [Act.put, List.setIfInBounds_toArray, List.set_cons_zero, List.set_cons_succ, i64_w, i32_w]
    rfl
   refine take_ (i := 6) (N := some 35) (v := ?_) (a' := ?_) #[true, true, true, true, true, true, true, true, false, false, false, false, false, false, false] rfl rfl (by kernel_rfl) (fun _ _ _ h => h) (Or.inl ⟨by rfl, ?_⟩) hHeld ?_ ?_
   rotate_left
   ·rintro w' ⟨s0, s1, s2⟩
    go_simp
    with_reducible rfl
   rotate_left
   ·simp only [Act.put, List.setIfInBounds_toArray, List.set_cons_zero, List.set_cons_succ, i64_w, i32_w]
    rfl
   refine pure_ (i := 8) (N := some 37) (v := ?_) (a' := ?_) #[true, true, true, true, true, true, true, true, true, false, false, false, false, false, false] rfl rfl (by kernel_rfl) (fun _ _ _ h => h) (Or.inl ⟨by rfl, ?_⟩) ?_ ?_
   rotate_left
   ·intro w'
    go_simp
    with_reducible rfl
   rotate_left
   ·simp only [Act.put, List.setIfInBounds_toArray, List.set_cons_zero, List.set_cons_succ, i64_w, i32_w]
    rfl
   refine take_ (i := 9) (N := some 38) (v := ?_) (a' := ?_) #[true, true, true, true, true, true, true, true, true, true, false, false, false, false, false] rfl rfl (by kernel_rfl) (fun _ _ _ h => h) (Or.inl ⟨by rfl, ?_⟩) hHeld ?_ ?_
   rotate_left
   ·rintro w' ⟨s0, s1, s2⟩
    go_simp
    with_reducible rfl
   rotate_left
   ·simp only [Act.put, List.setIfInBounds_toArray, List.set_cons_zero, List.set_cons_succ, i64_w, i32_w]
    rfl
   refine one_ (i := 10) (N := some 39) #[true, true, true, true, true, true, true, true, true, true, true, false, false, false, false] rfl rfl (by kernel_rfl) (by decide) (fun K hK => ?_)
   refine value_ (w1 := ?_) (v := ?_) (by rfl) rfl ?_ ?_
   rotate_left 2
   ·go_simp
    constructor
    ·rfl
    ·rfl
   refine hK.out _ _ ⟨(blk_cell (blk_alloc BG.out _) 1).trans rfl, (blk_cell (blk_alloc BX.out _) 2).trans rfl, ((below_alloc (Below.refl _ _) _).cell (World.block_lt_of_cell? wd2 _ n8)).trans n8⟩ (fun hHeld => ?_)
   clear hK K
   refine norm_ (a' := ?_) ?_ ?_
   rotate_left
   ·show Act.put _ (some 39) _ = _
    simp only [Act.put, List.setIfInBounds_toArray, List.set_cons_zero, List.set_cons_succ, i64_w, i32_w]
    rfl
   refine one_ (i := 11) (N := some 40) #[true, true, true, true, true, true, true, true, true, true, true, true, false, false, false] rfl rfl (by kernel_rfl) (by decide) (fun K hK => ?_)
   refine Kd.R_append_step (Kd.int .i64) (w0 := W) W.heap.size (by rfl) (.tmp 33) (.tmp 39) 22 3 (.int .i64 0) 8 rfl Tryd.underlying22 info3 rfl (by decide) (by omega) vn ys nm [.int .i64 nm] (fun k => some k ≠ (.slice Ap1 (xs ++ [(pl : Int)]).length cp1 : Value).ownBlock) (fun _ => False) rfl rfl ?aP (fun _ hk => hk.elim) ?aF HN.out HB.out (below_size HB.out) ?aL ?_
   (case aP => exact rfl)
   (case aF => exact two_fresh HP.out)
   (case aL => have := HYL.out; omega)
   intro vn1 w8 ho hb hg hat
   have HP_ := Aside0.mk (two_grown HP.out hg hat)
   have HN_ := Aside0.mk ho
   have BG_ := Aside0.mk (blk_grown BG.out hg (Kd.R_ne HN.out BG.out (by decide)))
   have BQ_ := Aside0.mk (blk_grown BQ.out hg (Kd.R_ne HN.out BQ.out (by decide)))
   have BX_ := Aside0.mk (blk_grown BX.out hg (Kd.R_ne HN.out BX.out (by decide)))
   have HB_ := Aside0.mk hb
   have n9 : w8.cell? (ad2.add i) = some (.int .i64 nm) := (hb.cell HAL.out).trans n0
   clear HN HP BG BQ BX HB ho hb hg hat n8
   have HB := HB_
   have BG := BG_
   have BQ := BQ_
   have BX := BX_
   have HP := HP_
   have HN := HN_
   clear HB_ BG_ BQ_ BX_ HP_ HN_
   refine hK.out _ _ ⟨(blk_cell BG.out 1).trans rfl, (blk_cell BX.out 2).trans rfl, n9⟩ (fun hHeld => ?_)
   clear hK K
   refine norm_ (a' := ?_) ?_ ?_
   rotate_left
   ·show Act.put _ (some 40) _ = _
    simp only [Act.put, List.setIfInBounds_toArray, List.set_cons_zero, List.set_cons_succ, i64_w, i32_w]
    rfl
   refine pure_ (i := 12) (N := some 41) (v := ?_) (a' := ?_) #[true, true, true, true, true, true, true, true, true, true, true, true, true, false, false] rfl rfl (by kernel_rfl) (fun _ _ _ h => h) (Or.inl ⟨by rfl, ?_⟩) ?_ ?_
   rotate_left
   ·intro w'
    go_simp
    with_reducible rfl
   rotate_left
   ·simp only [Act.put, List.setIfInBounds_toArray, List.set_cons_zero, List.set_cons_succ, i64_w, i32_w]
    rfl
   refine pure_ (i := 13) (N := some 42) (v := ?_) (a' := ?_) #[true, true, true, true, true, true, true, true, true, true, true, true, true, true, false] rfl rfl (by kernel_rfl) (fun _ _ _ h => h) (Or.inl ⟨by rfl, ?_⟩) ?_ ?_
   rotate_left
   ·intro w'
    go_simp
    with_reducible rfl
   rotate_left
   ·simp only [Act.put, List.setIfInBounds_toArray, List.set_cons_zero, List.set_cons_succ, i64_w, i32_w]
    rfl
   refine last_ (i := 14) (N := none) #[true, true, true, true, true, true, true, true, true, true, true, true, true, true, true] rfl rfl (by kernel_rfl) (by decide) (fun K hK => ?_)
   obtain ⟨An1, cn1, en1⟩ := Kd.R_slice HN.out
   subst en1
   have hs13 : w8.cell? ⟨gt, 1, none⟩ = some vn := (blk_cell BG.out 1).trans rfl
   have hfs13 := blk_frozen BG.out 1
   refine skip_ (w1 := w8.setCell ⟨gt, 1, none⟩ (.slice An1 (ys ++ [nm]).length cn1)) (by rfl) rfl ?_ ?_
   ·go_simp
   refine hK.out _ _ ?_
   clear hK K
   refine done_ (by kernel_rfl) ?_
   have HP_ := Aside0.mk (Kd.R_mono (Kd.R_far (p := ⟨gt, 1, none⟩) (Kd.R_types HP.out BG.out (by decide)) (fun _ hk => hk.2) (.slice An1 (ys ++ [nm]).length cn1)) (fun _ hk => hk.1))
   have HN_ := Aside0.mk (Kd.R_mono (Kd.R_far (p := ⟨gt, 1, none⟩) (Kd.R_types HN.out BG.out (by decide)) (fun _ hk => hk.2) (.slice An1 (ys ++ [nm]).length cn1)) (fun _ hk => hk.1))
   have BQ_ := Aside0.mk (blk_far BQ.out (p := ⟨gt, 1, none⟩) (blk_ne BQ.out BG.out (by decide)) (.slice An1 (ys ++ [nm]).length cn1))
   have BX_ := Aside0.mk (blk_far BX.out (p := ⟨gt, 1, none⟩) (blk_ne BX.out BG.out (by decide)) (.slice An1 (ys ++ [nm]).length cn1))
   have BG_ : Aside0 ((w8.setCell ⟨gt, 1, none⟩ (.slice An1 (ys ++ [nm]).length cn1)).heap[gt]? = some (.cells #[.slice Ap1 (xs ++ [(pl : Int)]).length cp1, .slice An1 (ys ++ [nm]).length cn1, .slice none 0 0, .slice none 0 0] 94 (0, 0))) := ⟨blk_put BG.out 1 _ rfl⟩
   have HB_ := Aside0.mk (show Below W.heap.size W (w8.setCell ⟨gt, 1, none⟩ (.slice An1 (ys ++ [nm]).length cn1)) from below_set HB.out GE.out)
   clear HN HP BG BQ BX HB hs13 hfs13 n9
   generalize w8.setCell ⟨gt, 1, none⟩ (.slice An1 (ys ++ [nm]).length cn1) = w9 at *
   have HB := HB_
   have BG := BG_
   have BQ := BQ_
   have BX := BX_
   have HP := HP_
   have HN := HN_
   clear HB_ BG_ BQ_ BX_ HP_ HN_
   have q1 : w9.cell? ⟨gq, 1, none⟩ = some (.slice B pl c) := (blk_cell BQ.out 1).trans rfl
   have hpl2 : (0 : Int) ≤ (pl : Int) := by omega
   have hpl3 : (pl : Int) ≤ 8 := by omega
   have HQ := Aside0.mk hq
   clear hq
   have ew2 : wrap64 ((pl : Int) + 2) = (pl : Int) + 2 := w64 (by omega) (by omega)
   have ew3 : wrap64 (qi * ((pl : Int) + 2)) = qx := by rw [HQ.out]; exact w64 (by omega) (by omega)
   go_wp2_with (fail)
   go_roundw
   case measure => simp [intOf]; omega
   case rel => exact ⟨i + 1, _, _, hlt, by go_num, by rw [HQX.out, ew3], HB, BG, BX, ⟨by rw [← HXS.out]; exact HP.out⟩, ⟨by rw [← HYS.out]; exact HN.out⟩⟩
  ·have d13 : decide ((i : Int) < (l1.length : Int)) = false := decide_eq_false (by omega)
   have hie : i = l1.length := by omega
   subst hie
   have HP1 : Aside0 (Kd.R (Kd.int .i64) 3 wr W.heap.size (fun k => k < wr.heap.size) vp (lensP l1)) := ⟨by
    have h9 := Kd.R_mono (Kd.R_bound HP.out) (fun k hk => hk.2.2.1)
    rw [List.take_of_length_le (by rw [lensP_len]; exact Nat.le_refl _)] at h9
    exact h9⟩
   have HN2 : Aside0 (Kd.R (Kd.int .i64) 3 wr W.heap.size (fun k => k < wr.heap.size) vn l2) := ⟨by
    have h9 := Kd.R_mono (Kd.R_bound HN.out) (fun k hk => hk.2.2.1)
    rw [List.take_of_length_le (by rw [HN1.out]; exact Nat.le_refl _)] at h9
    exact h9⟩
   have hM0 := szP_pos l1 l1.length
   have hM1 := szP_small HW.out (n := l1.length) (Nat.le_refl _)
   clear HP HN BX
   generalize hMM : szP l1 l1.length = M at *
   have HMM := Aside0.mk hMM
   clear hMM
   have pn : (0 : Int) ≤ (M : Int) := by omega
   generalize hwA : wr = wA at *
   clear hwA
   go_wp2_with (first
    | ((with_reducible refine gate_dst (N := 52) rfl ?_); refine Kd.R_make (Kd.int .i64) _ 3 rfl (N := 52) rfl 22 _ _ rfl (M : Int) rfl rfl Tryd.underlying22 (.int .i64 0) 8 info3 rfl (by decide) (by omega) 0 (ok := fun k => wA.heap.size ≤ k) (okp := fun _ => False) rfl (fun _ hk => hk.elim) (Nat.le_refl _) pn (by rw [Int.toNat_natCast]; omega) (Below.refl _ _) (Nat.le_refl _) ?_; intro vC w3 ho hb hg hnew; rw [Int.toNat_natCast] at ho; obtain ⟨gc, cc, ec, gcb, gcl, ccl, HGC⟩ := Kd.R_form ho (by rw [List.length_replicate]; exact hM0); rw [List.length_replicate] at ec; subst ec; have HGCB := Aside0.mk gcb; have HC := Aside0.mk (own_only (Kd.R_lower ho (below_size HB.out))); have HP_ := Aside0.mk (Kd.R_below HP1.out hb); have HN_ := Aside0.mk (Kd.R_below HN2.out hb); have BG_ := Aside0.mk (blk_below BG.out hb); have HB_ := Aside0.mk (below_step HB.out hb); have HS3 := Aside0.mk hb.size; clear HP1 HN2 BG HB ho hb hg hnew gcl HGC; have HP1 := HP_; have HN2 := HN_; have BG := BG_; have HB := HB_; clear HP_ HN_ BG_ HB_; have s52 : w3.cell? ⟨gt, 2, none⟩ = some (.slice none 0 0) := (blk_cell BG.out 2).trans rfl; have f52 := blk_frozen BG.out 2)
    | ((with_reducible refine gate_store (t := 22) (p := 54) rfl ?_); refine store_event (t := 22) (p := 54) (v := .tmp 52) (w1 := w3.setCell ⟨gt, 2, none⟩ (.slice (some ⟨gc, 0, none⟩) M cc)) rfl rfl rfl ?hr ?_; (case hr => first | (go_simp; done) | (go_simp; rfl)); intro w4 hw4; have HP_ := Aside0.mk (show Kd.R (Kd.int .i64) 3 w4 W.heap.size (fun k => k < wA.heap.size) vp (lensP l1) from by rw [hw4]; exact row_far HP1.out BG.out (by decide) _ _); have HN_ := Aside0.mk (show Kd.R (Kd.int .i64) 3 w4 W.heap.size (fun k => k < wA.heap.size) vn l2 from by rw [hw4]; exact row_far HN2.out BG.out (by decide) _ _); have HC_ := Aside0.mk (show Kd.R (Kd.int .i64) 3 w4 W.heap.size (fun k => k = gc) (.slice (some ⟨gc, 0, none⟩) M cc) (List.replicate M 0) from by rw [hw4]; exact row_far HC.out BG.out (by decide) _ _); have BG_ := Aside0.mk (show w4.heap[gt]? = some (.cells #[vp, vn, .slice (some ⟨gc, 0, none⟩) M cc, .slice none 0 0] 94 (0, 0)) from by rw [hw4]; exact blk_put BG.out 2 _ rfl); have HB_ := Aside0.mk (show Below W.heap.size W w4 from by rw [hw4]; exact below_set HB.out GE.out); have HS4 := Aside0.mk (show w3.heap.size ≤ w4.heap.size from by rw [hw4]; simp); clear HP1 HN2 HC BG HB hw4 s52 f52; have HP1 := HP_; have HN2 := HN_; have HC := HC_; have BG := BG_; have HB := HB_; clear HP_ HN_ HC_ BG_ HB_)
    | ((with_reducible refine gate_dst (N := 57) rfl ?_); refine Kd.R_make Kd.bool _ 4 rfl (N := 57) rfl 92 _ _ rfl (M : Int) rfl rfl Tryd.underlying92 (.bool false) 1 info4 rfl (by decide) (by omega) false (ok := fun k => w4.heap.size ≤ k) (okp := fun _ => False) rfl (fun _ hk => hk.elim) (Nat.le_refl _) pn (by rw [Int.toNat_natCast]; omega) (Below.refl _ _) (Nat.le_refl _) ?_; intro vD w5 ho hb hg hnew; rw [Int.toNat_natCast] at ho; obtain ⟨gm, cm, em, gmb, gml, cml, HGM⟩ := Kd.R_form ho (by rw [List.length_replicate]; exact hM0); rw [List.length_replicate] at em; subst em; have HGMB := Aside0.mk gmb; have HD := Aside0.mk (own_only (Kd.R_lower ho (below_size HB.out))); have HP_ := Aside0.mk (Kd.R_below HP1.out hb); have HN_ := Aside0.mk (Kd.R_below HN2.out hb); have HC_ := Aside0.mk (Kd.R_below HC.out hb); have BG_ := Aside0.mk (blk_below BG.out hb); have HB_ := Aside0.mk (below_step HB.out hb); clear HP1 HN2 HC BG HB ho hb hg hnew gml HGM; have HP1 := HP_; have HN2 := HN_; have HC := HC_; have BG := BG_; have HB := HB_; clear HP_ HN_ HC_ BG_ HB_; have s57 : w5.cell? ⟨gt, 3, none⟩ = some (.slice none 0 0) := (blk_cell BG.out 3).trans rfl; have f57 := blk_frozen BG.out 3)
    | ((with_reducible refine gate_store (t := 92) (p := 59) rfl ?_); refine store_event (t := 92) (p := 59) (v := .tmp 57) (w1 := w5.setCell ⟨gt, 3, none⟩ (.slice (some ⟨gm, 0, none⟩) M cm)) rfl rfl rfl ?hr ?_; (case hr => first | (go_simp; done) | (go_simp; rfl)); intro w6 hw6; have HP_ := Aside0.mk (show Kd.R (Kd.int .i64) 3 w6 W.heap.size (fun k => k < wA.heap.size) vp (lensP l1) from by rw [hw6]; exact row_far HP1.out BG.out (by decide) _ _); have HN_ := Aside0.mk (show Kd.R (Kd.int .i64) 3 w6 W.heap.size (fun k => k < wA.heap.size) vn l2 from by rw [hw6]; exact row_far HN2.out BG.out (by decide) _ _); have HC_ := Aside0.mk (show Kd.R (Kd.int .i64) 3 w6 W.heap.size (fun k => k = gc) (.slice (some ⟨gc, 0, none⟩) M cc) (List.replicate M 0) from by rw [hw6]; exact row_far HC.out BG.out (by decide) _ _); have HD_ := Aside0.mk (show Kd.R Kd.bool 4 w6 W.heap.size (fun k => k = gm) (.slice (some ⟨gm, 0, none⟩) M cm) (List.replicate M false) from by rw [hw6]; exact row_far HD.out BG.out (by decide) _ _); have BG_ := Aside0.mk (show w6.heap[gt]? = some (.cells #[vp, vn, .slice (some ⟨gc, 0, none⟩) M cc, .slice (some ⟨gm, 0, none⟩) M cm] 94 (0, 0)) from by rw [hw6]; exact blk_put BG.out 3 _ rfl); have HB_ := Aside0.mk (show Below W.heap.size W w6 from by rw [hw6]; exact below_set HB.out GE.out); clear HP1 HN2 HC HD BG HB hw6 s57 f57; have HP1 := HP_; have HN2 := HN_; have HC := HC_; have HD := HD_; have BG := BG_; have HB := HB_; clear HP_ HN_ HC_ HD_ BG_ HB_))
   go_ret
   rw [HMM.out]
   refine ⟨gt, gc, gm, vp, vn, cc, cm, by simp, ⟨BG.out, HB.out, GE.out, Kd.R_mono HP1.out (fun k hk => ?_), Kd.R_mono HN2.out (fun k hk => ?_), HC.out, HD.out, by simp, by simp⟩⟩
   ·have h8 := HGCB.out; have h9 := HGMB.out; have h7 := HS3.out; have h6 := HS4.out; omega
   ·have h8 := HGCB.out; have h9 := HGMB.out; have h7 := HS3.out; have h6 := HS4.out; omega
end Go.Proofs.YtkcocomehhlpmaaDoor.Sp
