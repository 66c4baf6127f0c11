-- Written by programs of this session (wip/drv.py, wip/mkclaim.py) over the kit's print; not trusted: Lean checks it.
import Derived.Test.YtkcocomehhlpmaaDoorFnSpoiltQ0
import Derived.Test.YtkcocomehhlpmaaDoorFnSpoiltQ2
namespace Go.Proofs.YtkcocomehhlpmaaDoor.Q
open Go.RowKit Go.Proofs.YtkcocomehhlpmaaDoorW.PrintWords Go.Proofs.YtkcocomehhlpmaaDoorW.PrintLast Go.Proofs.YtkcocomehhlpmaaDoorW.PrintMore
attribute [local go_sem] max2_int min2_int max_two min_two max_three min_three max_four min_four   -- for this text's walks alone
set_option linter.unusedVariables false
set_option linter.unusedSimpArgs false

/-! ### spec_l1step: function 58 -/
def spec_l1step.f (k : Nat) (l0_0 : List Int) (l0_1 : List (S48)) (l0_2 : List Int) (a1 : Int) : Option (List Int × (List (S48)) × List Int) := (spec_l1copy.f k l0_0 l0_1 l0_2).bind fun bt199 => (if 0 ≤ a1 then (if a1 < (bt199.2.1.length : Int) then (if (((rd_T48 bt199.2.1 a1).f1).length : Int) > 0 then (if 0 < (((rd_T48 bt199.2.1 a1).f1).length : Int) then ((some (bt199.2.1.set (a1 : Int).toNat (⟨rd ((rd_T48 bt199.2.1 a1).f1) 0, (rd_T48 bt199.2.1 a1).f1, (rd_T48 bt199.2.1 a1).f2⟩ : S48) : List (S48))).bind fun y212 => (if 1 ≤ (((rd_T48 y212 a1).f1).length : Int) then (some (bt199.1, (y212.set (a1 : Int).toNat (⟨(rd_T48 y212 a1).f0, (((rd_T48 y212 a1).f1).drop 1), (rd_T48 y212 a1).f2⟩ : S48)), bt199.2.2)) else (none))) else (none)) else (if a1 ≤ (bt199.2.1.length : Int) then (if 0 ≤ (wrap64 (a1 + 1)) then (if (wrap64 (a1 + 1)) ≤ (bt199.2.1.length : Int) then (if a1 ≤ (bt199.2.2.length : Int) then (if (wrap64 (a1 + 1)) ≤ (bt199.2.2.length : Int) then (some (bt199.1, (bt199.2.1.eraseIdx (a1 : Int).toNat), (bt199.2.2.eraseIdx (a1 : Int).toNat))) else (none)) else (none)) else (none)) else (none)) else (none))) else (none)) else (none))
theorem spec_l1step.mono : ∀ a0 a1 a2 a3 k, LeO (spec_l1step.f k a0 a1 a2 a3) (spec_l1step.f (k + 1) a0 a1 a2 a3) := by
 intro a0 a1 a2 a3 k
 unfold spec_l1step.f
 repeat' with_reducible first | exact spec_l1copy.mono _ _ _ _ | exact LeO.refl _ | exact LeO.none _ | refine LeO.ite ?_ ?_ | refine LeO.bind ?_ (fun _ => ?_)
set_option maxHeartbeats 1000000 in
set_option maxRecDepth 100000 in
theorem spec_l1step.calls (k : Nat) (A0_0 : Option Addr) (c0_0 : Nat) (l0_0 : List Int) (A0_1 : Option Addr) (c0_1 : Nat) (l0_1 : List (S48)) (A0_2 : Option Addr) (c0_2 : Nat) (l0_2 : List Int) (a1 : Int) (r1 : List Int) (r2 : List (S48)) (r3 : List Int) (w : World) (hr0_0 : Kd.C (Kd.int .i64) w A0_0 l0_0.length l0_0) (hc0_0 : l0_0.length ≤ c0_0) (hr0_1 : Kd.C k48 w A0_1 l0_1.length l0_1) (hc0_1 : l0_1.length ≤ c0_1) (hr0_2 : Kd.C (Kd.int .i64) w A0_2 l0_2.length l0_2) (hc0_2 : l0_2.length ≤ c0_2) (h : spec_l1step.f k l0_0 l0_1 l0_2 a1 = some (r1, r2, r3)) :
 Calls Tryd.prog 58 #[.agg #[.slice A0_0 l0_0.length c0_0, .slice A0_1 l0_1.length c0_1, .slice A0_2 l0_2.length c0_2], .int .i64 a1] w fun e w' => ∃ v0_ v1_ v2_ : Value, e = .returned (.agg #[v0_, v1_, v2_]) ∧ Kd.R (Kd.int .i64) 3 w' w.heap.size (fun k_ => (w.heap.size ≤ k_) ∧ X_ k_ v2_) v0_ r1 ∧ Kd.N k48 48 w' w.heap.size (fun k_ => (w.heap.size ≤ k_) ∧ X_ k_ v0_ ∧ X_ k_ v2_) v1_ r2 ∧ Kd.R (Kd.int .i64) 3 w' w.heap.size (fun k_ => (w.heap.size ≤ k_) ∧ X_ k_ v0_) v2_ r3 ∧ Below w.heap.size w w' := by
 have HR0 := K_ hr0_0
 have HR1 := K_ hr0_1
 have HR2 := K_ hr0_2
 obtain ⟨⟨t1, t2, t3⟩, ht, hr⟩ := Option.bind_eq_some_iff.mp h
 have HT := K_ ht
 dsimp only at hr
 clear h ht hr0_0 hr0_1 hr0_2
 by_cases ha : 0 ≤ a1
 rotate_left
 ·rw [if_neg ha] at hr; exact absurd hr (by simp)
 rw [if_pos ha] at hr
 obtain ⟨i, rfl⟩ := Int.eq_ofNat_of_zero_le ha
 by_cases hi : (i : Int) < (t2.length : Int)
 rotate_left
 ·rw [if_neg hi] at hr; exact absurd hr (by simp)
 rw [if_pos hi] at hr
 rw [show rd_T48 t2 (i : Int) = t2.getD i z48 from by unfold rd_T48; simp] at hr
 have HRR := K_ hr
 clear hr
 have hu26 := Tryd.underlying30
 have hu48 := Tryd.underlying48
 have hB := K_ (((Below.refl w.heap.size w).alloc (Nat.le_refl _) (.cells #[.slice A0_0 l0_0.length c0_0, .slice A0_1 l0_1.length c0_1, .slice A0_2 l0_2.length c0_2] 30)))
 have BR := K_ (heap_alloc_new w (.cells #[.slice A0_0 l0_0.length c0_0, .slice A0_1 l0_1.length c0_1, .slice A0_2 l0_2.length c0_2] 30))
 have hs : (w.alloc (.cells #[.slice A0_0 l0_0.length c0_0, .slice A0_1 l0_1.length c0_1, .slice A0_2 l0_2.length c0_2] 30)).heap.size = w.heap.size + 1 := by simp
 go_enter Tryd.func58, Tryd.ntmps58
 go_wp2_with (fail)
 have hB2 := K_ (hB.out.alloc (by omega) (.cells #[.slice none 0 0, .slice none 0 0, .slice none 0 0] 30))
 have BN := K_ (heap_alloc_new (w.alloc (.cells #[.slice A0_0 l0_0.length c0_0, .slice A0_1 l0_1.length c0_1, .slice A0_2 l0_2.length c0_2] 30)) (.cells #[.slice none 0 0, .slice none 0 0, .slice none 0 0] 30))
 rw [hs] at BN
 generalize ((w.alloc (.cells #[.slice A0_0 l0_0.length c0_0, .slice A0_1 l0_1.length c0_1, .slice A0_2 l0_2.length c0_2] 30)).alloc (.cells #[.slice none 0 0, .slice none 0 0, .slice none 0 0] 30)) = W at *
 refine (spec_l1copy.calls k _ _ l0_0 _ _ l0_1 _ _ l0_2 t1 t2 t3 W (Kd.C_below HR0.out hB2.out) hc0_0 (Kd.C_below HR1.out hB2.out) hc0_1 (Kd.C_below HR2.out hB2.out) hc0_2 HT.out).mono ?_
 rintro e w1 ⟨v0, v1, v2, rfl, ho0, ho1, ho2, hb⟩
 obtain ⟨B0, d0, rfl⟩ := Kd.R_slice ho0
 obtain ⟨B2, d2, rfl⟩ := Kd.R_slice ho2
 obtain ⟨gT, d1, rfl, hgT1, hgT2, hgT3⟩ := Kd.S_form ho1 (by omega)
 have e5 : (w1.alloc (.cells #[.slice none 0 0, .slice none 0 0, .slice none 0 0] 30)).heap.size = w1.heap.size + 1 := by simp
 have b1 : Below w.heap.size w w1 := below_step hB2.out hb
 have cN := blk_lt BN.out
 have BN1 := K_ (blk_below BN.out hb)
 have BO1 := K_ (heap_alloc_new w1 (.cells #[.slice none 0 0, .slice none 0 0, .slice none 0 0] 30))
 have HB1 := K_ (b1.alloc b1.size (.cells #[.slice none 0 0, .slice none 0 0, .slice none 0 0] 30))
 have hW := hb.size
 have P0 := K_ (Kd.R_bound ho0)
 have P1 := K_ (Kd.S_N (Kd.S_bound ho1))
 have P1s := K_ (Kd.S_bound ho1)
 have P2 := K_ (Kd.R_bound ho2)
 obtain ⟨cs, hcl, hM, hcc, hfr⟩ := Kd.N_elem P1.out z48 (i : Int) (by omega) (by omega)
 rw [Int.toNat_natCast] at hM hcc hfr
 generalize hx : t2.getD i z48 = x at hM HRR
 obtain ⟨Ap, cp, rfl, hle, hF⟩ := k48_openF hM
 have hp1 : w1.cell? ⟨gT, i * 3 + 1, none⟩ = some (.slice Ap x.f1.length cp) := hcc 1 _ rfl
 have HCC := K_ hcc
 have HFR := K_ hfr
 have HF := K_ hF
 have HX := K_ hx
 clear hM hF hcc hfr hx ho0 ho1 ho2 hb b1 hB hB2 BN BR hs
 have hrr := HRR.out
 clear HRR
 by_cases c0 : (x.f1.length : Int) > 0
 case pos =>
  rw [if_pos c0, if_pos (by omega), Option.bind_some] at hrr
  have eS : rd_T48 (t2.set (↑i : Int).toNat ⟨rd x.f1 0, x.f1, x.f2⟩) (↑i : Int) = ⟨rd x.f1 0, x.f1, x.f2⟩ := by unfold rd_T48; rw [Int.toNat_natCast, List.getD_eq_getElem?_getD, List.getElem?_set_self (by omega)]; rfl
  rw [eS] at hrr
  dsimp only at hrr
  rw [if_pos (by omega), List.set_set, Int.toNat_natCast, Option.some.injEq, Prod.mk.injEq, Prod.mk.injEq] at hrr
  obtain ⟨rfl, rfl, rfl⟩ := hrr
  clear eS
  have d15 : decide ((x.f1.length : Int) > 0) = true := decide_eq_true c0
  obtain ⟨adP, cP, pe, _, _, _, hPk⟩ := Kd.F_get HF.out 0 0 (by omega) c0
  subst pe
  have hPg : adP.block ≠ gT := (hPk (by decide)).2
  obtain ⟨_, pe, hp0⟩ := Kd.at_int (Kd.F_now HF.out) 0 (by omega) c0
  injection pe with pe
  subst pe
  clear hPk
  have hp0 : w1.cell? adP = some (.int .i64 (rd x.f1 0)) := by simpa [Addr.add] using hp0
  have p0 : (0 : Int) ≤ (i : Int) := by omega
  go_wp2_with (first
   | ((with_reducible refine gate_store (t := 30) (p := 5) rfl ?_); (try simp only [P_]); refine spec_l1copy.row_wr_ rfl 30 (.tmp 5) (.tmp 7) rfl rfl w1.heap.size rfl (c' := #[.slice B0 t1.length d0, .slice (some ⟨gT, 0, none⟩) t2.length d1, .slice B2 t3.length d2]) rfl BO1.out spec_l1copy.info26_ rfl (by simp [Value.oneCell']) ?_; intro w2 h2 g2; have BO := K_ h2; have HG := K_ g2; have HE := K_ (fun k (hk : k < w1.heap.size) => (HG.out.block k (by rw [e5]; omega) (by intro e; injection e with e; omega)).trans (Below.heap_alloc w1 _ k hk)); have z1 : w2.cell? ⟨w1.heap.size, 1, none⟩ = some (.slice (some ⟨gT, 0, none⟩) t2.length d1) := (blk_cell h2 1).trans rfl; have z2 := Kd.cell_heap HE.out hp1; have z3 := Kd.cell_heap HE.out hp0; clear h2 g2))
  have z4 : w2.cell? ⟨gT, i * 3, none⟩ = some (.int .i64 x.f0) := Kd.cell_heap HE.out (HCC.out 0 _ rfl)
  have f4 : w2.frozen? ⟨gT, i * 3, none⟩ = false := (show w2.frozen? ⟨gT, i * 3, none⟩ = w1.frozen? ⟨gT, i * 3, none⟩ from by unfold World.frozen?; rw [HE.out gT hgT2]).trans (HFR.out 0)
  have hO : w1.heap.size ≠ gT := by omega
  go_region_held3 (fun w' => w'.cell? ⟨w1.heap.size, 1, none⟩ = some (.slice (some ⟨gT, 0, none⟩) t2.length d1) ∧ w'.cell? ⟨gT, i * 3 + 1, none⟩ = some (.slice (some adP) x.f1.length cp) ∧ w'.cell? adP = some (.int .i64 (rd x.f1 0))) (first | exact ⟨z1, z2, z3⟩ | exact ⟨(World.cell?_setCell_far _ _ _ _ (Ne.symm hO)).trans z1, (World.cell?_setCell_other _ _ _ _ (by simp)).trans z2, (World.cell?_setCell_far _ _ _ _ (Ne.symm hPg)).trans z3⟩) (fail)
  go_wp2_with (fail)
  have y1 : (w2.setCell ⟨gT, i * 3, none⟩ (.int .i64 (rd x.f1 0))).drew.cell? ⟨w1.heap.size, 1, none⟩ = _ := (World.cell?_setCell_far _ _ _ _ (Ne.symm hO)).trans z1
  have y2 : (w2.setCell ⟨gT, i * 3, none⟩ (.int .i64 (rd x.f1 0))).drew.cell? ⟨gT, i * 3 + 1, none⟩ = _ := (World.cell?_setCell_other _ _ _ _ (by simp)).trans z2
  have y4 : (w2.setCell ⟨gT, i * 3, none⟩ (.int .i64 (rd x.f1 0))).drew.frozen? ⟨gT, i * 3 + 1, none⟩ = false := by have h9 := (show w2.frozen? ⟨gT, i * 3 + 1, none⟩ = w1.frozen? ⟨gT, i * 3 + 1, none⟩ from by unfold World.frozen?; rw [HE.out gT hgT2]).trans (HFR.out 1); go_simp
  generalize hw3 : (w2.setCell ⟨gT, i * 3, none⟩ (.int .i64 (rd x.f1 0))).drew = w3 at *
  have HW3 := K_ hw3
  clear hw3 z1 z2 z3 z4 f4
  have q1 : (1 : Int) ≤ (x.f1.length : Int) := by omega
  have q2 : (x.f1.length : Int) ≤ (cp : Int) := by omega
  obtain ⟨A', hA⟩ : ∃ A' : Option Addr, A' = if cp = 1 then some adP else (some adP).map (·.add (1 * 1)) := ⟨_, rfl⟩
  have HA := K_ hA
  clear hA
  refine start_ (n := 13) (S := fun w' => w'.cell? ⟨w1.heap.size, 1, none⟩ = some (.slice (some ⟨gT, 0, none⟩) t2.length d1) ∧ w'.cell? ⟨gT, i * 3 + 1, none⟩ = some (.slice (some adP) x.f1.length cp)) (ds := [12]) (Array.replicate 13 false) (by kernel_rfl) rfl rfl ⟨y1, y2⟩ (fun hS => ?_)
  refine spec_l1copy.np_ 0 29 rfl rfl (by kernel_rfl) (fun _ _ _ h => h) (by rfl) (fun w' => by go_simp; with_reducible rfl) (by simp only [spec_l1copy.AP_, i64_w]; rfl) ?_
  refine spec_l1copy.nt_ hS 1 30 rfl rfl (by kernel_rfl) (fun _ _ _ h => h) (by rfl) (fun w' ⟨s0, s1⟩ => by go_simp; with_reducible rfl) (by simp only [spec_l1copy.AP_, i64_w]; rfl) ?_
  refine spec_l1copy.np_ 2 31 rfl rfl (by kernel_rfl) (fun _ _ _ h => h) (by rfl) (fun w' => by go_simp; with_reducible rfl) (by simp only [spec_l1copy.AP_, i64_w]; rfl) ?_
  refine spec_l1copy.np_ 3 32 rfl rfl (by kernel_rfl) (fun _ _ _ h => h) (by rfl) (fun w' => by go_simp; with_reducible rfl) (by simp only [spec_l1copy.AP_, i64_w]; rfl) ?_
  refine spec_l1copy.nt_ hS 4 33 rfl rfl (by kernel_rfl) (fun _ _ _ h => h) (by rfl) (fun w' ⟨s0, s1⟩ => by go_simp; with_reducible rfl) (by simp only [spec_l1copy.AP_, i64_w]; rfl) ?_
  refine spec_l1copy.np_ 5 34 rfl rfl (by kernel_rfl) (fun _ _ _ h => h) (by rfl) (fun w' => by go_simp; with_reducible rfl) (by simp only [spec_l1copy.AP_, i64_w]; rfl) ?_
  refine spec_l1copy.np_ 6 35 rfl rfl (by kernel_rfl) (fun _ _ _ h => h) (by rfl) (fun w' => by go_simp; with_reducible rfl) (by simp only [spec_l1copy.AP_, i64_w]; rfl) ?_
  refine spec_l1copy.np_ 7 36 rfl rfl (by kernel_rfl) (fun _ _ _ h => h) (by rfl) (fun w' => by go_simp; with_reducible rfl) (by simp only [spec_l1copy.AP_, i64_w]; rfl) ?_
  refine spec_l1copy.nt_ hS 8 37 rfl rfl (by kernel_rfl) (fun _ _ _ h => h) (by rfl) (fun w' ⟨s0, s1⟩ => by go_simp; with_reducible rfl) (by simp only [spec_l1copy.AP_, i64_w]; rfl) ?_
  refine spec_l1copy.np_ 9 38 (v := .slice A' (x.f1.length - 1) (cp - 1)) rfl rfl (by kernel_rfl) (fun _ _ _ h => h) (by rfl) (fun w' => by go_simp; rw [HA.out]; simp [Addr.add]) (by simp only [spec_l1copy.AP_, i64_w]; rfl) ?_
  refine spec_l1copy.np_ 10 39 rfl rfl (by kernel_rfl) (fun _ _ _ h => h) (by rfl) (fun w' => by go_simp; with_reducible rfl) (by simp only [spec_l1copy.AP_, i64_w]; rfl) ?_
  refine spec_l1copy.np_ 11 40 rfl rfl (by kernel_rfl) (fun _ _ _ h => h) (by rfl) (fun w' => by go_simp; with_reducible rfl) (by simp only [spec_l1copy.AP_, i64_w]; rfl) ?_
  refine spec_l1copy.nl_ 12 (w3.drew.setCell ⟨gT, i * 3 + 1, none⟩ (.slice A' (x.f1.length - 1) (cp - 1))) rfl rfl (by kernel_rfl) (by decide) (by rfl) (by kernel_rfl) (by go_simp) ?_
  have hk3 : ∀ k, k < w1.heap.size → k ≠ gT → w3.heap[k]? = w1.heap[k]? := fun k hk hn => by rw [← HW3.out]; exact (Below.heap_setCell w2 ⟨gT, i * 3, none⟩ _ k hn).trans (HE.out k hk)
  have hk3' : ∀ k, k ≠ gT → w3.heap[k]? = w2.heap[k]? := fun k hn => by rw [← HW3.out]; exact Below.heap_setCell w2 ⟨gT, i * 3, none⟩ _ k hn
  have n2 := Kd.N_step P1.out (w1 := w2) (fun k hk hlt => HE.out k hlt)
  have F2 := Kd.F_step HF.out (W1 := w2) (fun k hk hlt => HE.out k hlt)
  have F3 := Kd.F_step HF.out (W1 := w3) (fun k hk hlt => hk3 k hlt hk.2)
  have n3 := Kd.N_drew (Kd.N_seg n2 (i : Int) (by omega) hi (c := [.int .i64 x.f0, .slice (some adP) x.f1.length cp, .int .i64 x.f2]) (seg := [.int .i64 (rd x.f1 0)]) (j := 0) rfl (fun j u hu => Kd.cell_heap HE.out (HCC.out j u hu)) (show 0 + 1 ≤ 3 by omega) (x' := ⟨rd x.f1 0, x.f1, x.f2⟩) (k48_mkF w2 _ ⟨rd x.f1 0, x.f1, x.f2⟩ hle F2) (fun _ hk => hk)).1
  replace n3 : Kd.N k48 48 w3 _ _ _ _ := HW3.out ▸ n3
  obtain ⟨c3, hc3, hM3, hcc3, _⟩ := Kd.N_elem n3 z48 (i : Int) (by omega) (by omega)
  rw [show (t2.set (i : Int).toNat ⟨rd x.f1 0, x.f1, x.f2⟩).getD (i : Int).toNat z48 = ⟨rd x.f1 0, x.f1, x.f2⟩ from by rw [Int.toNat_natCast, List.getD_eq_getElem?_getD, List.getElem?_set_self (by omega)]; rfl] at hM3
  obtain ⟨A3, c3', rfl, _, _⟩ := k48_openF hM3
  have F5 := Kd.F_cut (m := 1) (c := cp) (Kd.F_drew F3) (by omega) hle
  replace F5 : Kd.F (Kd.int .i64) w3.drew _ A' (x.f1.drop 1).length (x.f1.drop 1) := HA.out ▸ F5
  have e1 : x.f1.length - 1 = (x.f1.drop 1).length := by rw [List.length_drop]
  rw [e1]
  have n5 := (Kd.N_seg (Kd.N_drew n3) (i : Int) (by omega) hi (seg := [.slice A' (x.f1.drop 1).length (cp - 1)]) (j := 1) hc3 hcc3 (show 1 + 1 ≤ 3 by omega) (x' := ⟨rd x.f1 0, x.f1.drop 1, x.f2⟩) (k48_mkF w3.drew _ ⟨rd x.f1 0, x.f1.drop 1, x.f2⟩ (by rw [← e1]; omega) F5) (fun _ hk => hk)).1
  rw [List.set_set] at n5
  have hk5 : ∀ k, k < w1.heap.size → k ≠ gT → (w3.drew.setCell ⟨gT, i * 3 + 1, none⟩ (.slice A' (x.f1.drop 1).length (cp - 1))).heap[k]? = w1.heap[k]? := fun k hk hn => (Below.heap_setCell w3.drew ⟨gT, i * 3 + 1, none⟩ _ k hn).trans (hk3 k hk hn)
  have BO5 : (w3.drew.setCell ⟨gT, i * 3 + 1, none⟩ (.slice A' (x.f1.drop 1).length (cp - 1))).heap[w1.heap.size]? = _ := (Below.heap_setCell w3.drew ⟨gT, i * 3 + 1, none⟩ _ _ hO).trans ((hk3' _ hO).trans BO.out)
  have HB3 : Below w.heap.size w w3 := by rw [← HW3.out]; exact below_drew ((pw_below_grown HB1.out _ HB1.out.size HG.out (by intro k hk; injection hk with hk; omega)).setCell (show w.heap.size ≤ gT by omega) _)
  have HB5 : Below w.heap.size w (w3.drew.setCell ⟨gT, i * 3 + 1, none⟩ (.slice A' (x.f1.drop 1).length (cp - 1))) := (below_drew HB3).setCell (show w.heap.size ≤ gT by omega) _
  replace n5 : Kd.N k48 48 (w3.drew.setCell ⟨gT, i * 3 + 1, none⟩ (.slice A' (x.f1.drop 1).length (cp - 1))) _ _ _ _ := n5
  generalize (w3.drew.setCell ⟨gT, i * 3 + 1, none⟩ (.slice A' (x.f1.drop 1).length (cp - 1))) = w5 at *
  have hg := (P1.out.1 gT rfl).1
  have hWl : w.heap.size ≤ W.heap.size := by omega
  have Z0 := K_ (Kd.R_step (Kd.R_tight rfl P0.out) (w1 := w5) (fun k hk hlt => hk5 k hlt (fun e => hg.1 (e ▸ hk))))
  have Z2 := K_ (Kd.R_step (Kd.R_tight rfl P2.out) (w1 := w5) (fun k hk hlt => hk5 k hlt (fun e => hg.2 (e ▸ hk))))
  have Z1 := K_ n5
  have BN5 := K_ ((hk5 _ (blk_lt BN1.out) (by omega)).trans BN1.out)
  have ZB := K_ HB5
  have x0 : w5.cell? ⟨w1.heap.size, 0, none⟩ = some (.slice B0 t1.length d0) := (blk_cell BO5 0).trans rfl
  have x1 : w5.cell? ⟨w1.heap.size, 1, none⟩ = some (.slice (some ⟨gT, 0, none⟩) t2.length d1) := (blk_cell BO5 1).trans rfl
  have x2 : w5.cell? ⟨w1.heap.size, 2, none⟩ = some (.slice B2 t3.length d2) := (blk_cell BO5 2).trans rfl
  clear n5 n3 n2 hk3 hk3' HB5 HB3 hk5 F5 F3 F2 hcc3 hc3 e1 BO5 y1 y2 y4 hS BO HG HE hM3
  go_wp2_with (first
   | ((with_reducible refine gate_store (t := 30) (p := 4) rfl ?_); (try simp only [P_]); refine spec_l1copy.row_wr_ rfl 30 (.tmp 4) (.tmp 41) rfl rfl (w.heap.size + 1) rfl (c' := #[.slice B0 t1.length d0, .slice (some ⟨gT, 0, none⟩) t2.length d1, .slice B2 t3.length d2]) rfl BN5.out spec_l1copy.info26_ rfl (by simp [Value.oneCell']) ?_; intro w6 h6 g6; have BR6 := K_ h6; have HG6 := K_ g6; clear h6 g6))
  refine bodyPost_ret (results_cell_row rfl _ _ (w.heap.size + 1) 30 #[.slice B0 t1.length d0, .slice (some ⟨gT, 0, none⟩) t2.length d1, .slice B2 t3.length d2] (0, 0) _ rfl BR6.out hu26 rfl spec_l1copy.info26_) rfl ?_
  have hst : ∀ k, W.heap.size ≤ k → k < w5.heap.size → w6.heap[k]? = w5.heap[k]? := fun k hk hl => HG6.out.block k hl (by intro e; injection e with e; omega)
  refine ⟨_, _, _, rfl, Kd.R_reok rfl (Kd.R_lower (Kd.R_step Z0.out (fun k hk hl => hst k (P0.out.1 k hk.symm).2.1 hl)) hWl) (fun k e => ⟨Nat.le_trans hWl (P0.out.1 k e).2.1, (P0.out.1 k e).1⟩), ?_, Kd.R_reok rfl (Kd.R_lower (Kd.R_step Z2.out (fun k hk hl => hst k (P2.out.1 k hk.symm).2.1 hl)) hWl) (fun k e => ⟨Nat.le_trans hWl (P2.out.1 k e).2.1, (P2.out.1 k e).1⟩), pw_below_grown ZB.out _ ZB.out.size HG6.out (by intro k hk; injection hk with hk; omega)⟩
  have hz := Kd.N_mono (Kd.N_lower (Kd.N_step Z1.out (w1 := w6) (fun k hk hl => hst k hk.2.1 hl)) hWl) (ok' := fun k => w.heap.size ≤ k ∧ some k ≠ (Value.slice B0 t1.length d0).ownBlock ∧ some k ≠ (Value.slice B2 t3.length d2).ownBlock) (fun k hk => ⟨Nat.le_trans hWl hk.2.1, hk.1⟩)
  rw [List.drop_one] at hz
  exact hz
 rw [if_neg c0, if_pos (by omega)] at hrr
 have d15 : decide ((x.f1.length : Int) > 0) = false := decide_eq_false c0
 have hlt := (Kd.S_reads' P1s.out).2.2.2.1
 by_cases c1 : 0 ≤ wrap64 ((i : Int) + 1)
 rotate_left
 ·rw [if_neg c1] at hrr; exact absurd hrr (by simp)
 rw [if_pos c1] at hrr
 have ew : wrap64 ((i : Int) + 1) = ((i + 1 : Nat) : Int) := by unfold wrap64 at c1 ⊢; omega
 by_cases c2 : wrap64 ((i : Int) + 1) ≤ (t2.length : Int)
 rotate_left
 ·rw [if_neg c2] at hrr; exact absurd hrr (by simp)
 rw [if_pos c2] at hrr
 by_cases c3 : (i : Int) ≤ (t3.length : Int)
 rotate_left
 ·rw [if_neg c3] at hrr; exact absurd hrr (by simp)
 rw [if_pos c3] at hrr
 by_cases c4 : wrap64 ((i : Int) + 1) ≤ (t3.length : Int)
 rotate_left
 ·rw [if_neg c4] at hrr; exact absurd hrr (by simp)
 rw [if_pos c4, Option.some.injEq, Prod.mk.injEq, Prod.mk.injEq] at hrr
 obtain ⟨rfl, rfl, rfl⟩ := hrr
 rw [ew] at c2 c4
 have EW := K_ ew
 clear c1 ew
 obtain ⟨gN, dN, eN, _, hN2, _⟩ := Kd.R_form P2.out (by omega)
 injection eN with eN _ eN'
 subst eN eN'
 have p0 : (0 : Int) ≤ (i : Int) := by omega
 have p1 : (i : Int) ≤ (t2.length : Int) := by omega
 have p2 : (t2.length : Int) ≤ (d1 : Int) := by have := (Kd.S_reads' P1s.out).2.1; omega
 have p3 : (t3.length : Int) ≤ (d2 : Int) := by have := (Kd.R_reads' P2.out).2.1; omega
 clear hlt
 go_wp2_with (first
  | ((with_reducible refine gate_store (t := 30) (p := 5) rfl ?_); (try simp only [P_]); refine spec_l1copy.row_wr_ rfl 30 (.tmp 5) (.tmp 7) rfl rfl w1.heap.size rfl (c' := #[.slice B0 t1.length d0, .slice (some ⟨gT, 0, none⟩) t2.length d1, .slice (some ⟨gN, 0, none⟩) t3.length d2]) rfl BO1.out spec_l1copy.info26_ rfl (by simp [Value.oneCell']) ?_; intro w2 h2 g2; have BO := K_ h2; have HG := K_ g2; have HE := K_ (fun k (hk : k < w1.heap.size) => (HG.out.block k (by rw [e5]; omega) (by intro e; injection e with e; omega)).trans (Below.heap_alloc w1 _ k hk)); have z1 : w2.cell? ⟨w1.heap.size, 1, none⟩ = some (.slice (some ⟨gT, 0, none⟩) t2.length d1) := (blk_cell h2 1).trans rfl; have z2 := Kd.cell_heap HE.out hp1; clear h2 g2))
 obtain ⟨A6, hA6⟩ : ∃ A' : Option Addr, A' = if d1 = i + 1 then some ⟨gT, 0, none⟩ else (some (⟨gT, 0, none⟩ : Addr)).map (·.add ((i + 1) * 3)) := ⟨_, rfl⟩
 have HA6 := K_ hA6
 clear hA6 z2
 refine start_ (n := 12) (S := fun w' => w'.cell? ⟨w1.heap.size, 1, none⟩ = some (.slice (some ⟨gT, 0, none⟩) t2.length d1)) (ds := [11]) (Array.replicate 12 false) (by kernel_rfl) rfl rfl z1 (fun hS => ?_)
 refine spec_l1copy.np_ 0 42 rfl rfl (by kernel_rfl) (fun _ _ _ h => h) (by rfl) (fun w' => by go_simp; with_reducible rfl) (by simp only [spec_l1copy.AP_, i64_w]; rfl) ?_
 refine spec_l1copy.nt_ hS 1 43 rfl rfl (by kernel_rfl) (fun _ _ _ h => h) (by rfl) (fun w' s0 => by go_simp; with_reducible rfl) (by simp only [spec_l1copy.AP_, i64_w]; rfl) ?_
 refine spec_l1copy.np_ 2 44 rfl rfl (by kernel_rfl) (fun _ _ _ h => h) (by rfl) (fun w' => by go_simp; with_reducible rfl) (by simp only [spec_l1copy.AP_, i64_w]; rfl) ?_
 refine spec_l1copy.np_ 3 45 (v := .slice (some ⟨gT, 0, none⟩) i d1) rfl rfl (by kernel_rfl) (fun _ _ _ h => h) (by rfl) (fun w' => by go_simp; intro _; exfalso; omega) (by simp only [spec_l1copy.AP_, i64_w]; rfl) ?_
 refine spec_l1copy.np_ 4 46 rfl rfl (by kernel_rfl) (fun _ _ _ h => h) (by rfl) (fun w' => by go_simp; with_reducible rfl) (by simp only [spec_l1copy.AP_, i64_w]; rfl) ?_
 refine spec_l1copy.nt_ hS 5 47 rfl rfl (by kernel_rfl) (fun _ _ _ h => h) (by rfl) (fun w' s0 => by go_simp; with_reducible rfl) (by simp only [spec_l1copy.AP_, i64_w]; rfl) ?_
 refine spec_l1copy.np_ 6 48 rfl rfl (by kernel_rfl) (fun _ _ _ h => h) (by rfl) (fun w' => by go_simp; with_reducible rfl) (by simp only [spec_l1copy.AP_, i64_w]; rfl) ?_
 refine spec_l1copy.np_ 7 49 (v := .int .i64 ((i + 1 : Nat) : Int)) rfl rfl (by kernel_rfl) (fun _ _ _ h => h) (by rfl) (fun w' => by go_simp; rw [i64_w, EW.out]; omega) (by simp only [spec_l1copy.AP_, i64_w]; rfl) ?_
 refine spec_l1copy.np_ 8 50 (v := .slice A6 (t2.length - (i + 1)) (d1 - (i + 1))) rfl rfl (by kernel_rfl) (fun _ _ _ h => h) (by rfl) (fun w' => by go_simp; rw [if_pos (by omega), HA6.out]; simp [Addr.add]) (by simp only [spec_l1copy.AP_, i64_w]; rfl) ?_
 have n2 := Kd.N_lower (Kd.N_drew (Kd.N_step P1.out (w1 := w2) (fun k hk hlt => HE.out k hlt))) (show w.heap.size ≤ W.heap.size by omega)
 have b2 : Below w.heap.size w w2.drew := below_drew (pw_below_grown HB1.out _ HB1.out.size HG.out (by intro k hk; injection hk with hk; omega))
 have ll : w1.heap.size < w2.heap.size := blk_lt BO.out
 refine spec_l1copy.no_ 9 51 rfl rfl (by kernel_rfl) (by decide) (fun K hK => ?_)
 refine Kd.N_delete_step k48 (w0 := w) w.heap.size (by rfl) (.tmp 45) (.tmp 50) 28 48 rfl Tryd.underlying28 (by kernel_rfl) (g := gT) (n := t2.length) (c := d1) (k := i) rfl rfl HA6.out rfl n2 (by omega) b2 b2.size ?_
 intro w4 n4 b4 g4
 have h4 : ∀ k, k ≠ gT → k < w2.heap.size → w4.heap[k]? = w2.heap[k]? := fun k hn hl => g4.block k hl (fun e => hn (by injection e))
 have BO4 := K_ ((h4 _ (by omega) ll).trans BO.out)
 refine hK _ _ ((blk_cell BO4.out 1).trans rfl) (fun hS => norm_ (by show Act.put _ (some 51) _ = _; simp only [spec_l1copy.AP_]; rfl) ?_)
 refine spec_l1copy.np_ 10 52 rfl rfl (by kernel_rfl) (fun _ _ _ h => h) (by rfl) (fun w' => by go_simp; with_reducible rfl) (by simp only [spec_l1copy.AP_, i64_w]; rfl) ?_
 refine spec_l1copy.nl_ 11 (w4.setCell ⟨w1.heap.size, 1, none⟩ (.slice (some ⟨gT, 0, none⟩) (t2.length - 1) d1)) rfl rfl (by kernel_rfl) (by decide) (by rfl) (by kernel_rfl) (by have h9 := blk_frozen BO4.out 1; go_simp) ?_
 go_wp2_with (fail)
 have hg := (P1.out.1 gT rfl).1
 have hNT : gN ≠ gT := fun e => hg.2 (by rw [← e]; rfl)
 have BO5 := K_ (show (w4.setCell ⟨w1.heap.size, 1, none⟩ (.slice (some ⟨gT, 0, none⟩) (t2.length - 1) d1)).heap[w1.heap.size]? = some (.cells #[.slice B0 t1.length d0, .slice (some ⟨gT, 0, none⟩) (t2.length - 1) d1, .slice (some ⟨gN, 0, none⟩) t3.length d2] 30 (0, 0)) from blk_put BO4.out 1 _ rfl)
 have n5 := Kd.N_far (p := ⟨w1.heap.size, 1, none⟩) n4 (fun k hk => by have := hk.2.2.1; show k ≠ w1.heap.size; omega) (.slice (some ⟨gT, 0, none⟩) (t2.length - 1) d1)
 have h5 : ∀ k, k < w1.heap.size → k ≠ gT → (w4.setCell ⟨w1.heap.size, 1, none⟩ (.slice (some ⟨gT, 0, none⟩) (t2.length - 1) d1)).heap[k]? = w1.heap[k]? := fun k hk hn => (Below.heap_setCell w4 ⟨w1.heap.size, 1, none⟩ _ k (by show k ≠ w1.heap.size; omega)).trans ((h4 k hn (by omega)).trans (HE.out k hk))
 have b5 := b4.setCell (p := ⟨w1.heap.size, 1, none⟩) (show w.heap.size ≤ w1.heap.size by omega) (u := .slice (some ⟨gT, 0, none⟩) (t2.length - 1) d1)
 clear n4 h4 BO4 b4 g4 n2 b2 hK K
 generalize w4.setCell ⟨w1.heap.size, 1, none⟩ (.slice (some ⟨gT, 0, none⟩) (t2.length - 1) d1) = w5 at *
 have r5 := Kd.R_lower (Kd.R_drew (Kd.R_step (Kd.R_tight rfl P2.out) (w1 := w5) (fun k hk hlt => h5 k hlt (fun e => hg.2 (e ▸ hk))))) (show w.heap.size ≤ W.heap.size by omega)
 have z5 : w5.cell? ⟨w1.heap.size, 2, none⟩ = some (.slice (some ⟨gN, 0, none⟩) t3.length d2) := (blk_cell BO5.out 2).trans rfl
 have p4 : (i : Int) ≤ (d2 : Int) := by omega
 obtain ⟨A7, hA7⟩ : ∃ A' : Option Addr, A' = if d2 = i + 1 then some ⟨gN, 0, none⟩ else (some (⟨gN, 0, none⟩ : Addr)).map (·.add ((i + 1) * 1)) := ⟨_, rfl⟩
 have HA7 := K_ hA7
 clear hA7
 refine start_ (n := 12) (S := fun w' => w'.cell? ⟨w1.heap.size, 2, none⟩ = some (.slice (some ⟨gN, 0, none⟩) t3.length d2)) (ds := [11]) (Array.replicate 12 false) (by kernel_rfl) rfl rfl z5 (fun hS => ?_)
 refine spec_l1copy.np_ 0 53 rfl rfl (by kernel_rfl) (fun _ _ _ h => h) (by rfl) (fun w' => by go_simp; with_reducible rfl) (by simp only [spec_l1copy.AP_, i64_w]; rfl) ?_
 refine spec_l1copy.nt_ hS 1 54 rfl rfl (by kernel_rfl) (fun _ _ _ h => h) (by rfl) (fun w' s0 => by go_simp; with_reducible rfl) (by simp only [spec_l1copy.AP_, i64_w]; rfl) ?_
 refine spec_l1copy.np_ 2 55 rfl rfl (by kernel_rfl) (fun _ _ _ h => h) (by rfl) (fun w' => by go_simp; with_reducible rfl) (by simp only [spec_l1copy.AP_, i64_w]; rfl) ?_
 refine spec_l1copy.np_ 3 56 (v := .slice (some ⟨gN, 0, none⟩) i d2) rfl rfl (by kernel_rfl) (fun _ _ _ h => h) (by rfl) (fun w' => by go_simp) (by simp only [spec_l1copy.AP_, i64_w]; rfl) ?_
 refine spec_l1copy.np_ 4 57 rfl rfl (by kernel_rfl) (fun _ _ _ h => h) (by rfl) (fun w' => by go_simp; with_reducible rfl) (by simp only [spec_l1copy.AP_, i64_w]; rfl) ?_
 refine spec_l1copy.nt_ hS 5 58 rfl rfl (by kernel_rfl) (fun _ _ _ h => h) (by rfl) (fun w' s0 => by go_simp; with_reducible rfl) (by simp only [spec_l1copy.AP_, i64_w]; rfl) ?_
 refine spec_l1copy.np_ 6 59 rfl rfl (by kernel_rfl) (fun _ _ _ h => h) (by rfl) (fun w' => by go_simp; with_reducible rfl) (by simp only [spec_l1copy.AP_, i64_w]; rfl) ?_
 refine spec_l1copy.np_ 7 60 (v := .int .i64 ((i + 1 : Nat) : Int)) rfl rfl (by kernel_rfl) (fun _ _ _ h => h) (by rfl) (fun w' => by go_simp; rw [i64_w, EW.out]; omega) (by simp only [spec_l1copy.AP_, i64_w]; rfl) ?_
 refine spec_l1copy.np_ 8 61 (v := .slice A7 (t3.length - (i + 1)) (d2 - (i + 1))) rfl rfl (by kernel_rfl) (fun _ _ _ h => h) (by rfl) (fun w' => by go_simp; rw [if_pos (by omega), HA7.out]; simp [Addr.add]) (by simp only [spec_l1copy.AP_, i64_w]; rfl) ?_
 refine spec_l1copy.no_ 9 62 rfl rfl (by kernel_rfl) (by decide) (fun K hK => ?_)
 refine Kd.R_delete_step (Kd.int .i64) (w0 := w) w.heap.size (by rfl) (.tmp 56) (.tmp 61) 22 3 rfl Tryd.underlying22 (by kernel_rfl) (g := gN) (n := t3.length) (c := d2) (k := i) rfl rfl HA7.out rfl r5 (by omega) (below_drew b5) b5.size ?_
 intro w6 r6 b6 g6
 have h6 : ∀ k, k ≠ gN → k < w5.heap.size → w6.heap[k]? = w5.heap[k]? := fun k hn hl => g6.block k hl (fun e => hn (by injection e))
 have BO6 := K_ ((h6 _ (by omega) (blk_lt BO5.out)).trans BO5.out)
 refine hK _ _ ((blk_cell BO6.out 2).trans rfl) (fun hS => norm_ (by show Act.put _ (some 62) _ = _; simp only [spec_l1copy.AP_]; rfl) ?_)
 refine spec_l1copy.np_ 10 63 rfl rfl (by kernel_rfl) (fun _ _ _ h => h) (by rfl) (fun w' => by go_simp; with_reducible rfl) (by simp only [spec_l1copy.AP_, i64_w]; rfl) ?_
 refine spec_l1copy.nl_ 11 (w6.setCell ⟨w1.heap.size, 2, none⟩ (.slice (some ⟨gN, 0, none⟩) (t3.length - 1) d2)) rfl rfl (by kernel_rfl) (by decide) (by rfl) (by kernel_rfl) (by have h9 := blk_frozen BO6.out 2; go_simp) ?_
 have BO7 := K_ (show (w6.setCell ⟨w1.heap.size, 2, none⟩ (.slice (some ⟨gN, 0, none⟩) (t3.length - 1) d2)).heap[w1.heap.size]? = some (.cells #[.slice B0 t1.length d0, .slice (some ⟨gT, 0, none⟩) (t2.length - 1) d1, .slice (some ⟨gN, 0, none⟩) (t3.length - 1) d2] 30 (0, 0)) from blk_put BO6.out 2 _ rfl)
 have h7 : ∀ k, k < w1.heap.size → k ≠ gN → (w6.setCell ⟨w1.heap.size, 2, none⟩ (.slice (some ⟨gN, 0, none⟩) (t3.length - 1) d2)).heap[k]? = w5.heap[k]? := fun k hk hn => (Below.heap_setCell w6 ⟨w1.heap.size, 2, none⟩ _ k (by show k ≠ w1.heap.size; omega)).trans (h6 k hn (Nat.lt_trans hk (blk_lt BO5.out)))
 have hN3 : some gN ≠ (Value.slice B0 t1.length d0).ownBlock := (P2.out.1 gN rfl).1
 have Z0 := K_ (Kd.R_step (Kd.R_tight rfl P0.out) (w1 := w6.setCell ⟨w1.heap.size, 2, none⟩ (.slice (some ⟨gN, 0, none⟩) (t3.length - 1) d2)) (fun k hk hlt => (h7 k hlt (fun e => hN3 (e ▸ hk))).trans (h5 k hlt (fun e => hg.1 (e ▸ hk)))))
 have Z1 := K_ (Kd.N_step (Kd.N_mono n5 (fun k hk => (⟨hk, fun e => hk.1.2 (by rw [e]; rfl)⟩ : _ ∧ k ≠ gN))) (w1 := w6.setCell ⟨w1.heap.size, 2, none⟩ (.slice (some ⟨gN, 0, none⟩) (t3.length - 1) d2)) (fun k hk _ => h7 k hk.1.2.2.1 hk.2))
 have Z2 := K_ (Kd.R_far (p := ⟨w1.heap.size, 2, none⟩) r6 (fun k hk => by have h9 : k = gN := Option.some.inj hk; show k ≠ w1.heap.size; omega) (.slice (some ⟨gN, 0, none⟩) (t3.length - 1) d2))
 have ZB := K_ (b6.setCell (p := ⟨w1.heap.size, 2, none⟩) (show w.heap.size ≤ w1.heap.size by omega) (u := .slice (some ⟨gN, 0, none⟩) (t3.length - 1) d2))
 have BN7 := K_ ((h7 _ (blk_lt BN1.out) (by have := (P2.out.1 gN rfl).2.1; omega)).trans ((h5 _ (blk_lt BN1.out) (by omega)).trans BN1.out))
 clear r6 h6 BO6 b6 g6 r5 hK K h5 n5 b5 h7 z5 hS
 generalize w6.setCell ⟨w1.heap.size, 2, none⟩ (.slice (some ⟨gN, 0, none⟩) (t3.length - 1) d2) = w7 at *
 have x0 : w7.cell? ⟨w1.heap.size, 0, none⟩ = some (.slice B0 t1.length d0) := (blk_cell BO7.out 0).trans rfl
 have x1 : w7.cell? ⟨w1.heap.size, 1, none⟩ = some (.slice (some ⟨gT, 0, none⟩) (t2.length - 1) d1) := (blk_cell BO7.out 1).trans rfl
 have x2 : w7.cell? ⟨w1.heap.size, 2, none⟩ = some (.slice (some ⟨gN, 0, none⟩) (t3.length - 1) d2) := (blk_cell BO7.out 2).trans rfl
 go_wp2_with (first
  | ((with_reducible refine gate_store (t := 30) (p := 4) rfl ?_); (try simp only [P_]); refine spec_l1copy.row_wr_ rfl 30 (.tmp 4) (.tmp 64) rfl rfl (w.heap.size + 1) rfl (c' := #[.slice B0 t1.length d0, .slice (some ⟨gT, 0, none⟩) (t2.length - 1) d1, .slice (some ⟨gN, 0, none⟩) (t3.length - 1) d2]) rfl BN7.out spec_l1copy.info26_ rfl (by simp [Value.oneCell']) ?_; intro w8 h8 g8; have BR8 := K_ h8; have HG8 := K_ g8; clear h8 g8))
 refine bodyPost_ret (results_cell_row rfl _ _ (w.heap.size + 1) 30 #[.slice B0 t1.length d0, .slice (some ⟨gT, 0, none⟩) (t2.length - 1) d1, .slice (some ⟨gN, 0, none⟩) (t3.length - 1) d2] (0, 0) _ rfl BR8.out hu26 rfl spec_l1copy.info26_) rfl ?_
 have hst : ∀ k, W.heap.size ≤ k → k < w7.heap.size → w8.heap[k]? = w7.heap[k]? := fun k hk hl => HG8.out.block k hl (by intro e; injection e with e; omega)
 have hWl : w.heap.size ≤ W.heap.size := by omega
 refine ⟨_, _, _, rfl, Kd.R_reok rfl (Kd.R_lower (Kd.R_step Z0.out (fun k hk hl => hst k (P0.out.1 k hk.symm).2.1 hl)) hWl) (fun k e => ⟨Nat.le_trans hWl (P0.out.1 k e).2.1, (P0.out.1 k e).1⟩), ?_, Kd.R_reok rfl (Kd.R_step Z2.out (fun k hk hl => hst k (P2.out.1 k hk.symm).2.1 hl)) (fun k e => ⟨Nat.le_trans hWl (P2.out.1 k e).2.1, (P2.out.1 k e).1⟩), pw_below_grown ZB.out _ ZB.out.size HG8.out (by intro k hk; injection hk with hk; omega)⟩
 exact Kd.N_mono (Kd.N_step Z1.out (w1 := w8) (fun k hk hl => hst k hk.1.2.1 hl)) (ok' := fun k => w.heap.size ≤ k ∧ some k ≠ (Value.slice B0 t1.length d0).ownBlock ∧ some k ≠ (Value.slice (some ⟨gN, 0, none⟩) (t3.length - 1) d2).ownBlock) (fun k hk => ⟨Nat.le_trans hWl hk.1.2.1, hk.1.1⟩)


end Go.Proofs.YtkcocomehhlpmaaDoor.Q
