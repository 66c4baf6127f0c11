/- The drawn states of rings, over the walks of the cursor's methods. Walked by hand. -/
import Derived.Test.YtckkppehfpjbpaaFnRingHspecl5state
namespace Go.Proofs.Ytckkppehfpjbpaa.Dr
open Go.RowKit Go.Proofs.YtckkppehfpjbpaaW.PrintWords Go.Proofs.YtckkppehfpjbpaaW.PrintLast Go.Proofs.Ytckkppehfpjbpaa.Q Go.Proofs.Ytckkppehfpjbpaa.Pu Go.Proofs.Ytckkppehfpjbpaa.Sq
set_option linter.unusedVariables false
set_option linter.unusedSimpArgs false
def spec_DrawRing.f (k : Nat) (l0 : List Int) : Option (List Int × List S40 × List Int) := (spec_l5state.f k l0 0 0).bind fun t => some (t.1, t.2.1, t.2.2.1)
theorem R_from {α : Type} {d : Kd α} {e : Nat} {w : World} {base b0 : Nat} {ok : Nat → Prop} {v : Value} {xs : List α} (h : d.R e w base ok v xs) (hb : b0 ≤ base) : d.R e w b0 (fun k => b0 ≤ k ∧ ok k) v xs :=
 Kd.R_lower (Kd.R_mono (Kd.R_bound h) fun k hk => ⟨Nat.le_trans hb hk.2.1, hk.1⟩) hb
theorem N_from {α : Type} {d : Kd α} {e : Nat} {w : World} {base b0 : Nat} {ok : Nat → Prop} {v : Value} {xs : List α} (h : Kd.N d e w base (fun k => base ≤ k ∧ ok k) v xs) (hb : b0 ≤ base) : Kd.N d e w b0 (fun k => b0 ≤ k ∧ base ≤ k ∧ ok k) v xs :=
 Kd.N_lower (Kd.N_mono h fun k hk => ⟨Nat.le_trans hb hk.1, hk⟩) hb
set_option maxHeartbeats 1000000 in
set_option maxRecDepth 100000 in
theorem spec_DrawRing.calls (k : Nat) (A0 : Option Addr) (c0 : Nat) (l0 : List Int) (r1 : List Int) (r2 : List S40) (r3 : List Int) (w : World) (hr0 : Kd.C (Kd.int .u8) w A0 l0.length l0) (hc0 : l0.length ≤ c0)
  (h : spec_DrawRing.f k l0 = some (r1, r2, r3)) :
  Calls Try.prog 18 #[.slice A0 l0.length c0] w fun e w' => ∃ v0_ v1_ v2_ : Value, e = .returned (.agg #[v0_, v1_, v2_]) ∧ Kd.R (Kd.int .i64) 3 w' w.heap.size (fun k_ => some k_ ≠ (v2_ : Value).ownBlock) v0_ r1 ∧ Kd.N k40 40 w' w.heap.size (fun k_ => (w.heap.size ≤ k_) ∧ some k_ ≠ (v0_ : Value).ownBlock ∧ some k_ ≠ (v2_ : Value).ownBlock) v1_ r2 ∧ Kd.R (Kd.int .i64) 3 w' w.heap.size (fun k_ => some k_ ≠ (v0_ : Value).ownBlock) v2_ r3 ∧ Below w.heap.size w w' := by
 have HR0 := Aside0.mk hr0
 obtain ⟨⟨t1, t2, t3, t4, t5⟩, ht, hr⟩ := Option.bind_eq_some_iff.mp h
 simp only [Option.some.injEq, Prod.mk.injEq] at hr
 obtain ⟨rfl, rfl, rfl⟩ := hr
 have HT := Aside0.mk ht
 clear h ht hr0
 have hu30 := Try.underlying30
 go_enter Try.func18, Try.ntmps18
 go_wp2_with (fail)
 have hB := Aside0.mk (((Below.refl w.heap.size w).alloc (Nat.le_refl _) (.cells #[.slice none 0 0, .slice none 0 0, .slice none 0 0] 30)))
 have BR := Aside0.mk (heap_alloc_new w (.cells #[.slice none 0 0, .slice none 0 0, .slice none 0 0] 30))
 have hs : (w.alloc (.cells #[.slice none 0 0, .slice none 0 0, .slice none 0 0] 30)).heap.size = w.heap.size + 1 := by simp
 have hI := IsS58.new w _ A0 c0 l0 0 0 hB.out HR0.out
 rw [hs] at hI
 have hB2 := hB.out.alloc (by omega) (.cells #[.slice A0 l0.length c0, .int .i64 0, .int .u64 0] 58)
 have BR2 : ((w.alloc (.cells #[.slice none 0 0, .slice none 0 0, .slice none 0 0] 30)).alloc (.cells #[.slice A0 l0.length c0, .int .i64 0, .int .u64 0] 58)).heap[w.heap.size]? = some (.cells #[.slice none 0 0, .slice none 0 0, .slice none 0 0] 30 (0, 0)) := blk_alloc BR.out _
 generalize ((w.alloc (.cells #[.slice none 0 0, .slice none 0 0, .slice none 0 0] 30)).alloc (.cells #[.slice A0 l0.length c0, .int .i64 0, .int .u64 0] 58)) = W at *
 refine (spec_l5state.calls k (w.heap.size + 1) l0 0 0 t1 t2 t3 t4 t5 w W hI hB2 HT.out).mono ?_
 rintro e w1 ⟨v0, v1, v2, rfl, ho0, ho1, ho2, hI1, hBw, hK⟩
 have hsz := blk_lt BR2
 have o0 := Aside0.mk (R_from (b0 := w.heap.size + 1) ho0 hsz)
 have o1 := Aside0.mk (N_from (b0 := w.heap.size + 1) ho1 hsz)
 have o2 := Aside0.mk (R_from (b0 := w.heap.size + 1) ho2 hsz)
 have HBW := Aside0.mk hBw
 obtain ⟨D0, d0, rfl⟩ := Kd.R_slice ho0
 obtain ⟨D1, d1, rfl⟩ := Kd.N_slice ho1
 obtain ⟨D2, d2, rfl⟩ := Kd.R_slice ho2
 have BX := Aside0.mk (show w1.heap[w.heap.size]? = _ from (hK.2 w.heap.size (blk_lt BR2) (by omega) (by simp)).trans BR2)
 clear hu30 ho0 ho1 ho2 hI1 hBw hK BR2 hI hB2
 go_wp2_with (first
  | ((with_reducible refine gate_store (t := 30) (p := 2) rfl ?_); (try simp only [Act.put, List.setIfInBounds_toArray, List.set_cons_zero, List.set_cons_succ]); refine row_wr_ rfl 30 (.tmp 2) (.tmp 8) rfl rfl w.heap.size rfl (c' := #[.slice D0 t1.length d0, .slice D1 t2.length d1, .slice D2 t3.length d2]) rfl BX.out infoS rfl (by simp [Value.oneCell']) ?_; intro wE hwE hgE; have BE := Aside0.mk hwE; have HG := Aside0.mk hgE; clear hwE hgE))
 refine bodyPost_ret (results_cell_row rfl _ _ w.heap.size 30 #[.slice D0 t1.length d0, .slice D1 t2.length d1, .slice D2 t3.length d2] (0, 0) _ rfl BE.out Try.underlying30 rfl (by kernel_rfl)) rfl ?_
 have hne : ∀ {ok : Nat → Prop} (k : Nat), (w.heap.size + 1 ≤ k ∧ ok k) → k < w1.heap.size → wE.heap[k]? = w1.heap[k]? := fun k hk hl => HG.out.block k hl (by intro he; injection he with he; omega)
 refine ⟨_, _, _, rfl, Kd.R_lower (Kd.R_mono (Kd.R_step o0.out hne) fun k hk => hk.2.2) (by omega), Kd.N_lower (Kd.N_mono (Kd.N_step o1.out hne) fun k hk => ⟨by have := hk.1; omega, hk.2.2⟩) (by omega), Kd.R_lower (Kd.R_mono (Kd.R_step o2.out hne) fun k hk => hk.2.2) (by omega), pw_below_grown HBW.out _ HBW.out.size HG.out (by simp)⟩
end Go.Proofs.Ytckkppehfpjbpaa.Dr
