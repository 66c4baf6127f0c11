/- The drawn asks, over the walks of the cursor's methods. Walked by hand. -/
import Derived.Test.YtpbclogjoangfaaFnTopQ1
import Derived.Test.YtpbclogjoangfaaFnTopSo1
namespace Go.Proofs.Ytpbclogjoangfaa.St
open Go.RowKit Go.Maps Go.Proofs.YtpbclogjoangfaaW.PrintWords Go.Proofs.YtpbclogjoangfaaW.PrintLast Go.Proofs.Ytpbclogjoangfaa.Q Go.Proofs.Ytpbclogjoangfaa.Pu Go.Proofs.Ytpbclogjoangfaa.Sr Go.Proofs.Ytpbclogjoangfaa.So
set_option linter.unusedVariables false
set_option linter.unusedSimpArgs false
theorem C_still {α : Type} {d : Kd α} {w W : World} {A : Option Addr} {n : Nat} {xs : List α} (hs : w.heap.size ≤ W.heap.size) (hh : ∀ i, i < w.heap.size → W.heap[i]? = w.heap[i]?) (h : d.C w A n xs) : d.C { w with heap := W.heap } A n xs :=
 Kd.C_below h ⟨rfl, rfl, rfl, hs, fun i hi => hh i hi⟩
def spec_Asks.f (k : Nat) (l0_0 : List Int) (l0_1 : List S35) (l0_2 : List Int) (l1 : List Int) : Option (List Int) := (spec_l5Cur_asks.f k l1 0 0 l0_0 l0_1 l0_2).bind fun t => some t.1
set_option maxHeartbeats 1000000 in
set_option maxRecDepth 100000 in
theorem spec_Asks.calls (k : Nat) (A0_0 : Option Addr) (c0_0 : Nat) (l0_0 : List Int) (A0_1 : Option Addr) (c0_1 : Nat) (l0_1 : List S35) (A0_2 : Option Addr) (c0_2 : Nat) (l0_2 : List Int) (A1 : Option Addr) (c1 : Nat) (l1 : List Int) (r : List Int) (w : World) (hr0_0 : Kd.C (Kd.int .i64) w A0_0 l0_0.length l0_0) (hc0_0 : l0_0.length ≤ c0_0) (hr0_1 : Kd.C k35 w A0_1 l0_1.length l0_1) (hc0_1 : l0_1.length ≤ c0_1) (hr0_2 : Kd.C (Kd.int .i64) w A0_2 l0_2.length l0_2) (hc0_2 : l0_2.length ≤ c0_2) (hr1 : Kd.C (Kd.int .u8) w A1 l1.length l1) (hc1 : l1.length ≤ c1)
  (h : spec_Asks.f k l0_0 l0_1 l0_2 l1 = some r) :
  Calls Try.prog 15 #[.agg #[.slice A0_0 l0_0.length c0_0, .slice A0_1 l0_1.length c0_1, .slice A0_2 l0_2.length c0_2], .slice A1 l1.length c1] w fun e w' => ∃ v0_ : Value, e = .returned (v0_) ∧ Kd.R (Kd.int .i64) 3 w' w.heap.size (fun _ => True) v0_ r ∧ Below w.heap.size w w' := by
 have HR0 := Aside0.mk hr0_0
 have HR1 := Aside0.mk hr0_1
 have HR2 := Aside0.mk hr0_2
 have HR3 := Aside0.mk hr1
 obtain ⟨⟨t1, t2, t3⟩, ht, hr⟩ := Option.bind_eq_some_iff.mp h
 simp only [Option.some.injEq] at hr
 subst hr
 have HT := Aside0.mk ht
 clear h ht hr0_0 hr0_1 hr0_2 hr1
 have hu26 := Try.underlying26
 go_enter Try.func15, Try.ntmps15
 have hB := Aside0.mk (((Below.refl w.heap.size w).alloc (Nat.le_refl _) (.cells #[.slice A0_0 l0_0.length c0_0, .slice A0_1 l0_1.length c0_1, .slice A0_2 l0_2.length c0_2] 26)))
 have BR := Aside0.mk (heap_alloc_new w (.cells #[.slice A0_0 l0_0.length c0_0, .slice A0_1 l0_1.length c0_1, .slice A0_2 l0_2.length c0_2] 26))
 have hs : (w.alloc (.cells #[.slice A0_0 l0_0.length c0_0, .slice A0_1 l0_1.length c0_1, .slice A0_2 l0_2.length c0_2] 26)).heap.size = w.heap.size + 1 := by simp
 go_wp2_with (fail)
 have hI := IsS67.new w _ A1 c1 l1 0 0 hB.out HR3.out
 rw [hs] at hI
 have hB2 := hB.out.alloc (by omega) (.cells #[.slice A1 l1.length c1, .int .i64 0, .int .u64 0] 67)
 have BR2 := blk_alloc BR.out (.cells #[.slice A1 l1.length c1, .int .i64 0, .int .u64 0] 67)
 have hq := HT.out
 generalize ((w.alloc (.cells #[.slice A0_0 l0_0.length c0_0, .slice A0_1 l0_1.length c0_1, .slice A0_2 l0_2.length c0_2] 26)).alloc (.cells #[.slice A1 l1.length c1, .int .i64 0, .int .u64 0] 67)) = W at *
 have hsz := blk_lt BR2
 refine (spec_l5Cur_asks.calls k (w.heap.size + 1) l1 0 0 _ _ l0_0 _ _ l0_1 _ _ l0_2 t1 t2 t3 w W hI hB2 (Kd.C_below HR0.out hB2) hc0_0 ?_ ?_ hc0_1 (Kd.C_below HR2.out hB2) hc0_2 ?_ hq).mono ?_
 ·rintro ad rfl hn
  have := Kd.C_lt HR0.out hn (by decide)
  omega
 ·intro W_ hk
  have hc := C_still (w := w) (W := W_) (Nat.le_trans hB2.size hk.1) (fun i hi => (hk.2 i (by omega) (by omega) (by simp)).trans (hB2.block i hi)) HR1.out
  exact hc
 ·rintro ad rfl hn
  have := Kd.C_lt HR2.out hn (by decide)
  omega
 rintro e w1 ⟨v0, rfl, ho, hI1, hBw, hK⟩
 have HO := Aside0.mk ho
 have HBW := Aside0.mk hBw
 clear ho hI1 hBw hK hI hB2 BR2 hq
 go_wp2_with (fail)
 go_ret
 exact ⟨_, rfl, Kd.R_lower HO.out (by omega), HBW.out⟩
end Go.Proofs.Ytpbclogjoangfaa.St
