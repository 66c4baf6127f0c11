/- Small words for walking the exact laws by hand: what lies in a range of blocks stays, whatever is done elsewhere. -/
import Derived.Test.YtckkppehfpjbpaaFnExactRingMarkW
import Derived.Test.YtckkppehfpjbpaaFnExactRingQ5
import Derived.Test.YtckkppehfpjbpaaFnExactRingQ8
import Derived.Test.YtckkppehfpjbpaaFnExactRingQ9
namespace Go.Proofs.Ytckkppehfpjbpaa.Lw
open Go.RowKit Go.Proofs.YtckkppehfpjbpaaW.PrintWords Go.Proofs.YtckkppehfpjbpaaW.PrintLast Go.Proofs.YtckkppehfpjbpaaW.PrintMore Go.Proofs.Ytckkppehfpjbpaa.Q Go.Proofs.Ytckkppehfpjbpaa.Pu Go.Proofs.Ytckkppehfpjbpaa.Mk
set_option linter.unusedVariables false
set_option linter.unusedSimpArgs false
/-- The blocks from a to b. -/
def Rng (a b : Nat) (k : Nat) : Prop := a ≤ k ∧ k < b
section
variable {base a b c d : Nat} {w W W2 : World} {v v0 v1 v2 : Value} {l l0 l2 : List Int} {l1 : List S40} {P : Nat → Prop}
theorem rng_apart (h : b ≤ c ∨ d ≤ a) (k : Nat) (hk : Rng a b k) : ¬ Rng c d k := fun h2 => by have := hk.1; have := hk.2; have := h2.1; have := h2.2; omega
/-- A row of numbers in a range of blocks. -/
def IR (base : Nat) (W : World) (a b : Nat) (v : Value) (l : List Int) : Prop := Kd.R (Kd.int .i64) 3 W base (Rng a b) v l
theorem IR.below (h : IR base W a b v l) (hb : Below W.heap.size W W2) : IR base W2 a b v l := Kd.R_below h hb
theorem IR.kept (h : IR base W a b v l) (hk : Kept W W2 (Rng c d)) (ho : b ≤ c ∨ d ≤ a) : IR base W2 a b v l := Kd.R_kept h hk (fun k hk' => rng_apart ho k hk')
theorem IR.made {ok : Nat → Prop} (h : Kd.R (Kd.int .i64) 3 W2 W.heap.size ok v l) (hB : base ≤ W.heap.size) : IR base W2 W.heap.size W2.heap.size v l :=
 Kd.R_lower (Kd.R_mono (Kd.R_bound h) (fun _ hk => ⟨hk.2.1, hk.2.2.1⟩)) hB
theorem IR.marked {P : Nat → Prop} (h : IR base W a b v l) {l' : List Int} (h2 : Kd.R (Kd.int .i64) 3 W2 base P v l') : IR base W2 a b v l' := Kd.R_reok rfl h2 (fun k hk => h.1 k hk)
theorem _root_.Go.Proofs.Ytckkppehfpjbpaa.Mk.St.mono {P' : Nat → Prop} (h : St base W P v0 v1 v2 l0 l1 l2) (hp : ∀ k, P k → P' k) : St base W P' v0 v1 v2 l0 l1 l2 :=
 ⟨Kd.R_mono h.r0 (fun k hk => ⟨hp k hk.1, hk.2⟩), Kd.S_mono h.s1 (fun k hk => ⟨hp k hk.1, hk.2⟩), Kd.R_mono h.r2 (fun k hk => ⟨hp k hk.1, hk.2⟩)⟩
theorem _root_.Go.Proofs.Ytckkppehfpjbpaa.Mk.St.below (h : St base W P v0 v1 v2 l0 l1 l2) (hb : Below W.heap.size W W2) : St base W2 P v0 v1 v2 l0 l1 l2 := ⟨Kd.R_below h.r0 hb, Kd.S_below h.s1 hb, Kd.R_below h.r2 hb⟩
theorem _root_.Go.Proofs.Ytckkppehfpjbpaa.Mk.St.kept {S : Nat → Prop} (h : St base W P v0 v1 v2 l0 l1 l2) (hk : Kept W W2 S) (hne : ∀ k, P k → ¬ S k) : St base W2 P v0 v1 v2 l0 l1 l2 :=
 ⟨Kd.R_kept h.r0 hk (fun k h2 => hne k h2.1), Kd.S_kept h.s1 hk (fun k h2 => hne k h2.1), Kd.R_kept h.r2 hk (fun k h2 => hne k h2.1)⟩
theorem _root_.Go.Proofs.Ytckkppehfpjbpaa.Mk.St.made {ok0 ok1 ok2 : Nat → Prop} (h0 : Kd.R (Kd.int .i64) 3 W2 W.heap.size ok0 v0 l0) (h1 : Kd.S k40 40 W2 W.heap.size ok1 v1 l1) (h2 : Kd.R (Kd.int .i64) 3 W2 W.heap.size ok2 v2 l2)
  (e0 : ∀ k, ok0 k → some k ≠ v2.ownBlock) (e1 : ∀ k, ok1 k → some k ≠ v0.ownBlock ∧ some k ≠ v2.ownBlock) (e2 : ∀ k, ok2 k → some k ≠ v0.ownBlock) (hB : base ≤ W.heap.size) : St base W2 (Rng W.heap.size W2.heap.size) v0 v1 v2 l0 l1 l2 :=
 ⟨Kd.R_lower (Kd.R_mono (Kd.R_bound h0) (fun k hk => ⟨⟨hk.2.1, hk.2.2.1⟩, e0 k hk.1⟩)) hB, Kd.S_lower (Kd.S_mono (Kd.S_bound h1) (fun k hk => ⟨⟨hk.2.1, hk.2.2.1⟩, e1 k hk.1⟩)) hB, Kd.R_lower (Kd.R_mono (Kd.R_bound h2) (fun k hk => ⟨⟨hk.2.1, hk.2.2.1⟩, e2 k hk.1⟩)) hB⟩
theorem _root_.Go.Proofs.Ytckkppehfpjbpaa.Mk.St.slices (h : St base W P v0 v1 v2 l0 l1 l2) : ∃ A0 c0 A1 c1 A2 c2, v0 = .slice A0 l0.length c0 ∧ v1 = .slice A1 l1.length c1 ∧ v2 = .slice A2 l2.length c2 := by
 obtain ⟨A0, c0, e0⟩ := Kd.R_slice h.r0
 obtain ⟨A1, c1, e1⟩ := Kd.S_slice h.s1
 obtain ⟨A2, c2, e2⟩ := Kd.R_slice h.r2
 exact ⟨A0, c0, A1, c1, A2, c2, e0, e1, e2⟩
theorem IR.slice (h : IR base W a b v l) : ∃ A c, v = .slice A l.length c := Kd.R_slice h
end
/-! ### the marks read again -/
theorem heldIntS_loop : ∀ (d i : Nat) (l : List Int) (a : Int), i + d = l.length → l.length ≤ 9223372036854775807 → 0 ≤ a → a + d ≤ 9223372036854775807 → l.drop i = upTo a d →
  Ev (fun k => laws_heldIntS.l0 k l a (i : Int)) (a + d)
 | 0, i, l, a, h, hl, h0, h1, e => by
  refine Ev.one (fun k => ?_)
  simp only [laws_heldIntS.l0]; rw [if_neg (by omega)]; simp
 | d + 1, i, l, a, h, hl, h0, h1, e => by
  have hi : i < l.length := by omega
  rw [drop_cons 0 hi, upTo] at e
  injection e with e1 e2
  refine Ev.eq (Ev.step (fun k => ?_) (heldIntS_loop d (i + 1) l (a + 1) (by omega) hl (by omega) (by omega) e2)) (by omega)
  simp only [laws_heldIntS.l0]
  rw [if_pos (by omega), if_pos (by omega), rd_I, if_pos e1, wsucc hi hl, w64 (by omega) (by omega)]
theorem heldIntS_tells (n : Nat) (a : Int) (h0 : 0 ≤ a) (h1 : a + n ≤ 9223372036854775807) : Ev (fun k => laws_heldIntS.f k (upTo a n) a) (a + n) := by
 have := heldIntS_loop n 0 (upTo a n) a (by rw [upTo_len]; omega) (by rw [upTo_len]; omega) h0 h1 (by simp)
 exact Ev.congr (fun k => by unfold laws_heldIntS.f; rfl) this
theorem szT_bound : ∀ (l : List S40), (∀ t ∈ l, t.f1.length ≤ 1048576) → szT l ≤ 1048578 * l.length
 | [], _ => by simp [szT]
 | t :: r, h => by
  have h1 := szT_bound r (fun x hx => h x (by simp [hx]))
  have h2 := h t (by simp)
  simp only [szT, List.length_cons]
  omega
theorem _root_.Go.Proofs.Ytckkppehfpjbpaa.Pu.Small.szT_le {R : List Int} {T : List S62} {N : List Int} (h : Small R T N) : szT (T.map cv) ≤ 1099513724928 := by
 have h1 := szT_bound (T.map cv) (fun t ht => by obtain ⟨u, hu, rfl⟩ := List.mem_map.1 ht; exact h.hP u hu)
 rw [List.length_map] at h1
 have h2 := h.hT
 omega
theorem eqIntS_same (l : List Int) (hl : l.length ≤ 9223372036854775807) : Ev (fun k => laws_eqIntS.f k l l) true := Ev.eq (eqIntS_tells l l hl) (by simp)
end Go.Proofs.Ytckkppehfpjbpaa.Lw
