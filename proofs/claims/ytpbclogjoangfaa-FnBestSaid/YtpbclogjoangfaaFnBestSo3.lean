/- The specification's Solve: what lies in memory while it goes on. -/
import Derived.Test.YtpbclogjoangfaaFnBestSo0
import Derived.Test.YtpbclogjoangfaaFnBestAlk
namespace Go.Proofs.Ytpbclogjoangfaa.So
open Go.RowKit Go.Proofs.YtpbclogjoangfaaW.PrintWords Go.Proofs.YtpbclogjoangfaaW.PrintLast Go.Proofs.YtpbclogjoangfaaW.PrintMore Go.Proofs.Ytpbclogjoangfaa.Q Go.Proofs.Ytpbclogjoangfaa.Pu Go.Proofs.Ytpbclogjoangfaa.Sr Go.Proofs.Ytpbclogjoangfaa.Sp Go.Proofs.Ytpbclogjoangfaa.Al
set_option linter.unusedVariables false
set_option linter.unusedSimpArgs false
/-! ### the next move, over those that are there -/
def goodQ (R : List Int) (T : List S35) (v : List Nat) (j : Nat) : Bool := okP R T v j && decide (V R T (inc v j) = V R T v - wtP T v T.length)
section
variable {R : List Int} {T : List S35} {N : List Int}
theorem wt_le {v : List Nat} (hl : T.length ≤ v.length) (h : hereP T v T.length = true) (hV : 0 ≤ V R T v) : wtP T v T.length ≤ V R T v := by
 obtain ⟨i, hi⟩ := nxt_some hl h hV
 have h1 := (nxt_mem hi).2
 unfold goodP at h1
 have h2 := of_decide_eq_true h1
 omega
theorem nxt_idx {v : List Nat} (hl : T.length ≤ v.length) (h : hereP T v T.length = true) (hV : 0 ≤ V R T v) : nxtP R T v = (idx T v).find? (goodQ R T v) := by
 have hw := wt_le hl h hV
 unfold nxtP
 rw [mvP_idx, List.find?_filter]
 have e : (fun a => decide (okP R T v a = true ∧ goodP R T v a = true)) = goodQ R T v := by
  funext j
  rw [Bool.eq_iff_iff]
  unfold goodP goodQ
  simp only [Bool.and_eq_true, decide_eq_true_eq]
  constructor
  ·rintro ⟨h1, h2, h3⟩; exact ⟨h1, by omega⟩
  ·rintro ⟨h1, h2⟩; exact ⟨h1, by omega, by omega⟩
 rw [← e]
end
/-! ### memory -/
structure Kq (S : Nat → Prop) (W W' : World) : Prop where
 os : W'.os = W.os
 tape : W'.tape = W.tape
 output : W'.output = W.output
 size : W.heap.size ≤ W'.heap.size
 block : ∀ i, i < W.heap.size → ¬ S i → W'.heap[i]? = W.heap[i]?
section
variable {S S' : Nat → Prop} {W W' W2 : World} {gc gm : Nat}
theorem Kq.trans (h : Kq S W W') (k : Kq S W' W2) : Kq S W W2 :=
 ⟨k.os.trans h.os, k.tape.trans h.tape, k.output.trans h.output, Nat.le_trans h.size k.size, fun i hi hn => (k.block i (Nat.lt_of_lt_of_le hi h.size) hn).trans (h.block i hi hn)⟩
theorem Kq.refl (S : Nat → Prop) (W : World) : Kq S W W := ⟨rfl, rfl, rfl, Nat.le_refl _, fun _ _ _ => rfl⟩
theorem Kq.of_grown {row : Option Nat} (h : W.grownBy W' row) (hr : ∀ k, row = some k → S k) : Kq S W W' := ⟨h.os, h.tape, h.output, h.size, fun i hi hn => h.block i hi (fun e => hn (hr i e.symm))⟩
theorem Kq.of_kp (h : Kp gc gm W W') (h1 : S gc) (h2 : S gm) : Kq S W W' := ⟨h.os, h.tape, h.output, h.size, fun i hi hn => h.block i hi (fun e => hn (e ▸ h1)) (fun e => hn (e ▸ h2))⟩
theorem Kq.kept (h : Kq S W W') : Kept W W' S := ⟨h.size, fun i hi hn => h.block i hi hn⟩
end
def Sta {α : Type} (d : Kd α) (S : Nat → Prop) (W : World) (A : Option Addr) (n : Nat) (xs : List α) : Prop := ∀ W', Kq S W W' → d.C W' A n xs
section
variable {α : Type} {d : Kd α} {S S' : Nat → Prop} {W W' : World} {A : Option Addr} {n c gc gm : Nat} {xs : List α}
theorem Sta.now (h : Sta d S W A n xs) : d.C W A n xs := h W (Kq.refl _ _)
theorem Sta.stb (h : Sta d S W A n xs) (h1 : S gc) (h2 : S gm) : Stb d gc gm W A n xs := fun W' k => h W' (Kq.of_kp k h1 h2)
theorem Sta.more (h : Sta d S W A n xs) (k : Kq S W W') (hs : ∀ k, S' k → S k ∨ W.heap.size ≤ k) : Sta d S' W' A n xs := fun W2 k2 =>
 h W2 ⟨k2.os.trans k.os, k2.tape.trans k.tape, k2.output.trans k.output, Nat.le_trans k.size k2.size, fun i hi hn => (k2.block i (Nat.lt_of_lt_of_le hi k.size) (fun h9 => by rcases hs i h9 with h8 | h8; exact hn h8; omega)).trans (k.block i hi hn)⟩
theorem Sta.of_R {e base : Nat} {ok : Nat → Prop} (h : d.R e W base ok (.slice A n c) xs) (ho : ∀ k, ok k → k < W.heap.size → ¬ S k) : Sta d S W A n xs := fun W2 k => by
 have h2 := (Kd.R_reads' (Kd.R_kept (Kd.R_bound h) k.kept (fun j hj => ho j hj.1 hj.2.2.1))).2.2
 have h3 := (Kd.R_reads' h).1
 rw [h3]; exact h2
theorem Sta.of_N {e base : Nat} {ok : Nat → Prop} (h : Kd.N d e W base ok (.slice A n c) xs) (ho : ∀ k, ok k → k < W.heap.size → ¬ S k) : Sta d S W A n xs := fun W2 k => by
 have h2 := (Kd.N_reads' (Kd.N_kept (Kd.N_bound h) k.kept (fun j hj => ho j hj.1 hj.2))).2.2
 have h3 := (Kd.N_reads' h).1
 rw [h3]; exact h2
end
theorem own_slice (g n c : Nat) : (Value.slice (some ⟨g, 0, none⟩) n c).ownBlock = some g := by simp [Value.ownBlock]
section
variable {w0 w1 W W' : World} {gt gc gm M : Nat} {vp vn : Value} {cc cm : Nat} {T : List S35} {N : List Int} {Cs : List Int} {Ms : List Bool}
theorem sq_apart (h : Sq w0 W gt gc gm M vp vn cc cm T N Cs Ms) {g t : Nat} {c : Array Value} (hb : W.heap[g]? = some (.cells c t (0, 0))) (h3 : 3 ≠ t) (h4 : 4 ≠ t) : g ≠ gc ∧ g ≠ gm ∧ some g ≠ vp.ownBlock ∧ some g ≠ vn.ownBlock := by
 have a1 := Kd.R_ne h.cR hb h3
 have a2 := Kd.R_ne h.mR hb h4
 rw [own_slice] at a1 a2
 exact ⟨fun e => a1 (by rw [e]), fun e => a2 (by rw [e]), Kd.R_ne h.pR hb h3, Kd.R_ne h.nR hb h3⟩
theorem sq_lower (h : Sq w1 W gt gc gm M vp vn cc cm T N Cs Ms) (hb : Below w0.heap.size w0 w1) : Sq w0 W gt gc gm M vp vn cc cm T N Cs Ms :=
 ⟨h.blk, below_step hb h.low, Nat.le_trans hb.size h.gl, Kd.R_lower h.pR hb.size, Kd.R_lower h.nR hb.size, Kd.R_lower h.cR hb.size, Kd.R_lower h.mR hb.size, h.cl, h.ml⟩
/-- A block of another kind is written. -/
theorem sq_typed (h : Sq w0 W gt gc gm M vp vn cc cm T N Cs Ms) {g t : Nat} {c : Array Value} (hb : W.heap[g]? = some (.cells c t (0, 0))) (h3 : 3 ≠ t) (h4 : 4 ≠ t) (h93 : 93 ≠ t) (hg : W.grownBy W' (some g)) (h0 : w0.heap.size ≤ g) : Sq w0 W' gt gc gm M vp vn cc cm T N Cs Ms := by
 obtain ⟨a1, a2, a3, a4⟩ := sq_apart h hb h3 h4
 have a5 : gt ≠ g := blk_ne h.blk hb h93
 refine ⟨blk_grown h.blk hg (fun e => a5 (by injection e)), h.low.grown hg h.low.size (fun k hk => by injection hk with hk; omega), h.gl, ?_, ?_, Kd.R_grown h.cR hg (fun k hk e => by injection e with e; omega), Kd.R_grown h.mR hg (fun k hk e => by injection e with e; omega), h.cl, h.ml⟩
 ·exact Kd.R_mono (Kd.R_grown (Kd.R_flat (ok' := fun k => (k ≠ gc ∧ k ≠ gm) ∧ k ≠ g) (fun h => h) h.pR (fun k hk ho => ⟨ho, fun e => a3 (by rw [hk, e])⟩)) hg (fun k hk e => by injection e with e; exact hk.2 e)) (fun k hk => hk.1)
 ·exact Kd.R_mono (Kd.R_grown (Kd.R_flat (ok' := fun k => (k ≠ gc ∧ k ≠ gm) ∧ k ≠ g) (fun h => h) h.nR (fun k hk ho => ⟨ho, fun e => a4 (by rw [hk, e])⟩)) hg (fun k hk e => by injection e with e; exact hk.2 e)) (fun k hk => hk.1)
end
/-- The blocks that change. -/
def Sx (gc gm gB bx : Nat) (mv : Value) (k : Nat) : Prop := k = gc ∨ k = gm ∨ k = gB ∨ k = bx ∨ mv.ownBlock = some k
/-- While Solve goes on. -/
structure Lq (w0 : World) (gt gc gm M : Nat) (vp vn : Value) (cc cm bx gr gB n0 : Nat) (l0 : List Int) (l1 : List S35) (l2 : List Int) (cv : Int) (W : World) (v : List Nat) (mv : Value) (xs : List Int) (A0 : Option Addr) (c0 : Nat) (A1 : Option Addr) (c1 : Nat) (A2 : Option Addr) (c2 : Nat) : Prop where
 sq : ∃ Cs Ms, Sq w0 W gt gc gm M vp vn cc cm l1 l2 Cs Ms ∧ Gm l0 l1 Cs Ms
 bxx : W.heap[bx]? = some (.cells #[.slice A0 l0.length c0, .slice A1 (stT l1 v).length c1, .slice A2 (stN l1 l2 v).length c2] 26 (0, 0))
 brr : W.heap[gr]? = some (.cells #[.bool false, .int .i64 0, .slice none 0 0] 41 (0, 0))
 gbb : W.heap[gB]? = some (.cells #[.bool true, .int .i64 cv, mv] 41 (0, 0))
 mr : Kd.R (Kd.int .i64) 3 W w0.heap.size (fun k => n0 ≤ k) mv xs
 t0 : Sta (Kd.int .i64) (Sx gc gm gB bx mv) W A0 l0.length l0
 t1 : Sta k35 (Sx gc gm gB bx mv) W A1 (stT l1 v).length (stT l1 v)
 t2 : Sta (Kd.int .i64) (Sx gc gm gB bx mv) W A2 (stN l1 l2 v).length (stN l1 l2 v)
 k0 : l0.length ≤ c0
 k1 : (stT l1 v).length ≤ c1
 k2 : (stN l1 l2 v).length ≤ c2
 sz : n0 ≤ W.heap.size
 lt : gt < n0 ∧ gc < n0 ∧ gm < n0 ∧ bx < n0 ∧ gr < n0 ∧ gB < n0
 ge : w0.heap.size ≤ gc ∧ w0.heap.size ≤ gm ∧ w0.heap.size ≤ bx ∧ w0.heap.size ≤ gr ∧ w0.heap.size ≤ gB ∧ w0.heap.size ≤ n0
 ne : gr ≠ gB
 ow : (∀ k, vp.ownBlock = some k → k < n0) ∧ (∀ k, vn.ownBlock = some k → k < n0)
section
variable {w0 W W' : World} {gt gc gm M : Nat} {vp vn : Value} {cc cm bx gr gB n0 : Nat} {l0 : List Int} {l1 : List S35} {l2 : List Int} {cv : Int} {v v' : List Nat} {mv mv' : Value} {xs xs' : List Int} {A0 A1 A2 B0 B1 B2 : Option Addr} {c0 c1 c2 b0 b1 b2 : Nat}
theorem Lq.val (h : Lq w0 gt gc gm M vp vn cc cm bx gr gB n0 l0 l1 l2 cv W v mv xs A0 c0 A1 c1 A2 c2) (hk : Kp gc gm W W') (hq : ∃ Cs Ms, Sq w0 W' gt gc gm M vp vn cc cm l1 l2 Cs Ms ∧ Gm l0 l1 Cs Ms) : Lq w0 gt gc gm M vp vn cc cm bx gr gB n0 l0 l1 l2 cv W' v mv xs A0 c0 A1 c1 A2 c2 := by
 obtain ⟨Cs, Ms, hs, _⟩ := h.sq
 have a1 := sq_apart hs h.bxx (by decide) (by decide)
 have a2 := sq_apart hs h.brr (by decide) (by decide)
 have a3 := sq_apart hs h.gbb (by decide) (by decide)
 have hl := h.lt
 have kq : Kq (Sx gc gm gB bx mv) W W' := Kq.of_kp hk (.inl rfl) (.inr (.inl rfl))
 exact ⟨hq, (hk.block _ (blk_lt h.bxx) a1.1 a1.2.1).trans h.bxx, (hk.block _ (blk_lt h.brr) a2.1 a2.2.1).trans h.brr, (hk.block _ (blk_lt h.gbb) a3.1 a3.2.1).trans h.gbb, Kd.R_kept h.mr hk.kept (fun k h9 => by omega), h.t0.more kq (fun k h9 => .inl h9), h.t1.more kq (fun k h9 => .inl h9), h.t2.more kq (fun k h9 => .inl h9), h.k0, h.k1, h.k2, Nat.le_trans h.sz hk.size, h.lt, h.ge, h.ne, h.ow⟩
theorem Lq.below (h : Lq w0 gt gc gm M vp vn cc cm bx gr gB n0 l0 l1 l2 cv W v mv xs A0 c0 A1 c1 A2 c2) (hb : Below W.heap.size W W') : Lq w0 gt gc gm M vp vn cc cm bx gr gB n0 l0 l1 l2 cv W' v mv xs A0 c0 A1 c1 A2 c2 := by
 obtain ⟨Cs, Ms, hs, hg⟩ := h.sq
 exact h.val (Kp.of_below hb) ⟨Cs, Ms, hs.below hb, hg⟩
/-- A move is added to the row and laid down. -/
theorem Lq.app (h : Lq w0 gt gc gm M vp vn cc cm bx gr gB n0 l0 l1 l2 cv W v mv xs A0 c0 A1 c1 A2 c2) (hg : W.grownBy W' mv.ownBlock) (hat : mv'.ownBlock = mv.ownBlock ∨ ∃ b, mv'.ownBlock = some b ∧ W.heap.size ≤ b) (hm : Kd.R (Kd.int .i64) 3 W' w0.heap.size (fun k => n0 ≤ k) mv' xs') :
  Lq w0 gt gc gm M vp vn cc cm bx gr gB n0 l0 l1 l2 cv (W'.setCell ⟨gB, 2, none⟩ mv') v mv' xs' A0 c0 A1 c1 A2 c2 := by
 obtain ⟨Cs, Ms, hs, hgm⟩ := h.sq
 have hl := h.lt
 have hge := h.ge
 have ho : ∀ k, mv.ownBlock = some k → n0 ≤ k := fun k hk => h.mr.1 k hk
 have hne : ∀ k, k < n0 → some k ≠ mv.ownBlock := fun k hk e => by have := ho k e.symm; omega
 have hs1 : Sq w0 W' gt gc gm M vp vn cc cm l1 l2 Cs Ms := Sq.far hs h.ow.1 h.ow.2 hl.1 hl.2.1 hl.2.2.1 hge.2.2.2.2.2 hg ho
 have b1 := blk_grown h.bxx hg (hne bx (by omega))
 have b2 := blk_grown h.brr hg (hne gr (by omega))
 have b3 := blk_grown h.gbb hg (hne gB (by omega))
 have hg2 : W'.grownBy (W'.setCell ⟨gB, 2, none⟩ mv') (some gB) := ⟨rfl, rfl, rfl, by simp, fun i hi hn => Below.heap_setCell _ _ _ _ (fun e => hn (by rw [e]))⟩
 have kq : Kq (Sx gc gm gB bx mv) W (W'.setCell ⟨gB, 2, none⟩ mv') := (Kq.of_grown hg (fun k hk => .inr (.inr (.inr (.inr hk))))).trans (Kq.of_grown hg2 (fun k hk => by injection hk with hk; exact .inr (.inr (.inl hk.symm))))
 have hsx : ∀ k, Sx gc gm gB bx mv' k → Sx gc gm gB bx mv k ∨ W.heap.size ≤ k := by
  intro k hk
  rcases hk with e | e | e | e | e
  ·exact .inl (.inl e)
  ·exact .inl (.inr (.inl e))
  ·exact .inl (.inr (.inr (.inl e)))
  ·exact .inl (.inr (.inr (.inr (.inl e))))
  ·rcases hat with e1 | ⟨b, e1, hb⟩
   ·exact .inl (.inr (.inr (.inr (.inr (by rw [← e1]; exact e)))))
   ·rw [e1] at e; injection e with e; exact .inr (by omega)
 have n1 : bx ≠ gB := blk_ne b1 b3 (by decide)
 exact ⟨⟨Cs, Ms, sq_typed hs1 b3 (by decide) (by decide) (by decide) hg2 (by omega), hgm⟩, blk_far b1 (p := ⟨gB, 2, none⟩) n1 _, blk_far b2 (p := ⟨gB, 2, none⟩) h.ne _, blk_put b3 2 _ rfl, Kd.R_far (p := ⟨gB, 2, none⟩) hm (fun k hk e => by dsimp only at e; omega) _, h.t0.more kq hsx, h.t1.more kq hsx, h.t2.more kq hsx, h.k0, h.k1, h.k2, Nat.le_trans h.sz kq.size, h.lt, h.ge, h.ne, h.ow⟩
/-- A state is laid down. -/
theorem Lq.sta (h : Lq w0 gt gc gm M vp vn cc cm bx gr gB n0 l0 l1 l2 cv W v mv xs A0 c0 A1 c1 A2 c2) (hg : W.grownBy W' (some bx)) (hb : W'.heap[bx]? = some (.cells #[.slice B0 l0.length b0, .slice B1 (stT l1 v').length b1, .slice B2 (stN l1 l2 v').length b2] 26 (0, 0)))
  (s0 : Sta (Kd.int .i64) (Sx gc gm gB bx mv) W B0 l0.length l0) (s1 : Sta k35 (Sx gc gm gB bx mv) W B1 (stT l1 v').length (stT l1 v')) (s2 : Sta (Kd.int .i64) (Sx gc gm gB bx mv) W B2 (stN l1 l2 v').length (stN l1 l2 v')) (j0 : l0.length ≤ b0) (j1 : (stT l1 v').length ≤ b1) (j2 : (stN l1 l2 v').length ≤ b2) :
  Lq w0 gt gc gm M vp vn cc cm bx gr gB n0 l0 l1 l2 cv W' v' mv xs B0 b0 B1 b1 B2 b2 := by
 obtain ⟨Cs, Ms, hs, hgm⟩ := h.sq
 have hl := h.lt
 have hge := h.ge
 have n1 : gr ≠ bx := blk_ne h.brr h.bxx (by decide)
 have n2 : gB ≠ bx := blk_ne h.gbb h.bxx (by decide)
 have kq : Kq (Sx gc gm gB bx mv) W W' := Kq.of_grown hg (fun k hk => by injection hk with hk; exact .inr (.inr (.inr (.inl hk.symm))))
 exact ⟨⟨Cs, Ms, sq_typed hs h.bxx (by decide) (by decide) (by decide) hg (by omega), hgm⟩, hb, blk_grown h.brr hg (fun e => n1 (by injection e)), blk_grown h.gbb hg (fun e => n2 (by injection e)), Kd.R_grown h.mr hg (fun k hk e => by injection e with e; omega), s0.more kq (fun k h9 => .inl h9), s1.more kq (fun k h9 => .inl h9), s2.more kq (fun k h9 => .inl h9), j0, j1, j2, Nat.le_trans h.sz hg.size, h.lt, h.ge, h.ne, h.ow⟩
/-- Rows that are made anew. -/
theorem Lq.fresh (h : Lq w0 gt gc gm M vp vn cc cm bx gr gB n0 l0 l1 l2 cv W v mv xs A0 c0 A1 c1 A2 c2) {k : Nat} (hk : W.heap.size ≤ k) : ¬ Sx gc gm gB bx mv k := by
 have hl := h.lt
 have hz := h.sz
 rintro (e | e | e | e | e)
 ·omega
 ·omega
 ·omega
 ·omega
 ·have := ((Kd.R_bound h.mr).1 k e).2.2.1; omega
end
end Go.Proofs.Ytpbclogjoangfaa.So
