/- Rings: what stays in memory while the ways are made longer. -/
import Derived.Test.YtckkppehfpjbpaaFnRingRg0
import Derived.Test.YtckkppehfpjbpaaFnRingQ2
import Derived.Test.YtckkppehfpjbpaaFnRingQ8
import Derived.Test.YtckkppehfpjbpaaFnRingQ4
import Derived.Test.YtckkppehfpjbpaaFnRingQ5
namespace Go.Proofs.Ytckkppehfpjbpaa.Rg
open Go.RowKit Go.Proofs.YtckkppehfpjbpaaW.PrintWords Go.Proofs.YtckkppehfpjbpaaW.PrintLast Go.Proofs.YtckkppehfpjbpaaW.PrintMore Go.Proofs.Ytckkppehfpjbpaa.Q Go.Proofs.Ytckkppehfpjbpaa.Pu
set_option linter.unusedVariables false
set_option linter.unusedSimpArgs false
/-! ### drawn regions, one row an operation -/
section
variable {P : Program} {ops : Array Oper} {Q : Exit → Act → World → Prop} {S : World → Prop} {ds : List Nat}
/-- Number i, which yields in every world, comes up first. -/
theorem np_ {fuel : Nat} {l : Array Bool} {a a' : Act} {w : World} (i N : Nat) {oi : Oper} {v : Value} (hi : ops[i]? = some oi) (hN : oi.dst = some N) (hc : anyB .any ops l (l.setIfInBounds i true) i = true) (hQ : ∀ c a w, Q (.panic c) (a.put oi.dst v) w → Q (.panic c) a w)
  (hw : Region.wanted oi (yielded ops a.tmps) = true) (hv : ∀ w', (execOp a.eval oi).run P w' = .ok (.value v) w') (ha : a.put (some N) v = a') (h : wpAnyLast P .any ops Q S ds fuel (l.setIfInBounds i true) a' w) : wpAnyLast P .any ops Q S ds (fuel + 1) l a w :=
 pure_ _ hi hN hc hQ (.inl ⟨hw, hv⟩) ha h
/-- Number i, which yields wherever S holds (a load). -/
theorem nt_ {fuel : Nat} {l : Array Bool} {a a' : Act} {w : World} (hS : S w) (i N : Nat) {oi : Oper} {v : Value} (hi : ops[i]? = some oi) (hN : oi.dst = some N) (hc : takeB .any ops ds l (l.setIfInBounds i true) i = true) (hQ : ∀ c a w, Q (.panic c) (a.put oi.dst v) w → Q (.panic c) a w)
  (hw : Region.wanted oi (yielded ops a.tmps) = true) (hv : ∀ w', S w' → (execOp a.eval oi).run P w' = .ok (.value v) w') (ha : a.put (some N) v = a') (h : wpAnyLast P .any ops Q S ds fuel (l.setIfInBounds i true) a' w) : wpAnyLast P .any ops Q S ds (fuel + 1) l a w :=
 take_ _ hi hN hc hQ (.inl ⟨hw, hv⟩) hS ha h
/-- An operation that comes up alone (a call, an append): S is shown behind it. -/
theorem no_ {fuel : Nat} {l : Array Bool} {a : Act} {w : World} (i N : Nat) {oi : Oper} (hi : ops[i]? = some oi) (hN : oi.dst = some N) (hc : readyB .any ops l (l.setIfInBounds i true) i = true) (hd : i ∉ ds)
  (h : ∀ K : Act → World → Prop, (∀ a' w', S w' → (S w' → wpAnyLast P .any ops Q S ds fuel (l.setIfInBounds i true) a' w') → K a' w') → if Region.wanted oi (yielded ops a.tmps) = true then Oper.wp P oi a w K Q else K (a.put (some N) undef) w) : wpAnyLast P .any ops Q S ds (fuel + 1) l a w :=
 one_ _ hi hN hc hd (fun K hK => h K hK.out)
theorem AP_ : (∀ (a : Act) (d : Nat) (v : Value), a.put (some d) v = { a with tmps := a.tmps.setIfInBounds d v }) ∧ (∀ (a : Act) (v : Value), a.put none v = a) ∧ (∀ (l : List Value) (i : Nat) (a : Value), l.toArray.setIfInBounds i a = (l.set i a).toArray) ∧ (∀ (x : Value) (l : List Value) (a : Value), (x :: l).set 0 a = a :: l) ∧ (∀ (x : Value) (l : List Value) (i : Nat) (a : Value), (x :: l).set (i + 1) a = x :: l.set i a) := ⟨fun _ _ _ => rfl, fun _ _ => rfl, fun l i a => List.setIfInBounds_toArray l i a, fun _ _ _ => rfl, fun _ _ _ _ => rfl⟩
end
/-! ### names -/
theorem namesOk_lt : ∀ {N : List Int} {a : Int}, namesOk a N = true → (∀ x ∈ N, a < x ∧ x ≤ 1000) ∧ ∀ i j, i < j → j < N.length → N.getD i 0 < N.getD j 0
 | [], a, _ => by simp
 | y :: N, a, h => by
  simp only [namesOk, Bool.and_eq_true, decide_eq_true_eq] at h
  obtain ⟨⟨h1, h0⟩, h2⟩ := h
  obtain ⟨h3, h4⟩ := namesOk_lt h2
  refine ⟨fun x hx => ?_, fun i j hij hj => ?_⟩
  ·rcases List.mem_cons.1 hx with rfl | hx
   ·exact ⟨h1, h0⟩
   ·have := h3 x hx; omega
  ·match i, j with
   | i, 0 => omega
   | 0, j + 1 =>
    have hj' : j < N.length := by simpa using hj
    have := h3 _ (getD_mem 0 hj')
    simpa using this.1
   | i + 1, j + 1 =>
    have := h4 i j (by omega) (by simpa using hj)
    simpa using this
theorem names_range {R : List Int} {T : List S40} {N : List Int} (h : Right R T N) : ∀ x ∈ N, 0 ≤ x ∧ x ≤ 1000 := fun x hx => by
 have := (namesOk_lt h.names).1 x hx
 omega
theorem name_inj {R : List Int} {T : List S40} {N : List Int} (h : Right R T N) {i j : Nat} (hi : i < N.length) (hj : j < N.length) (e : N.getD i 0 = N.getD j 0) : i = j := by
 have h1 := (namesOk_lt h.names).2
 rcases Nat.lt_trichotomy i j with c | c | c
 ·have := h1 i j c hj; omega
 ·exact c
 ·have := h1 j i c hi; omega
theorem right_small {R : List Int} {T : List S40} {N : List Int} (h : Right R T N) : R.length ≤ 1048576 ∧ T.length ≤ 1048576 ∧ N.length ≤ 1048576 := by
 have h1 := h.r1
 have h2 := h.t1
 have h3 := h.n1
 omega
theorem infoI : (Try.prog.info? 22).map (fun i => (i.zero, i.size, i.bytes)) = some (some (.slice none 0 0), 1, 24) := by kernel_rfl
theorem infoB : (Try.prog.info? 4).map (fun i => (i.zero, i.size, i.bytes)) = some (some (.bool false), 1, 1) := by kernel_rfl
abbrev kR : Kd (List Int) := Kd.slice 3 (Kd.int .i64)
/-- Z depends on block g alone. -/
def Zm (g : Nat) (Z : World → List Int → Prop) : Prop := ∀ (W W' : World) (s : List Int), W'.heap[g]? = W.heap[g]? → Z W s → Z W' s
/-- Who was come to, as a row of bools. -/
def zB (base g c : Nat) (W : World) (s : List Int) : Prop := Kd.bool.R 4 W base (fun k => k = g) (.slice (some ⟨g, 0, none⟩) 1001 c) (mkB s)
theorem zB_m (base g c : Nat) : Zm g (zB base g c) := fun W W' s h hz => Kd.R_move hz (fun k hk => by rw [hk]; exact h)
theorem own_only {α : Type} {enc : α → Value} {h1 : ∀ x : α, (enc x).oneCell' = true} {e base g n c : Nat} {ok : Nat → Prop} {w : World} {xs : List α} (h : (Kd.scalar enc h1).R e w base ok (.slice (some ⟨g, 0, none⟩) n c) xs) : (Kd.scalar enc h1).R e w base (fun k => k = g) (.slice (some ⟨g, 0, none⟩) n c) xs :=
 Kd.R_flat (fun h => h) h (fun k hk _ => by
  have : g = k := by simpa [Value.ownBlock] using hk
  exact this.symm)
theorem reps1 {α : Type} {Rr : α → List Value → Prop} {sz : Nat} {x : α} {cs : List Value} (h : Rr x cs) (hl : cs.length = sz) : Reps Rr sz [x] cs := by
 have h1 := (Reps.none Rr sz).snoc h hl
 simpa using h1
/-- While the ways of a round are made longer. -/
structure Wy (Z : World → List Int → Prop) (gS : Nat) (bx : Array Value) (w wr : World) (n : Nat) (x5 x7 : Value) (l m : List (List Int)) (s : List Int) : Prop where
 zm : Zm gS Z
 low : Below w.heap.size w wr
 box : wr.heap[w.heap.size]? = some (.cells bx 30 (0, 0))
 seen : Z wr s
 hS : w.heap.size < gS ∧ gS < n ∧ n ≤ wr.heap.size
 line : kR.R 22 wr w.heap.size (fun k => k < n ∧ k ≠ gS) x5 l
 next : kR.R 22 wr w.heap.size (fun k => n ≤ k) x7 m
/-- .. and a way at hand, and those for whom its last one waits. -/
structure Wx (Z : World → List Int → Prop) (gS : Nat) (bx : Array Value) (w wr : World) (n : Nat) (x5 x7 : Value) (l m : List (List Int)) (s : List Int) (v : Value) (wl : List Int) (vX : Value) (X : List Int) : Prop where
 y : Wy Z gS bx w wr n x5 x7 l m s
 way : (Kd.int .i64).R 3 wr w.heap.size (fun k => k < n ∧ k ≠ gS) v wl
 row : (Kd.int .i64).R 3 wr w.heap.size (fun k => n ≤ k) vX X
section
variable {Z : World → List Int → Prop} {gS : Nat} {bx : Array Value} {w wr w' : World} {n : Nat} {x5 x7 : Value} {l m : List (List Int)} {s : List Int} {v : Value} {wl : List Int} {vX : Value} {X : List Int}
theorem Wy.below (h : Wy Z gS bx w wr n x5 x7 l m s) (hb : Below wr.heap.size wr w') : Wy Z gS bx w w' n x5 x7 l m s :=
 ⟨h.zm, below_step h.low hb, blk_below h.box hb, h.zm _ _ _ (hb.block gS (by have := h.hS; omega)) h.seen, ⟨h.hS.1, h.hS.2.1, Nat.le_trans h.hS.2.2 hb.size⟩, Kd.R_below h.line hb, Kd.R_below h.next hb⟩
theorem Wx.below (h : Wx Z gS bx w wr n x5 x7 l m s v wl vX X) (hb : Below wr.heap.size wr w') : Wx Z gS bx w w' n x5 x7 l m s v wl vX X :=
 ⟨h.y.below hb, Kd.R_below h.way hb, Kd.R_below h.row hb⟩
theorem Wx.mark (h : Wx Z gS bx w wr n x5 x7 l m s v wl vX X) {s' : List Int} (hg : wr.grownBy w' (some gS)) (hz : Z w' s') : Wx Z gS bx w w' n x5 x7 l m s' v wl vX X := by
 have hS := h.y.hS
 refine ⟨⟨h.y.zm, h.y.low.grown hg h.y.low.size (fun k hk => by injection hk with hk; omega), (hg.block _ (by omega) (fun e => by injection e; omega)).trans h.y.box, hz, ⟨hS.1, hS.2.1, Nat.le_trans hS.2.2 hg.size⟩, ?_, ?_⟩, ?_, ?_⟩
 ·exact Kd.R_grown h.y.line hg (fun k hk e => by injection e with e; omega)
 ·exact Kd.R_grown h.y.next hg (fun k hk e => by injection e with e; omega)
 ·exact Kd.R_grown h.way hg (fun k hk e => by injection e with e; omega)
 ·exact Kd.R_grown h.row hg (fun k hk e => by injection e with e; omega)
theorem Wy.nlt (h : Wy Z gS bx w wr n x5 x7 l m s) : ∀ k, x7.ownBlock = some k → n ≤ k ∧ k < wr.heap.size := fun k hk => ⟨h.next.1 k hk, Kd.R_lt h.next k hk⟩
theorem Wx.app (h : Wx Z gS bx w wr n x5 x7 l m s v wl vX X) {x8 : Value} {m' : List (List Int)} (hg : wr.grownBy w' x7.ownBlock) (hl : Below w.heap.size w w') (hn : kR.R 22 w' w.heap.size (fun k => n ≤ k) x8 m') : Wx Z gS bx w w' n x5 x8 l m' s v wl vX X := by
 have hS := h.y.hS
 have hx := h.y.nlt
 refine ⟨⟨h.y.zm, hl, (hg.block _ (by omega) (fun e => by have := hx _ e.symm; omega)).trans h.y.box, h.y.zm _ _ _ (hg.block gS (by omega) (fun e => by have := hx _ e.symm; omega)) h.y.seen, ⟨hS.1, hS.2.1, Nat.le_trans hS.2.2 hg.size⟩, ?_, hn⟩, ?_, ?_⟩
 ·exact Kd.R_grown h.y.line hg (fun k hk e => by have := hx _ e.symm; omega)
 ·exact Kd.R_grown h.way hg (fun k hk e => by have := hx _ e.symm; omega)
 ·exact Kd.R_mono (Kd.R_grown (Kd.R_apart' h.row (Kd.R_typed h.y.next) (by decide)) hg (fun k hk => hk.2)) (fun k hk => hk.1)
/-- A round is over: the longer ways are the ways. -/
theorem Wy.turn (h : Wy Z gS bx w wr n x5 x7 l m s) : Wy Z gS bx w wr wr.heap.size x7 (.slice none 0 0) m [] s :=
 ⟨h.zm, h.low, h.box, h.seen, by have := h.hS; omega, Kd.R_mono (Kd.R_bound h.next) (fun k hk => by have := hk.2.2.1; have := hk.1; have := h.hS; omega), Kd.R_nil _ _ _ _ _⟩
/-- A way out of the ways. -/
theorem Wy.way (h : Wy Z gS bx w wr n x5 x7 l m s) {i : Nat} (hi : i < l.length) : ∃ g cap v, x5 = .slice (some ⟨g, 0, none⟩) l.length cap ∧ wr.cell? ⟨g, i, none⟩ = some v ∧ (Kd.int .i64).R 3 wr w.heap.size (fun k => k < n ∧ k ≠ gS) v (l.getD i []) := by
 obtain ⟨g, cap, rfl, _, _, _⟩ := Kd.R_form h.line (by omega)
 obtain ⟨c, hcl, ⟨v, rfl, hM⟩, hcc, _⟩ := Kd.R_elem h.line [] (i : Int) (by omega) (by omega)
 rw [Int.toNat_natCast] at hM hcc
 have h0 := hcc 0 v rfl
 rw [Nat.add_zero, show i * (kR).sz = i from Nat.mul_one i] at h0
 exact ⟨g, cap, v, rfl, h0, Kd.R_mono hM (fun k hk => hk.1)⟩
theorem Wy.cells (h : Wy Z gS bx w wr n x5 x7 l m s) (j : Nat) {u : Value} (hu : bx[j]? = some u) : wr.cell? ⟨w.heap.size, j, none⟩ = some u := (blk_cell h.box j).trans hu
end
end Go.Proofs.Ytckkppehfpjbpaa.Rg
