/- The search of the program: what its map knows. -/
import Derived.Test.YtkcocomehhlpmaaDoorFnSpoiltSr1
import Derived.Test.YtkcocomehhlpmaaDoorFnSpoiltSr5
namespace Go.Proofs.YtkcocomehhlpmaaDoor.Sr
open Go.RowKit Go.Maps Go.Proofs.YtkcocomehhlpmaaDoorW.PrintWords Go.Proofs.YtkcocomehhlpmaaDoorW.PrintLast Go.Proofs.YtkcocomehhlpmaaDoorW.PrintMore Go.Proofs.YtkcocomehhlpmaaDoor.Q Go.Proofs.YtkcocomehhlpmaaDoor.Pu
set_option linter.unusedVariables false
set_option linter.unusedSimpArgs false
/-- All lists of n numbers below 10. -/
def boxL : Nat → List (List Nat)
 | 0 => [[]]
 | n + 1 => (List.range 10).flatMap (fun x => (boxL n).map (x :: ·))
theorem boxL_len : ∀ n, (boxL n).length = 10 ^ n
 | 0 => rfl
 | n + 1 => by
  have h : ∀ l : List Nat, (l.flatMap (fun x => (boxL n).map (x :: ·))).length = l.length * 10 ^ n := by
   intro l
   induction l with
   | nil => simp
   | cons a l ih => rw [List.flatMap_cons, List.length_append, ih, List.length_map, boxL_len n, List.length_cons, Nat.succ_mul, Nat.add_comm]
  simp only [boxL]
  rw [h, List.length_range, Nat.pow_succ, Nat.mul_comm]
theorem boxL_mem : ∀ (n : Nat) (v : List Nat), v.length = n → (∀ x ∈ v, x < 10) → v ∈ boxL n
 | 0, v, h, _ => by
  have : v = [] := List.length_eq_zero_iff.1 h
  subst this; simp [boxL]
 | n + 1, [], h, _ => by simp at h
 | n + 1, x :: v, h, hb => by
  simp only [boxL, List.mem_flatMap, List.mem_range, List.mem_map]
  exact ⟨x, hb x (by simp), v, boxL_mem n v (by simpa using h) (fun y hy => hb y (by simp [hy])), rfl⟩
theorem boxL_of : ∀ (n : Nat) (v : List Nat), v ∈ boxL n → v.length = n ∧ ∀ x ∈ v, x < 10
 | 0, v, h => by simp [boxL] at h; subst h; simp
 | n + 1, v, h => by
  simp only [boxL, List.mem_flatMap, List.mem_range, List.mem_map] at h
  obtain ⟨x, hx, u, hu, rfl⟩ := h
  have ih := boxL_of n u hu
  refine ⟨by simp [ih.1], fun y hy => ?_⟩
  rcases List.mem_cons.1 hy with rfl | hy
  ·exact hx
  ·exact ih.2 y hy
theorem countP_lt {α : Type} {p q : α → Bool} (h : ∀ x, p x = true → q x = true) : ∀ (l : List α) (a : α), a ∈ l → p a = false → q a = true → l.countP p + 1 ≤ l.countP q
 | x :: l, a, ha, hp, hq => by
  rw [List.countP_cons, List.countP_cons]
  rcases List.mem_cons.1 ha with rfl | ha
  ·have := List.countP_mono_left (p := p) (q := q) (l := l) (fun y _ hy => h y hy)
   simp [hp, hq]; omega
  ·have ih := countP_lt h l a ha hp hq
   by_cases c : p x = true
   ·rw [if_pos c, if_pos (h x c)]; omega
   ·rw [if_neg c]; omega
theorem keyP_of {v : List Nat} (h : v ∈ boxL 5) : keyOf Tryd.prog 75 (vecV v) = some (keyP v) := by
 obtain ⟨h1, h2⟩ := boxL_of 5 v h
 exact key_of v h1 (fun x hx => by have := h2 x hx; omega)
theorem vecV_inj {u v : List Nat} (h : vecV u = vecV v) : u = v := by
 unfold vecV at h
 injection h with h
 have h2 : u.map (fun (x : Nat) => Value.int .i64 (x : Int)) = v.map (fun (x : Nat) => Value.int .i64 (x : Int)) := by
  have := congrArg Array.toList h
  simpa using this
 refine (List.map_inj_right (fun x y hxy => ?_)).1 h2
 injection hxy with _ hxy
 exact Int.ofNat.inj hxy
theorem lit_inj {a b : Int} (h : (DataW.lit (.int .i64 a) : DataW Unit) = .lit (.int .i64 b)) : a = b := by
 injection h with h
 injection h
theorem zero3 (w : World) : (zeroValue 3).run Tryd.prog w = .ok (.int .i64 0) w := by kernel_rfl
theorem own_tight {W : World} {b n : Nat} {D : DataW Unit} (h : W.ownsMap Tryd.prog 75 (plainElem Tryd.prog 3) b n D) : W.ownsMap Tryd.prog 75 (plainElem Tryd.prog 3) b (Maps.size D) D := by
 obtain ⟨es, clock, hb, F, hs, rfl⟩ := h
 refine ⟨es, clock, hb, F, ?_, rfl⟩
 simp [Maps.size, length_sorted]
/-- The map in block b knows what some positions cost, and nothing else. -/
structure Memo (W : World) (b : Nat) (R : List Int) (T : List S48) (D : DataW Unit) : Prop where
 own : W.ownsMap Tryd.prog 75 (plainElem Tryd.prog 3) b (Maps.size D) D
 cnt : Maps.size D ≤ (boxL 5).countP (fun v => Maps.has D (keyP v))
 val : ∀ v ∈ boxL 5, Maps.has D (keyP v) = true → D.atKey (keyP v) (.lit (.int .i64 0)) = .lit (.int .i64 (V R T v))
section
variable {W W' : World} {b : Nat} {R : List Int} {T : List S48} {D : DataW Unit}
theorem Memo.kept (h : Memo W b R T D) {row : Option Nat} (hg : W.grownBy W' row) (hne : some b ≠ row) : Memo W' b R T D := ⟨h.own.kept hg hne, h.cnt, h.val⟩
theorem Memo.lt (h : Memo W b R T D) : b < W.heap.size := h.own.lt
theorem Memo.drew (h : Memo W b R T D) (n : Nat) : Memo (W.drewN n) b R T D := h.kept (row := none) ⟨rfl, rfl, rfl, Nat.le_refl _, fun _ _ _ => rfl⟩ (by simp)
theorem Memo.ne (h : Memo W b R T D) {g t : Nat} {cs : Array Value} (hg : W.heap[g]? = some (.cells cs t (0, 0))) : g ≠ b := by
 intro e
 subst e
 obtain ⟨es, clock, hb, _⟩ := h.own
 rw [hb] at hg
 injection hg with hg
 cases hg
theorem Memo.made (W : World) (R : List Int) (T : List S48) : Memo (W.alloc (.map #[] 0)) W.heap.size R T (.map []) :=
 ⟨own_tight (World.ownsMap_made W Tryd.prog 75 (plainElem Tryd.prog 3)), by simp [Maps.size], fun v _ h => by simp [Maps.has] at h⟩
theorem Memo.size (h : Memo W b R T D) : Maps.size D ≤ 100000 := by
 have h1 := h.cnt
 have h2 := List.countP_le_length (p := fun v => Maps.has D (keyP v)) (l := boxL 5)
 rw [boxL_len] at h2
 omega
theorem Memo.look (K : Keyed Tryd.prog 75) (h : Memo W b R T D) {v : List Nat} (hv : v ∈ boxL 5) :
  ∃ c : Int, (∀ n, (Instr.lookup 88 (.map (some b)) (vecV v) true).run Tryd.prog (W.drewN n) = .ok (.tuple #[.int .i64 c, .bool (Maps.has D (keyP v))]) (W.drewN n)) ∧ (Maps.has D (keyP v) = true → c = V R T v) := by
 have one : ∀ n, ∃ c : Int, (Instr.lookup 88 (.map (some b)) (vecV v) true).run Tryd.prog (W.drewN n) = .ok (.tuple #[.int .i64 c, .bool (Maps.has D (keyP v))]) (W.drewN n) ∧ D.atKey (keyP v) (.lit (.int .i64 0)) = .lit (.int .i64 c) := by
  intro n
  have hd := (h.drew n).own
  obtain ⟨u, ps, hr, hu⟩ := hd.look_ok K Tryd.underlying88 (zero3 _) (plainElem_int Tryd.underlying3 (a := 0) (by decide)) (keyP_of hv)
  obtain ⟨c, rfl, hc, _⟩ := plainElem_int_inv Tryd.underlying3 hu
  exact ⟨c, hr, congrArg Prod.fst hc⟩
 obtain ⟨c, _, hc⟩ := one 0
 refine ⟨c, fun n => ?_, fun hh => ?_⟩
 ·obtain ⟨c', hr, hc'⟩ := one n
  rw [hc] at hc'
  rw [lit_inj hc']
  exact hr
 ·have := h.val v hv hh
  rw [hc] at this
  exact lit_inj this
theorem Memo.store (K : Keyed Tryd.prog 75) (h : Memo W b R T D) {v : List Nat} (hv : v ∈ boxL 5) {c : Int} (hc : c = V R T v) (hw : (Lit.int .i64 c).wf = true) :
  ∃ (W' : World) (D' : DataW Unit), (Instr.mapUpdate 88 (.map (some b)) (vecV v) (.int .i64 c)).run Tryd.prog W = .ok () W' ∧ Memo W' b R T D' ∧ W.grownBy W' (some b) := by
 have hsz := h.size
 have hm : Maps.size D < maxLen := by unfold maxLen; omega
 obtain ⟨W', hr, ho, ht⟩ := h.own.store K Tryd.underlying88 hm (keyP_of hv) (plainElem_int Tryd.underlying3 hw)
 refine ⟨W', D.put (keyP v) (.lit (.int .i64 c)), hr, ⟨own_tight ho, ?_, ?_⟩, ht.grown⟩
 ·rw [Maps.size_put (h.own.tidy K)]
  have hmono : ∀ u, Maps.has D (keyP u) = true → Maps.has (D.put (keyP v) (.lit (.int .i64 c))) (keyP u) = true := by
   intro u hu
   by_cases e : keyP u = keyP v
   ·rw [e]; exact Maps.has_put_same h.own.isMap (K.key (keyP_of hv)) _
   ·rw [Maps.has_put_other e]; exact hu
  by_cases hh : Maps.has D (keyP v) = true
  ·rw [if_pos hh]
   exact Nat.le_trans h.cnt (List.countP_mono_left (fun u _ hu => hmono u hu))
  ·rw [if_neg hh]
   have h1 := countP_lt (p := fun v => Maps.has D (keyP v)) (q := fun u => Maps.has (D.put (keyP v) (.lit (.int .i64 c))) (keyP u)) hmono (boxL 5) v hv (by simpa using hh) (Maps.has_put_same h.own.isMap (K.key (keyP_of hv)) _)
   have h2 := h.cnt
   omega
 ·intro u hu hh
  by_cases e : keyP u = keyP v
  ·have h1 := keyP_of hu
   rw [e] at h1
   have h2 := vecV_inj (K.inj h1 (keyP_of hv))
   subst h2
   rw [Maps.atKey_put_same h.own.isMap (K.key (keyP_of hv)), hc]
  ·rw [Maps.has_put_other e] at hh
   rw [Maps.atKey_put_other e]
   exact h.val u hu hh
end
end Go.Proofs.YtkcocomehhlpmaaDoor.Sr
