/- Plain laws of the small functions of the laws' own package: sizes, copies, equality. No program in sight. -/
import Derived.Test.YtkcocomehhlpmaaDoorFnExactShownQ1
import Derived.Test.YtkcocomehhlpmaaDoorFnExactShownQ2
import Derived.Test.YtkcocomehhlpmaaDoorFnExactShownQ3
namespace Go.Proofs.YtkcocomehhlpmaaDoor.Pu
open Go.RowKit Go.Proofs.YtkcocomehhlpmaaDoorW.PrintWords Go.Proofs.YtkcocomehhlpmaaDoorW.PrintLast Go.Proofs.YtkcocomehhlpmaaDoor.Q
set_option linter.unusedVariables false
set_option linter.unusedSimpArgs false

theorem w64 {x : Int} (h : -9223372036854775808 ≤ x) (h' : x ≤ 9223372036854775807) : wrap64 x = x := by unfold wrap64; omega
theorem wsucc {i n : Nat} (h : i < n) (hn : n ≤ 9223372036854775807) : wrap64 ((i : Int) + 1) = ((i + 1 : Nat) : Int) := by unfold wrap64; omega
theorem drop_cons {α : Type} {l : List α} {i : Nat} (z : α) (h : i < l.length) : l.drop i = l.getD i z :: l.drop (i + 1) := by
 rw [List.drop_eq_getElem_cons h]; simp [List.getD, h]
theorem Ev.eq {α : Type} {g : Nat → Option α} {r r' : α} (h : Ev g r) (e : r = r') : Ev g r' := e ▸ h
theorem Ev.one {α : Type} {g : Nat → Option α} {r : α} (h : ∀ k, g (k + 1) = some r) : Ev g r :=
 ⟨1, fun k hk => by obtain ⟨k, rfl⟩ : ∃ m, k = m + 1 := ⟨k - 1, by omega⟩; exact h k⟩
theorem Ev.all {α : Type} {g : Nat → Option α} {r : α} (h : ∀ k, g k = some r) : Ev g r := ⟨0, fun k _ => h k⟩
/-- A call, then a test on what it gave. -/
theorem Ev.bind' {α β : Type} {g : Nat → Option α} {f : Nat → α → Option β} {a : α} {r : β} (h : Ev g a) (k : Ev (fun n => f n a) r) : Ev (fun n => (g n).bind (f n)) r := Ev.bind h k
theorem rd_T (xs : List S48) (i : Nat) : rd_T48 xs (i : Int) = xs.getD i z48 := by unfold rd_T48; simp
theorem rd_L (xs : List S80) (i : Nat) : rd_T80 xs (i : Int) = xs.getD i z80 := by unfold rd_T80; simp
theorem rd_I (xs : List Int) (i : Nat) : rd xs (i : Int) = xs.getD i 0 := by unfold rd; simp

/-! ### sizes -/
theorem szIntS_tells (l : List Int) (a : Int) (h0 : 0 ≤ a) (h1 : a ≤ 1048576) (hl : l.length ≤ 9223372036854775807) :
  ∃ r, laws_szIntS.f l a = some r ∧ (r < 0 ∨ 0 ≤ r ∧ r ≤ a ∧ (l.length : Int) ≤ a) := by
 unfold laws_szIntS.f
 rw [w64 (by omega) (by omega)]
 by_cases c : a - (l.length : Int) < 0
 ·exact ⟨-1, by rw [if_pos c], .inl (by omega)⟩
 ·exact ⟨_, by rw [if_neg c], .inr (by omega)⟩
theorem szTrain_tells (x : Int) (l : List Int) (y a : Int) (h0 : 0 ≤ a) (h1 : a ≤ 1048576) (hl : l.length ≤ 9223372036854775807) :
  ∃ r, laws_szTrain.f x l y a = some r ∧ (r < 0 ∨ 0 ≤ r ∧ r ≤ a ∧ (l.length : Int) ≤ a) := by
 obtain ⟨r, h, hr⟩ := szIntS_tells l a h0 h1 hl
 unfold laws_szTrain.f
 rw [h]
 simp only [Option.bind_some]
 by_cases c : r < 0
 ·exact ⟨-1, by rw [if_pos c], .inl (by omega)⟩
 ·exact ⟨r, by rw [if_neg c], hr⟩
theorem szTrainS_loop (T : List S80) (hT : T.length ≤ 1048576) (hp : ∀ t ∈ T, t.f1.length ≤ 9223372036854775807) : ∀ (d i : Nat) (a : Int), i + d = T.length → 0 ≤ a → a ≤ 1048576 →
  ∃ r, Ev (fun k => laws_szTrainS.l0 k T a (i : Int)) r ∧ (r < 0 ∨ 0 ≤ r ∧ r ≤ a ∧ ∀ t ∈ T.drop i, (t.f1.length : Int) ≤ a)
 | 0, i, a, h, h0, h1 => by
  refine ⟨a, Ev.one (fun k => ?_), .inr ⟨h0, Int.le_refl _, ?_⟩⟩
  ·simp only [laws_szTrainS.l0]; rw [if_neg (by omega)]
  ·rw [List.drop_eq_nil_of_le (by omega)]; simp
 | d + 1, i, a, h, h0, h1 => by
  have hi : i < T.length := by omega
  have hm : T.getD i z80 ∈ T := by rw [List.getD_eq_getElem?_getD, List.getElem?_eq_getElem hi]; exact List.getElem_mem hi
  obtain ⟨r1, e1, hr1⟩ := szTrain_tells (T.getD i z80).f0 (T.getD i z80).f1 (T.getD i z80).f2 a h0 h1 (hp _ hm)
  by_cases c : r1 < 0
  ·refine ⟨-1, Ev.one (fun k => ?_), .inl (by omega)⟩
   simp only [laws_szTrainS.l0]
   rw [if_pos (by omega), if_pos (by omega), rd_L, e1]
   simp only [Option.bind_some]
   rw [if_pos c]
  ·obtain ⟨r, e, hr⟩ := szTrainS_loop T hT hp d (i + 1) r1 (by omega) (by omega) (by omega)
   refine ⟨r, Ev.step (fun k => ?_) e, ?_⟩
   ·simp only [laws_szTrainS.l0]
    rw [if_pos (by omega), if_pos (by omega), rd_L, e1]
    simp only [Option.bind_some]
    rw [if_neg c, wsucc hi (by omega)]
   ·rcases hr with hr | ⟨hr0, hr2, hr3⟩
    ·exact .inl hr
    ·refine .inr ⟨hr0, by omega, ?_⟩
     rw [drop_cons z80 hi]
     intro t ht
     rcases List.mem_cons.1 ht with rfl | ht
     ·omega
     ·have := hr3 t ht; omega
theorem szTrainS_tells (T : List S80) (a : Int) (h0 : 0 ≤ a) (h1 : a ≤ 1048576) (hT : T.length ≤ 9223372036854775807) (hp : ∀ t ∈ T, t.f1.length ≤ 9223372036854775807) :
  ∃ r, Ev (fun k => laws_szTrainS.f k T a) r ∧ (r < 0 ∨ 0 ≤ r ∧ r ≤ a ∧ (T.length : Int) ≤ a ∧ ∀ t ∈ T, (t.f1.length : Int) ≤ a) := by
 by_cases c : a - (T.length : Int) < 0
 ·refine ⟨-1, Ev.all (fun k => ?_), .inl (by omega)⟩
  unfold laws_szTrainS.f
  rw [w64 (by omega) (by omega), if_pos c]
 ·obtain ⟨r, e, hr⟩ := szTrainS_loop T (by omega) hp T.length 0 (a - (T.length : Int)) (by omega) (by omega) (by omega)
  refine ⟨r, ?_, ?_⟩
  ·refine Ev.congr (fun k => ?_) e
   unfold laws_szTrainS.f
   rw [w64 (by omega) (by omega), if_neg c]
   rfl
  ·rcases hr with hr | ⟨hr0, hr1, hr2⟩
   ·exact .inl hr
   ·refine .inr ⟨hr0, by omega, by omega, fun t ht => ?_⟩
    have := hr2 t (by simpa using ht)
    omega
/-- What the laws let in. -/
structure Small (R : List Int) (T : List S80) (N : List Int) : Prop where
 hR : R.length ≤ 1048576
 hT : T.length ≤ 1048576
 hN : N.length ≤ 1048576
 hP : ∀ t ∈ T, t.f1.length ≤ 1048576
/-- What memory lets in. -/
structure Mem (R : List Int) (T : List S80) (N : List Int) : Prop where
 hR : R.length ≤ 9223372036854775807
 hT : T.length ≤ 9223372036854775807
 hN : N.length ≤ 9223372036854775807
 hP : ∀ t ∈ T, t.f1.length ≤ 9223372036854775807
theorem Mem.of_reads {w : World} {A0 A1 A2 : Option Addr} {R : List Int} {T : List S80} {N : List Int} (h0 : Kd.C (Kd.int .i64) w A0 R.length R) (h1 : Kd.C k80 w A1 T.length T) (h2 : Kd.C (Kd.int .i64) w A2 N.length N) : Mem R T N :=
 ⟨h0.2.1, h1.2.1, h2.2.1, fun t ht => by
  obtain ⟨j, hj, rfl⟩ := List.getElem_of_mem ht
  obtain ⟨ad, e, hc⟩ := h1.2.2 (by omega)
  obtain ⟨c, _, hK, _⟩ := hc j _ (List.getElem?_eq_getElem hj)
  obtain ⟨A, c', _, _, hC⟩ := k80_open hK
  exact hC.2.1⟩
theorem szState_tells {R : List Int} {T : List S80} {N : List Int} (h : Mem R T N) : ∃ r, Ev (fun k => laws_szState.f k R T N 1048576) r ∧ (r < 0 ∨ 0 ≤ r ∧ Small R T N) := by
 obtain ⟨r1, e1, h1⟩ := szIntS_tells R 1048576 (by omega) (by omega) h.hR
 unfold laws_szState.f
 simp only [e1, Option.bind_some]
 by_cases c1 : r1 < 0
 ·exact ⟨-1, Ev.all (fun k => by rw [if_pos c1]), .inl (by omega)⟩
 ·simp only [if_neg c1]
  obtain ⟨r2, e2, h2⟩ := szTrainS_tells T r1 (by omega) (by omega) h.hT h.hP
  by_cases c2 : r2 < 0
  ·exact ⟨-1, Ev.bind e2 (Ev.all (fun k => by rw [if_pos c2])), .inl (by omega)⟩
  ·obtain ⟨r3, e3, h3⟩ := szIntS_tells N r2 (by omega) (by omega) h.hN
   by_cases c3 : r3 < 0
   ·exact ⟨-1, Ev.bind e2 (Ev.all (fun k => by rw [if_neg c2, e3]; simp only [Option.bind_some]; rw [if_pos c3])), .inl (by omega)⟩
   ·refine ⟨r3, Ev.bind e2 (Ev.all (fun k => by rw [if_neg c2, e3]; simp only [Option.bind_some]; rw [if_neg c3])), .inr ⟨by omega, by omega, by omega, by omega, fun t ht => ?_⟩⟩
    rcases h2 with h2 | ⟨_, h2, _, h4⟩
    ·omega
    ·have := h4 t ht; omega

/-! ### copies -/
theorem toIntS_loop (l : List Int) (hl : l.length ≤ 35184372088832) : ∀ (d i : Nat), i + d = l.length → Ev (fun k => laws_toIntS.l0 k l (l.take i ++ List.replicate d 0) (i : Int)) l
 | 0, i, h => by
  refine Ev.one (fun k => ?_)
  simp only [laws_toIntS.l0]; rw [if_neg (by omega)]
  simp [List.take_of_length_le (show l.length ≤ i by omega)]
 | d + 1, i, h => by
  have hi : i < l.length := by omega
  refine Ev.step (fun k => ?_) (toIntS_loop l hl d (i + 1) (by omega))
  simp only [laws_toIntS.l0]
  have hlen : (l.take i ++ List.replicate (d + 1) (0 : Int)).length = l.length := by simp; omega
  rw [if_pos (by omega), if_pos (by omega), if_pos (by rw [hlen]; omega), wsucc hi (by omega)]
  congr 1
  have e : (l.take i ++ List.replicate (d + 1) (0 : Int)).set i (l.getD i 0) = l.take (i + 1) ++ List.replicate d 0 := by
   rw [List.set_append_right _ _ (by simp; omega), List.length_take, Nat.min_eq_left (by omega), Nat.sub_self, List.replicate_succ, List.set_cons_zero, List.take_succ_eq_append_getElem hi, List.append_assoc, List.singleton_append, List.getD_eq_getElem?_getD, List.getElem?_eq_getElem hi]
   rfl
  rw [rd_I]
  simpa using e
theorem toIntS_tells (l : List Int) (hl : l.length ≤ 35184372088832) : Ev (fun k => laws_toIntS.f k l) l := by
 refine Ev.congr (fun k => ?_) (toIntS_loop l hl l.length 0 (by omega))
 unfold laws_toIntS.f
 rw [if_pos (by omega), if_pos (by simpa using hl)]
 simp
/-- A train, as the program has it. -/
def cv (t : S80) : S48 := ⟨t.f0, t.f1, t.f2⟩
theorem Small.paths {R : List Int} {T : List S80} {N : List Int} (h : Small R T N) : ∀ t ∈ T.map cv, t.f1.length ≤ 9223372036854775807 := by
 intro t ht
 obtain ⟨u, hu, rfl⟩ := List.mem_map.1 ht
 have := h.hP u hu
 show u.f1.length ≤ _
 omega
theorem toTrain_tells (a : Int) (l : List Int) (b : Int) (hl : l.length ≤ 35184372088832) : Ev (fun k => laws_toTrain.f k a l b) (a, l, b) :=
 Ev.bind (toIntS_tells l hl) (Ev.now _)
theorem toTrainS_loop (T : List S80) (hT : T.length ≤ 1048576) (hp : ∀ t ∈ T, t.f1.length ≤ 1048576) : ∀ (d i : Nat), i + d = T.length → Ev (fun k => laws_toTrainS.l0 k T ((T.take i).map cv ++ List.replicate d z48) (i : Int)) (T.map cv)
 | 0, i, h => by
  refine Ev.one (fun k => ?_)
  simp only [laws_toTrainS.l0]; rw [if_neg (by omega)]
  simp [List.take_of_length_le (show T.length ≤ i by omega)]
 | d + 1, i, h => by
  have hi : i < T.length := by omega
  have hm : T.getD i z80 ∈ T := by rw [List.getD_eq_getElem?_getD, List.getElem?_eq_getElem hi]; exact List.getElem_mem hi
  have hlen : ((T.take i).map cv ++ List.replicate (d + 1) z48).length = T.length := by simp; omega
  have e1 := toTrain_tells (T.getD i z80).f0 (T.getD i z80).f1 (T.getD i z80).f2 (by have := hp _ hm; omega)
  refine Ev.step (f := fun k => (laws_toTrain.f k (T.getD i z80).f0 (T.getD i z80).f1 (T.getD i z80).f2).bind fun bt => laws_toTrainS.l0 k T (((T.take i).map cv ++ List.replicate (d + 1) z48).set i ⟨bt.1, bt.2.1, bt.2.2⟩) ((i + 1 : Nat) : Int)) (fun k => ?_) ?_
  ·simp only [laws_toTrainS.l0]
   rw [if_pos (by omega), if_pos (by omega), wsucc hi (by omega)]
   simp only [rd_L]
   congr 1
   funext bt
   rw [if_pos (by rw [hlen]; omega)]
   simp
  ·refine Ev.bind e1 ?_
   have e : ((T.take i).map cv ++ List.replicate (d + 1) z48).set i ⟨(T.getD i z80).f0, (T.getD i z80).f1, (T.getD i z80).f2⟩ = (T.take (i + 1)).map cv ++ List.replicate d z48 := by
    rw [List.set_append_right _ _ (by simp; omega), List.length_map, List.length_take, Nat.min_eq_left (by omega), Nat.sub_self, List.replicate_succ, List.set_cons_zero, List.take_succ_eq_append_getElem hi, List.map_append, List.append_assoc, List.getD_eq_getElem?_getD, List.getElem?_eq_getElem hi]
    rfl
   simp only [e]
   exact toTrainS_loop T hT hp d (i + 1) (by omega)
theorem toTrainS_tells (T : List S80) (hT : T.length ≤ 1048576) (hp : ∀ t ∈ T, t.f1.length ≤ 1048576) : Ev (fun k => laws_toTrainS.f k T) (T.map cv) := by
 refine Ev.congr (fun k => ?_) (toTrainS_loop T hT hp T.length 0 (by omega))
 unfold laws_toTrainS.f
 rw [if_pos (by omega), if_pos (by simp; omega)]
 simp
theorem toState_tells {R : List Int} {T : List S80} {N : List Int} (h : Small R T N) : Ev (fun k => laws_toState.f k R T N) (R, T.map cv, N) := by
 have hR := h.hR
 have hN := h.hN
 exact Ev.bind (toIntS_tells R (by omega)) (Ev.bind (toTrainS_tells T h.hT h.hP) (Ev.bind (toIntS_tells N (by omega)) (Ev.now _)))

/-! ### equality -/
instance : DecidableEq S48 := fun x y => decidable_of_iff (x.f0 = y.f0 ∧ x.f1 = y.f1 ∧ x.f2 = y.f2) ⟨fun h => by cases x; cases y; simp_all, fun h => by subst h; exact ⟨rfl, rfl, rfl⟩⟩
theorem eqIntS_loop (l m : List Int) (hl : l.length ≤ 9223372036854775807) (e : l.length = m.length) : ∀ (d i : Nat), i + d = l.length → Ev (fun k => laws_eqIntS.l0 k l m (i : Int)) (decide (l.drop i = m.drop i))
 | 0, i, h => by
  refine Ev.one (fun k => ?_)
  simp only [laws_eqIntS.l0]; rw [if_neg (by omega)]
  rw [List.drop_eq_nil_of_le (by omega), List.drop_eq_nil_of_le (by omega)]; simp
 | d + 1, i, h => by
  have hi : i < l.length := by omega
  by_cases c : l.getD i 0 = m.getD i 0
  ·refine Ev.eq (Ev.step (fun k => ?_) (eqIntS_loop l m hl e d (i + 1) (by omega))) ?_
   ·simp only [laws_eqIntS.l0]
    rw [if_pos (by omega), if_pos (by omega), if_pos (by omega), rd_I, rd_I, if_pos c, wsucc hi hl]
   ·rw [drop_cons 0 hi, drop_cons 0 (show i < m.length by omega), c]; simp
  ·refine Ev.one (fun k => ?_)
   simp only [laws_eqIntS.l0]
   rw [if_pos (by omega), if_pos (by omega), if_pos (by omega), rd_I, rd_I, if_neg c]
   rw [drop_cons 0 hi, drop_cons 0 (show i < m.length by omega)]
   simp only [List.cons.injEq, c, false_and, decide_false]
theorem eqIntS_tells (l m : List Int) (hl : l.length ≤ 9223372036854775807) : Ev (fun k => laws_eqIntS.f k l m) (decide (l = m)) := by
 by_cases e : l.length = m.length
 ·refine Ev.eq (Ev.congr (fun k => ?_) (eqIntS_loop l m hl e l.length 0 (by omega))) (by simp)
  unfold laws_eqIntS.f
  rw [if_pos (by omega)]
  simp
 ·refine Ev.all (fun k => ?_)
  unfold laws_eqIntS.f
  rw [if_neg (by omega)]
  have : l ≠ m := fun h => e (by rw [h])
  simp [this]
theorem eqTrain_tells (x y : S48) (hl : x.f1.length ≤ 9223372036854775807) : Ev (fun k => laws_eqTrain.f k x.f0 x.f1 x.f2 y.f0 y.f1 y.f2) (decide (x = y)) := by
 obtain ⟨a, p, b⟩ := x
 obtain ⟨a', p', b'⟩ := y
 unfold laws_eqTrain.f
 by_cases c1 : a = a'
 ·simp only [if_pos c1]
  refine Ev.bind (eqIntS_tells p p' hl) ?_
  by_cases c2 : p = p'
  ·by_cases c3 : b = b'
   ·exact Ev.all (fun k => by simp [c1, c2, c3])
   ·exact Ev.all (fun k => by simp [c1, c2, c3])
  ·exact Ev.all (fun k => by simp [c1, c2])
 ·exact Ev.all (fun k => by simp [c1])
theorem eqTrainS_loop (l m : List S48) (hl : l.length ≤ 9223372036854775807) (hp : ∀ t ∈ l, t.f1.length ≤ 9223372036854775807) (e : l.length = m.length) : ∀ (d i : Nat), i + d = l.length → Ev (fun k => laws_eqTrainS.l0 k l m (i : Int)) (decide (l.drop i = m.drop i))
 | 0, i, h => by
  refine Ev.one (fun k => ?_)
  simp only [laws_eqTrainS.l0]; rw [if_neg (by omega)]
  rw [List.drop_eq_nil_of_le (by omega), List.drop_eq_nil_of_le (by omega)]; simp
 | d + 1, i, h => by
  have hi : i < l.length := by omega
  have hm : l.getD i z48 ∈ l := by rw [List.getD_eq_getElem?_getD, List.getElem?_eq_getElem hi]; exact List.getElem_mem hi
  have e1 := eqTrain_tells (l.getD i z48) (m.getD i z48) (hp _ hm)
  refine Ev.step (f := fun k => (laws_eqTrain.f k (l.getD i z48).f0 (l.getD i z48).f1 (l.getD i z48).f2 (m.getD i z48).f0 (m.getD i z48).f1 (m.getD i z48).f2).bind fun t => if t = true then laws_eqTrainS.l0 k l m ((i + 1 : Nat) : Int) else some false) (fun k => ?_) (Ev.bind e1 ?_)
  ·simp only [laws_eqTrainS.l0]
   rw [if_pos (by omega), if_pos (by omega), if_pos (by omega), wsucc hi hl]
   simp only [rd_T]
  ·by_cases c : l.getD i z48 = m.getD i z48
   ·refine Ev.eq (Ev.congr (fun k => ?_) (eqTrainS_loop l m hl hp e d (i + 1) (by omega))) ?_
    ·rw [if_pos (by simp only [c, decide_true])]
    ·rw [drop_cons z48 hi, drop_cons z48 (show i < m.length by omega), c]; simp
   ·refine Ev.all (fun k => ?_)
    rw [if_neg (by simpa using c), drop_cons z48 hi, drop_cons z48 (show i < m.length by omega)]
    simp only [List.cons.injEq, c, false_and, decide_false]
theorem eqTrainS_tells (l m : List S48) (hl : l.length ≤ 9223372036854775807) (hp : ∀ t ∈ l, t.f1.length ≤ 9223372036854775807) : Ev (fun k => laws_eqTrainS.f k l m) (decide (l = m)) := by
 by_cases e : l.length = m.length
 ·refine Ev.eq (Ev.congr (fun k => ?_) (eqTrainS_loop l m hl hp e l.length 0 (by omega))) (by simp)
  unfold laws_eqTrainS.f
  rw [if_pos (by omega)]
  simp
 ·refine Ev.all (fun k => ?_)
  unfold laws_eqTrainS.f
  rw [if_neg (by omega)]
  have : l ≠ m := fun h => e (by rw [h])
  simp [this]
theorem eqState_tells (R : List Int) (T : List S48) (N R' : List Int) (T' : List S48) (N' : List Int) (hR : R.length ≤ 9223372036854775807) (hT : T.length ≤ 9223372036854775807) (hN : N.length ≤ 9223372036854775807) (hp : ∀ t ∈ T, t.f1.length ≤ 9223372036854775807) :
  Ev (fun k => laws_eqState.f k R T N R' T' N') (decide (R = R' ∧ T = T' ∧ N = N')) := by
 unfold laws_eqState.f
 refine Ev.bind (eqIntS_tells R R' hR) ?_
 by_cases c1 : R = R'
 ·simp only [c1, decide_true, if_true]
  refine Ev.bind (eqTrainS_tells T T' hT hp) ?_
  by_cases c2 : T = T'
  ·simp only [c2, decide_true, if_true]
   refine Ev.bind (eqIntS_tells N N' hN) ?_
   by_cases c3 : N = N'
   ·exact Ev.all (fun k => by simp [c3])
   ·exact Ev.all (fun k => by simp [c3])
  ·exact Ev.all (fun k => by simp [c2])
 ·exact Ev.all (fun k => by simp [c1])
end Go.Proofs.YtkcocomehhlpmaaDoor.Pu
