/- The specification's states, by how far each train has come. No program in sight. -/
import Derived.Test.YtkcocomehhlpmaaDoorFnSpoiltSr5
import Derived.Test.YtkcocomehhlpmaaDoorFnSpoiltPure6
namespace Go.Proofs.YtkcocomehhlpmaaDoor.Sp
open Go.RowKit Go.Proofs.YtkcocomehhlpmaaDoorW.PrintWords Go.Proofs.YtkcocomehhlpmaaDoorW.PrintLast Go.Proofs.YtkcocomehhlpmaaDoor.Q Go.Proofs.YtkcocomehhlpmaaDoor.Pu Go.Proofs.YtkcocomehhlpmaaDoor.Sr
set_option linter.unusedVariables false
set_option linter.unusedSimpArgs false
/-- The trains that are there yet. -/
def idx (T : List S48) (v : List Nat) : List Nat := (List.range T.length).filter (fun i => decide (0 ≤ atP T v i))
def tr (T : List S48) (v : List Nat) (i : Nat) : S48 := ⟨atP T v i, (T.getD i z48).f1.drop (v.getD i 0), (T.getD i z48).f2⟩
def stT (T : List S48) (v : List Nat) : List S48 := (idx T v).map (tr T v)
def stN (T : List S48) (N : List Int) (v : List Nat) : List Int := (idx T v).map (fun i => N.getD i 0)
section
variable {R : List Int} {T : List S48} {N : List Int}
theorem stT_len (T : List S48) (v : List Nat) : (stT T v).length = (idx T v).length := by simp [stT]
theorem stN_len (T : List S48) (N : List Int) (v : List Nat) : (stN T N v).length = (idx T v).length := by simp [stN]
theorem idx_mem {v : List Nat} {i : Nat} : i ∈ idx T v ↔ i < T.length ∧ 0 ≤ atP T v i := by simp [idx]
theorem idx_nodup (T : List S48) (v : List Nat) : (idx T v).Nodup := List.nodup_range.filter _
theorem idx_len (T : List S48) (v : List Nat) : (idx T v).length ≤ T.length := by
 have := List.length_filter_le (fun i => decide (0 ≤ atP T v i)) (List.range T.length)
 simpa [idx] using this
theorem mapD {α β : Type} (l : List α) (f : α → β) {k : Nat} (hk : k < l.length) (z : α) (y : β) : (l.map f).getD k y = f (l.getD k z) := by
 simp [List.getD, hk]
theorem stT_get {v : List Nat} {k : Nat} (hk : k < (idx T v).length) : (stT T v).getD k z48 = tr T v ((idx T v).getD k 0) := mapD _ _ hk 0 _
theorem st_wf (h : Wf R T N) {v : List Nat} : Wf R (stT T v) (stN T N v) := by
 have hm : ∀ t, t ∈ stT T v → ∃ i, i < T.length ∧ 0 ≤ atP T v i ∧ t = tr T v i := by
  intro t ht
  obtain ⟨i, hi, rfl⟩ := List.mem_map.1 ht
  exact ⟨i, (idx_mem.1 hi).1, (idx_mem.1 hi).2, rfl⟩
 refine ⟨h.r1, by rw [stT_len]; exact Nat.le_trans (idx_len T v) h.t1, by rw [stT_len, stN_len], h.room, fun t ht => ?_, fun t ht => ?_, fun t ht => ?_, fun t ht => ?_⟩
 ·obtain ⟨i, hi, h0, rfl⟩ := hm t ht
  have := atP_range h v hi
  show 0 ≤ atP T v i ∧ atP T v i < _
  omega
 ·obtain ⟨i, hi, h0, rfl⟩ := hm t ht
  have := h.path _ (getD_mem z48 hi)
  show ((T.getD i z48).f1.drop _).length ≤ 8
  rw [List.length_drop]; omega
 ·obtain ⟨i, hi, h0, rfl⟩ := hm t ht
  intro x hx
  exact h.on _ (getD_mem z48 hi) x (List.mem_of_mem_drop hx)
 ·obtain ⟨i, hi, h0, rfl⟩ := hm t ht
  exact h.wt (T.getD i z48) (getD_mem z48 hi)
theorem countP_eq {α : Type} {p q : α → Bool} (h : ∀ x, p x = q x) (l : List α) : l.countP p = l.countP q := by
 have : p = q := funext h
 rw [this]
theorem cnt_st {v : List Nat} {a : Int} (ha : 0 ≤ a) : cnt (stT T v) a = thP T v a T.length := by
 unfold cnt stT idx thP
 rw [List.countP_map, List.countP_filter]
 apply countP_eq
 intro i
 show (decide (atP T v i = a) && decide (0 ≤ atP T v i)) = decide (atP T v i = a)
 by_cases c : atP T v i = a
 ·simp [c, ha]
 ·simp [c]
theorem wgt_append (A B : List S48) : Pu.wgt (A ++ B) = Pu.wgt A + Pu.wgt B := by
 induction A with
 | nil => simp [Pu.wgt]
 | cons t A ih => simp only [List.cons_append, Pu.wgt, ih]; omega
theorem wgt_st (v : List Nat) : Pu.wgt (stT T v) = wtP T v T.length := by
 have h : ∀ n, Pu.wgt (((List.range n).filter (fun i => decide (0 ≤ atP T v i))).map (tr T v)) = wtP T v n := by
  intro n
  induction n with
  | zero => simp [Pu.wgt, wtP]
  | succ n ih =>
   rw [List.range_succ, List.filter_append, List.map_append, wgt_append, ih]
   simp only [wtP]
   by_cases c : 0 ≤ atP T v n
   ·simp [c, Pu.wgt, tr]
   ·simp [c, Pu.wgt]
 exact h T.length
theorem toP_of {v : List Nat} {i : Nat} : toP T v i = if h : v.getD i 0 < (T.getD i z48).f1.length then (T.getD i z48).f1[v.getD i 0] else -1 := by
 unfold toP atD
 rw [if_neg (by omega)]
 by_cases c : v.getD i 0 < (T.getD i z48).f1.length
 ·rw [if_pos (by omega), dif_pos c, Nat.add_sub_cancel, List.getD_eq_getElem?_getD, List.getElem?_eq_getElem c]; rfl
 ·rw [if_neg (by omega), dif_neg c]
theorem can_st (h : Wf R T N) {v : List Nat} {k : Nat} (hk : k < (idx T v).length) : canB R (stT T v) k = okP R T v ((idx T v).getD k 0) := by
 have hm := idx_mem.1 (getD_mem 0 hk)
 have hr := toP_range h v hm.1
 unfold canB
 rw [stT_get hk]
 generalize (idx T v).getD k 0 = i at *
 have ht := toP_of (T := T) (v := v) (i := i)
 show (match (T.getD i z48).f1.drop (v.getD i 0) with | [] => true | x :: _ => decide ((cnt (stT T v) x : Int) < R.getD x.toNat 0)) = _
 by_cases c : v.getD i 0 < (T.getD i z48).f1.length
 ·rw [dif_pos c] at ht
  rw [List.drop_eq_getElem_cons c]
  have h0 : 0 ≤ toP T v i := by
   have := h.on _ (getD_mem z48 hm.1) _ (List.getElem_mem c)
   rw [ht]; exact this.1
  have e : okP R T v i = decide ((thP T v (toP T v i) T.length : Int) < R.getD (toP T v i).toNat 0) := by
   unfold okP
   rw [decide_eq_true hm.2, decide_eq_false (show ¬ toP T v i < 0 by omega)]
   simp
  rw [e]
  show decide ((cnt (stT T v) _ : Int) < _) = _
  rw [← ht, cnt_st h0]
 ·rw [dif_neg c] at ht
  rw [List.drop_eq_nil_of_le (by omega)]
  have e : okP R T v i = true := by
   unfold okP
   rw [decide_eq_true hm.2, ht]
   simp
  rw [e]
theorem erase_filter {α : Type} [DecidableEq α] : ∀ (l : List α) (k : Nat) (h : k < l.length), l.Nodup → l.eraseIdx k = l.filter (fun x => decide (x ≠ l[k]))
 | [], k, h, _ => by simp at h
 | a :: l, 0, _, hn => by
  have hn' := List.nodup_cons.1 hn
  simp only [List.eraseIdx_cons_zero, List.getElem_cons_zero]
  rw [List.filter_cons_of_neg (by simp)]
  symm
  apply List.filter_eq_self.2
  intro x hx
  have : x ≠ a := fun e => hn'.1 (e ▸ hx)
  simpa using this
 | a :: l, k + 1, h, hn => by
  have hn' := List.nodup_cons.1 hn
  have hk : k < l.length := by simpa using h
  have ha : a ≠ l[k] := fun e => hn'.1 (e ▸ List.getElem_mem hk)
  simp only [List.eraseIdx_cons_succ, List.getElem_cons_succ]
  rw [List.filter_cons_of_pos (by simpa using ha), erase_filter l k hk hn'.2]
theorem erase_map {α β : Type} (f : α → β) : ∀ (l : List α) (k : Nat), (l.map f).eraseIdx k = (l.eraseIdx k).map f
 | [], k => by simp
 | a :: l, 0 => by simp
 | a :: l, k + 1 => by simp [erase_map f l k]
theorem atP_inc_ne {v : List Nat} {i j : Nat} (hi : i < v.length) (h : j ≠ i) : atP T (inc v i) j = atP T v j := by
 unfold atP
 rw [inc_get v hi, if_neg h, Nat.add_zero]
theorem atP_inc {v : List Nat} {i : Nat} (hi : i < v.length) : atP T (inc v i) i = toP T v i := by
 unfold atP toP
 rw [inc_get v hi, if_pos rfl]
theorem tr_ne {v : List Nat} {i j : Nat} (hi : i < v.length) (h : j ≠ i) : tr T (inc v i) j = tr T v j := by
 unfold tr
 rw [atP_inc_ne hi h, inc_get v hi, if_neg h, Nat.add_zero]
/-- A step of the k-th that is there: its train has come one further. -/
theorem step_st (h : Wf R T N) {v : List Nat} (hl : T.length ≤ v.length) {k : Nat} (hk : k < (idx T v).length) : stepD R (stT T v) (stN T N v) k = (R, stT T (inc v ((idx T v).getD k 0)), stN T N (inc v ((idx T v).getD k 0))) := by
 have hm := idx_mem.1 (getD_mem 0 hk)
 have hg : (idx T v).getD k 0 = (idx T v)[k] := by simp [List.getD, hk]
 have hnd := idx_nodup T v
 unfold stepD
 rw [stT_get hk]
 generalize hi : (idx T v).getD k 0 = i at *
 have hiv : i < v.length := by omega
 have ht := toP_of (T := T) (v := v) (i := i)
 show (match (T.getD i z48).f1.drop (v.getD i 0) with | [] => (R, (stT T v).eraseIdx k, (stN T N v).eraseIdx k) | x :: p => (R, (stT T v).set k ⟨x, p, (T.getD i z48).f2⟩, stN T N v)) = _
 by_cases c : v.getD i 0 < (T.getD i z48).f1.length
 ·rw [dif_pos c] at ht
  rw [List.drop_eq_getElem_cons c]
  have h0 : 0 ≤ toP T v i := by
   have := h.on _ (getD_mem z48 hm.1) _ (List.getElem_mem c)
   rw [ht]; exact this.1
  have hidx : idx T (inc v i) = idx T v := by
   unfold idx
   apply List.filter_congr
   intro j hj
   by_cases e : j = i
   ·subst e
    rw [atP_inc hiv, decide_eq_true h0, decide_eq_true hm.2]
   ·rw [atP_inc_ne hiv e]
  have hN : stN T N (inc v i) = stN T N v := by unfold stN; rw [hidx]
  rw [hN]
  show (R, (stT T v).set k _, stN T N v) = _
  congr 2
  unfold stT
  rw [hidx]
  apply List.ext_getElem
  ·simp
  ·intro j h1 h2
   rw [List.getElem_set]
   by_cases e : k = j
   ·rw [if_pos e]
    subst e
    simp only [List.getElem_map, ← hg]
    unfold tr
    rw [atP_inc hiv, inc_get v hiv, if_pos rfl, ← ht]
   ·rw [if_neg e]
    simp only [List.getElem_map]
    have hj : j < (idx T v).length := by simpa using h2
    have hne : (idx T v)[j] ≠ i := by
     rw [hg]
     intro e2
     exact e ((List.getElem_inj hnd).1 e2).symm
    rw [tr_ne hiv hne]
 ·rw [dif_neg c] at ht
  rw [List.drop_eq_nil_of_le (by omega)]
  have hidx : idx T (inc v i) = (idx T v).eraseIdx k := by
   rw [erase_filter _ k hk hnd, ← hg]
   unfold idx
   rw [List.filter_filter]
   apply List.filter_congr
   intro j hj
   by_cases e : j = i
   ·subst e
    rw [atP_inc hiv, ht]; simp
   ·rw [atP_inc_ne hiv e]; simp [e]
  show (R, (stT T v).eraseIdx k, (stN T N v).eraseIdx k) = _
  have hne : ∀ j, j ∈ (idx T v).eraseIdx k → j ≠ i := by
   intro j hj
   rw [erase_filter _ k hk hnd, ← hg] at hj
   simpa using (List.mem_filter.1 hj).2
  unfold stT stN
  rw [hidx, erase_map, erase_map]
  congr 2
  apply List.map_congr_left
  intro j hj
  rw [tr_ne hiv (hne j hj)]
end
end Go.Proofs.YtkcocomehhlpmaaDoor.Sp
