/- Rings, as plain Lean: what is found is a ring; where everybody waits there is one. No program in sight. -/
import Derived.Test.YtckkppehfpjbpaaFnRingRg0
namespace Go.Proofs.Ytckkppehfpjbpaa.Rg
open Go.RowKit Go.Proofs.YtckkppehfpjbpaaW.PrintWords Go.Proofs.YtckkppehfpjbpaaW.PrintLast Go.Proofs.Ytckkppehfpjbpaa.Q Go.Proofs.Ytckkppehfpjbpaa.Pu
set_option linter.unusedVariables false
set_option linter.unusedSimpArgs false
section
variable {nb : Int → List Int} {fr : Int}
theorem last_snoc (w : List Int) (x : Int) : (w ++ [x]).getLastD 0 = x := by simp [List.getLastD_eq_getLast?]
theorem inn_true {w : List Int} : ∀ (xs s : List Int) (m : List (List Int)), (inn fr w xs s m).1 = true → fr ∈ xs
 | [], s, m, h => by simp [inn] at h
 | x :: xs, s, m, h => by
  by_cases c : x = fr
  ·simp [c]
  ·by_cases d : x ∈ s
   ·rw [inn_seen c d] at h; exact List.mem_cons_of_mem _ (inn_true xs _ _ h)
   ·rw [inn_new c d] at h; exact List.mem_cons_of_mem _ (inn_true xs _ _ h)
theorem inn_cnt {w : List Int} : ∀ (xs s : List Int) (m : List (List Int)), s.Nodup → (inn fr w xs s m).2.1.Nodup ∧ s.length + (inn fr w xs s m).2.2.length = (inn fr w xs s m).2.1.length + m.length
 | [], s, m, h => ⟨h, by simp [inn]⟩
 | x :: xs, s, m, h => by
  by_cases c : x = fr
  ·simp only [inn, if_pos c]; exact ⟨h, by simp⟩
  ·by_cases d : x ∈ s
   ·rw [inn_seen c d]; exact inn_cnt xs s m h
   ·rw [inn_new c d]
    have ih := inn_cnt (w := w) xs (s ++ [x]) (m ++ [w ++ [x]]) (List.nodup_append.2 ⟨h, by simp, fun a ha b hb => by rw [List.mem_singleton.1 hb]; exact fun e => d (e ▸ ha)⟩)
    refine ⟨ih.1, ?_⟩
    have h2 := ih.2
    simp only [List.length_append, List.length_singleton] at h2
    omega
/-- Nobody was met: all were come to. -/
theorem inn_all {w : List Int} : ∀ (xs s : List Int) (m : List (List Int)), (inn fr w xs s m).1 = false → (∀ x ∈ xs, x ∈ (inn fr w xs s m).2.1) ∧ (∀ y ∈ s, y ∈ (inn fr w xs s m).2.1) ∧ (∀ v ∈ m, v ∈ (inn fr w xs s m).2.2) ∧
  (∀ y ∈ (inn fr w xs s m).2.1, y ∈ s ∨ ∃ v ∈ (inn fr w xs s m).2.2, v.getLastD 0 = y) ∧ (fr ∉ s → fr ∉ (inn fr w xs s m).2.1)
 | [], s, m, h => ⟨by simp, fun _ h => h, fun _ h => h, fun _ h => .inl h, fun h => h⟩
 | x :: xs, s, m, h => by
  by_cases c : x = fr
  ·simp [inn, c] at h
  ·by_cases d : x ∈ s
   ·rw [inn_seen c d] at h ⊢
    obtain ⟨h1, h2, h3, h4, h5⟩ := inn_all xs s m h
    refine ⟨fun y hy => ?_, h2, h3, h4, h5⟩
    rcases List.mem_cons.1 hy with rfl | hy
    ·exact h2 _ d
    ·exact h1 y hy
   ·rw [inn_new c d] at h ⊢
    obtain ⟨h1, h2, h3, h4, h5⟩ := inn_all xs (s ++ [x]) (m ++ [w ++ [x]]) h
    refine ⟨fun y hy => ?_, fun y hy => h2 y (List.mem_append_left _ hy), fun v hv => h3 v (List.mem_append_left _ hv), fun y hy => ?_, fun hf => h5 fun e => ?_⟩
    ·rcases List.mem_cons.1 hy with rfl | hy
     ·exact h2 _ (by simp)
     ·exact h1 y hy
    ·rcases h4 y hy with h6 | h6
     ·rcases List.mem_append.1 h6 with h7 | h7
      ·exact .inl h7
      ·rw [List.mem_singleton.1 h7]
       exact .inr ⟨w ++ [x], h3 _ (by simp), last_snoc w x⟩
     ·exact .inr h6
    ·rcases List.mem_append.1 e with e | e
     ·exact hf e
     ·exact c (List.mem_singleton.1 e).symm
theorem lin_cnt : ∀ (ws : List (List Int)) (s : List Int) (m : List (List Int)), s.Nodup → (lin nb fr ws s m).2.1.Nodup ∧ s.length + (lin nb fr ws s m).2.2.length = (lin nb fr ws s m).2.1.length + m.length
 | [], s, m, h => ⟨h, by simp [lin]⟩
 | w :: ws, s, m, h => by
  have h1 := inn_cnt (fr := fr) (w := w) (nb (w.getLastD 0)) s m h
  rw [lin_cons]
  by_cases c : (inn fr w (nb (w.getLastD 0)) s m).1 = true
  ·rw [if_pos c]; exact h1
  ·rw [if_neg c]
   have h2 := lin_cnt ws _ (inn fr w (nb (w.getLastD 0)) s m).2.2 h1.1
   exact ⟨h2.1, by have := h1.2; have := h2.2; omega⟩
theorem lin_all : ∀ (ws : List (List Int)) (s : List Int) (m : List (List Int)), (∀ w ∈ ws, w ≠ []) → (lin nb fr ws s m).1 = [] → (∀ w ∈ ws, ∀ x ∈ nb (w.getLastD 0), x ∈ (lin nb fr ws s m).2.1) ∧ (∀ y ∈ s, y ∈ (lin nb fr ws s m).2.1) ∧ (∀ v ∈ m, v ∈ (lin nb fr ws s m).2.2) ∧
  (∀ y ∈ (lin nb fr ws s m).2.1, y ∈ s ∨ ∃ v ∈ (lin nb fr ws s m).2.2, v.getLastD 0 = y) ∧ (fr ∉ s → fr ∉ (lin nb fr ws s m).2.1)
 | [], s, m, _, _ => ⟨by simp, fun _ h => h, fun _ h => h, fun _ h => .inl h, fun h => h⟩
 | w :: ws, s, m, hw, h => by
  rw [lin_cons] at h ⊢
  by_cases c : (inn fr w (nb (w.getLastD 0)) s m).1 = true
  ·rw [if_pos c] at h; exact absurd h (hw w (by simp))
  ·rw [if_neg c] at h ⊢
   have c' : (inn fr w (nb (w.getLastD 0)) s m).1 = false := by simpa using c
   obtain ⟨g1, g2, g3, g4, g5⟩ := inn_all _ s m c'
   obtain ⟨h1, h2, h3, h4, h5⟩ := lin_all ws _ (inn fr w (nb (w.getLastD 0)) s m).2.2 (fun v hv => hw v (by simp [hv])) h
   refine ⟨fun v hv x hx => ?_, fun y hy => h2 y (g2 y hy), fun v hv => h3 v (g3 v hv), fun y hy => ?_, fun hf => h5 (g5 hf)⟩
   ·rcases List.mem_cons.1 hv with rfl | hv
    ·exact h2 x (g1 x hx)
    ·exact h1 v hv x hx
   ·rcases h4 y hy with h6 | h6
    ·rcases g4 y h6 with h7 | ⟨v, hv, e⟩
     ·exact .inl h7
     ·exact .inr ⟨v, h3 v hv, e⟩
    ·exact .inr h6
/-- Nobody comes back: those that can be come to are closed, and the one isn't among them. -/
theorem rnd_none {P : Int → Prop} (hn : ∀ p, P p → ∀ x ∈ nb p, P x) (hfr : P fr) (hd : ∀ s : List Int, s.Nodup → (∀ x ∈ s, P x) → s.length ≤ 5) : ∀ (k : Nat) (l : List (List Int)) (s : List Int), (l = [] ∨ 8 ≤ k + s.length) → s.Nodup → (∀ x ∈ s, P x) → (∀ v ∈ l, v ≠ [] ∧ ∀ x ∈ v, P x) →
  (∀ y, (y = fr ∨ y ∈ s) → (∀ x ∈ nb y, x ∈ s) ∨ ∃ v ∈ l, v.getLastD 0 = y) → fr ∉ s → rnd nb fr k l s = [] → ∃ S : List Int, (∀ y, (y = fr ∨ y ∈ S) → ∀ x ∈ nb y, x ∈ S) ∧ fr ∉ S ∧ ∀ x ∈ S, P x := by
 intro k
 induction k with
 | zero =>
  intro l s hf hs hP hl h2 h1 hr
  have h5 := hd s hs hP
  have hl0 : l = [] := hf.resolve_right (by omega)
  subst hl0
  exact ⟨s, fun y hy => (h2 y hy).resolve_right (by simp), h1, hP⟩
 | succ k ih =>
  intro l s hf hs hP hl h2 h1 hr
  by_cases c : l = []
  ·subst c
   exact ⟨s, fun y hy => (h2 y hy).resolve_right (by simp), h1, hP⟩
  ·rw [rnd_go c] at hr
   by_cases d : (lin nb fr l s []).1 = []
   ·rw [if_pos d] at hr
    obtain ⟨g1, g2, g3, g4, g5⟩ := lin_all (nb := nb) (fr := fr) l s [] (fun v hv => (hl v hv).1) d
    have hc := lin_cnt (nb := nb) (fr := fr) l s [] hs
    have hk := lin_keep hn hfr l s [] hl hP (by simp)
    refine ih _ _ ?_ hc.1 hk.1 hk.2.1 (fun y hy => ?_) (g5 h1) hr
    ·by_cases e : (lin nb fr l s []).2.2 = []
     ·exact .inl e
     ·right
      have h3 : 0 < (lin nb fr l s []).2.2.length := List.length_pos_iff.2 e
      have h4 := hc.2
      have h6 := hf.resolve_left c
      simp only [List.length_nil] at h4
      omega
    ·have old : (y = fr ∨ y ∈ s) → ∀ x ∈ nb y, x ∈ (lin nb fr l s []).2.1 := fun h x hx => by
      rcases h2 y h with h3 | ⟨v, hv, e⟩
      ·exact g2 x (h3 x hx)
      ·exact g1 v hv x (by rw [e]; exact hx)
     rcases hy with rfl | hy
     ·exact .inl (old (.inl rfl))
     ·rcases g4 y hy with h3 | h3
      ·exact .inl (old (.inr h3))
      ·exact .inr h3
   ·rw [if_neg d] at hr; exact absurd hr d
theorem ringF_none {P : Int → Prop} (hn : ∀ p, P p → ∀ x ∈ nb p, P x) (hfr : P fr) (hd : ∀ s : List Int, s.Nodup → (∀ x ∈ s, P x) → s.length ≤ 5) (h : ringF nb fr = []) : ∃ S : List Int, (∀ y, (y = fr ∨ y ∈ S) → ∀ x ∈ nb y, x ∈ S) ∧ fr ∉ S ∧ ∀ x ∈ S, P x :=
 rnd_none hn hfr hd 8 [[fr]] [] (.inr (Nat.le_refl _)) List.nodup_nil (by simp) (by simp [hfr]) (fun y hy => by
  rcases hy with rfl | hy
  ·exact .inr ⟨[y], by simp, rfl⟩
  ·simp at hy) (by simp) h
end
/-- Where everybody waits for somebody there is a ring. -/
theorem ring_some {P : Int → Prop} {nb : Int → List Int} (hn : ∀ p, P p → ∀ x ∈ nb p, P x) (hd : ∀ s : List Int, s.Nodup → (∀ x ∈ s, P x) → s.length ≤ 5) (hw : ∀ p, P p → nb p ≠ []) {p : Int} (hp : P p) : ∃ q, P q ∧ ringF nb q ≠ [] := by
 refine Classical.byContradiction fun hno => ?_
 have all : ∀ q, P q → ringF nb q = [] := fun q hq => Classical.byContradiction fun e => hno ⟨q, hq, e⟩
 have key : ∀ (n : Nat) (S : List Int), S.length ≤ n → ∀ y, y ∈ S → P y → (∀ z, z ∈ S → ∀ x ∈ nb z, x ∈ S) → (∀ z ∈ S, P z) → False := by
  intro n
  induction n with
  | zero =>
   intro S h y hy _ _ _
   have : S = [] := List.length_eq_zero_iff.1 (by omega)
   subst this; simp at hy
  | succ n ih =>
   intro S h y hy hP hc hS
   obtain ⟨S', c', n', _⟩ := ringF_none hn hP hd (all y hP)
   cases hx : nb y with
   | nil => exact hw y hP hx
   | cons x xs =>
    have hxy : x ∈ nb y := by rw [hx]; simp
    have h1 : x ∈ S := hc y hy x hxy
    have h2 : x ∈ S' := c' y (.inl rfl) x hxy
    refine ih (S.filter (fun z => decide (z ∈ S'))) ?_ x (by simp [h1, h2]) (hS x h1) (fun z hz w hw => ?_) (fun z hz => hS z (List.mem_filter.1 hz).1)
    ·have h3 := List.length_filter_lt_length_iff_exists.2 (show ∃ z ∈ S, ¬ (decide (z ∈ S') = true) from ⟨y, hy, by simpa using n'⟩)
     omega
    ·obtain ⟨a1, a2⟩ := List.mem_filter.1 hz
     have a3 : z ∈ S' := by simpa using a2
     simp only [List.mem_filter, decide_eq_true_eq]
     exact ⟨hc z a1 w hw, c' z (.inr a3) w hw⟩
 obtain ⟨S, c, n, hS⟩ := ringF_none hn hp hd (all p hp)
 cases hx : nb p with
 | nil => exact hw p hp hx
 | cons x xs =>
  have h1 : x ∈ S := c p (.inl rfl) x (by rw [hx]; simp)
  exact key S.length S (Nat.le_refl _) x h1 (hS x h1) (fun z hz => c z (.inr hz)) hS
/-- Nobody waits: no ring. -/
theorem ring_free {nb : Int → List Int} {fr : Int} (h : nb fr = []) : ringF nb fr = [] := by
 unfold ringF
 simp [rnd, lin, inn, h]
/-! ### what is found is a ring -/
/-- A way: from one on, each waits for the next. -/
structure Way (nb : Int → List Int) (fr : Int) (w : List Int) : Prop where
 ne : w ≠ []
 fst : w.getD 0 0 = fr
 nxt : ∀ i, i + 1 < w.length → w.getD (i + 1) 0 ∈ nb (w.getD i 0)
theorem last_get (w : List Int) (h : w ≠ []) : w.getD (w.length - 1) 0 = w.getLastD 0 := by
 rw [List.getD_eq_getElem?_getD, List.getLastD_eq_getLast?, List.getLast?_eq_getElem?]
theorem Way.snoc {nb : Int → List Int} {fr : Int} {w : List Int} (h : Way nb fr w) {x : Int} (hx : x ∈ nb (w.getLastD 0)) : Way nb fr (w ++ [x]) := by
 have hl : 0 < w.length := List.length_pos_iff.2 h.ne
 refine ⟨by simp, ?_, fun i hi => ?_⟩
 ·rw [List.getD_eq_getElem?_getD, List.getElem?_append_left hl, ← List.getD_eq_getElem?_getD]; exact h.fst
 ·rw [List.length_append, List.length_singleton] at hi
  have e0 : (w ++ [x]).getD i 0 = w.getD i 0 := by rw [List.getD_eq_getElem?_getD, List.getElem?_append_left (by omega), ← List.getD_eq_getElem?_getD]
  rw [e0]
  by_cases c : i + 1 < w.length
  ·have e1 : (w ++ [x]).getD (i + 1) 0 = w.getD (i + 1) 0 := by rw [List.getD_eq_getElem?_getD, List.getElem?_append_left c, ← List.getD_eq_getElem?_getD]
   rw [e1]; exact h.nxt i c
  ·have e1 : i + 1 = w.length := by omega
   have e2 : (w ++ [x]).getD (i + 1) 0 = x := by rw [e1]; simp [List.getD]
   rw [e2, show i = w.length - 1 by omega, last_get w h.ne]
   exact hx
section
variable {nb : Int → List Int} {fr : Int}
theorem inn_way {w : List Int} (hw : Way nb fr w) : ∀ (xs s : List Int) (m : List (List Int)), (∀ x ∈ xs, x ∈ nb (w.getLastD 0)) → (∀ v ∈ m, Way nb fr v) → ∀ v ∈ (inn fr w xs s m).2.2, Way nb fr v
 | [], s, m, _, hm => hm
 | x :: xs, s, m, hx, hm => by
  by_cases c : x = fr
  ·simp only [inn, if_pos c]; exact hm
  ·by_cases d : x ∈ s
   ·rw [inn_seen c d]; exact inn_way hw xs s m (fun y hy => hx y (by simp [hy])) hm
   ·rw [inn_new c d]
    refine inn_way hw xs _ _ (fun y hy => hx y (by simp [hy])) (fun v hv => ?_)
    rcases List.mem_append.1 hv with hv | hv
    ·exact hm v hv
    ·rw [List.mem_singleton.1 hv]; exact hw.snoc (hx x (by simp))
theorem lin_way : ∀ (ws : List (List Int)) (s : List Int) (m : List (List Int)), (∀ v ∈ ws, Way nb fr v) → (∀ v ∈ m, Way nb fr v) →
  (∀ v ∈ (lin nb fr ws s m).2.2, Way nb fr v) ∧ ((lin nb fr ws s m).1 ≠ [] → Way nb fr (lin nb fr ws s m).1 ∧ fr ∈ nb ((lin nb fr ws s m).1.getLastD 0))
 | [], s, m, _, hm => ⟨hm, fun h => absurd rfl h⟩
 | w :: ws, s, m, hw, hm => by
  have h0 := hw w (by simp)
  have h1 := inn_way h0 (nb (w.getLastD 0)) s m (fun _ h => h) hm
  rw [lin_cons]
  by_cases c : (inn fr w (nb (w.getLastD 0)) s m).1 = true
  ·rw [if_pos c]; exact ⟨h1, fun _ => ⟨h0, inn_true _ _ _ c⟩⟩
  ·rw [if_neg c]; exact lin_way ws _ _ (fun v hv => hw v (by simp [hv])) h1
theorem rnd_way : ∀ (k : Nat) (l : List (List Int)) (s : List Int), (∀ v ∈ l, Way nb fr v) → rnd nb fr k l s ≠ [] → Way nb fr (rnd nb fr k l s) ∧ fr ∈ nb ((rnd nb fr k l s).getLastD 0)
 | 0, l, s, _, h => absurd rfl h
 | k + 1, l, s, hl, h => by
  by_cases c : l = []
  ·subst c; rw [rnd_nil] at h; exact absurd rfl h
  ·have h1 := lin_way (nb := nb) (fr := fr) l s [] hl (by simp)
   rw [rnd_go c] at h ⊢
   by_cases d : (lin nb fr l s []).1 = []
   ·rw [if_pos d] at h ⊢; exact rnd_way k _ _ h1.1 h
   ·rw [if_neg d]; exact h1.2 d
/-- Each of a ring waits for the next one, the last one for the first. -/
theorem ringF_ring (h : ringF nb fr ≠ []) {i : Nat} (hi : i < (ringF nb fr).length) : (ringF nb fr).getD ((i + 1) % (ringF nb fr).length) 0 ∈ nb ((ringF nb fr).getD i 0) := by
 obtain ⟨h1, h2⟩ := rnd_way (nb := nb) (fr := fr) 8 [[fr]] [] (fun v hv => by
  rw [List.mem_singleton.1 hv]; exact ⟨by simp, rfl, fun i hi => by simp at hi⟩) h
 have e : rnd nb fr 8 [[fr]] [] = ringF nb fr := rfl
 rw [e] at h1 h2
 by_cases c : i + 1 < (ringF nb fr).length
 ·rw [Nat.mod_eq_of_lt c]; exact h1.nxt i c
 ·have e1 : i + 1 = (ringF nb fr).length := by omega
  rw [e1, Nat.mod_self, h1.fst, show i = (ringF nb fr).length - 1 by omega, last_get _ h1.ne]
  exact h2
end
theorem bestR_mem : ∀ (rs : List (List Int)) (b : List Int), rs.foldl betR b = b ∨ rs.foldl betR b ∈ rs
 | [], b => .inl rfl
 | r :: rs, b => by
  simp only [List.foldl_cons]
  have h1 : betR b r = b ∨ betR b r = r := by unfold betR; split <;> simp
  rcases bestR_mem rs (betR b r) with h2 | h2
  ·rw [h2]
   rcases h1 with h1 | h1
   ·exact .inl h1
   ·rw [h1]; exact .inr (by simp)
  ·exact .inr (by simp [h2])
theorem bestR_ne : ∀ (rs : List (List Int)) (b : List Int), (b ≠ [] ∨ ∃ r ∈ rs, r ≠ []) → rs.foldl betR b ≠ []
 | [], b, h => h.resolve_right (by simp)
 | r :: rs, b, h => by
  simp only [List.foldl_cons]
  refine bestR_ne rs _ ?_
  by_cases c : r = []
  ·subst c
   rw [betR_none]
   rcases h with h | ⟨q, hq, hne⟩
   ·exact .inl h
   ·rcases List.mem_cons.1 hq with rfl | hq
    ·exact absurd rfl hne
    ·exact .inr ⟨q, hq, hne⟩
  ·left
   unfold betR
   by_cases d : r ≠ [] ∧ (b = [] ∨ r.length < b.length)
   ·rw [if_pos d]; exact c
   ·rw [if_neg d]
    intro e
    exact d ⟨c, .inl e⟩
end Go.Proofs.Ytckkppehfpjbpaa.Rg
