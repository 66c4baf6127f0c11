/- Rings, as plain Lean: the ways along which trains wait, made longer round by round. No program in sight. -/
import Derived.Test.YtckkppehfpjbpaaFnRingPure5w
namespace Go.Proofs.Ytckkppehfpjbpaa.Rg
open Go.RowKit Go.Proofs.YtckkppehfpjbpaaW.PrintWords Go.Proofs.YtckkppehfpjbpaaW.PrintLast Go.Proofs.Ytckkppehfpjbpaa.Q Go.Proofs.Ytckkppehfpjbpaa.Pu
set_option linter.unusedVariables false
set_option linter.unusedSimpArgs false
/-- Over the ones that a way may be made longer by: whether it comes back; those that were come to; the longer ways. -/
def inn (fr : Int) (w : List Int) : List Int → List Int → List (List Int) → Bool × List Int × List (List Int)
 | [], s, m => (false, s, m)
 | x :: xs, s, m => if x = fr then (true, s, m) else if x ∈ s then inn fr w xs s m else inn fr w xs (s ++ [x]) (m ++ [w ++ [x]])
/-- Over the ways of a round: the one that comes back, or none. -/
def lin (nb : Int → List Int) (fr : Int) : List (List Int) → List Int → List (List Int) → List Int × List Int × List (List Int)
 | [], s, m => ([], s, m)
 | w :: ws, s, m => if (inn fr w (nb (w.getLastD 0)) s m).1 = true then (w, (inn fr w (nb (w.getLastD 0)) s m).2) else lin nb fr ws (inn fr w (nb (w.getLastD 0)) s m).2.1 (inn fr w (nb (w.getLastD 0)) s m).2.2
def rnd (nb : Int → List Int) (fr : Int) : Nat → List (List Int) → List Int → List Int
 | 0, _, _ => []
 | k + 1, l, s => if l = [] then [] else if (lin nb fr l s []).1 = [] then rnd nb fr k (lin nb fr l s []).2.2 (lin nb fr l s []).2.1 else (lin nb fr l s []).1
def ringF (nb : Int → List Int) (fr : Int) : List Int := rnd nb fr 8 [[fr]] []
section
variable {f : Int → Int} {P : Int → Prop} (hf : ∀ x y, P x → P y → f x = f y → x = y)
include hf
theorem inn_map {fr : Int} (hfr : P fr) {w : List Int} : ∀ (xs s : List Int) (m : List (List Int)), (∀ x ∈ xs, P x) → (∀ x ∈ s, P x) →
  inn (f fr) (w.map f) (xs.map f) (s.map f) (m.map (List.map f)) = ((inn fr w xs s m).1, (inn fr w xs s m).2.1.map f, (inn fr w xs s m).2.2.map (List.map f))
 | [], s, m, _, _ => rfl
 | x :: xs, s, m, hx, hs => by
  have h1 := hx x (by simp)
  have h2 : ∀ y ∈ xs, P y := fun y hy => hx y (by simp [hy])
  simp only [List.map_cons, inn]
  by_cases c : x = fr
  ·subst c
   rw [if_pos rfl, if_pos rfl]
  ·rw [if_neg c, if_neg (fun e => c (hf _ _ h1 hfr e))]
   by_cases d : x ∈ s
   ·rw [if_pos d, if_pos (List.mem_map_of_mem d)]
    exact inn_map hfr xs s m h2 hs
   ·have d2 : f x ∉ s.map f := by
     intro e
     obtain ⟨y, hy, e⟩ := List.mem_map.1 e
     exact d (hf _ _ (hs y hy) h1 e ▸ hy)
    rw [if_neg d, if_neg d2]
    have ih := inn_map (w := w) hfr xs (s ++ [x]) (m ++ [w ++ [x]]) h2 (fun y hy => by
     rcases List.mem_append.1 hy with hy | hy
     ·exact hs y hy
     ·rw [List.mem_singleton.1 hy]; exact h1)
    simpa using ih
omit hf in
theorem inn_keep {fr : Int} (hfr : P fr) {w : List Int} (hw : ∀ x ∈ w, P x) : ∀ (xs s : List Int) (m : List (List Int)), (∀ x ∈ xs, P x) → (∀ x ∈ s, P x) → (∀ v ∈ m, v ≠ [] ∧ ∀ x ∈ v, P x) →
  (∀ x ∈ (inn fr w xs s m).2.1, P x) ∧ ∀ v ∈ (inn fr w xs s m).2.2, v ≠ [] ∧ ∀ x ∈ v, P x
 | [], s, m, _, hs, hm => ⟨hs, hm⟩
 | x :: xs, s, m, hx, hs, hm => by
  have h1 := hx x (by simp)
  have h2 : ∀ y ∈ xs, P y := fun y hy => hx y (by simp [hy])
  simp only [inn]
  by_cases c : x = fr
  ·rw [if_pos c]; exact ⟨hs, hm⟩
  ·rw [if_neg c]
   by_cases d : x ∈ s
   ·rw [if_pos d]; exact inn_keep hfr hw xs s m h2 hs hm
   ·rw [if_neg d]
    refine inn_keep hfr hw xs _ _ h2 (fun y hy => ?_) (fun v hv => ?_)
    ·rcases List.mem_append.1 hy with hy | hy
     ·exact hs y hy
     ·rw [List.mem_singleton.1 hy]; exact h1
    ·rcases List.mem_append.1 hv with hv | hv
     ·exact hm v hv
     ·rw [List.mem_singleton.1 hv]
      refine ⟨by simp, fun y hy => ?_⟩
      rcases List.mem_append.1 hy with hy | hy
      ·exact hw y hy
      ·rw [List.mem_singleton.1 hy]; exact h1
omit hf in
theorem last_mem : ∀ {w : List Int}, w ≠ [] → w.getLastD 0 ∈ w
 | [], h => absurd rfl h
 | [x], _ => by simp
 | x :: y :: w, _ => by
  have := last_mem (w := y :: w) (by simp)
  simp only [List.getLastD_cons] at this ⊢
  exact List.mem_cons_of_mem _ this
omit hf in
theorem last_map : ∀ {w : List Int}, w ≠ [] → (w.map f).getLastD 0 = f (w.getLastD 0)
 | [], h => absurd rfl h
 | [x], _ => by simp
 | x :: y :: w, _ => by
  have := last_map (w := y :: w) (by simp)
  simp only [List.map_cons, List.getLastD_cons] at this ⊢
  exact this
section
variable {nb nb' : Int → List Int} (hn : ∀ p, P p → ∀ x ∈ nb p, P x) (he : ∀ p, P p → nb' (f p) = (nb p).map f)
include hn
omit hf in
theorem lin_keep {fr : Int} (hfr : P fr) : ∀ (ws : List (List Int)) (s : List Int) (m : List (List Int)), (∀ v ∈ ws, v ≠ [] ∧ ∀ x ∈ v, P x) → (∀ x ∈ s, P x) → (∀ v ∈ m, v ≠ [] ∧ ∀ x ∈ v, P x) →
  (∀ x ∈ (lin nb fr ws s m).2.1, P x) ∧ (∀ v ∈ (lin nb fr ws s m).2.2, v ≠ [] ∧ ∀ x ∈ v, P x) ∧ ∀ x ∈ (lin nb fr ws s m).1, P x
 | [], s, m, _, hs, hm => ⟨hs, hm, by simp [lin]⟩
 | w :: ws, s, m, hw, hs, hm => by
  have h1 := hw w (by simp)
  have hl := h1.2 _ (last_mem h1.1)
  have hk := inn_keep hfr h1.2 (nb (w.getLastD 0)) s m (hn _ hl) hs hm
  simp only [lin]
  split
  ·exact ⟨hk.1, hk.2, h1.2⟩
  ·exact lin_keep hfr ws _ _ (fun v hv => hw v (by simp [hv])) hk.1 hk.2
include hf he
theorem lin_map {fr : Int} (hfr : P fr) : ∀ (ws : List (List Int)) (s : List Int) (m : List (List Int)), (∀ v ∈ ws, v ≠ [] ∧ ∀ x ∈ v, P x) → (∀ x ∈ s, P x) → (∀ v ∈ m, v ≠ [] ∧ ∀ x ∈ v, P x) →
  lin nb' (f fr) (ws.map (List.map f)) (s.map f) (m.map (List.map f)) = ((lin nb fr ws s m).1.map f, (lin nb fr ws s m).2.1.map f, (lin nb fr ws s m).2.2.map (List.map f))
 | [], s, m, _, hs, hm => rfl
 | w :: ws, s, m, hw, hs, hm => by
  have h1 := hw w (by simp)
  have hl := h1.2 _ (last_mem h1.1)
  have hk := inn_keep hfr h1.2 (nb (w.getLastD 0)) s m (hn _ hl) hs hm
  have hi := inn_map hf hfr (w := w) (nb (w.getLastD 0)) s m (hn _ hl) hs
  simp only [List.map_cons, lin]
  rw [last_map h1.1, he _ hl, hi]
  by_cases c : (inn fr w (nb (w.getLastD 0)) s m).1 = true
  ·rw [if_pos c, if_pos c]
  ·rw [if_neg c, if_neg c]
   exact lin_map hfr ws _ _ (fun v hv => hw v (by simp [hv])) hk.1 hk.2
theorem rnd_map {fr : Int} (hfr : P fr) : ∀ (k : Nat) (l : List (List Int)) (s : List Int), (∀ v ∈ l, v ≠ [] ∧ ∀ x ∈ v, P x) → (∀ x ∈ s, P x) → rnd nb' (f fr) k (l.map (List.map f)) (s.map f) = (rnd nb fr k l s).map f
 | 0, l, s, _, _ => rfl
 | k + 1, l, s, hl, hs => by
  have h1 := lin_map hf hn he hfr l s [] hl hs (by simp)
  have h2 := lin_keep hn hfr l s [] hl hs (by simp)
  simp only [List.map_nil] at h1
  simp only [rnd]
  by_cases c : l = []
  ·subst c; rfl
  ·rw [if_neg c, if_neg (by simpa using c), h1]
   by_cases d : (lin nb fr l s []).1 = []
   ·rw [if_pos d, if_pos (by rw [d]; rfl)]
    exact rnd_map hfr k _ _ h2.2.1 h2.1
   ·rw [if_neg d, if_neg (by simpa using d)]
/-- With other labels it is the same ring. -/
theorem ringF_map {fr : Int} (hfr : P fr) : ringF nb' (f fr) = (ringF nb fr).map f :=
 rnd_map hf hn he hfr 8 [[fr]] [] (by simp [hfr]) (by simp)
end
end
/-! ### While the ways are made longer -/
def okL (P : Int → Prop) (n : Nat) (l : List (List Int)) : Prop := ∀ v ∈ l, v ≠ [] ∧ (∀ x ∈ v, P x) ∧ v.length ≤ n
/-- Those that were come to since c were; the longer ways, of at most n. -/
structure Gd (P : Int → Prop) (c n : Nat) (s : List Int) (m : List (List Int)) : Prop where
 nd : s.Nodup
 sP : ∀ x ∈ s, P x
 cnt : c + m.length ≤ s.length
 ok : okL P n m
theorem Gd.start {P : Int → Prop} (n : Nat) : Gd P 0 n [] [] := ⟨List.nodup_nil, by simp, by simp, by simp [okL]⟩
theorem Gd.turn {P : Int → Prop} {c n n' : Nat} {s : List Int} {m : List (List Int)} (h : Gd P c n s m) : Gd P s.length n' s [] := ⟨h.nd, h.sP, by simp, by simp [okL]⟩
theorem Gd.add {P : Int → Prop} {c n : Nat} {s : List Int} {m : List (List Int)} (h : Gd P c n s m) {x : Int} (hx : x ∉ s) (hP : P x) {w : List Int} (hw : ∀ y ∈ w, P y) (hn : w.length + 1 ≤ n) : Gd P c n (s ++ [x]) (m ++ [w ++ [x]]) := by
 refine ⟨?_, fun y hy => ?_, ?_, fun v hv => ?_⟩
 ·refine List.nodup_append.2 ⟨h.nd, by simp, fun a ha b hb => ?_⟩
  rw [List.mem_singleton.1 hb]
  exact fun e => hx (e ▸ ha)
 ·rcases List.mem_append.1 hy with hy | hy
  ·exact h.sP y hy
  ·rw [List.mem_singleton.1 hy]; exact hP
 ·have := h.cnt
  simp only [List.length_append, List.length_singleton]
  omega
 ·rcases List.mem_append.1 hv with hv | hv
  ·exact h.ok v hv
  ·rw [List.mem_singleton.1 hv]
   refine ⟨by simp, fun y hy => ?_, by simpa using hn⟩
   rcases List.mem_append.1 hy with hy | hy
   ·exact hw y hy
   ·rw [List.mem_singleton.1 hy]; exact hP
theorem nodup_le : ∀ (s d : List Int), s.Nodup → (∀ x ∈ s, x ∈ d) → s.length ≤ d.length
 | [], _, _, _ => Nat.zero_le _
 | x :: s, d, hn, hs => by
  have h1 := List.nodup_cons.1 hn
  have hx : x ∈ d := hs x (by simp)
  have h2 := nodup_le s (d.erase x) h1.2 (fun y hy => (List.mem_erase_of_ne (fun (e : y = x) => h1.1 (by rw [← e]; exact hy))).2 (hs y (by simp [hy])))
  have h3 := List.length_erase_of_mem hx
  have h4 : 0 < d.length := List.length_pos_of_mem hx
  simp only [List.length_cons]
  omega
theorem lin_cons {nb : Int → List Int} {fr : Int} {w : List Int} {ws : List (List Int)} {s : List Int} {m : List (List Int)} : lin nb fr (w :: ws) s m = if (inn fr w (nb (w.getLastD 0)) s m).1 = true then (w, (inn fr w (nb (w.getLastD 0)) s m).2) else lin nb fr ws (inn fr w (nb (w.getLastD 0)) s m).2.1 (inn fr w (nb (w.getLastD 0)) s m).2.2 := rfl
theorem inn_here {fr : Int} {w xs s : List Int} {m : List (List Int)} : (inn fr w (fr :: xs) s m).1 = true := by simp [inn]
theorem inn_seen {fr x : Int} {w xs s : List Int} {m : List (List Int)} (c : x ≠ fr) (d : x ∈ s) : inn fr w (x :: xs) s m = inn fr w xs s m := by simp [inn, c, d]
theorem inn_new {fr x : Int} {w xs s : List Int} {m : List (List Int)} (c : x ≠ fr) (d : x ∉ s) : inn fr w (x :: xs) s m = inn fr w xs (s ++ [x]) (m ++ [w ++ [x]]) := by simp [inn, c, d]
theorem rnd_nil {nb : Int → List Int} {fr : Int} (k : Nat) (s : List Int) : rnd nb fr k [] s = [] := by cases k <;> simp [rnd]
theorem rnd_go {nb : Int → List Int} {fr : Int} {k : Nat} {l : List (List Int)} {s : List Int} (hl : l ≠ []) : rnd nb fr (k + 1) l s = if (lin nb fr l s []).1 = [] then rnd nb fr k (lin nb fr l s []).2.2 (lin nb fr l s []).2.1 else (lin nb fr l s []).1 := by simp [rnd, hl]
theorem getLast_rd {w : List Int} (h : 0 < w.length) : rd w ((w.length : Int) - 1) = w.getLastD 0 := by
 have e : ((w.length : Int) - 1).toNat = w.length - 1 := by omega
 unfold rd
 rw [e, List.getD_eq_getElem?_getD, List.getLastD_eq_getLast?, List.getLast?_eq_getElem?]
theorem getLast_in {P : Int → Prop} {w : List Int} (hw : w ≠ []) (h : ∀ x ∈ w, P x) : P (w.getLastD 0) := h _ (last_mem hw)
/-- The rows of a bool a number: who was come to. -/
def mkB (s : List Int) : List Bool := (List.range 1001).map (fun (a : Nat) => decide ((a : Int) ∈ s))
theorem mkB_len (s : List Int) : (mkB s).length = 1001 := by simp [mkB]
theorem mkB_at (s : List Int) {i : Nat} (h : i < (mkB s).length) : (mkB s)[i] = decide ((i : Int) ∈ s) := by simp only [mkB, List.getElem_map, List.getElem_range]
theorem mkB_nil : mkB [] = List.replicate 1001 false := by
 apply List.ext_getElem
 ·rw [mkB_len, List.length_replicate]
 ·intro i h1 h2
  rw [mkB_at, List.getElem_replicate]
  simp
theorem mkB_get (s : List Int) {x : Int} (h0 : 0 ≤ x) (h1 : x ≤ 1000) : rdOf false (mkB s) x = decide (x ∈ s) := by
 unfold rdOf
 have h2 : x.toNat < 1001 := by omega
 have h3 : ((x.toNat : Nat) : Int) = x := by omega
 rw [List.getD_eq_getElem?_getD, List.getElem?_eq_getElem (by rw [mkB_len]; exact h2), mkB_at, h3]
 rfl
theorem mkB_set (s : List Int) {x : Int} (h0 : 0 ≤ x) (h1 : x ≤ 1000) : (mkB s).set x.toNat true = mkB (s ++ [x]) := by
 apply List.ext_getElem
 ·rw [List.length_set, mkB_len, mkB_len]
 ·intro i h2 h3
  rw [List.getElem_set]
  by_cases c : x.toNat = i
  ·rw [if_pos c, mkB_at]
   have : (i : Int) = x := by omega
   simp [this]
  ·rw [if_neg c, mkB_at, mkB_at]
   have : (i : Int) ≠ x := by omega
   simp [this]
/-! ### Of several rings the first shortest one -/
def betR (b r : List Int) : List Int := if r ≠ [] ∧ (b = [] ∨ r.length < b.length) then r else b
def bestR (rs : List (List Int)) : List Int := rs.foldl betR []
theorem betR_map (f : Int → Int) (b r : List Int) : betR (b.map f) (r.map f) = (betR b r).map f := by
 unfold betR
 by_cases c : r ≠ [] ∧ (b = [] ∨ r.length < b.length)
 ·rw [if_pos c, if_pos (by simpa using c)]
 ·rw [if_neg c, if_neg (by simpa using c)]
theorem foldl_betR_map (f : Int → Int) : ∀ (rs : List (List Int)) (b : List Int), (rs.map (List.map f)).foldl betR (b.map f) = (rs.foldl betR b).map f
 | [], b => rfl
 | r :: rs, b => by
  simp only [List.map_cons, List.foldl_cons]
  rw [betR_map, foldl_betR_map f rs]
theorem bestR_map (f : Int → Int) (rs : List (List Int)) : bestR (rs.map (List.map f)) = (bestR rs).map f := foldl_betR_map f rs []
theorem rnd_keep {P : Int → Prop} {nb : Int → List Int} (hn : ∀ p, P p → ∀ x ∈ nb p, P x) {fr : Int} (hfr : P fr) : ∀ (k : Nat) (l : List (List Int)) (s : List Int), (∀ v ∈ l, v ≠ [] ∧ ∀ x ∈ v, P x) → (∀ x ∈ s, P x) → ∀ x ∈ rnd nb fr k l s, P x
 | 0, l, s, _, _ => by simp [rnd]
 | k + 1, l, s, hl, hs => by
  have h2 := lin_keep hn hfr l s [] hl hs (by simp)
  simp only [rnd]
  by_cases c : l = []
  ·rw [if_pos c]; simp
  ·rw [if_neg c]
   by_cases d : (lin nb fr l s []).1 = []
   ·rw [if_pos d]; exact rnd_keep hn hfr k _ _ h2.2.1 h2.1
   ·rw [if_neg d]; exact h2.2.2
theorem ringF_keep {P : Int → Prop} {nb : Int → List Int} (hn : ∀ p, P p → ∀ x ∈ nb p, P x) {fr : Int} (hfr : P fr) : ∀ x ∈ ringF nb fr, P x :=
 rnd_keep hn hfr 8 [[fr]] [] (by simp [hfr]) (by simp)
theorem bestR_keep {P : Int → Prop} : ∀ (rs : List (List Int)) (b : List Int), (∀ r ∈ rs, ∀ x ∈ r, P x) → (∀ x ∈ b, P x) → ∀ x ∈ rs.foldl betR b, P x
 | [], b, _, hb => hb
 | r :: rs, b, h, hb => by
  simp only [List.foldl_cons]
  refine bestR_keep rs _ (fun q hq => h q (by simp [hq])) ?_
  unfold betR
  split
  ·exact h r (by simp)
  ·exact hb
theorem take_succ' {α : Type} (l : List α) (z : α) {i : Nat} (h : i < l.length) : l.take (i + 1) = l.take i ++ [l.getD i z] := by
 rw [List.take_add_one]
 simp [List.getD, h]
/-- The best of the first i. -/
def bstI (F : Int → List Int) (N : List Int) (i : Nat) : List Int := bestR ((N.take i).map F)
theorem bstI_succ (F : Int → List Int) (N : List Int) {i : Nat} (h : i < N.length) : bstI F N (i + 1) = betR (bstI F N i) (F (N.getD i 0)) := by
 unfold bstI bestR
 rw [take_succ' N 0 h, List.map_append, List.foldl_append]
 rfl
theorem bstI_all (F : Int → List Int) (N : List Int) : bstI F N N.length = bestR (N.map F) := by unfold bstI; rw [List.take_length]
theorem betR_none (b : List Int) : betR b [] = b := by simp [betR]
theorem betR_first {r : List Int} (h : r ≠ []) : betR [] r = r := by simp [betR, h]
theorem betR_less {b r : List Int} (h : r ≠ []) (h2 : r.length < b.length) : betR b r = r := by simp [betR, h, h2]
theorem betR_more {b r : List Int} (h0 : b ≠ []) (h2 : ¬ r.length < b.length) : betR b r = b := by simp [betR, h0, h2]
end Go.Proofs.Ytckkppehfpjbpaa.Rg
