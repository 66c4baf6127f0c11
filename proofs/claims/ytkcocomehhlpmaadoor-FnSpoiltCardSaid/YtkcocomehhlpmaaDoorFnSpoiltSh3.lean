/- What the specification's Shown makes is the text. No program in sight. -/
import Derived.Test.YtkcocomehhlpmaaDoorFnSpoiltSh0
import Derived.Test.YtkcocomehhlpmaaDoorFnSpoiltHspecShown
import Derived.Test.YtkcocomehhlpmaaDoorFnSpoiltQ3
import Derived.Test.YtkcocomehhlpmaaDoorFnSpoiltQ4
import Derived.Test.YtkcocomehhlpmaaDoorFnSpoiltQ5
import Derived.Test.YtkcocomehhlpmaaDoorFnSpoiltQ7
namespace Go.Proofs.YtkcocomehhlpmaaDoor.Sh
open Go.RowKit Go.Proofs.YtkcocomehhlpmaaDoorW.PrintWords Go.Proofs.YtkcocomehhlpmaaDoorW.PrintLast Go.Proofs.YtkcocomehhlpmaaDoor.Q Go.Proofs.YtkcocomehhlpmaaDoor.Pu Go.Proofs.YtkcocomehhlpmaaDoor.Sr Go.Proofs.YtkcocomehhlpmaaDoor.Sp
set_option linter.unusedVariables false
set_option linter.unusedSimpArgs false
theorem ev_bind1 {α β : Type} {g : Nat → Option β} {c : Nat → Option α} {a : α} {f : Nat → α → Option β} {r : β} (h : ∀ k, g (k + 1) = (c k).bind (f k)) (hc : Ev c a) (k : Ev (fun n => f n a) r) : Ev g r := Ev.step h (Ev.bind hc k)
theorem ev_pos {β : Type} {p : Prop} [Decidable p] {a b : Nat → Option β} {r : β} (hp : p) (h : Ev a r) : Ev (fun n => if p then a n else b n) r := Ev.congr (fun n => if_pos hp) h
theorem ev_neg {β : Type} {p : Prop} [Decidable p] {a b : Nat → Option β} {r : β} (hp : ¬ p) (h : Ev b r) : Ev (fun n => if p then a n else b n) r := Ev.congr (fun n => if_neg hp) h
theorem bjoin (a b : List UInt8) : (⟨a.toArray⟩ : ByteArray) ++ ⟨b.toArray⟩ = ⟨(a ++ b).toArray⟩ := by
 apply ByteArray.ext
 simp
theorem bsize (a : List UInt8) : (⟨a.toArray⟩ : ByteArray).size = a.length := by simp [ByteArray.size]
/-! ### the digits -/
theorem digit (d : Nat) (h : d < 10) : strOfNums [(wrap64 (48 + (d : Int))) % 256] = ⟨[UInt8.ofNat (48 + d)].toArray⟩ := by
 rw [w64 (by omega) (by omega), show ((48 : Int) + (d : Int)) % 256 = ((48 + d : Nat) : Int) by omega]
 unfold strOfNums
 rw [List.map_cons, List.map_nil, Int.toNat_natCast]
def dig (u : Nat) : List UInt8 := if u = 0 then [] else Lib.decDigits u
theorem dig_step (u : Nat) (h : u ≠ 0) : dig u = dig (u / 10) ++ [UInt8.ofNat (48 + u % 10)] := by
 unfold dig
 rw [if_neg h, Lib.decDigits]
 by_cases c : u < 10
 ·rw [dif_pos c, if_pos (by omega), show u % 10 = u by omega]; rfl
 ·rw [dif_neg c, if_neg (by omega)]
theorem l4_loop (u : Nat) : ∀ (s : List UInt8), s.length + u ≤ 9223372036854775807 → Ev (fun k => spec_l4decimal.l0 k (u : Int) ⟨s.toArray⟩) (⟨(dig u ++ s).toArray⟩ : ByteArray) := by
 induction u using Nat.strongRecOn with
 | ind u ih =>
  intro s hs
  by_cases c : u = 0
  ·subst c
   refine Ev.one (fun k => ?_)
   simp only [spec_l4decimal.l0]
   rw [if_neg (by omega)]
   rfl
  ·refine Ev.eq (Ev.step (fun k => ?_) (ih (u / 10) (by omega) (UInt8.ofNat (48 + u % 10) :: s) (by rw [List.length_cons]; omega))) (by rw [dig_step u c]; simp)
   simp only [spec_l4decimal.l0]
   rw [if_pos (by omega), Option.bind_some, Int.tmod_eq_emod_of_nonneg (by omega), Int.tdiv_eq_ediv_of_nonneg (by omega), show ((u : Int) % 10) = ((u % 10 : Nat) : Int) by omega, digit _ (by omega), if_pos (by rw [bsize, bsize]; simp only [List.length_cons, List.length_nil]; omega), w64 (by omega) (by omega), bjoin, show ((u : Int) / 10) = ((u / 10 : Nat) : Int) by omega]
   rfl
theorem l4_tells (n : Int) (h0 : 0 ≤ n) (h1 : n ≤ 9223372036854775807) : Ev (fun k => spec_l4decimal.f k n) (⟨(Lib.itoa n).toArray⟩ : ByteArray) := by
 obtain ⟨u, rfl⟩ : ∃ u : Nat, n = (u : Int) := ⟨n.toNat, by omega⟩
 rw [Lib.itoa_nonneg]
 unfold spec_l4decimal.f
 by_cases c : u = 0
 ·subst c
  refine ev_pos rfl (Ev.eq (Ev.now _) ?_)
  rw [Lib.decDigits, dif_pos (by omega)]
  rfl
 ·refine ev_neg (by omega) (Ev.eq (l4_loop u [] (by simp; omega)) ?_)
  unfold dig
  rw [if_neg c, List.append_nil]
/-! ### the names -/
theorem namesOk_pos : ∀ {l : List Int} {a : Int}, -1 ≤ a → namesOk a l = true → ∀ x ∈ l, 0 ≤ x
 | [], _, _, _ => by simp
 | y :: l, a, ha, h => by
  simp only [namesOk, Bool.and_eq_true, decide_eq_true_eq] at h
  intro x hx
  rcases List.mem_cons.1 hx with rfl | hx
  ·omega
  ·exact namesOk_pos (by omega) h.2 x hx
theorem findF_none (N : List Int) (a : Int) : ∀ (d i : Nat), findF N a i d = -1 → ∀ j, i ≤ j → j < i + d → N.getD j 0 ≠ a
 | 0, i, _, j, h1, h2 => by omega
 | d + 1, i, h, j, h1, h2 => by
  unfold findF at h
  by_cases c : N.getD i 0 = a
  ·rw [if_pos c] at h; omega
  ·rw [if_neg c] at h
   by_cases e : j = i
   ·subst e; exact c
   ·exact findF_none N a d (i + 1) h j (by omega) (by omega)
theorem names_up : ∀ {l : List Int} {a : Int}, namesOk a l = true → ∀ (i j : Nat), i < j → j < l.length → l.getD i 0 < l.getD j 0
 | [], _, _, i, j, _, h2 => by simp at h2
 | x :: l, a, h, i, j, h1, h2 => by
  simp only [namesOk, Bool.and_eq_true, decide_eq_true_eq] at h
  have key : ∀ (l : List Int) (a : Int), namesOk a l = true → ∀ y ∈ l, a < y := by
   intro l
   induction l with
   | nil => intro a _ y hy; simp at hy
   | cons z l ih =>
    intro a h y hy
    simp only [namesOk, Bool.and_eq_true, decide_eq_true_eq] at h
    rcases List.mem_cons.1 hy with rfl | hy
    ·exact h.1.1
    ·have := ih z h.2 y hy; omega
  obtain ⟨j, rfl⟩ : ∃ m, j = m + 1 := ⟨j - 1, by omega⟩
  rw [List.length_cons] at h2
  cases i with
  | zero =>
   have := key l x h.2 (l.getD j 0) (getD_mem 0 (by omega))
   simpa using this
  | succ i =>
   have := names_up h.2 i j (by omega) (by omega)
   simpa using this
section
variable {R : List Int} {T : List S48} {N : List Int}
theorem find_name (h : Right R T N) {i : Nat} (hi : i < N.length) : findD N (N.getD i 0) = (i : Int) := by
 rcases findD_tells N (N.getD i 0) with h1 | ⟨j, h1, h2, h3⟩
 ·exact absurd rfl (findF_none _ _ _ _ h1 i (by omega) (by omega))
 ·rw [h1]
  rcases Nat.lt_trichotomy i j with c | c | c
  ·have := names_up h.names i j c h2; omega
  ·rw [c]
  ·have := names_up h.names j i c hi; omega
theorem waits_nms (h : Right R T N) {i : Nat} (hi : i < T.length) (hc : ¬ canB R T i = true) : waitsD R T N (N.getD i 0) = nmsL R T N i := by
 have hn := h.n1
 unfold waitsD nmsL waitsP
 rw [if_pos ((right_iff _ _ _).2 h), find_name h (by omega), if_neg (by omega), Int.toNat_natCast, if_neg hc, if_neg hc]
 exact (onF_map _ _ _ _ _ _ (fun j _ _ => by simp)).symm
/-! ### the loops -/
theorem l2_loop (L : List Int) (hL : ∀ x ∈ L, 0 ≤ x ∧ x ≤ 1000) (hl : L.length ≤ 1000) (i : Nat) (hi : i < T.length) (ht : T.length ≤ 1000) {r : ByteArray} : ∀ (d q : Nat) (s : List UInt8), q + d = L.length → s.length + 22 * d + 1 ≤ 1000000 →
  Ev (fun k => spec_Shown.l0 k ⟨(s ++ dsL (L.drop q) ++ [10]).toArray⟩ T (T.length : Int) ((i + 1 : Nat) : Int) R T N) r →
  Ev (fun k => spec_Shown.l2 k ⟨s.toArray⟩ T (T.length : Int) (i : Int) L (L.length : Int) (q : Int) R T N) r
 | 0, q, s, hq, hs, h => by
  rw [List.drop_eq_nil_of_le (show L.length ≤ q by omega), show dsL ([] : List Int) = [] from rfl, List.append_nil] at h
  refine Ev.step (fun k => ?_) h
  simp only [spec_Shown.l2]
  rw [if_neg (by omega), if_pos (by rw [bsize]; omega), wsucc hi (by omega), bjoin]
 | d + 1, q, s, hq, hs, h => by
  have hlq : q < L.length := by omega
  have hx := hL _ (getD_mem 0 hlq)
  have hz : (Lib.itoa (L.getD q 0)).length ≤ 21 := Sm.len ⟨by omega, hx.2⟩
  have e : L.drop q = L.getD q 0 :: L.drop (q + 1) := drop_cons 0 hlq
  refine ev_bind1 (f := ?_) (fun k => ?_) (l4_tells (L.getD q 0) hx.1 (by omega)) ?_
  rotate_left
  ·simp only [spec_Shown.l2]
   rw [if_pos (by omega), if_pos (by omega), if_pos (by omega), rd_I]
  ·refine ev_pos (by rw [bsize]; omega) (ev_pos (by rw [bsize, bjoin, bsize]; simp only [List.length_append, List.length_cons, List.length_nil]; omega) ?_)
   rw [bjoin, bjoin, wsucc hlq (by omega)]
   refine l2_loop L hL hl i hi ht d (q + 1) _ (by omega) (by simp only [List.length_append, List.length_cons, List.length_nil]; omega) ?_
   rw [e, show dsL (L.getD q 0 :: L.drop (q + 1)) = (32 :: Lib.itoa (L.getD q 0)) ++ dsL (L.drop (q + 1)) from rfl] at h
   simpa [List.append_assoc] using h
theorem l1_loop (P : List Int) (hL : ∀ x ∈ P, 0 ≤ x ∧ x ≤ 1000) (hl : P.length ≤ 1000) (i : Nat) {r : ByteArray} : ∀ (d q : Nat) (s : List UInt8), q + d = P.length → s.length + 22 * d + 1 ≤ 1000000 →
  Ev (fun k => spec_Shown.l1 k ⟨(s ++ dsL (P.drop q)).toArray⟩ (i : Int) T (T.length : Int) (i : Int) P (P.length : Int) (P.length : Int) R T N) r →
  Ev (fun k => spec_Shown.l1 k ⟨s.toArray⟩ (i : Int) T (T.length : Int) (i : Int) P (P.length : Int) (q : Int) R T N) r
 | 0, q, s, hq, hs, h => by
  rw [List.drop_eq_nil_of_le (show P.length ≤ q by omega), show dsL ([] : List Int) = [] from rfl, List.append_nil] at h
  rw [show q = P.length by omega]
  exact h
 | d + 1, q, s, hq, hs, h => by
  have hlq : q < P.length := by omega
  have hx := hL _ (getD_mem 0 hlq)
  have hz : (Lib.itoa (P.getD q 0)).length ≤ 21 := Sm.len ⟨by omega, hx.2⟩
  have e : P.drop q = P.getD q 0 :: P.drop (q + 1) := drop_cons 0 hlq
  refine ev_bind1 (f := ?_) (fun k => ?_) (l4_tells (P.getD q 0) hx.1 (by omega)) ?_
  rotate_left
  ·simp only [spec_Shown.l1]
   rw [if_pos (by omega), if_pos (by omega), if_pos (by omega), rd_I]
  ·refine ev_pos (by rw [bsize]; omega) (ev_pos (by rw [bsize, bjoin, bsize]; simp only [List.length_append, List.length_cons, List.length_nil]; omega) ?_)
   rw [bjoin, bjoin, wsucc hlq (by omega)]
   refine l1_loop P hL hl i d (q + 1) _ (by omega) (by simp only [List.length_append, List.length_cons, List.length_nil]; omega) ?_
   rw [e, show dsL (P.getD q 0 :: P.drop (q + 1)) = (32 :: Lib.itoa (P.getD q 0)) ++ dsL (P.drop (q + 1)) from rfl] at h
   simpa [List.append_assoc] using h
theorem l1_end (h : Right R T N) (i : Nat) (hi : i < T.length) (s : List UInt8) (hs : s.length ≤ 900000) (P : List Int) {r : ByteArray}
  (hk : Ev (fun k => spec_Shown.l0 k ⟨(s ++ (if canB R T i = true then [] else waitL ++ dsL (nmsL R T N i)) ++ [10]).toArray⟩ T (T.length : Int) ((i + 1 : Nat) : Int) R T N) r) :
  Ev (fun k => spec_Shown.l1 k ⟨s.toArray⟩ (i : Int) T (T.length : Int) (i : Int) P (P.length : Int) (P.length : Int) R T N) r := by
 have ht := h.t1
 have hn := h.n1
 have hr := h.r1
 refine ev_bind1 (f := ?_) (fun k => ?_) (l1can_tells h.wf i hi) ?_
 rotate_left
 ·simp only [spec_Shown.l1]
  rw [if_neg (by omega)]
 ·by_cases c : canB R T i = true
  ·rw [if_pos c, List.append_nil] at hk
   refine ev_pos c (ev_pos (by rw [bsize]; omega) ?_)
   rw [wsucc hi (by omega), bjoin]
   exact hk
  ·rw [if_neg c] at hk
   refine ev_neg c (ev_pos (by rw [bsize]; omega) (ev_pos (by omega) (ev_pos (by omega) ?_)))
   rw [rd_I]
   refine Ev.bind (specWaits_tells (by omega) (by omega) (by omega) (N.getD i 0)) ?_
   rw [waits_nms h hi c, bjoin]
   have hlen := nms_len h i
   refine l2_loop _ (fun x hx => ?_) (by omega) i hi (by omega) (nmsL R T N i).length 0 _ (by omega) (by simp only [List.length_append, List.length_cons, List.length_nil]; omega) ?_
   ·obtain ⟨y, hy, rfl⟩ := List.mem_map.1 hx
    obtain ⟨j, hj, rfl⟩ := waitsP_mem i y hy
    rw [Int.toNat_natCast]
    exact ⟨namesOk_pos (by omega) h.names _ (getD_mem 0 (by omega)), (name_sm h (by omega)).2⟩
   ·rw [List.drop_zero]
    simpa [waitL, List.append_assoc] using hk
theorem l0_loop (h : Right R T N) (ho : okS R T N = 0) : ∀ d i, i + d = T.length → Ev (fun k => spec_Shown.l0 k ⟨(linesL R T N i).toArray⟩ T (T.length : Int) (i : Int) R T N) (⟨(shownL R T N).toArray⟩ : ByteArray)
 | 0, i, hi => by
  have ht := h.t1
  have hn := h.n1
  have hr := h.r1
  have hl := lines_len h i (by omega)
  refine ev_bind1 (f := ?_) (fun k => ?_) (specSafe_tells (R := R) (T := T) (N := N) (by omega) (by omega) (by omega)) ?_
  rotate_left
  ·simp only [spec_Shown.l0]
   rw [if_neg (by omega)]
  ·rw [if_pos ho]
   have e : i = T.length := by omega
   unfold shownL
   rw [← e]
   by_cases c : 0 ≤ V R T [0, 0, 0, 0, 0]
   ·rw [if_pos c, List.append_nil]
    exact ev_pos (decide_eq_true c) (Ev.now _)
   ·rw [if_neg c]
    refine ev_neg (by simpa using c) (ev_pos (by rw [bsize]; omega) (Ev.eq (Ev.now _) ?_))
    rw [bjoin]
    rfl
 | d + 1, i, hid => by
  have ht := h.t1
  have hn := h.n1
  have hr := h.r1
  have hi : i < T.length := by omega
  have hl := lines_len h i (by omega)
  have hm := name_sm h (i := i) (by omega)
  have hm0 := namesOk_pos (by omega) h.names _ (getD_mem 0 (show i < N.length by omega))
  have ha := h.wf.at_ _ (getD_mem z48 hi)
  have ha2 := at_sm h hi
  have hz1 := hm.len
  have hz2 := ha2.len
  have hp := h.wf.path _ (getD_mem z48 hi)
  have hps := path_sm h hi
  have hon := h.wf.on _ (getD_mem z48 hi)
  refine ev_bind1 (f := ?_) (fun k => ?_) (l4_tells (N.getD i 0) hm0 (by have := hm.2; omega)) ?_
  rotate_left
  ·simp only [spec_Shown.l0]
   rw [if_pos (by omega), if_pos (by omega), if_pos (by omega), if_pos (by omega), rd_I, rd_T]
  ·refine ev_pos (by rw [bsize]; omega) (Ev.bind (l4_tells (T.getD i z48).f0 (by omega) (by omega)) ?_)
   refine ev_pos (by rw [bjoin, bsize, bsize]; simp only [List.length_append, List.length_cons, List.length_nil]; omega) (ev_pos (by rw [bjoin, bjoin, bsize, bsize]; simp only [List.length_append, List.length_cons, List.length_nil]; omega) ?_)
   rw [bjoin, bjoin, bjoin]
   have hh := head_len h hi
   have hd := dsL_len _ hps
   refine l1_loop _ (fun x hx => by have := hon x hx; have := hps x hx; exact ⟨by omega, this.2⟩) (by omega) i (T.getD i z48).f1.length 0 _ (by omega) (by simp only [List.length_append, List.length_cons, List.length_nil]; omega) ?_
   rw [List.drop_zero]
   refine l1_end h i hi _ (by simp only [List.length_append, List.length_cons, List.length_nil]; omega) _ ?_
   have hk := l0_loop h ho d (i + 1) (by omega)
   rw [linesL_succ] at hk
   unfold lineL headL at hk
   simpa [List.append_assoc] using hk
theorem specShown_tells (hR : R.length ≤ 1048576) (hT : T.length ≤ 1048576) (hN : N.length ≤ 1048576) : Ev (fun k => spec_Shown.f k R T N) (shownD R T N) := by
 unfold spec_Shown.f shownD
 refine Ev.bind (specStateOk_tells R T N hR hT hN) ?_
 by_cases c : okS R T N = 0
 ·rw [if_pos c]
  exact ev_pos c (l0_loop ((right_iff R T N).1 c) c T.length 0 (by omega))
 ·rw [if_neg c]
  exact ev_neg c (Ev.now _)
end
end Go.Proofs.YtkcocomehhlpmaaDoor.Sh
