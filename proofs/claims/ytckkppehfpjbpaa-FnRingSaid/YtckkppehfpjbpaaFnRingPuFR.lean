/- The law FnRing, as a plain statement. -/
import Derived.Test.YtckkppehfpjbpaaFnRingDr1
import Derived.Test.YtckkppehfpjbpaaFnRingRg7
import Derived.Test.YtckkppehfpjbpaaFnRingPuRing
import Derived.Test.YtckkppehfpjbpaaFnRingHlawsFnRing
namespace Go.Proofs.Ytckkppehfpjbpaa.FR
open Go.RowKit Go.Proofs.YtckkppehfpjbpaaW.PrintWords Go.Proofs.YtckkppehfpjbpaaW.PrintLast Go.Proofs.Ytckkppehfpjbpaa.Q Go.Proofs.Ytckkppehfpjbpaa.Pu Go.Proofs.Ytckkppehfpjbpaa.Sr Go.Proofs.Ytckkppehfpjbpaa.Rg Go.Proofs.Ytckkppehfpjbpaa.Dr
set_option linter.unusedVariables false
set_option linter.unusedSimpArgs false
attribute [local irreducible] V
theorem Ev.same {α : Type} {g f : Nat → Option α} {r : α} (h : ∀ k, g k = f k) (e : Ev f r) : Ev g r := by
 have : g = f := funext h
 rw [this]; exact e
theorem bytes_ok {l : List Int} (h : ∀ x ∈ l, (Lit.int .u8 x).wf = true) : ∀ x ∈ l, 0 ≤ x ∧ x ≤ 255 := by
 intro x hx
 have h := h x hx
 have h4 : IntKind.u8.min = 0 := rfl
 have h5 : IntKind.u8.max = 255 := rfl
 simp only [Lit.wf, Bool.and_eq_true, decide_eq_true_eq, h4, h5] at h
 omega
theorem wByte_ok {l : List Int} (hw : ∀ x ∈ l, 0 ≤ x ∧ x ≤ 255) (i : Nat) : ∃ b : Nat, laws_wByte.f l (i : Int) = some (b : Int) ∧ b ≤ 255 := by
 unfold laws_wByte.f
 by_cases c : (l.length : Int) = 0
 ·rw [if_pos c]; exact ⟨0, rfl, by omega⟩
 ·rw [if_neg c]
  have e : Int.tmod (i : Int) (l.length : Int) = ((i % l.length : Nat) : Int) := by rw [Int.tmod_eq_emod_of_nonneg (by omega)]; rfl
  have hlt : i % l.length < l.length := Nat.mod_lt _ (by omega)
  rw [e, if_pos (by omega), if_pos (by omega), rd_I]
  have hm := hw _ (getD_mem 0 hlt)
  refine ⟨(l.getD (i % l.length) 0).toNat, ?_, by omega⟩
  rw [w64 (by omega) (by omega), Int.toNat_of_nonneg hm.1]
theorem wInts_loop (l : List Int) (hl : l.length ≤ 1048576) : ∀ (d i : Nat), i + d = l.length → Ev (fun k => laws_wInts.l0 k l l (l.length : Int) (i : Int)) true
 | 0, i, h => by
  refine Ev.one (fun k => ?_)
  simp only [laws_wInts.l0]; rw [if_neg (by omega)]
 | d + 1, i, h => by
  refine Ev.step (fun k => ?_) (wInts_loop l hl d (i + 1) (by omega))
  simp only [laws_wInts.l0]
  rw [if_pos (by omega), if_pos (by omega), if_pos (by omega), if_pos (by omega), if_pos trivial, show wrap64 ((i : Int) + 1) = ((i + 1 : Nat) : Int) by rw [w64 (by omega) (by omega)]; omega]
theorem wInts_tells (l : List Int) (hl : l.length ≤ 1048576) : Ev (fun k => laws_wInts.f k l l) true := by
 unfold laws_wInts.f
 simp only [if_true]
 exact wInts_loop l hl l.length 0 (by omega)
/-! ### rings of states -/
section
variable {R : List Int} {T : List S40} {N : List Int}
/-- Each of the ring waits for the next. -/
theorem ring_waits (i : Nat) (hi : i < (ringD R T N).length) : (ringD R T N).getD ((i + 1) % (ringD R T N).length) 0 ∈ waitsD R T N ((ringD R T N).getD i 0) := by
 unfold ringD at hi ⊢
 by_cases c : okS R T N = 0
 ·rw [if_pos c] at hi ⊢
  unfold sRing bestR at hi ⊢
  rcases bestR_mem (N.map (ringF (waitsD R T N))) [] with h | h
  ·rw [h] at hi; simp at hi
  ·obtain ⟨p, _, e⟩ := List.mem_map.1 h
   rw [← e] at hi ⊢
   exact ringF_ring (by intro e2; rw [e2] at hi; simp at hi) hi
 ·rw [if_neg c] at hi; simp at hi
theorem mvS_nil (h : mvS R T N = []) (i : Nat) (hi : i < T.length) : canB R T i = false := by
 unfold mvS at h
 rw [mvF_eq] at h
 cases c : canB R T i with
 | false => rfl
 | true =>
  have h1 := List.map_eq_nil_iff.1 h
  have : i ∈ (List.range' 0 T.length).filter (canB R T) := List.mem_filter.2 ⟨List.mem_range'_1.2 ⟨by omega, by omega⟩, c⟩
  rw [h1] at this; simp at this
theorem mvS_all (h : (mvS R T N).length = T.length) (i : Nat) (hi : i < T.length) : canB R T i = true := by
 unfold mvS at h
 rw [mvF_eq, List.length_map] at h
 have h2 : ((List.range' 0 T.length).filter (canB R T)).length = (List.range' 0 T.length).length := by rw [h, List.length_range']
 exact (List.length_filter_eq_length_iff.1 h2) i (List.mem_range'_1.2 ⟨by omega, by omega⟩)
theorem onF_ne {f : Nat → Int} {x : Int} : ∀ (d i j : Nat), i ≤ j → j < i + d → (T.getD j z40).f0 = x → onF T f x i d ≠ []
 | 0, i, j, h1, h2, _ => by omega
 | d + 1, i, j, h1, h2, e => by
  simp only [onF]
  by_cases c : j = i
  ·subst c; rw [if_pos e]; simp
  ·have := onF_ne (f := f) d (i + 1) j (by omega) (by omega) e
   simp [this]
theorem cnt_some {x : Int} (h : 0 < cnt T x) : ∃ j, j < T.length ∧ (T.getD j z40).f0 = x := by
 unfold cnt at h
 obtain ⟨t, ht, e⟩ := List.countP_pos_iff.1 h
 obtain ⟨j, hj, rfl⟩ := List.getElem_of_mem ht
 refine ⟨j, hj, ?_⟩
 rw [List.getD_eq_getElem?_getD, List.getElem?_eq_getElem hj]
 simpa using e
/-- Who can't move waits for somebody. -/
theorem waits_some (h : Right R T N) {i : Nat} (hi : i < T.length) (hc : canB R T i = false) : waitsP R T i ≠ [] := by
 unfold waitsP
 rw [hc]
 simp only [Bool.false_eq_true, if_false]
 have hm := getD_mem z40 hi
 unfold canB at hc
 unfold headS
 have hon := h.wf.on _ hm
 cases hp : (T.getD i z40).f1 with
 | nil => rw [hp] at hc; simp at hc
 | cons x p =>
  rw [hp] at hc hon
  have hx := hon x (by simp)
  have hr := room_at h.wf hx.1 hx.2
  have h3 := of_decide_eq_false hc
  obtain ⟨j, hj, e⟩ := cnt_some (T := T) (x := x) (by omega)
  exact onF_ne _ 0 j (by omega) (by omega) e
theorem okP_zero (h : Wf R T N) {i : Nat} (hi : i < T.length) (hc : canB R T i = false) : okP R T [0, 0, 0, 0, 0] i = false := by
 have hz : ([0, 0, 0, 0, 0] : List Nat).getD i 0 = 0 := by
  have := h.t1
  match i with
  | 0 => rfl
  | 1 => rfl
  | 2 => rfl
  | 3 => rfl
  | 4 => rfl
  | i + 5 => omega
 have ha : ∀ j, j < T.length → atP T [0, 0, 0, 0, 0] j = (T.getD j z40).f0 := fun j hj => by
  have hzj : ([0, 0, 0, 0, 0] : List Nat).getD j 0 = 0 := by
   have := h.t1
   match j with
   | 0 => rfl
   | 1 => rfl
   | 2 => rfl
   | 3 => rfl
   | 4 => rfl
   | j + 5 => omega
  unfold atP atD
  rw [hzj, if_pos rfl]
 unfold canB at hc
 cases hp : (T.getD i z40).f1 with
 | nil => rw [hp] at hc; simp at hc
 | cons x p =>
  rw [hp] at hc
  have h3 := of_decide_eq_false hc
  have hto : toP T [0, 0, 0, 0, 0] i = x := by
   unfold toP atD
   rw [hz, if_neg (by omega), hp, if_pos (by simp)]
   rfl
  have hth : thP T [0, 0, 0, 0, 0] x T.length = cnt T x := by
   unfold thP cnt
   have e : T = (List.range T.length).map (fun j => T.getD j z40) := by
    apply List.ext_getElem
    ·simp
    ·intro j h1 h2
     simp [List.getD, h1]
   conv => rhs; rw [e, List.countP_map]
   apply List.countP_congr
   intro j hj
   simp [ha j (List.mem_range.1 hj)]
  have hx := h.on _ (getD_mem z40 hi) x (by rw [hp]; simp)
  unfold okP
  rw [hto, hth, decide_eq_false (show ¬ (x < 0) by omega), decide_eq_false h3]
  simp
/-- Where nobody can move, nobody gets home. -/
theorem V_stuck (h : Right R T N) (h0 : 0 < T.length) (hs : mvS R T N = []) : V R T [0, 0, 0, 0, 0] = -1 := by
 have hl : T.length ≤ ([0, 0, 0, 0, 0] : List Nat).length := h.t1
 rw [V_eq hl]
 have hm : mvP R T [0, 0, 0, 0, 0] T.length = [] := by
  unfold mvP
  refine List.filter_eq_nil_iff.2 fun i hi => ?_
  have hi := List.mem_range.1 hi
  rw [okP_zero h.wf hi (mvS_nil hs i hi)]
  simp
 have hh : hereP T [0, 0, 0, 0, 0] T.length = true := by
  unfold hereP
  refine List.any_eq_true.2 ⟨0, List.mem_range.2 h0, ?_⟩
  have := (h.wf.at_ _ (getD_mem z40 h0)).1
  have e : atP T [0, 0, 0, 0, 0] 0 = (T.getD 0 z40).f0 := rfl
  rw [e]
  exact decide_eq_true this
 rw [hm, hh]
 rfl
theorem stuck_iff : stuckD R T N = true ↔ okS R T N = 0 ∧ 0 < T.length ∧ mvS R T N = [] := by
 unfold stuckD; exact decide_eq_true_iff
theorem safe_stuck (h : stuckD R T N = true) : (if okS R T N = 0 then decide (0 ≤ V R T [0, 0, 0, 0, 0]) else false) = false := by
 obtain ⟨h1, h2, h3⟩ := stuck_iff.1 h
 rw [if_pos h1, V_stuck ((right_iff R T N).1 h1) h2 h3]
 rfl
/-- Where nobody can move there is a ring. -/
theorem ring_stuck (h : stuckD R T N = true) : ringD R T N ≠ [] := by
 obtain ⟨h1, h2, h3⟩ := stuck_iff.1 h
 have hr := (right_iff R T N).1 h1
 unfold ringD
 rw [if_pos h1, ring_same hr]
 unfold iRing iBest bestR
 obtain ⟨q, ⟨j, hj, rfl⟩, hq⟩ := ring_some (P := inP R T N) (nb := waitsI R T N) (fun p _ => waitsI_in hr) (fun s hs hp => inP_le hr hs hp) (fun p hp => by
  obtain ⟨j, hj, rfl⟩ := hp
  unfold waitsI
  rw [Int.toNat_natCast]
  exact waits_some hr hj (mvS_nil h3 j hj)) (p := ((0 : Nat) : Int)) ⟨0, h2, rfl⟩
 have := bestR_ne ((plc T.length).map (ringF (waitsI R T N))) [] (.inr ⟨_, List.mem_map.2 ⟨((j : Nat) : Int), List.mem_map.2 ⟨j, List.mem_range.2 hj, rfl⟩, rfl⟩, hq⟩)
 intro e
 exact this (List.map_eq_nil_iff.1 e)
/-- Where all can move there is none. -/
theorem ring_moves (h : (movesD R T N).length = T.length) : ringD R T N = [] := by
 unfold ringD
 by_cases c : okS R T N = 0
 ·rw [if_pos c]
  have hr := (right_iff R T N).1 c
  unfold movesD at h
  rw [if_pos c] at h
  rw [ring_same hr]
  unfold iRing iBest bestR
  have e : (plc T.length).map (ringF (waitsI R T N)) = (plc T.length).map (fun _ => []) := by
   apply List.map_congr_left
   intro p hp
   obtain ⟨j, hj, rfl⟩ := List.mem_map.1 hp
   apply ring_free
   unfold waitsI waitsP
   rw [Int.toNat_natCast, mvS_all h j (List.mem_range.1 hj), if_pos rfl]
  rcases bestR_mem ((plc T.length).map (ringF (waitsI R T N))) [] with h1 | h1
  ·rw [h1]; rfl
  ·rw [e] at h1
   obtain ⟨p, _, e2⟩ := List.mem_map.1 h1
   rw [e, ← e2]; rfl
 ·rw [if_neg c]
/-! ### the law's walk -/
theorem l2_tells {L r0 : List Int} (hL : L.length ≤ 1048576) {x : Int} {xs : List Int} {n i : Int} {r : Bool} (next : Ev (fun k => laws_FnRing.l1 k r0 xs n (wrap64 (i + 1)) R T N) r) : ∀ (d j : Nat) (b : Bool), j + d = L.length → (b = true ∨ x ∈ L.drop j) → Ev (fun k => laws_FnRing.l2 k r0 x b xs n i L (L.length : Int) (j : Int) R T N) r
 | 0, j, b, hj, hb => by
  have hb : b = true := hb.resolve_right (by rw [List.drop_eq_nil_of_le (by omega)]; simp)
  refine Ev.step (fun k => ?_) next
  simp only [laws_FnRing.l2]
  rw [if_neg (by omega), if_pos hb]
 | d + 1, j, b, hj, hb => by
  have hlt : j < L.length := by omega
  have ew : wrap64 ((j : Int) + 1) = ((j + 1 : Nat) : Int) := wsucc hlt (by omega)
  cases b with
  | true =>
   refine Ev.step (fun k => ?_) (l2_tells (x := x) hL next d (j + 1) true (by omega) (.inl rfl))
   simp only [laws_FnRing.l2]
   rw [if_pos (by omega), if_pos (by omega), if_pos (by omega), if_pos trivial, ew]
  | false =>
   have hm := hb.resolve_left (by simp)
   rw [drop_cons 0 hlt] at hm
   refine Ev.step (fun k => ?_) (l2_tells (x := x) hL next d (j + 1) (rd L (j : Int) == x) (by omega) ?_)
   ·simp only [laws_FnRing.l2]
    rw [if_pos (by omega), if_pos (by omega), if_pos (by omega), if_neg (by simp), ew]
   ·rw [rd_I]
    rcases List.mem_cons.1 hm with e | e
    ·left; rw [e]; simp
    ·exact .inr e
section
variable (hR : R.length ≤ 1048576) (hT : T.length ≤ 1048576) (hN : N.length ≤ 1048576)
include hR hT hN
theorem l1_tells : ∀ (d i : Nat), i + d = (ringD R T N).length → Ev (fun k => laws_FnRing.l1 k (ringD R T N) (ringD R T N) ((ringD R T N).length : Int) (i : Int) R T N) true
 | 0, i, hi => by
  have hlen := ringD_len R T N
  refine Ev.step (f := fun k => (impl_Stuck.f k R T N).bind fun t472 => (if t472 = true then (if ((ringD R T N).length : Int) > 0 then ((impl_Safe.f k R T N).bind fun t473 => (some (!t473))) else (some false)) else ((impl_Moves.f k R T N).bind fun t474 => (if (t474.length : Int) = (T.length : Int) then (some (((ringD R T N).length : Int) == 0)) else (some true))))) (fun k => ?_) (Ev.bind' (implStuck_tells hR hT hN) ?_)
  ·simp only [laws_FnRing.l1]
   rw [if_neg (by omega)]
  ·by_cases c : stuckD R T N = true
   ·have h1 := List.length_pos_iff.2 (ring_stuck c)
    refine Ev.same (f := fun k => (impl_Safe.f k R T N).bind fun t473 => (some (!t473))) (fun k => ?_) (Ev.bind' (f := fun _ t => some (!t)) (Ev.eq (implSafe_tells hR hT hN) (safe_stuck c)) (Ev.all fun _ => rfl))
    rw [if_pos c, if_pos (by omega)]
   ·refine Ev.same (f := fun k => (impl_Moves.f k R T N).bind fun t474 => (if (t474.length : Int) = (T.length : Int) then (some (((ringD R T N).length : Int) == 0)) else (some true))) (fun k => ?_) (Ev.bind' (f := fun k (t474 : List Int) => if (t474.length : Int) = (T.length : Int) then (some (((ringD R T N).length : Int) == 0)) else (some true)) (implMoves_tells hR hT hN) (Ev.all fun k => ?_))
    ·rw [if_neg c]
    ·by_cases e : ((movesD R T N).length : Int) = (T.length : Int)
     ·rw [if_pos e, ring_moves (by omega)]; rfl
     ·rw [if_neg e]
 | d + 1, i, hi => by
  have hlen := ringD_len R T N
  have hlt : i < (ringD R T N).length := by omega
  have ew : wrap64 ((i : Int) + 1) = ((i + 1 : Nat) : Int) := wsucc hlt (by omega)
  have em : Int.tmod ((i + 1 : Nat) : Int) ((ringD R T N).length : Int) = (((i + 1) % (ringD R T N).length : Nat) : Int) := by rw [Int.tmod_eq_emod_of_nonneg (by omega)]; rfl
  have hml : (i + 1) % (ringD R T N).length < (ringD R T N).length := Nat.mod_lt _ (by omega)
  have hw := ring_waits i hlt
  have hwl := waitsD_len (R := R) (T := T) (N := N) ((ringD R T N).getD i 0)
  refine Ev.step (f := fun k => (impl_Waits.f k R T N ((ringD R T N).getD i 0)).bind fun t468 => (laws_FnRing.l2 k (ringD R T N) ((ringD R T N).getD ((i + 1) % (ringD R T N).length) 0) false (ringD R T N) ((ringD R T N).length : Int) (i : Int) t468 (t468.length : Int) ((0 : Nat) : Int) R T N)) (fun k => ?_) (Ev.bind' (implWaits_tells hR hT hN _) ?_)
  ·simp only [laws_FnRing.l1]
   rw [if_pos (by omega), if_pos (by omega), if_pos (by omega), if_neg (by omega), ew, em, if_pos (by omega), if_pos (by omega), rd_I, rd_I]
   rfl
  ·refine l2_tells (x := (ringD R T N).getD ((i + 1) % (ringD R T N).length) 0) (L := waitsD R T N ((ringD R T N).getD i 0)) (by omega) ?_ (waitsD R T N ((ringD R T N).getD i 0)).length 0 false (by omega) (.inr (by rw [List.drop_zero]; exact hw))
   rw [ew]
   exact l1_tells d (i + 1) (by omega)
end
end
theorem j1_tells {l : List Int} (hw : ∀ x ∈ l, 0 ≤ x ∧ x ≤ 255) : Ev (fun k => laws_FnRing.j1 k l false) true := by
 obtain ⟨R, T, N, hd, hR, hT, hN⟩ := DrawRing_tells hw
 have hlen := ringD_len R T N
 refine Ev.step (fun k => ?_) (Ev.bind' (f := fun k (bt449 : List Int × List S40 × List Int) => ((impl_Ring.f k bt449.1 bt449.2.1 bt449.2.2).bind fun t459 => ((spec_Ring.f k bt449.1 bt449.2.1 bt449.2.2).bind fun t462 => ((laws_wInts.f k t459 t462).bind fun t465 => (if t465 = true then (laws_FnRing.l1 k t459 t459 (t459.length : Int) 0 bt449.1 bt449.2.1 bt449.2.2) else (some false)))))) hd ?_)
 ·simp only [laws_FnRing.j1]
  rw [if_neg (by simp)]
 ·refine Ev.bind' (implRing_tells hR hT hN) ?_
  refine Ev.bind' (specRing_tells hR hT hN) ?_
  refine Ev.bind' (wInts_tells (ringD R T N) (by omega)) ?_
  simp only [if_true]
  exact l1_tells hR hT hN (ringD R T N).length 0 (by omega)
/-! ### the states that the law makes -/
def gT (n : Nat) (i : Nat) : S40 := ⟨(i : Int), [Int.tmod (wrap64 ((i : Int) + 1)) (n : Int)], 1⟩
def gN (b : Nat) (i : Nat) : Int := wrap64 ((wrap64 (3 * (i : Int))) + (b : Int))
def mR (n : Nat) : List Int := (List.range n).map fun _ => 1
def mT (n m : Nat) : List S40 := (List.range m).map (gT n)
def mN (b n : Nat) : List Int := (List.range n).map (gN b)
theorem map_snoc {α : Type} (g : Nat → α) (i : Nat) : (List.range i).map g ++ [g i] = (List.range (i + 1)).map g := by
 rw [List.range_succ, List.map_append]; rfl
theorem l0_tells {l : List Int} {b n : Nat} (hb : laws_wByte.f l 1 = some (b : Int)) (hn0 : 0 < n) (hn : n ≤ 5) {r : Bool} (fin : Ev (fun k => laws_FnRing.l0 k l (n : Int) (n : Int) (mR n) (mT n n) (mN b n)) r) : ∀ (d i : Nat), i + d = n → Ev (fun k => laws_FnRing.l0 k l (n : Int) (i : Int) (mR i) (mT n i) (mN b i)) r
 | 0, i, h => by
  have : i = n := by omega
  subst this; exact fin
 | d + 1, i, h => by
  have ew : wrap64 ((i : Int) + 1) = ((i + 1 : Nat) : Int) := wsucc (n := n) (by omega) (by omega)
  refine Ev.step (fun k => ?_) (l0_tells hb hn0 hn fin d (i + 1) (by omega))
  have l1 : (mR i).length = i := by simp [mR]
  have l2 : (mT n i).length = i := by simp [mT]
  have l3 : (mN b i).length = i := by simp [mN]
  simp only [laws_FnRing.l0]
  rw [if_pos (by omega), if_pos (by omega), if_neg (by omega), if_pos (by omega), hb, Option.bind_some, if_pos (by omega)]
  have e1 : mR i ++ [1] = mR (i + 1) := map_snoc (fun _ => 1) i
  have e2 : mT n i ++ [(⟨(i : Int), [Int.tmod (wrap64 ((i : Int) + 1)) (n : Int)], 1⟩ : S40)] = mT n (i + 1) := map_snoc (gT n) i
  have e3 : mN b i ++ [wrap64 ((wrap64 (3 * (i : Int))) + (b : Int))] = mN b (i + 1) := map_snoc (gN b) i
  rw [e1, e2, e3, ew]
/-- What must be so of a made state. -/
theorem made_tells {l : List Int} (hw : ∀ x ∈ l, 0 ≤ x ∧ x ≤ 255) {n : Nat} (hn0 : 0 < n) (hn : n ≤ 5) {R : List Int} {T : List S40} {N : List Int} (hR : R.length ≤ 1048576) (hT : T.length ≤ 1048576) (hN : N.length ≤ 1048576) (hs : stuckD R T N = true) (hr : ringD R T N = N) :
  Ev (fun k => laws_FnRing.l0 k l (n : Int) (n : Int) R T N) true := by
 refine Ev.step (f := fun k => (impl_Stuck.f k R T N).bind fun t443 => (if t443 = true then ((impl_Safe.f k R T N).bind fun t444 => (if t444 = true then (laws_FnRing.j1 k l true) else ((impl_Ring.f k R T N).bind fun t445 => ((laws_wInts.f k t445 N).bind fun t448 => (laws_FnRing.j1 k l (!t448)))))) else (laws_FnRing.j1 k l true))) (fun k => ?_) (Ev.bind' (Ev.eq (implStuck_tells hR hT hN) hs) ?_)
 ·simp only [laws_FnRing.l0]
  rw [if_neg (by omega)]
 ·simp only [if_true]
  refine Ev.bind' (Ev.eq (implSafe_tells hR hT hN) (safe_stuck hs)) ?_
  simp only [Bool.false_eq_true, if_false]
  refine Ev.bind' (Ev.eq (implRing_tells hR hT hN) hr) ?_
  refine Ev.bind' (wInts_tells _ hN) ?_
  exact j1_tells hw
theorem mN_eq (b n : Nat) (hb : b ≤ 255) (hn : n ≤ 5) : mN b n = (List.range n).map fun i => ((b + 3 * i : Nat) : Int) := by
 unfold mN
 apply List.map_congr_left
 intro i hi
 have := List.mem_range.1 hi
 unfold gN
 rw [w64 (x := 3 * (i : Int)) (by omega) (by omega), w64 (by omega) (by omega)]
 omega
theorem made_right {n b : Nat} (h : n = 2 ∨ n = 3 ∨ n = 4 ∨ n = 5) (hb : b ≤ 255) : stuckD (mR n) (mT n n) (mN b n) = true ∧ ringD (mR n) (mT n n) (mN b n) = mN b n := by
 rw [mN_eq b n hb (by omega)]
 have key : ∀ {R : List Int} {T : List S40} {N : List Int}, Right R T N → 0 < T.length → ((List.range T.length).all fun i => !canB R T i) = true → iBest R T [] = plc T.length → (∀ M, iBest R T M = iBest R T []) → stuckD R T N = true ∧ ringD R T N = N := by
  intro R T N hr h0 hc hb hM
  have ho := (right_iff R T N).2 hr
  have hc : ∀ i, i < T.length → canB R T i = false := fun i hi => by simpa using List.all_eq_true.1 hc i (List.mem_range.2 hi)
  refine ⟨stuck_iff.2 ⟨ho, h0, ?_⟩, ?_⟩
  ·unfold mvS
   rw [mvF_eq, List.map_eq_nil_iff]
   refine List.filter_eq_nil_iff.2 fun i hi => ?_
   have := List.mem_range'_1.1 hi
   rw [hc i (by omega)]
   simp
  ·unfold ringD
   rw [if_pos ho, ring_same hr]
   unfold iRing
   rw [hM, hb, ← hr.n1]
   exact plc_names N
 rcases h with rfl | rfl | rfl | rfl
 ·refine key ⟨by decide, by decide, by decide, by simp [mT], by decide, by kernel_rfl, ?_, by kernel_rfl⟩ (by decide) (by kernel_rfl) (by kernel_rfl) (fun _ => rfl)
  simp [List.range, List.range.loop, namesOk]; omega
 ·refine key ⟨by decide, by decide, by decide, by simp [mT], by decide, by kernel_rfl, ?_, by kernel_rfl⟩ (by decide) (by kernel_rfl) (by kernel_rfl) (fun _ => rfl)
  simp [List.range, List.range.loop, namesOk]; omega
 ·refine key ⟨by decide, by decide, by decide, by simp [mT], by decide, by kernel_rfl, ?_, by kernel_rfl⟩ (by decide) (by kernel_rfl) (by kernel_rfl) (fun _ => rfl)
  simp [List.range, List.range.loop, namesOk]; omega
 ·refine key ⟨by decide, by decide, by decide, by simp [mT], by decide, by kernel_rfl, ?_, by kernel_rfl⟩ (by decide) (by kernel_rfl) (by kernel_rfl) (fun _ => rfl)
  simp [List.range, List.range.loop, namesOk]; omega
theorem FnRing_ev (l : List Int) (hw : ∀ x ∈ l, 0 ≤ x ∧ x ≤ 255) : Ev (fun k => laws_FnRing.f k l) true := by
 unfold laws_FnRing.f
 by_cases c : (l.length : Int) > 1048576
 ·simp only [c, if_true]; exact Ev.all fun _ => rfl
 ·simp only [c, if_false]
  obtain ⟨a, ha, _⟩ := wByte_ok hw 0
  obtain ⟨b, hb, hb2⟩ := wByte_ok hw 1
  have ha' : laws_wByte.f l 0 = some (a : Int) := ha
  have hb' : laws_wByte.f l 1 = some (b : Int) := hb
  have en : wrap64 (2 + (Int.tmod (a : Int) 4)) = ((2 + a % 4 : Nat) : Int) := by
   have e : Int.tmod (a : Int) 4 = ((a % 4 : Nat) : Int) := by rw [Int.tmod_eq_emod_of_nonneg (by omega)]; rfl
   rw [e, w64 (by omega) (by omega)]; omega
  simp only [ha', Option.bind_some, en]
  have hn : 2 + a % 4 = 2 ∨ 2 + a % 4 = 3 ∨ 2 + a % 4 = 4 ∨ 2 + a % 4 = 5 := by omega
  generalize 2 + a % 4 = n at hn
  obtain ⟨h1, h2⟩ := made_right (n := n) (b := b) hn hb2
  have q1 : (mR n).length = n := by simp [mR]
  have q2 : (mT n n).length = n := by simp [mT]
  have q3 : (mN b n).length = n := by simp [mN]
  exact l0_tells hb' (by omega) (by omega) (made_tells hw (by omega) (by omega) (by omega) (by omega) (by omega) h1 h2) n 0 (by omega)
theorem FnRing_pure : laws_FnRing.Pure := by
 intro l h1 h2 h3
 exact (FnRing_ev l (bytes_ok h3)).rounds
end Go.Proofs.Ytckkppehfpjbpaa.FR
