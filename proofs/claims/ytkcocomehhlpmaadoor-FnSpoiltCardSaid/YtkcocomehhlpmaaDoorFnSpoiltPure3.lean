/- Plain laws: room, who can move, who waits. No program in sight. -/
import Derived.Test.YtkcocomehhlpmaaDoorFnSpoiltPure2
import Derived.Test.YtkcocomehhlpmaaDoorFnSpoiltQ4
import Derived.Test.YtkcocomehhlpmaaDoorFnSpoiltQ5
import Derived.Test.YtkcocomehhlpmaaDoorFnSpoiltQ1
namespace Go.Proofs.YtkcocomehhlpmaaDoor.Pu
open Go.RowKit Go.Proofs.YtkcocomehhlpmaaDoorW.PrintWords Go.Proofs.YtkcocomehhlpmaaDoorW.PrintLast Go.Proofs.YtkcocomehhlpmaaDoor.Q
set_option linter.unusedVariables false
set_option linter.unusedSimpArgs false

/-- What a state must be so that moves can be asked and made: weaker than right. -/
structure Wf (R : List Int) (T : List S48) (N : List Int) : Prop where
 r1 : R.length ≤ 40
 t1 : T.length ≤ 5
 n1 : N.length = T.length
 room : ∀ r ∈ R, 1 ≤ r ∧ r ≤ 5
 at_ : ∀ t ∈ T, 0 ≤ t.f0 ∧ t.f0 < (R.length : Int)
 path : ∀ t ∈ T, t.f1.length ≤ 8
 on : ∀ t ∈ T, ∀ x ∈ t.f1, 0 ≤ x ∧ x < (R.length : Int)
 wt : ∀ t ∈ T, 1 ≤ t.f2 ∧ t.f2 ≤ 100
theorem pathOk_on {n : Int} : ∀ {p : List Int} {a : Int}, pathOk n a p = true → ∀ x ∈ p, 0 ≤ x ∧ x < n
 | [], _, _ => by simp
 | y :: p, a, h => by
  simp only [pathOk, Bool.and_eq_true, decide_eq_true_eq] at h
  intro x hx
  rcases List.mem_cons.1 hx with rfl | hx
  ·exact ⟨h.1.1, h.1.2.1⟩
  ·exact pathOk_on h.2 x hx
/-- A right state. -/
structure Right (R : List Int) (T : List S48) (N : List Int) : Prop where
 r0 : 1 ≤ R.length
 r1 : R.length ≤ 40
 t1 : T.length ≤ 5
 n1 : N.length = T.length
 room : R.all roomOk = true
 trains : T.all (trainOk R.length) = true
 names : namesOk (-1) N = true
 fits : roomsOk T 0 R = true
theorem right_iff (R : List Int) (T : List S48) (N : List Int) : okS R T N = 0 ↔ Right R T N := by
 unfold okS
 constructor
 ·intro h
  by_cases c : 1 ≤ R.length ∧ R.length ≤ 40 ∧ T.length ≤ 5 ∧ N.length = T.length
  ·rw [if_pos c] at h
   by_cases c1 : R.all roomOk = true
   ·rw [if_pos c1] at h
    by_cases c2 : T.all (trainOk R.length) = true
    ·rw [if_pos c2] at h
     by_cases c3 : namesOk (-1) N = true
     ·rw [if_pos c3] at h
      by_cases c4 : roomsOk T 0 R = true
      ·exact ⟨c.1, c.2.1, c.2.2.1, c.2.2.2, c1, c2, c3, c4⟩
      ·rw [if_neg c4] at h; omega
     ·rw [if_neg c3] at h; omega
    ·rw [if_neg c2] at h; omega
   ·rw [if_neg c1] at h; omega
  ·rw [if_neg c] at h; omega
 ·intro h
  rw [if_pos ⟨h.r0, h.r1, h.t1, h.n1⟩, if_pos h.room, if_pos h.trains, if_pos h.names, if_pos h.fits]
theorem Right.wf {R : List Int} {T : List S48} {N : List Int} (h : Right R T N) : Wf R T N := by
 have ht : ∀ t ∈ T, (0 ≤ t.f0 ∧ t.f0 < (R.length : Int) ∧ t.f1.length ≤ 8 ∧ 1 ≤ t.f2 ∧ t.f2 ≤ 100) ∧ pathOk R.length t.f0 t.f1 = true := by
  intro t ht
  have := List.all_eq_true.1 h.trains t ht
  simpa only [trainOk, Bool.and_eq_true, decide_eq_true_eq] using this
 refine ⟨h.r1, h.t1, h.n1, fun r hr => ?_, fun t m => ⟨(ht t m).1.1, (ht t m).1.2.1⟩, fun t m => (ht t m).1.2.2.1, fun t m => pathOk_on (ht t m).2, fun t m => (ht t m).1.2.2.2⟩
 have := List.all_eq_true.1 h.room r hr
 simpa only [roomOk, decide_eq_true_eq] using this

/-! ### room, can -/
def canB (R : List Int) (T : List S48) (i : Nat) : Bool :=
 match (T.getD i z48).f1 with
 | [] => true
 | x :: _ => decide ((cnt T x : Int) < R.getD x.toNat 0)
theorem rd_N (xs : List Int) {x : Int} (h : 0 ≤ x) : rd xs x = xs.getD x.toNat 0 := rfl
section
variable {R : List Int} {T : List S48} {N : List Int}
theorem free_loop (R : List Int) (T : List S48) (N : List Int) (a c : Int) (hT : T.length ≤ 5) (hc : 0 ≤ c) (hc5 : c ≤ 5) : ∀ (d i m : Nat), i + d = T.length → m ≤ i →
  Ev (fun k => impl_free.l0 k a (c - m) T (T.length : Int) (i : Int)) (c - m - (cnt (T.drop i) a : Int))
 | 0, i, m, h, hm => by
  refine Ev.one (fun k => ?_)
  simp only [impl_free.l0]; rw [if_neg (by omega), List.drop_eq_nil_of_le (by omega)]; simp [cnt]
 | d + 1, i, m, h, hm => by
  have hi : i < T.length := by omega
  rw [drop_cons z48 hi]
  by_cases e : (T.getD i z48).f0 = a
  ·refine Ev.eq (Ev.step (fun k => ?_) (free_loop R T N a c hT hc hc5 d (i + 1) (m + 1) (by omega) (by omega))) ?_
   ·simp only [impl_free.l0]
    rw [if_pos (by omega), if_pos (by omega), if_pos (by omega), rd_T, if_pos e, wsucc hi (by omega), w64 (by omega) (by omega), show c - (m : Int) - 1 = c - ((m + 1 : Nat) : Int) by omega]
   ·unfold cnt; rw [List.countP_cons, if_pos (by simpa using e)]; omega
  ·refine Ev.eq (Ev.step (fun k => ?_) (free_loop R T N a c hT hc hc5 d (i + 1) m (by omega) (by omega))) ?_
   ·simp only [impl_free.l0]
    rw [if_pos (by omega), if_pos (by omega), if_pos (by omega), rd_T, if_neg e, wsucc hi (by omega)]
   ·unfold cnt; rw [List.countP_cons, if_neg (by simpa using e)]; omega
theorem room_at (h : Wf R T N) {x : Int} (h0 : 0 ≤ x) (h1 : x < (R.length : Int)) : 1 ≤ R.getD x.toNat 0 ∧ R.getD x.toNat 0 ≤ 5 := h.room _ (getD_mem 0 (by omega))
theorem free_tells (h : Wf R T N) (a : Int) (h0 : 0 ≤ a) (h1 : a < (R.length : Int)) : Ev (fun k => impl_free.f k R T N a) (R.getD a.toNat 0 - (cnt T a : Int)) := by
 have hr := room_at h h0 h1
 have := free_loop R T N a (R.getD a.toNat 0) h.t1 (by omega) (by omega) T.length 0 0 (by omega) (by omega)
 refine Ev.eq (Ev.congr (fun k => ?_) this) (by simp)
 unfold impl_free.f
 rw [if_pos h0, if_pos h1, rd_N _ h0]
 simp
theorem l1can_tells (h : Wf R T N) (i : Nat) (hi : i < T.length) : Ev (fun k => spec_l1can.f k R T N (i : Int)) (canB R T i) := by
 unfold spec_l1can.f canB
 have ht := h.on _ (getD_mem z48 hi)
 simp only [rd_T, show (0 : Int) ≤ (i : Int) by omega, show (i : Int) < (T.length : Int) by omega, if_true]
 cases hp : (T.getD i z48).f1 with
 | nil => exact Ev.all (fun k => by simp)
 | cons x p =>
  have hx := ht x (by rw [hp]; simp)
  have e0 : rd (x :: p) 0 = x := rfl
  simp only [e0, List.length_cons, show ¬ (((p.length + 1 : Nat) : Int) = 0) by omega, show (0 : Int) < ((p.length + 1 : Nat) : Int) by omega, if_true, if_false]
  refine Ev.bind (there_tells R T N x (by have := h.t1; omega)) (Ev.all (fun k => ?_))
  rw [if_pos hx.1, if_pos hx.2, rd_N _ hx.1]
theorem can_tells (h : Wf R T N) (i : Nat) (hi : i < T.length) : Ev (fun k => impl_can.f k R T N (i : Int)) (canB R T i) := by
 unfold impl_can.f canB
 have ht := h.on _ (getD_mem z48 hi)
 simp only [rd_T, show (0 : Int) ≤ (i : Int) by omega, show (i : Int) < (T.length : Int) by omega, if_true]
 cases hp : (T.getD i z48).f1 with
 | nil => exact Ev.all (fun k => by simp)
 | cons x p =>
  have hx := ht x (by rw [hp]; simp)
  have e0 : rd (x :: p) 0 = x := rfl
  simp only [e0, List.length_cons, show ¬ (((p.length + 1 : Nat) : Int) = 0) by omega, show (0 : Int) < ((p.length + 1 : Nat) : Int) by omega, if_true, if_false]
  refine Ev.bind (free_tells h x hx.1 hx.2) (Ev.all (fun k => ?_))
  congr 1
  rw [decide_eq_decide]
  omega
end
end Go.Proofs.YtkcocomehhlpmaaDoor.Pu
