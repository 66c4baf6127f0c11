/- The best order costs what is told; an order to the end makes a state safe. No program in sight. -/
import Derived.Test.YtpbclogjoangfaaFnMeetSo0
import Derived.Test.YtpbclogjoangfaaFnMeetSp6
import Derived.Test.YtpbclogjoangfaaFnMeetPure7
namespace Go.Proofs.Ytpbclogjoangfaa.Me
open Go.RowKit Go.Proofs.YtpbclogjoangfaaW.PrintWords Go.Proofs.YtpbclogjoangfaaW.PrintLast Go.Proofs.Ytpbclogjoangfaa.Q Go.Proofs.Ytpbclogjoangfaa.Pu Go.Proofs.Ytpbclogjoangfaa.Sr Go.Proofs.Ytpbclogjoangfaa.Sp Go.Proofs.Ytpbclogjoangfaa.Al Go.Proofs.Ytpbclogjoangfaa.So
set_option linter.unusedVariables false
set_option linter.unusedSimpArgs false
section
variable {R : List Int} {T : List S35} {N : List Int}
theorem pthP_lft : ∀ (m : Nat) (v : List Nat), T.length ≤ v.length → lftP T v T.length = m → (pthP R T v).length ≤ m := by
 intro m
 induction m using Nat.strongRecOn with
 | _ m ih =>
  intro v hl hm
  cases hh : hereP T v T.length with
  | false => rw [pthP_none hh]; simp
  | true =>
   cases hx : nxtP R T v with
   | none =>
    have : pthP R T v = [] := by
     unfold pthP pathP
     rw [hx, if_pos hh]
    rw [this]; simp
   | some i =>
    rw [pthP_some hl hh hx]
    have h1 := lft_mv hl (nxt_mem hx).1
    have h2 := ih (lftP T (inc v i) T.length) (by omega) (inc v i) (by rw [inc_len]; exact hl) rfl
    simp only [List.length_cons]
    omega
theorem costF_path (h : Right R T N) : ∀ (m : Nat) (v : List Nat) (x : Int), okV T v → lftP T v T.length = m → 0 ≤ V R T v → costF x ((pthP R T v).map (fun i => N.getD i 0)) R (stT T v) (stN T N v) = x + V R T v := by
 intro m
 induction m using Nat.strongRecOn with
 | _ m ih =>
  intro v x hv hm hV
  have hw := h.wf
  have hl : T.length ≤ v.length := by rw [hv.1]; exact hw.t1
  cases hh : hereP T v T.length with
  | false =>
   have hi : idx T v = [] := by
    have h1 := hereP_idx (T := T) (v := v)
    rw [hh] at h1
    cases hx : idx T v with
    | nil => rfl
    | cons a l => rw [hx] at h1; simp at h1
   rw [pthP_none hh, List.map_nil, V_idx hl, if_pos hi]
   unfold costF
   rw [if_pos (by rw [stT_len, hi]; rfl)]
   omega
  | true =>
   obtain ⟨i, hi⟩ := nxt_some hl hh hV
   obtain ⟨hm1, hg⟩ := nxt_mem hi
   obtain ⟨hm2, hok⟩ := mvP_mem hm1
   have hidx : i ∈ idx T v := idx_mem.2 ⟨hm2, okP_at hok⟩
   obtain ⟨k, hk, he⟩ := idx_at hidx
   have hf := find_in h hk
   rw [he] at hf
   unfold goodP at hg
   obtain ⟨hg1, hg2⟩ := of_decide_eq_true hg
   rw [pthP_some hl hh hi, List.map_cons]
   unfold costF
   rw [hf, if_neg (by omega), Int.toNat_natCast, can_st hw hk, he, if_pos hok, step_st hw hl hk, he, wgt_st]
   have h1 := lft_mv hl hm1
   rw [ih (lftP T (inc v i) T.length) (by omega) (inc v i) _ (okV_inc hw.t1 hv hm1) rfl hg1]
   omega
theorem cost_best (h : Right R T N) (hV : 0 ≤ V R T zv) : costD R T N ((pthP R T zv).map (fun i => N.getD i 0)) = V R T zv := by
 have hw := h.wf
 have h0 := (right_iff R T N).2 h
 have hl : T.length ≤ zv.length := hw.t1
 have hn : (pthP R T zv).length ≤ 45 := by
  have h1 := pthP_lft (R := R) (T := T) _ zv hl rfl
  have h2 := lftP_le hw zv T.length (Nat.le_refl _)
  have := hw.t1
  omega
 have h3 := costF_path h _ zv 0 (okV_zero T) rfl hV
 rw [show stT T zv = T from stT_zero hw, show stN T N zv = N from stN_zero hw] at h3
 unfold costD
 rw [if_pos ⟨h0, by rw [List.length_map]; exact hn⟩, h3]
 omega
/-- An order of moves, by trains, that ends with nobody left. -/
def wok (R : List Int) (T : List S35) : List Nat → List Nat → Bool
 | v, [] => !hereP T v T.length
 | v, i :: w => decide (i < T.length) && okP R T v i && wok R T (inc v i) w
theorem foldl_keep {w : Int} {f : Nat → Int} (hw : 0 ≤ w) : ∀ (l : List Nat) (c : Int), 0 ≤ c → 0 ≤ l.foldl (fun c i => betP w c (f i)) c
 | [], c, h => h
 | i :: l, c, h => by
  simp only [List.foldl_cons]
  apply foldl_keep hw
  unfold betP
  split <;> omega
theorem foldl_some {w : Int} {f : Nat → Int} (hw : 0 ≤ w) : ∀ (l : List Nat) (c : Int), (∃ i ∈ l, 0 ≤ f i) → 0 ≤ l.foldl (fun c i => betP w c (f i)) c
 | [], c, h => by obtain ⟨i, hi, _⟩ := h; simp at hi
 | i :: l, c, h => by
  simp only [List.foldl_cons]
  by_cases c0 : 0 ≤ f i
  ·apply foldl_keep hw
   unfold betP
   split <;> omega
  ·apply foldl_some hw
   obtain ⟨j, hj, h0⟩ := h
   rcases List.mem_cons.1 hj with e | hj
   ·rw [e] at h0; exact absurd h0 c0
   ·exact ⟨j, hj, h0⟩
theorem V_wok (h : Wf R T N) : ∀ (w v : List Nat), T.length ≤ v.length → wok R T v w = true → 0 ≤ V R T v
 | [], v, hl, hk => by
  have hh : hereP T v T.length = false := by simpa [wok] using hk
  rw [V_eq hl, hh]
  exact foldl_keep (wtP_range h v T.length (Nat.le_refl _)).1 _ _ (by simp)
 | i :: w, v, hl, hk => by
  simp only [wok, Bool.and_eq_true, decide_eq_true_eq] at hk
  have h1 := V_wok h w (inc v i) (by rw [inc_len]; exact hl) hk.2
  rw [V_eq hl]
  exact foldl_some (wtP_range h v T.length (Nat.le_refl _)).1 _ _ ⟨i, by simp [mvP, hk.1.1, hk.1.2], h1⟩
end
end Go.Proofs.Ytpbclogjoangfaa.Me
