/- The best order costs what is told; an order to the end makes a state safe. No program in sight. -/
import Derived.Test.YtpbclogjoangfaaFnBestSo0
import Derived.Test.YtpbclogjoangfaaFnBestAl0
import Derived.Test.YtpbclogjoangfaaFnBestPure7
namespace Go.Proofs.Ytpbclogjoangfaa.Me
open Go.RowKit Go.Proofs.YtpbclogjoangfaaW.PrintWords Go.Proofs.YtpbclogjoangfaaW.PrintLast Go.Proofs.Ytpbclogjoangfaa.Q Go.Proofs.Ytpbclogjoangfaa.Pu Go.Proofs.Ytpbclogjoangfaa.Sr Go.Proofs.Ytpbclogjoangfaa.Sp Go.Proofs.Ytpbclogjoangfaa.Al Go.Proofs.Ytpbclogjoangfaa.So
set_option linter.unusedVariables false
set_option linter.unusedSimpArgs false
section
variable {R : List Int} {T : List S35} {N : List Int}
theorem pthP_lft : ∀ (m : Nat) (v : List Nat), T.length ≤ v.length → lftP T v T.length = m → (pthP R T v).length ≤ m := by
 intro m
 induction m using Nat.strongRecOn with
 | _ m ih =>
  intro v hl hm
  cases hh : hereP T v T.length with
  | false => rw [pthP_none hh]; simp
  | true =>
   cases hx : nxtP R T v with
   | none =>
    have : pthP R T v = [] := by
     unfold pthP pathP
     rw [hx, if_pos hh]
    rw [this]; simp
   | some i =>
    rw [pthP_some hl hh hx]
    have h1 := lft_mv hl (nxt_mem hx).1
    have h2 := ih (lftP T (inc v i) T.length) (by omega) (inc v i) (by rw [inc_len]; exact hl) rfl
    simp only [List.length_cons]
    omega
theorem costF_path (h : Right R T N) : ∀ (m : Nat) (v : List Nat) (x : Int), okV T v → lftP T v T.length = m → 0 ≤ V R T v → costF x ((pthP R T v).map (fun i => N.getD i 0)) R (stT T v) (stN T N v) = x + V R T v := by
 intro m
 induction m using Nat.strongRecOn with
 | _ m ih =>
  intro v x hv hm hV
  have hw := h.wf
  have hl : T.length ≤ v.length := by rw [hv.1]; exact hw.t1
  cases hh : hereP T v T.length with
  | false =>
   have hi : idx T v = [] := by
    have h1 := hereP_idx (T := T) (v := v)
    rw [hh] at h1
    cases hx : idx T v with
    | nil => rfl
    | cons a l => rw [hx] at h1; simp at h1
   rw [pthP_none hh, List.map_nil, V_idx hl, if_pos hi]
   unfold costF
   rw [if_pos (by rw [stT_len, hi]; rfl)]
   omega
  | true =>
   obtain ⟨i, hi⟩ := nxt_some hl hh hV
   obtain ⟨hm1, hg⟩ := nxt_mem hi
   obtain ⟨hm2, hok⟩ := mvP_mem hm1
   have hidx : i ∈ idx T v := idx_mem.2 ⟨hm2, okP_at hok⟩
   obtain ⟨k, hk, he⟩ := idx_at hidx
   have hf := find_in h hk
   rw [he] at hf
   unfold goodP at hg
   obtain ⟨hg1, hg2⟩ := of_decide_eq_true hg
   rw [pthP_some hl hh hi, List.map_cons]
   unfold costF
   rw [hf, if_neg (by omega), Int.toNat_natCast, can_st hw hk, he, if_pos hok, step_st hw hl hk, he, wgt_st]
   have h1 := lft_mv hl hm1
   rw [ih (lftP T (inc v i) T.length) (by omega) (inc v i) _ (okV_inc hw.t1 hv hm1) rfl hg1]
   omega
theorem cost_best (h : Right R T N) (hV : 0 ≤ V R T zv) : costD R T N ((pthP R T zv).map (fun i => N.getD i 0)) = V R T zv := by
 have hw := h.wf
 have h0 := (right_iff R T N).2 h
 have hl : T.length ≤ zv.length := hw.t1
 have hn : (pthP R T zv).length ≤ 45 := by
  have h1 := pthP_lft (R := R) (T := T) _ zv hl rfl
  have h2 := lftP_le hw zv T.length (Nat.le_refl _)
  have := hw.t1
  omega
 have h3 := costF_path h _ zv 0 (okV_zero T) rfl hV
 rw [show stT T zv = T from stT_zero hw, show stN T N zv = N from stN_zero hw] at h3
 unfold costD
 rw [if_pos ⟨h0, by rw [List.length_map]; exact hn⟩, h3]
 omega
end
end Go.Proofs.Ytpbclogjoangfaa.Me
