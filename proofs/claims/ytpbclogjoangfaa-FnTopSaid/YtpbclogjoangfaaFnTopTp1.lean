/- The law FnTop, walked. (Printed by wip/tptgen.py.) -/
import Derived.Test.YtpbclogjoangfaaFnTopTp0
import Derived.Test.YtpbclogjoangfaaFnTopGd1
import Derived.Test.YtpbclogjoangfaaFnTopGd2
import Derived.Test.YtpbclogjoangfaaFnTopPuSt
import Derived.Test.YtpbclogjoangfaaFnTopSt1
import Derived.Test.YtpbclogjoangfaaFnTopQ7
import Derived.Test.YtpbclogjoangfaaFnTopQ3
namespace Go.Proofs.Ytpbclogjoangfaa.Tp
open Go.RowKit Go.Proofs.YtpbclogjoangfaaW.PrintWords Go.Proofs.YtpbclogjoangfaaW.PrintLast Go.Proofs.YtpbclogjoangfaaW.PrintMore Go.Proofs.Ytpbclogjoangfaa.Q Go.Proofs.Ytpbclogjoangfaa.Pu Go.Proofs.Ytpbclogjoangfaa.Mk Go.Proofs.Ytpbclogjoangfaa.Lw Go.Proofs.Ytpbclogjoangfaa.Gd Go.Proofs.Ytpbclogjoangfaa.St
attribute [local go_sem] max2_int min2_int max_two min_two max_three min_three max_four min_four
set_option linter.unusedVariables false
set_option linter.unusedSimpArgs false
theorem wIntsB_loop (l : List Int) (hl : l.length ≤ 9223372036854775807) : ∀ (d i : Nat), i + d = l.length → Ev (fun k => laws_wInts.l0 k l l (l.length : Int) (i : Int)) true
 | 0, i, h => by
  refine Ev.one (fun k => ?_)
  simp only [laws_wInts.l0]; rw [if_neg (by omega)]
 | d + 1, i, h => by
  refine Ev.step (fun k => ?_) (wIntsB_loop l hl d (i + 1) (by omega))
  simp only [laws_wInts.l0]
  rw [if_pos (by omega), if_pos (by omega), if_pos (by omega), if_pos (by omega), if_pos trivial, wsucc (show i < l.length by omega) hl]
theorem wIntsB (l : List Int) (hl : l.length ≤ 9223372036854775807) : Ev (fun k => laws_wInts.f k l l) true := by
 unfold laws_wInts.f
 simp only [if_true]
 exact wIntsB_loop l hl l.length 0 (by omega)
theorem wState_loop (R : List Int) (T : List S35) (N : List Int) (hT : T.length ≤ 9223372036854775807) (hp : ∀ t ∈ T, t.f1.length ≤ 9223372036854775807) : ∀ (d i : Nat), i + d = T.length → Ev (fun k => laws_wState.l0 k (T.length : Int) (i : Int) R T N R T N) true
 | 0, i, h => by
  refine Ev.one (fun k => ?_)
  simp only [laws_wState.l0]; rw [if_neg (by omega)]
 | d + 1, i, h => by
  have hi : i < T.length := by omega
  have hm : T.getD i z35 ∈ T := by rw [List.getD_eq_getElem?_getD, List.getElem?_eq_getElem hi]; exact List.getElem_mem hi
  refine Ev.step (f := fun k => (laws_wInts.f k (T.getD i z35).f1 (T.getD i z35).f1).bind fun t => if t = true then laws_wState.l0 k (T.length : Int) ((i + 1 : Nat) : Int) R T N R T N else some false) (fun k => ?_) (Ev.bind (wIntsB _ (hp _ hm)) (Ev.congr (fun k => by rw [if_pos rfl]) (wState_loop R T N hT hp d (i + 1) (by omega))))
  simp only [laws_wState.l0]
  rw [if_pos (by omega), if_pos (by omega), if_pos (by omega), if_pos (by omega), rd_T, wsucc hi hT]
  simp only [if_true]
theorem wState_same (R : List Int) (T : List S35) (N : List Int) (hR : R.length ≤ 9223372036854775807) (hT : T.length ≤ 9223372036854775807) (hN : N.length ≤ 9223372036854775807) (hp : ∀ t ∈ T, t.f1.length ≤ 9223372036854775807) : Ev (fun k => laws_wState.f k R T N R T N) true := by
 unfold laws_wState.f
 refine Ev.bind (wIntsB R hR) ?_
 simp only [if_true]
 refine Ev.bind (wIntsB N hN) ?_
 simp only [if_true]
 refine Ev.step (fun k => ?_) (wState_loop R T N hT hp T.length 0 (by omega))
 simp only [laws_wState.j0]
 simp
/-- What is read of a state. -/
structure Rc (W : World) (E0 : Option Addr) (f0 : Nat) (R : List Int) (E1 : Option Addr) (f1 : Nat) (T : List S35) (E2 : Option Addr) (f2 : Nat) (N : List Int) : Prop where
 r0 : Kd.C (Kd.int .i64) W E0 R.length R
 h0 : R.length ≤ f0
 r1 : Kd.C k35 W E1 T.length T
 h1 : T.length ≤ f1
 r2 : Kd.C (Kd.int .i64) W E2 N.length N
 h2 : N.length ≤ f2
section
variable {W W' : World} {base : Nat} {P : Nat → Prop} {E0 E1 E2 D0 D1 D2 : Option Addr} {f0 f1 f2 d0 d1 d2 : Nat} {R N : List Int} {T : List S35}
theorem St.rc {n0 n1 n2 : Nat} (h : St base W P (.slice E0 n0 f0) (.slice E1 n1 f1) (.slice E2 n2 f2) R T N) : Rc W E0 f0 R E1 f1 T E2 f2 N := by
 have a0 := Kd.R_reads' h.r0
 have a1 := Kd.S_reads' h.s1
 have a2 := Kd.R_reads' h.r2
 exact ⟨a0.2.2, by omega, a1.2.2, by omega, a2.2.2, by omega⟩
theorem Rc.below (h : Rc W E0 f0 R E1 f1 T E2 f2 N) (hb : Below W.heap.size W W') : Rc W' E0 f0 R E1 f1 T E2 f2 N := ⟨Kd.C_below h.r0 hb, h.h0, Kd.C_below h.r1 hb, h.h1, Kd.C_below h.r2 hb, h.h2⟩
theorem paths_C {A : Option Addr} {n : Nat} (h : Kd.C k35 W A n T) : ∀ t ∈ T, t.f1.length ≤ 9223372036854775807 := fun t ht => by
 obtain ⟨j, hj, rfl⟩ := List.getElem_of_mem ht
 obtain ⟨ad, e, hc⟩ := h.2.2 (by have := h.1; omega)
 obtain ⟨c, _, hK, _⟩ := hc j _ (List.getElem?_eq_getElem hj)
 obtain ⟨A, c', _, _, hC⟩ := k35_open hK
 exact hC.2.1
theorem wState_rc (h : Rc W E0 f0 R E1 f1 T E2 f2 N) (k : Rc W D0 d0 R D1 d1 T D2 d2 N) : Calls Try.prog 18 #[.agg #[.slice E0 R.length f0, .slice E1 T.length f1, .slice E2 N.length f2], .agg #[.slice D0 R.length d0, .slice D1 T.length d1, .slice D2 N.length d2]] W fun e W' => e = .returned (.bool true) ∧ Below W.heap.size W W' := by
 obtain ⟨q, hq⟩ := (wState_same R T N h.r0.2.1 h.r1.2.1 h.r2.2.1 (paths_C h.r1)).rounds
 exact laws_wState.calls q _ _ R _ _ T _ _ N _ _ R _ _ T _ _ N true W h.r0 h.h0 h.r1 h.h1 h.r2 h.h2 k.r0 k.h0 k.r1 k.h1 k.r2 k.h2 hq
end
end Go.Proofs.Ytpbclogjoangfaa.Tp
