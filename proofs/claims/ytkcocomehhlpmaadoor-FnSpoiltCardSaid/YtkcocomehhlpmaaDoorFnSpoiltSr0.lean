/- The search of the program: where a train is that has come so far. Walked by hand. -/
import Derived.Test.YtkcocomehhlpmaaDoorFnSpoiltPure0
import Derived.Maps.OwnSet
namespace Go.Proofs.YtkcocomehhlpmaaDoor.Sr
open Go.RowKit Go.Proofs.YtkcocomehhlpmaaDoorW.PrintWords Go.Proofs.YtkcocomehhlpmaaDoorW.PrintLast Go.Proofs.YtkcocomehhlpmaaDoorW.PrintMore Go.Proofs.YtkcocomehhlpmaaDoor.Q Go.Proofs.YtkcocomehhlpmaaDoor.Pu
set_option linter.unusedVariables false
set_option linter.unusedSimpArgs false
/-- Where a train is that has come so far; -1: it has left. -/
def atD (t : S48) (far : Nat) : Int := if far = 0 then t.f0 else if far ≤ t.f1.length then t.f1.getD (far - 1) 0 else -1
/-- The search's struct at gs: the state's three rows, the map. -/
structure Sr (W : World) (gs : Nat) (A0 : Option Addr) (c0 : Nat) (l0 : List Int) (A1 : Option Addr) (c1 : Nat) (l1 : List S48) (A2 : Option Addr) (c2 : Nat) (l2 : List Int) (b : Nat) : Prop where
 blk : W.heap[gs]? = some (.cells #[.slice A0 l0.length c0, .slice A1 l1.length c1, .slice A2 l2.length c2, .map (some b)] 90 (0, 0))
 r0 : Kd.C (Kd.int .i64) W A0 l0.length l0
 h0 : l0.length ≤ c0
 r1 : Kd.C k48 W A1 l1.length l1
 h1 : l1.length ≤ c1
 r2 : Kd.C (Kd.int .i64) W A2 l2.length l2
 h2 : l2.length ≤ c2
set_option maxHeartbeats 1000000 in
set_option maxRecDepth 100000 in
theorem at_calls (W : World) {gs : Nat} {A0 : Option Addr} {c0 : Nat} {l0 : List Int} {A1 : Option Addr} {c1 : Nat} {l1 : List S48} {A2 : Option Addr} {c2 : Nat} {l2 : List Int} {b : Nat} (h : Sr W gs A0 c0 l0 A1 c1 l1 A2 c2 l2 b)
  (i far : Nat) (hi : i < l1.length) (hf : far ≤ 1000) (hp : (l1.getD i z48).f1.length ≤ 1000) :
  Calls Tryd.prog 41 #[.pointer (some ⟨gs, 0, none⟩), .int .i64 i, .int .i64 far] W fun e W' => e = .returned (.int .i64 (atD (l1.getD i z48) far)) ∧ Below W.heap.size W W' := by
 have x1 : W.cell? ⟨gs, 1, none⟩ = some (.slice A1 l1.length c1) := (blk_cell h.blk 1).trans rfl
 have p : (0 : Int) ≤ (i : Int) := by omega
 have q : (i : Int) < (l1.length : Int) := by omega
 obtain ⟨ad, B, c, e, y0, y1, y2, hl, hC⟩ := at_T48 h.r1 (i : Int) p q
 subst e
 have HB := Aside0.mk (Below.refl W.heap.size W)
 have er : rd_T48 l1 (i : Int) = l1.getD i z48 := rd_T l1 i
 rw [er] at y0 y1 y2 hl hC
 rw [Int.toNat_natCast] at y0 y1 y2
 clear h
 generalize l1.getD i z48 = t at *
 have HCC := Aside0.mk hC
 have HL := Aside0.mk hl
 clear hC hl er
 have hu := Tryd.underlying48
 by_cases c0 : far = 0
 ·subst c0
  have e0 : decide (((0 : Nat) : Int) = 0) = true := by decide
  go_enter Tryd.func41, Tryd.ntmps41
  go_wp2_with (fail)
  go_ret
  exact ⟨by simp [atD], HB.out.alloc (Nat.le_refl _) _⟩
 ·have e0 : ((far : Int) == 0) = false := by simp; omega
  by_cases c1 : far ≤ t.f1.length
  ·have e1 : decide ((far : Int) ≤ (t.f1.length : Int)) = true := decide_eq_true (by omega)
   obtain ⟨pd, pe, px⟩ := Kd.at_int HCC.out ((far : Int) - 1) (by omega) (by omega)
   subst pe
   have en : ((far : Int) - 1).toNat = far - 1 := by omega
   have px1 : W.cell? (pd.add (far - 1)) = some (.int .i64 (t.f1.getD (far - 1) 0)) := by rw [← en]; exact px
   have HA := HB.out.alloc (Nat.le_refl _) (.cells #[.int .i64 t.f0, .slice (some pd) t.f1.length c, .int .i64 t.f2] 48)
   have px2 := (HA.cell (World.block_lt_of_cell? W _ px1)).trans px1
   clear px
   have p1 : (0 : Int) ≤ (far : Int) - 1 := by omega
   have q1 : (far : Int) - 1 < (t.f1.length : Int) := by omega
   have ew : wrap64 ((far : Int) - 1) = (far : Int) - 1 := w64 (by omega) (by omega)
   go_enter Tryd.func41, Tryd.ntmps41
   go_wp2_with (fail)
   go_ret
   exact ⟨by simp [atD, c0, c1], HB.out.alloc (Nat.le_refl _) _⟩
  ·have e1 : decide ((far : Int) ≤ (t.f1.length : Int)) = false := decide_eq_false (by omega)
   go_enter Tryd.func41, Tryd.ntmps41
   go_wp2_with (fail)
   go_ret
   exact ⟨by simp [atD, c0, c1], HB.out.alloc (Nat.le_refl _) _⟩
end Go.Proofs.YtkcocomehhlpmaaDoor.Sr
