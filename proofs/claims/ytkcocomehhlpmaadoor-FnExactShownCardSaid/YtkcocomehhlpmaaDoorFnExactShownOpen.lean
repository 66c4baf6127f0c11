/- An argument of type laws.State, and a slice of integers, opened: what is read as data reads as the print's kinds say. -/
import Derived.Test.YtkcocomehhlpmaaDoorFnExactShownQ0
import Derived.Lib.SmallJoins
import Derived.Deep.Slices
namespace Go.Proofs.YtkcocomehhlpmaaDoor.Opn
open Go.RowKit Go.Proofs.YtkcocomehhlpmaaDoorW.PrintWords Go.Proofs.YtkcocomehhlpmaaDoor.Q
set_option maxRecDepth 100000
set_option linter.unusedVariables false
set_option linter.unusedSimpArgs false

/-- Whatever reads as data of type t reads as the kind says. -/
structure Opens {α : Type} (P : Program) (t : TypeId) (d : Kd α) : Prop where
 K : ∀ {H : Type} {enc : TypeId × Value → H} {w : World} {sp : Nat → Bool} {held : Bool} {fuel : Nat} {cs : List Value} {x : DataW H × List MemPlace},
  DataW.trod enc P w 0 sp held fuel t cs = some x → ∃ a : α, d.K w a cs

theorem opens_int {P : Program} {t : TypeId} {k : IntKind} (ht : P.underlying t = some (.int k)) : Opens P t (Kd.int k) := ⟨fun h => by
 obtain ⟨n, rfl, _, _⟩ := DataW.trod_int ht h
 exact ⟨n, rfl⟩⟩

theorem cells_at {w : World} {a : Addr} {n : Nat} {cs : List Value} (h : w.cells? 0 a n = some cs) : ∀ i u, cs[i]? = some u → w.cell? (a.add i) = some u := by
 unfold World.cells? at h
 rw [if_pos (Nat.zero_le _)] at h
 have hl : cs.length = n := by simpa using mapM_some_length h
 intro i u hu
 have hi : i < cs.length := (List.getElem?_eq_some_iff.1 hu).1
 have hg := mapM_some_get h i i (by rw [List.getElem?_range (by omega)])
 exact hg.trans hu

theorem opens_slice {α : Type} [Inhabited α] {d : Kd α} {P : Program} {t e : TypeId} (ht : P.underlying t = some (.slice e)) (hsz : P.cellsOf e = d.sz) (hd : Opens P e d) : Opens P t (Kd.slice e d) := ⟨fun {H enc w sp held fuel cs x} h => by
 rcases Go.Deep.open_slice ht h with ⟨rfl, _⟩ | ⟨a, len, cap, m, n, D, Pl, rfl, _, hl, hm, hmm, _, hx⟩
 ·exact ⟨[], none, 0, rfl, Nat.le_refl _, Kd.C_nil d _⟩
 ·have hle : len ≤ m := by rw [hmm]; split <;> omega
  obtain ⟨f, hf⟩ := Go.Deep.choose_lt (α := α × List Value) (p := fun i z => w.cells? 0 (a.add (i * P.cellsOf e)) (P.cellsOf e) = some z.2 ∧ d.K w z.1 z.2) (n := len) (fun i hi => by
   obtain ⟨cs', h1, h2⟩ := hx i (by omega)
   obtain ⟨z, hz⟩ := hd.K h2
   exact ⟨(z, cs'), h1, hz⟩)
  refine ⟨(List.range len).map (fun i => (f i).1), some a, cap, by simp, by simpa using hl, by simp, by unfold maxLen at hm; simp; omega, fun _ => ⟨a, rfl, fun j p hj => ?_⟩⟩
  have hlt : j < len := by
   have := (List.getElem?_eq_some_iff.1 hj).1
   simpa using this
  have hp : (f j).1 = p := by
   rw [List.getElem?_map, List.getElem?_range hlt] at hj
   exact Option.some.inj hj
  subst hp
  obtain ⟨h1, h2⟩ := hf j hlt
  refine ⟨(f j).2, d.K_len h2, h2, fun i u hu => ?_⟩
  have := cells_at h1 i u hu
  rwa [Go.Deep.add_add, hsz] at this⟩

theorem cells_int : Tryd.prog.cellsOf 3 = 1 := by kernel_rfl
theorem cells_ints : Tryd.prog.cellsOf 22 = 1 := by kernel_rfl
theorem cells_train : Tryd.prog.cellsOf 80 = 3 := by kernel_rfl
theorem opens_ints : Opens Tryd.prog 22 (Kd.slice 3 (Kd.int .i64)) := opens_slice Tryd.underlying22 cells_int (opens_int Tryd.underlying3)

theorem three {α : Type} {l : List α} (h : l.length = 3) : ∃ a b c, l = [a, b, c] := by
 match l, h with
 | [a, b, c], _ => exact ⟨a, b, c, rfl⟩

theorem opens_train : Opens Tryd.prog 80 k80 := ⟨fun h => by
 obtain ⟨xs, n, _, _, hlen, hxl, hf⟩ := DataW.trod_struct Tryd.underlying80 h
 rw [cells_train] at hlen
 obtain ⟨c0, c1, c2, rfl⟩ := three hlen
 obtain ⟨x0, x1, x2, rfl⟩ := three hxl
 have h0 := hf 0 _ rfl
 have h1 := hf 1 _ rfl
 have h2 := hf 2 _ rfl
 clear hf
 simp only [cells_int, cells_ints, List.drop_zero, List.drop_succ_cons, List.take_succ_cons, List.take_zero, List.getElem?_cons_zero, List.getElem?_cons_succ] at h0 h1 h2
 obtain ⟨a, ha⟩ := (opens_int Tryd.underlying3).K h0
 obtain ⟨l, A, c, hl, hle, hC⟩ := opens_ints.K h1
 obtain ⟨b, hb⟩ := (opens_int Tryd.underlying3).K h2
 obtain rfl : c0 = .int .i64 a := by injection ha
 obtain rfl : c1 = .slice A l.length c := by injection hl
 obtain rfl : c2 = .int .i64 b := by injection hb
 exact ⟨⟨a, l, b⟩, k80_mk _ ⟨a, l, b⟩ hle hC⟩⟩
instance : Inhabited S80 := ⟨z80⟩
theorem opens_trains : Opens Tryd.prog 23 (Kd.slice 80 k80) := opens_slice Tryd.underlying23 cells_train opens_train

section
variable {H : Type} {enc : TypeId × Value → H} {w : World} {sp : Nat → Bool} {held : Bool}
/-- A slice of integers, as an argument. -/
theorem open_ints' {v : Value} {d : DataW H} {p : List MemPlace} (h : DataW.Trod enc Tryd.prog w 0 sp held 22 v d p) (hv : v.cells.toList = [v]) :
  ∃ (l : List Int) (A : Option Addr) (c : Nat), v = .slice A l.length c ∧ l.length ≤ c ∧ Kd.C (Kd.int .i64) w A l.length l := by
 obtain ⟨fuel, hf⟩ := h
 rw [hv] at hf
 obtain ⟨l, A, c, hl, hle, hC⟩ := opens_ints.K hf
 exact ⟨l, A, c, by injection hl, hle, hC⟩
/-- A laws.State, as an argument. -/
theorem open_state {r : Reach} {b0 : Nat} {v : Value} {d : DataW H} {p : List MemPlace} (hv : Value.okWide Tryd.prog w r b0 25 v) (h : DataW.Trod enc Tryd.prog w 0 sp held 25 v d p) :
  ∃ (l0 : List Int) (A0 : Option Addr) (c0 : Nat) (l1 : List S80) (A1 : Option Addr) (c1 : Nat) (l2 : List Int) (A2 : Option Addr) (c2 : Nat), v = .agg #[.slice A0 l0.length c0, .slice A1 l1.length c1, .slice A2 l2.length c2] ∧
   Kd.C (Kd.int .i64) w A0 l0.length l0 ∧ l0.length ≤ c0 ∧ Kd.C k80 w A1 l1.length l1 ∧ l1.length ≤ c1 ∧ Kd.C (Kd.int .i64) w A2 l2.length l2 ∧ l2.length ≤ c2 := by
 obtain ⟨v0, v1, v2, y0, y1, y2, n, rfl, _, _, t0, t1, t2⟩ := Go.Joins.open_agg3 Tryd.underlying25 (by kernel_rfl) (by kernel_rfl) hv h
 obtain ⟨l0, A0, c0, e0, b0, r0⟩ := opens_ints.K t0
 obtain ⟨l1, A1, c1, e1, b1, r1⟩ := opens_trains.K t1
 obtain ⟨l2, A2, c2, e2, b2, r2⟩ := opens_ints.K t2
 obtain rfl : v0 = .slice A0 l0.length c0 := by injection e0
 obtain rfl : v1 = .slice A1 l1.length c1 := by injection e1
 obtain rfl : v2 = .slice A2 l2.length c2 := by injection e2
 exact ⟨l0, A0, c0, l1, A1, c1, l2, A2, c2, rfl, r0, b0, r1, b1, r2, b2⟩
end
end Go.Proofs.YtkcocomehhlpmaaDoor.Opn
