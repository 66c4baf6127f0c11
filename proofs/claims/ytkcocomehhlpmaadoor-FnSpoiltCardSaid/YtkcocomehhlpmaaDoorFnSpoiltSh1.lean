/- A text that is written bit by bit: a builder of the call's own; Itoa. -/
import Derived.Test.YtkcocomehhlpmaaDoorFnSpoiltSf1
import Derived.Test.YtkcocomehhlpmaaDoorFnSpoiltSh0
import Derived.Test.YtkcocomehhlpmaaDoorFnSpoiltSr8
import Derived.Lib.SmallJoins
import Derived.Lib.AppendIntMem
namespace Go.Proofs.YtkcocomehhlpmaaDoor.Sh
open Go.Shelf Go.RowKit Go.Proofs.YtkcocomehhlpmaaDoorW.PrintWords Go.Proofs.YtkcocomehhlpmaaDoorW.PrintLast Go.Proofs.YtkcocomehhlpmaaDoor.Q Go.Proofs.YtkcocomehhlpmaaDoor.Pu Go.Proofs.YtkcocomehhlpmaaDoor.Sr
set_option linter.unusedVariables false
set_option linter.unusedSimpArgs false
/-- The digits' table, in a world. -/
def Tab (w : World) : Prop := Lib.TabIs Tryd.prog w "internal/strconv.uint64pow10" .u64 Lib.pow10Tab
theorem Tab.below {w w' : World} (h : Tab w) (hb : Below w.heap.size w w') : Tab w' := by
 have h1 := Lib.tabBelow_of_tabIs h
 exact h1 w' hb
/-- Itoa. -/
theorem itoa_calls {n : Int} (h : Sm n) {w : World} (ht : Tab w) : Calls Tryd.prog 28 #[.int .i64 n] w fun e w' => e = .returned (.string ⟨(Lib.itoa n).toArray⟩) ∧ Below w.heap.size w w' := by
 refine (Tryd.strconv_Itoa n (by have := h.1; omega) (by have := h.2; omega) w ht).mono ?_
 rintro e w' ⟨rfl, k, os, rfl⟩
 exact ⟨rfl, Lib.below_grow _ w (Nat.le_refl _) k os⟩
/-- The builder at block b, that holds l. -/
def Bd (b : Nat) (l : List UInt8) (W : World) : Prop := Lib.IsBuilderF 56 5 b b (Lib.byteCells l) W
theorem Bd.made (w : World) : Bd w.heap.size [] (w.alloc (.cells #[.pointer none, .slice none 0 0] 56)) := .inl ⟨Nat.le_refl _, _, heap_alloc_new w _, World.ownsRowF_nil _ _ _ _, by simp [Value.ownBlock]⟩
theorem Bd.lt {b : Nat} {l : List UInt8} {W : World} (h : Bd b l W) : b < W.heap.size := h.elim (fun x => x.lt) (fun x => x.lt)
theorem Bd.kept {b : Nat} {l : List UInt8} {W W' : World} (h : Bd b l W) (hb : Below W.heap.size W W') : Bd b l W' := by
 have key : ∀ p, Lib.BuilderAtF 56 5 b b p (Lib.byteCells l) W → Lib.BuilderAtF 56 5 b b p (Lib.byteCells l) W' := by
  rintro p ⟨h0, v, h1, h2, h3⟩
  refine ⟨h0, v, blk_below h1 hb, ⟨h2.1, ?_⟩, h3⟩
  rcases h2.2 with hn | ⟨g, cap, cur, fz, hv, hB, hg, rest⟩
  ·exact .inl hn
  ·exact .inr ⟨g, cap, cur, fz, hv, hB, blk_below hg hb, rest⟩
 exact h.elim (fun x => .inl (key _ x)) (fun x => .inr (key _ x))
theorem put_calls {b : Nat} {l : List UInt8} {W : World} (h : Bd b l W) (s : ByteArray) (hl : l.length + s.size ≤ 1048576) :
  Calls Tryd.prog 27 #[.pointer (some ⟨b, 0, none⟩), .string s] W fun e W' => e = .returned (.tuple #[.int .i64 s.size, .nilIface]) ∧ Bd b (l ++ s.data.toList) W' ∧ Below b W W' ∧ Lib.OthersKept 5 (some b) W W' := by
 refine (Sf.WriteString b b (Lib.byteCells l) s W h (by rw [Lib.byteCells_length]; omega) (Nat.le_of_lt h.lt)).mono ?_
 rintro e W' ⟨rfl, h1, h2, h3⟩
 rw [Lib.strCells_eq, ← Lib.byteCells_append] at h1
 exact ⟨rfl, .inr h1, h2, h3⟩
theorem str_calls {b : Nat} {l : List UInt8} {W : World} (h : Bd b l W) : Calls Tryd.prog 31 #[.pointer (some ⟨b, 0, none⟩)] W fun e W' => e = .returned (.string ⟨l.toArray⟩) ∧ Below b W W' := by
 refine (Tryd.Builder_String_any_k b b l W h (Nat.le_of_lt h.lt)).mono ?_
 rintro e W' ⟨rfl, _, h2, _⟩
 exact ⟨rfl, h2⟩
/-- A block that is no row of bytes stays. -/
theorem others {b g t : Nat} {cs : Array Value} {fz : Nat × Nat} {W W' : World} (h : Lib.OthersKept 5 (some b) W W') (hg : W.heap[g]? = some (.cells cs t fz)) (hne : g ≠ b) (ht : t ≠ 5) : W'.heap[g]? = some (.cells cs t fz) :=
 h g _ hg (by intro e; injection e with e; exact hne e) (by intro c fz' e; injection e with _ e2 _; exact ht e2)
/-- A row of numbers stays over a write into the builder. -/
theorem row_put {b base : Nat} {ok : Nat → Prop} {v : Value} {l : List Int} {W W' : World} (h : Kd.R (Kd.int .i64) 3 W base ok v l) (hb : b < base) (hk : Lib.OthersKept 5 (some b) W W') : Kd.R (Kd.int .i64) 3 W' base (fun _ => True) v l := by
 refine Kd.R_mono (Kd.R_step (Kd.R_bound h) (fun k hk0 _ => ?_)) (fun _ _ => trivial)
 obtain ⟨_, hbk, _, q, hq, cells, hc⟩ := hk0
 have hq3 : q = 3 := by
  rcases List.mem_cons.1 hq with h3 | h3
  ·exact h3
  ·exact absurd h3 (by simp [Kd.int, Kd.scalar])
 subst hq3
 rw [hc]
 exact hk k _ hc (by intro e; injection e with e; omega) (by intro c fz e; injection e with _ e2 _; exact absurd e2 (by decide))
theorem sp_len (m : List UInt8) : ((⟨#[32]⟩ : ByteArray) ++ ⟨m.toArray⟩).size = 1 + m.length := by
 show ((⟨#[32]⟩ : ByteArray) ++ ⟨m.toArray⟩).data.size = 1 + m.length
 simp
 omega
end Go.Proofs.YtkcocomehhlpmaaDoor.Sh
