/- What is shown of a state, as a text. No program in sight. -/
import Derived.Test.YtkcocomehhlpmaaDoorFnSpoiltPure5w
import Derived.Test.YtkcocomehhlpmaaDoorFnSpoiltSr5
import Derived.Lib.ItoaMem
import Derived.Lib.ItoaLen
namespace Go.Proofs.YtkcocomehhlpmaaDoor.Sh
open Go.RowKit Go.Proofs.YtkcocomehhlpmaaDoorW.PrintWords Go.Proofs.YtkcocomehhlpmaaDoorW.PrintLast Go.Proofs.YtkcocomehhlpmaaDoor.Q Go.Proofs.YtkcocomehhlpmaaDoor.Pu Go.Proofs.YtkcocomehhlpmaaDoor.Sr
set_option linter.unusedVariables false
set_option linter.unusedSimpArgs false
/-- The numbers, each behind a space. -/
def dsL (p : List Int) : List UInt8 := p.flatMap fun x => 32 :: Lib.itoa x
def headL (T : List S48) (N : List Int) (i : Nat) : List UInt8 := Lib.itoa (N.getD i 0) ++ [32, 97, 116, 32] ++ Lib.itoa (T.getD i z48).f0
def waitL : List UInt8 := [32, 119, 97, 105, 116, 115, 32, 102, 111, 114]
def nmsL (R : List Int) (T : List S48) (N : List Int) (i : Nat) : List Int := (waitsP R T i).map fun j => N.getD j.toNat 0
/-- A train's line. -/
def lineL (R : List Int) (T : List S48) (N : List Int) (i : Nat) : List UInt8 := headL T N i ++ dsL (T.getD i z48).f1 ++ (if canB R T i = true then [] else waitL ++ dsL (nmsL R T N i)) ++ [10]
def linesL (R : List Int) (T : List S48) (N : List Int) (n : Nat) : List UInt8 := (List.range n).flatMap (lineL R T N)
def badL : List UInt8 := [117, 110, 115, 97, 102, 101, 10]
def shownL (R : List Int) (T : List S48) (N : List Int) : List UInt8 := linesL R T N T.length ++ (if 0 ≤ V R T [0, 0, 0, 0, 0] then [] else badL)
def shownD (R : List Int) (T : List S48) (N : List Int) : ByteArray := if okS R T N = 0 then ⟨(shownL R T N).toArray⟩ else ⟨#[]⟩
theorem linesL_succ (R : List Int) (T : List S48) (N : List Int) (n : Nat) : linesL R T N (n + 1) = linesL R T N n ++ lineL R T N n := by
 unfold linesL
 rw [List.range_succ, List.flatMap_append]
 simp
theorem dsL_snoc (p : List Int) (x : Int) : dsL (p ++ [x]) = dsL p ++ 32 :: Lib.itoa x := by
 unfold dsL
 rw [List.flatMap_append]
 simp
theorem take_succ' (p : List Int) {i : Nat} (h : i < p.length) : p.take (i + 1) = p.take i ++ [p.getD i 0] := by
 rw [List.take_succ_eq_append_getElem h, List.getD_eq_getElem?_getD, List.getElem?_eq_getElem h]; rfl
theorem dsL_take (p : List Int) {i : Nat} (h : i < p.length) : dsL (p.take (i + 1)) = dsL (p.take i) ++ 32 :: Lib.itoa (p.getD i 0) := by rw [take_succ' p h, dsL_snoc]
/-- A number of the state's. -/
def Sm (x : Int) : Prop := -1 ≤ x ∧ x ≤ 1000
theorem Sm.len {x : Int} (h : Sm x) : (Lib.itoa x).length ≤ 21 := Lib.itoa_length_le x (by have := h.1; omega) (by have := h.2; omega)
theorem dsL_len : ∀ (p : List Int), (∀ x ∈ p, Sm x) → (dsL p).length ≤ 22 * p.length
 | [], _ => by simp [dsL]
 | x :: p, h => by
  have h1 := (h x (by simp)).len
  have h2 := dsL_len p (fun y hy => h y (by simp [hy]))
  have e : dsL (x :: p) = (32 :: Lib.itoa x) ++ dsL p := rfl
  rw [e, List.length_append, List.length_cons, List.length_cons]
  omega
theorem names_sm : ∀ {l : List Int} {a : Int}, -1 ≤ a → namesOk a l = true → ∀ x ∈ l, Sm x
 | [], _, _, _ => by simp
 | y :: l, a, ha, h => by
  simp only [namesOk, Bool.and_eq_true, decide_eq_true_eq] at h
  intro x hx
  rcases List.mem_cons.1 hx with rfl | hx
  ·exact ⟨by omega, h.1.2⟩
  ·exact names_sm (by omega) h.2 x hx
section
variable {R : List Int} {T : List S48} {N : List Int}
theorem name_sm (h : Right R T N) {i : Nat} (hi : i < N.length) : Sm (N.getD i 0) := names_sm (by omega) h.names _ (getD_mem 0 hi)
theorem at_sm (h : Right R T N) {i : Nat} (hi : i < T.length) : Sm (T.getD i z48).f0 := by
 have h1 := h.wf.at_ _ (getD_mem z48 hi)
 have h2 := h.r1
 exact ⟨by omega, by omega⟩
theorem path_sm (h : Right R T N) {i : Nat} (hi : i < T.length) : ∀ x ∈ (T.getD i z48).f1, Sm x := fun x hx => by
 have h1 := h.wf.on _ (getD_mem z48 hi) x hx
 have h2 := h.r1
 exact ⟨by omega, by omega⟩
theorem nms_sm (h : Right R T N) (i : Nat) : ∀ x ∈ nmsL R T N i, Sm x := fun x hx => by
 obtain ⟨y, hy, rfl⟩ := List.mem_map.1 hx
 obtain ⟨j, hj, rfl⟩ := waitsP_mem i y hy
 have hn := h.n1
 exact name_sm h (by rw [Int.toNat_natCast]; omega)
theorem nms_len (h : Right R T N) (i : Nat) : (nmsL R T N i).length ≤ 5 := by
 unfold nmsL
 rw [List.length_map]
 have := waitsP_len (R := R) (T := T) i
 have := h.t1
 omega
theorem head_len (h : Right R T N) {i : Nat} (hi : i < T.length) : (headL T N i).length ≤ 46 := by
 have hn := h.n1
 have h1 := (name_sm h (i := i) (by omega)).len
 have h2 := (at_sm h hi).len
 unfold headL
 simp only [List.length_append, List.length_cons, List.length_nil]
 omega
theorem line_len (h : Right R T N) {i : Nat} (hi : i < T.length) : (lineL R T N i).length ≤ 400 := by
 have h1 := head_len h hi
 have h2 := dsL_len _ (path_sm h hi)
 have h3 := dsL_len _ (nms_sm h i)
 have h4 := nms_len h i
 have h5 := h.wf.path _ (getD_mem z48 hi)
 unfold lineL
 simp only [List.length_append, List.length_cons, List.length_nil]
 split
 ·simp only [List.length_nil]; omega
 ·simp only [List.length_append, waitL, List.length_cons, List.length_nil]; omega
theorem lines_len (h : Right R T N) : ∀ n, n ≤ T.length → (linesL R T N n).length ≤ 400 * n
 | 0, _ => by simp [linesL]
 | n + 1, hn => by
  have h1 := lines_len h n (by omega)
  have h2 := line_len h (i := n) (by omega)
  rw [linesL_succ, List.length_append]
  omega
end
end Go.Proofs.YtkcocomehhlpmaaDoor.Sh
