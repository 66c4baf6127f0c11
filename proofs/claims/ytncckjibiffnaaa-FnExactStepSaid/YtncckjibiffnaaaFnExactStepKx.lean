/- Words of rows whose elements lie apart (S), by the names and in the form of the words of rows that lead to what is read (N): so a printed walk carries S. -/
import Derived.Test.YtncckjibiffnaaaFnExactStepPure0
namespace Go.Proofs.YtncckjibiffnaaaW.PrintWords
open Go.RowKit
set_option linter.unusedVariables false
namespace Kx
open Kd
variable {α : Type} {d : Kd α} {e base base' n cap : Nat} {w w1 W : World} {v u : Value} {xs : List α} {ok ok' : Nat → Prop} {g : Nat}
theorem N_V (h : S d e W base ok v xs) : V d e W base' ok v xs := S_V h
theorem N_afterv {v1 : Value} (h : S d e W base (fun k => ok k ∧ some k ≠ v.ownBlock) u xs) (hg : W.grownBy w1 v.ownBlock) (hat : v1.ownBlock = v.ownBlock ∨ ∃ b, v1.ownBlock = some b ∧ W.heap.size ≤ b) : S d e w1 base (fun k => ok k ∧ some k ≠ v1.ownBlock) u xs := S_after h hg hat
theorem N_apart_nil (h : S d e w base ok v xs) : S d e w base (fun k => ok k ∧ some k ≠ (Value.slice none 0 0).ownBlock) v xs := S_apart_nil h
theorem N_away (h : S d e w base ok v xs) (hok : ∀ k, ok k → k ≠ g) : some g ≠ v.ownBlock := S_away h hok
theorem N_below (h : S d e w base ok v xs) (hb : Below w.heap.size w w1) : S d e w1 base ok v xs := S_below h hb
theorem N_drew (h : S d e w base ok v xs) : S d e w.drew base ok v xs := S_drew h
theorem N_drewN (h : S d e w base ok v xs) (m : Nat) : S d e (w.drewN m) base ok v xs := S_drewN h m
theorem N_alloc (h : S d e w base ok v xs) (o : Obj) : S d e (w.alloc o) base ok v xs := S_alloc h o
theorem N_elderB (h : S d e w base ok v xs) (a : Nat) (ha : w.heap.size ≤ a) : S d e w base (fun k => ok k ∧ k ≠ a) v xs := S_elderB h a ha
theorem N_far (h : S d e w base ok v xs) {p : Addr} (hok : ∀ k, ok k → k ≠ p.block) (u : Value) : S d e (w.setCell p u) base ok v xs := S_far h hok u
theorem N_form (h : S d e w base ok v xs) (hp : 0 < xs.length) : ∃ g cap, v = .slice (some ⟨g, 0, none⟩) xs.length cap ∧ base ≤ g ∧ g < w.heap.size ∧ ∃ cells, w.heap[g]? = some (.cells cells e (0, 0)) := S_form h hp
theorem N_lower (h : S d e w base ok v xs) (hb : base' ≤ base) : S d e w base' ok v xs := S_lower h hb
theorem N_lt (h : S d e w base ok v xs) : ∀ k, v.ownBlock = some k → k < w.heap.size := S_lt h
theorem N_mono (h : S d e w base ok v xs) (hok : ∀ k, ok k → ok' k) : S d e w base ok' v xs := S_mono h hok
theorem N_ne (h : S d e w base ok v xs) {t : Nat} {cells : Array Value} (hb : w.heap[g]? = some (.cells cells t (0, 0))) (ht : e ≠ t) : some g ≠ v.ownBlock := S_ne h hb ht
theorem N_reads' {A : Option Addr} {n c : Nat} (h : S d e w base ok (.slice A n c) xs) : n = xs.length ∧ n ≤ c ∧ d.C w A xs.length xs := S_reads' h
theorem N_slice (h : S d e w base ok v xs) : ∃ A c, v = .slice A xs.length c := S_slice h
theorem N_typed (h : S d e w base ok v xs) : ∀ k, v.ownBlock = some k → ∃ cells, w.heap[k]? = some (.cells cells e (0, 0)) := S_typed h
theorem S_N (h : S d e w base ok v xs) : S d e w base ok v xs := h
theorem N_nil (d : Kd α) (e : Nat) (w : World) (base : Nat) (ok : Nat → Prop) : S d e w base ok (.slice none 0 0) [] := S_nil d e w base ok
theorem N_elem (h : S d e W base ok (.slice (some ⟨g, 0, none⟩) n cap) xs) (z : α) (i : Int) (h0 : 0 ≤ i) (h1 : i < n) :
    ∃ c, c.length = d.sz ∧ FK d W (fun k => ok k ∧ k ≠ g) (xs.getD i.toNat z) c ∧ (∀ j u, c[j]? = some u → W.cell? ⟨g, i.toNat * d.sz + j, none⟩ = some u) ∧ ∀ j, W.frozen? ⟨g, i.toNat * d.sz + j, none⟩ = false := Kd.N_elem (Kd.S_N h) z i h0 h1
theorem N_get {ad : Addr} (h : S d e W base ok (.slice (some ad) n cap) xs) (z : α) (i : Int) (h0 : 0 ≤ i) (h1 : i < n) :
    ∃ c, c.length = d.sz ∧ FK d W (fun k => ok k ∧ some k ≠ (Value.slice (some ad) n cap).ownBlock) (xs.getD i.toNat z) c ∧ ∀ j u, c[j]? = some u → W.cell? (ad.add (i.toNat * d.sz + j)) = some u := Kd.N_get (Kd.S_N h) z i h0 h1
theorem elem0 (h : S d e W base ok (.slice (some ⟨g, 0, none⟩) n cap) xs) (z : α) (i : Int) (h0 : 0 ≤ i) (h1 : i < n) :
    ∃ (oki : Nat → Prop) (c : List Value), c.length = d.sz ∧ d.M W base oki (xs.getD i.toNat z) c ∧ H d e W base (fun k => ok k ∧ ¬ (fun _ : Nat => False) k) (.slice (some ⟨g, 0, none⟩) n cap) xs i oki c := by
  obtain ⟨oki, c, h1, h2, _, _, _, h3⟩ := S_elem (S_mono h (fun k hk => (⟨hk, id⟩ : ok k ∧ ¬ (fun _ : Nat => False) k))) z i h0 h1
  exact ⟨oki, c, h1, h2, h3⟩
theorem elem1 {okg : Nat → Prop} (h : S d e W base (fun k => ok k ∧ ¬ okg k) (.slice (some ⟨g, 0, none⟩) n cap) xs) (z : α) (i : Int) (h0 : 0 ≤ i) (h1 : i < n) :
    ∃ (oki : Nat → Prop) (c : List Value), c.length = d.sz ∧ d.M W base oki (xs.getD i.toNat z) c ∧ H d e W base (fun k => ok k ∧ ¬ okg k) (.slice (some ⟨g, 0, none⟩) n cap) xs i oki c := by
  obtain ⟨oki, c, h1, h2, _, _, _, h3⟩ := S_elem h z i h0 h1
  exact ⟨oki, c, h1, h2, h3⟩
end Kx
end Go.Proofs.YtncckjibiffnaaaW.PrintWords
