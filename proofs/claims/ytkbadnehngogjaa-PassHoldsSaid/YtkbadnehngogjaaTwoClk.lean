/-
  What a contract leaves of the cells behind no, one, two new blocks.
-/
import Derived.Test.YtkbadnehngogjaaKit
namespace Go.Proofs.Ytkbadnehngogjaa
open Go.RowKit Go.Lib

theorem bk0 {W w1 : World} (hb : Below W.heap.size W w1) : (∀ b o, b < W.heap.size → w1.cell? ⟨b, o, none⟩ = W.cell? ⟨b, o, none⟩) ∧ (∀ b o, b < W.heap.size → w1.frozen? ⟨b, o, none⟩ = W.frozen? ⟨b, o, none⟩) ∧
    (∀ b, b < W.heap.size → b < w1.heap.size) ∧ (∀ b, b < W.heap.size → ¬ b = w1.heap.size) ∧ (∀ b, b < W.heap.size → ¬ w1.heap.size = b) :=
  ⟨fun b o h => hb.cell (p := ⟨b, o, none⟩) h, fun b o h => hb.frozen (p := ⟨b, o, none⟩) h, fun b h => Nat.lt_of_lt_of_le h hb.size, fun b h e => by have := hb.size; omega, fun b h e => by have := hb.size; omega⟩

/-- The same behind an alloc. -/
theorem bk1 {W w1 : World} {X : Obj} (hb : Below (W.alloc X).heap.size (W.alloc X) w1) : (∀ b o, b < W.heap.size → w1.cell? ⟨b, o, none⟩ = W.cell? ⟨b, o, none⟩) ∧ (∀ b o, b < W.heap.size → w1.frozen? ⟨b, o, none⟩ = W.frozen? ⟨b, o, none⟩) ∧
    (∀ b, b < W.heap.size → b < w1.heap.size) ∧ (∀ b, b < W.heap.size → ¬ b = w1.heap.size) ∧ (∀ b, b < W.heap.size → ¬ w1.heap.size = b) ∧
    (∀ o, w1.cell? ⟨W.heap.size, o, none⟩ = (W.alloc X).cell? ⟨W.heap.size, o, none⟩) ∧ (∀ o, w1.frozen? ⟨W.heap.size, o, none⟩ = (W.alloc X).frozen? ⟨W.heap.size, o, none⟩) ∧ W.heap.size < w1.heap.size ∧ ¬ W.heap.size = w1.heap.size ∧ ¬ w1.heap.size = W.heap.size := by
  have hs : (W.alloc X).heap.size = W.heap.size + 1 := by simp
  have hz := hb.size
  refine ⟨fun b o h => ?_, fun b o h => ?_, fun b h => by omega, fun b h => by omega, fun b h => by omega, fun o => hb.cell (p := ⟨W.heap.size, o, none⟩) (by simp), fun o => hb.frozen (p := ⟨W.heap.size, o, none⟩) (by simp), by omega, by omega, by omega⟩
  · rw [hb.cell (p := ⟨b, o, none⟩) (by show b < _; omega)]
    exact World.cell?_alloc_lt _ _ _ h
  · rw [hb.frozen (p := ⟨b, o, none⟩) (by show b < _; omega)]
    simp [go_sem, h]

/-- The same behind two. -/
theorem bk2 {W w1 : World} {X Y : Obj} (hb : Below ((W.alloc X).alloc Y).heap.size ((W.alloc X).alloc Y) w1) : (∀ b o, b < W.heap.size → w1.cell? ⟨b, o, none⟩ = W.cell? ⟨b, o, none⟩) ∧ (∀ b o, b < W.heap.size → w1.frozen? ⟨b, o, none⟩ = W.frozen? ⟨b, o, none⟩) ∧
    (∀ b, b < W.heap.size → b < w1.heap.size) ∧ (∀ b, b < W.heap.size → ¬ b = w1.heap.size) ∧ (∀ b, b < W.heap.size → ¬ w1.heap.size = b) ∧
    (∀ o, w1.cell? ⟨W.heap.size, o, none⟩ = (W.alloc X).cell? ⟨W.heap.size, o, none⟩) ∧ (∀ o, w1.frozen? ⟨W.heap.size, o, none⟩ = (W.alloc X).frozen? ⟨W.heap.size, o, none⟩) ∧ W.heap.size < w1.heap.size ∧
    (∀ o, w1.cell? ⟨W.heap.size + 1, o, none⟩ = ((W.alloc X).alloc Y).cell? ⟨W.heap.size + 1, o, none⟩) ∧ (∀ o, w1.frozen? ⟨W.heap.size + 1, o, none⟩ = ((W.alloc X).alloc Y).frozen? ⟨W.heap.size + 1, o, none⟩) ∧ W.heap.size + 1 < w1.heap.size := by
  have hs : (W.alloc X).heap.size = W.heap.size + 1 := by simp
  have hs2 : ((W.alloc X).alloc Y).heap.size = W.heap.size + 2 := by simp
  have hz := hb.size
  refine ⟨fun b o h => ?_, fun b o h => ?_, fun b h => by omega, fun b h => by omega, fun b h => by omega, fun o => ?_, fun o => ?_, by omega, fun o => hb.cell (p := ⟨W.heap.size + 1, o, none⟩) (by simp), fun o => hb.frozen (p := ⟨W.heap.size + 1, o, none⟩) (by simp), by omega⟩
  · rw [hb.cell (p := ⟨b, o, none⟩) (by show b < _; omega), World.cell?_alloc_lt _ _ _ (by show b < _; omega)]
    exact World.cell?_alloc_lt _ _ _ h
  · rw [hb.frozen (p := ⟨b, o, none⟩) (by show b < _; omega)]
    have h2 : b < W.heap.size + 1 := by omega
    simp [go_sem, h, h2]
  · rw [hb.cell (p := ⟨W.heap.size, o, none⟩) (by show W.heap.size < _; omega)]
    exact World.cell?_alloc_lt _ _ _ (by show W.heap.size < _; omega)
  · rw [hb.frozen (p := ⟨W.heap.size, o, none⟩) (by show W.heap.size < _; omega)]
    simp [go_sem]

theorem bkd {W w1 : World} (hb : Below W.drew.heap.size W.drew w1) : Below W.heap.size W w1 := ⟨hb.os, hb.tape, hb.output, hb.size, hb.block⟩

end Go.Proofs.Ytkbadnehngogjaa
