/-
  isochronlaw15.example and works: the examples of the chapter hold.
-/
import Derived.Test.YtkencmijghigiaaMTErr15
import Derived.Test.YtkencmijghigiaaMTInf15
namespace Go.Proofs.Ytkencmijghigiaa
open Go.RowKit Go.Lib Go.Shelf Plain

/-- The network of the examples. -/
def exN (b : Nat) : Nt := { bc := b, oc := 0, kc := 3, bp := b + 1, op := 0, kp := 3, bd := b + 1 + 1, od := 0, kd := 3, m := 3, tu := 5, ga := 10000, st := 40000, iv := 1000, sy := 10, cO := fun j => if j = 0 then 0 else if j = 1 then 50 else 7, cP := fun _ => 0, pa := fun j => if j = 0 then -1 else if j = 1 then 0 else 1, de := fun j => if j = 0 then 0 else if j = 1 then 3 else 4 }
def exP (b : Nat) (i : Fin (exN b).m) : Fin (exN b).m := ⟨if i.val = 2 then 1 else 0, by split <;> (show _ < 3; omega)⟩
theorem exPar (b : Nat) : (exN b).Par (exP b) := by
  constructor
  · intro i h
    have hi : i.val < 3 := i.isLt
    have : i.val = 1 ∨ i.val = 2 := by omega
    rcases this with e | e <;> simp [exN, exP, e]
  · intro i h
    have hi : i.val < 3 := i.isLt
    have : i.val = 1 ∨ i.val = 2 := by omega
    rcases this with e | e <;> simp [exP, e]
theorem exBd (b : Nat) : (exN b).Bd := by
  constructor
  case de0 =>
    intro j hj
    have hj3 : j < 3 := hj
    simp only [exN]
    split <;> (try split) <;> omega
  case de1 =>
    intro j hj
    have hj3 : j < 3 := hj
    simp only [exN]
    split <;> (try split) <;> omega
  all_goals
    simp only [exN]
    omega
theorem exClk (b : Nat) : (exN b).Clk := by
  intro j hj
  have hj3 : j < 3 := hj
  unfold OkC
  simp only [exN]
  split <;> (try split) <;> omega
theorem exOk (b : Nat) : netOk (exN b) := by
  refine ⟨?_, of_decide_eq_true (by kernel_rfl)⟩
  intro j hj
  have hj3 : j < 3 := hj
  have : j = 0 ∨ j = 1 ∨ j = 2 := by omega
  rcases this with rfl | rfl | rfl <;> exact of_decide_eq_true (by kernel_rfl)

set_option maxHeartbeats 8000000 in
set_option maxRecDepth 100000 in
theorem example_any (w : World) : Calls Try.prog 15 #[] w fun e w' => e = .returned (.agg (exN (w.heap.size + 1)).vs.toArray) ∧ (exN (w.heap.size + 1)).In w' ∧ Below w.heap.size w w' := by
  have ha := Lib.hid (show ∀ w, (isAgg 32).run Try.prog w = .ok true w from fun w => by kernel_rfl)
  have hs := Lib.hid (show ∀ w, (sizeOf 32).run Try.prog w = .ok (exN 0).vs.length w from fun w => by kernel_rfl)
  go_enter Try.func15, Try.ntmps15
  go_wp2
  have hL : ∀ (W : World), Holds W w.heap.size (exN (w.heap.size + 1)).vs → (loadVar 32 ⟨w.heap.size, 0, none⟩).run Try.prog W = .ok (.agg (exN (w.heap.size + 1)).vs.toArray) W := fun W hW => run_loadVar_whole (P := Try.prog) (w := W) 32 w.heap.size 0 (exN (w.heap.size + 1)).vs ha.out hs.out hW
  refine bodyPost_ret (v := .agg (exN (w.heap.size + 1)).vs.toArray) (results_cell 0 32 Try.results15 w.heap.size 0 _ rfl (hL _ ?_)) rfl ⟨rfl, ?_, below_alloc (below_alloc (below_alloc (below_alloc (Below.refl _ _) _) _) _) _⟩
  · exact (((holds_alloc w (exN (w.heap.size + 1)).vs 32 rfl).alloc (by simp) _).alloc (by simp; omega) _).alloc (by simp; omega) _
  · constructor
    · exact (by decide : 1 ≤ 3)
    all_goals
      intro j hj
      have hj3 : j < 3 := hj
      have : j = 0 ∨ j = 1 ∨ j = 2 := by omega
      rcases this with rfl | rfl | rfl <;> simp [go_sem, exN]

end Go.Proofs.Ytkencmijghigiaa
