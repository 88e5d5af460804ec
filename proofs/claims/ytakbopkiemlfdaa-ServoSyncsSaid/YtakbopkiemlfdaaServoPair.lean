/-
  The two elements of an array of two servos.
-/
import Derived.Test.YtakbopkiemlfdaaOpen13
namespace Go.Proofs.Ytakbopkiemlfdaa
open Go.RowKit

theorem pair_0 : ∀ (a b c d e f : Value) (w : World), (Instr.index 28 (.agg #[a, b, c, d, e, f]) (.int .i64 0)).run Try.prog w = .ok (.agg #[a, b, c]) w := fun _ _ _ _ _ _ _ => by kernel_rfl
theorem pair_1 : ∀ (a b c d e f : Value) (w : World), (Instr.index 28 (.agg #[a, b, c, d, e, f]) (.int .i64 1)).run Try.prog w = .ok (.agg #[d, e, f]) w := fun _ _ _ _ _ _ _ => by kernel_rfl
theorem pair_any (L M P L' M' P' : Int) (k : Nat) (hk : k < 2) : ∃ x y z : Int, ∀ W, (Instr.index 28 (.agg #[.int .i64 L, .int .i64 M, .int .i64 P, .int .i64 L', .int .i64 M', .int .i64 P']) (.int .i64 (k : Int))).run Try.prog W = .ok (.agg #[.int .i64 x, .int .i64 y, .int .i64 z]) W := by
  rcases (show k = 0 ∨ k = 1 by omega) with rfl | rfl
  · exact ⟨_, _, _, fun W => pair_0 _ _ _ _ _ _ W⟩
  · exact ⟨_, _, _, fun W => pair_1 _ _ _ _ _ _ W⟩

end Go.Proofs.Ytakbopkiemlfdaa
