/-
  Arguments opened: a clock, a draft of a clock. The two elements of an array of two clocks.
-/
import Derived.Test.YtjdiecinelapeaaLift
namespace Go.Proofs.Ytjdiecinelapeaa
open Go.RowKit Go.Lib Go.Joins
open Go.ChangeShapes Go.WideShapes Go.ChangeAt

section
variable {H : Type} {enc : TypeId × Value → H} {W : World} {base : Nat} {v : Value} {d : DataW H} {p : List MemPlace}
theorem open_clock (hv : Value.okWide Try.prog W .any base 23 v) (h : DataW.Trod enc Try.prog W 0 (fun _ => true) true 23 v d p) :
    ∃ a b : Int, v = .agg #[.int .i64 a, .int .i64 b] := by
  obtain ⟨v0, v1, y0, y1, n, rfl, rfl, rfl, h0, h1⟩ := open_agg2 Try.underlying23 (by kernel_rfl) (by kernel_rfl) hv h
  obtain ⟨a, e0, _, _⟩ := DataW.trod_int Try.underlying3 h0
  obtain ⟨b, e1, _, _⟩ := DataW.trod_int Try.underlying3 h1
  simp at e0 e1
  subst e0 e1
  exact ⟨a, b, rfl⟩
theorem open_draft09 (hv : Value.okWide Try.prog W .any base 25 v) (h : DataW.Trod enc Try.prog W 0 (fun _ => true) true 25 v d p) :
    ∃ a b : Int, v = .agg #[.int .i64 a, .int .i32 b] := by
  obtain ⟨v0, v1, y0, y1, n, rfl, rfl, rfl, h0, h1⟩ := open_agg2 Try.underlying25 (by kernel_rfl) (by kernel_rfl) hv h
  obtain ⟨a, e0, _, _⟩ := DataW.trod_int Try.underlying2 h0
  obtain ⟨b, e1, _, _⟩ := DataW.trod_int Try.underlying21 h1
  simp at e0 e1
  subst e0 e1
  exact ⟨a, b, rfl⟩
end

theorem cpair_0 : ∀ (a b c d : Value) (w : World), (Instr.index 28 (.agg #[a, b, c, d]) (.int .i64 0)).run Try.prog w = .ok (.agg #[a, b]) w := fun _ _ _ _ _ => by kernel_rfl
theorem cpair_1 : ∀ (a b c d : Value) (w : World), (Instr.index 28 (.agg #[a, b, c, d]) (.int .i64 1)).run Try.prog w = .ok (.agg #[c, d]) w := fun _ _ _ _ _ => by kernel_rfl
theorem cpair_any (O P O' P' : Int) (k : Nat) (hk : k < 2) : ∃ x y : Int, ∀ W, (Instr.index 28 (.agg #[.int .i64 O, .int .i64 P, .int .i64 O', .int .i64 P']) (.int .i64 (k : Int))).run Try.prog W = .ok (.agg #[.int .i64 x, .int .i64 y]) W := by
  rcases (show k = 0 ∨ k = 1 by omega) with rfl | rfl
  · exact ⟨_, _, fun W => cpair_0 _ _ _ _ W⟩
  · exact ⟨_, _, fun W => cpair_1 _ _ _ _ W⟩

end Go.Proofs.Ytjdiecinelapeaa
