/-
  An argument of ServoHolds, opened: Since.
-/
import Derived.Test.YtakbopkiemlfdaaLift
namespace Go.Proofs.Ytakbopkiemlfdaa
open Go.RowKit Go.Lib Go.Joins
open Go.ChangeShapes Go.WideShapes Go.ChangeAt

section
variable {H : Type} {enc : TypeId × Value → H} {W : World} {base : Nat} {v : Value} {d : DataW H} {p : List MemPlace}
theorem open_since (hv : Value.okWide Try.prog W .any base 50 v) (h : DataW.Trod enc Try.prog W 0 (fun _ => true) true 50 v d p) :
    ∃ a b c e : Int, v = .agg #[.int .u32 a, .int .u32 b, .int .i16 c, .int .i16 e] ∧ (0 ≤ a ∧ a ≤ 4294967295) ∧ (0 ≤ b ∧ b ≤ 4294967295) ∧ (-32768 ≤ c ∧ c ≤ 32767) ∧ (-32768 ≤ e ∧ e ≤ 32767) := by
  obtain ⟨v0, v1, v2, v3, y0, y1, y2, y3, n, rfl, rfl, rfl, h0, h1, h2, h3⟩ := open_agg4 Try.underlying50 (by kernel_rfl) (by kernel_rfl) hv h
  obtain ⟨a, e0, _, w0⟩ := DataW.trod_int Try.underlying43 h0
  obtain ⟨b, e1, _, w1⟩ := DataW.trod_int Try.underlying43 h1
  obtain ⟨c, e2, _, w2⟩ := DataW.trod_int Try.underlying48 h2
  obtain ⟨e, e3, _, w3⟩ := DataW.trod_int Try.underlying48 h3
  simp at e0 e1 e2 e3
  subst e0 e1 e2 e3
  simp [Lit.wf, IntKind.min, IntKind.max, IntKind.signed, IntKind.bits] at w0 w1 w2 w3
  exact ⟨a, b, c, e, rfl, by omega, by omega, by omega, by omega⟩
end

end Go.Proofs.Ytakbopkiemlfdaa
