/-
  pass.Of and the reference's Of, each by one contract. No conditions.
-/
import Derived.Test.YtkbadnehngogjaaTells1
namespace Go.Proofs.Ytkbadnehngogjaa
open Go.RowKit Go.Lib Plain

/-- Whether a message carries information. -/
def ofB (K D C i p S T P r q a b c v e g s : Int) : Bool := decide (K = 8 ∧ rgtB (baseB D C i p S) (kindB K T P r q a b c v e g s) = true)
def selV (y : Bool) (x : Int) : Int := if y = true then x else 0
def selE (y : Bool) : Int := if y = true then 0 else 200

theorem of_any (K D C i p S T P r q a b c v e g s : Int) (w : World) :
    Calls Try.prog 24 #[.agg #[.int .i64 K, .int .i64 D, .int .i64 C, .int .i64 i, .int .i64 p, .int .i64 S, .int .i64 T, .int .i64 P, .int .i64 r, .int .i64 q, .int .i64 a, .int .i64 b, .int .i64 c, .int .i64 v, .int .i64 e, .int .i64 g, .int .i64 s]] w fun e1 w' => e1 = .returned (.tuple #[.agg #[.int .i64 (selV (ofB K D C i p S T P r q a b c v e g s) T), .int .i64 (selV (ofB K D C i p S T P r q a b c v e g s) C), .int .i64 (selV (ofB K D C i p S T P r q a b c v e g s) P)], .int .i64 (selE (ofB K D C i p S T P r q a b c v e g s))]) ∧ Below w.heap.size w w' := by
  by_cases h : K = 8 ∧ rgtB (baseB D C i p S) (kindB K T P r q a b c v e g s) = true
  · rw [show ofB K D C i p S T P r q a b c v e g s = true from decide_eq_true h]
    obtain ⟨h1, h2⟩ := h
    subst h1
    exact of_yes D C i p S T P r q a b c v e g s w h2
  · rw [show ofB K D C i p S T P r q a b c v e g s = false from decide_eq_false h]
    exact of_no K D C i p S T P r q a b c v e g s w h

theorem rOf_any (K D C i p S T P r q a b c v e g s : Int) (w : World) :
    Calls Try.prog 25 #[.agg #[.int .i64 K, .int .i64 D, .int .i64 C, .int .i64 i, .int .i64 p, .int .i64 S, .int .i64 T, .int .i64 P, .int .i64 r, .int .i64 q, .int .i64 a, .int .i64 b, .int .i64 c, .int .i64 v, .int .i64 e, .int .i64 g, .int .i64 s]] w fun e1 w' => e1 = .returned (.tuple #[.agg #[.int .i64 (selV (ofB K D C i p S T P r q a b c v e g s) T), .int .i64 (selV (ofB K D C i p S T P r q a b c v e g s) C), .int .i64 (selV (ofB K D C i p S T P r q a b c v e g s) P)], .int .i64 (selE (ofB K D C i p S T P r q a b c v e g s))]) ∧ Below w.heap.size w w' := by
  by_cases h : K = 8 ∧ rgtB (baseB D C i p S) (kindB K T P r q a b c v e g s) = true
  · rw [show ofB K D C i p S T P r q a b c v e g s = true from decide_eq_true h]
    obtain ⟨h1, h2⟩ := h
    subst h1
    exact rOf_yes D C i p S T P r q a b c v e g s w h2
  · rw [show ofB K D C i p S T P r q a b c v e g s = false from decide_eq_false h]
    exact rOf_no K D C i p S T P r q a b c v e g s w h

end Go.Proofs.Ytkbadnehngogjaa
