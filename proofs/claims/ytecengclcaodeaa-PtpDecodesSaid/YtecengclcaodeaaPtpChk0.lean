/-
  Messages of any kind: comparing two of them. No conditions.
-/
import Derived.Test.YtecengclcaodeaaPtpFol
import Derived.Test.YtecengclcaodeaaWhole
namespace Go.Proofs.Ytecengclcaodeaa
open Go.RowKit Go.Lib Plain

/-- A message's cells. -/
def mMsg (K D C i p S T P r q a b c v e g s : Int) : List Value := [.int .i64 K, .int .i64 D, .int .i64 C, .int .i64 i, .int .i64 p, .int .i64 S, .int .i64 T, .int .i64 P, .int .i64 r, .int .i64 q, .int .i64 a, .int .i64 b, .int .i64 c, .int .i64 v, .int .i64 e, .int .i64 g, .int .i64 s]

set_option maxHeartbeats 4000000 in
theorem msg_neq_any (K D C i p S T P r q a b c v e g s T' P' r' q' a' b' c' v' e' g' s' : Int) (W : World) :
    (binOp .neq 27 (.agg (mMsg K D C i p S T P r q a b c v e g s).toArray) (.agg (mMsg K D C i p S T' P' r' q' a' b' c' v' e' g' s').toArray)).run Try.prog W =
      .ok (.bool (! decide (T = T' ∧ P = P' ∧ r = r' ∧ q = q' ∧ a = a' ∧ b = b' ∧ c = c' ∧ v = v' ∧ e = e' ∧ g = g' ∧ s = s'))) W := by
  simp [mMsg, go_sem]
  (repeat' split) <;> simp [*]

/-- What Check answers: of the fields that all messages have, and of the others. -/
def chkB (x y : Bool) : Int := if (x && y) = true then 0 else 200
/-- The world at hand gets a name. -/
theorem then_world {X : Exit → Act → World → Prop} {e : Exit} {a : Act} {w : World} (h : ∀ W, W = w → X e a W) : X e a w := h w rfl

def baseB (D C i p S : Int) : Bool := decide (BaseOk D C i p S)
theorem base_cases (D C i p S : Int) : (inV D 0 127 = false ∧ baseB D C i p S = false) ∨ (inV D 0 127 = true ∧ inV C (-4398046511104) 4398046511104 = false ∧ baseB D C i p S = false) ∨
    (inV D 0 127 = true ∧ inV C (-4398046511104) 4398046511104 = true ∧ portB i p = false ∧ baseB D C i p S = false) ∨
    (inV D 0 127 = true ∧ inV C (-4398046511104) 4398046511104 = true ∧ portB i p = true ∧ inV S 0 65535 = false ∧ baseB D C i p S = false) ∨
    (inV D 0 127 = true ∧ inV C (-4398046511104) 4398046511104 = true ∧ portB i p = true ∧ inV S 0 65535 = true ∧ baseB D C i p S = true) := by
  by_cases k0 : In D 0 127
  · by_cases k1 : In C (-4398046511104) 4398046511104
    · by_cases k2 : PortOk i p
      · by_cases k3 : In S 0 65535
        · exact .inr (.inr (.inr (.inr ⟨decide_eq_true k0, decide_eq_true k1, decide_eq_true k2, decide_eq_true k3, decide_eq_true ⟨k0, k1, k2, k3⟩⟩)))
        · exact .inr (.inr (.inr (.inl ⟨decide_eq_true k0, decide_eq_true k1, decide_eq_true k2, decide_eq_false k3, decide_eq_false fun h => k3 h.2.2.2⟩)))
      · exact .inr (.inr (.inl ⟨decide_eq_true k0, decide_eq_true k1, decide_eq_false k2, decide_eq_false fun h => k2 h.2.2.1⟩))
    · exact .inr (.inl ⟨decide_eq_true k0, decide_eq_false k1, decide_eq_false fun h => k1 h.2.1⟩)
  · exact .inl ⟨decide_eq_false k0, decide_eq_false fun h => k0 h.1⟩

/-- The fields that a sync has not. -/
def ZeroAll (T P r q a b c v e g s : Int) : Prop := T = 0 ∧ P = 0 ∧ r = 0 ∧ q = 0 ∧ a = 0 ∧ b = 0 ∧ c = 0 ∧ v = 0 ∧ e = 0 ∧ g = 0 ∧ s = 0
instance (T P r q a b c v e g s : Int) : Decidable (ZeroAll T P r q a b c v e g s) := inferInstanceAs (Decidable (_ ∧ _))

end Go.Proofs.Ytecengclcaodeaa
