/-
  ptp.Check of any message. No conditions.
-/
import Derived.Test.YtecengclcaodeaaPtpChkS
import Derived.Test.YtecengclcaodeaaPtpChkF
import Derived.Test.YtecengclcaodeaaPtpChkR
import Derived.Test.YtecengclcaodeaaPtpChkR2
import Derived.Test.YtecengclcaodeaaPtpChkA
import Derived.Test.YtecengclcaodeaaPtpChkO
namespace Go.Proofs.Ytecengclcaodeaa
open Go.RowKit Go.Lib Plain

/-- The fields that the kind has hold what they may; the others are zero. -/
def kindB (K T P r q a b c v e g s : Int) : Bool :=
  if K = 0 ∨ K = 2 then decide (ZeroAll T P r q a b c v e g s) else if K = 3 ∨ K = 10 then decide (In T (-4398046511104) 4398046511104 ∧ PortOk r q ∧ P = 0 ∧ a = 0 ∧ b = 0 ∧ c = 0 ∧ v = 0 ∧ e = 0 ∧ g = 0 ∧ s = 0) else if K = 8 then decide (In T (-4398046511104) 4398046511104 ∧ In P (-8388608) 8388608 ∧ r = 0 ∧ q = 0 ∧ a = 0 ∧ b = 0 ∧ c = 0 ∧ v = 0 ∧ e = 0 ∧ g = 0 ∧ s = 0) else if K = 11 then decide (MasterOk a b c v e g ∧ In s 0 65535 ∧ T = 0 ∧ P = 0 ∧ r = 0 ∧ q = 0) else false

/-- ptp.Check -/
theorem ptpCheck_any (K D C i p S T P r q a b c v e g s : Int) (w : World) : Calls Try.prog 24 #[.agg #[.int .i64 K, .int .i64 D, .int .i64 C, .int .i64 i, .int .i64 p, .int .i64 S, .int .i64 T, .int .i64 P, .int .i64 r, .int .i64 q, .int .i64 a, .int .i64 b, .int .i64 c, .int .i64 v, .int .i64 e, .int .i64 g, .int .i64 s]] w fun y w' => y = .returned (.int .i64 (chkB (baseB D C i p S) (kindB K T P r q a b c v e g s))) ∧ Below w.heap.size w w' := by
  unfold kindB
  by_cases k0 : K = 0
  · subst k0
    rw [if_pos (Or.inl rfl)]
    exact chk_0 D C i p S T P r q a b c v e g s w
  by_cases k2 : K = 2
  · subst k2
    rw [if_pos (Or.inr rfl)]
    exact chk_2 D C i p S T P r q a b c v e g s w
  rw [if_neg (fun h => h.elim k0 k2)]
  by_cases k3 : K = 3
  · subst k3
    rw [if_pos (Or.inl rfl)]
    exact chk_3 D C i p S T P r q a b c v e g s w
  by_cases k10 : K = 10
  · subst k10
    rw [if_pos (Or.inr rfl)]
    exact chk_10 D C i p S T P r q a b c v e g s w
  rw [if_neg (fun h => h.elim k3 k10)]
  by_cases k8 : K = 8
  · subst k8
    rw [if_pos rfl]
    exact chk_8 D C i p S T P r q a b c v e g s w
  rw [if_neg k8]
  by_cases k11 : K = 11
  · subst k11
    rw [if_pos rfl]
    exact chk_11 D C i p S T P r q a b c v e g s w
  rw [if_neg k11, show chkB (baseB D C i p S) false = 200 by unfold chkB; rw [Bool.and_false]; rfl]
  exact chk_other K D C i p S T P r q a b c v e g s w k0 k2 k3 k8 k10 k11

end Go.Proofs.Ytecengclcaodeaa
