/-
  The reference's Right of any message. No conditions.
-/
import Derived.Test.YtecengclcaodeaaPtpChk
import Derived.Test.YtecengclcaodeaaR10S
import Derived.Test.YtecengclcaodeaaR10F
import Derived.Test.YtecengclcaodeaaR10R
import Derived.Test.YtecengclcaodeaaR10A
namespace Go.Proofs.Ytecengclcaodeaa
open Go.RowKit Go.Lib Plain

set_option maxHeartbeats 4000000 in
set_option maxRecDepth 100000 in
theorem rgt_other (K D C i p S T P r q a b c v e g s : Int) (w : World) (k0 : ¬ K = 0) (k2 : ¬ K = 2) (k3 : ¬ K = 3) (k8 : ¬ K = 8) (k10 : ¬ K = 10) (k11 : ¬ K = 11) : Calls Try.prog 19 #[.agg #[.int .i64 K, .int .i64 D, .int .i64 C, .int .i64 i, .int .i64 p, .int .i64 S, .int .i64 T, .int .i64 P, .int .i64 r, .int .i64 q, .int .i64 a, .int .i64 b, .int .i64 c, .int .i64 v, .int .i64 e, .int .i64 g, .int .i64 s]] w fun y w' => y = .returned (.bool false) ∧ Below w.heap.size w w' := by
  go_enter Try.func19, Try.ntmps19
  go_wp2_with (go_at_call 14; refine (rsize_other K _ k0 k2 k3 k8 k10 k11).mono ?_; rintro e1 w9 ⟨rfl, rfl⟩)
  go_ret
  exact ⟨rfl, below_alloc (Below.refl _ _) _⟩

/-- isochronref10.Right -/
theorem rMsgRight_any (K D C i p S T P r q a b c v e g s : Int) (w : World) : Calls Try.prog 19 #[.agg #[.int .i64 K, .int .i64 D, .int .i64 C, .int .i64 i, .int .i64 p, .int .i64 S, .int .i64 T, .int .i64 P, .int .i64 r, .int .i64 q, .int .i64 a, .int .i64 b, .int .i64 c, .int .i64 v, .int .i64 e, .int .i64 g, .int .i64 s]] w fun y w' => y = .returned (.bool (rgtB (baseB D C i p S) (kindB K T P r q a b c v e g s))) ∧ Below w.heap.size w w' := by
  unfold kindB
  by_cases k0 : K = 0
  · subst k0
    rw [if_pos (Or.inl rfl)]
    exact rgt_0 D C i p S T P r q a b c v e g s w
  by_cases k2 : K = 2
  · subst k2
    rw [if_pos (Or.inr rfl)]
    exact rgt_2 D C i p S T P r q a b c v e g s w
  rw [if_neg (fun h => h.elim k0 k2)]
  by_cases k3 : K = 3
  · subst k3
    rw [if_pos (Or.inl rfl)]
    exact rgt_3 D C i p S T P r q a b c v e g s w
  by_cases k10 : K = 10
  · subst k10
    rw [if_pos (Or.inr rfl)]
    exact rgt_10 D C i p S T P r q a b c v e g s w
  rw [if_neg (fun h => h.elim k3 k10)]
  by_cases k8 : K = 8
  · subst k8
    rw [if_pos rfl]
    exact rgt_8 D C i p S T P r q a b c v e g s w
  rw [if_neg k8]
  by_cases k11 : K = 11
  · subst k11
    rw [if_pos rfl]
    exact rgt_11 D C i p S T P r q a b c v e g s w
  rw [if_neg k11, show rgtB (baseB D C i p S) false = false from Bool.and_false _]
  exact rgt_other K D C i p S T P r q a b c v e g s w k0 k2 k3 k8 k10 k11

theorem chk_of_rgt {x y : Bool} : chkB x y = if rgtB x y = true then 0 else 200 := rfl
theorem fol_rgt (D C i p S T P : Int) : rgtB (baseB D C i p S) (kindB 8 T P 0 0 0 0 0 0 0 0 0) = decide (FolOk D C i p S T P) := by
  by_cases h : BaseOk D C i p S <;> by_cases h1 : In T (-4398046511104) 4398046511104 <;> by_cases h2 : In P (-8388608) 8388608 <;> simp [rgtB, baseB, kindB, FolOk, h, h1, h2]

end Go.Proofs.Ytecengclcaodeaa
