/-
  The walks of package ptp that a follow-up needs.
-/
import Derived.Test.YtecengclcaodeaaTail
import Derived.Test.YtecengclcaodeaaPtpMsg
import Derived.Deep.RegionHeld3
import Derived.Deep.DeepCutAuto
import Derived.WalkMore
namespace Go.Proofs.Ytecengclcaodeaa
open Go.RowKit Go.Lib Plain

/-- ptp.inside -/
theorem pinside_any (n lo hi : Int) (w : World) : Calls Try.prog 29 #[.int .i64 n, .int .i64 lo, .int .i64 hi] w fun e w' => e = .returned (.bool (inV n lo hi)) ∧ w = w' := by
  have hcases : (n < lo ∧ inV n lo hi = false) ∨ (lo ≤ n ∧ hi < n ∧ inV n lo hi = false) ∨ (lo ≤ n ∧ n ≤ hi ∧ inV n lo hi = true) := by
    unfold inV
    simp only [decide_eq_false_iff_not, decide_eq_true_eq]
    unfold In
    omega
  rcases hcases with ⟨k1, k⟩ | ⟨k1, k2, k⟩ | ⟨k1, k2, k⟩
  all_goals
    rw [k]
    clear k
    go_enter Try.func29, Try.ntmps29
    go_wp2
    go_ret
    exact ⟨ret_bool (by first | rfl | (rw [decide_eq_false_iff_not]; omega)), rfl⟩

/-- ptp.stamp -/
theorem ptStamp_any (n : Int) (w : World) : Calls Try.prog 40 #[.int .i64 n] w fun e w' => e = .returned (.bool (inV n (-4398046511104) 4398046511104)) ∧ w = w' := by
  go_enter Try.func40, Try.ntmps40
  go_wp2_with fail
  refine (pinside_any _ _ _ _).mono ?_
  rintro e w' ⟨rfl, rfl⟩
  go_wp2
  go_ret
  exact ⟨rfl, rfl⟩

/-- ptp.checkPort -/
theorem checkPort_any (i p : Int) (w : World) : Calls Try.prog 41 #[.agg #[.int .i64 i, .int .i64 p]] w fun e w' => e = .returned (.bool (portB i p)) ∧ Below w.heap.size w w' := by
  have hcases : (inV i 0 281474976710655 = false ∧ portB i p = false) ∨ (inV i 0 281474976710655 = true ∧ inV p 1 65535 = false ∧ portB i p = false) ∨ (inV i 0 281474976710655 = true ∧ inV p 1 65535 = true ∧ portB i p = true) := by
    by_cases h1 : In i 0 281474976710655
    · by_cases h2 : In p 1 65535
      · exact .inr (.inr ⟨decide_eq_true h1, decide_eq_true h2, decide_eq_true ⟨h1, h2⟩⟩)
      · exact .inr (.inl ⟨decide_eq_true h1, decide_eq_false h2, decide_eq_false (fun h => h2 h.2)⟩)
    · exact .inl ⟨decide_eq_false h1, decide_eq_false (fun h => h1 h.1)⟩
  rcases hcases with ⟨k1, e⟩ | ⟨k1, k2, e⟩ | ⟨k1, k2, e⟩
  all_goals
    rw [e]
    clear e
    go_enter Try.func41, Try.ntmps41
    go_wp2_with (refine (pinside_any _ _ _ _).mono ?_; rintro e w' ⟨rfl, rfl⟩)
    go_ret
    exact ⟨ret_bool rfl, below_alloc (Below.refl _ _) _⟩

theorem agg_msg : ∀ w, (isAgg 27).run Try.prog w = .ok true w := fun w => by kernel_rfl
theorem size_msg : ∀ w, (sizeOf 27).run Try.prog w = .ok 17 w := fun w => by kernel_rfl

end Go.Proofs.Ytecengclcaodeaa
