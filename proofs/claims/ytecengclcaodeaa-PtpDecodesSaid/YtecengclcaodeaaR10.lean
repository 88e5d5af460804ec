/-
  The reference's tests of a port and of a master. No conditions.
-/
import Derived.Test.YtecengclcaodeaaPtpMas
namespace Go.Proofs.Ytecengclcaodeaa
open Go.RowKit Go.Lib Plain

/-- in -/
theorem rin_any (n lo hi : Int) (w : World) : Calls Try.prog 28 #[.int .i64 n, .int .i64 lo, .int .i64 hi] w fun e w' => e = .returned (.bool (inV n lo hi)) ∧ w = w' := by
  have hcases : (n < lo ∧ inV n lo hi = false) ∨ (lo ≤ n ∧ hi < n ∧ inV n lo hi = false) ∨ (lo ≤ n ∧ n ≤ hi ∧ inV n lo hi = true) := by
    unfold inV
    simp only [decide_eq_false_iff_not, decide_eq_true_eq]
    unfold In
    omega
  rcases hcases with ⟨k1, k⟩ | ⟨k1, k2, k⟩ | ⟨k1, k2, k⟩
  all_goals
    rw [k]
    clear k
    go_enter Try.func28, Try.ntmps28
    go_wp2
    go_ret
    exact ⟨ret_bool (by first | rfl | (rw [decide_eq_false_iff_not]; omega)), rfl⟩

/-- Port -/
theorem rPort_any (i p : Int) (w : World) : Calls Try.prog 35 #[.agg #[.int .i64 i, .int .i64 p]] w fun e w' => e = .returned (.bool (portB i p)) ∧ Below w.heap.size w w' := by
  have hcases : (inV i 0 281474976710655 = false ∧ portB i p = false) ∨ (inV i 0 281474976710655 = true ∧ inV p 1 65535 = false ∧ portB i p = false) ∨ (inV i 0 281474976710655 = true ∧ inV p 1 65535 = true ∧ portB i p = true) := by
    by_cases h1 : In i 0 281474976710655
    · by_cases h2 : In p 1 65535
      · exact .inr (.inr ⟨decide_eq_true h1, decide_eq_true h2, decide_eq_true ⟨h1, h2⟩⟩)
      · exact .inr (.inl ⟨decide_eq_true h1, decide_eq_false h2, decide_eq_false (fun h => h2 h.2)⟩)
    · exact .inl ⟨decide_eq_false h1, decide_eq_false (fun h => h1 h.1)⟩
  rcases hcases with ⟨k1, e⟩ | ⟨k1, k2, e⟩ | ⟨k1, k2, e⟩
  all_goals
    rw [e]
    clear e
    go_enter Try.func35, Try.ntmps35
    go_wp2_with (go_at_call 28; refine (rin_any _ _ _ _).mono ?_; rintro e1 w9 ⟨rfl, rfl⟩)
    go_ret
    exact ⟨ret_bool rfl, below_alloc (Below.refl _ _) _⟩

set_option maxHeartbeats 4000000 in
/-- Master -/
theorem rMaster_any (a b c v e g : Int) (w : World) : Calls Try.prog 11 #[.agg #[.int .i64 a, .int .i64 b, .int .i64 c, .int .i64 v, .int .i64 e, .int .i64 g]] w fun y w' => y = .returned (.bool (masB a b c v e g)) ∧ Below w.heap.size w w' := by
  go_enter Try.func11, Try.ntmps11
  cases h0 : inV a 0 255
  · go_wp2_with (go_at_call 28; refine (rin_any _ _ _ _).mono ?_; rintro e1 w9 ⟨rfl, rfl⟩)
    go_ret
    exact ⟨by rw [show masB a b c v e g = false from decide_eq_false (fun x => of_decide_eq_false h0 x.1.1)]; first | done | rfl, below_alloc (Below.refl _ _) _⟩
  cases h1 : inV b 0 255
  · go_wp2_with (go_at_call 28; refine (rin_any _ _ _ _).mono ?_; rintro e1 w9 ⟨rfl, rfl⟩)
    go_ret
    exact ⟨by rw [show masB a b c v e g = false from decide_eq_false (fun x => of_decide_eq_false h1 x.1.2.1)]; first | done | rfl, below_alloc (Below.refl _ _) _⟩
  cases h2 : inV c 0 255
  · go_wp2_with (go_at_call 28; refine (rin_any _ _ _ _).mono ?_; rintro e1 w9 ⟨rfl, rfl⟩)
    go_ret
    exact ⟨by rw [show masB a b c v e g = false from decide_eq_false (fun x => of_decide_eq_false h2 x.1.2.2.1)]; first | done | rfl, below_alloc (Below.refl _ _) _⟩
  cases h3 : inV v 0 65535
  · go_wp2_with (go_at_call 28; refine (rin_any _ _ _ _).mono ?_; rintro e1 w9 ⟨rfl, rfl⟩)
    go_ret
    exact ⟨by rw [show masB a b c v e g = false from decide_eq_false (fun x => of_decide_eq_false h3 x.2.1)]; first | done | rfl, below_alloc (Below.refl _ _) _⟩
  cases h4 : inV e 0 255
  · go_wp2_with (go_at_call 28; refine (rin_any _ _ _ _).mono ?_; rintro e1 w9 ⟨rfl, rfl⟩)
    go_ret
    exact ⟨by rw [show masB a b c v e g = false from decide_eq_false (fun x => of_decide_eq_false h4 x.1.2.2.2)]; first | done | rfl, below_alloc (Below.refl _ _) _⟩
  cases h5 : inV g 0 281474976710655
  · go_wp2_with (go_at_call 28; refine (rin_any _ _ _ _).mono ?_; rintro e1 w9 ⟨rfl, rfl⟩)
    go_ret
    exact ⟨by rw [show masB a b c v e g = false from decide_eq_false (fun x => of_decide_eq_false h5 x.2.2)]; first | done | rfl, below_alloc (Below.refl _ _) _⟩
  go_wp2_with (go_at_call 28; refine (rin_any _ _ _ _).mono ?_; rintro e1 w9 ⟨rfl, rfl⟩)
  go_ret
  exact ⟨by rw [show masB a b c v e g = true from decide_eq_true ⟨⟨of_decide_eq_true h0, of_decide_eq_true h1, of_decide_eq_true h2, of_decide_eq_true h4⟩, of_decide_eq_true h3, of_decide_eq_true h5⟩]; first | done | rfl, below_alloc (Below.refl _ _) _⟩

theorem rsize_0 (w : World) : Calls Try.prog 14 #[.int .i64 0] w fun e w' => e = .returned (.int .i64 22) ∧ w = w' := by
  go_enter Try.func14, Try.ntmps14
  go_wp2
  go_ret
  exact ⟨rfl, rfl⟩
theorem rsize_2 (w : World) : Calls Try.prog 14 #[.int .i64 2] w fun e w' => e = .returned (.int .i64 22) ∧ w = w' := by
  go_enter Try.func14, Try.ntmps14
  go_wp2
  go_ret
  exact ⟨rfl, rfl⟩
theorem rsize_3 (w : World) : Calls Try.prog 14 #[.int .i64 3] w fun e w' => e = .returned (.int .i64 38) ∧ w = w' := by
  go_enter Try.func14, Try.ntmps14
  go_wp2
  go_ret
  exact ⟨rfl, rfl⟩
theorem rsize_10 (w : World) : Calls Try.prog 14 #[.int .i64 10] w fun e w' => e = .returned (.int .i64 38) ∧ w = w' := by
  go_enter Try.func14, Try.ntmps14
  go_wp2
  go_ret
  exact ⟨rfl, rfl⟩
theorem rsize_8 (w : World) : Calls Try.prog 14 #[.int .i64 8] w fun e w' => e = .returned (.int .i64 34) ∧ w = w' := by
  go_enter Try.func14, Try.ntmps14
  go_wp2
  go_ret
  exact ⟨rfl, rfl⟩
theorem rsize_11 (w : World) : Calls Try.prog 14 #[.int .i64 11] w fun e w' => e = .returned (.int .i64 36) ∧ w = w' := by
  go_enter Try.func14, Try.ntmps14
  go_wp2
  go_ret
  exact ⟨rfl, rfl⟩
theorem rsize_other (K : Int) (w : World) (k0 : ¬ K = 0) (k2 : ¬ K = 2) (k3 : ¬ K = 3) (k8 : ¬ K = 8) (k10 : ¬ K = 10) (k11 : ¬ K = 11) : Calls Try.prog 14 #[.int .i64 K] w fun e w' => e = .returned (.int .i64 0) ∧ w = w' := by
  go_enter Try.func14, Try.ntmps14
  go_wp2
  go_ret
  exact ⟨rfl, rfl⟩

theorem pid_neq (r q : Int) (W : World) : (binOp .neq 23 (.agg #[.int .i64 r, .int .i64 q]) (.agg #[.int .i64 0, .int .i64 0])).run Try.prog W = .ok (.bool (! decide (r = 0 ∧ q = 0))) W := by
  simp [go_sem]
  (repeat' split) <;> simp [*]
set_option maxHeartbeats 4000000 in
theorem mas_eql (a b c v e g : Int) (W : World) : (binOp .eql 25 (.agg #[.int .i64 a, .int .i64 b, .int .i64 c, .int .i64 v, .int .i64 e, .int .i64 g]) (.agg #[.int .i64 0, .int .i64 0, .int .i64 0, .int .i64 0, .int .i64 0, .int .i64 0])).run Try.prog W = .ok (.bool (decide (a = 0 ∧ b = 0 ∧ c = 0 ∧ v = 0 ∧ e = 0 ∧ g = 0))) W := by
  simp [go_sem]
  (repeat' split) <;> simp [*]

def rgtB (x y : Bool) : Bool := x && y
theorem in_zero : inV 0 (-8388608) 8388608 = true := by decide +kernel

end Go.Proofs.Ytecengclcaodeaa
