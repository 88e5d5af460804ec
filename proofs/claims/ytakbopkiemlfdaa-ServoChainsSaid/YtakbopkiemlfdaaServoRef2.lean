/-
  The walks of the reference of package servo: Limits, Bound, When, Sync, and its drafts.
-/
import Derived.Test.YtakbopkiemlfdaaServoRef
import Derived.Test.YtakbopkiemlfdaaServoWhen
namespace Go.Proofs.Ytakbopkiemlfdaa
open Go.RowKit Go.Lib Plain

def limB (e x r : Int) : Bool := decide (LimOk e x r)

/-- isochronref13.Limits -/
theorem limits_any (e x r : Int) (w : World) : Calls Try.prog 22 #[.int .i64 e, .int .i64 x, .int .i64 r] w fun y w' => y = .returned (.bool (limB e x r)) ∧ w = w' := by
  have hcases : (e < 0 ∧ limB e x r = false) ∨ (0 ≤ e ∧ x < 0 ∧ limB e x r = false) ∨ (0 ≤ e ∧ 0 ≤ x ∧ r < 0 ∧ limB e x r = false) ∨ (0 ≤ e ∧ 0 ≤ x ∧ 0 ≤ r ∧ stampB e = false ∧ limB e x r = false) ∨
      (0 ≤ e ∧ 0 ≤ x ∧ 0 ≤ r ∧ stampB e = true ∧ stampB x = false ∧ limB e x r = false) ∨ (0 ≤ e ∧ 0 ≤ x ∧ 0 ≤ r ∧ stampB e = true ∧ stampB x = true ∧ 8388608 < r ∧ limB e x r = false) ∨
      (0 ≤ e ∧ 0 ≤ x ∧ 0 ≤ r ∧ stampB e = true ∧ stampB x = true ∧ r ≤ 8388608 ∧ limB e x r = true) := by
    unfold limB stampB
    simp only [decide_eq_false_iff_not, decide_eq_true_eq]
    unfold LimOk Stamp
    omega
  rcases hcases with ⟨k1, k⟩ | ⟨k1, k2, k⟩ | ⟨k1, k2, k3, k⟩ | ⟨k1, k2, k3, k4, k⟩ | ⟨k1, k2, k3, k4, k5, k⟩ | ⟨k1, k2, k3, k4, k5, k6, k⟩ | ⟨k1, k2, k3, k4, k5, k6, k⟩
  all_goals
    rw [k]
    clear k
    go_enter Try.func22, Try.ntmps22
    go_wp2_with (go_at_call 27; refine (stamp_any _ _).mono ?_; rintro e w' ⟨rfl, rfl⟩)
    go_ret
    exact ⟨ret_bool (by first | rfl | (rw [decide_eq_false_iff_not]; omega)), rfl⟩

/-- isochronref13.Bound, at allowed arguments -/
theorem boundRef_any (e x r : Int) (h : LimOk e x r) (w : World) :
    Calls Try.prog 23 #[.int .i64 e, .int .i64 x, .int .i64 r] w fun y w' => y = .returned (.int .i64 (boundV e x r)) ∧ w = w' := by
  obtain ⟨h1, h2, h3, h4, h5, h6⟩ := h
  obtain ⟨b1, b2⟩ := part_bd (x := -x) (p := r + 82) (by omega) (by omega) (by omega) (by omega)
  go_enter Try.func23, Try.ntmps23
  go_wp2_with fail
  refine (partRef_any (-x) (r + 82) (by omega) (by omega) (by omega) (by omega) _).mono ?_
  rintro y w1 ⟨rfl, rfl⟩
  go_wp2
  go_ret
  exact ⟨rfl, rfl⟩

theorem tmod_bd (x m : Int) (hm : 0 < m) : -m < x.tmod m ∧ x.tmod m < m := by
  rcases Int.le_total 0 x with h | h
  · rw [Int.tmod_eq_emod_of_nonneg h]
    have := Int.emod_nonneg x (show m ≠ 0 by omega)
    have := Int.emod_lt_of_pos x hm
    omega
  · obtain ⟨n, rfl⟩ : ∃ n, x = -n := ⟨-x, by omega⟩
    rw [Int.neg_tmod, Int.tmod_eq_emod_of_nonneg (by omega)]
    have := Int.emod_nonneg n (show m ≠ 0 by omega)
    have := Int.emod_lt_of_pos n hm
    omega

/-- (isochronref13.Draft).Servo -/
theorem draft_any (a b c : Int) (w : World) :
    Calls Try.prog 12 #[.agg #[.int .i64 a, .int .i64 b, .int .i32 c]] w fun e w' => e = .returned (.agg #[.int .i64 (a.tmod 4398046511105), .int .i64 (b.tmod 4398046511105), .int .i64 (c.tmod 8388609)]) ∧ Below w.heap.size w w' := by
  go_enter Try.func12, Try.ntmps12
  go_wp2
  refine bodyPost_ret (v := .agg #[.int .i64 (a.tmod 4398046511105), .int .i64 (b.tmod 4398046511105), .int .i64 (c.tmod 8388609)]) (by simp [results, Try.results12, go_sem, IntWalk.wrap64_in (c.tmod 8388609) (by have := tmod_bd c 8388609 (by decide); omega)]) rfl ⟨rfl, ?_⟩
  repeat (first | exact Below.refl _ _ | apply below_alloc)

end Go.Proofs.Ytakbopkiemlfdaa
