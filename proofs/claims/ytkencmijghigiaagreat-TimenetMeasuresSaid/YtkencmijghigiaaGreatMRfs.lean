/-
  Texts of this claim laid together: ClockRef.
-/
import Derived.IntWalk
import Derived.Lib.QuietBelow
import Derived.BigQuiet
import Derived.Test.YtkencmijghigiaaGreatMNums
import Derived.Test.YtkencmijghigiaaGreatMBase
namespace Go.Proofs.YtkencmijghigiaaGreat
open Go.RowKit Go.Lib Plain

/-- isochronref09.Right -/
theorem clkRight_any (O P : Int) (w : World) : Calls Tryz.prog 22 #[.agg #[.int .i64 O, .int .i64 P]] w fun e w' => e = .returned (.bool (okC O P)) ∧ Below w.heap.size w w' := by
  have hcases : (O < -1099511627776 ∧ okC O P = false) ∨ (-1099511627776 ≤ O ∧ 1099511627776 < O ∧ okC O P = false) ∨ (-1099511627776 ≤ O ∧ O ≤ 1099511627776 ∧ P < -200000 ∧ okC O P = false) ∨
      (-1099511627776 ≤ O ∧ O ≤ 1099511627776 ∧ -200000 ≤ P ∧ 200000 < P ∧ okC O P = false) ∨ (-1099511627776 ≤ O ∧ O ≤ 1099511627776 ∧ -200000 ≤ P ∧ P ≤ 200000 ∧ okC O P = true) := by
    unfold okC
    simp only [decide_eq_false_iff_not, decide_eq_true_eq]
    unfold OkC
    omega
  rcases hcases with ⟨k1, k⟩ | ⟨k1, k2, k⟩ | ⟨k1, k2, k3, k⟩ | ⟨k1, k2, k3, k4, k⟩ | ⟨k1, k2, k3, k4, k⟩
  all_goals
    rw [k]
    clear k
    go_enter Tryz.func22, Tryz.ntmps22
    go_wp2
    go_ret
    exact ⟨ret_bool (by first | rfl | (rw [decide_eq_false_iff_not]; omega)), below_alloc (Below.refl _ _) _⟩

/-- isochronref09.At -/
theorem clkAt_any (O P t : Int) (h : OkC O P) (ht : Tick t) (w : World) :
    Calls Tryz.prog 32 #[.agg #[.int .i64 O, .int .i64 P], .int .i64 t] w fun e w' => e = .returned (.int .i64 (locV O P t)) ∧ Below w.heap.size w w' := by
  obtain ⟨a1, a2, a3, a4⟩ := loc_bd h ht
  obtain ⟨h1, h2, h3, h4⟩ := h
  obtain ⟨k1, k2⟩ := ht
  obtain ⟨m1, m2, _, _⟩ := part_bd' (x := t) (p := P) (by omega) (by omega) h3 h4
  have e1 : IntKind.i64.wrap (t + O) = t + O := IntWalk.i64_in _ (by omega)
  have e2 : IntKind.i64.wrap (t * P) = t * P := IntWalk.i64_in _ (by omega)
  have e3 : IntKind.i64.wrap (t + O + t * P / 1000000000) = t + O + t * P / 1000000000 := IntWalk.i64_in _ (by omega)
  have hF := fun W => floor_any (t * P) 1000000000 (by omega) (by omega) (by omega) W
  have HF := Lib.hid hF
  clear hF
  go_enter Tryz.func32, Tryz.ntmps32
  go_wp2
  go_quiet ((go_at_call 54; exact Calls.quiet_of_same ((HF.out _).mono fun _ _ ⟨x, y⟩ => ⟨x, y.symm⟩)))
  go_wp2
  go_ret
  exact ⟨ret_int rfl, below_drewN' (below_alloc (Below.refl _ _) _) _⟩

end Go.Proofs.YtkencmijghigiaaGreat
