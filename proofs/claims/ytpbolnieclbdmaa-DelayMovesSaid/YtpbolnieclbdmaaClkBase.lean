/-
  Walks of package clock and its reference that the layers above need.
-/
import Derived.Test.YtpbolnieclbdmaaClock
import Derived.IntWalk
import Derived.Lib.QuietBelow
import Derived.BigQuiet
namespace Go.Proofs.Ytpbolnieclbdmaa
open Go.RowKit Go.Lib Plain

/-- isochronref09.Right -/
theorem clkRight_any (O P : Int) (w : World) : Calls Try.prog 20 #[.agg #[.int .i64 O, .int .i64 P]] w fun e w' => e = .returned (.bool (okC O P)) ∧ Below w.heap.size w w' := by
  have hcases : (O < -1099511627776 ∧ okC O P = false) ∨ (-1099511627776 ≤ O ∧ 1099511627776 < O ∧ okC O P = false) ∨ (-1099511627776 ≤ O ∧ O ≤ 1099511627776 ∧ P < -200000 ∧ okC O P = false) ∨
      (-1099511627776 ≤ O ∧ O ≤ 1099511627776 ∧ -200000 ≤ P ∧ 200000 < P ∧ okC O P = false) ∨ (-1099511627776 ≤ O ∧ O ≤ 1099511627776 ∧ -200000 ≤ P ∧ P ≤ 200000 ∧ okC O P = true) := by
    unfold okC
    simp only [decide_eq_false_iff_not, decide_eq_true_eq]
    unfold OkC
    omega
  rcases hcases with ⟨k1, k⟩ | ⟨k1, k2, k⟩ | ⟨k1, k2, k3, k⟩ | ⟨k1, k2, k3, k4, k⟩ | ⟨k1, k2, k3, k4, k⟩
  all_goals
    rw [k]
    clear k
    go_enter Try.func20, Try.ntmps20
    go_wp2
    go_ret
    exact ⟨ret_bool (by first | rfl | (rw [decide_eq_false_iff_not]; omega)), below_alloc (Below.refl _ _) _⟩

/-- isochronref09.At -/
theorem clkAt_any (O P t : Int) (h : OkC O P) (ht : Tick t) (w : World) :
    Calls Try.prog 42 #[.agg #[.int .i64 O, .int .i64 P], .int .i64 t] w fun e w' => e = .returned (.int .i64 (locV O P t)) ∧ Below w.heap.size w w' := by
  obtain ⟨a1, a2, a3, a4⟩ := loc_bd h ht
  obtain ⟨h1, h2, h3, h4⟩ := h
  obtain ⟨k1, k2⟩ := ht
  obtain ⟨m1, m2, _, _⟩ := part_bd' (x := t) (p := P) (by omega) (by omega) h3 h4
  have e1 : IntKind.i64.wrap (t + O) = t + O := IntWalk.i64_in _ (by omega)
  have e2 : IntKind.i64.wrap (t * P) = t * P := IntWalk.i64_in _ (by omega)
  have e3 : IntKind.i64.wrap (t + O + t * P / 1000000000) = t + O + t * P / 1000000000 := IntWalk.i64_in _ (by omega)
  have hF := fun W => floor_any (t * P) 1000000000 (by omega) (by omega) (by omega) W
  have HF := Lib.hid hF
  clear hF
  go_enter Try.func42, Try.ntmps42
  go_wp2
  go_quiet ((go_at_call 30; exact Calls.quiet_of_same ((HF.out _).mono fun _ _ ⟨x, y⟩ => ⟨x, y.symm⟩)))
  go_wp2
  go_ret
  exact ⟨ret_int rfl, below_drewN' (below_alloc (Below.refl _ _) _) _⟩

/-- isochronref09.Drift -/
theorem driftRef_any (p d : Int) (k1 : 0 ≤ p) (k2 : p ≤ 200000) (k3 : 0 ≤ d) (k4 : d ≤ 1099511627776) (w : World) :
    Calls Try.prog 45 #[.int .i64 p, .int .i64 d] w fun e w' => e = .returned (.int .i64 (-share (-d) p)) ∧ w = w' := by
  obtain ⟨m1, m2, m3, m4⟩ := part_bd' (x := -d) (p := p) (by omega) (by omega) (by omega) k2
  unfold share at m3 m4 ⊢
  go_enter Try.func45, Try.ntmps45
  go_wp2_with fail
  refine (floor_any (-d * p) 1000000000 (by omega) (by omega) (by omega) _).mono ?_
  rintro e w' ⟨rfl, rfl⟩
  go_wp2
  go_ret
  exact ⟨rfl, rfl⟩

/-- clock.Bound -/
theorem cbound_any (p d : Int) (w : World) :
    Calls Try.prog 43 #[.int .i64 p, .int .i64 d] w fun e w' => e = .returned (.tuple #[.int .i64 (bndV p d), .int .i64 (bndE p d)]) ∧ Below w.heap.size w w' := by
  by_cases h : BndOk p d
  · have e1 : bndV p d = -share (-d) p := if_pos h
    have e2 : bndE p d = 0 := if_pos h
    rw [e1, e2]
    obtain ⟨k1, k2, l⟩ := h
    have t1 : tickB d = true := decide_eq_true l
    obtain ⟨k3, k4⟩ := l
    obtain ⟨_, _, m1, m2⟩ := part_bd' (x := -d) (p := p) (by omega) (by omega) (by omega) k2
    clear e1 e2
    go_enter Try.func43, Try.ntmps43
    go_wp2_with fail
    refine (tick_any d _).mono ?_
    rintro e w' ⟨rfl, rfl⟩
    go_wp2_with fail
    refine (part_any (-d) p (by omega) (by omega) (by omega) (by omega) _).mono ?_
    rintro e w1 ⟨rfl, hb1⟩
    go_wp2
    go_ret2
    exact ⟨rfl, hb1⟩
  · have e1 : bndV p d = 0 := if_neg h
    have e2 : bndE p d = 2 := if_neg h
    rw [e1, e2]
    clear e1 e2
    rcases (show p < 0 ∨ (0 ≤ p ∧ 200000 < p) ∨ (0 ≤ p ∧ p ≤ 200000) by omega) with k | ⟨k, k'⟩ | ⟨k, k'⟩
    · go_enter Try.func43, Try.ntmps43
      go_wp2
      go_ret2
      exact ⟨rfl, Below.refl _ _⟩
    · go_enter Try.func43, Try.ntmps43
      go_wp2
      go_ret2
      exact ⟨rfl, Below.refl _ _⟩
    · have t1 : tickB d = false := decide_eq_false (fun l => h ⟨k, k', l⟩)
      clear h
      go_enter Try.func43, Try.ntmps43
      go_wp2_with fail
      refine (tick_any d _).mono ?_
      rintro e w' ⟨rfl, rfl⟩
      go_wp2
      go_ret2
      exact ⟨rfl, Below.refl _ _⟩

end Go.Proofs.Ytpbolnieclbdmaa
