/-
  The walks of the reference of package clock: Right, At, Local, Drift, Bound.
-/
import Derived.Test.YtjdiecinelapeaaPart
import Derived.Test.YtjdiecinelapeaaClockPlain
import Derived.IntWalk
import Derived.Lib.QuietBelow
import Derived.BigQuiet
namespace Go.Proofs.Ytjdiecinelapeaa
open Go.RowKit Go.Lib Plain

/-- isochronref09.Right -/
theorem clkRight_any (O P : Int) (w : World) : Calls Try.prog 14 #[.agg #[.int .i64 O, .int .i64 P]] w fun e w' => e = .returned (.bool (okC O P)) ∧ Below w.heap.size w w' := by
  have hcases : (O < -1099511627776 ∧ okC O P = false) ∨ (-1099511627776 ≤ O ∧ 1099511627776 < O ∧ okC O P = false) ∨ (-1099511627776 ≤ O ∧ O ≤ 1099511627776 ∧ P < -200000 ∧ okC O P = false) ∨
      (-1099511627776 ≤ O ∧ O ≤ 1099511627776 ∧ -200000 ≤ P ∧ 200000 < P ∧ okC O P = false) ∨ (-1099511627776 ≤ O ∧ O ≤ 1099511627776 ∧ -200000 ≤ P ∧ P ≤ 200000 ∧ okC O P = true) := by
    unfold okC
    simp only [decide_eq_false_iff_not, decide_eq_true_eq]
    unfold OkC
    omega
  rcases hcases with ⟨k1, k⟩ | ⟨k1, k2, k⟩ | ⟨k1, k2, k3, k⟩ | ⟨k1, k2, k3, k4, k⟩ | ⟨k1, k2, k3, k4, k⟩
  all_goals
    rw [k]
    clear k
    go_enter Try.func14, Try.ntmps14
    go_wp2
    go_ret
    exact ⟨ret_bool (by first | rfl | (rw [decide_eq_false_iff_not]; omega)), below_alloc (Below.refl _ _) _⟩

/-- isochronref09.At -/
theorem clkAt_any (O P t : Int) (h : OkC O P) (ht : Tick t) (w : World) :
    Calls Try.prog 27 #[.agg #[.int .i64 O, .int .i64 P], .int .i64 t] w fun e w' => e = .returned (.int .i64 (locV O P t)) ∧ Below w.heap.size w w' := by
  obtain ⟨a1, a2, a3, a4⟩ := loc_bd h ht
  obtain ⟨h1, h2, h3, h4⟩ := h
  obtain ⟨k1, k2⟩ := ht
  obtain ⟨m1, m2, _, _⟩ := part_bd' (x := t) (p := P) (by omega) (by omega) h3 h4
  have e1 : IntKind.i64.wrap (t + O) = t + O := IntWalk.i64_in _ (by omega)
  have e2 : IntKind.i64.wrap (t * P) = t * P := IntWalk.i64_in _ (by omega)
  have e3 : IntKind.i64.wrap (t + O + t * P / 1000000000) = t + O + t * P / 1000000000 := IntWalk.i64_in _ (by omega)
  have hF := fun W => floor_any (t * P) 1000000000 (by omega) (by omega) (by omega) W
  have HF := Lib.hid hF
  clear hF
  go_enter Try.func27, Try.ntmps27
  go_wp2
  go_quiet ((go_at_call 32; exact Calls.quiet_of_same ((HF.out _).mono fun _ _ ⟨x, y⟩ => ⟨x, y.symm⟩)))
  go_wp2
  go_ret
  exact ⟨ret_int rfl, below_drewN' (below_alloc (Below.refl _ _) _) _⟩

/-- isochronref09.Local -/
theorem clkLocal_any (O P t : Int) (w : World) :
    Calls Try.prog 13 #[.agg #[.int .i64 O, .int .i64 P], .int .i64 t] w fun e w' => e = .returned (.tuple #[.int .i64 (localV O P t), .int .i64 (localE O P t)]) ∧ Below w.heap.size w w' := by
  by_cases h : OkC O P
  · have c : okC O P = true := decide_eq_true h
    by_cases hl : Tick t
    · have e1 : localV O P t = locV O P t := if_pos ⟨h, hl⟩
      have e2 : localE O P t = 0 := by unfold localE; rw [if_pos h, if_pos hl]
      rw [e1, e2]
      obtain ⟨k1, k2⟩ := id hl
      have HL := Lib.hid hl
      have HS := Lib.hid h
      clear e1 e2 h hl
      go_enter Try.func13, Try.ntmps13
      go_wp2_with fail
      refine (clkRight_any O P _).mono ?_
      rintro e w1 ⟨rfl, hb1⟩
      obtain ⟨hc, hf⟩ := bcell hb1
      go_wp2_with fail
      refine (clkAt_any O P t HS.out HL.out _).mono ?_
      rintro e w2 ⟨rfl, hb2⟩
      go_wp2
      go_ret2
      exact ⟨rfl, below_step (below_step (below_alloc (Below.refl _ _) _) hb1) hb2⟩
    · have e1 : localV O P t = 0 := if_neg (fun ⟨_, x⟩ => hl x)
      have e2 : localE O P t = 2 := by unfold localE; rw [if_pos h, if_neg hl]
      rw [e1, e2]
      rcases (show t < 0 ∨ (0 ≤ t ∧ 1099511627776 < t) by unfold Tick at hl; omega) with k1 | ⟨k1, k2⟩
      all_goals
        clear e1 e2 h hl
        go_enter Try.func13, Try.ntmps13
        go_wp2_with fail
        refine (clkRight_any O P _).mono ?_
        rintro e w1 ⟨rfl, hb1⟩
        go_wp2
        go_ret2
        exact ⟨rfl, below_step (below_alloc (Below.refl _ _) _) hb1⟩
  · have c : okC O P = false := decide_eq_false h
    have e1 : localV O P t = 0 := if_neg (fun ⟨x, _⟩ => h x)
    have e2 : localE O P t = 190 := if_neg h
    rw [e1, e2]
    clear e1 e2 h
    go_enter Try.func13, Try.ntmps13
    go_wp2_with fail
    refine (clkRight_any O P _).mono ?_
    rintro e w1 ⟨rfl, hb1⟩
    go_wp2
    go_ret2
    exact ⟨rfl, below_step (below_alloc (Below.refl _ _) _) hb1⟩

end Go.Proofs.Ytjdiecinelapeaa
