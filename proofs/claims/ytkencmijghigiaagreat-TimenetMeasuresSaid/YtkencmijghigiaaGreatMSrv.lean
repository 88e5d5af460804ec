/-
  Texts of this claim laid together: Servo, ServoSync.
-/
import Derived.Deep.RegionHeld3
import Derived.Laws.EntriesVeiled
import Derived.WalkMore
import Derived.Test.YtkencmijghigiaaGreatMNums
import Derived.Test.YtkencmijghigiaaGreatMBase
namespace Go.Proofs.YtkencmijghigiaaGreat
open Go.RowKit Go.Lib Plain

/-- servo.reading.at -/
theorem at_any (L M P l : Int) (h : OkS L M P) (hl : Stamp l) (w : World) :
    Calls Tryz.prog 67 #[.agg #[.int .i64 L, .int .i64 M, .int .i64 P], .int .i64 l] w fun e w' => e = .returned (.int .i64 (atV L M P l)) ∧ Below w.heap.size w w' := by
  obtain ⟨a1, a2, a3, a4⟩ := at_bd h hl
  obtain ⟨h1, h2, h3, h4, h5, h6⟩ := h
  obtain ⟨k1, k2⟩ := hl
  go_enter Tryz.func67, Tryz.ntmps67
  go_wp2_with fail
  refine (part_any _ _ (by omega) (by omega) (by omega) (by omega) _).mono ?_
  rintro e w1 ⟨rfl, hb1⟩
  obtain ⟨hc, hf⟩ := bcell hb1
  go_wp2
  go_ret
  exact ⟨ret_int (by unfold atV; omega), below_step (below_alloc (Below.refl _ _) _) hb1⟩

section
variable (w : World)
theorem limit_0 : ∀ (a b c d e f : Value) (w : World), (Instr.index 140 (.agg #[a, b, c, d, e, f]) (.int .i64 0)).run Tryz.prog w = .ok (.agg #[a, b]) w := fun _ _ _ _ _ _ _ => by kernel_rfl
theorem limit_1 : ∀ (a b c d e f : Value) (w : World), (Instr.index 140 (.agg #[a, b, c, d, e, f]) (.int .i64 1)).run Tryz.prog w = .ok (.agg #[c, d]) w := fun _ _ _ _ _ _ _ => by kernel_rfl
theorem limit_2 : ∀ (a b c d e f : Value) (w : World), (Instr.index 140 (.agg #[a, b, c, d, e, f]) (.int .i64 2)).run Tryz.prog w = .ok (.agg #[e, f]) w := fun _ _ _ _ _ _ _ => by kernel_rfl
end

set_option maxHeartbeats 4000000 in
/-- servo.Check -/
theorem check_any (L M P : Int) (w : World) :
    Calls Tryz.prog 66 #[.agg #[.int .i64 L, .int .i64 M, .int .i64 P]] w fun e w' => e = .returned (.int .i64 (chkV L M P)) ∧ Below w.heap.size w w' := by
  have i0 := limit_0
  have i1 := limit_1
  have i2 := limit_2
  by_cases hL : -4398046511104 ≤ L ∧ L ≤ 4398046511104
  · obtain ⟨h1, h2⟩ := hL
    by_cases hM : -4398046511104 ≤ M ∧ M ≤ 4398046511104
    · obtain ⟨h3, h4⟩ := hM
      by_cases hP : -8388608 ≤ P ∧ P ≤ 8388608
      · obtain ⟨h5, h6⟩ := hP
        have e : chkV L M P = 0 := if_pos ⟨h1, h2, h3, h4, h5, h6⟩
        rw [e]
        clear e
        go_enter Tryz.func66, Tryz.ntmps66
        go_wp2
        go_step3
        go_wp2
        go_step3
        go_wp2
        refine wp_loop_rounds 4 ?_
        rw [rounds_succ]
        go_wp2
        rw [rounds_succ]
        go_wp2
        rw [rounds_succ]
        go_wp2
        rw [rounds_succ]
        go_wp2
        rw [Exit.noGoto_ret]
        go_ret
        exact ⟨rfl, by repeat (first | exact Below.refl _ _ | apply below_alloc)⟩
      · have e : chkV L M P = 230 := if_neg (fun ⟨_, _, _, _, h5, h6⟩ => hP ⟨h5, h6⟩)
        rw [e]
        clear e
        rcases (show P < -8388608 ∨ 8388608 < P by omega) with h5 | h5
        all_goals
          go_enter Tryz.func66, Tryz.ntmps66
          go_wp2
          go_step3
          go_wp2
          go_step3
          go_wp2
          refine wp_loop_rounds 3 ?_
          rw [rounds_succ]
          go_wp2
          rw [rounds_succ]
          go_wp2
          rw [rounds_succ]
          go_wp2
          rw [Exit.noGoto_ret]
          go_ret
          exact ⟨rfl, by repeat (first | exact Below.refl _ _ | apply below_alloc)⟩
    · have e : chkV L M P = 230 := if_neg (fun ⟨_, _, h3, h4, _, _⟩ => hM ⟨h3, h4⟩)
      rw [e]
      clear e
      rcases (show M < -4398046511104 ∨ 4398046511104 < M by omega) with h5 | h5
      all_goals
        go_enter Tryz.func66, Tryz.ntmps66
        go_wp2
        go_step3
        go_wp2
        go_step3
        go_wp2
        refine wp_loop_rounds 3 ?_
        rw [rounds_succ]
        go_wp2
        rw [rounds_succ]
        go_wp2
        rw [Exit.noGoto_ret]
        go_ret
        exact ⟨rfl, by repeat (first | exact Below.refl _ _ | apply below_alloc)⟩
  · have e : chkV L M P = 230 := if_neg (fun ⟨h3, h4, _, _, _, _⟩ => hL ⟨h3, h4⟩)
    rw [e]
    clear e
    rcases (show L < -4398046511104 ∨ 4398046511104 < L by omega) with h5 | h5
    all_goals
      go_enter Tryz.func66, Tryz.ntmps66
      go_wp2
      go_step3
      go_wp2
      go_step3
      go_wp2
      refine wp_loop_rounds 3 ?_
      rw [rounds_succ]
      go_wp2
      rw [Exit.noGoto_ret]
      go_ret
      exact ⟨rfl, by repeat (first | exact Below.refl _ _ | apply below_alloc)⟩

/-- servo.Time -/
theorem time_any (L M P l : Int) (w : World) :
    Calls Tryz.prog 38 #[.agg #[.int .i64 L, .int .i64 M, .int .i64 P], .int .i64 l] w fun e w' => e = .returned (.tuple #[.int .i64 (timeV L M P l), .int .i64 (timeE L M P l)]) ∧ Below w.heap.size w w' := by
  by_cases h : OkS L M P
  · have c : chkV L M P = 0 := if_pos h
    by_cases hl : Stamp l
    · have e1 : timeV L M P l = atV L M P l := if_pos ⟨h, hl⟩
      have e2 : timeE L M P l = 0 := by unfold timeE; rw [if_pos h, if_pos hl]
      rw [e1, e2]
      clear e1 e2
      obtain ⟨k1, k2⟩ := id hl
      have HL := Lib.hid hl
      have HS := Lib.hid h
      clear hl h
      go_enter Tryz.func38, Tryz.ntmps38
      go_wp2_with fail
      refine (check_any L M P _).mono ?_
      rintro e w1 ⟨rfl, hb1⟩
      obtain ⟨hc, hf⟩ := bcell hb1
      go_wp2_with fail
      refine (at_any L M P l HS.out HL.out _).mono ?_
      rintro e w2 ⟨rfl, hb2⟩
      go_wp2
      go_ret2
      exact ⟨rfl, below_step (below_step (below_alloc (Below.refl _ _) _) hb1) hb2⟩
    · have e1 : timeV L M P l = 0 := if_neg (fun ⟨_, x⟩ => hl x)
      have e2 : timeE L M P l = 2 := by unfold timeE; rw [if_pos h, if_neg hl]
      rw [e1, e2]
      clear e1 e2 h
      rcases (show l < -4398046511104 ∨ 4398046511104 < l by unfold Stamp at hl; omega) with k | k
      all_goals
        clear hl
        go_enter Tryz.func38, Tryz.ntmps38
        go_wp2_with fail
        refine (check_any L M P _).mono ?_
        rintro e w1 ⟨rfl, hb1⟩
        obtain ⟨hc, hf⟩ := bcell hb1
        go_wp2
        go_ret2
        exact ⟨rfl, below_step (below_alloc (Below.refl _ _) _) hb1⟩
  · have c : chkV L M P = 230 := if_neg h
    have e1 : timeV L M P l = 0 := if_neg (fun ⟨x, _⟩ => h x)
    have e2 : timeE L M P l = 230 := if_neg h
    rw [e1, e2]
    clear e1 e2 h
    go_enter Tryz.func38, Tryz.ntmps38
    go_wp2_with fail
    refine (check_any L M P _).mono ?_
    rintro e w1 ⟨rfl, hb1⟩
    obtain ⟨hc, hf⟩ := bcell hb1
    go_wp2
    go_ret2
    exact ⟨rfl, below_step (below_alloc (Below.refl _ _) _) hb1⟩

end Go.Proofs.YtkencmijghigiaaGreat

namespace Go.Proofs.YtkencmijghigiaaGreat
open Go.RowKit Go.Lib Plain

theorem bound_ok (e x r : Int) (h : LimOk e x r) (w : World) :
    Calls Tryz.prog 40 #[.int .i64 e, .int .i64 x, .int .i64 r] w fun y w' => y = .returned (.tuple #[.int .i64 (boundV e x r), .int .i64 0]) ∧ Below w.heap.size w w' := by
  obtain ⟨h1, h2, h3, h4, h5, h6⟩ := h
  obtain ⟨b1, b2⟩ := part_bd (x := -x) (p := r + 82) (by omega) (by omega) (by omega) (by omega)
  go_enter Tryz.func40, Tryz.ntmps40
  go_wp2_with fail
  refine (part_any (-x) (r + 82) (by omega) (by omega) (by omega) (by omega) _).mono ?_
  rintro y w1 ⟨rfl, hb1⟩
  go_wp2
  go_ret2
  exact ⟨rfl, hb1⟩

theorem bound_bad (e x r : Int) (h : ¬ LimOk e x r) (w : World) :
    Calls Tryz.prog 40 #[.int .i64 e, .int .i64 x, .int .i64 r] w fun y w' => y = .returned (.tuple #[.int .i64 0, .int .i64 2]) ∧ w = w' := by
  have hc : (e < 0) ∨ (0 ≤ e ∧ 4398046511104 < e) ∨ (0 ≤ e ∧ e ≤ 4398046511104 ∧ x < 0) ∨ (0 ≤ e ∧ e ≤ 4398046511104 ∧ 0 ≤ x ∧ 4398046511104 < x) ∨
      (0 ≤ e ∧ e ≤ 4398046511104 ∧ 0 ≤ x ∧ x ≤ 4398046511104 ∧ r < 0) ∨ (0 ≤ e ∧ e ≤ 4398046511104 ∧ 0 ≤ x ∧ x ≤ 4398046511104 ∧ 0 ≤ r ∧ 8388608 < r) := by unfold LimOk at h; omega
  clear h
  rcases hc with k1 | ⟨k1, k2⟩ | ⟨k1, k2, k3⟩ | ⟨k1, k2, k3, k4⟩ | ⟨k1, k2, k3, k4, k5⟩ | ⟨k1, k2, k3, k4, k5, k6⟩
  all_goals
    go_enter Tryz.func40, Tryz.ntmps40
    go_wp2
    go_ret2
    exact ⟨rfl, rfl⟩

end Go.Proofs.YtkencmijghigiaaGreat
