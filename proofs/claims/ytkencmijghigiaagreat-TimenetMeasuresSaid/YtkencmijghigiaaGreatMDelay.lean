/-
  The walks of package delay: Check, Delay, the closures, Ratio, the bounds.
-/
import Derived.WalkMore
import Derived.Laws.EntriesVeiled
import Derived.Test.YtkencmijghigiaaGreatMNums
import Derived.Test.YtkencmijghigiaaGreatMBase
import Derived.Test.YtkencmijghigiaaGreatMClk
namespace Go.Proofs.YtkencmijghigiaaGreat
open Go.RowKit Go.Lib Plain

def inB (n lo hi : Int) : Bool := decide (lo ≤ n ∧ n ≤ hi)

/-- delay.inside -/
theorem inside_any (n lo hi : Int) (w : World) : Calls Tryz.prog 83 #[.int .i64 n, .int .i64 lo, .int .i64 hi] w fun e w' => e = .returned (.bool (inB n lo hi)) ∧ w = w' := by
  have hcases : (n < lo ∧ inB n lo hi = false) ∨ (lo ≤ n ∧ hi < n ∧ inB n lo hi = false) ∨ (lo ≤ n ∧ n ≤ hi ∧ inB n lo hi = true) := by
    unfold inB
    simp only [decide_eq_false_iff_not, decide_eq_true_eq]
    omega
  rcases hcases with ⟨k1, k⟩ | ⟨k1, k2, k⟩ | ⟨k1, k2, k⟩
  all_goals
    rw [k]
    clear k
    go_enter Tryz.func83, Tryz.ntmps83
    go_wp2
    go_ret
    exact ⟨ret_bool (by first | rfl | (rw [decide_eq_false_iff_not]; omega)), rfl⟩

theorem four_0 : ∀ (a b c d : Int) (w : World), (Instr.index 125 (.agg #[.int .i64 a, .int .i64 b, .int .i64 c, .int .i64 d]) (.int .i64 0)).run Tryz.prog w = .ok (.int .i64 a) w := fun _ _ _ _ _ => by kernel_rfl
theorem four_1 : ∀ (a b c d : Int) (w : World), (Instr.index 125 (.agg #[.int .i64 a, .int .i64 b, .int .i64 c, .int .i64 d]) (.int .i64 1)).run Tryz.prog w = .ok (.int .i64 b) w := fun _ _ _ _ _ => by kernel_rfl
theorem four_2 : ∀ (a b c d : Int) (w : World), (Instr.index 125 (.agg #[.int .i64 a, .int .i64 b, .int .i64 c, .int .i64 d]) (.int .i64 2)).run Tryz.prog w = .ok (.int .i64 c) w := fun _ _ _ _ _ => by kernel_rfl
theorem four_3 : ∀ (a b c d : Int) (w : World), (Instr.index 125 (.agg #[.int .i64 a, .int .i64 b, .int .i64 c, .int .i64 d]) (.int .i64 3)).run Tryz.prog w = .ok (.int .i64 d) w := fun _ _ _ _ _ => by kernel_rfl

theorem inB_yes {n lo hi : Int} (h : lo ≤ n ∧ n ≤ hi) : inB n lo hi = true := decide_eq_true h
theorem inB_no {n lo hi : Int} (h : ¬ (lo ≤ n ∧ n ≤ hi)) : inB n lo hi = false := decide_eq_false h

set_option maxHeartbeats 4000000 in
/-- delay.Check -/
theorem xCheck_any (a b c d : Int) (w : World) :
    Calls Tryz.prog 78 #[.agg #[.int .i64 a, .int .i64 b, .int .i64 c, .int .i64 d]] w fun e w' => e = .returned (.int .i64 (xV a b c d)) ∧ Below w.heap.size w w' := by
  have i0 := four_0
  have i1 := four_1
  have i2 := four_2
  have i3 := four_3
  by_cases ha : -4398046511104 ≤ a ∧ a ≤ 4398046511104
  · have b1 := inB_yes ha
    by_cases hb : -4398046511104 ≤ b ∧ b ≤ 4398046511104
    · have b2 := inB_yes hb
      by_cases hc : -4398046511104 ≤ c ∧ c ≤ 4398046511104
      · have b3 := inB_yes hc
        by_cases hd : -4398046511104 ≤ d ∧ d ≤ 4398046511104
        · have b4 := inB_yes hd
          have hcases : (d < a ∧ xV a b c d = 220) ∨ (a ≤ d ∧ c < b ∧ xV a b c d = 220) ∨ (a ≤ d ∧ b ≤ c ∧ xV a b c d = 0) := by
            by_cases k1 : a ≤ d
            · by_cases k2 : b ≤ c
              · exact .inr (.inr ⟨k1, k2, if_pos ⟨ha, hb, hc, hd, k1, k2⟩⟩)
              · exact .inr (.inl ⟨k1, by omega, if_neg (fun h => k2 h.2.2.2.2.2)⟩)
            · exact .inl ⟨by omega, if_neg (fun h => k1 h.2.2.2.2.1)⟩
          clear ha hb hc hd
          rcases hcases with ⟨k1, e⟩ | ⟨k1, k2, e⟩ | ⟨k1, k2, e⟩
          all_goals
            rw [e]
            clear e
            go_enter Tryz.func78, Tryz.ntmps78
            go_wp2
            refine wp_loop_rounds 5 ?_
            rw [rounds_succ]
            go_wp2_with (refine (inside_any _ _ _ _).mono ?_; rintro e w' ⟨rfl, rfl⟩)
            rw [rounds_succ]
            go_wp2_with (refine (inside_any _ _ _ _).mono ?_; rintro e w' ⟨rfl, rfl⟩)
            rw [rounds_succ]
            go_wp2_with (refine (inside_any _ _ _ _).mono ?_; rintro e w' ⟨rfl, rfl⟩)
            rw [rounds_succ]
            go_wp2_with (refine (inside_any _ _ _ _).mono ?_; rintro e w' ⟨rfl, rfl⟩)
            rw [rounds_succ]
            go_wp2
            go_ret
            exact ⟨rfl, by repeat (first | exact Below.refl _ _ | apply below_alloc)⟩
        · have b4 := inB_no hd
          have e : xV a b c d = 220 := if_neg (fun h => hd h.2.2.2.1)
          rw [e]
          clear e ha hb hc hd
          go_enter Tryz.func78, Tryz.ntmps78
          go_wp2
          refine wp_loop_rounds 4 ?_
          rw [rounds_succ]
          go_wp2_with (refine (inside_any _ _ _ _).mono ?_; rintro e w' ⟨rfl, rfl⟩)
          rw [rounds_succ]
          go_wp2_with (refine (inside_any _ _ _ _).mono ?_; rintro e w' ⟨rfl, rfl⟩)
          rw [rounds_succ]
          go_wp2_with (refine (inside_any _ _ _ _).mono ?_; rintro e w' ⟨rfl, rfl⟩)
          rw [rounds_succ]
          go_wp2_with (refine (inside_any _ _ _ _).mono ?_; rintro e w' ⟨rfl, rfl⟩)
          go_ret
          exact ⟨rfl, by repeat (first | exact Below.refl _ _ | apply below_alloc)⟩
      · have b3 := inB_no hc
        have e : xV a b c d = 220 := if_neg (fun h => hc h.2.2.1)
        rw [e]
        clear e ha hb hc
        go_enter Tryz.func78, Tryz.ntmps78
        go_wp2
        refine wp_loop_rounds 3 ?_
        rw [rounds_succ]
        go_wp2_with (refine (inside_any _ _ _ _).mono ?_; rintro e w' ⟨rfl, rfl⟩)
        rw [rounds_succ]
        go_wp2_with (refine (inside_any _ _ _ _).mono ?_; rintro e w' ⟨rfl, rfl⟩)
        rw [rounds_succ]
        go_wp2_with (refine (inside_any _ _ _ _).mono ?_; rintro e w' ⟨rfl, rfl⟩)
        go_ret
        exact ⟨rfl, by repeat (first | exact Below.refl _ _ | apply below_alloc)⟩
    · have b2 := inB_no hb
      have e : xV a b c d = 220 := if_neg (fun h => hb h.2.1)
      rw [e]
      clear e ha hb
      go_enter Tryz.func78, Tryz.ntmps78
      go_wp2
      refine wp_loop_rounds 2 ?_
      rw [rounds_succ]
      go_wp2_with (refine (inside_any _ _ _ _).mono ?_; rintro e w' ⟨rfl, rfl⟩)
      rw [rounds_succ]
      go_wp2_with (refine (inside_any _ _ _ _).mono ?_; rintro e w' ⟨rfl, rfl⟩)
      go_ret
      exact ⟨rfl, by repeat (first | exact Below.refl _ _ | apply below_alloc)⟩
  · have b1 := inB_no ha
    have e : xV a b c d = 220 := if_neg (fun h => ha h.1)
    rw [e]
    clear e ha
    go_enter Tryz.func78, Tryz.ntmps78
    go_wp2
    refine wp_loop_rounds 1 ?_
    rw [rounds_succ]
    go_wp2_with (refine (inside_any _ _ _ _).mono ?_; rintro e w' ⟨rfl, rfl⟩)
    go_ret
    exact ⟨rfl, by repeat (first | exact Below.refl _ _ | apply below_alloc)⟩

/-- num.FloorDiv -/
theorem floorDiv_any (a b : Int) (a1 : -1125899906842624 ≤ a) (a2 : a ≤ 1125899906842624) (b1 : 1 ≤ b) (b2 : b ≤ 1125899906842624) (w : World) :
    Calls Tryz.prog 79 #[.int .i64 a, .int .i64 b] w fun e w' => e = .returned (.tuple #[.int .i64 (a / b), .bool true]) ∧ Below w.heap.size w w' := by
  have q0 : -1125899906842624 ≤ a / b := Int.le_ediv_of_mul_le (by omega) (by have := Int.mul_le_mul_of_nonneg_left (show 1 ≤ b from b1) (show (0 : Int) ≤ 1125899906842624 by decide); rw [Int.neg_mul]; omega)
  have q1 : a / b ≤ 1125899906842624 := by
    have := Int.ediv_lt_of_lt_mul (a := a) (b := 1125899906842625) (c := b) (by omega) (by have := Int.mul_le_mul_of_nonneg_left (show 1 ≤ b from b1) (show (0 : Int) ≤ 1125899906842625 by decide); omega)
    omega
  have h := mulDiv_yes a 1 b a1 a2 (by decide) (by decide) b1 b2 (by rw [Int.mul_one]; exact q0) (by rw [Int.mul_one]; exact q1)
  rw [Int.mul_one] at h
  have H := Lib.hid h
  clear h
  go_enter Tryz.func79, Tryz.ntmps79
  go_wp2_with fail
  refine (H.out _).mono ?_
  rintro e w1 ⟨rfl, hb1⟩
  go_wp2
  go_ret2
  exact ⟨rfl, hb1⟩

/-- num.CeilDiv -/
theorem ceilDiv_any (a b : Int) (a1 : -1125899906842624 ≤ a) (a2 : a ≤ 1125899906842624) (b1 : 1 ≤ b) (b2 : b ≤ 1125899906842624) (w : World) :
    Calls Tryz.prog 95 #[.int .i64 a, .int .i64 b] w fun e w' => e = .returned (.tuple #[.int .i64 (-(-a / b)), .bool true]) ∧ Below w.heap.size w w' := by
  have q0 : -1125899906842624 ≤ -a / b := Int.le_ediv_of_mul_le (by omega) (by have := Int.mul_le_mul_of_nonneg_left (show 1 ≤ b from b1) (show (0 : Int) ≤ 1125899906842624 by decide); rw [Int.neg_mul]; omega)
  have q1 : -a / b ≤ 1125899906842624 := by
    have := Int.ediv_lt_of_lt_mul (a := -a) (b := 1125899906842625) (c := b) (by omega) (by have := Int.mul_le_mul_of_nonneg_left (show 1 ≤ b from b1) (show (0 : Int) ≤ 1125899906842625 by decide); omega)
    omega
  have e1 : a * -1 = -a := by omega
  have h := mulDiv_yes a (-1) b a1 a2 (by decide) (by decide) b1 b2 (by rw [e1]; exact q0) (by rw [e1]; exact q1)
  rw [e1] at h
  have H := Lib.hid h
  clear h e1
  go_enter Tryz.func95, Tryz.ntmps95
  go_wp2_with fail
  refine (H.out _).mono ?_
  rintro e w1 ⟨rfl, hb1⟩
  go_wp2
  go_ret2
  exact ⟨rfl, hb1⟩

theorem dl_bd {a b c d : Int} (h : OkX a b c d) : -8796093022208 ≤ dlV a b c d ∧ dlV a b c d ≤ 8796093022208 := by
  obtain ⟨h1, h2, h3, h4, h5, h6⟩ := h
  unfold dlV
  omega

/-- delay.Delay -/
theorem delay_any (a b c d : Int) (w : World) :
    Calls Tryz.prog 45 #[.agg #[.int .i64 a, .int .i64 b, .int .i64 c, .int .i64 d]] w fun e w' => e = .returned (.tuple #[.int .i64 (delV a b c d), .int .i64 (xV a b c d)]) ∧ Below w.heap.size w w' := by
  by_cases h : OkX a b c d
  · have e1 : delV a b c d = dlV a b c d := if_pos h
    have e2 : xV a b c d = 0 := if_pos h
    have hc := xCheck_any a b c d
    rw [e2] at hc
    have HC := Lib.hid hc
    rw [e1, e2]
    unfold dlV
    obtain ⟨⟨h1, h2⟩, ⟨h3, h4⟩, ⟨h5, h6⟩, ⟨h7, h8⟩, h9, h10⟩ := h
    clear e1 e2 hc
    go_enter Tryz.func45, Tryz.ntmps45
    go_wp2_with fail
    refine (HC.out _).mono ?_
    rintro e w1 ⟨rfl, hb1⟩
    have x0 : w1.cell? ⟨w.heap.size, 0, none⟩ = some (.int .i64 a) := below_keep hb1 (by simp [go_sem])
    have x1 : w1.cell? ⟨w.heap.size, 1, none⟩ = some (.int .i64 b) := below_keep hb1 (by simp [go_sem])
    have x2 : w1.cell? ⟨w.heap.size, 2, none⟩ = some (.int .i64 c) := below_keep hb1 (by simp [go_sem])
    have x3 : w1.cell? ⟨w.heap.size, 3, none⟩ = some (.int .i64 d) := below_keep hb1 (by simp [go_sem])
    have H1 := Lib.hid (below_step (below_alloc (Below.refl _ _) _) hb1)
    clear hb1
    go_wp2_with fail
    refine (floorDiv_any _ 2 (by omega) (by omega) (by omega) (by omega) _).mono ?_
    rintro e w2 ⟨rfl, hb2⟩
    have H2 := Lib.hid (below_step H1.out hb2)
    clear hb2
    go_wp2
    go_ret2
    exact ⟨rfl, H2.out⟩
  · have e1 : delV a b c d = 0 := if_neg h
    have e2 : xV a b c d = 220 := if_neg h
    have hc := xCheck_any a b c d
    rw [e2] at hc
    have HC := Lib.hid hc
    rw [e1, e2]
    clear e1 e2 hc h
    go_enter Tryz.func45, Tryz.ntmps45
    go_wp2_with fail
    refine (HC.out _).mono ?_
    rintro e w1 ⟨rfl, hb1⟩
    have H1 := Lib.hid (below_step (below_alloc (Below.refl _ _) _) hb1)
    clear hb1
    go_wp2
    go_ret2
    exact ⟨rfl, H1.out⟩

end Go.Proofs.YtkencmijghigiaaGreat
