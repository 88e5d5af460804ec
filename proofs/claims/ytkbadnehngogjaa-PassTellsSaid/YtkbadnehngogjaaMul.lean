/-
  num.MulDiv: the quotient of a product, rounded down.
-/
import Derived.Test.YtkbadnehngogjaaDiv
namespace Go.Proofs.Ytkbadnehngogjaa
open Go.RowKit Go.Lib

/-- bits.Mul64 of two magnitudes, its words under names. -/
theorem mul64_named (a b H L : Int) (ha : a.natAbs ≤ 1125899906842624) (hb : b.natAbs ≤ 1125899906842624) (hH : Hid ((a.natAbs : Int) * (b.natAbs : Int) / 18446744073709551616 = H)) (hL : Hid ((a.natAbs : Int) * (b.natAbs : Int) % 18446744073709551616 = L)) (w : World) :
    Calls Try.prog 66 #[.int .u64 a.natAbs, .int .u64 b.natAbs] w fun e w' => e = .returned (.tuple #[.int .u64 H, .int .u64 L]) ∧ w = w' := by
  have h := mul64_any a.natAbs b.natAbs (by omega) (by omega) (by omega) (by omega) w
  rw [hH.out, hL.out] at h
  exact h
/-- bits.Div64, its results under names. -/
theorem div64_named (H L c q r : Int) (H0 : 0 ≤ H) (H1 : H < c) (LL : Hid (0 ≤ L ∧ L < 18446744073709551616)) (c1 : 1 ≤ c) (c2 : c ≤ 1125899906842624) (hq : Hid ((H * 18446744073709551616 + L) / c = q)) (hr : Hid ((H * 18446744073709551616 + L) % c = r)) (w : World) :
    Calls Try.prog 68 #[.int .u64 H, .int .u64 L, .int .u64 c] w fun e w' => e = .returned (.tuple #[.int .u64 q, .int .u64 r]) ∧ Below w.heap.size w w' := by
  have h := div64_any H L c H0 H1 LL.out.1 LL.out.2 c1 c2 w
  rw [hq.out, hr.out] at h
  exact h

set_option maxHeartbeats 1600000 in
/-- num.MulDiv at a quotient of at most 2^50: n is what comes of it by the signs. -/
theorem mulDiv_core (a b c H L q r n : Int) (a1 : -1125899906842624 ≤ a) (a2 : a ≤ 1125899906842624) (b1 : -1125899906842624 ≤ b) (b2 : b ≤ 1125899906842624) (c1 : 1 ≤ c) (c2 : c ≤ 1125899906842624) (w : World)
    (hH : Hid ((a.natAbs : Int) * (b.natAbs : Int) / 18446744073709551616 = H)) (hL : Hid ((a.natAbs : Int) * (b.natAbs : Int) % 18446744073709551616 = L)) (hq : Hid ((H * 18446744073709551616 + L) / c = q)) (hr : Hid ((H * 18446744073709551616 + L) % c = r))
    (H0 : 0 ≤ H) (H1 : H < c) (LL : Hid (0 ≤ L ∧ L < 18446744073709551616)) (q0 : 0 ≤ q) (q1 : q ≤ 1125899906842624)
    (hn : ((a < 0 ↔ b < 0) ∧ n = q) ∨ (¬ (a < 0 ↔ b < 0) ∧ r = 0 ∧ n = -q) ∨ (¬ (a < 0 ↔ b < 0) ∧ r ≠ 0 ∧ n = -q - 1)) (n1 : -1125899906842624 ≤ n) :
    Calls Try.prog 51 #[.int .i64 a, .int .i64 b, .int .i64 c] w fun e w' => e = .returned (.tuple #[.int .i64 n, .bool true]) ∧ Below w.heap.size w w' := by
  have HR : Hid (∀ k, k < 3 → -1125899906842624 ≤ ([a, b, c].getD k 0) ∧ ([a, b, c].getD k 0) ≤ 1125899906842624) := by
    intro k hk
    match k, hk with
    | 0, _ => exact ⟨a1, a2⟩
    | 1, _ => exact ⟨b1, b2⟩
    | 2, _ => exact ⟨by show _ ≤ c; omega, c2⟩
  have HC : ∀ (W : World) (t : TypeId), Hid (∀ k, k < 3 → (W.alloc (.cells #[.int .i64 a, .int .i64 b, .int .i64 c] t)).cell? ⟨W.heap.size, k, none⟩ = some (.int .i64 ([a, b, c].getD k 0))) := by
    intro W t k hk
    match k, hk with
    | 0, _ => simp [go_sem]
    | 1, _ => simp [go_sem]
    | 2, _ => simp [go_sem]
  have fin : ∀ w1 w2 : World, Below (w.alloc (.cells #[.int .i64 a, .int .i64 b, .int .i64 c] 3)).heap.size (w.alloc (.cells #[.int .i64 a, .int .i64 b, .int .i64 c] 3)) w1 → Below w1.heap.size w1 w2 → Hid (Below w.heap.size w w2) := fun w1 w2 h1 h2 =>
    below_step (below_step (below_alloc (Below.refl _ _) _) h1) h2
  have hcase : (a < 0 ∧ b < 0 ∧ decide (a < 0) = true ∧ decide (b < 0) = true ∧ q = n) ∨ (0 ≤ a ∧ 0 ≤ b ∧ decide (a < 0) = false ∧ decide (b < 0) = false ∧ q = n) ∨
      (a < 0 ∧ 0 ≤ b ∧ decide (a < 0) = true ∧ decide (b < 0) = false ∧ (r == 0) = true ∧ (r != 0) = false ∧ n = -q) ∨ (0 ≤ a ∧ b < 0 ∧ decide (a < 0) = false ∧ decide (b < 0) = true ∧ (r == 0) = true ∧ (r != 0) = false ∧ n = -q) ∨
      (a < 0 ∧ 0 ≤ b ∧ decide (a < 0) = true ∧ decide (b < 0) = false ∧ (r == 0) = false ∧ (r != 0) = true ∧ n = -q - 1) ∨ (0 ≤ a ∧ b < 0 ∧ decide (a < 0) = false ∧ decide (b < 0) = true ∧ (r == 0) = false ∧ (r != 0) = true ∧ n = -q - 1) := by
    by_cases ha : a < 0
    · by_cases hb : b < 0
      · exact .inl ⟨ha, hb, by simpa using ha, by simpa using hb, by omega⟩
      · rcases hn with ⟨h, _⟩ | ⟨_, h, e⟩ | ⟨_, h, e⟩
        · exact absurd (h.1 ha) hb
        · exact .inr (.inr (.inl ⟨ha, by omega, by simpa using ha, by simpa using hb, by simpa using h, by simpa using h, e⟩))
        · exact .inr (.inr (.inr (.inr (.inl ⟨ha, by omega, by simpa using ha, by simpa using hb, by simpa using h, by simpa using h, e⟩))))
    · by_cases hb : b < 0
      · rcases hn with ⟨h, _⟩ | ⟨_, h, e⟩ | ⟨_, h, e⟩
        · exact absurd (h.2 hb) ha
        · exact .inr (.inr (.inr (.inl ⟨by omega, hb, by simpa using ha, by simpa using hb, by simpa using h, by simpa using h, e⟩)))
        · exact .inr (.inr (.inr (.inr (.inr ⟨by omega, hb, by simpa using ha, by simpa using hb, by simpa using h, by simpa using h, e⟩))))
      · exact .inr (.inl ⟨by omega, by omega, by simpa using ha, by simpa using hb, by omega⟩)
  clear hn
  rcases hcase with ⟨m1, m2, d1, d2, rfl⟩ | ⟨m1, m2, d1, d2, rfl⟩ | ⟨m1, m2, d1, d2, m3, m4, rfl⟩ | ⟨m1, m2, d1, d2, m3, m4, rfl⟩ | ⟨m1, m2, d1, d2, m3, m4, rfl⟩ | ⟨m1, m2, d1, d2, m3, m4, rfl⟩
  all_goals
    go_enter Try.func51, Try.ntmps51
    go_wp2_with fail
    refine (inRange_yes w.heap.size 3 _ (fun k => [a, b, c].getD k 0) (by omega) (HC _ _).out HR.out).mono ?_
    rintro e w' ⟨rfl, rfl⟩
    go_wp2_with fail
    refine (magnitude_any a a1 a2 _).mono ?_
    rintro e w' ⟨rfl, rfl⟩
    go_wp2_with fail
    refine (magnitude_any b b1 b2 _).mono ?_
    rintro e w' ⟨rfl, rfl⟩
    go_wp2_with fail
    refine (mul64_named a b H L (by omega) (by omega) hH hL _).mono ?_
    rintro e w' ⟨rfl, rfl⟩
    go_wp2_with fail
    refine (div64_named H L c q r H0 H1 LL c1 c2 hq hr _).mono ?_
    rintro e w1 ⟨rfl, hb1⟩
    go_wp2_with fail
    refine (checked_yes _ (by omega) (by omega) _).mono ?_
    rintro e w2 ⟨rfl, hb2⟩
    have HF := fin w1 w2 hb1 hb2
    go_wp2
    go_ret2
    exact ⟨rfl, HF.out⟩

open Plain in
/-- num.MulDiv, where the quotient is in range. -/
theorem mulDiv_yes (a b c : Int) (a1 : -1125899906842624 ≤ a) (a2 : a ≤ 1125899906842624) (b1 : -1125899906842624 ≤ b) (b2 : b ≤ 1125899906842624) (c1 : 1 ≤ c) (c2 : c ≤ 1125899906842624)
    (n1 : -1125899906842624 ≤ a * b / c) (n2 : a * b / c ≤ 1125899906842624) (w : World) :
    Calls Try.prog 51 #[.int .i64 a, .int .i64 b, .int .i64 c] w fun e w' => e = .returned (.tuple #[.int .i64 (a * b / c), .bool true]) ∧ Below w.heap.size w w' := by
  obtain ⟨p0, p1⟩ := abs_mul_bd (a := a) (b := b) (by omega) (by omega)
  have hs := abs_mul_pos (a := a) (b := b)
  have hd := abs_mul_neg (a := a) (b := b)
  obtain ⟨p, hp⟩ : ∃ p : Int, p = (a.natAbs : Int) * (b.natAbs : Int) := ⟨_, rfl⟩
  rw [← hp] at p0 p1 hs hd
  have hc0 : 0 < c := by omega
  have q0 : 0 ≤ p / c := Int.ediv_nonneg p0 (by omega)
  have m0 := Int.emod_nonneg p (show c ≠ 0 by omega)
  have e1 : p / 18446744073709551616 * 18446744073709551616 + p % 18446744073709551616 = p := by omega
  have hcases : p / c ≤ 1125899906842624 ∧ (((a < 0 ↔ b < 0) ∧ a * b / c = p / c) ∨ (¬ (a < 0 ↔ b < 0) ∧ p % c = 0 ∧ a * b / c = -(p / c)) ∨ (¬ (a < 0 ↔ b < 0) ∧ p % c ≠ 0 ∧ a * b / c = -(p / c) - 1)) := by
    by_cases h : a < 0 ↔ b < 0
    · rw [← hs h] at n1 n2 ⊢
      exact ⟨n2, .inl ⟨h, rfl⟩⟩
    · rw [hd h] at n1 n2 ⊢
      by_cases hr : p % c = 0
      · rw [neg_div_exact hc0 hr] at n1 n2 ⊢
        exact ⟨by omega, .inr (.inl ⟨h, hr, rfl⟩)⟩
      · rw [neg_div_more hc0 hr] at n1 n2 ⊢
        exact ⟨by omega, .inr (.inr ⟨h, hr, rfl⟩)⟩
  obtain ⟨q1, hn⟩ := hcases
  exact mulDiv_core a b c (p / 18446744073709551616) (p % 18446744073709551616) (p / c) (p % c) _ a1 a2 b1 b2 c1 c2 w
    (Lib.hid (by rw [hp])) (Lib.hid (by rw [hp])) (Lib.hid (by rw [e1])) (Lib.hid (by rw [e1])) (by omega) (high_lt hc0 q1) (Lib.hid (by omega)) q0 q1 hn n1

end Go.Proofs.Ytkbadnehngogjaa
