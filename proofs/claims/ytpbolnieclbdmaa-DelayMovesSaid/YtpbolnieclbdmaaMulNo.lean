/-
  num.MulDiv where the quotient is out of range.
-/
import Derived.Test.YtpbolnieclbdmaaMul
namespace Go.Proofs.Ytpbolnieclbdmaa
open Go.RowKit Go.Lib

set_option maxHeartbeats 1600000 in
/-- The product's high word is too great. -/
theorem mulDiv_no1 (a b c H L : Int) (a1 : -1125899906842624 ≤ a) (a2 : a ≤ 1125899906842624) (b1 : -1125899906842624 ≤ b) (b2 : b ≤ 1125899906842624) (c1 : 1 ≤ c) (c2 : c ≤ 1125899906842624) (w : World)
    (hH : Hid ((a.natAbs : Int) * (b.natAbs : Int) / 18446744073709551616 = H)) (hL : Hid ((a.natAbs : Int) * (b.natAbs : Int) % 18446744073709551616 = L))
    (H1 : c ≤ H) :
    Calls Try.prog 35 #[.int .i64 a, .int .i64 b, .int .i64 c] w fun e w' => e = .returned (.tuple #[.int .i64 0, .bool false]) ∧ Below w.heap.size w w' := by
  have HR : Hid (∀ k, k < 3 → -1125899906842624 ≤ ([a, b, c].getD k 0) ∧ ([a, b, c].getD k 0) ≤ 1125899906842624) := by
    intro k hk
    match k, hk with
    | 0, _ => exact ⟨a1, a2⟩
    | 1, _ => exact ⟨b1, b2⟩
    | 2, _ => exact ⟨by show _ ≤ c; omega, c2⟩
  have HC : ∀ (W : World) (t : TypeId), Hid (∀ k, k < 3 → (W.alloc (.cells #[.int .i64 a, .int .i64 b, .int .i64 c] t)).cell? ⟨W.heap.size, k, none⟩ = some (.int .i64 ([a, b, c].getD k 0))) := by
    intro W t k hk
    match k, hk with
    | 0, _ => simp [go_sem]
    | 1, _ => simp [go_sem]
    | 2, _ => simp [go_sem]
  go_enter Try.func35, Try.ntmps35
  go_wp2_with fail
  refine (inRange_yes w.heap.size 3 _ (fun k => [a, b, c].getD k 0) (by omega) (HC _ _).out HR.out).mono ?_
  rintro e w' ⟨rfl, rfl⟩
  go_wp2_with fail
  refine (magnitude_any a a1 a2 _).mono ?_
  rintro e w' ⟨rfl, rfl⟩
  go_wp2_with fail
  refine (magnitude_any b b1 b2 _).mono ?_
  rintro e w' ⟨rfl, rfl⟩
  go_wp2_with fail
  refine (mul64_named a b H L (by omega) (by omega) hH hL _).mono ?_
  rintro e w' ⟨rfl, rfl⟩
  go_wp2
  go_ret2
  exact ⟨rfl, below_alloc (Below.refl _ _) _⟩

set_option maxHeartbeats 1600000 in
/-- The quotient of the magnitudes is out of range. -/
theorem mulDiv_no2 (a b c H L q r : Int) (a1 : -1125899906842624 ≤ a) (a2 : a ≤ 1125899906842624) (b1 : -1125899906842624 ≤ b) (b2 : b ≤ 1125899906842624) (c1 : 1 ≤ c) (c2 : c ≤ 1125899906842624) (w : World)
    (hH : Hid ((a.natAbs : Int) * (b.natAbs : Int) / 18446744073709551616 = H)) (hL : Hid ((a.natAbs : Int) * (b.natAbs : Int) % 18446744073709551616 = L)) (hq : Hid ((H * 18446744073709551616 + L) / c = q)) (hr : Hid ((H * 18446744073709551616 + L) % c = r))
    (H0 : 0 ≤ H) (H1 : H < c) (LL : Hid (0 ≤ L ∧ L < 18446744073709551616)) (q1 : 1125899906842624 < q) :
    Calls Try.prog 35 #[.int .i64 a, .int .i64 b, .int .i64 c] w fun e w' => e = .returned (.tuple #[.int .i64 0, .bool false]) ∧ Below w.heap.size w w' := by
  have HR : Hid (∀ k, k < 3 → -1125899906842624 ≤ ([a, b, c].getD k 0) ∧ ([a, b, c].getD k 0) ≤ 1125899906842624) := by
    intro k hk
    match k, hk with
    | 0, _ => exact ⟨a1, a2⟩
    | 1, _ => exact ⟨b1, b2⟩
    | 2, _ => exact ⟨by show _ ≤ c; omega, c2⟩
  have HC : ∀ (W : World) (t : TypeId), Hid (∀ k, k < 3 → (W.alloc (.cells #[.int .i64 a, .int .i64 b, .int .i64 c] t)).cell? ⟨W.heap.size, k, none⟩ = some (.int .i64 ([a, b, c].getD k 0))) := by
    intro W t k hk
    match k, hk with
    | 0, _ => simp [go_sem]
    | 1, _ => simp [go_sem]
    | 2, _ => simp [go_sem]
  go_enter Try.func35, Try.ntmps35
  go_wp2_with fail
  refine (inRange_yes w.heap.size 3 _ (fun k => [a, b, c].getD k 0) (by omega) (HC _ _).out HR.out).mono ?_
  rintro e w' ⟨rfl, rfl⟩
  go_wp2_with fail
  refine (magnitude_any a a1 a2 _).mono ?_
  rintro e w' ⟨rfl, rfl⟩
  go_wp2_with fail
  refine (magnitude_any b b1 b2 _).mono ?_
  rintro e w' ⟨rfl, rfl⟩
  go_wp2_with fail
  refine (mul64_named a b H L (by omega) (by omega) hH hL _).mono ?_
  rintro e w' ⟨rfl, rfl⟩
  go_wp2_with fail
  refine (div64_named H L c q r H0 H1 LL c1 c2 hq hr _).mono ?_
  rintro e w1 ⟨rfl, hb1⟩
  have HF := Lib.hid (below_step (below_alloc (Below.refl _ _) _) hb1)
  clear hb1
  go_wp2
  go_ret2
  exact ⟨rfl, HF.out⟩

set_option maxHeartbeats 1600000 in
/-- The quotient is out of range by one, when it is rounded down. -/
theorem mulDiv_no3 (a b c H L r : Int) (a1 : -1125899906842624 ≤ a) (a2 : a ≤ 1125899906842624) (b1 : -1125899906842624 ≤ b) (b2 : b ≤ 1125899906842624) (c1 : 1 ≤ c) (c2 : c ≤ 1125899906842624) (w : World)
    (hH : Hid ((a.natAbs : Int) * (b.natAbs : Int) / 18446744073709551616 = H)) (hL : Hid ((a.natAbs : Int) * (b.natAbs : Int) % 18446744073709551616 = L)) (hq : Hid ((H * 18446744073709551616 + L) / c = 1125899906842624)) (hr : Hid ((H * 18446744073709551616 + L) % c = r))
    (H0 : 0 ≤ H) (H1 : H < c) (LL : Hid (0 ≤ L ∧ L < 18446744073709551616)) (hs : ¬ (a < 0 ↔ b < 0)) (hrz : r ≠ 0) :
    Calls Try.prog 35 #[.int .i64 a, .int .i64 b, .int .i64 c] w fun e w' => e = .returned (.tuple #[.int .i64 0, .bool false]) ∧ Below w.heap.size w w' := by
  have HR : Hid (∀ k, k < 3 → -1125899906842624 ≤ ([a, b, c].getD k 0) ∧ ([a, b, c].getD k 0) ≤ 1125899906842624) := by
    intro k hk
    match k, hk with
    | 0, _ => exact ⟨a1, a2⟩
    | 1, _ => exact ⟨b1, b2⟩
    | 2, _ => exact ⟨by show _ ≤ c; omega, c2⟩
  have HC : ∀ (W : World) (t : TypeId), Hid (∀ k, k < 3 → (W.alloc (.cells #[.int .i64 a, .int .i64 b, .int .i64 c] t)).cell? ⟨W.heap.size, k, none⟩ = some (.int .i64 ([a, b, c].getD k 0))) := by
    intro W t k hk
    match k, hk with
    | 0, _ => simp [go_sem]
    | 1, _ => simp [go_sem]
    | 2, _ => simp [go_sem]
  have hcase : (a < 0 ∧ 0 ≤ b ∧ decide (a < 0) = true ∧ decide (b < 0) = false ∧ (r == 0) = false ∧ (r != 0) = true) ∨ (0 ≤ a ∧ b < 0 ∧ decide (a < 0) = false ∧ decide (b < 0) = true ∧ (r == 0) = false ∧ (r != 0) = true) := by
    by_cases ha : a < 0
    · by_cases hb : b < 0
      · exact absurd ⟨fun _ => hb, fun _ => ha⟩ hs
      · exact .inl ⟨ha, by omega, by simpa using ha, by simpa using hb, by simpa using hrz, by simpa using hrz⟩
    · by_cases hb : b < 0
      · exact .inr ⟨by omega, hb, by simpa using ha, by simpa using hb, by simpa using hrz, by simpa using hrz⟩
      · exact absurd ⟨fun x => absurd x ha, fun x => absurd x hb⟩ hs
  clear hs hrz
  rcases hcase with ⟨m1, m2, d1, d2, m3, m4⟩ | ⟨m1, m2, d1, d2, m3, m4⟩
  all_goals
    go_enter Try.func35, Try.ntmps35
    go_wp2_with fail
    refine (inRange_yes w.heap.size 3 _ (fun k => [a, b, c].getD k 0) (by omega) (HC _ _).out HR.out).mono ?_
    rintro e w' ⟨rfl, rfl⟩
    go_wp2_with fail
    refine (magnitude_any a a1 a2 _).mono ?_
    rintro e w' ⟨rfl, rfl⟩
    go_wp2_with fail
    refine (magnitude_any b b1 b2 _).mono ?_
    rintro e w' ⟨rfl, rfl⟩
    go_wp2_with fail
    refine (mul64_named a b H L (by omega) (by omega) hH hL _).mono ?_
    rintro e w' ⟨rfl, rfl⟩
    go_wp2_with fail
    refine (div64_named H L c 1125899906842624 r H0 H1 LL c1 c2 hq hr _).mono ?_
    rintro e w1 ⟨rfl, hb1⟩
    have HF := Lib.hid (below_step (below_alloc (Below.refl _ _) _) hb1)
    clear hb1
    go_wp2_with fail
    refine (checked_no _ (by omega) _).mono ?_
    rintro e w2 ⟨rfl, hb2⟩
    have HG := Lib.hid (below_step HF.out hb2)
    clear hb2
    go_wp2
    go_ret2
    exact ⟨rfl, HG.out⟩

open Plain in
/-- num.MulDiv, where the quotient is out of range. -/
theorem mulDiv_no (a b c : Int) (a1 : -1125899906842624 ≤ a) (a2 : a ≤ 1125899906842624) (b1 : -1125899906842624 ≤ b) (b2 : b ≤ 1125899906842624) (c1 : 1 ≤ c) (c2 : c ≤ 1125899906842624)
    (n1 : a * b / c < -1125899906842624 ∨ 1125899906842624 < a * b / c) (w : World) :
    Calls Try.prog 35 #[.int .i64 a, .int .i64 b, .int .i64 c] w fun e w' => e = .returned (.tuple #[.int .i64 0, .bool false]) ∧ Below w.heap.size w w' := by
  obtain ⟨p0, p1⟩ := abs_mul_bd (a := a) (b := b) (by omega) (by omega)
  have hs := abs_mul_pos (a := a) (b := b)
  have hd := abs_mul_neg (a := a) (b := b)
  obtain ⟨p, hp⟩ : ∃ p : Int, p = (a.natAbs : Int) * (b.natAbs : Int) := ⟨_, rfl⟩
  rw [← hp] at p0 p1 hs hd
  have hc0 : 0 < c := by omega
  have q0 : 0 ≤ p / c := Int.ediv_nonneg p0 (by omega)
  have e1 : p / 18446744073709551616 * 18446744073709551616 + p % 18446744073709551616 = p := by omega
  by_cases hh : c ≤ p / 18446744073709551616
  · exact mulDiv_no1 a b c (p / 18446744073709551616) (p % 18446744073709551616) a1 a2 b1 b2 c1 c2 w (Lib.hid (by rw [hp])) (Lib.hid (by rw [hp])) hh
  · by_cases hq : 1125899906842624 < p / c
    · exact mulDiv_no2 a b c (p / 18446744073709551616) (p % 18446744073709551616) (p / c) (p % c) a1 a2 b1 b2 c1 c2 w
        (Lib.hid (by rw [hp])) (Lib.hid (by rw [hp])) (Lib.hid (by rw [e1])) (Lib.hid (by rw [e1])) (by omega) (by omega) (Lib.hid (by omega)) hq
    · by_cases h : a < 0 ↔ b < 0
      · rw [← hs h] at n1; omega
      · rw [hd h] at n1
        by_cases hr : p % c = 0
        · rw [neg_div_exact hc0 hr] at n1; omega
        · rw [neg_div_more hc0 hr] at n1
          have hqe : p / c = 1125899906842624 := by omega
          exact mulDiv_no3 a b c (p / 18446744073709551616) (p % 18446744073709551616) (p % c) a1 a2 b1 b2 c1 c2 w
            (Lib.hid (by rw [hp])) (Lib.hid (by rw [hp])) (Lib.hid (by rw [e1, hqe])) (Lib.hid (by rw [e1])) (by omega) (by omega) (Lib.hid (by omega)) h hr

end Go.Proofs.Ytpbolnieclbdmaa
