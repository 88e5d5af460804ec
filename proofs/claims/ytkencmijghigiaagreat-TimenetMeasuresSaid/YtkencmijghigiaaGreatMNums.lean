/-
  Texts of this claim laid together: Div, Mul, MulNo, Part.
-/
import Derived.Laws.BitsAllLaws
import Derived.Test.YtkencmijghigiaaGreatMBits
import Derived.Test.YtkencmijghigiaaGreatMNum
import Derived.Test.YtkencmijghigiaaGreatMBase
namespace Go.Proofs.YtkencmijghigiaaGreat
open Go.RowKit Go.Lib

/-- How many bits a number has. -/
theorem bitLenAux_bd : ∀ f x : Nat, x ≠ 0 → x < 2 ^ f → ∃ m, Lib.bitLenAux f x = m + 1 ∧ 2 ^ m ≤ x ∧ x < 2 ^ (m + 1)
  | 0, x, h0, h => by simp at h; omega
  | f + 1, x, h0, h => by
    by_cases hx : x / 2 = 0
    · refine ⟨0, ?_, by omega, by omega⟩
      rw [Lib.bitLenAux, if_neg h0, hx]
      cases f <;> simp [Lib.bitLenAux]
    · obtain ⟨m, e, l, u⟩ := bitLenAux_bd f (x / 2) hx (by rw [Nat.pow_succ] at h; omega)
      refine ⟨m + 1, ?_, ?_, ?_⟩
      · rw [Lib.bitLenAux, if_neg h0, e]; omega
      · rw [Nat.pow_succ]; omega
      · rw [Nat.pow_succ]; omega

theorem or_u64 (x y k : Nat) (hx : x * 2 ^ k < 18446744073709551616) (hy : y < 2 ^ k) (hk : k ≤ 63) : bits .or .u64 (((x * 2 ^ k : Nat)) : Int) (y : Int) = ((x * 2 ^ k + y : Nat) : Int) := by
  have h2 : (2 : Nat) ^ k ≤ 2 ^ 63 := Nat.pow_le_pow_right (by omega) hk
  rw [bits_or_u64_nat _ _ hx (by omega), nat_join k _ _ (by simp) hy]

theorem mask_int (x : Int) (h0 : 0 ≤ x) (h1 : x < 18446744073709551616) : bits .and .u64 x 4294967295 = x % 4294967296 := by
  obtain ⟨n, rfl⟩ := Int.eq_ofNat_of_zero_le h0
  rw [Mul.maskN n (by omega)]
  omega
theorem or_int (x y K : Int) (k : Nat) (hK : K = 2 ^ k) (hx0 : 0 ≤ x) (hx : x * K < 18446744073709551616) (hy0 : 0 ≤ y) (hy : y < K) (hk : k ≤ 63) : bits .or .u64 (x * K) y = x * K + y := by
  obtain ⟨n, rfl⟩ := Int.eq_ofNat_of_zero_le hx0
  obtain ⟨j, rfl⟩ := Int.eq_ofNat_of_zero_le hy0
  have c : ((2 ^ k : Nat) : Int) = (2 : Int) ^ k := by simp
  have e : ((n : Int) * K) = ((n * 2 ^ k : Nat) : Int) := by rw [hK]; simp
  rw [e] at hx
  rw [e, or_u64 n j k (by omega) (by omega) hk]
  omega
theorem wrap_id (x : Int) (h0 : 0 ≤ x) (h1 : x < 18446744073709551616) : IntKind.u64.wrap x = x := by
  rw [IntKind.wrap_u64]; omega

open Plain in
theorem div64_any (hi lo y : Int) (hh0 : 0 ≤ hi) (hh : hi < y) (hl0 : 0 ≤ lo) (hl : lo < 18446744073709551616) (hy0 : 1 ≤ y) (hy : y ≤ 1125899906842624) (w : World) :
    Calls Tryz.prog 99 #[.int .u64 hi, .int .u64 lo, .int .u64 y] w fun e w' => e = .returned (.tuple #[.int .u64 ((hi * 18446744073709551616 + lo) / y), .int .u64 ((hi * 18446744073709551616 + lo) % y)]) ∧ Below w.heap.size w w' := by
  by_cases h0 : hi = 0
  · subst h0
    simpa using div64_low lo y hl0 hl hy0 (by omega) w
  obtain ⟨m, hm, ml, mu⟩ := bitLenAux_bd 64 y.toNat (by omega) (by omega)
  have hL : Lib.bitLen y.toNat = m + 1 := hm
  have hm50 : m + 1 ≤ 51 := by
    have := Lib.bitLen_le y.toNat 51 (by omega) (by omega)
    omega
  have hKM : (2 : Int) ^ (64 - (m + 1)) * 2 ^ (m + 1) = 18446744073709551616 := by
    rw [← Int.pow_add, show 64 - (m + 1) + (m + 1) = 64 by omega]; rfl
  have hK : (0 : Int) < 2 ^ (64 - (m + 1)) := Int.pow_pos (by omega)
  have hM : (0 : Int) < 2 ^ (m + 1) := Int.pow_pos (by omega)
  have c1 : ((2 ^ m : Nat) : Int) = (2 : Int) ^ m := by simp
  have c2 : ((2 ^ (m + 1) : Nat) : Int) = (2 : Int) ^ (m + 1) := by simp
  have c3 : (2 : Int) ^ (m + 1) = 2 ^ m * 2 := Int.pow_succ ..
  have e64 : 64 - (64 - (m + 1)) = m + 1 := by omega
  obtain ⟨n1, n2, n3, n4, n5, n6, n7, n8, n9⟩ := norm (hi := hi) (lo := lo) (y := y) hKM hK hM (by omega) (by omega) hh0 hh hl0 hl
  obtain ⟨K, hKe⟩ : ∃ K : Int, K = 2 ^ (64 - (m + 1)) := ⟨_, rfl⟩
  obtain ⟨M, hMe⟩ : ∃ M : Int, M = 2 ^ (m + 1) := ⟨_, rfl⟩
  rw [← hKe, ← hMe] at hKM n8 n9
  rw [← hKe] at hK n1 n2 n3 n4 n6 n7
  rw [← hMe] at hM n5 n6 n7
  obtain ⟨Y, hYe⟩ : ∃ Y : Int, Y = y * K := ⟨_, rfl⟩
  obtain ⟨U, hUe⟩ : ∃ U : Int, U = hi * K + lo / M := ⟨_, rfl⟩
  obtain ⟨V, hVe⟩ : ∃ V : Int, V = lo % M * K := ⟨_, rfl⟩
  rw [← hYe] at n1 n2 n7
  rw [← hUe] at n7 n9
  rw [← hVe] at n8 n9
  have v0 : 0 ≤ V := by omega
  have v1 : V < 18446744073709551616 := by omega
  have u0 : 0 ≤ U := by omega
  have eY : Y / 4294967296 * 4294967296 + Y % 4294967296 = Y := by omega
  have fit1 : Fit (Y / 4294967296) (Y % 4294967296) U (V / 4294967296) := ⟨by omega, by omega, by omega, by omega, u0, by omega, by omega, by omega⟩
  have rest1 := fit1.rest
  have dig1 := fit1.digit
  rw [eY] at rest1 dig1
  obtain ⟨Q1, hQ1⟩ : ∃ Q1 : Int, Q1 = (U * 4294967296 + V / 4294967296) / Y := ⟨_, rfl⟩
  rw [← hQ1] at rest1 dig1
  obtain ⟨R, hR⟩ : ∃ R : Int, R = U * 4294967296 + V / 4294967296 - Q1 * Y := ⟨_, rfl⟩
  rw [← hR] at rest1
  have fit2 : Fit (Y / 4294967296) (Y % 4294967296) R (V % 4294967296) := ⟨by omega, by omega, by omega, by omega, by omega, by omega, by omega, by omega⟩
  have rest2 := fit2.rest
  have dig2 := fit2.digit
  rw [eY] at rest2 dig2
  obtain ⟨Q0, hQ0⟩ : ∃ Q0 : Int, Q0 = (R * 4294967296 + V % 4294967296) / Y := ⟨_, rfl⟩
  rw [← hQ0] at rest2 dig2
  obtain ⟨S, hS⟩ : ∃ S : Int, S = R * 4294967296 + V % 4294967296 - Q0 * Y := ⟨_, rfl⟩
  rw [← hS] at rest2
  obtain ⟨t1, t2⟩ := two_digits (a := U) (b := V / 4294967296) (c := V % 4294967296) (show 0 < Y by omega) hR hQ0
  have eX : (U * 4294967296 + V / 4294967296) * 4294967296 + V % 4294967296 = (hi * 18446744073709551616 + lo) * K := by omega
  rw [eX, hYe, scaled_div hK] at t1
  rw [eX, ← hS, hYe, scaled_mod hK] at t2
  have t3 : S / K = (hi * 18446744073709551616 + lo) % y := by rw [t2]; exact Int.mul_ediv_cancel _ (by omega)
  rw [← t1, ← t3, hKe]
  have h := div64_core hi lo y (by omega) hh hl0 hl hy0 hy w Y (Y / 4294967296) (Y % 4294967296) U V (V / 4294967296) (V % 4294967296) Q1 R Q0 S
    (by rw [hL, ← hKe, ← hYe]; exact wrap_id _ (by omega) n2) rfl (mask_int Y (by omega) n2)
    (by rw [hL, ← hKe, e64, ← hMe, wrap_id _ n3 n4, hUe]; exact or_int hi _ K _ hKe hh0 n4 n5 n6 (by omega))
    (by rw [hL, ← hKe, IntKind.wrap_u64]; exact n8) rfl (mask_int V v0 v1)
    (by simp only [IntKind.wrap_u64]; omega) (by simp only [IntKind.wrap_u64]; omega) fit1 fit2 (by rw [eY]; exact Lib.hid hQ1) (by rw [eY]; exact Lib.hid hQ0)
  rw [hL] at h
  exact h

end Go.Proofs.YtkencmijghigiaaGreat

namespace Go.Proofs.YtkencmijghigiaaGreat
open Go.RowKit Go.Lib

/-- bits.Mul64 of two magnitudes, its words under names. -/
theorem mul64_named (a b H L : Int) (ha : a.natAbs ≤ 1125899906842624) (hb : b.natAbs ≤ 1125899906842624) (hH : Hid ((a.natAbs : Int) * (b.natAbs : Int) / 18446744073709551616 = H)) (hL : Hid ((a.natAbs : Int) * (b.natAbs : Int) % 18446744073709551616 = L)) (w : World) :
    Calls Tryz.prog 97 #[.int .u64 a.natAbs, .int .u64 b.natAbs] w fun e w' => e = .returned (.tuple #[.int .u64 H, .int .u64 L]) ∧ w = w' := by
  have h := mul64_any a.natAbs b.natAbs (by omega) (by omega) (by omega) (by omega) w
  rw [hH.out, hL.out] at h
  exact h
/-- bits.Div64, its results under names. -/
theorem div64_named (H L c q r : Int) (H0 : 0 ≤ H) (H1 : H < c) (LL : Hid (0 ≤ L ∧ L < 18446744073709551616)) (c1 : 1 ≤ c) (c2 : c ≤ 1125899906842624) (hq : Hid ((H * 18446744073709551616 + L) / c = q)) (hr : Hid ((H * 18446744073709551616 + L) % c = r)) (w : World) :
    Calls Tryz.prog 99 #[.int .u64 H, .int .u64 L, .int .u64 c] w fun e w' => e = .returned (.tuple #[.int .u64 q, .int .u64 r]) ∧ Below w.heap.size w w' := by
  have h := div64_any H L c H0 H1 LL.out.1 LL.out.2 c1 c2 w
  rw [hq.out, hr.out] at h
  exact h

set_option maxHeartbeats 1600000 in
/-- num.MulDiv at a quotient of at most 2^50: n is what comes of it by the signs. -/
theorem mulDiv_core (a b c H L q r n : Int) (a1 : -1125899906842624 ≤ a) (a2 : a ≤ 1125899906842624) (b1 : -1125899906842624 ≤ b) (b2 : b ≤ 1125899906842624) (c1 : 1 ≤ c) (c2 : c ≤ 1125899906842624) (w : World)
    (hH : Hid ((a.natAbs : Int) * (b.natAbs : Int) / 18446744073709551616 = H)) (hL : Hid ((a.natAbs : Int) * (b.natAbs : Int) % 18446744073709551616 = L)) (hq : Hid ((H * 18446744073709551616 + L) / c = q)) (hr : Hid ((H * 18446744073709551616 + L) % c = r))
    (H0 : 0 ≤ H) (H1 : H < c) (LL : Hid (0 ≤ L ∧ L < 18446744073709551616)) (q0 : 0 ≤ q) (q1 : q ≤ 1125899906842624)
    (hn : ((a < 0 ↔ b < 0) ∧ n = q) ∨ (¬ (a < 0 ↔ b < 0) ∧ r = 0 ∧ n = -q) ∨ (¬ (a < 0 ↔ b < 0) ∧ r ≠ 0 ∧ n = -q - 1)) (n1 : -1125899906842624 ≤ n) :
    Calls Tryz.prog 70 #[.int .i64 a, .int .i64 b, .int .i64 c] w fun e w' => e = .returned (.tuple #[.int .i64 n, .bool true]) ∧ Below w.heap.size w w' := by
  have HR : Hid (∀ k, k < 3 → -1125899906842624 ≤ ([a, b, c].getD k 0) ∧ ([a, b, c].getD k 0) ≤ 1125899906842624) := by
    intro k hk
    match k, hk with
    | 0, _ => exact ⟨a1, a2⟩
    | 1, _ => exact ⟨b1, b2⟩
    | 2, _ => exact ⟨by show _ ≤ c; omega, c2⟩
  have HC : ∀ (W : World) (t : TypeId), Hid (∀ k, k < 3 → (W.alloc (.cells #[.int .i64 a, .int .i64 b, .int .i64 c] t)).cell? ⟨W.heap.size, k, none⟩ = some (.int .i64 ([a, b, c].getD k 0))) := by
    intro W t k hk
    match k, hk with
    | 0, _ => simp [go_sem]
    | 1, _ => simp [go_sem]
    | 2, _ => simp [go_sem]
  have fin : ∀ w1 w2 : World, Below (w.alloc (.cells #[.int .i64 a, .int .i64 b, .int .i64 c] 3)).heap.size (w.alloc (.cells #[.int .i64 a, .int .i64 b, .int .i64 c] 3)) w1 → Below w1.heap.size w1 w2 → Hid (Below w.heap.size w w2) := fun w1 w2 h1 h2 =>
    below_step (below_step (below_alloc (Below.refl _ _) _) h1) h2
  have hcase : (a < 0 ∧ b < 0 ∧ decide (a < 0) = true ∧ decide (b < 0) = true ∧ q = n) ∨ (0 ≤ a ∧ 0 ≤ b ∧ decide (a < 0) = false ∧ decide (b < 0) = false ∧ q = n) ∨
      (a < 0 ∧ 0 ≤ b ∧ decide (a < 0) = true ∧ decide (b < 0) = false ∧ (r == 0) = true ∧ (r != 0) = false ∧ n = -q) ∨ (0 ≤ a ∧ b < 0 ∧ decide (a < 0) = false ∧ decide (b < 0) = true ∧ (r == 0) = true ∧ (r != 0) = false ∧ n = -q) ∨
      (a < 0 ∧ 0 ≤ b ∧ decide (a < 0) = true ∧ decide (b < 0) = false ∧ (r == 0) = false ∧ (r != 0) = true ∧ n = -q - 1) ∨ (0 ≤ a ∧ b < 0 ∧ decide (a < 0) = false ∧ decide (b < 0) = true ∧ (r == 0) = false ∧ (r != 0) = true ∧ n = -q - 1) := by
    by_cases ha : a < 0
    · by_cases hb : b < 0
      · exact .inl ⟨ha, hb, by simpa using ha, by simpa using hb, by omega⟩
      · rcases hn with ⟨h, _⟩ | ⟨_, h, e⟩ | ⟨_, h, e⟩
        · exact absurd (h.1 ha) hb
        · exact .inr (.inr (.inl ⟨ha, by omega, by simpa using ha, by simpa using hb, by simpa using h, by simpa using h, e⟩))
        · exact .inr (.inr (.inr (.inr (.inl ⟨ha, by omega, by simpa using ha, by simpa using hb, by simpa using h, by simpa using h, e⟩))))
    · by_cases hb : b < 0
      · rcases hn with ⟨h, _⟩ | ⟨_, h, e⟩ | ⟨_, h, e⟩
        · exact absurd (h.2 hb) ha
        · exact .inr (.inr (.inr (.inl ⟨by omega, hb, by simpa using ha, by simpa using hb, by simpa using h, by simpa using h, e⟩)))
        · exact .inr (.inr (.inr (.inr (.inr ⟨by omega, hb, by simpa using ha, by simpa using hb, by simpa using h, by simpa using h, e⟩))))
      · exact .inr (.inl ⟨by omega, by omega, by simpa using ha, by simpa using hb, by omega⟩)
  clear hn
  rcases hcase with ⟨m1, m2, d1, d2, rfl⟩ | ⟨m1, m2, d1, d2, rfl⟩ | ⟨m1, m2, d1, d2, m3, m4, rfl⟩ | ⟨m1, m2, d1, d2, m3, m4, rfl⟩ | ⟨m1, m2, d1, d2, m3, m4, rfl⟩ | ⟨m1, m2, d1, d2, m3, m4, rfl⟩
  all_goals
    go_enter Tryz.func70, Tryz.ntmps70
    go_wp2_with fail
    refine (inRange_yes w.heap.size 3 _ (fun k => [a, b, c].getD k 0) (by omega) (HC _ _).out HR.out).mono ?_
    rintro e w' ⟨rfl, rfl⟩
    go_wp2_with fail
    refine (magnitude_any a a1 a2 _).mono ?_
    rintro e w' ⟨rfl, rfl⟩
    go_wp2_with fail
    refine (magnitude_any b b1 b2 _).mono ?_
    rintro e w' ⟨rfl, rfl⟩
    go_wp2_with fail
    refine (mul64_named a b H L (by omega) (by omega) hH hL _).mono ?_
    rintro e w' ⟨rfl, rfl⟩
    go_wp2_with fail
    refine (div64_named H L c q r H0 H1 LL c1 c2 hq hr _).mono ?_
    rintro e w1 ⟨rfl, hb1⟩
    go_wp2_with fail
    refine (checked_yes _ (by omega) (by omega) _).mono ?_
    rintro e w2 ⟨rfl, hb2⟩
    have HF := fin w1 w2 hb1 hb2
    go_wp2
    go_ret2
    exact ⟨rfl, HF.out⟩

open Plain in
/-- num.MulDiv, where the quotient is in range. -/
theorem mulDiv_yes (a b c : Int) (a1 : -1125899906842624 ≤ a) (a2 : a ≤ 1125899906842624) (b1 : -1125899906842624 ≤ b) (b2 : b ≤ 1125899906842624) (c1 : 1 ≤ c) (c2 : c ≤ 1125899906842624)
    (n1 : -1125899906842624 ≤ a * b / c) (n2 : a * b / c ≤ 1125899906842624) (w : World) :
    Calls Tryz.prog 70 #[.int .i64 a, .int .i64 b, .int .i64 c] w fun e w' => e = .returned (.tuple #[.int .i64 (a * b / c), .bool true]) ∧ Below w.heap.size w w' := by
  obtain ⟨p0, p1⟩ := abs_mul_bd (a := a) (b := b) (by omega) (by omega)
  have hs := abs_mul_pos (a := a) (b := b)
  have hd := abs_mul_neg (a := a) (b := b)
  obtain ⟨p, hp⟩ : ∃ p : Int, p = (a.natAbs : Int) * (b.natAbs : Int) := ⟨_, rfl⟩
  rw [← hp] at p0 p1 hs hd
  have hc0 : 0 < c := by omega
  have q0 : 0 ≤ p / c := Int.ediv_nonneg p0 (by omega)
  have m0 := Int.emod_nonneg p (show c ≠ 0 by omega)
  have e1 : p / 18446744073709551616 * 18446744073709551616 + p % 18446744073709551616 = p := by omega
  have hcases : p / c ≤ 1125899906842624 ∧ (((a < 0 ↔ b < 0) ∧ a * b / c = p / c) ∨ (¬ (a < 0 ↔ b < 0) ∧ p % c = 0 ∧ a * b / c = -(p / c)) ∨ (¬ (a < 0 ↔ b < 0) ∧ p % c ≠ 0 ∧ a * b / c = -(p / c) - 1)) := by
    by_cases h : a < 0 ↔ b < 0
    · rw [← hs h] at n1 n2 ⊢
      exact ⟨n2, .inl ⟨h, rfl⟩⟩
    · rw [hd h] at n1 n2 ⊢
      by_cases hr : p % c = 0
      · rw [neg_div_exact hc0 hr] at n1 n2 ⊢
        exact ⟨by omega, .inr (.inl ⟨h, hr, rfl⟩)⟩
      · rw [neg_div_more hc0 hr] at n1 n2 ⊢
        exact ⟨by omega, .inr (.inr ⟨h, hr, rfl⟩)⟩
  obtain ⟨q1, hn⟩ := hcases
  exact mulDiv_core a b c (p / 18446744073709551616) (p % 18446744073709551616) (p / c) (p % c) _ a1 a2 b1 b2 c1 c2 w
    (Lib.hid (by rw [hp])) (Lib.hid (by rw [hp])) (Lib.hid (by rw [e1])) (Lib.hid (by rw [e1])) (by omega) (high_lt hc0 q1) (Lib.hid (by omega)) q0 q1 hn n1

end Go.Proofs.YtkencmijghigiaaGreat

namespace Go.Proofs.YtkencmijghigiaaGreat
open Go.RowKit Go.Lib

set_option maxHeartbeats 1600000 in
/-- The product's high word is too great. -/
theorem mulDiv_no1 (a b c H L : Int) (a1 : -1125899906842624 ≤ a) (a2 : a ≤ 1125899906842624) (b1 : -1125899906842624 ≤ b) (b2 : b ≤ 1125899906842624) (c1 : 1 ≤ c) (c2 : c ≤ 1125899906842624) (w : World)
    (hH : Hid ((a.natAbs : Int) * (b.natAbs : Int) / 18446744073709551616 = H)) (hL : Hid ((a.natAbs : Int) * (b.natAbs : Int) % 18446744073709551616 = L))
    (H1 : c ≤ H) :
    Calls Tryz.prog 70 #[.int .i64 a, .int .i64 b, .int .i64 c] w fun e w' => e = .returned (.tuple #[.int .i64 0, .bool false]) ∧ Below w.heap.size w w' := by
  have HR : Hid (∀ k, k < 3 → -1125899906842624 ≤ ([a, b, c].getD k 0) ∧ ([a, b, c].getD k 0) ≤ 1125899906842624) := by
    intro k hk
    match k, hk with
    | 0, _ => exact ⟨a1, a2⟩
    | 1, _ => exact ⟨b1, b2⟩
    | 2, _ => exact ⟨by show _ ≤ c; omega, c2⟩
  have HC : ∀ (W : World) (t : TypeId), Hid (∀ k, k < 3 → (W.alloc (.cells #[.int .i64 a, .int .i64 b, .int .i64 c] t)).cell? ⟨W.heap.size, k, none⟩ = some (.int .i64 ([a, b, c].getD k 0))) := by
    intro W t k hk
    match k, hk with
    | 0, _ => simp [go_sem]
    | 1, _ => simp [go_sem]
    | 2, _ => simp [go_sem]
  go_enter Tryz.func70, Tryz.ntmps70
  go_wp2_with fail
  refine (inRange_yes w.heap.size 3 _ (fun k => [a, b, c].getD k 0) (by omega) (HC _ _).out HR.out).mono ?_
  rintro e w' ⟨rfl, rfl⟩
  go_wp2_with fail
  refine (magnitude_any a a1 a2 _).mono ?_
  rintro e w' ⟨rfl, rfl⟩
  go_wp2_with fail
  refine (magnitude_any b b1 b2 _).mono ?_
  rintro e w' ⟨rfl, rfl⟩
  go_wp2_with fail
  refine (mul64_named a b H L (by omega) (by omega) hH hL _).mono ?_
  rintro e w' ⟨rfl, rfl⟩
  go_wp2
  go_ret2
  exact ⟨rfl, below_alloc (Below.refl _ _) _⟩

set_option maxHeartbeats 1600000 in
/-- The quotient of the magnitudes is out of range. -/
theorem mulDiv_no2 (a b c H L q r : Int) (a1 : -1125899906842624 ≤ a) (a2 : a ≤ 1125899906842624) (b1 : -1125899906842624 ≤ b) (b2 : b ≤ 1125899906842624) (c1 : 1 ≤ c) (c2 : c ≤ 1125899906842624) (w : World)
    (hH : Hid ((a.natAbs : Int) * (b.natAbs : Int) / 18446744073709551616 = H)) (hL : Hid ((a.natAbs : Int) * (b.natAbs : Int) % 18446744073709551616 = L)) (hq : Hid ((H * 18446744073709551616 + L) / c = q)) (hr : Hid ((H * 18446744073709551616 + L) % c = r))
    (H0 : 0 ≤ H) (H1 : H < c) (LL : Hid (0 ≤ L ∧ L < 18446744073709551616)) (q1 : 1125899906842624 < q) :
    Calls Tryz.prog 70 #[.int .i64 a, .int .i64 b, .int .i64 c] w fun e w' => e = .returned (.tuple #[.int .i64 0, .bool false]) ∧ Below w.heap.size w w' := by
  have HR : Hid (∀ k, k < 3 → -1125899906842624 ≤ ([a, b, c].getD k 0) ∧ ([a, b, c].getD k 0) ≤ 1125899906842624) := by
    intro k hk
    match k, hk with
    | 0, _ => exact ⟨a1, a2⟩
    | 1, _ => exact ⟨b1, b2⟩
    | 2, _ => exact ⟨by show _ ≤ c; omega, c2⟩
  have HC : ∀ (W : World) (t : TypeId), Hid (∀ k, k < 3 → (W.alloc (.cells #[.int .i64 a, .int .i64 b, .int .i64 c] t)).cell? ⟨W.heap.size, k, none⟩ = some (.int .i64 ([a, b, c].getD k 0))) := by
    intro W t k hk
    match k, hk with
    | 0, _ => simp [go_sem]
    | 1, _ => simp [go_sem]
    | 2, _ => simp [go_sem]
  go_enter Tryz.func70, Tryz.ntmps70
  go_wp2_with fail
  refine (inRange_yes w.heap.size 3 _ (fun k => [a, b, c].getD k 0) (by omega) (HC _ _).out HR.out).mono ?_
  rintro e w' ⟨rfl, rfl⟩
  go_wp2_with fail
  refine (magnitude_any a a1 a2 _).mono ?_
  rintro e w' ⟨rfl, rfl⟩
  go_wp2_with fail
  refine (magnitude_any b b1 b2 _).mono ?_
  rintro e w' ⟨rfl, rfl⟩
  go_wp2_with fail
  refine (mul64_named a b H L (by omega) (by omega) hH hL _).mono ?_
  rintro e w' ⟨rfl, rfl⟩
  go_wp2_with fail
  refine (div64_named H L c q r H0 H1 LL c1 c2 hq hr _).mono ?_
  rintro e w1 ⟨rfl, hb1⟩
  have HF := Lib.hid (below_step (below_alloc (Below.refl _ _) _) hb1)
  clear hb1
  go_wp2
  go_ret2
  exact ⟨rfl, HF.out⟩

set_option maxHeartbeats 1600000 in
/-- The quotient is out of range by one, when it is rounded down. -/
theorem mulDiv_no3 (a b c H L r : Int) (a1 : -1125899906842624 ≤ a) (a2 : a ≤ 1125899906842624) (b1 : -1125899906842624 ≤ b) (b2 : b ≤ 1125899906842624) (c1 : 1 ≤ c) (c2 : c ≤ 1125899906842624) (w : World)
    (hH : Hid ((a.natAbs : Int) * (b.natAbs : Int) / 18446744073709551616 = H)) (hL : Hid ((a.natAbs : Int) * (b.natAbs : Int) % 18446744073709551616 = L)) (hq : Hid ((H * 18446744073709551616 + L) / c = 1125899906842624)) (hr : Hid ((H * 18446744073709551616 + L) % c = r))
    (H0 : 0 ≤ H) (H1 : H < c) (LL : Hid (0 ≤ L ∧ L < 18446744073709551616)) (hs : ¬ (a < 0 ↔ b < 0)) (hrz : r ≠ 0) :
    Calls Tryz.prog 70 #[.int .i64 a, .int .i64 b, .int .i64 c] w fun e w' => e = .returned (.tuple #[.int .i64 0, .bool false]) ∧ Below w.heap.size w w' := by
  have HR : Hid (∀ k, k < 3 → -1125899906842624 ≤ ([a, b, c].getD k 0) ∧ ([a, b, c].getD k 0) ≤ 1125899906842624) := by
    intro k hk
    match k, hk with
    | 0, _ => exact ⟨a1, a2⟩
    | 1, _ => exact ⟨b1, b2⟩
    | 2, _ => exact ⟨by show _ ≤ c; omega, c2⟩
  have HC : ∀ (W : World) (t : TypeId), Hid (∀ k, k < 3 → (W.alloc (.cells #[.int .i64 a, .int .i64 b, .int .i64 c] t)).cell? ⟨W.heap.size, k, none⟩ = some (.int .i64 ([a, b, c].getD k 0))) := by
    intro W t k hk
    match k, hk with
    | 0, _ => simp [go_sem]
    | 1, _ => simp [go_sem]
    | 2, _ => simp [go_sem]
  have hcase : (a < 0 ∧ 0 ≤ b ∧ decide (a < 0) = true ∧ decide (b < 0) = false ∧ (r == 0) = false ∧ (r != 0) = true) ∨ (0 ≤ a ∧ b < 0 ∧ decide (a < 0) = false ∧ decide (b < 0) = true ∧ (r == 0) = false ∧ (r != 0) = true) := by
    by_cases ha : a < 0
    · by_cases hb : b < 0
      · exact absurd ⟨fun _ => hb, fun _ => ha⟩ hs
      · exact .inl ⟨ha, by omega, by simpa using ha, by simpa using hb, by simpa using hrz, by simpa using hrz⟩
    · by_cases hb : b < 0
      · exact .inr ⟨by omega, hb, by simpa using ha, by simpa using hb, by simpa using hrz, by simpa using hrz⟩
      · exact absurd ⟨fun x => absurd x ha, fun x => absurd x hb⟩ hs
  clear hs hrz
  rcases hcase with ⟨m1, m2, d1, d2, m3, m4⟩ | ⟨m1, m2, d1, d2, m3, m4⟩
  all_goals
    go_enter Tryz.func70, Tryz.ntmps70
    go_wp2_with fail
    refine (inRange_yes w.heap.size 3 _ (fun k => [a, b, c].getD k 0) (by omega) (HC _ _).out HR.out).mono ?_
    rintro e w' ⟨rfl, rfl⟩
    go_wp2_with fail
    refine (magnitude_any a a1 a2 _).mono ?_
    rintro e w' ⟨rfl, rfl⟩
    go_wp2_with fail
    refine (magnitude_any b b1 b2 _).mono ?_
    rintro e w' ⟨rfl, rfl⟩
    go_wp2_with fail
    refine (mul64_named a b H L (by omega) (by omega) hH hL _).mono ?_
    rintro e w' ⟨rfl, rfl⟩
    go_wp2_with fail
    refine (div64_named H L c 1125899906842624 r H0 H1 LL c1 c2 hq hr _).mono ?_
    rintro e w1 ⟨rfl, hb1⟩
    have HF := Lib.hid (below_step (below_alloc (Below.refl _ _) _) hb1)
    clear hb1
    go_wp2_with fail
    refine (checked_no _ (by omega) _).mono ?_
    rintro e w2 ⟨rfl, hb2⟩
    have HG := Lib.hid (below_step HF.out hb2)
    clear hb2
    go_wp2
    go_ret2
    exact ⟨rfl, HG.out⟩

open Plain in
/-- num.MulDiv, where the quotient is out of range. -/
theorem mulDiv_no (a b c : Int) (a1 : -1125899906842624 ≤ a) (a2 : a ≤ 1125899906842624) (b1 : -1125899906842624 ≤ b) (b2 : b ≤ 1125899906842624) (c1 : 1 ≤ c) (c2 : c ≤ 1125899906842624)
    (n1 : a * b / c < -1125899906842624 ∨ 1125899906842624 < a * b / c) (w : World) :
    Calls Tryz.prog 70 #[.int .i64 a, .int .i64 b, .int .i64 c] w fun e w' => e = .returned (.tuple #[.int .i64 0, .bool false]) ∧ Below w.heap.size w w' := by
  obtain ⟨p0, p1⟩ := abs_mul_bd (a := a) (b := b) (by omega) (by omega)
  have hs := abs_mul_pos (a := a) (b := b)
  have hd := abs_mul_neg (a := a) (b := b)
  obtain ⟨p, hp⟩ : ∃ p : Int, p = (a.natAbs : Int) * (b.natAbs : Int) := ⟨_, rfl⟩
  rw [← hp] at p0 p1 hs hd
  have hc0 : 0 < c := by omega
  have q0 : 0 ≤ p / c := Int.ediv_nonneg p0 (by omega)
  have e1 : p / 18446744073709551616 * 18446744073709551616 + p % 18446744073709551616 = p := by omega
  by_cases hh : c ≤ p / 18446744073709551616
  · exact mulDiv_no1 a b c (p / 18446744073709551616) (p % 18446744073709551616) a1 a2 b1 b2 c1 c2 w (Lib.hid (by rw [hp])) (Lib.hid (by rw [hp])) hh
  · by_cases hq : 1125899906842624 < p / c
    · exact mulDiv_no2 a b c (p / 18446744073709551616) (p % 18446744073709551616) (p / c) (p % c) a1 a2 b1 b2 c1 c2 w
        (Lib.hid (by rw [hp])) (Lib.hid (by rw [hp])) (Lib.hid (by rw [e1])) (Lib.hid (by rw [e1])) (by omega) (by omega) (Lib.hid (by omega)) hq
    · by_cases h : a < 0 ↔ b < 0
      · rw [← hs h] at n1; omega
      · rw [hd h] at n1
        by_cases hr : p % c = 0
        · rw [neg_div_exact hc0 hr] at n1; omega
        · rw [neg_div_more hc0 hr] at n1
          have hqe : p / c = 1125899906842624 := by omega
          exact mulDiv_no3 a b c (p / 18446744073709551616) (p % 18446744073709551616) (p % c) a1 a2 b1 b2 c1 c2 w
            (Lib.hid (by rw [hp])) (Lib.hid (by rw [hp])) (Lib.hid (by rw [e1, hqe])) (Lib.hid (by rw [e1])) (by omega) (by omega) (Lib.hid (by omega)) h hr

end Go.Proofs.YtkencmijghigiaaGreat

namespace Go.Proofs.YtkencmijghigiaaGreat
open Go.RowKit Go.Lib Plain

/-- num.MulDiv of a span, a rate and 10^9. -/
theorem part_any (x p : Int) (h1 : -17592186044416 ≤ x) (h2 : x ≤ 17592186044416) (h3 : -16777216 ≤ p) (h4 : p ≤ 16777216) (w : World) :
    Calls Tryz.prog 70 #[.int .i64 x, .int .i64 p, .int .i64 1000000000] w fun e w' => e = .returned (.tuple #[.int .i64 (share x p), .bool true]) ∧ Below w.heap.size w w' := by
  obtain ⟨b1, b2⟩ := part_bd h1 h2 h3 h4
  unfold share at b1 b2
  exact mulDiv_yes x p 1000000000 (by omega) (by omega) (by omega) (by omega) (by omega) (by omega) (by omega) (by omega) w

/-- isochronref09.Floor -/
theorem floor_any (a b : Int) (hb : 1 ≤ b) (ha1 : -4611686018427387904 ≤ a) (ha2 : a ≤ 4611686018427387904) (w : World) :
    Calls Tryz.prog 54 #[.int .i64 a, .int .i64 b] w fun e w' => e = .returned (.int .i64 (a / b)) ∧ w = w' := by
  have b0 : ¬ b = 0 := by omega
  by_cases h : 0 ≤ a
  · have m0 : 0 ≤ a % b := Int.emod_nonneg a (by omega)
    have q0 : 0 ≤ a / b := Int.ediv_nonneg h (by omega)
    have q1 : a / b ≤ a := Int.ediv_le_self b h
    have m1 : a % b < b := Int.emod_lt_of_pos a (by omega)
    go_enter Tryz.func54, Tryz.ntmps54
    go_wp2
    go_ret
    exact ⟨rfl, rfl⟩
  · obtain ⟨n, rfl⟩ : ∃ n, a = -n := ⟨-a, by omega⟩
    have q0 : 0 ≤ n / b := Int.ediv_nonneg (by omega) (by omega)
    have q1 : n / b ≤ n := Int.ediv_le_self b (by omega)
    have hq : Hid ((-n).tdiv b = -(n / b)) := by
      show (-n).tdiv b = _
      rw [Int.neg_tdiv, Int.tdiv_eq_ediv_of_nonneg (by omega)]
    have hr : Hid ((-n).tmod b = -(n % b)) := by
      show (-n).tmod b = _
      rw [Int.neg_tmod, Int.tmod_eq_emod_of_nonneg (by omega)]
    have m0 : 0 ≤ n % b := Int.emod_nonneg n (by omega)
    have m1 : n % b < b := Int.emod_lt_of_pos n (by omega)
    by_cases hz : n % b = 0
    · have e := neg_div_exact (p := n) (c := b) (by omega) hz
      have hr' : Hid ((-n).tmod b = 0) := by show (-n).tmod b = 0; rw [hr.out, hz]; rfl
      rw [e]
      have e1 := hq.out
      have e2 := hr'.out
      clear e hz m0 m1
      go_enter Tryz.func54, Tryz.ntmps54
      go_wp2
      go_ret
      exact ⟨rfl, rfl⟩
    · have e := neg_div_more (p := n) (c := b) (by omega) hz
      rw [e]
      have e1 := hq.out
      have e2 := hr.out
      have m2 : 1 ≤ n % b := by omega
      clear e hz m0
      go_enter Tryz.func54, Tryz.ntmps54
      go_wp2
      go_ret
      exact ⟨rfl, rfl⟩

end Go.Proofs.YtkencmijghigiaaGreat
