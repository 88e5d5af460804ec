/-
  The plain arithmetic of math/bits.Div64 and of num.MulDiv: no program in sight.
-/
namespace Go.Proofs.Ytecengclcaodeaa.Plain

/-- A quotient is known by its two bounds. -/
theorem div_of {x y q : Int} (hy : 0 < y) (h1 : q * y ≤ x) (h2 : x < (q + 1) * y) : x / y = q :=
  Int.le_antisymm (Int.lt_add_one_iff.1 (Int.ediv_lt_of_lt_mul hy h2)) (Int.le_ediv_of_mul_le hy h1)

theorem div_lo {x y : Int} (hy : 0 < y) : x / y * y ≤ x := Int.ediv_mul_le x (by omega)
theorem div_hi {x y : Int} (hy : 0 < y) : x < (x / y + 1) * y := by
  have := Int.lt_ediv_add_one_mul_self x hy
  exact this
theorem mod_eq {x y : Int} : x % y = x - x / y * y := by
  have := Int.emod_add_mul_ediv x y
  rw [Int.mul_comm] at this
  omega

/-- One step of the school division by a divisor of two digits (base 2^32): what holds of the guess q and of what is left r. y = y1 * 2^32 + y0; a, b: the number that is divided is a * 2^32 + b. -/
structure Guess (y1 y0 a b q r : Int) : Prop where
  e : q * y1 + r = a
  up : a * 4294967296 + b < (q + 1) * (y1 * 4294967296 + y0)
  q0 : 0 ≤ q
  q1 : q ≤ 4294967297
  r0 : 0 ≤ r

/-- What the step needs of the numbers that it begins with. -/
structure Fit (y1 y0 a b : Int) : Prop where
  y1lo : 2147483648 ≤ y1
  y1hi : y1 < 4294967296
  y0lo : 0 ≤ y0
  y0hi : y0 < 4294967296
  alo : 0 ≤ a
  ahi : a < y1 * 4294967296 + y0
  blo : 0 ≤ b
  bhi : b < 4294967296

theorem mul_le_of {q p a b : Int} (h0 : 0 ≤ a) (hq : q ≤ p) (h : a ≤ b) (hp : 0 ≤ p) : q * a ≤ p * b :=
  Int.le_trans (Int.mul_le_mul_of_nonneg_right hq h0) (Int.mul_le_mul_of_nonneg_left h hp)

theorem expand (q y1 y0 : Int) : q * (y1 * 4294967296 + y0) = q * y1 * 4294967296 + q * y0 := by
  rw [Int.mul_add, Int.mul_assoc]

/-- The first guess. -/
theorem Guess.first {y1 y0 a b : Int} (f : Fit y1 y0 a b) : Guess y1 y0 a b (a / y1) (a - a / y1 * y1) := by
  obtain ⟨h1, h2, h3, h4, h5, h6, h7, h8⟩ := f
  have lo := div_lo (x := a) (y := y1) (by omega)
  have hi := div_hi (x := a) (y := y1) (by omega)
  have q0 : 0 ≤ a / y1 := Int.ediv_nonneg h5 (by omega)
  refine ⟨by omega, ?_, q0, ?_, by omega⟩
  · rw [expand]
    have e1 : (a / y1 + 1) * y1 * 4294967296 ≥ (a + 1) * 4294967296 := by omega
    have e2 : 0 ≤ (a / y1 + 1) * y0 := Int.mul_nonneg (by omega) h3
    omega
  · have : a / y1 < 4294967298 := Int.ediv_lt_of_lt_mul (by omega) (by omega)
    omega

/-- The products of a step do not leave 64 bits. -/
theorem Guess.fits {y1 y0 a b q r : Int} (f : Fit y1 y0 a b) (g : Guess y1 y0 a b q r) : 0 ≤ q * y0 ∧ q * y0 < 18446744073709551616 ∧ 0 ≤ q * y1 ∧ q * y1 ≤ a ∧ a < 18446744073709551616 := by
  obtain ⟨h1, h2, h3, h4, h5, h6, h7, h8⟩ := f
  obtain ⟨g1, g2, g3, g4, g5⟩ := g
  have e := mul_le_of (q := q) (p := 4294967297) (a := y0) (b := 4294967295) h3 g4 (by omega) (by omega)
  have e0 : 0 ≤ q * y0 := Int.mul_nonneg g3 h3
  have e1 : 0 ≤ q * y1 := Int.mul_nonneg g3 (by omega)
  omega

/-- The test holds: the guess is too great, one less is still no less than the digit. -/
theorem Guess.less {y1 y0 a b q r : Int} (f : Fit y1 y0 a b) (g : Guess y1 y0 a b q r) (h : 4294967296 ≤ q ∨ 4294967296 * r + b < q * y0) : 1 ≤ q ∧ Guess y1 y0 a b (q - 1) (r + y1) := by
  obtain ⟨h1, h2, h3, h4, h5, h6, h7, h8⟩ := f
  obtain ⟨g1, g2, g3, g4, g5⟩ := g
  have hup : a * 4294967296 + b < q * (y1 * 4294967296 + y0) := by
    rcases h with h | h
    · have := Int.mul_le_mul_of_nonneg_right h (show 0 ≤ y1 * 4294967296 + y0 by omega)
      omega
    · rw [expand]; omega
  have hq : 1 ≤ q := by
    rcases Int.lt_or_le q 1 with h | h
    · have : q = 0 := by omega
      subst this
      simp at hup
      omega
    · exact h
  refine ⟨hq, ?_, ?_, by omega, by omega, by omega⟩
  · rw [Int.sub_mul]; omega
  · rw [show q - 1 + 1 = q by omega]; exact hup

/-- The test fails: the guess is the digit. -/
theorem Guess.done {y1 y0 a b q r : Int} (f : Fit y1 y0 a b) (g : Guess y1 y0 a b q r) (h : q * y0 ≤ 4294967296 * r + b) : q = (a * 4294967296 + b) / (y1 * 4294967296 + y0) := by
  obtain ⟨h1, h2, h3, h4, h5, h6, h7, h8⟩ := f
  obtain ⟨g1, g2, g3, g4, g5⟩ := g
  refine (div_of (by omega) ?_ g2).symm
  rw [expand]; omega

/-- What is left leaves 32 bits: the guess, lessened once, is the digit. -/
theorem Guess.out {y1 y0 a b q r : Int} (f : Fit y1 y0 a b) (g : Guess y1 y0 a b q r) (hq : q ≤ 4294967296) (h : 4294967296 ≤ r) : q = (a * 4294967296 + b) / (y1 * 4294967296 + y0) := by
  obtain ⟨h1, h2, h3, h4, h5, h6, h7, h8⟩ := f
  obtain ⟨g1, g2, g3, g4, g5⟩ := g
  refine (div_of (by omega) ?_ g2).symm
  have e := mul_le_of (q := q) (p := 4294967296) (a := y0) (b := 4294967295) h3 hq (by omega) (by omega)
  rw [expand]; omega

theorem Fit.digit {y1 y0 a b : Int} (f : Fit y1 y0 a b) : 0 ≤ (a * 4294967296 + b) / (y1 * 4294967296 + y0) ∧ (a * 4294967296 + b) / (y1 * 4294967296 + y0) < 4294967296 := by
  obtain ⟨h1, h2, h3, h4, h5, h6, h7, h8⟩ := f
  refine ⟨Int.ediv_nonneg (by omega) (by omega), Int.ediv_lt_of_lt_mul (by omega) (by omega)⟩

/-- What is left after a digit. -/
theorem Fit.rest {y1 y0 a b : Int} (f : Fit y1 y0 a b) : 0 ≤ a * 4294967296 + b - (a * 4294967296 + b) / (y1 * 4294967296 + y0) * (y1 * 4294967296 + y0) ∧
    a * 4294967296 + b - (a * 4294967296 + b) / (y1 * 4294967296 + y0) * (y1 * 4294967296 + y0) < y1 * 4294967296 + y0 := by
  obtain ⟨h1, h2, h3, h4, h5, h6, h7, h8⟩ := f
  have lo := div_lo (x := a * 4294967296 + b) (y := y1 * 4294967296 + y0) (by omega)
  have hi := div_hi (x := a * 4294967296 + b) (y := y1 * 4294967296 + y0) (by omega)
  rw [Int.add_mul] at hi
  omega

/-- Two digits make the quotient: X = (a * B + b) * B + c. -/
theorem two_digits {y a b c q1 q0 u : Int} (hy : 0 < y) (hu : u = a * 4294967296 + b - q1 * y) (hq : q0 = (u * 4294967296 + c) / y) :
    q1 * 4294967296 + q0 = ((a * 4294967296 + b) * 4294967296 + c) / y ∧ u * 4294967296 + c - q0 * y = ((a * 4294967296 + b) * 4294967296 + c) % y := by
  have e : (a * 4294967296 + b) * 4294967296 + c = (u * 4294967296 + c) + (q1 * 4294967296) * y := by
    rw [hu, show q1 * 4294967296 * y = q1 * y * 4294967296 by rw [Int.mul_assoc, Int.mul_comm 4294967296 y, ← Int.mul_assoc]]
    omega
  have hne : y ≠ 0 := by omega
  refine ⟨?_, ?_⟩
  · rw [e, Int.add_mul_ediv_right _ _ hne, ← hq]; omega
  · rw [e, Int.add_mul_emod_self_right, mod_eq, ← hq]

/-- Both sides times 2^s: the same quotient, the rest times 2^s. -/
theorem scaled_div {x y k : Int} (hk : 0 < k) : (x * k) / (y * k) = x / y := Int.mul_ediv_mul_of_pos_left x y hk
theorem scaled_mod {x y k : Int} (hk : 0 < k) : (x * k) % (y * k) = x % y * k := by
  rw [Int.mul_comm x, Int.mul_comm y, Int.mul_emod_mul_of_pos _ _ hk, Int.mul_comm]

/-- The numbers of the school's division, brought to a divisor of 64 bits: K and M are powers of 2, K * M = 2^64. -/
theorem norm {hi lo y K M : Int} (hKM : K * M = 18446744073709551616) (hK : 0 < K) (hM : 0 < M) (y1 : M ≤ 2 * y) (y2 : y < M) (h0 : 0 ≤ hi) (h1 : hi < y) (l0 : 0 ≤ lo) (l1 : lo < 18446744073709551616) :
    9223372036854775808 ≤ y * K ∧ y * K < 18446744073709551616 ∧ 0 ≤ hi * K ∧ hi * K < 18446744073709551616 ∧ 0 ≤ lo / M ∧ lo / M < K ∧ hi * K + lo / M < y * K ∧
    (lo * K) % 18446744073709551616 = (lo % M) * K ∧ (hi * K + lo / M) * 18446744073709551616 + (lo % M) * K = (hi * 18446744073709551616 + lo) * K := by
  have a1 : M * K ≤ 2 * y * K := Int.mul_le_mul_of_nonneg_right y1 (by omega)
  have a2 : (y + 1) * K ≤ M * K := Int.mul_le_mul_of_nonneg_right (by omega) (by omega)
  have a3 : (hi + 1) * K ≤ y * K := Int.mul_le_mul_of_nonneg_right (by omega) (by omega)
  have a4 : 0 ≤ hi * K := Int.mul_nonneg h0 (by omega)
  have e : M * K = 18446744073709551616 := by rw [Int.mul_comm]; exact hKM
  have a5 : lo / M < K := Int.ediv_lt_of_lt_mul hM (by rw [hKM]; exact l1)
  have a6 : 0 ≤ lo / M := Int.ediv_nonneg l0 (by omega)
  have a7 : (lo * K) % 18446744073709551616 = (lo % M) * K := by rw [← e]; exact scaled_mod hK
  have a8 : 2 * y * K = 2 * (y * K) := Int.mul_assoc ..
  have a9 : (y + 1) * K = y * K + K := by rw [Int.add_mul, Int.one_mul]
  have a10 : (hi + 1) * K = hi * K + K := by rw [Int.add_mul, Int.one_mul]
  refine ⟨by omega, by omega, a4, by omega, a6, a5, by omega, a7, ?_⟩
  have b1 : lo * K = lo / M * 18446744073709551616 + (lo % M) * K := by
    rw [← e, ← Int.mul_assoc, ← Int.add_mul, Int.ediv_mul_add_emod]
  have b2 : (hi * 18446744073709551616 + lo) * K = hi * K * 18446744073709551616 + lo * K := by
    rw [Int.add_mul, Int.mul_assoc, Int.mul_comm 18446744073709551616 K, ← Int.mul_assoc]
  rw [b2, b1]
  omega

/-- The quotient of a number below 0, rounded down. -/
theorem neg_div_exact {p c : Int} (hc : 0 < c) (h : p % c = 0) : (-p) / c = -(p / c) := by
  have e := mod_eq (x := p) (y := c)
  refine div_of hc ?_ ?_
  · rw [Int.neg_mul]; omega
  · rw [Int.add_mul, Int.neg_mul]; omega
theorem neg_div_more {p c : Int} (hc : 0 < c) (h : p % c ≠ 0) : (-p) / c = -(p / c) - 1 := by
  have e := mod_eq (x := p) (y := c)
  have m0 := Int.emod_nonneg p (show c ≠ 0 by omega)
  have m1 := Int.emod_lt_of_pos p hc
  refine div_of hc ?_ ?_
  · rw [Int.sub_mul, Int.neg_mul]; omega
  · rw [show -(p / c) - 1 + 1 = -(p / c) by omega, Int.neg_mul]; omega
theorem abs_mul_pos {a b : Int} (h : a < 0 ↔ b < 0) : (a.natAbs : Int) * (b.natAbs : Int) = a * b := by
  by_cases ha : a < 0
  · have hb := h.1 ha
    rw [show (a.natAbs : Int) = -a by omega, show (b.natAbs : Int) = -b by omega, Int.neg_mul_neg]
  · have hb : ¬ b < 0 := fun x => ha (h.2 x)
    rw [show (a.natAbs : Int) = a by omega, show (b.natAbs : Int) = b by omega]
theorem abs_mul_neg {a b : Int} (h : ¬ (a < 0 ↔ b < 0)) : a * b = -((a.natAbs : Int) * (b.natAbs : Int)) := by
  by_cases ha : a < 0
  · have hb : ¬ b < 0 := fun x => h ⟨fun _ => x, fun _ => ha⟩
    rw [show (a.natAbs : Int) = -a by omega, show (b.natAbs : Int) = b by omega, Int.neg_mul, Int.neg_neg]
  · have hb : b < 0 := Classical.byContradiction fun x => h ⟨fun y => absurd y ha, fun y => absurd y x⟩
    rw [show (a.natAbs : Int) = a by omega, show (b.natAbs : Int) = -b by omega, Int.mul_neg, Int.neg_neg]
theorem abs_mul_bd {a b : Int} (ha : a.natAbs ≤ 1125899906842624) (hb : b.natAbs ≤ 1125899906842624) : 0 ≤ (a.natAbs : Int) * (b.natAbs : Int) ∧ (a.natAbs : Int) * (b.natAbs : Int) ≤ 1267650600228229401496703205376 := by
  refine ⟨Int.mul_nonneg (by omega) (by omega), ?_⟩
  have := mul_le_of (q := a.natAbs) (p := 1125899906842624) (a := b.natAbs) (b := 1125899906842624) (by omega) (by omega) (by omega) (by omega)
  omega
/-- The high word of the product is below c just where the quotient is below 2^64. -/
theorem high_lt {p c : Int} (hc : 0 < c) (h : p / c ≤ 1125899906842624) : p / 18446744073709551616 < c := by
  refine Int.ediv_lt_of_lt_mul (by omega) ?_
  have h1 := div_hi (x := p) (y := c) hc
  have h2 : (p / c + 1) * c ≤ 18446744073709551616 * c := Int.mul_le_mul_of_nonneg_right (by omega) (by omega)
  omega

end Go.Proofs.Ytecengclcaodeaa.Plain
