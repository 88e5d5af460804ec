/-
  Texts of this claim laid together: Kit, Plain, Span, ClockPlain, DelayPlain, ServoPlain, PassPlain, Whole, At, Tail, QLoad, Run15, Map15, Lift.
-/
import Derived.WalkKit
import Derived.WalkSpells
import Derived.WalkLawsBesides
import Derived.Lib.Hide
import Derived.Laws.IdiomCopy
import Derived.Laws.Cells
import Derived.Deep.RegionLaw
import Derived.Deep.RegionHeld
import Derived.StillTail
import Derived.Lib.QuietBelow
import Derived.BigQuiet
import Derived.Maps.OwnIn
import Derived.Maps.OwnOps
import Derived.Maps.Views
import Derived.DeepKeys4
import Derived.ProofKit
import Derived.Lib.SmallJoins
import Derived.OpenShut
import Derived.Test.YtkencmijghigiaaGreatRows
namespace Go.Proofs.YtkencmijghigiaaGreat
open Go.RowKit Go.Lib

theorem ret_int {k : IntKind} {a b : Int} (h : a = b) : Ending.returned (.int k a) = .returned (.int k b) := by rw [h]
theorem ret_bool {a b : Bool} (h : a = b) : Ending.returned (.bool a) = .returned (.bool b) := by rw [h]
theorem int_eq {k : IntKind} {a b : Int} (h : a = b) : Value.int k a = .int k b := by rw [h]

/-- What a contract that ends in 'Below' leaves of the blocks that were there. -/
theorem bcell {W w1 : World} (hb : Below W.heap.size W w1) : (∀ b o, b < W.heap.size → w1.cell? ⟨b, o, none⟩ = W.cell? ⟨b, o, none⟩) ∧ (∀ b o, b < W.heap.size → w1.frozen? ⟨b, o, none⟩ = W.frozen? ⟨b, o, none⟩) :=
  ⟨fun b o h => hb.cell (p := ⟨b, o, none⟩) h, fun b o h => hb.frozen (p := ⟨b, o, none⟩) h⟩

/-- One call behind another. -/
theorem below_step {w a b : World} (h : Below w.heap.size w a) (k : Below a.heap.size a b) : Below w.heap.size w b := h.trans (k.mono h.size)
theorem below_alloc {w a : World} (h : Below w.heap.size w a) (o : Obj) : Below w.heap.size w (a.alloc o) := h.alloc h.size o
theorem below_drewN' {w a : World} (h : Below w.heap.size w a) (n : Nat) : Below w.heap.size w (a.drewN n) := ⟨h.os, h.tape, h.output, h.size, h.block⟩

/-- A cell that is there holds behind the call what it held. -/
theorem below_keep {W w1 : World} (hb : Below W.heap.size W w1) {a : Addr} {v : Value} (h : W.cell? a = some v) : w1.cell? a = some v := by
  rw [hb.cell (World.block_lt_of_cell? W _ h)]
  exact h

end Go.Proofs.YtkencmijghigiaaGreat

namespace Go.Proofs.YtkencmijghigiaaGreat.Plain

/-- A quotient is known by its two bounds. -/
theorem div_of {x y q : Int} (hy : 0 < y) (h1 : q * y ≤ x) (h2 : x < (q + 1) * y) : x / y = q :=
  Int.le_antisymm (Int.lt_add_one_iff.1 (Int.ediv_lt_of_lt_mul hy h2)) (Int.le_ediv_of_mul_le hy h1)

theorem div_lo {x y : Int} (hy : 0 < y) : x / y * y ≤ x := Int.ediv_mul_le x (by omega)
theorem div_hi {x y : Int} (hy : 0 < y) : x < (x / y + 1) * y := by
  have := Int.lt_ediv_add_one_mul_self x hy
  exact this
theorem mod_eq {x y : Int} : x % y = x - x / y * y := by
  have := Int.emod_add_mul_ediv x y
  rw [Int.mul_comm] at this
  omega

/-- One step of the school division by a divisor of two digits (base 2^32): what holds of the guess q and of what is left r. y = y1 * 2^32 + y0; a, b: the number that is divided is a * 2^32 + b. -/
structure Guess (y1 y0 a b q r : Int) : Prop where
  e : q * y1 + r = a
  up : a * 4294967296 + b < (q + 1) * (y1 * 4294967296 + y0)
  q0 : 0 ≤ q
  q1 : q ≤ 4294967297
  r0 : 0 ≤ r

/-- What the step needs of the numbers that it begins with. -/
structure Fit (y1 y0 a b : Int) : Prop where
  y1lo : 2147483648 ≤ y1
  y1hi : y1 < 4294967296
  y0lo : 0 ≤ y0
  y0hi : y0 < 4294967296
  alo : 0 ≤ a
  ahi : a < y1 * 4294967296 + y0
  blo : 0 ≤ b
  bhi : b < 4294967296

theorem mul_le_of {q p a b : Int} (h0 : 0 ≤ a) (hq : q ≤ p) (h : a ≤ b) (hp : 0 ≤ p) : q * a ≤ p * b :=
  Int.le_trans (Int.mul_le_mul_of_nonneg_right hq h0) (Int.mul_le_mul_of_nonneg_left h hp)

theorem expand (q y1 y0 : Int) : q * (y1 * 4294967296 + y0) = q * y1 * 4294967296 + q * y0 := by
  rw [Int.mul_add, Int.mul_assoc]

/-- The first guess. -/
theorem Guess.first {y1 y0 a b : Int} (f : Fit y1 y0 a b) : Guess y1 y0 a b (a / y1) (a - a / y1 * y1) := by
  obtain ⟨h1, h2, h3, h4, h5, h6, h7, h8⟩ := f
  have lo := div_lo (x := a) (y := y1) (by omega)
  have hi := div_hi (x := a) (y := y1) (by omega)
  have q0 : 0 ≤ a / y1 := Int.ediv_nonneg h5 (by omega)
  refine ⟨by omega, ?_, q0, ?_, by omega⟩
  · rw [expand]
    have e1 : (a / y1 + 1) * y1 * 4294967296 ≥ (a + 1) * 4294967296 := by omega
    have e2 : 0 ≤ (a / y1 + 1) * y0 := Int.mul_nonneg (by omega) h3
    omega
  · have : a / y1 < 4294967298 := Int.ediv_lt_of_lt_mul (by omega) (by omega)
    omega

/-- The products of a step do not leave 64 bits. -/
theorem Guess.fits {y1 y0 a b q r : Int} (f : Fit y1 y0 a b) (g : Guess y1 y0 a b q r) : 0 ≤ q * y0 ∧ q * y0 < 18446744073709551616 ∧ 0 ≤ q * y1 ∧ q * y1 ≤ a ∧ a < 18446744073709551616 := by
  obtain ⟨h1, h2, h3, h4, h5, h6, h7, h8⟩ := f
  obtain ⟨g1, g2, g3, g4, g5⟩ := g
  have e := mul_le_of (q := q) (p := 4294967297) (a := y0) (b := 4294967295) h3 g4 (by omega) (by omega)
  have e0 : 0 ≤ q * y0 := Int.mul_nonneg g3 h3
  have e1 : 0 ≤ q * y1 := Int.mul_nonneg g3 (by omega)
  omega

/-- The test holds: the guess is too great, one less is still no less than the digit. -/
theorem Guess.less {y1 y0 a b q r : Int} (f : Fit y1 y0 a b) (g : Guess y1 y0 a b q r) (h : 4294967296 ≤ q ∨ 4294967296 * r + b < q * y0) : 1 ≤ q ∧ Guess y1 y0 a b (q - 1) (r + y1) := by
  obtain ⟨h1, h2, h3, h4, h5, h6, h7, h8⟩ := f
  obtain ⟨g1, g2, g3, g4, g5⟩ := g
  have hup : a * 4294967296 + b < q * (y1 * 4294967296 + y0) := by
    rcases h with h | h
    · have := Int.mul_le_mul_of_nonneg_right h (show 0 ≤ y1 * 4294967296 + y0 by omega)
      omega
    · rw [expand]; omega
  have hq : 1 ≤ q := by
    rcases Int.lt_or_le q 1 with h | h
    · have : q = 0 := by omega
      subst this
      simp at hup
      omega
    · exact h
  refine ⟨hq, ?_, ?_, by omega, by omega, by omega⟩
  · rw [Int.sub_mul]; omega
  · rw [show q - 1 + 1 = q by omega]; exact hup

/-- The test fails: the guess is the digit. -/
theorem Guess.done {y1 y0 a b q r : Int} (f : Fit y1 y0 a b) (g : Guess y1 y0 a b q r) (h : q * y0 ≤ 4294967296 * r + b) : q = (a * 4294967296 + b) / (y1 * 4294967296 + y0) := by
  obtain ⟨h1, h2, h3, h4, h5, h6, h7, h8⟩ := f
  obtain ⟨g1, g2, g3, g4, g5⟩ := g
  refine (div_of (by omega) ?_ g2).symm
  rw [expand]; omega

/-- What is left leaves 32 bits: the guess, lessened once, is the digit. -/
theorem Guess.out {y1 y0 a b q r : Int} (f : Fit y1 y0 a b) (g : Guess y1 y0 a b q r) (hq : q ≤ 4294967296) (h : 4294967296 ≤ r) : q = (a * 4294967296 + b) / (y1 * 4294967296 + y0) := by
  obtain ⟨h1, h2, h3, h4, h5, h6, h7, h8⟩ := f
  obtain ⟨g1, g2, g3, g4, g5⟩ := g
  refine (div_of (by omega) ?_ g2).symm
  have e := mul_le_of (q := q) (p := 4294967296) (a := y0) (b := 4294967295) h3 hq (by omega) (by omega)
  rw [expand]; omega

theorem Fit.digit {y1 y0 a b : Int} (f : Fit y1 y0 a b) : 0 ≤ (a * 4294967296 + b) / (y1 * 4294967296 + y0) ∧ (a * 4294967296 + b) / (y1 * 4294967296 + y0) < 4294967296 := by
  obtain ⟨h1, h2, h3, h4, h5, h6, h7, h8⟩ := f
  refine ⟨Int.ediv_nonneg (by omega) (by omega), Int.ediv_lt_of_lt_mul (by omega) (by omega)⟩

/-- What is left after a digit. -/
theorem Fit.rest {y1 y0 a b : Int} (f : Fit y1 y0 a b) : 0 ≤ a * 4294967296 + b - (a * 4294967296 + b) / (y1 * 4294967296 + y0) * (y1 * 4294967296 + y0) ∧
    a * 4294967296 + b - (a * 4294967296 + b) / (y1 * 4294967296 + y0) * (y1 * 4294967296 + y0) < y1 * 4294967296 + y0 := by
  obtain ⟨h1, h2, h3, h4, h5, h6, h7, h8⟩ := f
  have lo := div_lo (x := a * 4294967296 + b) (y := y1 * 4294967296 + y0) (by omega)
  have hi := div_hi (x := a * 4294967296 + b) (y := y1 * 4294967296 + y0) (by omega)
  rw [Int.add_mul] at hi
  omega

/-- Two digits make the quotient: X = (a * B + b) * B + c. -/
theorem two_digits {y a b c q1 q0 u : Int} (hy : 0 < y) (hu : u = a * 4294967296 + b - q1 * y) (hq : q0 = (u * 4294967296 + c) / y) :
    q1 * 4294967296 + q0 = ((a * 4294967296 + b) * 4294967296 + c) / y ∧ u * 4294967296 + c - q0 * y = ((a * 4294967296 + b) * 4294967296 + c) % y := by
  have e : (a * 4294967296 + b) * 4294967296 + c = (u * 4294967296 + c) + (q1 * 4294967296) * y := by
    rw [hu, show q1 * 4294967296 * y = q1 * y * 4294967296 by rw [Int.mul_assoc, Int.mul_comm 4294967296 y, ← Int.mul_assoc]]
    omega
  have hne : y ≠ 0 := by omega
  refine ⟨?_, ?_⟩
  · rw [e, Int.add_mul_ediv_right _ _ hne, ← hq]; omega
  · rw [e, Int.add_mul_emod_self_right, mod_eq, ← hq]

/-- Both sides times 2^s: the same quotient, the rest times 2^s. -/
theorem scaled_div {x y k : Int} (hk : 0 < k) : (x * k) / (y * k) = x / y := Int.mul_ediv_mul_of_pos_left x y hk
theorem scaled_mod {x y k : Int} (hk : 0 < k) : (x * k) % (y * k) = x % y * k := by
  rw [Int.mul_comm x, Int.mul_comm y, Int.mul_emod_mul_of_pos _ _ hk, Int.mul_comm]

/-- The numbers of the school's division, brought to a divisor of 64 bits: K and M are powers of 2, K * M = 2^64. -/
theorem norm {hi lo y K M : Int} (hKM : K * M = 18446744073709551616) (hK : 0 < K) (hM : 0 < M) (y1 : M ≤ 2 * y) (y2 : y < M) (h0 : 0 ≤ hi) (h1 : hi < y) (l0 : 0 ≤ lo) (l1 : lo < 18446744073709551616) :
    9223372036854775808 ≤ y * K ∧ y * K < 18446744073709551616 ∧ 0 ≤ hi * K ∧ hi * K < 18446744073709551616 ∧ 0 ≤ lo / M ∧ lo / M < K ∧ hi * K + lo / M < y * K ∧
    (lo * K) % 18446744073709551616 = (lo % M) * K ∧ (hi * K + lo / M) * 18446744073709551616 + (lo % M) * K = (hi * 18446744073709551616 + lo) * K := by
  have a1 : M * K ≤ 2 * y * K := Int.mul_le_mul_of_nonneg_right y1 (by omega)
  have a2 : (y + 1) * K ≤ M * K := Int.mul_le_mul_of_nonneg_right (by omega) (by omega)
  have a3 : (hi + 1) * K ≤ y * K := Int.mul_le_mul_of_nonneg_right (by omega) (by omega)
  have a4 : 0 ≤ hi * K := Int.mul_nonneg h0 (by omega)
  have e : M * K = 18446744073709551616 := by rw [Int.mul_comm]; exact hKM
  have a5 : lo / M < K := Int.ediv_lt_of_lt_mul hM (by rw [hKM]; exact l1)
  have a6 : 0 ≤ lo / M := Int.ediv_nonneg l0 (by omega)
  have a7 : (lo * K) % 18446744073709551616 = (lo % M) * K := by rw [← e]; exact scaled_mod hK
  have a8 : 2 * y * K = 2 * (y * K) := Int.mul_assoc ..
  have a9 : (y + 1) * K = y * K + K := by rw [Int.add_mul, Int.one_mul]
  have a10 : (hi + 1) * K = hi * K + K := by rw [Int.add_mul, Int.one_mul]
  refine ⟨by omega, by omega, a4, by omega, a6, a5, by omega, a7, ?_⟩
  have b1 : lo * K = lo / M * 18446744073709551616 + (lo % M) * K := by
    rw [← e, ← Int.mul_assoc, ← Int.add_mul, Int.ediv_mul_add_emod]
  have b2 : (hi * 18446744073709551616 + lo) * K = hi * K * 18446744073709551616 + lo * K := by
    rw [Int.add_mul, Int.mul_assoc, Int.mul_comm 18446744073709551616 K, ← Int.mul_assoc]
  rw [b2, b1]
  omega

/-- The quotient of a number below 0, rounded down. -/
theorem neg_div_exact {p c : Int} (hc : 0 < c) (h : p % c = 0) : (-p) / c = -(p / c) := by
  have e := mod_eq (x := p) (y := c)
  refine div_of hc ?_ ?_
  · rw [Int.neg_mul]; omega
  · rw [Int.add_mul, Int.neg_mul]; omega
theorem neg_div_more {p c : Int} (hc : 0 < c) (h : p % c ≠ 0) : (-p) / c = -(p / c) - 1 := by
  have e := mod_eq (x := p) (y := c)
  have m0 := Int.emod_nonneg p (show c ≠ 0 by omega)
  have m1 := Int.emod_lt_of_pos p hc
  refine div_of hc ?_ ?_
  · rw [Int.sub_mul, Int.neg_mul]; omega
  · rw [show -(p / c) - 1 + 1 = -(p / c) by omega, Int.neg_mul]; omega
theorem abs_mul_pos {a b : Int} (h : a < 0 ↔ b < 0) : (a.natAbs : Int) * (b.natAbs : Int) = a * b := by
  by_cases ha : a < 0
  · have hb := h.1 ha
    rw [show (a.natAbs : Int) = -a by omega, show (b.natAbs : Int) = -b by omega, Int.neg_mul_neg]
  · have hb : ¬ b < 0 := fun x => ha (h.2 x)
    rw [show (a.natAbs : Int) = a by omega, show (b.natAbs : Int) = b by omega]
theorem abs_mul_neg {a b : Int} (h : ¬ (a < 0 ↔ b < 0)) : a * b = -((a.natAbs : Int) * (b.natAbs : Int)) := by
  by_cases ha : a < 0
  · have hb : ¬ b < 0 := fun x => h ⟨fun _ => x, fun _ => ha⟩
    rw [show (a.natAbs : Int) = -a by omega, show (b.natAbs : Int) = b by omega, Int.neg_mul, Int.neg_neg]
  · have hb : b < 0 := Classical.byContradiction fun x => h ⟨fun y => absurd y ha, fun y => absurd y x⟩
    rw [show (a.natAbs : Int) = a by omega, show (b.natAbs : Int) = -b by omega, Int.mul_neg, Int.neg_neg]
theorem abs_mul_bd {a b : Int} (ha : a.natAbs ≤ 1125899906842624) (hb : b.natAbs ≤ 1125899906842624) : 0 ≤ (a.natAbs : Int) * (b.natAbs : Int) ∧ (a.natAbs : Int) * (b.natAbs : Int) ≤ 1267650600228229401496703205376 := by
  refine ⟨Int.mul_nonneg (by omega) (by omega), ?_⟩
  have := mul_le_of (q := a.natAbs) (p := 1125899906842624) (a := b.natAbs) (b := 1125899906842624) (by omega) (by omega) (by omega) (by omega)
  omega
/-- The high word of the product is below c just where the quotient is below 2^64. -/
theorem high_lt {p c : Int} (hc : 0 < c) (h : p / c ≤ 1125899906842624) : p / 18446744073709551616 < c := by
  refine Int.ediv_lt_of_lt_mul (by omega) ?_
  have h1 := div_hi (x := p) (y := c) hc
  have h2 : (p / c + 1) * c ≤ 18446744073709551616 * c := Int.mul_le_mul_of_nonneg_right (by omega) (by omega)
  omega

end Go.Proofs.YtkencmijghigiaaGreat.Plain

namespace Go.Proofs.YtkencmijghigiaaGreat.Plain

theorem mul_bd {x p X P : Int} (h1 : -X ≤ x) (h2 : x ≤ X) (h3 : -P ≤ p) (h4 : p ≤ P) : -(X * P) ≤ x * p ∧ x * p ≤ X * P := by
  have hX : 0 ≤ X := by omega
  have hP : 0 ≤ P := by omega
  obtain ⟨X', rfl⟩ := Int.eq_ofNat_of_zero_le hX
  obtain ⟨P', rfl⟩ := Int.eq_ofNat_of_zero_le hP
  have hx : x.natAbs ≤ X' := by omega
  have hp : p.natAbs ≤ P' := by omega
  have h := Nat.mul_le_mul hx hp
  rw [← Int.natAbs_mul] at h
  have e : ((X' : Int) * (P' : Int)) = ((X' * P' : Nat) : Int) := (Int.natCast_mul _ _).symm
  rw [e]
  omega

/-- x * p / 10^9, rounded down. -/
def share (x p : Int) : Int := x * p / 1000000000

theorem part_bd {x p : Int} (h1 : -17592186044416 ≤ x) (h2 : x ≤ 17592186044416) (h3 : -16777216 ≤ p) (h4 : p ≤ 16777216) : -300000000000 ≤ share x p ∧ share x p ≤ 300000000000 := by
  have h := mul_bd (X := 17592186044416) (P := 16777216) h1 h2 h3 h4
  unfold share
  omega

theorem grow_mono {x y p : Int} (h : x ≤ y) (hp : -1000000000 ≤ p) : x + share x p ≤ y + share y p := by
  have e : y * p = x * p + (y - x) * p := by rw [← Int.add_mul]; congr 1; omega
  have m : (y - x) * (-1000000000) ≤ (y - x) * p := Int.mul_le_mul_of_nonneg_left hp (by omega)
  unfold share
  omega

/-- r is the least number from lo on at which f reaches m. -/
def IsLeast (f : Int → Int) (lo hi m r : Int) : Prop := lo ≤ r ∧ r ≤ hi ∧ m ≤ f r ∧ ∀ l, lo ≤ l → l < r → f l < m

theorem IsLeast.unique {f : Int → Int} {lo hi m r s : Int} (h : IsLeast f lo hi m r) (k : IsLeast f lo hi m s) : r = s := by
  obtain ⟨h1, h2, h3, h4⟩ := h
  obtain ⟨k1, k2, k3, k4⟩ := k
  rcases Int.lt_trichotomy r s with x | x | x
  · have := k4 r h1 x; omega
  · exact x
  · have := h4 s k1 x; omega

/-- What a search keeps: below 'low' nothing reaches m, 'high' does. -/
def Between (f : Int → Int) (lo hi m low high : Int) : Prop := lo ≤ low ∧ low ≤ high ∧ high ≤ hi ∧ m ≤ f high ∧ ∀ l, lo ≤ l → l < low → f l < m

theorem Between.done {f : Int → Int} {lo hi m low : Int} (h : Between f lo hi m low low) : IsLeast f lo hi m low := by
  obtain ⟨h1, h2, h3, h4, h5⟩ := h
  exact ⟨h1, h3, h4, h5⟩
theorem Between.done' {f : Int → Int} {lo hi m low high : Int} (h : Between f lo hi m low high) (e : high ≤ low) : IsLeast f lo hi m high := by
  obtain ⟨h1, h2, h3, h4, h5⟩ := h
  obtain rfl : low = high := by omega
  exact ⟨h1, h3, h4, h5⟩
theorem Between.start {f : Int → Int} {lo hi m : Int} (h : lo ≤ hi) (k : m ≤ f hi) : Between f lo hi m lo hi := ⟨by omega, h, by omega, k, fun l h1 h2 => by omega⟩

theorem Between.hit {f : Int → Int} {lo hi m low high mid : Int} (h : Between f lo hi m low high) (h1 : low ≤ mid) (h2 : mid ≤ high) (h3 : m ≤ f mid) : Between f lo hi m low mid := by
  obtain ⟨a, b, c, d, e⟩ := h
  exact ⟨a, h1, by omega, h3, e⟩

theorem Between.miss {f : Int → Int} {lo hi m low high mid : Int} (mono : ∀ x y, x ≤ y → f x ≤ f y) (h : Between f lo hi m low high) (h1 : low ≤ mid) (h2 : mid < high) (h3 : f mid < m) : Between f lo hi m (mid + 1) high := by
  obtain ⟨a, b, c, d, e⟩ := h
  refine ⟨by omega, by omega, c, d, fun l l0 l1 => ?_⟩
  have := mono l mid (by omega)
  omega

end Go.Proofs.YtkencmijghigiaaGreat.Plain

namespace Go.Proofs.YtkencmijghigiaaGreat.Plain

/-- A clock's local time. -/
def locV (O P t : Int) : Int := t + O + share t P
/-- Offset and Ppb of a valid clock. -/
def OkC (O P : Int) : Prop := -1099511627776 ≤ O ∧ O ≤ 1099511627776 ∧ -200000 ≤ P ∧ P ≤ 200000
instance (O P : Int) : Decidable (OkC O P) := inferInstanceAs (Decidable (_ ∧ _))
/-- A valid time. -/
def Tick (t : Int) : Prop := 0 ≤ t ∧ t ≤ 1099511627776
instance (t : Int) : Decidable (Tick t) := inferInstanceAs (Decidable (_ ∧ _))

theorem part_bd' {x p : Int} (h1 : -1099511627776 ≤ x) (h2 : x ≤ 1099511627776) (h3 : -200000 ≤ p) (h4 : p ≤ 200000) : -219902325555200000 ≤ x * p ∧ x * p ≤ 219902325555200000 ∧ -219902326 ≤ share x p ∧ share x p ≤ 219902325 := by
  have h := mul_bd (X := 1099511627776) (P := 200000) h1 h2 h3 h4
  unfold share
  omega

theorem loc_bd {O P t : Int} (h : OkC O P) (ht : Tick t) : -1099731530102 ≤ locV O P t ∧ locV O P t ≤ 2199243157877 ∧ -219902326 ≤ share t P ∧ share t P ≤ 219902325 := by
  obtain ⟨h1, h2, h3, h4⟩ := h
  obtain ⟨k1, k2⟩ := ht
  have := part_bd' (x := t) (p := P) (by omega) (by omega) (by omega) (by omega)
  unfold locV
  omega

theorem loc_mono {O P x y : Int} (hP : -200000 ≤ P) (h : x ≤ y) : locV O P x ≤ locV O P y := by
  have := grow_mono (x := x) (y := y) (p := P) h (by omega)
  unfold locV
  omega

def okC (O P : Int) : Bool := decide (OkC O P)
def tickB (t : Int) : Bool := decide (Tick t)
def clkV (O P : Int) : Int := if OkC O P then 0 else 190
def localV (O P t : Int) : Int := if OkC O P ∧ Tick t then locV O P t else 0
def localE (O P t : Int) : Int := if OkC O P then if Tick t then 0 else 2 else 190

theorem ctmod_bd (x m : Int) (hm : 0 < m) : -m < x.tmod m ∧ x.tmod m < m := by
  rcases Int.le_total 0 x with h | h
  · rw [Int.tmod_eq_emod_of_nonneg h]
    have := Int.emod_nonneg x (show m ≠ 0 by omega)
    have := Int.emod_lt_of_pos x hm
    omega
  · obtain ⟨n, rfl⟩ : ∃ n, x = -n := ⟨-x, by omega⟩
    rw [Int.neg_tmod, Int.tmod_eq_emod_of_nonneg (by omega)]
    have := Int.emod_nonneg n (show m ≠ 0 by omega)
    have := Int.emod_lt_of_pos n hm
    omega

theorem clockDraft_ok (a b : Int) : OkC (a.tmod 1099511627777) (b.tmod 200001) := by
  have h1 := ctmod_bd a 1099511627777 (by decide)
  have h2 := ctmod_bd b 200001 (by decide)
  exact ⟨by omega, by omega, by omega, by omega⟩

def ElOk (t d : Int) : Prop := Tick t ∧ Tick d ∧ Tick (t + d)
instance (t d : Int) : Decidable (ElOk t d) := inferInstanceAs (Decidable (_ ∧ _))
def elV (O P t d : Int) : Int := if OkC O P ∧ ElOk t d then locV O P (t + d) - locV O P t else 0
def elE (O P t d : Int) : Int := if OkC O P then if ElOk t d then 0 else 2 else 190
def offV (O P O' P' t : Int) : Int := if (OkC O P ∧ OkC O' P') ∧ Tick t then locV O P t - locV O' P' t else 0
def offE (O P O' P' t : Int) : Int := if OkC O P ∧ OkC O' P' then if Tick t then 0 else 2 else 190
def BndOk (p d : Int) : Prop := 0 ≤ p ∧ p ≤ 200000 ∧ Tick d
instance (p d : Int) : Decidable (BndOk p d) := inferInstanceAs (Decidable (_ ∧ _))
def bndV (p d : Int) : Int := if BndOk p d then -share (-d) p else 0
def bndE (p d : Int) : Int := if BndOk p d then 0 else 2

end Go.Proofs.YtkencmijghigiaaGreat.Plain

namespace Go.Proofs.YtkencmijghigiaaGreat.Plain

/-- A valid exchange. -/
def OkX (a b c d : Int) : Prop := (-4398046511104 ≤ a ∧ a ≤ 4398046511104) ∧ (-4398046511104 ≤ b ∧ b ≤ 4398046511104) ∧ (-4398046511104 ≤ c ∧ c ≤ 4398046511104) ∧ (-4398046511104 ≤ d ∧ d ≤ 4398046511104) ∧ a ≤ d ∧ b ≤ c
instance (a b c d : Int) : Decidable (OkX a b c d) := inferInstanceAs (Decidable (_ ∧ _))
def xV (a b c d : Int) : Int := if OkX a b c d then 0 else 220
def okX (a b c d : Int) : Bool := decide (OkX a b c d)
/-- The measured delay. -/
def dlV (a b c d : Int) : Int := (d - a - (c - b)) / 2
def delV (a b c d : Int) : Int := if OkX a b c d then dlV a b c d else 0

/-- A measured rate, rounded down. -/
def rq (y z : Int) : Int := (z - y) * 1000000000 / y
/-- Both exchanges are valid (y: what the requester's clock advanced, z: the responder's). -/
def rtV (ok : Prop) [Decidable ok] (y z : Int) : Int := if ok then if 1 ≤ y then if -8388608 ≤ rq y z ∧ rq y z ≤ 8388608 then rq y z else 0 else 0 else 0
def rtE (ok : Prop) [Decidable ok] (y z : Int) : Int := if ok then if 1 ≤ y then if -8388608 ≤ rq y z ∧ rq y z ≤ 8388608 then 0 else 6 else 2 else 220

/-- Valid durations. -/
def Spn (t d u : Int) : Prop := Tick t ∧ Tick d ∧ Tick u ∧ t + 2 * d + u ≤ 1099511627776
instance (t d u : Int) : Decidable (Spn t d u) := inferInstanceAs (Decidable (_ ∧ _))

/-- The bound of a measured delay. -/
def dbV (p d u : Int) : Int := -((-(-share (-(2 * d + u)) p + -share (-u) p)) / 2)
def DbOk (p d u : Int) : Prop := (0 ≤ p ∧ p ≤ 200000) ∧ Spn 0 d u
instance (p d u : Int) : Decidable (DbOk p d u) := inferInstanceAs (Decidable (_ ∧ _))
def dblV (p d u : Int) : Int := if DbOk p d u then dbV p d u else 0
def dblE (p d u : Int) : Int := if DbOk p d u then 0 else 2
/-- The bound of a rate. -/
def rbV (y : Int) : Int := 82 - (-2001000000) / y
def RbOk (y : Int) : Prop := 1 ≤ y ∧ y ≤ 4398046511104
instance (y : Int) : Decidable (RbOk y) := inferInstanceAs (Decidable (_ ∧ _))
def rblV (y : Int) : Int := if RbOk y then rbV y else 0
def rblE (y : Int) : Int := if RbOk y then 0 else 2

/-- Nine digits behind the point: one digit more. -/
theorem digit_div {n y : Int} (hy : 0 < y) (p : Int) : (n * (p * 10)) / y = (n * p / y) * 10 + (n * p % y * 10) / y ∧ (n * (p * 10)) % y = (n * p % y * 10) % y := by
  have e : n * (p * 10) = n * p % y * 10 + (n * p / y) * 10 * y := by
    have := mod_eq (x := n * p) (y := y)
    rw [← Int.mul_assoc, show n * p / y * 10 * y = n * p / y * y * 10 by rw [Int.mul_assoc, Int.mul_comm 10 y, ← Int.mul_assoc]]
    omega
  constructor
  · rw [e, Int.add_mul_ediv_right _ _ (by omega)]; omega
  · rw [e, Int.add_mul_emod_self_right]

theorem dshare_le (x p : Int) : share x p * 1000000000 ≤ x * p := by unfold share; omega
theorem dshare_gt (x p : Int) : x * p < share x p * 1000000000 + 1000000000 := by unfold share; omega
/-- How far a clock advances in n ticks, against n * P / 10^9. -/
theorem dgain_bd (t n P : Int) : n * P - 1000000000 < (share (t + n) P - share t P) * 1000000000 ∧ (share (t + n) P - share t P) * 1000000000 < n * P + 1000000000 := by
  have a1 := dshare_le (t + n) P
  have a2 := dshare_gt (t + n) P
  have a3 := dshare_le t P
  have a4 := dshare_gt t P
  have e : (t + n) * P = t * P + n * P := Int.add_mul ..
  omega

/-- The gain is at most the drift. -/
theorem gain_drift {t n P p : Int} (hn : 0 ≤ n) (h1 : -p ≤ P) (h2 : P ≤ p) : -(-share (-n) p) ≤ share (t + n) P - share t P ∧ share (t + n) P - share t P ≤ -share (-n) p := by
  have g := dgain_bd t n P
  have u := mul_bd (x := n) (p := P) (X := n) (P := p) (by omega) (by omega) h1 h2
  have b1 := dshare_le (-n) p
  have b2 := dshare_gt (-n) p
  have e : -n * p = -(n * p) := Int.neg_mul ..
  omega

/-- A measured delay differs from that of the link by at most the bound. -/
theorem near_plain {O P O' P' t d u p : Int} (hd : 0 ≤ d) (hu : 0 ≤ u) (h1 : -p ≤ P) (h2 : P ≤ p) (h3 : -p ≤ P') (h4 : P' ≤ p) :
    d - dbV p d u ≤ dlV (locV O P t) (locV O' P' (t + d)) (locV O' P' (t + d + u)) (locV O P (t + 2 * d + u)) ∧
    dlV (locV O P t) (locV O' P' (t + d)) (locV O' P' (t + d + u)) (locV O P (t + 2 * d + u)) ≤ d + dbV p d u := by
  have g1 := gain_drift (t := t) (n := 2 * d + u) (P := P) (p := p) (by omega) h1 h2
  have g2 := gain_drift (t := t + d) (n := u) (P := P') (p := p) (by omega) h3 h4
  rw [show t + (2 * d + u) = t + 2 * d + u by omega] at g1
  unfold dlV dbV locV
  omega

/-- A measured rate differs from the difference of both rates by at most the bound: without the order of its error. -/
theorem rates_plain {t g P P' : Int} (hg : 0 ≤ g) (p1 : -200000 ≤ P) (p2 : P ≤ 200000) (p3 : -200000 ≤ P') (p4 : P' ≤ 200000) (y z : Int)
    (hy : y = g + (share (t + g) P - share t P)) (s : Int) (hz : z = g + (share (s + g) P' - share s P')) (h1 : 1 ≤ y) :
    P' - P - rbV y ≤ rq y z ∧ rq y z ≤ P' - P + rbV y := by
  have g1 := dgain_bd t g P
  have g2 := dgain_bd s g P'
  generalize share (t + g) P - share t P = S1 at *
  generalize share (s + g) P' - share s P' = S2 at *
  have u1 := mul_bd (x := g) (p := P) (X := g) (P := 200000) (by omega) (by omega) p1 p2
  -- |S1| * 10^9 < g * 200000 + 10^9
  obtain ⟨X, hX1, hX2, hX3⟩ : ∃ X, -X ≤ S1 ∧ S1 ≤ X ∧ X * 1000000000 ≤ 200000 * g + 1000000000 := ⟨S1.natAbs, by omega, by omega, by omega⟩
  have v := mul_bd (x := S1) (p := P' - P) (X := X) (P := 400000) hX1 hX2 (by omega) (by omega)
  -- the bound
  have k1 : 2001000000 ≤ (rbV y - 82) * y := by
    unfold rbV
    have := div_lo (x := -2001000000) (y := y) (by omega)
    rw [show 82 - -2001000000 / y - 82 = -(-2001000000 / y) by omega, Int.neg_mul]
    omega
  have e0 : y * (P' - P) = g * P' - g * P + S1 * (P' - P) := by rw [hy, Int.add_mul, Int.mul_sub]
  have hN : (z - y) = S2 - S1 := by omega
  have lo := div_lo (x := (z - y) * 1000000000) (y := y) (by omega)
  have hi := div_hi (x := (z - y) * 1000000000) (y := y) (by omega)
  have e1 : (rbV y - 82) * y = rbV y * y - 82 * y := Int.sub_mul ..
  constructor
  · -- N < (q + 1) y, and N ≥ (D - m) y
    rcases Int.lt_or_le (rq y z) (P' - P - rbV y) with h | h
    · have h' : (rq y z + 1) * y ≤ (P' - P - rbV y) * y := Int.mul_le_mul_of_nonneg_right (by omega) (by omega)
      rw [Int.sub_mul, Int.mul_comm (P' - P) y] at h'
      unfold rq at h'
      rw [hN] at hi h'
      omega
    · exact h
  · rcases Int.lt_or_le (P' - P + rbV y) (rq y z) with h | h
    · have h' : (P' - P + rbV y) * y ≤ rq y z * y := Int.mul_le_mul_of_nonneg_right (by omega) (by omega)
      rw [Int.add_mul, Int.mul_comm (P' - P) y] at h'
      unfold rq at h'
      rw [hN] at lo h'
      omega
    · exact h

end Go.Proofs.YtkencmijghigiaaGreat.Plain

namespace Go.Proofs.YtkencmijghigiaaGreat.Plain

/-- A servo's time at a local time. -/
def atV (L M P l : Int) : Int := M + (l - L) + share (l - L) P

theorem at_mono {L M P l k : Int} (h : l ≤ k) (hP : -1000000000 ≤ P) : atV L M P l ≤ atV L M P k := by
  have := grow_mono (x := l - L) (y := k - L) (p := P) (by omega) hP
  unfold atV
  omega

/-- Local, Master and Ppb of a valid servo. -/
def OkS (L M P : Int) : Prop := -4398046511104 ≤ L ∧ L ≤ 4398046511104 ∧ -4398046511104 ≤ M ∧ M ≤ 4398046511104 ∧ -8388608 ≤ P ∧ P ≤ 8388608
instance (L M P : Int) : Decidable (OkS L M P) := inferInstanceAs (Decidable (_ ∧ _))
/-- A valid time. -/
def Stamp (t : Int) : Prop := -4398046511104 ≤ t ∧ t ≤ 4398046511104
instance (t : Int) : Decidable (Stamp t) := inferInstanceAs (Decidable (_ ∧ _))
def okS (L M P : Int) : Bool := decide (OkS L M P)
def chkV (L M P : Int) : Int := if OkS L M P then 0 else 230
def timeV (L M P l : Int) : Int := if OkS L M P ∧ Stamp l then atV L M P l else 0
def timeE (L M P l : Int) : Int := if OkS L M P then if Stamp l then 0 else 2 else 230

theorem at_bd {L M P l : Int} (h : OkS L M P) (hl : Stamp l) : -14000000000000 ≤ atV L M P l ∧ atV L M P l ≤ 14000000000000 ∧ -300000000000 ≤ share (l - L) P ∧ share (l - L) P ≤ 300000000000 := by
  obtain ⟨h1, h2, h3, h4, h5, h6⟩ := h
  obtain ⟨k1, k2⟩ := hl
  have := part_bd (x := l - L) (p := P) (by omega) (by omega) (by omega) (by omega)
  unfold atV
  omega

/-- The arguments of Sync are allowed. -/
def SyncOk (L M P l m p : Int) : Prop := OkS L M P ∧ L ≤ l ∧ OkS l m p
instance (L M P l m p : Int) : Decidable (SyncOk L M P l m p) := inferInstanceAs (Decidable (_ ∧ _))
def syncL (L M P l m p : Int) : Int := if SyncOk L M P l m p then l else 0
def syncM (L M P l m p : Int) : Int := if SyncOk L M P l m p then m else 0
def syncP (L M P l m p : Int) : Int := if SyncOk L M P l m p then p else 0
def syncN (L M P l m p : Int) : Int := if SyncOk L M P l m p then m - atV L M P l else 0
def syncE (L M P l m p : Int) : Int := if OkS L M P then if SyncOk L M P l m p then 0 else 2 else 230

/-- The arguments of Bound are allowed. -/
def LimOk (e x r : Int) : Prop := 0 ≤ e ∧ e ≤ 4398046511104 ∧ 0 ≤ x ∧ x ≤ 4398046511104 ∧ 0 ≤ r ∧ r ≤ 8388608
instance (e x r : Int) : Decidable (LimOk e x r) := inferInstanceAs (Decidable (_ ∧ _))
def boundV (e x r : Int) : Int := e - share (-x) (r + 82) + 3

end Go.Proofs.YtkencmijghigiaaGreat.Plain

namespace Go.Proofs.YtkencmijghigiaaGreat.Plain

def Ratio (p : Int) : Prop := -8388608 ≤ p ∧ p ≤ 8388608
instance (p : Int) : Decidable (Ratio p) := inferInstanceAs (Decidable (_ ∧ _))
/-- Valid information. -/
def OkI (O C P : Int) : Prop := Stamp O ∧ Stamp C ∧ Ratio P
instance (O C P : Int) : Decidable (OkI O C P) := inferInstanceAs (Decidable (_ ∧ _))
def okI (O C P : Int) : Bool := decide (OkI O C P)
def infV (O C P : Int) : Int := if OkI O C P then 0 else 240

/-- Behind x ticks at the rate p. -/
def corV (C x p : Int) : Int := C + (x + share x p)

/-- Arrive: arguments allowed; the result is valid. -/
def ArrOk (O C P d r : Int) : Prop := OkI O C P ∧ (Stamp d ∧ Ratio r) ∧ OkI O (corV C d (P + r)) (P + r)
instance (O C P d r : Int) : Decidable (ArrOk O C P d r) := inferInstanceAs (Decidable (_ ∧ _))
def arrO (O C P d r : Int) : Int := if ArrOk O C P d r then O else 0
def arrC (O C P d r : Int) : Int := if ArrOk O C P d r then corV C d (P + r) else 0
def arrP (O C P d r : Int) : Int := if ArrOk O C P d r then P + r else 0
def arrE (O C P d r : Int) : Int := if OkI O C P then if Stamp d ∧ Ratio r then if OkI O (corV C d (P + r)) (P + r) then 0 else 6 else 2 else 240

def LvOk (O C P x : Int) : Prop := OkI O C P ∧ Tick x ∧ OkI O (corV C x P) P
instance (O C P x : Int) : Decidable (LvOk O C P x) := inferInstanceAs (Decidable (_ ∧ _))
def lvO (O C P x : Int) : Int := if LvOk O C P x then O else 0
def lvC (O C P x : Int) : Int := if LvOk O C P x then corV C x P else 0
def lvP (O C P x : Int) : Int := if LvOk O C P x then P else 0
def lvE (O C P x : Int) : Int := if OkI O C P then if Tick x then if OkI O (corV C x P) P then 0 else 6 else 2 else 240

def SetOk (O C P l : Int) : Prop := OkI O C P ∧ Stamp l ∧ Stamp (O + C)
instance (O C P l : Int) : Decidable (SetOk O C P l) := inferInstanceAs (Decidable (_ ∧ _))
def setL (O C P l : Int) : Int := if SetOk O C P l then l else 0
def setM (O C P l : Int) : Int := if SetOk O C P l then O + C else 0
def setP (O C P l : Int) : Int := if SetOk O C P l then P else 0
def setE (O C P l : Int) : Int := if OkI O C P then if Stamp l then if Stamp (O + C) then 0 else 6 else 2 else 240

def PbOk (e t d r : Int) : Prop := (0 ≤ e ∧ e ≤ 4398046511104) ∧ (0 ≤ t ∧ t ≤ 4398046511104) ∧ (0 ≤ d ∧ d ≤ 4398046511104) ∧ (0 ≤ r ∧ r ≤ 8388608)
instance (e t d r : Int) : Decidable (PbOk e t d r) := inferInstanceAs (Decidable (_ ∧ _))
def pbV (e t d r : Int) : Int := e + t - share (-(d + t)) (r + 600000) + 2
def pblV (e t d r : Int) : Int := if PbOk e t d r then pbV e t d r else 0
def pblE (e t d r : Int) : Int := if PbOk e t d r then 0 else 2

/-- Information that arrives over a link is wrong by at most the bound: n ticks of the link, its delay measured with the error D, the rate wrong by R; the time was wrong by E. -/
theorem pass_holds {t n P P' E D R : Int} (n0 : 0 ≤ n) (p1 : -200000 ≤ P) (p2 : P ≤ 200000) (p3 : -200000 ≤ P') (p4 : P' ≤ 200000) :
    n + (share (t + n) P - share t P) - pbV (max E (-E)) (max D (-D)) n (max R (-R)) ≤ E + (n + D + share (n + D) (P - P' + R)) ∧
    E + (n + D + share (n + D) (P - P' + R)) ≤ n + (share (t + n) P - share t P) + pbV (max E (-E)) (max D (-D)) n (max R (-R)) := by
  have a1 : share t P * 1000000000 ≤ t * P := by unfold share; omega
  have a2 : t * P < share t P * 1000000000 + 1000000000 := by unfold share; omega
  have a3 : share (t + n) P * 1000000000 ≤ (t + n) * P := by unfold share; omega
  have a4 : (t + n) * P < share (t + n) P * 1000000000 + 1000000000 := by unfold share; omega
  have a5 : (t + n) * P = t * P + n * P := Int.add_mul ..
  have hR1 : -(max R (-R)) ≤ R := by omega
  have hR2 : R ≤ max R (-R) := by omega
  have hE1 : -(max E (-E)) ≤ E := by omega
  have hE2 : E ≤ max E (-E) := by omega
  have hD1 : -(max D (-D)) ≤ D := by omega
  have hD2 : D ≤ max D (-D) := by omega
  generalize max R (-R) = r at *
  generalize max E (-E) = e at *
  generalize max D (-D) = b at *
  have u1 := mul_bd (x := n) (p := R - P') (X := n) (P := r + 200000) (by omega) (by omega) (by omega) (by omega)
  have u2 := mul_bd (x := D) (p := P - P' + R) (X := b) (P := r + 400000) hD1 hD2 (by omega) (by omega)
  have s1 : share (n + D) (P - P' + R) * 1000000000 ≤ (n + D) * (P - P' + R) := by unfold share; omega
  have s2 : (n + D) * (P - P' + R) < share (n + D) (P - P' + R) * 1000000000 + 1000000000 := by unfold share; omega
  have b1 : share (-(n + b)) (r + 600000) * 1000000000 ≤ -(n + b) * (r + 600000) := by unfold share; omega
  have e1 : (n + D) * (P - P' + R) = n * P + n * (R - P') + D * (P - P' + R) := by
    rw [Int.add_mul, show P - P' + R = P + (R - P') by omega, Int.mul_add]
  have e2 : -(n + b) * (r + 600000) = -(n * (r + 200000)) - n * 400000 - b * (r + 400000) - b * 200000 := by
    rw [Int.neg_mul, Int.add_mul, show r + 600000 = r + 200000 + 400000 by omega, Int.mul_add, show r + 200000 + 400000 = r + 400000 + 200000 by omega, Int.mul_add b]
    omega
  have b0 : 0 ≤ b * 200000 := by omega
  unfold pbV
  generalize share (n + D) (P - P' + R) = sX at *
  generalize share (-(n + b)) (r + 600000) = sB at *
  omega

end Go.Proofs.YtkencmijghigiaaGreat.Plain

namespace Go.Proofs.YtkencmijghigiaaGreat
open Go.RowKit Go.Lib

section
variable {P : Program} {w : World} {ops : Array Oper} {rest : List Oper} {o : Oper} {a : Act} {Q : Exit → Act → World → Prop}

theorem add_off (b i j : Nat) : (⟨b, i, none⟩ : Addr).add j = ⟨b, i + j, none⟩ := by unfold Addr.add; split <;> simp_all

theorem run_loadVar_whole (t : TypeId) (b off : Nat) (c : List Value) (hagg : ∀ w, (isAgg t).run P w = .ok true w) (hsz : ∀ w, (sizeOf t).run P w = .ok c.length w) (hc : ∀ j v, c[j]? = some v → w.cell? ⟨b, off + j, none⟩ = some v) :
    (loadVar t ⟨b, off, none⟩).run P w = .ok (.agg c.toArray) w := by
  have h := run_loadCells_list (P := P) w ⟨b, off, none⟩ c (fun j v hv => by rw [add_off]; exact hc j v hv)
  simp [loadVar, hagg, hsz, h]

theorem wpList_load_whole (hgd : o.guard = none) (x : Operand) (t : TypeId) (ho : o.op = .load t x) (b off : Nat) (c : List Value) (hx : a.eval x = .pointer (some ⟨b, off, none⟩)) (hagg : ∀ w, (isAgg t).run P w = .ok true w) (hsz : ∀ w, (sizeOf t).run P w = .ok c.length w)
    (hc : ∀ j v, c[j]? = some v → w.cell? ⟨b, off + j, none⟩ = some v) (h : wpList P ops Q rest (a.put o.dst (.agg c.toArray)) w) : wpList P ops Q (o :: rest) a w := by
  refine wpList_plain hgd fun K hK => ?_
  have hrun := run_loadVar_whole (P := P) (w := w) t b off c hagg hsz hc
  unfold Oper.wp
  simp [execOp, ho, hx, Instr.loadAt, Instr.sureAddr, hrun, Result.andThen]
  exact hK _ _ h

theorem below_setCells {B b : Nat} {w0 : World} (hB : B ≤ b) : ∀ (vs : List Value) (o : Nat) (w : World), Below B w0 w → Below B w0 (w.setCells b o vs)
  | [], _, _, h => h
  | v :: r, o, _, h => below_setCells hB r (o + 1) _ (h.setCell hB v)

/-- What is left behind the write: the block's cells; all else as it was. -/
structure Wrote (b off : Nat) (c : List Value) (w w' : World) : Prop where
  here : ∀ j v, c[j]? = some v → w'.cell? ⟨b, off + j, none⟩ = some v
  far : ∀ k o, k ≠ b → w'.cell? ⟨k, o, none⟩ = w.cell? ⟨k, o, none⟩
  frozen : ∀ x, w'.frozen? x = w.frozen? x
  size : w'.heap.size = w.heap.size
  below : ∀ B w0, B ≤ b → Below B w0 w → Below B w0 w'

theorem size_setCells (b : Nat) : ∀ (vs : List Value) (o : Nat) (w : World), (w.setCells b o vs).heap.size = w.heap.size
  | [], _, _ => rfl
  | v :: r, o, w => by rw [World.setCells, size_setCells b r (o + 1)]; simp

theorem wrote_setCells (b off : Nat) (c : List Value) (w : World) (hc : ∀ j, j < c.length → (w.cell? ⟨b, off + j, none⟩).isSome = true) : Wrote b off c w (w.setCells b off c) where
  here j v hv := by
    obtain ⟨hj, rfl⟩ := List.getElem?_eq_some_iff.1 hv
    exact World.cell?_setCells_in b c off w hc j hj
  far k o hk := World.cell?_setCells_out b c off w ⟨k, o, none⟩ (fun e => absurd e hk)
  frozen x := World.frozen?_setCells b c off w x
  size := size_setCells b c off w
  below B w0 hB h := below_setCells hB c off w h

theorem run_storeVar_whole (t : TypeId) (b off : Nat) (c : List Value) (hsz : ∀ w, (sizeOf t).run P w = .ok c.length w) (hc : ∀ j, j < c.length → (w.cell? ⟨b, off + j, none⟩).isSome = true) (hf : ∀ j, j < c.length → w.frozen? ⟨b, off + j, none⟩ = false) (h1 : ∀ v ∈ c, v.oneCell' = true) :
    (storeVar t ⟨b, off, none⟩ (.agg c.toArray)).run P w = .ok () (w.setCells b off c) := by
  have h := run_storeCells_cells (P := P) b off c 0 w (by simpa using hc) (by simpa using hf) h1
  simp at h
  simp [storeVar, hsz, Value.cells, h]

theorem wpList_store_whole (hgd : o.guard = none) (x v : Operand) (t : TypeId) (ho : o.op = .store t x v) (b off : Nat) (c : List Value) (hx : a.eval x = .pointer (some ⟨b, off, none⟩)) (hv : a.eval v = .agg c.toArray) (hsz : ∀ w, (sizeOf t).run P w = .ok c.length w)
    (hc : ∀ j, j < c.length → (w.cell? ⟨b, off + j, none⟩).isSome = true) (hf : ∀ j, j < c.length → w.frozen? ⟨b, off + j, none⟩ = false) (h1 : ∀ v ∈ c, v.oneCell' = true)
    (h : ∀ w', Wrote b off c w w' → wpList P ops Q rest (a.put o.dst undef) w') : wpList P ops Q (o :: rest) a w := by
  refine wpList_plain hgd fun K hK => ?_
  have hrun := run_storeVar_whole (P := P) (w := w) t b off c hsz hc hf h1
  unfold Oper.wp
  simp [execOp, ho, hx, hv, Instr.storeAt, Instr.sureAddr, hrun, Result.andThen]
  exact hK _ _ (h _ (wrote_setCells b off c w hc))

/-- The cells of a block, as a list. -/
def Holds (w : World) (b : Nat) (c : List Value) : Prop := ∀ j v, c[j]? = some v → w.cell? ⟨b, 0 + j, none⟩ = some v
theorem holds_alloc (w : World) (c : List Value) (t : TypeId) {b : Nat} (hb : b = w.heap.size) : Holds (w.alloc (.cells c.toArray t)) b c := fun j v hv => by
  subst hb
  simp [go_sem, hv]
theorem Holds.alloc {b : Nat} {c : List Value} (h : Holds w b c) (hb : b < w.heap.size) (o : Obj) : Holds (w.alloc o) b c := fun j v hv => by
  rw [World.cell?_alloc_lt _ _ _ hb]; exact h j v hv
theorem Holds.keep {W : World} {b : Nat} {c : List Value} (h : Holds w b c) (hb : Below w.heap.size w W) : Holds W b c := fun j v hv => below_keep hb (h j v hv)
theorem Holds.some {b : Nat} {c : List Value} (h : Holds w b c) (j : Nat) (hj : j < c.length) : (w.cell? ⟨b, 0 + j, none⟩).isSome = true := by
  rw [h j _ (List.getElem?_eq_getElem hj)]; rfl
theorem Holds.wrote {W : World} {b b' off : Nat} {c c' : List Value} (h : Holds w b c) (k : Wrote b' off c' w W) (hne : b ≠ b') : Holds W b c := fun j v hv => by
  rw [k.far _ _ hne]; exact h j v hv
theorem frozen_new (w : World) (c : Array Value) (t : TypeId) (o : Nat) {b : Nat} (hb : b = w.heap.size) : (w.alloc (.cells c t)).frozen? ⟨b, o, none⟩ = false := by
  subst hb
  simp [go_sem]

theorem results_cell_tmp {fn : Func} {tmps : Array Value} (s s2 : Nat) (t : TypeId) (hr : fn.results = #[.cell s t, .tmp s2]) (b off : Nat) (v x : Value) (hs : tmps.getD s undef = .pointer (some ⟨b, off, none⟩)) (hL : (loadVar t ⟨b, off, none⟩).run P w = .ok v w) (hx : tmps.getD s2 undef = x) :
    (results fn tmps).run P w = .ok (.tuple #[v, x]) w := by
  simp only [Array.getD_eq_getD_getElem?] at hs hx
  simp [results, hr, hs, hx, hL, asAddr]
theorem results_cell {fn : Func} {tmps : Array Value} (s : Nat) (t : TypeId) (hr : fn.results = #[.cell s t]) (b off : Nat) (v : Value) (hs : tmps.getD s undef = .pointer (some ⟨b, off, none⟩)) (hL : (loadVar t ⟨b, off, none⟩).run P w = .ok v w) :
    (results fn tmps).run P w = .ok v w := by
  simp only [Array.getD_eq_getD_getElem?] at hs
  simp [results, hr, hs, hL, asAddr]

/-- The same, of an operation that stands under a guard that holds. -/
theorem wpList_load_wanted (hw : Region.wanted o (yielded ops a.tmps) = true) (x : Operand) (t : TypeId) (ho : o.op = .load t x) (b off : Nat) (c : List Value) (hx : a.eval x = .pointer (some ⟨b, off, none⟩)) (hagg : ∀ w, (isAgg t).run P w = .ok true w) (hsz : ∀ w, (sizeOf t).run P w = .ok c.length w)
    (hc : ∀ j v, c[j]? = some v → w.cell? ⟨b, off + j, none⟩ = some v) (h : wpList P ops Q rest (a.put o.dst (.agg c.toArray)) w) : wpList P ops Q (o :: rest) a w := by
  refine wpList_step fun K hK => ?_
  rw [if_pos hw]
  have hrun := run_loadVar_whole (P := P) (w := w) t b off c hagg hsz hc
  unfold Oper.wp
  simp [execOp, ho, hx, Instr.loadAt, Instr.sureAddr, hrun, Result.andThen]
  exact hK _ _ h

theorem Holds.set {b : Nat} {c : List Value} (h : Holds w b c) (k : Nat) (v : Value) : Holds (w.setCell ⟨b, k, none⟩ v) b (c.set k v) := fun j u hu => by
  rw [List.getElem?_set] at hu
  by_cases e : k = j
  · subst e
    by_cases l : k < c.length
    · simp [l] at hu
      subst hu
      have := h k _ (List.getElem?_eq_getElem l)
      simp only [Nat.zero_add] at this ⊢
      exact World.cell?_setCell_same _ _ _ this
    · simp [l] at hu
  · rw [if_neg e] at hu
    rw [World.cell?_setCell_other (h := by intro x; injection x with _ x _; omega)]
    exact h j u hu
theorem Holds.far {b b' o : Nat} {c : List Value} (h : Holds w b c) (hne : b' ≠ b) (v : Value) : Holds (w.setCell ⟨b', o, none⟩ v) b c := fun j u hu => by
  rw [World.cell?_setCell_far _ _ _ _ hne]; exact h j u hu
theorem Holds.drew {b : Nat} {c : List Value} (h : Holds w b c) : Holds w.drew b c := fun j u hu => by
  have := h j u hu
  simpa [go_sem] using this
theorem Holds.drewN {b : Nat} {c : List Value} (h : Holds w b c) (n : Nat) : Holds (w.drewN n) b c := fun j u hu => by
  have := h j u hu
  simpa [go_sem] using this
end

end Go.Proofs.YtkencmijghigiaaGreat

namespace Go.Proofs.YtkencmijghigiaaGreat

section
variable {P : Program} {w : World} {ops : Array Oper} {rest : List Oper} {a : Act} {Q : Exit → Act → World → Prop} {d : Option Tmp} {ty : TypeId} {pos : String} {af : Array Edge} {g : Option (Tmp × Bool)}
theorem at_load (t : TypeId) (x : Operand) (h : wpList P ops Q (⟨d, .load t x, ty, pos, af, g⟩ :: rest) a w) : wpList P ops Q (⟨d, .load t x, ty, pos, af, g⟩ :: rest) a w := h
theorem at_store (t : TypeId) (x v : Operand) (h : wpList P ops Q (⟨d, .store t x v, ty, pos, af, g⟩ :: rest) a w) : wpList P ops Q (⟨d, .store t x v, ty, pos, af, g⟩ :: rest) a w := h
theorem at_op (o : Op) (h : wpList P ops Q (⟨d, o, ty, pos, af, g⟩ :: rest) a w) : wpList P ops Q (⟨d, o, ty, pos, af, g⟩ :: rest) a w := h
end

end Go.Proofs.YtkencmijghigiaaGreat

namespace Go.Proofs.YtkencmijghigiaaGreat
open Go.RowKit

section
variable {P : Program} {ops : Array Oper} {md : Region.Mode} {C : World → Prop}

/-- f operations of the head come up, whatever the order; then L holds. -/
def HeadQ (P : Program) (md : Region.Mode) (ops : Array Oper) (C : World → Prop) (n : Nat) (L : Array Bool → Act → Prop) : Nat → Array Bool → Act → Prop
  | 0, done, a => L done a
  | f + 1, done, a => Region.ready md ops done ≠ [] ∧ ∀ i ∈ Region.ready md ops done, i < n ∧ qOp P ops C i (HeadQ P md ops C n L f (done.setIfInBounds i true)) a

theorem HeadQ.any {n g : Nat} {L : Array Bool → Act → Prop} {Q' : Exit → Act → World → Prop} (hL : ∀ done a w, C w → L done a → wpAny P md ops Q' g done a w) :
    ∀ (f : Nat) (done : Array Bool) (a : Act) (w : World), C w → HeadQ P md ops C n L f done a → wpAny P md ops Q' (f + g) done a w := by
  intro f
  induction f with
  | zero =>
    intro done a w hw h
    rw [Nat.zero_add]
    exact hL _ _ _ hw h
  | succ f ih =>
    intro done a w hw h
    rw [Nat.succ_add]
    refine ⟨fun e => absurd e h.1, fun i hi => wpOp_of_qOp hw (fun a' w' hw' h' => ih _ a' w' hw' h') (h.2 i hi).2⟩

theorem HeadQ.take {n i : Nat} {oi : Oper} {v : Value} {L : Array Bool → Act → Prop} (hi : ops[i]? = some oi) (hsel : Region.noSelect ops = true)
    (hs : Region.sinkB md ops n = true) (hc : Region.chainB md ops n = true) (hn : n < ops.size) (hin : i < n) (hend : ∀ done a, L done a → ∀ j ∈ Region.ready md ops done, n ≤ j) :
    ∀ (f : Nat) (done : Array Bool) (a : Act), HeadInv md ops n done →
      (∀ j oj, ops[j]? = some oj → j ≠ i → done.getD j true = false → (∀ e ∈ oj.after, Region.binds md e = true → e.on ≠ i) → oi.apart ops oj = true) →
      i ∈ Region.ready md ops done → YieldsIn P ops C oi v a → HeadQ P md ops C n L f (done.setIfInBounds i true) (a.put oi.dst v) → HeadQ P md ops C n L (f + 1) done a := by
  have sel := fun j o cs b (h : ops[j]? = some o) => Region.noSelect_spec hsel j o cs b h
  intro f
  induction f with
  | zero =>
    intro done a inv _ hr hy H
    refine ⟨List.ne_nil_of_mem hr, fun j hj => ?_⟩
    have hjn : j < n := Nat.lt_of_not_le fun x => tail_waits hs hc hn inv _ i rfl hin (mem_ready.1 hr).1 j x hj
    refine ⟨hjn, ?_⟩
    by_cases e : j = i
    · subst e; exact hy.qOp hi H
    · exact absurd (hend _ _ H j (ready_mono hj e)) (by omega)
  | succ f ih =>
    intro done a inv hfree hr hy H
    refine ⟨List.ne_nil_of_mem hr, fun j hj => ?_⟩
    have hun := (mem_ready.1 hr).1
    have hjn : j < n := Nat.lt_of_not_le fun x => tail_waits hs hc hn inv _ i rfl hin hun j x hj
    refine ⟨hjn, ?_⟩
    by_cases e : j = i
    · subst e; exact hy.qOp hi H
    · obtain ⟨hjun, oj, hoj, hall⟩ := mem_ready.1 hj
      have hnot : ∀ x ∈ oj.after, Region.binds md x = true → x.on ≠ i := fun x hx hb he => by
        have := hall x hx hb
        rw [he, getD_both hun] at this
        exact absurd this (by simp)
      have hq := qOp_put hoj (hfree j oj hoj e hjun hnot) (fun cs b => sel i oi cs b hi) (fun cs b => sel j oj cs b hoj) hy (H.2 j (ready_mono hj e)).2
      refine qOp_mono (fun a' h3 => ih _ a' (inv.set hj hjn) (fun k ok hk hki hku hno => ?_) (ready_mono hr (Ne.symm e)) h3.1 (by rw [Array.setIfInBounds_comm _ _ e]; exact h3.2)) hq
      refine hfree k ok hk hki ?_ hno
      by_cases hjk : j = k
      · subst hjk; exact hjun
      · rwa [getD_set_ne true hjk] at hku

theorem HeadQ.lex {n g : Nat} {Lq : Act → Prop} (hsel : Region.noSelect ops = true) (hs : Region.sinkB md ops n = true) (hc : Region.chainB md ops n = true) (hn : n < ops.size) :
    ∀ (l : List Oper) (k : Nat) (done : Array Bool) (a : Act), (∀ j, j < l.length → l[j]? = ops[k + j]?) → k + l.length = n → HeadInv md ops n done →
      Region.lexHead md ops g l.length k done = true → wpQuiet P ops C Lq l a → HeadQ P md ops C n (fun done' a' => Region.seqB md ops g n done' = true ∧ Lq a') l.length done a := by
  intro l
  induction l with
  | nil =>
    intro k done a _ hk _ hB h
    obtain rfl : k = n := by simpa using hk
    exact ⟨by simpa [Region.lexHead] using hB, h⟩
  | cons o l ih =>
    intro k done a hl hk inv hB h
    have h0 : ops[k]? = some o := by simpa using (hl 0 (by simp)).symm
    simp only [List.length_cons, Region.lexHead, Bool.and_eq_true] at hB
    obtain ⟨⟨hr, hf⟩, hB'⟩ := hB
    have hkn : k < n := by simp only [List.length_cons] at hk; omega
    have hr' : k ∈ Region.ready md ops done := by simpa using hr
    have hq : qOp P ops C k (wpQuiet P ops C Lq l) a := by unfold qOp; simp only [h0]; exact h
    obtain ⟨v, hy, hK⟩ := yieldsIn_of_qOp h0 hq
    refine HeadQ.take h0 hsel hs hc hn hkn (fun done' a' hL => seqB_ready hL.1) l.length done a inv (Region.free_spec h0 hf) hr' hy
      (ih (k + 1) _ _ (fun j hj => ?_) (by simp only [List.length_cons] at hk; omega) (inv.set hr' hkn) hB' hK)
    have := hl (j + 1) (by simp; omega)
    simpa [Nat.add_assoc, Nat.add_comm 1 j] using this

theorem wp_region_quiet_tail {id : Nat} {Q : Exit → Act → World → Prop} {a : Act} {w : World} {l : List Oper} (n : Nat) (hm : P.follows .mixedOrders = true) (hB : Region.lexTailB .any l.toArray n = true)
    (h : wpQuiet P l.toArray (fun w' => ∃ p : Regrown, w' = Go.Sort.grow (redrawn w p.d) p.os) (fun a' => ∀ w', (∃ p : Regrown, w' = Go.Sort.grow (redrawn w p.d) p.os) → wpList P l.toArray Q (l.drop n) a' w') (l.take n) a) :
    (Code.region id l.toArray true).wp P Q a w := by
  simp only [Region.lexTailB, Bool.and_eq_true, decide_eq_true_eq] at hB
  obtain ⟨⟨⟨⟨hsel, hn⟩, hs⟩, hc⟩, hlex⟩ := hB
  have hn' : n < l.length := by simpa using hn
  have htl : (l.take n).length = n := by simp; omega
  have hdl : (l.drop n).length = l.toArray.size - n := by simp
  have inv0 : HeadInv .any l.toArray n (Array.replicate l.toArray.size false) :=
    ⟨by simp, fun j oj _ hl => absurd hl (by rw [getD_replicate_false]; simp), fun t _ ht => getD_in (by simpa using ht) (getD_replicate_false _ _)⟩
  have H := HeadQ.lex (md := .any) (g := l.toArray.size - n) hsel hs hc hn (l.take n) 0 _ a (fun j hj => by
    have hj' : j < n := by rw [htl] at hj; exact hj
    simp [hj']) (by simpa using htl) inv0 (by rw [htl]; exact hlex) h
  refine wp_region_any hm ?_
  have := HeadQ.any (Q' := Q) (g := l.toArray.size - n) (fun done a' w' hw hL => by
    have := wpAny_of_seq (md := .any) (Q' := Q) (l.drop n) n done a' w' (fun j => by simp [List.getElem?_drop]) (by rw [hdl]; exact hL.1) (hL.2 w' hw)
    rwa [hdl] at this) _ _ _ { w with drawn := w.drawn + 1 } ⟨⟨w.drawn + 1, #[]⟩, by rw [Go.Sort.grow_empty]; rfl⟩ H
  rw [htl, show n + (l.toArray.size - n) = l.toArray.size by omega] at this
  exact this
end

/-- The world under a name. -/
theorem wp_world {P : Program} {c : Code} {Q : Exit → Act → World → Prop} {a : Act} {w : World} (h : ∀ W, W = w → c.wp P Q a W) : c.wp P Q a w := h w rfl

end Go.Proofs.YtkencmijghigiaaGreat

namespace Go.Proofs.YtkencmijghigiaaGreat
open Go.RowKit Go.Lib

section
variable {P : Program} {ops : Array Oper} {rest : List Oper} {o : Oper} {a : Act} {C : World → Prop} {Lq : Act → Prop}
theorem wpQuiet_load_whole (hgd : o.guard = none) (x : Operand) (t : TypeId) (ho : o.op = .load t x) (b off : Nat) (c : List Value) (hx : a.eval x = .pointer (some ⟨b, off, none⟩)) (hagg : ∀ w, (isAgg t).run P w = .ok true w) (hsz : ∀ w, (sizeOf t).run P w = .ok c.length w)
    (hc : ∀ w, C w → ∀ j v, c[j]? = some v → w.cell? ⟨b, off + j, none⟩ = some v) (h : wpQuiet P ops C Lq rest (a.put o.dst (.agg c.toArray))) : wpQuiet P ops C Lq (o :: rest) a := by
  refine wpQuiet_step fun K hK => ?_
  rw [if_pos (by simp [Region.wanted, hgd])]
  refine ⟨.agg c.toArray, fun w hw => ?_, hK _ h⟩
  have hrun := run_loadVar_whole (P := P) (w := w) t b off c hagg hsz (hc w hw)
  unfold Oper.quietAt
  simp [execOp, ho, hx, Instr.loadAt, Instr.sureAddr, hrun, Result.andThen, Oper.quietUpon]
theorem wpQuiet_load_wanted (hw : Region.wanted o (yielded ops a.tmps) = true) (x : Operand) (t : TypeId) (ho : o.op = .load t x) (b off : Nat) (c : List Value) (hx : a.eval x = .pointer (some ⟨b, off, none⟩)) (hagg : ∀ w, (isAgg t).run P w = .ok true w) (hsz : ∀ w, (sizeOf t).run P w = .ok c.length w)
    (hc : ∀ w, C w → ∀ j v, c[j]? = some v → w.cell? ⟨b, off + j, none⟩ = some v) (h : wpQuiet P ops C Lq rest (a.put o.dst (.agg c.toArray))) : wpQuiet P ops C Lq (o :: rest) a := by
  refine wpQuiet_step fun K hK => ?_
  rw [if_pos hw]
  refine ⟨.agg c.toArray, fun w hw => ?_, hK _ h⟩
  have hrun := run_loadVar_whole (P := P) (w := w) t b off c hagg hsz (hc w hw)
  unfold Oper.quietAt
  simp [execOp, ho, hx, Instr.loadAt, Instr.sureAddr, hrun, Result.andThen, Oper.quietUpon]
theorem at_qload {d : Option Tmp} {ty : TypeId} {pos : String} {af : Array Edge} {g : Option (Tmp × Bool)} (t : TypeId) (x : Operand) (h : wpQuiet P ops C Lq (⟨d, .load t x, ty, pos, af, g⟩ :: rest) a) : wpQuiet P ops C Lq (⟨d, .load t x, ty, pos, af, g⟩ :: rest) a := h
theorem holds_regrown {w : World} {b : Nat} {c : List Value} (h : Holds w b c) : ∀ w', (∃ p : Regrown, w' = Go.Sort.grow (redrawn w p.d) p.os) → ∀ j v, c[j]? = some v → w'.cell? ⟨b, 0 + j, none⟩ = some v := by
  rintro w' ⟨p, rfl⟩ j v hv
  exact cell_regrown (h j v hv) p.d p.os
end

end Go.Proofs.YtkencmijghigiaaGreat

namespace Go.Proofs.YtkencmijghigiaaGreat
open Go.RowKit Go.Lib

section
variable {P : Program} {w w' : World} {ops : Array Oper} {rest : List Oper} {o : Oper} {a : Act} {Q : Exit → Act → World → Prop} {x : Value}
theorem wpList_run (hgd : o.guard = none) (h : (execOp a.eval o).run P w = .ok (.value x) w') (hn : wpList P ops Q rest (a.put o.dst x) w') : wpList P ops Q (o :: rest) a w := by
  refine wpList_plain hgd fun K hK => ?_
  unfold Oper.wp
  rw [h]
  exact hK _ _ hn
theorem run_alloc {t : TypeId} (ho : o.op = .alloc t) (h : (Instr.alloc t true (.tuple #[])).run P w = .ok x w') : (execOp a.eval o).run P w = .ok (.value x) w' := by simp [execOp, ho, h, Result.andThen]
theorem run_build {t : TypeId} {ps : Array (Nat × Operand)} {qs : Array (Nat × Value)} (ho : o.op = .build t ps) (hq : ps.map (fun (i, x) => (i, a.eval x)) = qs) (h : (Instr.build t qs).run P w = .ok x w') : (execOp a.eval o).run P w = .ok (.value x) w' := by
  subst hq
  simp [execOp, ho, h, Result.andThen]
end

end Go.Proofs.YtkencmijghigiaaGreat

namespace Go.Proofs.YtkencmijghigiaaGreat
open Go.RowKit Go.Lib
open Go.Maps (Keyed)

theorem wf64 {a : Int} (h0 : -9223372036854775808 ≤ a) (h1 : a ≤ 9223372036854775807) : (Lit.int .i64 a).wf = true := WalkArith.wf_i64 ⟨h0, h1⟩
theorem laidL : laidOutB Tryz.prog = true := by kernel_rfl
theorem rowL : (55 : TypeId) < (Tryz.prog).types.size := of_decide_eq_true (by kernel_rfl)
theorem wideL : (match (Tryz.prog).underlying 55 with | some (.array _ _) | some (.struct _) => true | _ => false) = true := by rw [Tryz.underlying55]
theorem typL : (Tryz.prog).keyTypeAt 2 55 = true := by kernel_rfl
set_option maxRecDepth 100000 in
theorem lawL : Keyed Tryz.prog 55 := Keyed.of_law (deep_law_laid laidL (m := 2) (by omega) rowL typL wideL)
theorem zeroB (w : World) : (zeroValue 4).run Tryz.prog w = .ok (.bool false) w := by kernel_rfl
/-- What a loss reads as, as a key. -/
def klL (s x : Int) : Lit := .string (keyBytes [.int .i64 s, .int .i64 x])
theorem keyL {s x : Int} (hs : (Lit.int .i64 s).wf = true) (hx : (Lit.int .i64 x).wf = true) : keyOf Tryz.prog 55 (.agg #[.int .i64 s, .int .i64 x]) = some (klL s x) := by
  obtain ⟨m, hm⟩ : ∃ m, (Tryz.prog).types.size = m + 1 := ⟨(Tryz.prog).types.size - 1, by kernel_rfl⟩
  have h1 : (Tryz.prog).keyType 55 = true := by kernel_rfl
  have h2 : (Tryz.prog).cellsOf 55 = 2 := by kernel_rfl
  have h3 : (Tryz.prog).cellsOf 3 = 1 := by kernel_rfl
  unfold keyOf
  rw [Tryz.underlying55]
  simp only [h1, Bool.true_and]
  rw [if_pos (by simp [Value.formed, Tryz.underlying55, h2]), hm]
  simp [Program.keyLits, Tryz.underlying55, Tryz.underlying3, h2, h3, Value.cells, hs, hx, klL]
theorem klL_inj {s x s' x' : Int} (hs : (Lit.int .i64 s).wf = true) (hx : (Lit.int .i64 x).wf = true) (hs' : (Lit.int .i64 s').wf = true) (hx' : (Lit.int .i64 x').wf = true) (h : klL s x = klL s' x') : s = s' ∧ x = x' := by
  have h1 := lawL.inj (keyL hs hx) (by rw [h]; exact keyL hs' hx')
  simpa using h1

/-- The map that holds just these losses. -/
def mapL (ls : List (Int × Int)) : DataW Unit := ls.foldl (fun D x => D.put (klL x.1 x.2) (.lit (.bool true))) (.map [])
theorem mapL_snoc (ls : List (Int × Int)) (x : Int × Int) : mapL (ls ++ [x]) = (mapL ls).put (klL x.1 x.2) (.lit (.bool true)) := by simp [mapL]
def WfL (x : Int × Int) : Prop := (Lit.int .i64 x.1).wf = true ∧ (Lit.int .i64 x.2).wf = true
theorem mapL_at : ∀ (rs : List (Int × Int)) (x : Int × Int), (∀ y ∈ rs.reverse, WfL y) → WfL x → Maps.IsMap (mapL rs.reverse) ∧ (mapL rs.reverse).atKey (klL x.1 x.2) (.lit (.bool false)) = .lit (.bool (decide (x ∈ rs.reverse))) := by
  intro rs
  induction rs with
  | nil => intro x _ _; exact ⟨Maps.isMap_empty, by simp [mapL]; rfl⟩
  | cons r rs ih =>
    intro x hw hx
    have hr : WfL r := hw r (by simp)
    obtain ⟨i1, i2⟩ := ih x (fun y hy => hw y (by simp at hy ⊢; exact .inl hy)) hx
    rw [List.reverse_cons, mapL_snoc]
    refine ⟨i1.put _ _, ?_⟩
    by_cases e : x = r
    · subst e
      rw [Maps.atKey_put_same i1 (lawL.key (keyL hx.1 hx.2))]
      simp
    · have hne : klL x.1 x.2 ≠ klL r.1 r.2 := fun h => e (by obtain ⟨h1, h2⟩ := klL_inj hx.1 hx.2 hr.1 hr.2 h; exact Prod.ext h1 h2)
      rw [Maps.atKey_put_other hne, i2]
      congr 2
      simp [e]
theorem mapL_has (ls : List (Int × Int)) (x : Int × Int) (hw : ∀ y ∈ ls, WfL y) (hx : WfL x) : (mapL ls).atKey (klL x.1 x.2) (.lit (.bool false)) = .lit (.bool (decide (x ∈ ls))) := by
  have h := (mapL_at ls.reverse x (by rw [List.reverse_reverse]; exact hw) hx).2
  rwa [List.reverse_reverse] at h

theorem plainElem_bool_inv15 {H : Type} {P : Program} {e : TypeId} (he : P.underlying e = some .bool) {v : Value} {z : DataW H × List MemPlace} (h : plainElem P e v = some z) : ∃ a, v = .bool a ∧ z = (.lit (.bool a), []) := by
  unfold plainElem at h
  rw [he] at h
  cases v <;> simp at h
  exact ⟨_, rfl, h.symm⟩
/-- A look-up of a bool. -/
theorem lookup_bool15 {H : Type} {P : Program} {k : TypeId} {w : World} {b n : Nat} {D : DataW H} {t e : TypeId} (h : w.ownsMap P k (plainElem P e) b n D) (K : Keyed P k) (ht : P.underlying t = some (.map k e)) (he : P.underlying e = some .bool) (hz : (zeroValue e).run P w = .ok (.bool false) w)
    {key : Value} {kl : Lit} (hkey : keyOf P k key = some kl) {c : Bool} (hat : D.atKey kl (.lit (.bool false)) = .lit (.bool c)) : (Instr.lookup t (.map (some b)) key false).run P w = .ok (.bool c) w := by
  obtain ⟨v, ps, hrun, hv⟩ := h.lookup K ht hz (plainElem_bool he false) hkey
  obtain ⟨a, rfl, hc⟩ := plainElem_bool_inv15 he hv
  simp only [Prod.mk.injEq] at hc
  have h2 := hc.1
  rw [hat] at h2
  cases h2
  exact hrun
theorem wpListIn_lookup_bool15 {H : Type} {F : Fence} {nF : Nat} {P : Program} (w : World) {ops : Array Oper} {rest : List Oper} {o : Oper} {a : Act} {Q : Exit → Act → World → Prop}
    (hg : o.guard = none) (m x : Operand) (t : TypeId) (hop : o.op = Op.lookup t m x false)
    (k e : TypeId) (K : Keyed P k) (ht : P.underlying t = some (.map k e)) (he : P.underlying e = some .bool) (hz : (zeroValue e).run P w = .ok (.bool false) w) (b n : Nat) (D : DataW H)
    (hm : a.eval m = .map (some b)) (hown : w.ownsMap P k (plainElem P e) b n D) (key : Value) (kl : Lit) (hx : a.eval x = key) (hkey : keyOf P k key = some kl) (c : Bool) (hat : D.atKey kl (.lit (.bool false)) = .lit (.bool c))
    (hK : wpListIn F nF P ops Q rest (a.put o.dst (.bool c)) w) :
    wpListIn F nF P ops Q (o :: rest) a w := by
  refine wpListIn_plain hg fun K' hK' => ?_
  have hrun := lookup_bool15 hown K ht he hz hkey hat
  unfold Oper.wpIn
  refine ⟨by simp [Oper.about, hop], ?_⟩
  rw [Oper.semAt_plain F _ _ (by rw [hop]; intro c hc'; cases hc')]
  simp [execOp, hop, hm, hx, hrun, Result.andThen]
  exact hK' _ _ hK

end Go.Proofs.YtkencmijghigiaaGreat

namespace Go.Proofs.YtkencmijghigiaaGreat
open Go.ChangeShapes Go.WideShapes Go.ChangeAt Go.RowKit

theorem Tryz.own : ownKnob Tryz.prog.godebug = none := by kernel_rfl
theorem Tryz.laidOut : laidOutB Tryz.prog = true := by kernel_rfl

section
variable {H : Type} {enc : TypeId × Value → H}

/-- A reading of all arguments carried behind a call that turned nothing that was there. -/
theorem trodAll_below {P : Program} {W W' : World} (hl : laidOutB P = true) (hb : Below W.heap.size W W') :
    ∀ {ts : List TypeId} {vs : List Value} {ds : List (DataW H)} {ps : List MemPlace}, (∀ t ∈ ts, P.readableRec t = true ∧ t < P.types.size) → (∀ x ∈ ps, x.block < W.heap.size) →
      DataW.TrodAll enc P W 0 (fun _ => true) true ts vs ds ps → DataW.TrodAll enc P W' 0 (fun b => decide (b < W.heap.size)) true ts vs ds ps
  | [], vs, ds, ps, _, _, h => by
    obtain ⟨rfl, rfl, rfl⟩ := trodAll_nil h
    exact trodAll_mk0
  | t :: ts, vs, ds, ps, hr, hlt, h => by
    obtain ⟨v, vs', d, ds', p, q, rfl, rfl, rfl, h0, h1⟩ := trodAll_cons h
    have hr0 := hr t (by simp)
    exact trodAll_cons_mk (Below.trod hl hr0.1 hr0.2 h0 hb (fun x hx => hlt x (by simp [hx]))) (trodAll_below hl hb (fun u hu => hr u (by simp [hu])) (fun x hx => hlt x (by simp [hx])) h1)

theorem trodAll_length {P : Program} {W : World} {base : Nat} {sp : Nat → Bool} {hd : Bool} : ∀ {ts : List TypeId} {vs : List Value} {ds : List (DataW H)} {ps : List MemPlace}, DataW.TrodAll enc P W base sp hd ts vs ds ps → ds.length = ts.length
  | [], vs, ds, ps, h => by
    obtain ⟨rfl, rfl, rfl⟩ := trodAll_nil h
    rfl
  | t :: ts, vs, ds, ps, h => by
    obtain ⟨v, vs', d, ds', p, q, rfl, rfl, rfl, h0, h1⟩ := trodAll_cons h
    simp [trodAll_length h1]

set_option maxRecDepth 100000 in
/-- The row's step for a law: from its contract. -/
theorem law_lifted {k : FuncId} {fn : Func} {s : ChangeSpec} {os : Os} (started : os.Started) (hfn : Tryz.checked.prog.funcs[k]? = some fn) (noInit : Tryz.checked.prog.inits.idxOf? k = none)
    (witness : ∃ (w : World) (tape : Tape) (i : Input), w.os = os ∧ (w.forCall tape i).Shaped Tryz.checked.prog ∧ i.vars = [] ∧ Input.okWide Tryz.checked.prog (w.forCall tape i) .any w.heap.size k i ∧
      s.pre6 enc Tryz.checked.prog fn [] false (w.forCall tape i).memory i.args ∧ ({} : Assume).holds Tryz.checked.prog (lone (Frame.enter Tryz.checked.prog k i.args .normal) [] (w.forCall tape i)))
    (hvars : s.vars = []) (hres : fn.resultTypes = #[4]) (hread : (fn.params.toList.all fun t => Tryz.prog.readableRec t && decide (t < Tryz.prog.types.size)) = true)
    (hspec : ∀ ds : List (DataW H), ds.length = fn.params.toList.length → (s.fn H (ds ++ [])).results = [.lit (.bool true)] ∧ (s.fn H (ds ++ [])).args = ds ∧ (s.fn H (ds ++ [])).vars = [])
    (contract : ∀ (W : World) (base : Nat) (args : Array Value) (ds : List (DataW H)) (p : List MemPlace),
      (∀ (j : Nat) t v, fn.params[j]? = some t → args[j]? = some v → Value.okWide Tryz.prog W .any base t v) →
      DataW.TrodAll enc Tryz.prog W 0 (fun _ => true) true fn.params.toList args.toList ds p →
      Calls Tryz.prog k args W fun e W' => e = .returned (.bool true) ∧ Below W.heap.size W W') :
    ReturnsInHanded {} Tryz.checked os k .any (s.pre6 enc Tryz.prog fn [] false) (s.post enc Tryz.prog fn false true false false) := by
  refine returnsInHanded_of_change (C := Tryz.checked) Tryz.own started noInit hfn witness ?_
  intro W base args ds gs before hval hW _ _
  have hW' := hW
  obtain ⟨p, q, hA, hV, rfl, hfz, hnd⟩ := hW
  rw [hvars] at hV
  obtain ⟨rfl, rfl⟩ := trodVars_none hV
  refine (contract W base args ds p hval hA).mono fun e W' ⟨he, hb⟩ => ?_
  obtain ⟨s1, s2, s3⟩ := hspec ds (trodAll_length hA)
  refine ⟨_, he, ds, [], p ++ [], [], p, [], hW', ?_, ?_, ?_, ?_, fun h => by cases h⟩
  · rw [hres, s1]
    exact trodAll_mk1 (shut_bool Tryz.underlying4 true)
  · rw [s2]
    refine trodAll_below Tryz.laidOut hb (fun t ht => ?_) (fun x hx => hW'.lt x (by simpa using hx)) hA
    have := List.all_eq_true.1 hread t ht
    simpa [Bool.and_eq_true, decide_eq_true_eq] using this
  · rw [hvars, s3]; rfl
  · exact hb.frame _
end

end Go.Proofs.YtkencmijghigiaaGreat
