/-
  math/bits.Div64 at a divisor from 1 to 2^50: the quotient and the rest; num.MulDiv: the quotient, rounded down.
-/
import Derived.Test.YtkbadnehngogjaaBits
import Derived.Test.YtkbadnehngogjaaNum
import Derived.Laws.BitsAllLaws
namespace Go.Proofs.Ytkbadnehngogjaa
open Go.RowKit Go.Lib

/-- How many bits a number has. -/
theorem bitLenAux_bd : ∀ f x : Nat, x ≠ 0 → x < 2 ^ f → ∃ m, Lib.bitLenAux f x = m + 1 ∧ 2 ^ m ≤ x ∧ x < 2 ^ (m + 1)
  | 0, x, h0, h => by simp at h; omega
  | f + 1, x, h0, h => by
    by_cases hx : x / 2 = 0
    · refine ⟨0, ?_, by omega, by omega⟩
      rw [Lib.bitLenAux, if_neg h0, hx]
      cases f <;> simp [Lib.bitLenAux]
    · obtain ⟨m, e, l, u⟩ := bitLenAux_bd f (x / 2) hx (by rw [Nat.pow_succ] at h; omega)
      refine ⟨m + 1, ?_, ?_, ?_⟩
      · rw [Lib.bitLenAux, if_neg h0, e]; omega
      · rw [Nat.pow_succ]; omega
      · rw [Nat.pow_succ]; omega

theorem or_u64 (x y k : Nat) (hx : x * 2 ^ k < 18446744073709551616) (hy : y < 2 ^ k) (hk : k ≤ 63) : bits .or .u64 (((x * 2 ^ k : Nat)) : Int) (y : Int) = ((x * 2 ^ k + y : Nat) : Int) := by
  have h2 : (2 : Nat) ^ k ≤ 2 ^ 63 := Nat.pow_le_pow_right (by omega) hk
  rw [bits_or_u64_nat _ _ hx (by omega), nat_join k _ _ (by simp) hy]

theorem mask_int (x : Int) (h0 : 0 ≤ x) (h1 : x < 18446744073709551616) : bits .and .u64 x 4294967295 = x % 4294967296 := by
  obtain ⟨n, rfl⟩ := Int.eq_ofNat_of_zero_le h0
  rw [Mul.maskN n (by omega)]
  omega
theorem or_int (x y K : Int) (k : Nat) (hK : K = 2 ^ k) (hx0 : 0 ≤ x) (hx : x * K < 18446744073709551616) (hy0 : 0 ≤ y) (hy : y < K) (hk : k ≤ 63) : bits .or .u64 (x * K) y = x * K + y := by
  obtain ⟨n, rfl⟩ := Int.eq_ofNat_of_zero_le hx0
  obtain ⟨j, rfl⟩ := Int.eq_ofNat_of_zero_le hy0
  have c : ((2 ^ k : Nat) : Int) = (2 : Int) ^ k := by simp
  have e : ((n : Int) * K) = ((n * 2 ^ k : Nat) : Int) := by rw [hK]; simp
  rw [e] at hx
  rw [e, or_u64 n j k (by omega) (by omega) hk]
  omega
theorem wrap_id (x : Int) (h0 : 0 ≤ x) (h1 : x < 18446744073709551616) : IntKind.u64.wrap x = x := by
  rw [IntKind.wrap_u64]; omega

open Plain in
theorem div64_any (hi lo y : Int) (hh0 : 0 ≤ hi) (hh : hi < y) (hl0 : 0 ≤ lo) (hl : lo < 18446744073709551616) (hy0 : 1 ≤ y) (hy : y ≤ 1125899906842624) (w : World) :
    Calls Try.prog 68 #[.int .u64 hi, .int .u64 lo, .int .u64 y] w fun e w' => e = .returned (.tuple #[.int .u64 ((hi * 18446744073709551616 + lo) / y), .int .u64 ((hi * 18446744073709551616 + lo) % y)]) ∧ Below w.heap.size w w' := by
  by_cases h0 : hi = 0
  · subst h0
    simpa using div64_low lo y hl0 hl hy0 (by omega) w
  obtain ⟨m, hm, ml, mu⟩ := bitLenAux_bd 64 y.toNat (by omega) (by omega)
  have hL : Lib.bitLen y.toNat = m + 1 := hm
  have hm50 : m + 1 ≤ 51 := by
    have := Lib.bitLen_le y.toNat 51 (by omega) (by omega)
    omega
  have hKM : (2 : Int) ^ (64 - (m + 1)) * 2 ^ (m + 1) = 18446744073709551616 := by
    rw [← Int.pow_add, show 64 - (m + 1) + (m + 1) = 64 by omega]; rfl
  have hK : (0 : Int) < 2 ^ (64 - (m + 1)) := Int.pow_pos (by omega)
  have hM : (0 : Int) < 2 ^ (m + 1) := Int.pow_pos (by omega)
  have c1 : ((2 ^ m : Nat) : Int) = (2 : Int) ^ m := by simp
  have c2 : ((2 ^ (m + 1) : Nat) : Int) = (2 : Int) ^ (m + 1) := by simp
  have c3 : (2 : Int) ^ (m + 1) = 2 ^ m * 2 := Int.pow_succ ..
  have e64 : 64 - (64 - (m + 1)) = m + 1 := by omega
  obtain ⟨n1, n2, n3, n4, n5, n6, n7, n8, n9⟩ := norm (hi := hi) (lo := lo) (y := y) hKM hK hM (by omega) (by omega) hh0 hh hl0 hl
  obtain ⟨K, hKe⟩ : ∃ K : Int, K = 2 ^ (64 - (m + 1)) := ⟨_, rfl⟩
  obtain ⟨M, hMe⟩ : ∃ M : Int, M = 2 ^ (m + 1) := ⟨_, rfl⟩
  rw [← hKe, ← hMe] at hKM n8 n9
  rw [← hKe] at hK n1 n2 n3 n4 n6 n7
  rw [← hMe] at hM n5 n6 n7
  obtain ⟨Y, hYe⟩ : ∃ Y : Int, Y = y * K := ⟨_, rfl⟩
  obtain ⟨U, hUe⟩ : ∃ U : Int, U = hi * K + lo / M := ⟨_, rfl⟩
  obtain ⟨V, hVe⟩ : ∃ V : Int, V = lo % M * K := ⟨_, rfl⟩
  rw [← hYe] at n1 n2 n7
  rw [← hUe] at n7 n9
  rw [← hVe] at n8 n9
  have v0 : 0 ≤ V := by omega
  have v1 : V < 18446744073709551616 := by omega
  have u0 : 0 ≤ U := by omega
  have eY : Y / 4294967296 * 4294967296 + Y % 4294967296 = Y := by omega
  have fit1 : Fit (Y / 4294967296) (Y % 4294967296) U (V / 4294967296) := ⟨by omega, by omega, by omega, by omega, u0, by omega, by omega, by omega⟩
  have rest1 := fit1.rest
  have dig1 := fit1.digit
  rw [eY] at rest1 dig1
  obtain ⟨Q1, hQ1⟩ : ∃ Q1 : Int, Q1 = (U * 4294967296 + V / 4294967296) / Y := ⟨_, rfl⟩
  rw [← hQ1] at rest1 dig1
  obtain ⟨R, hR⟩ : ∃ R : Int, R = U * 4294967296 + V / 4294967296 - Q1 * Y := ⟨_, rfl⟩
  rw [← hR] at rest1
  have fit2 : Fit (Y / 4294967296) (Y % 4294967296) R (V % 4294967296) := ⟨by omega, by omega, by omega, by omega, by omega, by omega, by omega, by omega⟩
  have rest2 := fit2.rest
  have dig2 := fit2.digit
  rw [eY] at rest2 dig2
  obtain ⟨Q0, hQ0⟩ : ∃ Q0 : Int, Q0 = (R * 4294967296 + V % 4294967296) / Y := ⟨_, rfl⟩
  rw [← hQ0] at rest2 dig2
  obtain ⟨S, hS⟩ : ∃ S : Int, S = R * 4294967296 + V % 4294967296 - Q0 * Y := ⟨_, rfl⟩
  rw [← hS] at rest2
  obtain ⟨t1, t2⟩ := two_digits (a := U) (b := V / 4294967296) (c := V % 4294967296) (show 0 < Y by omega) hR hQ0
  have eX : (U * 4294967296 + V / 4294967296) * 4294967296 + V % 4294967296 = (hi * 18446744073709551616 + lo) * K := by omega
  rw [eX, hYe, scaled_div hK] at t1
  rw [eX, ← hS, hYe, scaled_mod hK] at t2
  have t3 : S / K = (hi * 18446744073709551616 + lo) % y := by rw [t2]; exact Int.mul_ediv_cancel _ (by omega)
  rw [← t1, ← t3, hKe]
  have h := div64_core hi lo y (by omega) hh hl0 hl hy0 hy w Y (Y / 4294967296) (Y % 4294967296) U V (V / 4294967296) (V % 4294967296) Q1 R Q0 S
    (by rw [hL, ← hKe, ← hYe]; exact wrap_id _ (by omega) n2) rfl (mask_int Y (by omega) n2)
    (by rw [hL, ← hKe, e64, ← hMe, wrap_id _ n3 n4, hUe]; exact or_int hi _ K _ hKe hh0 n4 n5 n6 (by omega))
    (by rw [hL, ← hKe, IntKind.wrap_u64]; exact n8) rfl (mask_int V v0 v1)
    (by simp only [IntKind.wrap_u64]; omega) (by simp only [IntKind.wrap_u64]; omega) fit1 fit2 (by rw [eY]; exact Lib.hid hQ1) (by rw [eY]; exact Lib.hid hQ0)
  rw [hL] at h
  exact h

end Go.Proofs.Ytkbadnehngogjaa
