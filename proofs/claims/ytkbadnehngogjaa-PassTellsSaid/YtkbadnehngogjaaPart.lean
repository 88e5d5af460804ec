/-
  num.MulDiv at 10^9; the reference's Floor.
-/
import Derived.Test.YtkbadnehngogjaaMul
import Derived.Test.YtkbadnehngogjaaSpan
namespace Go.Proofs.Ytkbadnehngogjaa
open Go.RowKit Go.Lib Plain

/-- num.MulDiv of a span, a rate and 10^9. -/
theorem part_any (x p : Int) (h1 : -17592186044416 ≤ x) (h2 : x ≤ 17592186044416) (h3 : -16777216 ≤ p) (h4 : p ≤ 16777216) (w : World) :
    Calls Try.prog 51 #[.int .i64 x, .int .i64 p, .int .i64 1000000000] w fun e w' => e = .returned (.tuple #[.int .i64 (share x p), .bool true]) ∧ Below w.heap.size w w' := by
  obtain ⟨b1, b2⟩ := part_bd h1 h2 h3 h4
  unfold share at b1 b2
  exact mulDiv_yes x p 1000000000 (by omega) (by omega) (by omega) (by omega) (by omega) (by omega) (by omega) (by omega) w

/-- isochronref09.Floor -/
theorem floor_any (a b : Int) (hb : 1 ≤ b) (ha1 : -4611686018427387904 ≤ a) (ha2 : a ≤ 4611686018427387904) (w : World) :
    Calls Try.prog 56 #[.int .i64 a, .int .i64 b] w fun e w' => e = .returned (.int .i64 (a / b)) ∧ w = w' := by
  have b0 : ¬ b = 0 := by omega
  by_cases h : 0 ≤ a
  · have m0 : 0 ≤ a % b := Int.emod_nonneg a (by omega)
    have q0 : 0 ≤ a / b := Int.ediv_nonneg h (by omega)
    have q1 : a / b ≤ a := Int.ediv_le_self b h
    have m1 : a % b < b := Int.emod_lt_of_pos a (by omega)
    go_enter Try.func56, Try.ntmps56
    go_wp2
    go_ret
    exact ⟨rfl, rfl⟩
  · obtain ⟨n, rfl⟩ : ∃ n, a = -n := ⟨-a, by omega⟩
    have q0 : 0 ≤ n / b := Int.ediv_nonneg (by omega) (by omega)
    have q1 : n / b ≤ n := Int.ediv_le_self b (by omega)
    have hq : Hid ((-n).tdiv b = -(n / b)) := by
      show (-n).tdiv b = _
      rw [Int.neg_tdiv, Int.tdiv_eq_ediv_of_nonneg (by omega)]
    have hr : Hid ((-n).tmod b = -(n % b)) := by
      show (-n).tmod b = _
      rw [Int.neg_tmod, Int.tmod_eq_emod_of_nonneg (by omega)]
    have m0 : 0 ≤ n % b := Int.emod_nonneg n (by omega)
    have m1 : n % b < b := Int.emod_lt_of_pos n (by omega)
    by_cases hz : n % b = 0
    · have e := neg_div_exact (p := n) (c := b) (by omega) hz
      have hr' : Hid ((-n).tmod b = 0) := by show (-n).tmod b = 0; rw [hr.out, hz]; rfl
      rw [e]
      have e1 := hq.out
      have e2 := hr'.out
      clear e hz m0 m1
      go_enter Try.func56, Try.ntmps56
      go_wp2
      go_ret
      exact ⟨rfl, rfl⟩
    · have e := neg_div_more (p := n) (c := b) (by omega) hz
      rw [e]
      have e1 := hq.out
      have e2 := hr.out
      have m2 : 1 ≤ n % b := by omega
      clear e hz m0
      go_enter Try.func56, Try.ntmps56
      go_wp2
      go_ret
      exact ⟨rfl, rfl⟩

end Go.Proofs.Ytkbadnehngogjaa
