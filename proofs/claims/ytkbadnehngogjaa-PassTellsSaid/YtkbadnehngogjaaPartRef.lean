/-
  The walk of isochronref13.Part.
-/
import Derived.Test.YtkbadnehngogjaaPart
import Derived.Test.YtkbadnehngogjaaServoPlain
import Derived.WalkMore
import Derived.IntWalk
namespace Go.Proofs.Ytkbadnehngogjaa
open Go.RowKit Go.Lib Plain

theorem share_split (x p : Int) : share x p = x / 1000000000 * p + (x - x / 1000000000 * 1000000000) * p / 1000000000 := by
  have e : x * p = (x - x / 1000000000 * 1000000000) * p + (x / 1000000000 * p) * 1000000000 := by
    rw [Int.sub_mul, Int.mul_assoc (x / 1000000000), Int.mul_comm 1000000000 p, ← Int.mul_assoc]
    omega
  unfold share
  rw [e, Int.add_mul_ediv_right _ _ (by omega)]
  omega

/-- isochronref13.Part -/
theorem partRef_any (x p : Int) (h1 : -17592186044416 ≤ x) (h2 : x ≤ 17592186044416) (h3 : -16777216 ≤ p) (h4 : p ≤ 16777216) (w : World) :
    Calls Try.prog 41 #[.int .i64 x, .int .i64 p] w fun e w' => e = .returned (.int .i64 (share x p)) ∧ w = w' := by
  obtain ⟨b1, b2⟩ := part_bd h1 h2 h3 h4
  have he := Lib.hid (share_split x p)
  obtain ⟨q, hq⟩ : ∃ q, q = x / 1000000000 := ⟨_, rfl⟩
  have q1 : -17593 ≤ q := by omega
  have q2 : q ≤ 17592 := by omega
  have r1 : 0 ≤ x - q * 1000000000 := by omega
  have r2 : x - q * 1000000000 ≤ 999999999 := by omega
  obtain ⟨c1, c2⟩ := mul_bd (x := q) (p := p) (X := 17593) (P := 16777216) (by omega) (by omega) (by omega) (by omega)
  obtain ⟨d1, d2⟩ := mul_bd (x := x - q * 1000000000) (p := p) (X := 999999999) (P := 16777216) (by omega) (by omega) (by omega) (by omega)
  rw [← hq] at he
  have HQ := Lib.hid hq
  clear hq
  go_enter Try.func41, Try.ntmps41
  go_wp2_with fail
  refine (floor_any x 1000000000 (by omega) (by omega) (by omega) _).mono ?_
  rw [← HQ.out]
  rintro e w' ⟨rfl, rfl⟩
  go_wp2_with fail
  refine (floor_any _ 1000000000 (by omega) (by omega) (by omega) _).mono ?_
  rintro e w' ⟨rfl, rfl⟩
  have he' := he.out
  go_wp2
  go_ret
  exact ⟨ret_int (by omega), rfl⟩

end Go.Proofs.Ytkbadnehngogjaa
