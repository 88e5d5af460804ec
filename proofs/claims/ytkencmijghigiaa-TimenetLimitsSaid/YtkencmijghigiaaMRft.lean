/-
  Texts of this claim laid together: ServoRef, ServoWhen, ServoRef2.
-/
import Derived.Deep.RegionHeld3
import Derived.WalkMore
import Derived.IntWalk
import Derived.Test.YtkencmijghigiaaMNums
import Derived.Test.YtkencmijghigiaaMBase
import Derived.Test.YtkencmijghigiaaMSrv
namespace Go.Proofs.Ytkencmijghigiaa
open Go.RowKit Go.Lib Plain

def stampB (t : Int) : Bool := decide (Stamp t)

theorem share_split (x p : Int) : share x p = x / 1000000000 * p + (x - x / 1000000000 * 1000000000) * p / 1000000000 := by
  have e : x * p = (x - x / 1000000000 * 1000000000) * p + (x / 1000000000 * p) * 1000000000 := by
    rw [Int.sub_mul, Int.mul_assoc (x / 1000000000), Int.mul_comm 1000000000 p, ← Int.mul_assoc]
    omega
  unfold share
  rw [e, Int.add_mul_ediv_right _ _ (by omega)]
  omega

/-- isochronref13.Part -/
theorem partRef_any (x p : Int) (h1 : -17592186044416 ≤ x) (h2 : x ≤ 17592186044416) (h3 : -16777216 ≤ p) (h4 : p ≤ 16777216) (w : World) :
    Calls Try.prog 44 #[.int .i64 x, .int .i64 p] w fun e w' => e = .returned (.int .i64 (share x p)) ∧ w = w' := by
  obtain ⟨b1, b2⟩ := part_bd h1 h2 h3 h4
  have he := Lib.hid (share_split x p)
  obtain ⟨q, hq⟩ : ∃ q, q = x / 1000000000 := ⟨_, rfl⟩
  have q1 : -17593 ≤ q := by omega
  have q2 : q ≤ 17592 := by omega
  have r1 : 0 ≤ x - q * 1000000000 := by omega
  have r2 : x - q * 1000000000 ≤ 999999999 := by omega
  obtain ⟨c1, c2⟩ := mul_bd (x := q) (p := p) (X := 17593) (P := 16777216) (by omega) (by omega) (by omega) (by omega)
  obtain ⟨d1, d2⟩ := mul_bd (x := x - q * 1000000000) (p := p) (X := 999999999) (P := 16777216) (by omega) (by omega) (by omega) (by omega)
  rw [← hq] at he
  have HQ := Lib.hid hq
  clear hq
  go_enter Try.func44, Try.ntmps44
  go_wp2_with fail
  refine (floor_any x 1000000000 (by omega) (by omega) (by omega) _).mono ?_
  rw [← HQ.out]
  rintro e w' ⟨rfl, rfl⟩
  go_wp2_with fail
  refine (floor_any _ 1000000000 (by omega) (by omega) (by omega) _).mono ?_
  rintro e w' ⟨rfl, rfl⟩
  have he' := he.out
  go_wp2
  go_ret
  exact ⟨ret_int (by omega), rfl⟩

end Go.Proofs.Ytkencmijghigiaa

namespace Go.Proofs.Ytkencmijghigiaa
open Go.RowKit Go.Lib Plain

/-- What servo.When answers where m is reached. -/
def WhenOk (L M P m : Int) (w : World) (e : Ending) (w' : World) : Prop := ∃ r, e = .returned (.tuple #[.int .i64 r, .int .i64 0]) ∧ IsLeast (atV L M P) (-4398046511104) 4398046511104 m r ∧ Below w.heap.size w w'

/-- What both Whens answer. -/
def WhenIs (L M P m r k : Int) : Prop :=
  (OkS L M P ∧ m ≤ atV L M P 4398046511104 ∧ IsLeast (atV L M P) (-4398046511104) 4398046511104 m r ∧ k = 0) ∨ (OkS L M P ∧ atV L M P 4398046511104 < m ∧ r = 0 ∧ k = 4) ∨ (¬ OkS L M P ∧ r = 0 ∧ k = 230)

theorem WhenIs.unique {L M P m r k r' k' : Int} (h : WhenIs L M P m r k) (h' : WhenIs L M P m r' k') : r' = r ∧ k' = k := by
  rcases h with ⟨a, b, c, rfl⟩ | ⟨a, b, rfl, rfl⟩ | ⟨a, rfl, rfl⟩ <;> rcases h' with ⟨a', b', c', rfl⟩ | ⟨a', b', rfl, rfl⟩ | ⟨a', rfl, rfl⟩
  · exact ⟨c'.unique c, rfl⟩
  · omega
  · exact absurd a a'
  · omega
  · exact ⟨rfl, rfl⟩
  · exact absurd a a'
  · exact absurd a' a
  · exact absurd a' a
  · exact ⟨rfl, rfl⟩

def WhenPost (L M P m : Int) (w : World) (e : Ending) (w' : World) : Prop := ∃ r k, e = .returned (.tuple #[.int .i64 r, .int .i64 k]) ∧ WhenIs L M P m r k ∧ Below w.heap.size w w'

end Go.Proofs.Ytkencmijghigiaa

namespace Go.Proofs.Ytkencmijghigiaa
open Go.RowKit Go.Lib Plain

def limB (e x r : Int) : Bool := decide (LimOk e x r)

/-- isochronref13.Bound, at allowed arguments -/
theorem boundRef_any (e x r : Int) (h : LimOk e x r) (w : World) :
    Calls Try.prog 26 #[.int .i64 e, .int .i64 x, .int .i64 r] w fun y w' => y = .returned (.int .i64 (boundV e x r)) ∧ w = w' := by
  obtain ⟨h1, h2, h3, h4, h5, h6⟩ := h
  obtain ⟨b1, b2⟩ := part_bd (x := -x) (p := r + 82) (by omega) (by omega) (by omega) (by omega)
  go_enter Try.func26, Try.ntmps26
  go_wp2_with fail
  refine (partRef_any (-x) (r + 82) (by omega) (by omega) (by omega) (by omega) _).mono ?_
  rintro y w1 ⟨rfl, rfl⟩
  go_wp2
  go_ret
  exact ⟨rfl, rfl⟩

theorem tmod_bd (x m : Int) (hm : 0 < m) : -m < x.tmod m ∧ x.tmod m < m := by
  rcases Int.le_total 0 x with h | h
  · rw [Int.tmod_eq_emod_of_nonneg h]
    have := Int.emod_nonneg x (show m ≠ 0 by omega)
    have := Int.emod_lt_of_pos x hm
    omega
  · obtain ⟨n, rfl⟩ : ∃ n, x = -n := ⟨-x, by omega⟩
    rw [Int.neg_tmod, Int.tmod_eq_emod_of_nonneg (by omega)]
    have := Int.emod_nonneg n (show m ≠ 0 by omega)
    have := Int.emod_lt_of_pos n hm
    omega

end Go.Proofs.Ytkencmijghigiaa
