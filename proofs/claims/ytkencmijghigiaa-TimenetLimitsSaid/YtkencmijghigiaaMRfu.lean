/-
  Texts of this claim laid together: PartRef, PassRef.
-/
import Derived.WalkMore
import Derived.IntWalk
import Derived.Test.YtkencmijghigiaaMNums
import Derived.Test.YtkencmijghigiaaMBase
import Derived.Test.YtkencmijghigiaaMPass
namespace Go.Proofs.Ytkencmijghigiaa
open Go.RowKit Go.Lib Plain

theorem share_split (x p : Int) : share x p = x / 1000000000 * p + (x - x / 1000000000 * 1000000000) * p / 1000000000 := by
  have e : x * p = (x - x / 1000000000 * 1000000000) * p + (x / 1000000000 * p) * 1000000000 := by
    rw [Int.sub_mul, Int.mul_assoc (x / 1000000000), Int.mul_comm 1000000000 p, ← Int.mul_assoc]
    omega
  unfold share
  rw [e, Int.add_mul_ediv_right _ _ (by omega)]
  omega

/-- isochronref13.Part -/
theorem partRef_any (x p : Int) (h1 : -17592186044416 ≤ x) (h2 : x ≤ 17592186044416) (h3 : -16777216 ≤ p) (h4 : p ≤ 16777216) (w : World) :
    Calls Try.prog 44 #[.int .i64 x, .int .i64 p] w fun e w' => e = .returned (.int .i64 (share x p)) ∧ w = w' := by
  obtain ⟨b1, b2⟩ := part_bd h1 h2 h3 h4
  have he := Lib.hid (share_split x p)
  obtain ⟨q, hq⟩ : ∃ q, q = x / 1000000000 := ⟨_, rfl⟩
  have q1 : -17593 ≤ q := by omega
  have q2 : q ≤ 17592 := by omega
  have r1 : 0 ≤ x - q * 1000000000 := by omega
  have r2 : x - q * 1000000000 ≤ 999999999 := by omega
  obtain ⟨c1, c2⟩ := mul_bd (x := q) (p := p) (X := 17593) (P := 16777216) (by omega) (by omega) (by omega) (by omega)
  obtain ⟨d1, d2⟩ := mul_bd (x := x - q * 1000000000) (p := p) (X := 999999999) (P := 16777216) (by omega) (by omega) (by omega) (by omega)
  rw [← hq] at he
  have HQ := Lib.hid hq
  clear hq
  go_enter Try.func44, Try.ntmps44
  go_wp2_with fail
  refine (floor_any x 1000000000 (by omega) (by omega) (by omega) _).mono ?_
  rw [← HQ.out]
  rintro e w' ⟨rfl, rfl⟩
  go_wp2_with fail
  refine (floor_any _ 1000000000 (by omega) (by omega) (by omega) _).mono ?_
  rintro e w' ⟨rfl, rfl⟩
  have he' := he.out
  go_wp2
  go_ret
  exact ⟨ret_int (by omega), rfl⟩

end Go.Proofs.Ytkencmijghigiaa

namespace Go.Proofs.Ytkencmijghigiaa
open Go.RowKit Go.Lib Plain

def sB (t : Int) : Bool := decide (Stamp t)
def rB (t : Int) : Bool := decide (Ratio t)
/-- isochronref14.Limits -/
def pbB (e t d r : Int) : Bool := decide (PbOk e t d r)

def endV (O C P v : Int) : Int := if OkI O C P then v else 0
def endE (O C P : Int) : Int := if OkI O C P then 0 else 6

theorem infoDraft_ok (a b c : Int) : OkI (a.tmod 4398046511105) (b.tmod 4398046511105) (c.tmod 8388609) := by
  have h1 := ctmod_bd a 4398046511105 (by decide)
  have h2 := ctmod_bd b 4398046511105 (by decide)
  have h3 := ctmod_bd c 8388609 (by decide)
  exact ⟨⟨by omega, by omega⟩, ⟨by omega, by omega⟩, ⟨by omega, by omega⟩⟩

/-- isochronref14.Bound -/
theorem rBound_any (e t d r : Int) (h : PbOk e t d r) (w : World) : Calls Try.prog 45 #[.int .i64 e, .int .i64 t, .int .i64 d, .int .i64 r] w fun y w' => y = .returned (.int .i64 (pbV e t d r)) ∧ w = w' := by
  obtain ⟨⟨h1, h2⟩, ⟨h3, h4⟩, ⟨h5, h6⟩, ⟨h7, h8⟩⟩ := h
  obtain ⟨b1, b2⟩ := part_bd (x := -d - t) (p := r + 600000) (by omega) (by omega) (by omega) (by omega)
  unfold pbV
  rw [show -(d + t) = -d - t by omega]
  go_enter Try.func45, Try.ntmps45
  go_wp2_with fail
  refine (partRef_any (-d - t) (r + 600000) (by omega) (by omega) (by omega) (by omega) _).mono ?_
  rintro y w' ⟨rfl, rfl⟩
  go_wp2
  go_ret
  exact ⟨rfl, rfl⟩

end Go.Proofs.Ytkencmijghigiaa
