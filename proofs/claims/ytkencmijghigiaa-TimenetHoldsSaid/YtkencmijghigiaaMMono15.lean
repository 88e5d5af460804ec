/-
  The bounds grow with what they are made of. Plain.
-/
import Derived.Test.YtkencmijghigiaaMErr15
namespace Go.Proofs.Ytkencmijghigiaa
open Go.RowKit Go.Lib Go.Shelf Plain

/-- The share that is taken off grows with both. -/
theorem shr_mono {x y p q : Int} (x0 : 0 ≤ x) (h : x ≤ y) (p0 : 0 ≤ p) (hp : p ≤ q) : -share (-x) p ≤ -share (-y) q := by
  have h1 : x * p ≤ y * q := Int.mul_le_mul h hp p0 (by omega)
  unfold share
  rw [Int.neg_mul, Int.neg_mul]
  omega
theorem drV_mono {x y : Int} (x0 : 0 ≤ x) (h : x ≤ y) (y1 : y ≤ 1099511627776) : x + drV x ≤ y + drV y := by
  rw [(drV_bd x0 (by omega)).1, (drV_bd (by omega) y1).1]
  have := shr_mono x0 h (show (0 : Int) ≤ 200000 by omega) (Int.le_refl _)
  omega
theorem bound_mono {e e' x x' r r' : Int} (he : e ≤ e') (x0 : 0 ≤ x) (hx : x ≤ x') (r0 : 0 ≤ r) (hr : r ≤ r') : boundV e x r ≤ boundV e' x' r' := by
  have := shr_mono x0 hx (show (0 : Int) ≤ r + 82 by omega) (show r + 82 ≤ r' + 82 by omega)
  unfold boundV
  omega
theorem bound_ge {e x r : Int} (x0 : 0 ≤ x) (r0 : 0 ≤ r) : e ≤ boundV e x r := by
  have h : -share (-0) 0 ≤ -share (-x) (r + 82) := shr_mono (Int.le_refl 0) x0 (Int.le_refl 0) (by omega)
  have h0 : share (-0) 0 = 0 := by decide
  unfold boundV
  omega
theorem pb_ge {e t d r : Int} (t0 : 0 ≤ t) (d0 : 0 ≤ d) (r0 : 0 ≤ r) : e ≤ pbV e t d r := by
  have h : -share (-0) 0 ≤ -share (-(d + t)) (r + 600000) := shr_mono (Int.le_refl 0) (by omega) (Int.le_refl 0) (by omega)
  have h0 : share (-0) 0 = 0 := by decide
  unfold pbV
  omega

theorem pb_mono {e e' t t' d r r' : Int} (he : e ≤ e') (t0 : 0 ≤ t) (ht : t ≤ t') (d0 : 0 ≤ d) (r0 : 0 ≤ r) (hr : r ≤ r') : pbV e t d r ≤ pbV e' t' d r' := by
  have := shr_mono (x := d + t) (y := d + t') (p := r + 600000) (q := r' + 600000) (by omega) (by omega) (by omega) (by omega)
  unfold pbV
  omega
/-- A clock advances by n ticks, up to the drift. -/
theorem adv_le {O P t n : Int} (h1 : -200000 ≤ P) (h2 : P ≤ 200000) (n0 : 0 ≤ n) (n1 : n ≤ 1099511627776) : 0 ≤ locV O P (t + n) - locV O P t ∧ locV O P (t + n) - locV O P t ≤ n + drV n := by
  have hm := loc_mono (O := O) (P := P) (x := t) (y := t + n) h1 (by omega)
  obtain ⟨-, h⟩ := gain_drift (t := t) (n := n) (P := P) (p := 200000) n0 h1 h2
  rw [(drV_bd n0 n1).1]
  unfold locV at *
  omega

end Go.Proofs.Ytkencmijghigiaa
