/-
  Plain law: a servo that was set with an error of at most e, at a rate that is wrong by at most r, is wrong by at most boundV e x r after x local ticks.
-/
import Derived.Test.YtkencmijghigiaaMBase
namespace Go.Proofs.Ytkencmijghigiaa.Plain

theorem share_le (x p : Int) : share x p * 1000000000 ≤ x * p := by unfold share; omega
theorem share_gt (x p : Int) : x * p < share x p * 1000000000 + 1000000000 := by unfold share; omega

theorem abs_mul_le {x p X : Int} (h1 : -X ≤ x) (h2 : x ≤ X) (k1 : -200000 ≤ p) (k2 : p ≤ 200000) : -(X * 200000) ≤ x * p ∧ x * p ≤ X * 200000 := mul_bd h1 h2 k1 k2

/-- How far a clock advances in n ticks, against n * P / 10^9. -/
theorem gain_bd (t n P : Int) : n * P - 1000000000 < (share (t + n) P - share t P) * 1000000000 ∧ (share (t + n) P - share t P) * 1000000000 < n * P + 1000000000 := by
  have a1 := share_le (t + n) P
  have a2 := share_gt (t + n) P
  have a3 := share_le t P
  have a4 := share_gt t P
  have e : (t + n) * P = t * P + n * P := Int.add_mul ..
  omega

theorem holds_plain {O1 P1 O2 P2 t n E R : Int} (n0 : 0 ≤ n) (p1 : -200000 ≤ P1) (p2 : P1 ≤ 200000) (p3 : -200000 ≤ P2) (p4 : P2 ≤ 200000)
    (hx0 : 0 ≤ locV O1 P1 (t + n) - locV O1 P1 t) :
    locV O2 P2 (t + n) - boundV (max E (-E)) (locV O1 P1 (t + n) - locV O1 P1 t) (max R (-R)) ≤ atV (locV O1 P1 t) (locV O2 P2 t + E) (P2 - P1 + R) (locV O1 P1 (t + n)) ∧
    atV (locV O1 P1 t) (locV O2 P2 t + E) (P2 - P1 + R) (locV O1 P1 (t + n)) ≤ locV O2 P2 (t + n) + boundV (max E (-E)) (locV O1 P1 (t + n) - locV O1 P1 t) (max R (-R)) := by
  have g1 := gain_bd t n P1
  have g2 := gain_bd t n P2
  have u1 := abs_mul_le (x := n) (p := P1) (X := n) (by omega) (by omega) p1 p2
  unfold boundV atV
  have hX : locV O1 P1 (t + n) - locV O1 P1 t = n + (share (t + n) P1 - share t P1) := by unfold locV; omega
  have hW : locV O2 P2 (t + n) - locV O2 P2 t = n + (share (t + n) P2 - share t P2) := by unfold locV; omega
  generalize locV O1 P1 (t + n) = now at *
  generalize locV O1 P1 t = here at *
  generalize locV O2 P2 (t + n) = want at *
  generalize locV O2 P2 t = there at *
  generalize share (t + n) P1 - share t P1 = d1 at *
  generalize share (t + n) P2 - share t P2 = d2 at *
  obtain ⟨X, hXe⟩ : ∃ X, X = now - here := ⟨_, rfl⟩
  rw [← hXe] at hX hx0 ⊢
  obtain ⟨D, hD1, hD2, hD3⟩ : ∃ D, -D ≤ d1 ∧ d1 ≤ D ∧ D * 1000000000 ≤ 200000 * n + 1000000000 := ⟨d1.natAbs, by omega, by omega, by omega⟩
  have v1 := abs_mul_le (x := d1) (p := P1) hD1 hD2 p1 p2
  have v2 := abs_mul_le (x := d1) (p := P2) hD1 hD2 p3 p4
  have hR1 : -(max R (-R)) ≤ R := by omega
  have hR2 : R ≤ max R (-R) := by omega
  have hE1 : -(max E (-E)) ≤ E := by omega
  have hE2 : E ≤ max E (-E) := by omega
  generalize max R (-R) = r at *
  generalize max E (-E) = e at *
  have w1 := mul_bd (x := X) (p := R) (X := X) (P := r) (by omega) (by omega) hR1 hR2
  have s1 := share_le X (P2 - P1 + R)
  have s2 := share_gt X (P2 - P1 + R)
  have b1 := share_le (-X) (r + 82)
  have b2 := share_gt (-X) (r + 82)
  have e1 : X * (P2 - P1 + R) = n * P2 + d1 * P2 - n * P1 - d1 * P1 + X * R := by
    rw [Int.mul_add, Int.mul_sub, hX, Int.add_mul, Int.add_mul]; omega
  have e2 : (-X) * (r + 82) = -(X * r) - 82 * X := by
    rw [Int.neg_mul, Int.mul_add]; omega
  generalize share X (P2 - P1 + R) = sX at *
  generalize share (-X) (r + 82) = sB at *
  omega

end Go.Proofs.Ytkencmijghigiaa.Plain
