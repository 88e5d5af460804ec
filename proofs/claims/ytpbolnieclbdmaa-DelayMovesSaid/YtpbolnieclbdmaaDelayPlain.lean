/-
  The plain law of a delay measurement. No program in sight.
-/
import Derived.Test.YtpbolnieclbdmaaClockPlain
namespace Go.Proofs.Ytpbolnieclbdmaa.Plain

/-- A valid exchange. -/
def OkX (a b c d : Int) : Prop := (-4398046511104 ≤ a ∧ a ≤ 4398046511104) ∧ (-4398046511104 ≤ b ∧ b ≤ 4398046511104) ∧ (-4398046511104 ≤ c ∧ c ≤ 4398046511104) ∧ (-4398046511104 ≤ d ∧ d ≤ 4398046511104) ∧ a ≤ d ∧ b ≤ c
instance (a b c d : Int) : Decidable (OkX a b c d) := inferInstanceAs (Decidable (_ ∧ _))
def xV (a b c d : Int) : Int := if OkX a b c d then 0 else 220
def okX (a b c d : Int) : Bool := decide (OkX a b c d)
/-- The measured delay. -/
def dlV (a b c d : Int) : Int := (d - a - (c - b)) / 2
def delV (a b c d : Int) : Int := if OkX a b c d then dlV a b c d else 0

/-- A measured rate, rounded down. -/
def rq (y z : Int) : Int := (z - y) * 1000000000 / y
/-- Both exchanges are valid (y: what the requester's clock advanced, z: the responder's). -/
def rtV (ok : Prop) [Decidable ok] (y z : Int) : Int := if ok then if 1 ≤ y then if -8388608 ≤ rq y z ∧ rq y z ≤ 8388608 then rq y z else 0 else 0 else 0
def rtE (ok : Prop) [Decidable ok] (y z : Int) : Int := if ok then if 1 ≤ y then if -8388608 ≤ rq y z ∧ rq y z ≤ 8388608 then 0 else 6 else 2 else 220

/-- Valid durations. -/
def Spn (t d u : Int) : Prop := Tick t ∧ Tick d ∧ Tick u ∧ t + 2 * d + u ≤ 1099511627776
instance (t d u : Int) : Decidable (Spn t d u) := inferInstanceAs (Decidable (_ ∧ _))

/-- The bound of a measured delay. -/
def dbV (p d u : Int) : Int := -((-(-share (-(2 * d + u)) p + -share (-u) p)) / 2)
def DbOk (p d u : Int) : Prop := (0 ≤ p ∧ p ≤ 200000) ∧ Spn 0 d u
instance (p d u : Int) : Decidable (DbOk p d u) := inferInstanceAs (Decidable (_ ∧ _))
def dblV (p d u : Int) : Int := if DbOk p d u then dbV p d u else 0
def dblE (p d u : Int) : Int := if DbOk p d u then 0 else 2
/-- The bound of a rate. -/
def rbV (y : Int) : Int := 82 - (-2001000000) / y
def RbOk (y : Int) : Prop := 1 ≤ y ∧ y ≤ 4398046511104
instance (y : Int) : Decidable (RbOk y) := inferInstanceAs (Decidable (_ ∧ _))
def rblV (y : Int) : Int := if RbOk y then rbV y else 0
def rblE (y : Int) : Int := if RbOk y then 0 else 2

/-- Nine digits behind the point: one digit more. -/
theorem digit_div {n y : Int} (hy : 0 < y) (p : Int) : (n * (p * 10)) / y = (n * p / y) * 10 + (n * p % y * 10) / y ∧ (n * (p * 10)) % y = (n * p % y * 10) % y := by
  have e : n * (p * 10) = n * p % y * 10 + (n * p / y) * 10 * y := by
    have := mod_eq (x := n * p) (y := y)
    rw [← Int.mul_assoc, show n * p / y * 10 * y = n * p / y * y * 10 by rw [Int.mul_assoc, Int.mul_comm 10 y, ← Int.mul_assoc]]
    omega
  constructor
  · rw [e, Int.add_mul_ediv_right _ _ (by omega)]; omega
  · rw [e, Int.add_mul_emod_self_right]

theorem dshare_le (x p : Int) : share x p * 1000000000 ≤ x * p := by unfold share; omega
theorem dshare_gt (x p : Int) : x * p < share x p * 1000000000 + 1000000000 := by unfold share; omega
/-- How far a clock advances in n ticks, against n * P / 10^9. -/
theorem dgain_bd (t n P : Int) : n * P - 1000000000 < (share (t + n) P - share t P) * 1000000000 ∧ (share (t + n) P - share t P) * 1000000000 < n * P + 1000000000 := by
  have a1 := dshare_le (t + n) P
  have a2 := dshare_gt (t + n) P
  have a3 := dshare_le t P
  have a4 := dshare_gt t P
  have e : (t + n) * P = t * P + n * P := Int.add_mul ..
  omega

/-- The gain is at most the drift. -/
theorem gain_drift {t n P p : Int} (hn : 0 ≤ n) (h1 : -p ≤ P) (h2 : P ≤ p) : -(-share (-n) p) ≤ share (t + n) P - share t P ∧ share (t + n) P - share t P ≤ -share (-n) p := by
  have g := dgain_bd t n P
  have u := mul_bd (x := n) (p := P) (X := n) (P := p) (by omega) (by omega) h1 h2
  have b1 := dshare_le (-n) p
  have b2 := dshare_gt (-n) p
  have e : -n * p = -(n * p) := Int.neg_mul ..
  omega

/-- A measured delay differs from that of the link by at most the bound. -/
theorem near_plain {O P O' P' t d u p : Int} (hd : 0 ≤ d) (hu : 0 ≤ u) (h1 : -p ≤ P) (h2 : P ≤ p) (h3 : -p ≤ P') (h4 : P' ≤ p) :
    d - dbV p d u ≤ dlV (locV O P t) (locV O' P' (t + d)) (locV O' P' (t + d + u)) (locV O P (t + 2 * d + u)) ∧
    dlV (locV O P t) (locV O' P' (t + d)) (locV O' P' (t + d + u)) (locV O P (t + 2 * d + u)) ≤ d + dbV p d u := by
  have g1 := gain_drift (t := t) (n := 2 * d + u) (P := P) (p := p) (by omega) h1 h2
  have g2 := gain_drift (t := t + d) (n := u) (P := P') (p := p) (by omega) h3 h4
  rw [show t + (2 * d + u) = t + 2 * d + u by omega] at g1
  unfold dlV dbV locV
  omega

/-- A measured rate differs from the difference of both rates by at most the bound: without the order of its error. -/
theorem rates_plain {t g P P' : Int} (hg : 0 ≤ g) (p1 : -200000 ≤ P) (p2 : P ≤ 200000) (p3 : -200000 ≤ P') (p4 : P' ≤ 200000) (y z : Int)
    (hy : y = g + (share (t + g) P - share t P)) (s : Int) (hz : z = g + (share (s + g) P' - share s P')) (h1 : 1 ≤ y) :
    P' - P - rbV y ≤ rq y z ∧ rq y z ≤ P' - P + rbV y := by
  have g1 := dgain_bd t g P
  have g2 := dgain_bd s g P'
  generalize share (t + g) P - share t P = S1 at *
  generalize share (s + g) P' - share s P' = S2 at *
  have u1 := mul_bd (x := g) (p := P) (X := g) (P := 200000) (by omega) (by omega) p1 p2
  -- |S1| * 10^9 < g * 200000 + 10^9
  obtain ⟨X, hX1, hX2, hX3⟩ : ∃ X, -X ≤ S1 ∧ S1 ≤ X ∧ X * 1000000000 ≤ 200000 * g + 1000000000 := ⟨S1.natAbs, by omega, by omega, by omega⟩
  have v := mul_bd (x := S1) (p := P' - P) (X := X) (P := 400000) hX1 hX2 (by omega) (by omega)
  -- the bound
  have k1 : 2001000000 ≤ (rbV y - 82) * y := by
    unfold rbV
    have := div_lo (x := -2001000000) (y := y) (by omega)
    rw [show 82 - -2001000000 / y - 82 = -(-2001000000 / y) by omega, Int.neg_mul]
    omega
  have e0 : y * (P' - P) = g * P' - g * P + S1 * (P' - P) := by rw [hy, Int.add_mul, Int.mul_sub]
  have hN : (z - y) = S2 - S1 := by omega
  have lo := div_lo (x := (z - y) * 1000000000) (y := y) (by omega)
  have hi := div_hi (x := (z - y) * 1000000000) (y := y) (by omega)
  have e1 : (rbV y - 82) * y = rbV y * y - 82 * y := Int.sub_mul ..
  constructor
  · -- N < (q + 1) y, and N ≥ (D - m) y
    rcases Int.lt_or_le (rq y z) (P' - P - rbV y) with h | h
    · have h' : (rq y z + 1) * y ≤ (P' - P - rbV y) * y := Int.mul_le_mul_of_nonneg_right (by omega) (by omega)
      rw [Int.sub_mul, Int.mul_comm (P' - P) y] at h'
      unfold rq at h'
      rw [hN] at hi h'
      omega
    · exact h
  · rcases Int.lt_or_le (P' - P + rbV y) (rq y z) with h | h
    · have h' : (P' - P + rbV y) * y ≤ rq y z * y := Int.mul_le_mul_of_nonneg_right (by omega) (by omega)
      rw [Int.add_mul, Int.mul_comm (P' - P) y] at h'
      unfold rq at h'
      rw [hN] at lo h'
      omega
    · exact h

end Go.Proofs.Ytpbolnieclbdmaa.Plain
