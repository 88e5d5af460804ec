/-
  The plain law of sync information that is passed on. No program in sight.
-/
import Derived.Test.YtkbadnehngogjaaServoPlain
import Derived.Test.YtkbadnehngogjaaClockPlain
namespace Go.Proofs.Ytkbadnehngogjaa.Plain

def Ratio (p : Int) : Prop := -8388608 ≤ p ∧ p ≤ 8388608
instance (p : Int) : Decidable (Ratio p) := inferInstanceAs (Decidable (_ ∧ _))
/-- Valid information. -/
def OkI (O C P : Int) : Prop := Stamp O ∧ Stamp C ∧ Ratio P
instance (O C P : Int) : Decidable (OkI O C P) := inferInstanceAs (Decidable (_ ∧ _))
def okI (O C P : Int) : Bool := decide (OkI O C P)
def infV (O C P : Int) : Int := if OkI O C P then 0 else 240

/-- Behind x ticks at the rate p. -/
def corV (C x p : Int) : Int := C + (x + share x p)

/-- Arrive: arguments allowed; the result is valid. -/
def ArrOk (O C P d r : Int) : Prop := OkI O C P ∧ (Stamp d ∧ Ratio r) ∧ OkI O (corV C d (P + r)) (P + r)
instance (O C P d r : Int) : Decidable (ArrOk O C P d r) := inferInstanceAs (Decidable (_ ∧ _))
def arrO (O C P d r : Int) : Int := if ArrOk O C P d r then O else 0
def arrC (O C P d r : Int) : Int := if ArrOk O C P d r then corV C d (P + r) else 0
def arrP (O C P d r : Int) : Int := if ArrOk O C P d r then P + r else 0
def arrE (O C P d r : Int) : Int := if OkI O C P then if Stamp d ∧ Ratio r then if OkI O (corV C d (P + r)) (P + r) then 0 else 6 else 2 else 240

def LvOk (O C P x : Int) : Prop := OkI O C P ∧ Tick x ∧ OkI O (corV C x P) P
instance (O C P x : Int) : Decidable (LvOk O C P x) := inferInstanceAs (Decidable (_ ∧ _))
def lvO (O C P x : Int) : Int := if LvOk O C P x then O else 0
def lvC (O C P x : Int) : Int := if LvOk O C P x then corV C x P else 0
def lvP (O C P x : Int) : Int := if LvOk O C P x then P else 0
def lvE (O C P x : Int) : Int := if OkI O C P then if Tick x then if OkI O (corV C x P) P then 0 else 6 else 2 else 240

def SetOk (O C P l : Int) : Prop := OkI O C P ∧ Stamp l ∧ Stamp (O + C)
instance (O C P l : Int) : Decidable (SetOk O C P l) := inferInstanceAs (Decidable (_ ∧ _))
def setL (O C P l : Int) : Int := if SetOk O C P l then l else 0
def setM (O C P l : Int) : Int := if SetOk O C P l then O + C else 0
def setP (O C P l : Int) : Int := if SetOk O C P l then P else 0
def setE (O C P l : Int) : Int := if OkI O C P then if Stamp l then if Stamp (O + C) then 0 else 6 else 2 else 240

def PbOk (e t d r : Int) : Prop := (0 ≤ e ∧ e ≤ 4398046511104) ∧ (0 ≤ t ∧ t ≤ 4398046511104) ∧ (0 ≤ d ∧ d ≤ 4398046511104) ∧ (0 ≤ r ∧ r ≤ 8388608)
instance (e t d r : Int) : Decidable (PbOk e t d r) := inferInstanceAs (Decidable (_ ∧ _))
def pbV (e t d r : Int) : Int := e + t - share (-(d + t)) (r + 600000) + 2
def pblV (e t d r : Int) : Int := if PbOk e t d r then pbV e t d r else 0
def pblE (e t d r : Int) : Int := if PbOk e t d r then 0 else 2

/-- Information that arrives over a link is wrong by at most the bound: n ticks of the link, its delay measured with the error D, the rate wrong by R; the time was wrong by E. -/
theorem pass_holds {t n P P' E D R : Int} (n0 : 0 ≤ n) (p1 : -200000 ≤ P) (p2 : P ≤ 200000) (p3 : -200000 ≤ P') (p4 : P' ≤ 200000) :
    n + (share (t + n) P - share t P) - pbV (max E (-E)) (max D (-D)) n (max R (-R)) ≤ E + (n + D + share (n + D) (P - P' + R)) ∧
    E + (n + D + share (n + D) (P - P' + R)) ≤ n + (share (t + n) P - share t P) + pbV (max E (-E)) (max D (-D)) n (max R (-R)) := by
  have a1 : share t P * 1000000000 ≤ t * P := by unfold share; omega
  have a2 : t * P < share t P * 1000000000 + 1000000000 := by unfold share; omega
  have a3 : share (t + n) P * 1000000000 ≤ (t + n) * P := by unfold share; omega
  have a4 : (t + n) * P < share (t + n) P * 1000000000 + 1000000000 := by unfold share; omega
  have a5 : (t + n) * P = t * P + n * P := Int.add_mul ..
  have hR1 : -(max R (-R)) ≤ R := by omega
  have hR2 : R ≤ max R (-R) := by omega
  have hE1 : -(max E (-E)) ≤ E := by omega
  have hE2 : E ≤ max E (-E) := by omega
  have hD1 : -(max D (-D)) ≤ D := by omega
  have hD2 : D ≤ max D (-D) := by omega
  generalize max R (-R) = r at *
  generalize max E (-E) = e at *
  generalize max D (-D) = b at *
  have u1 := mul_bd (x := n) (p := R - P') (X := n) (P := r + 200000) (by omega) (by omega) (by omega) (by omega)
  have u2 := mul_bd (x := D) (p := P - P' + R) (X := b) (P := r + 400000) hD1 hD2 (by omega) (by omega)
  have s1 : share (n + D) (P - P' + R) * 1000000000 ≤ (n + D) * (P - P' + R) := by unfold share; omega
  have s2 : (n + D) * (P - P' + R) < share (n + D) (P - P' + R) * 1000000000 + 1000000000 := by unfold share; omega
  have b1 : share (-(n + b)) (r + 600000) * 1000000000 ≤ -(n + b) * (r + 600000) := by unfold share; omega
  have e1 : (n + D) * (P - P' + R) = n * P + n * (R - P') + D * (P - P' + R) := by
    rw [Int.add_mul, show P - P' + R = P + (R - P') by omega, Int.mul_add]
  have e2 : -(n + b) * (r + 600000) = -(n * (r + 200000)) - n * 400000 - b * (r + 400000) - b * 200000 := by
    rw [Int.neg_mul, Int.add_mul, show r + 600000 = r + 200000 + 400000 by omega, Int.mul_add, show r + 200000 + 400000 = r + 400000 + 200000 by omega, Int.mul_add b]
    omega
  have b0 : 0 ≤ b * 200000 := by omega
  unfold pbV
  generalize share (n + D) (P - P' + R) = sX at *
  generalize share (-(n + b)) (r + 600000) = sB at *
  omega

end Go.Proofs.Ytkbadnehngogjaa.Plain
