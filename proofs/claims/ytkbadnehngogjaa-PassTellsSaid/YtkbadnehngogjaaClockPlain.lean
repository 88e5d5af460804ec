/-
  The plain law of a clock. No program in sight.
-/
import Derived.Test.YtkbadnehngogjaaSpan
namespace Go.Proofs.Ytkbadnehngogjaa.Plain

/-- A clock's local time. -/
def locV (O P t : Int) : Int := t + O + share t P
/-- Offset and Ppb of a valid clock. -/
def OkC (O P : Int) : Prop := -1099511627776 ≤ O ∧ O ≤ 1099511627776 ∧ -200000 ≤ P ∧ P ≤ 200000
instance (O P : Int) : Decidable (OkC O P) := inferInstanceAs (Decidable (_ ∧ _))
/-- A valid time. -/
def Tick (t : Int) : Prop := 0 ≤ t ∧ t ≤ 1099511627776
instance (t : Int) : Decidable (Tick t) := inferInstanceAs (Decidable (_ ∧ _))

theorem part_bd' {x p : Int} (h1 : -1099511627776 ≤ x) (h2 : x ≤ 1099511627776) (h3 : -200000 ≤ p) (h4 : p ≤ 200000) : -219902325555200000 ≤ x * p ∧ x * p ≤ 219902325555200000 ∧ -219902326 ≤ share x p ∧ share x p ≤ 219902325 := by
  have h := mul_bd (X := 1099511627776) (P := 200000) h1 h2 h3 h4
  unfold share
  omega

theorem loc_bd {O P t : Int} (h : OkC O P) (ht : Tick t) : -1099731530102 ≤ locV O P t ∧ locV O P t ≤ 2199243157877 ∧ -219902326 ≤ share t P ∧ share t P ≤ 219902325 := by
  obtain ⟨h1, h2, h3, h4⟩ := h
  obtain ⟨k1, k2⟩ := ht
  have := part_bd' (x := t) (p := P) (by omega) (by omega) (by omega) (by omega)
  unfold locV
  omega

theorem loc_mono {O P x y : Int} (hP : -200000 ≤ P) (h : x ≤ y) : locV O P x ≤ locV O P y := by
  have := grow_mono (x := x) (y := y) (p := P) h (by omega)
  unfold locV
  omega

def okC (O P : Int) : Bool := decide (OkC O P)
def tickB (t : Int) : Bool := decide (Tick t)
def clkV (O P : Int) : Int := if OkC O P then 0 else 190
def localV (O P t : Int) : Int := if OkC O P ∧ Tick t then locV O P t else 0
def localE (O P t : Int) : Int := if OkC O P then if Tick t then 0 else 2 else 190

theorem ctmod_bd (x m : Int) (hm : 0 < m) : -m < x.tmod m ∧ x.tmod m < m := by
  rcases Int.le_total 0 x with h | h
  · rw [Int.tmod_eq_emod_of_nonneg h]
    have := Int.emod_nonneg x (show m ≠ 0 by omega)
    have := Int.emod_lt_of_pos x hm
    omega
  · obtain ⟨n, rfl⟩ : ∃ n, x = -n := ⟨-x, by omega⟩
    rw [Int.neg_tmod, Int.tmod_eq_emod_of_nonneg (by omega)]
    have := Int.emod_nonneg n (show m ≠ 0 by omega)
    have := Int.emod_lt_of_pos n hm
    omega

theorem clockDraft_ok (a b : Int) : OkC (a.tmod 1099511627777) (b.tmod 200001) := by
  have h1 := ctmod_bd a 1099511627777 (by decide)
  have h2 := ctmod_bd b 200001 (by decide)
  exact ⟨by omega, by omega, by omega, by omega⟩

def ElOk (t d : Int) : Prop := Tick t ∧ Tick d ∧ Tick (t + d)
instance (t d : Int) : Decidable (ElOk t d) := inferInstanceAs (Decidable (_ ∧ _))
def elV (O P t d : Int) : Int := if OkC O P ∧ ElOk t d then locV O P (t + d) - locV O P t else 0
def elE (O P t d : Int) : Int := if OkC O P then if ElOk t d then 0 else 2 else 190
def offV (O P O' P' t : Int) : Int := if (OkC O P ∧ OkC O' P') ∧ Tick t then locV O P t - locV O' P' t else 0
def offE (O P O' P' t : Int) : Int := if OkC O P ∧ OkC O' P' then if Tick t then 0 else 2 else 190
def BndOk (p d : Int) : Prop := 0 ≤ p ∧ p ≤ 200000 ∧ Tick d
instance (p d : Int) : Decidable (BndOk p d) := inferInstanceAs (Decidable (_ ∧ _))
def bndV (p d : Int) : Int := if BndOk p d then -share (-d) p else 0
def bndE (p d : Int) : Int := if BndOk p d then 0 else 2

end Go.Proofs.Ytkbadnehngogjaa.Plain
