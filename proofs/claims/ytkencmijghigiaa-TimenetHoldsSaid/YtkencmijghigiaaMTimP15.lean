/-
  The time that a node takes for the grandmaster's, as a function of the network. Plain.
-/
import Derived.Test.YtkencmijghigiaaMLast15
import Derived.Test.YtkencmijghigiaaMInfP15
namespace Go.Proofs.Ytkencmijghigiaa
open Go.RowKit Go.Lib Plain

theorem lstK_bd (p : Int → Bool) : ∀ k : Nat, -1 ≤ lstK p k ∧ lstK p k ≤ (k : Int)
  | 0 => by unfold lstK; split <;> omega
  | k + 1 => by
    unfold lstK
    have := lstK_bd p k
    split <;> omega
theorem lastV_bd {n : Nt} (hb : n.Bd) {par : Fin n.m → Fin n.m} {ls : List (Int × Int)} {i : Fin n.m} {t : Int} (h0 : 0 ≤ lastV n par ls i t) : firstV n par i ≤ t ∧ lastV n par ls i t ≤ (t - firstV n par i) / n.iv := by
  unfold lastV at h0 ⊢
  by_cases h : t < firstV n par i
  · rw [if_pos h] at h0; omega
  · rw [if_neg h] at h0 ⊢
    have hv := hb.iv0
    have hq : 0 ≤ (t - firstV n par i) / n.iv := Int.ediv_nonneg (by omega) (by omega)
    have := (lstK_bd (lostB n par ls i) ((t - firstV n par i) / n.iv).toNat).2
    omega
/-- The last sync arrives by t. -/
theorem lastV_arr {n : Nt} (hb : n.Bd) {par : Fin n.m → Fin n.m} {ls : List (Int × Int)} {i : Fin n.m} {t : Int} (h0 : 0 ≤ lastV n par ls i t) (t1 : t ≤ 1099511627776) : lastV n par ls i t ≤ lastK n par i ∧ arrV n par i (lastV n par ls i t) ≤ t := by
  obtain ⟨h1, h2⟩ := lastV_bd hb h0
  have hv := hb.iv0
  constructor
  · refine Int.le_trans h2 ?_
    unfold lastK
    exact Int.ediv_le_ediv (by omega) (by omega)
  · have h3 : lastV n par ls i t * n.iv ≤ (t - firstV n par i) / n.iv * n.iv := Int.mul_le_mul_of_nonneg_right h2 (by omega)
    have h4 := Int.ediv_mul_le (t - firstV n par i) (show n.iv ≠ 0 by omega)
    unfold arrV
    omega

/-- The time by sync k. -/
def setL (n : Nt) (par : Fin n.m → Fin n.m) (j : Fin n.m) (k : Int) : Int := locV (n.cO j.val) (n.cP j.val) (arrV n par j k)
def setM (n : Nt) (par : Fin n.m → Fin n.m) (j : Fin n.m) (k : Int) : Int := orgV n k + (arI n par k j).1
def syV (n : Nt) (par : Fin n.m → Fin n.m) (j : Fin n.m) (k t : Int) : Int := atV (setL n par j k) (setM n par j k) (arI n par k j).2 (locV (n.cO j.val) (n.cP j.val) t)
theorem set_ok {n : Nt} (hb : n.Bd) (hc : n.Clk) {par : Fin n.m → Fin n.m} (hp : n.Par par) {i : Fin n.m} (h : 0 < i.val) {k : Int} (k0 : 0 ≤ k) (k1 : k ≤ lastK n par i) :
    OkI (orgV n k) (arI n par k i).1 (arI n par k i).2 ∧ Stamp (setL n par i k) ∧ Stamp (setM n par i k) ∧ OkS (setL n par i k) (setM n par i k) (arI n par k i).2 ∧ Tick (arrV n par i k) := by
  obtain ⟨ht, _⟩ := arr_tick hb hp h k0 k1
  obtain ⟨hi, p0, p1⟩ := arI_ok hb hc hp h k0 k1
  obtain ⟨ho, _⟩ := org_bd hb hc hp h k0 k1
  obtain ⟨-, a2, a3⟩ := arI_bd hb hc hp k i.val i rfl h
  have hm := hb.m12
  have hlt := i.isLt
  have l1 := loc_bd (hc i.val i.isLt) ht
  have l2 := loc_bd (hc 0 (Nat.lt_of_le_of_lt (Nat.zero_le _) i.isLt)) ho
  have s1 : Stamp (setL n par i k) := by unfold setL Stamp; omega
  have s2 : Stamp (setM n par i k) := by unfold setM orgV Stamp; omega
  exact ⟨hi, s1, s2, ⟨s1.1, s1.2, s2.1, s2.2, by omega, by omega⟩, ht⟩

end Go.Proofs.Ytkencmijghigiaa
