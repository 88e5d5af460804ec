/-
  T4, plain: information that arrives, and the time that a node takes for the grandmaster's, are wrong by at most the bounds.
-/
import Derived.Test.YtkencmijghigiaaMMono15
import Derived.Test.YtkencmijghigiaaMTimP15
import Derived.Test.YtkencmijghigiaaMHoldsPlain
namespace Go.Proofs.Ytkencmijghigiaa
open Go.RowKit Go.Lib Go.Shelf Plain

/-- What the grandmaster shows. -/
def mst (n : Nt) (t : Int) : Int := locV (n.cO 0) (n.cP 0) t
theorem max_abs {E B : Int} (h1 : -B ≤ E) (h2 : E ≤ B) : 0 ≤ max E (-E) ∧ max E (-E) ≤ B := by omega

section
variable {n : Nt} (hb : n.Bd) (hc : n.Clk) {par : Fin n.m → Fin n.m} (hp : n.Par par)
include hb hc hp
theorem inf_holds {k : Int} (k0 : 0 ≤ k) : ∀ (v : Nat) (i : Fin n.m), i.val = v → 0 < i.val → k ≤ lastK n par i →
    -(errV n par i) ≤ orgV n k + (arI n par k i).1 - mst n (arrV n par i k) ∧ orgV n k + (arI n par k i).1 - mst n (arrV n par i k) ≤ errV n par i := by
  intro v
  induction v using Nat.strongRecOn with
  | ind v ih =>
    intro i hv h0 k1
    have hl := hp.lt i h0
    have z0 : 0 < n.m := Nat.lt_of_le_of_lt (Nat.zero_le _) i.isLt
    obtain ⟨_, _, m1, m2⟩ := hc 0 z0
    obtain ⟨_, _, i1, i2⟩ := hc i.val i.isLt
    have d0 := hb.de0 i.val i.isLt
    obtain ⟨e0, e1⟩ := meaD_bd hb hc par i
    obtain ⟨t0, t1⟩ := db_bd hb i.isLt
    obtain ⟨⟨q0, q1⟩, -, -⟩ := arI_bd hb hc hp k i.val i rfl h0
    obtain ⟨r0, r1⟩ := rho_bd hb hp i
    have hfs := firstV_step hp h0
    -- what leaves
    have hsent : -(sentV n par (errV n par (par i)) i) ≤ orgV n k + (lvI n par k (par i)).1 - mst n (arrV n par i k - n.de i.val) ∧ orgV n k + (lvI n par k (par i)).1 - mst n (arrV n par i k - n.de i.val) ≤ sentV n par (errV n par (par i)) i := by
      by_cases hz : (par i).val = 0
      · have hs : arrV n par i k - n.de i.val = n.st + k * n.iv := by unfold arrV; rw [hfs, firstV_zero hz]; omega
        have hlv : (lvI n par k (par i)).1 = 0 := by unfold lvI lvQ; rw [if_pos hz]
        have hse : sentV n par (errV n par (par i)) i = 0 := if_pos hz
        rw [hs, hlv, hse]
        unfold orgV mst
        omega
      · have hs : arrV n par i k - n.de i.val = arrV n par (par i) k + n.sy := by unfold arrV; rw [hfs]; omega
        obtain ⟨f1, f2⟩ := ih (par i).val (by omega) (par i) rfl (by omega) (lastK_par hb hp h0 k0 k1)
        obtain ⟨⟨g0, g1⟩, -, -⟩ := arI_bd hb hc hp k (par i).val (par i) rfl (by omega)
        obtain ⟨_, _, p1, p2⟩ := hc (par i).val (par i).isLt
        obtain ⟨u0, u1⟩ := rho_bd hb hp (par i)
        obtain ⟨x0, x1⟩ := adv_le (O := n.cO (par i).val) (t := arrV n par (par i) k) p1 p2 hb.sy0 (by have := hb.sy1; omega)
        have hh := holds_plain (O1 := n.cO (par i).val) (P1 := n.cP (par i).val) (O2 := n.cO 0) (P2 := n.cP 0) (t := arrV n par (par i) k) (n := n.sy) (E := orgV n k + (arI n par k (par i)).1 - mst n (arrV n par (par i) k)) (R := (arI n par k (par i)).2 - (n.cP 0 - n.cP (par i).val)) hb.sy0 p1 p2 m1 m2 x0
        have hat : atV (locV (n.cO (par i).val) (n.cP (par i).val) (arrV n par (par i) k)) (locV (n.cO 0) (n.cP 0) (arrV n par (par i) k) + (orgV n k + (arI n par k (par i)).1 - mst n (arrV n par (par i) k))) (n.cP 0 - n.cP (par i).val + ((arI n par k (par i)).2 - (n.cP 0 - n.cP (par i).val))) (locV (n.cO (par i).val) (n.cP (par i).val) (arrV n par (par i) k + n.sy)) = orgV n k + (lvI n par k (par i)).1 := by
          have hlv : (lvI n par k (par i)).1 = corV (arI n par k (par i)).1 (elN n par k (par i)) (arI n par k (par i)).2 := by unfold lvI lvQ; rw [if_neg hz]
          rw [hlv, show n.cP 0 - n.cP (par i).val + ((arI n par k (par i)).2 - (n.cP 0 - n.cP (par i).val)) = (arI n par k (par i)).2 by omega]
          unfold atV corV mst elN
          omega
        rw [hat] at hh
        obtain ⟨a0, a1⟩ := max_abs f1 f2
        obtain ⟨b0, b1⟩ := max_abs (E := (arI n par k (par i)).2 - (n.cP 0 - n.cP (par i).val)) (B := rhoV n par (par i)) (by omega) (by omega)
        have hbm := bound_mono a1 x0 x1 b0 b1
        have hse : sentV n par (errV n par (par i)) i = boundV (errV n par (par i)) (n.sy + drV n.sy) (rhoV n par (par i)) := if_neg hz
        rw [hs, hse]
        have e1 : mst n (arrV n par (par i) k + n.sy) = locV (n.cO 0) (n.cP 0) (arrV n par (par i) k + n.sy) := rfl
        rw [e1]
        omega
    obtain ⟨s0, s1⟩ := hsent
    have hs0 : 0 ≤ sentV n par (errV n par (par i)) i := by omega
    obtain ⟨a0, a1⟩ := max_abs s0 s1
    obtain ⟨b0, b1⟩ := max_abs (E := meaD n par i - n.de i.val) (B := dbV 200000 (n.de i.val) n.tu) (by omega) (by omega)
    obtain ⟨c0, c1⟩ := max_abs (E := (arI n par k i).2 - (n.cP 0 - n.cP i.val)) (B := rhoV n par i) (by omega) (by omega)
    have hph := pass_holds (t := arrV n par i k - n.de i.val) (n := n.de i.val) (P := n.cP 0) (P' := n.cP i.val) (E := orgV n k + (lvI n par k (par i)).1 - mst n (arrV n par i k - n.de i.val)) (D := meaD n par i - n.de i.val) (R := (arI n par k i).2 - (n.cP 0 - n.cP i.val)) d0 m1 m2 i1 i2
    have hmono := pb_mono a1 b0 b1 d0 c0 c1
    have hst := errV_step hp h0
    have har1 : (arI n par k i).1 = corV (lvI n par k (par i)).1 (meaD n par i) (arI n par k i).2 := by
      rw [arI_step hp k h0]
      rfl
    rw [show n.de i.val + (meaD n par i - n.de i.val) = meaD n par i by omega, show n.cP 0 - n.cP i.val + ((arI n par k i).2 - (n.cP 0 - n.cP i.val)) = (arI n par k i).2 by omega, show arrV n par i k - n.de i.val + n.de i.val = arrV n par i k by omega] at hph
    rw [har1]
    unfold corV
    unfold mst locV at *
    rw [hst]
    omega

/-- T4. -/
theorem t4_plain {i : Fin n.m} (h0 : 0 < i.val) {k : Int} (k0 : 0 ≤ k) (k1 : k ≤ lastK n par i) {t X : Int} (ht : arrV n par i k ≤ t) (hX : t - arrV n par i k ≤ X) (hX1 : X ≤ 1099511627776) :
    -(boundV (errV n par i) (X + drV X) (rhoV n par i)) ≤ syV n par i k t - mst n t ∧ syV n par i k t - mst n t ≤ boundV (errV n par i) (X + drV X) (rhoV n par i) := by
  have z0 : 0 < n.m := Nat.lt_of_le_of_lt (Nat.zero_le _) i.isLt
  obtain ⟨_, _, m1, m2⟩ := hc 0 z0
  obtain ⟨_, _, i1, i2⟩ := hc i.val i.isLt
  obtain ⟨f1, f2⟩ := inf_holds hb hc hp k0 i.val i rfl h0 k1
  obtain ⟨⟨q0, q1⟩, -, -⟩ := arI_bd hb hc hp k i.val i rfl h0
  obtain ⟨x0, x1⟩ := adv_le (O := n.cO i.val) (t := arrV n par i k) (n := t - arrV n par i k) i1 i2 (by omega) (by omega)
  have hdm := drV_mono (x := t - arrV n par i k) (y := X) (by omega) hX hX1
  have hh := holds_plain (O1 := n.cO i.val) (P1 := n.cP i.val) (O2 := n.cO 0) (P2 := n.cP 0) (t := arrV n par i k) (n := t - arrV n par i k) (E := orgV n k + (arI n par k i).1 - mst n (arrV n par i k)) (R := (arI n par k i).2 - (n.cP 0 - n.cP i.val)) (by omega) i1 i2 m1 m2 x0
  rw [show arrV n par i k + (t - arrV n par i k) = t by omega] at hh x0 x1
  have hat : atV (locV (n.cO i.val) (n.cP i.val) (arrV n par i k)) (locV (n.cO 0) (n.cP 0) (arrV n par i k) + (orgV n k + (arI n par k i).1 - mst n (arrV n par i k))) (n.cP 0 - n.cP i.val + ((arI n par k i).2 - (n.cP 0 - n.cP i.val))) (locV (n.cO i.val) (n.cP i.val) t) = syV n par i k t := by
    rw [show n.cP 0 - n.cP i.val + ((arI n par k i).2 - (n.cP 0 - n.cP i.val)) = (arI n par k i).2 by omega]
    unfold syV atV setL setM mst
    omega
  rw [hat] at hh
  obtain ⟨a0, a1⟩ := max_abs f1 f2
  obtain ⟨b0, b1⟩ := max_abs (E := (arI n par k i).2 - (n.cP 0 - n.cP i.val)) (B := rhoV n par i) (by omega) (by omega)
  have hbm := bound_mono a1 x0 (show _ ≤ X + drV X by omega) b0 b1
  have e1 : mst n t = locV (n.cO 0) (n.cP 0) t := rfl
  rw [e1]
  omega
end

end Go.Proofs.Ytkencmijghigiaa
