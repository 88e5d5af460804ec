/-
  The bound of the error at a node, as a function of the network; its size. Plain.
-/
import Derived.Test.YtkencmijghigiaaMRho15
import Derived.Test.YtkencmijghigiaaMBase
namespace Go.Proofs.Ytkencmijghigiaa
open Go.RowKit Go.Lib Plain

theorem shr_bd {x q X Q : Int} (x0 : 0 ≤ x) (x1 : x ≤ X) (q0 : 0 ≤ q) (q1 : q ≤ Q) : 0 ≤ -share (-x) q ∧ -share (-x) q * 1000000000 ≤ X * Q + 999999999 := by
  have h1 : x * q ≤ X * Q := Int.mul_le_mul x1 q1 q0 (by omega)
  have h2 : 0 ≤ x * q := Int.mul_nonneg x0 q0
  unfold share
  rw [Int.neg_mul]
  generalize x * q = p at *
  omega
theorem ups_pos {m : Nat} {par : Fin m → Fin m} (hp : ∀ i : Fin m, 0 < i.val → (par i).val < i.val) (i : Fin m) (h : 0 < i.val) : (ups par i).length = (ups par (par i)).length + 1 := by
  rw [ups_cons hp h]
  rfl
/-- What leaves at a node's parent, and what arrives. -/
def sentV (n : Nt) (par : Fin n.m → Fin n.m) (e : Int) (i : Fin n.m) : Int := if (par i).val = 0 then 0 else boundV e (n.sy + drV n.sy) (rhoV n par (par i))
def errF (n : Nt) (par : Fin n.m → Fin n.m) : Nat → Fin n.m → Int
  | 0, _ => 0
  | f + 1, i => pbV (sentV n par (errF n par f (par i)) i) (dbV 200000 (n.de i.val) n.tu) (n.de i.val) (rhoV n par i)
theorem errF_more {n : Nt} {par : Fin n.m → Fin n.m} (hp : n.Par par) : ∀ (f g : Nat) (i : Fin n.m), 0 < i.val → i.val ≤ f → i.val ≤ g → errF n par f i = errF n par g i
  | 0, _, _, _, _, _ => by omega
  | _ + 1, 0, _, _, _, _ => by omega
  | f + 1, g + 1, i, h0, hf, hg => by
    have hl := hp.lt i h0
    rw [errF, errF]
    unfold sentV
    by_cases hz : (par i).val = 0
    · rw [if_pos hz, if_pos hz]
    · rw [if_neg hz, if_neg hz, errF_more hp f g (par i) (by omega) (by omega) (by omega)]
/-- The bound of the error when information arrives. -/
def errV (n : Nt) (par : Fin n.m → Fin n.m) (i : Fin n.m) : Int := errF n par i.val i
theorem errV_step {n : Nt} {par : Fin n.m → Fin n.m} (hp : n.Par par) {i : Fin n.m} (h : 0 < i.val) : errV n par i = pbV (sentV n par (errV n par (par i)) i) (dbV 200000 (n.de i.val) n.tu) (n.de i.val) (rhoV n par i) := by
  have hl := hp.lt i h
  unfold errV
  obtain ⟨k, hk⟩ : ∃ k, i.val = k + 1 := ⟨i.val - 1, by omega⟩
  rw [show errF n par i.val i = errF n par (k + 1) i from congrArg (fun f => errF n par f i) hk, errF]
  unfold sentV
  by_cases hz : (par i).val = 0
  · rw [if_pos hz, if_pos hz]
  · rw [if_neg hz, if_neg hz, errF_more hp k (par i).val (par i) (by omega) (by omega) (by omega)]

theorem rho_bd {n : Nt} (hb : n.Bd) {par : Fin n.m → Fin n.m} (hp : n.Par par) (i : Fin n.m) : 0 ≤ rhoV n par i ∧ rhoV n par i ≤ 2202475 := by
  obtain ⟨-, -, -, -, k0, k1⟩ := rateK_bd hb
  have hl := ups_len hp.lt i
  have hi := i.isLt
  have hm := hb.m12
  unfold rhoV
  refine ⟨Int.mul_nonneg (by omega) (by omega), ?_⟩
  have : ((ups par i).length : Int) * rateK n ≤ 11 * 200225 := Int.mul_le_mul (by omega) k1 (by omega) (by omega)
  omega
theorem stay_bd {n : Nt} (hb : n.Bd) : 0 ≤ n.sy + drV n.sy ∧ n.sy + drV n.sy ≤ 1048787 := by
  have h0 := hb.sy0
  have h1 := hb.sy1
  obtain ⟨-, d0, d1⟩ := drV_bd (x := n.sy) h0 (by omega)
  omega
theorem db_ok {n : Nt} (hb : n.Bd) {j : Nat} (hj : j < n.m) : DbOk 200000 (n.de j) n.tu := by
  have := hb.de0 j hj; have := hb.de1 j hj; have := hb.tu0; have := hb.tu1
  refine ⟨⟨by omega, by omega⟩, ⟨by omega, by omega⟩, ⟨by omega, by omega⟩, ⟨by omega, by omega⟩, by omega⟩
theorem db_bd {n : Nt} (hb : n.Bd) {j : Nat} (hj : j < n.m) : 0 ≤ dbV 200000 (n.de j) n.tu ∧ dbV 200000 (n.de j) n.tu ≤ 430 := by
  have h1 := hb.de0 j hj; have h2 := hb.de1 j hj; have h3 := hb.tu0; have h4 := hb.tu1
  obtain ⟨a0, a1⟩ := shr_bd (x := 2 * n.de j + n.tu) (q := 200000) (X := 1068576) (Q := 200000) (by omega) (by omega) (by omega) (by omega)
  obtain ⟨b0, b1⟩ := shr_bd (x := n.tu) (q := 200000) (X := 1048576) (Q := 200000) (by omega) (by omega) (by omega) (by omega)
  unfold dbV
  generalize -share (-(2 * n.de j + n.tu)) 200000 = a at *
  generalize -share (-n.tu) 200000 = b at *
  omega
theorem bound_le {e x r E : Int} (e0 : 0 ≤ e) (e1 : e ≤ E) (x0 : 0 ≤ x) (x1 : x ≤ 1048787) (r0 : 0 ≤ r) (r1 : r ≤ 2202475) : 0 ≤ boundV e x r ∧ boundV e x r ≤ E + 2320 := by
  obtain ⟨a0, a1⟩ := shr_bd (x := x) (q := r + 82) (X := 1048787) (Q := 2202557) x0 x1 (by omega) (by omega)
  unfold boundV
  generalize share (-x) (r + 82) = a at *
  omega
theorem pb_le {e t d r E : Int} (e0 : 0 ≤ e) (e1 : e ≤ E) (t0 : 0 ≤ t) (t1 : t ≤ 430) (d0 : 0 ≤ d) (d1 : d ≤ 10000) (r0 : 0 ≤ r) (r1 : r ≤ 2202475) : 0 ≤ pbV e t d r ∧ pbV e t d r ≤ E + 470 := by
  obtain ⟨a0, a1⟩ := shr_bd (x := d + t) (q := r + 600000) (X := 10430) (Q := 2802475) (by omega) (by omega) (by omega) (by omega)
  unfold pbV
  generalize share (-(d + t)) (r + 600000) = a at *
  omega
theorem err_bd {n : Nt} (hb : n.Bd) {par : Fin n.m → Fin n.m} (hp : n.Par par) : ∀ (k : Nat) (i : Fin n.m), i.val = k → 0 < i.val → 0 ≤ errV n par i ∧ errV n par i ≤ 3000 * (i.val : Int) := by
  intro k
  induction k using Nat.strongRecOn with
  | ind k ih =>
    intro i hk h0
    have hl := hp.lt i h0
    obtain ⟨s0, s1⟩ := stay_bd hb
    obtain ⟨t0, t1⟩ := db_bd hb i.isLt
    obtain ⟨r0, r1⟩ := rho_bd hb hp i
    obtain ⟨q0, q1⟩ := rho_bd hb hp (par i)
    have d0 := hb.de0 i.val i.isLt
    have d1 := hb.de1 i.val i.isLt
    rw [errV_step hp h0]
    have hs : 0 ≤ sentV n par (errV n par (par i)) i ∧ sentV n par (errV n par (par i)) i ≤ 3000 * ((i.val : Int) - 1) + 2320 := by
      unfold sentV
      by_cases hz : (par i).val = 0
      · rw [if_pos hz]; omega
      · rw [if_neg hz]
        obtain ⟨e0, e1⟩ := ih (par i).val (by omega) (par i) rfl (by omega)
        obtain ⟨b0, b1⟩ := bound_le e0 e1 s0 s1 q0 q1
        omega
    obtain ⟨p0, p1⟩ := pb_le hs.1 hs.2 t0 t1 d0 d1 r0 r1
    omega

end Go.Proofs.Ytkencmijghigiaa
