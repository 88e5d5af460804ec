/-
  What information says when it arrives at a node: its cells, and their bounds. Plain.
-/
import Derived.Test.YtkencmijghigiaaGreatMMeas15
import Derived.Test.YtkencmijghigiaaGreatMBase
namespace Go.Proofs.YtkencmijghigiaaGreat
open Go.RowKit Go.Lib Go.Shelf Plain

theorem stays_from {m : Nat} (f : Fin m → Int) : ∀ (l : List (Fin m)) (a b : Int), l.foldl (fun s x => s + f x) (a + b) = l.foldl (fun s x => s + f x) a + b := by
  intro l
  induction l with
  | nil => intro a b; rfl
  | cons x l ih =>
    intro a b
    simp only [List.foldl_cons]
    rw [show a + b + f x = (a + f x) + b by omega]
    exact ih _ _
theorem firstV_step {n : Nt} {par : Fin n.m → Fin n.m} (hp : n.Par par) {i : Fin n.m} (h : 0 < i.val) : firstV n par i = firstV n par (par i) + (n.sy + n.de i.val) := by
  unfold firstV stays
  rw [ups_cons hp.lt h, List.foldl_cons]
  exact stays_from (fun x => n.sy + n.de x.val) _ _ _
theorem firstV_zero {n : Nt} {par : Fin n.m → Fin n.m} {i : Fin n.m} (h : i.val = 0) : firstV n par i = n.st - n.sy := by
  unfold firstV stays
  rw [ups_zero h]
  rfl
theorem firstV_ge {n : Nt} (hb : n.Bd) {par : Fin n.m → Fin n.m} (hp : n.Par par) : ∀ (k : Nat) (i : Fin n.m), i.val = k → n.st - n.sy ≤ firstV n par i ∧ (0 < i.val → n.st ≤ firstV n par i) := by
  intro k
  induction k using Nat.strongRecOn with
  | ind k ih =>
    intro i hk
    by_cases h0 : i.val = 0
    · rw [firstV_zero h0]; omega
    · have hl := hp.lt i (by omega)
      have h1 := ih (par i).val (by omega) (par i) rfl
      have d0 := hb.de0 i.val i.isLt
      have s0 := hb.sy0
      rw [firstV_step hp (by omega)]
      omega

/-- What a node's clock advances between the arrival of sync k and its leaving. -/
def elN (n : Nt) (par : Fin n.m → Fin n.m) (k : Int) (p : Fin n.m) : Int := locV (n.cO p.val) (n.cP p.val) (arrV n par p k + n.sy) - locV (n.cO p.val) (n.cP p.val) (arrV n par p k)
/-- Correction and rate when information leaves a node, by those of its arrival. -/
def lvQ (n : Nt) (par : Fin n.m → Fin n.m) (k : Int) (a : Int × Int) (p : Fin n.m) : Int × Int := if p.val = 0 then (0, 0) else (corV a.1 (elN n par k p) a.2, a.2)
/-- Correction and rate when information arrives at a node, by those of its leaving. -/
def arQ (n : Nt) (par : Fin n.m → Fin n.m) (s : Int × Int) (i : Fin n.m) : Int × Int := (corV s.1 (meaD n par i) (s.2 + meaR n par i), s.2 + meaR n par i)
def arF (n : Nt) (par : Fin n.m → Fin n.m) (k : Int) : Nat → Fin n.m → Int × Int
  | 0, _ => (0, 0)
  | f + 1, i => arQ n par (lvQ n par k (arF n par k f (par i)) (par i)) i
theorem arF_more {n : Nt} {par : Fin n.m → Fin n.m} (hp : n.Par par) (k : Int) : ∀ (f g : Nat) (i : Fin n.m), 0 < i.val → i.val ≤ f → i.val ≤ g → arF n par k f i = arF n par k g i := by
  intro f
  induction f with
  | zero => intro g i h h1 _; omega
  | succ f ih =>
    intro g i h h1 h2
    obtain ⟨g, rfl⟩ : ∃ g', g = g' + 1 := ⟨g - 1, by omega⟩
    have hl := hp.lt i h
    simp only [arF]
    by_cases hz : (par i).val = 0
    · simp only [lvQ, if_pos hz]
    · rw [ih g (par i) (by omega) (by omega) (by omega)]
/-- Correction and rate when sync k arrives at a node. -/
def arI (n : Nt) (par : Fin n.m → Fin n.m) (k : Int) (i : Fin n.m) : Int × Int := arF n par k i.val i
/-- Correction and rate when sync k leaves a node. -/
def lvI (n : Nt) (par : Fin n.m → Fin n.m) (k : Int) (p : Fin n.m) : Int × Int := lvQ n par k (arI n par k p) p
theorem arI_step {n : Nt} {par : Fin n.m → Fin n.m} (hp : n.Par par) (k : Int) {i : Fin n.m} (h : 0 < i.val) : arI n par k i = arQ n par (lvI n par k (par i)) i := by
  have hl := hp.lt i h
  unfold arI lvI
  obtain ⟨f, hf⟩ : ∃ f, i.val = f + 1 := ⟨i.val - 1, by omega⟩
  rw [show arF n par k i.val i = arF n par k (f + 1) i from congrArg (fun f => arF n par k f i) hf, arF]
  by_cases hz : (par i).val = 0
  · simp only [lvQ, if_pos hz]
  · unfold arI
    rw [arF_more hp k f (par i).val (par i) (by omega) (by omega) (by omega)]

theorem lastK_par {n : Nt} (hb : n.Bd) {par : Fin n.m → Fin n.m} (hp : n.Par par) {i : Fin n.m} (h : 0 < i.val) {k : Int} (k0 : 0 ≤ k) (k1 : k ≤ lastK n par i) : k ≤ lastK n par (par i) := by
  have h1 := arr_bd hb hp k0 k1
  have h2 := firstV_step hp h
  have d0 := hb.de0 i.val i.isLt
  have s0 := hb.sy0
  have v0 := hb.iv0
  unfold lastK
  exact (Int.le_ediv_iff_mul_le (by omega)).2 (by omega)
theorem arr_tick {n : Nt} (hb : n.Bd) {par : Fin n.m → Fin n.m} (hp : n.Par par) {i : Fin n.m} (h : 0 < i.val) {k : Int} (k0 : 0 ≤ k) (k1 : k ≤ lastK n par i) : Tick (arrV n par i k) ∧ n.st + k * n.iv ≤ arrV n par i k := by
  have h1 := arr_bd hb hp k0 k1
  have h2 := (firstV_ge hb hp i.val i rfl).2 h
  have h3 := hb.st0
  have h4 := hb.ga0
  have h5 := hb.tu0
  unfold arrV Tick
  omega
/-- A node that passes on: its stay is within the times. -/
theorem stay_ok {n : Nt} (hb : n.Bd) {par : Fin n.m → Fin n.m} (hp : n.Par par) {i : Fin n.m} (h : 0 < i.val) {k : Int} (k0 : 0 ≤ k) (k1 : k ≤ lastK n par i) (hq : 0 < (par i).val) : ElOk (arrV n par (par i) k) n.sy := by
  have h1 := arr_tick hb hp h k0 k1
  have h2 := arr_tick hb hp hq k0 (lastK_par hb hp h k0 k1)
  have h3 := firstV_step hp h
  have d0 := hb.de0 i.val i.isLt
  have s0 := hb.sy0
  have s1 := hb.sy1
  unfold arrV Tick at *
  exact ⟨⟨by omega, by omega⟩, ⟨by omega, by omega⟩, ⟨by omega, by omega⟩⟩
theorem cor_bd {C x p X : Int} (x0 : -X ≤ x) (x1 : x ≤ X) (hX : X ≤ 1100000) (p0 : -2700000 ≤ p) (p1 : p ≤ 2700000) : C - X - 2971 ≤ corV C x p ∧ corV C x p ≤ C + X + 2971 := by
  have h := mul_bd (x := x) (p := p) (X := 1100000) (P := 2700000) (by omega) (by omega) p0 p1
  unfold corV share
  generalize x * p = a at *
  omega
theorem el_bd {n : Nt} (hb : n.Bd) (hc : n.Clk) (par : Fin n.m → Fin n.m) (k : Int) (p : Fin n.m) : 0 ≤ elN n par k p ∧ elN n par k p ≤ 1048800 := by
  have s0 := hb.sy0
  have s1 := hb.sy1
  obtain ⟨_, _, p1, p2⟩ := hc p.val p.isLt
  have h := dgain_bd (arrV n par p k) n.sy (n.cP p.val)
  have hm := loc_mono (O := n.cO p.val) (P := n.cP p.val) (x := arrV n par p k) (y := arrV n par p k + n.sy) p1 (by omega)
  have hu := mul_bd (x := n.sy) (p := n.cP p.val) (X := 1048576) (P := 200000) (by omega) (by omega) p1 p2
  unfold elN
  refine ⟨by omega, ?_⟩
  unfold locV
  generalize share (arrV n par p k + n.sy) (n.cP p.val) = a at *
  generalize share (arrV n par p k) (n.cP p.val) = b at *
  generalize n.sy * n.cP p.val = c at *
  omega
/-- Rate and correction on arrival are within bounds. -/
theorem arI_bd {n : Nt} (hb : n.Bd) (hc : n.Clk) {par : Fin n.m → Fin n.m} (hp : n.Par par) (k : Int) : ∀ (v : Nat) (i : Fin n.m), i.val = v → 0 < i.val →
    (n.cP 0 - n.cP i.val - rhoV n par i ≤ (arI n par k i).2 ∧ (arI n par k i).2 ≤ n.cP 0 - n.cP i.val + rhoV n par i) ∧ -(1100000 * (i.val : Int)) ≤ (arI n par k i).1 ∧ (arI n par k i).1 ≤ 1100000 * (i.val : Int) := by
  intro v
  induction v using Nat.strongRecOn with
  | ind v ih =>
    intro i hv h0
    have hl := hp.lt i h0
    obtain ⟨r0, r1⟩ := meaR_bd hb hc par i
    obtain ⟨e0, e1⟩ := meaD_bd hb hc par i
    obtain ⟨t0, t1⟩ := db_bd hb i.isLt
    have d0 := hb.de0 i.val i.isLt
    have d1 := hb.de1 i.val i.isLt
    obtain ⟨g0, g1⟩ := rho_bd hb hp i
    have z0 : 0 < n.m := Nat.lt_of_le_of_lt (Nat.zero_le _) i.isLt
    obtain ⟨_, _, b1, b2⟩ := hc 0 z0
    obtain ⟨_, _, b3, b4⟩ := hc i.val i.isLt
    have hr : rhoV n par i = rhoV n par (par i) + rateK n := by
      unfold rhoV
      rw [ups_pos hp.lt i h0, Int.natCast_add, Int.add_mul]
      simp
    have hi12 := hb.m12
    have hi := i.isLt
    rw [arI_step hp k h0]
    have key : (n.cP 0 - n.cP (par i).val - rhoV n par (par i) ≤ (lvI n par k (par i)).2 ∧ (lvI n par k (par i)).2 ≤ n.cP 0 - n.cP (par i).val + rhoV n par (par i)) ∧ -(1100000 * ((par i).val : Int)) - 1051771 ≤ (lvI n par k (par i)).1 ∧ (lvI n par k (par i)).1 ≤ 1100000 * ((par i).val : Int) + 1051771 := by
      unfold lvI lvQ
      by_cases hz : (par i).val = 0
      · rw [if_pos hz, hz]
        obtain ⟨q0, q1⟩ := rho_bd hb hp (par i)
        exact ⟨⟨by simp; omega, by simp; omega⟩, by simp, by simp⟩
      · rw [if_neg hz]
        obtain ⟨⟨a0, a1⟩, a2, a3⟩ := ih (par i).val (by omega) (par i) rfl (by omega)
        obtain ⟨x0, x1⟩ := el_bd hb hc par k (par i)
        obtain ⟨_, _, b5, b6⟩ := hc (par i).val (par i).isLt
        obtain ⟨q0, q1⟩ := rho_bd hb hp (par i)
        have hcb := cor_bd (C := (arI n par k (par i)).1) (x := elN n par k (par i)) (p := (arI n par k (par i)).2) (X := 1048800) (by omega) x1 (by omega) (by omega) (by omega)
        refine ⟨⟨a0, a1⟩, ?_, ?_⟩ <;> (simp only; omega)
    obtain ⟨⟨k0, k1⟩, k2, k3⟩ := key
    have hsum : n.cP 0 - n.cP i.val - rhoV n par i ≤ (lvI n par k (par i)).2 + meaR n par i ∧ (lvI n par k (par i)).2 + meaR n par i ≤ n.cP 0 - n.cP i.val + rhoV n par i := by omega
    have hcb := cor_bd (C := (lvI n par k (par i)).1) (x := meaD n par i) (p := (lvI n par k (par i)).2 + meaR n par i) (X := 10430) (by omega) (by omega) (by omega) (by omega) (by omega)
    unfold arQ
    refine ⟨hsum, ?_, ?_⟩ <;> (simp only; omega)
/-- What the grandmaster says of sync k. -/
def orgV (n : Nt) (k : Int) : Int := locV (n.cO 0) (n.cP 0) (n.st + k * n.iv)
theorem org_bd {n : Nt} (hb : n.Bd) (hc : n.Clk) {par : Fin n.m → Fin n.m} (hp : n.Par par) {i : Fin n.m} (h : 0 < i.val) {k : Int} (k0 : 0 ≤ k) (k1 : k ≤ lastK n par i) : Tick (n.st + k * n.iv) ∧ Stamp (orgV n k) := by
  obtain ⟨⟨a0, a1⟩, a2⟩ := arr_tick hb hp h k0 k1
  have h1 := arr_bd hb hp k0 k1
  have h3 := hb.st0
  have h4 := hb.ga0
  have h5 := hb.tu0
  have ht : Tick (n.st + k * n.iv) := ⟨by omega, by omega⟩
  have hl := loc_bd (hc 0 (Nat.lt_of_le_of_lt (Nat.zero_le _) i.isLt)) ht
  unfold orgV Stamp
  exact ⟨ht, by omega, by omega⟩
/-- Information that arrives is valid, and its rate is small. -/
theorem arI_ok {n : Nt} (hb : n.Bd) (hc : n.Clk) {par : Fin n.m → Fin n.m} (hp : n.Par par) {i : Fin n.m} (h : 0 < i.val) {k : Int} (k0 : 0 ≤ k) (k1 : k ≤ lastK n par i) : OkI (orgV n k) (arI n par k i).1 (arI n par k i).2 ∧ (-2602475 ≤ (arI n par k i).2 ∧ (arI n par k i).2 ≤ 2602475) := by
  obtain ⟨-, ho⟩ := org_bd hb hc hp h k0 k1
  obtain ⟨⟨a0, a1⟩, a2, a3⟩ := arI_bd hb hc hp k i.val i rfl h
  obtain ⟨g0, g1⟩ := rho_bd hb hp i
  have z0 : 0 < n.m := Nat.lt_of_le_of_lt (Nat.zero_le _) i.isLt
  obtain ⟨_, _, b1, b2⟩ := hc 0 z0
  obtain ⟨_, _, b3, b4⟩ := hc i.val i.isLt
  have hm := hb.m12
  have hi := i.isLt
  exact ⟨⟨ho, ⟨by omega, by omega⟩, ⟨by omega, by omega⟩⟩, by omega, by omega⟩
theorem lvI_ok {n : Nt} (hb : n.Bd) (hc : n.Clk) {par : Fin n.m → Fin n.m} (hp : n.Par par) {i : Fin n.m} (h : 0 < i.val) {k : Int} (k0 : 0 ≤ k) (k1 : k ≤ lastK n par i) : OkI (orgV n k) (lvI n par k (par i)).1 (lvI n par k (par i)).2 := by
  obtain ⟨-, ho⟩ := org_bd hb hc hp h k0 k1
  unfold lvI lvQ
  by_cases hz : (par i).val = 0
  · rw [if_pos hz]
    exact ⟨ho, ⟨by simp, by simp⟩, ⟨by simp, by simp⟩⟩
  · rw [if_neg hz]
    have k2 := lastK_par hb hp h k0 k1
    obtain ⟨⟨_, -, hr⟩, p0, p1⟩ := arI_ok hb hc hp (i := par i) (by omega) k0 k2
    obtain ⟨-, a2, a3⟩ := arI_bd hb hc hp k (par i).val (par i) rfl (by omega)
    obtain ⟨x0, x1⟩ := el_bd hb hc par k (par i)
    have hm := hb.m12
    have hi := (par i).isLt
    have hcb := cor_bd (C := (arI n par k (par i)).1) (x := elN n par k (par i)) (p := (arI n par k (par i)).2) (X := 1048800) (by omega) x1 (by omega) (by omega) (by omega)
    exact ⟨ho, ⟨by simp only; omega, by simp only; omega⟩, hr⟩

end Go.Proofs.YtkencmijghigiaaGreat
