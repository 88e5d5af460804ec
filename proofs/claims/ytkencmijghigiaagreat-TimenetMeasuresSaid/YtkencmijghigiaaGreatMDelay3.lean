/-
  The walks of package delay: spans, Ratio, the bounds.
-/
import Derived.Test.YtkencmijghigiaaGreatMDelay2
namespace Go.Proofs.YtkencmijghigiaaGreat
open Go.RowKit Go.Lib Plain

def sumTo (zs : Nat → Int) : Nat → Int
  | 0 => 0
  | k + 1 => sumTo zs k + zs k
theorem sumTo_bd (zs : Nat → Int) (k : Nat) (h : ∀ j, j < k → Tick (zs j)) : 0 ≤ sumTo zs k ∧ sumTo zs k ≤ k * 1099511627776 := by
  induction k with
  | zero => exact ⟨Int.le_refl _, Int.le_refl _⟩
  | succ k ih =>
    obtain ⟨i1, i2⟩ := ih (fun j hj => h j (by omega))
    obtain ⟨i3, i4⟩ := h k (by omega)
    show 0 ≤ sumTo zs k + zs k ∧ sumTo zs k + zs k ≤ _
    omega
def SpOk (zs : Nat → Int) (n : Nat) : Prop := (∀ j, j < n → Tick (zs j)) ∧ sumTo zs n ≤ 1099511627776

/-- delay.spans' closure: all durations and their sum are valid. -/
theorem spans1_yes (zs : Nat → Int) (n bs b : Nat) (hn : n ≤ 4) (w : World) (h1 : w.cell? ⟨bs, 0, none⟩ = some (.slice (some ⟨b, 0, none⟩) n n)) (hc : ∀ k, k < n → w.cell? ⟨b, k, none⟩ = some (.int .i64 (zs k))) (h : SpOk zs n) :
    Calls Tryz.prog 101 #[.pointer (some ⟨bs, 0, none⟩)] w fun y w' => y = .returned (.int .i64 0) ∧ Below w.heap.size w w' := by
  have HC := Lib.hid hc
  have HS := Lib.hid h
  clear hc h
  go_enter Tryz.func101, Tryz.ntmps101
  go_wp2
  go_loop [2, 7] (fun s i => ∃ k : Nat, k ≤ n ∧ i = .int .i64 k ∧ s = .int .i64 (sumTo zs k)) (fun _ i => n - (RowKit.intOf i).toNat)
  case atStart => exact ⟨0, Nat.zero_le _, rfl, rfl⟩
  case round =>
    obtain ⟨k, hk, rfl, rfl⟩ := hrel
    obtain ⟨s0, s1⟩ := sumTo_bd zs k (fun j hj => HS.out.1 j (by omega))
    by_cases hlt : k < n
    · have hcell := HC.out k hlt
      obtain ⟨z0, z1⟩ := HS.out.1 k hlt
      have q : inB (zs k) 0 1099511627776 = true := inB_yes ⟨z0, z1⟩
      go_wp2_with fail
      refine (inside_any _ _ _ _).mono ?_
      rintro e w' ⟨rfl, rfl⟩
      go_wp2
      go_round
      case rel => exact ⟨k + 1, by omega, by go_num, rfl⟩
      case measure => simp [RowKit.intOf]; omega
    · obtain rfl : k = n := by omega
      have hs := HS.out.2
      go_wp2
      go_ret
      exact ⟨rfl, Below.refl _ _⟩

theorem spans1_no (zs : Nat → Int) (n bs b : Nat) (hn : n ≤ 4) (w : World) (h1 : w.cell? ⟨bs, 0, none⟩ = some (.slice (some ⟨b, 0, none⟩) n n)) (hc : ∀ k, k < n → w.cell? ⟨b, k, none⟩ = some (.int .i64 (zs k))) (h : ¬ SpOk zs n) :
    Calls Tryz.prog 101 #[.pointer (some ⟨bs, 0, none⟩)] w fun y w' => y = .returned (.int .i64 2) ∧ Below w.heap.size w w' := by
  have HC := Lib.hid hc
  have HS := Lib.hid h
  clear hc h
  go_enter Tryz.func101, Tryz.ntmps101
  go_wp2
  go_loop [2, 7] (fun s i => ∃ k : Nat, k ≤ n ∧ i = .int .i64 k ∧ s = .int .i64 (sumTo zs k) ∧ Hid (∀ j, j < k → Tick (zs j))) (fun _ i => n - (RowKit.intOf i).toNat)
  case atStart => exact ⟨0, Nat.zero_le _, rfl, rfl, fun j hj => absurd hj (by omega)⟩
  case round =>
    obtain ⟨k, hk, rfl, rfl, ht⟩ := hrel
    obtain ⟨s0, s1⟩ := sumTo_bd zs k ht.out
    by_cases hlt : k < n
    · have hcell := HC.out k hlt
      by_cases hz : Tick (zs k)
      · have q : inB (zs k) 0 1099511627776 = true := inB_yes hz
        have ht2 : Hid (∀ j, j < k + 1 → Tick (zs j)) := by
          intro j hj
          rcases (show j < k ∨ j = k by omega) with x | rfl
          · exact ht.out j x
          · exact hz
        obtain ⟨z0, z1⟩ := hz
        clear ht
        go_wp2_with fail
        refine (inside_any _ _ _ _).mono ?_
        rintro e w' ⟨rfl, rfl⟩
        go_wp2
        go_round
        case rel => exact ⟨k + 1, by omega, by go_num, rfl, ht2⟩
        case measure => simp [RowKit.intOf]; omega
      · have q : inB (zs k) 0 1099511627776 = false := inB_no hz
        clear ht hz
        go_wp2_with fail
        refine (inside_any _ _ _ _).mono ?_
        rintro e w' ⟨rfl, rfl⟩
        go_wp2
        go_ret
        exact ⟨rfl, Below.refl _ _⟩
    · obtain rfl : k = n := by omega
      have hs : 1099511627776 < sumTo zs k := by
        rcases Int.lt_or_le 1099511627776 (sumTo zs k) with x | x
        · exact x
        · exact absurd ⟨ht.out, x⟩ HS.out
      go_wp2
      go_ret
      exact ⟨rfl, Below.refl _ _⟩

/-- delay.spans -/
theorem spans_any (b n : Nat) (w : World) :
    Calls Tryz.prog 76 #[.slice (some ⟨b, 0, none⟩) n n] w fun y w' => y = .returned (.func (.func 101) #[] #[.pointer (some ⟨w.heap.size, 0, none⟩)]) ∧
      Below w.heap.size w w' ∧ w'.cell? ⟨w.heap.size, 0, none⟩ = some (.slice (some ⟨b, 0, none⟩) n n) := by
  go_enter Tryz.func76, Tryz.ntmps76
  go_wp2
  go_ret
  exact ⟨rfl, below_alloc (Below.refl _ _) _, by simp [go_sem]⟩

/-- Ratio's closures. -/
theorem ratio1_any (a b c d : Int) (bl : Nat) (w : World) (h0 : w.cell? ⟨bl, 0, none⟩ = some (.int .i64 a)) (h1 : w.cell? ⟨bl, 1, none⟩ = some (.int .i64 b)) (h2 : w.cell? ⟨bl, 2, none⟩ = some (.int .i64 c)) (h3 : w.cell? ⟨bl, 3, none⟩ = some (.int .i64 d)) :
    Calls Tryz.prog 80 #[.pointer (some ⟨bl, 0, none⟩)] w fun e w' => e = .returned (.int .i64 (xV a b c d)) ∧ Below w.heap.size w w' := by
  go_enter Tryz.func80, Tryz.ntmps80
  go_wp2_with fail
  refine (xCheck_any a b c d _).mono ?_
  rintro e w1 ⟨rfl, hb1⟩
  go_wp2
  go_ret
  exact ⟨rfl, hb1⟩
theorem ratio2_any (a b c d : Int) (bl : Nat) (w : World) (h0 : w.cell? ⟨bl, 0, none⟩ = some (.int .i64 a)) (h1 : w.cell? ⟨bl, 1, none⟩ = some (.int .i64 b)) (h2 : w.cell? ⟨bl, 2, none⟩ = some (.int .i64 c)) (h3 : w.cell? ⟨bl, 3, none⟩ = some (.int .i64 d)) :
    Calls Tryz.prog 81 #[.pointer (some ⟨bl, 0, none⟩)] w fun e w' => e = .returned (.int .i64 (xV a b c d)) ∧ Below w.heap.size w w' := by
  go_enter Tryz.func81, Tryz.ntmps81
  go_wp2_with fail
  refine (xCheck_any a b c d _).mono ?_
  rintro e w1 ⟨rfl, hb1⟩
  go_wp2
  go_ret
  exact ⟨rfl, hb1⟩

/-- num.MulDiv, whatever the quotient. -/
def mdV (a b c : Int) : Int := if -1125899906842624 ≤ a * b / c ∧ a * b / c ≤ 1125899906842624 then a * b / c else 0
def mdB (a b c : Int) : Bool := decide (-1125899906842624 ≤ a * b / c ∧ a * b / c ≤ 1125899906842624)
theorem mulDiv_any (a b c : Int) (a1 : -1125899906842624 ≤ a) (a2 : a ≤ 1125899906842624) (b1 : -1125899906842624 ≤ b) (b2 : b ≤ 1125899906842624) (c1 : 1 ≤ c) (c2 : c ≤ 1125899906842624) (w : World) :
    Calls Tryz.prog 70 #[.int .i64 a, .int .i64 b, .int .i64 c] w fun e w' => e = .returned (.tuple #[.int .i64 (mdV a b c), .bool (mdB a b c)]) ∧ Below w.heap.size w w' := by
  by_cases h : -1125899906842624 ≤ a * b / c ∧ a * b / c ≤ 1125899906842624
  · rw [show mdV a b c = a * b / c from if_pos h, show mdB a b c = true from decide_eq_true h]
    exact mulDiv_yes a b c a1 a2 b1 b2 c1 c2 h.1 h.2 w
  · rw [show mdV a b c = 0 from if_neg h, show mdB a b c = false from decide_eq_false h]
    exact mulDiv_no a b c a1 a2 b1 b2 c1 c2 (by omega) w

/-- The post of both Ratios. -/
def RtPost (p : Prop) [Decidable p] (y z : Int) (w : World) (e : Ending) (w' : World) : Prop := e = .returned (.tuple #[.int .i64 (rtV p y z), .int .i64 (rtE p y z)]) ∧ Below w.heap.size w w'

theorem firstE_1 (e2 e3 : Int) : firstE 220 e2 e3 = 220 := if_neg (by decide)
theorem firstE_2 (e3 : Int) : firstE 0 220 e3 = 220 := by unfold firstE; rw [if_pos rfl, if_neg (by decide)]
theorem firstE_3 (e3 : Int) : firstE 0 0 e3 = e3 := by unfold firstE; rw [if_pos rfl, if_pos rfl]
theorem firstE_4 (e2 e3 : Int) : firstE 190 e2 e3 = 190 := if_neg (by decide)
theorem firstE_5 (e3 : Int) : firstE 0 190 e3 = 190 := by unfold firstE; rw [if_pos rfl, if_neg (by decide)]

set_option maxHeartbeats 2000000 in
theorem ratio_bad1 (a b c d a' b' c' d' : Int) (h : ¬ OkX a b c d) (w : World) :
    Calls Tryz.prog 46 #[.agg #[.int .i64 a, .int .i64 b, .int .i64 c, .int .i64 d], .agg #[.int .i64 a', .int .i64 b', .int .i64 c', .int .i64 d']] w fun e w' => e = .returned (.tuple #[.int .i64 0, .int .i64 220]) ∧ Below w.heap.size w w' := by
  have A1 : Hid (xV a b c d = 220) := if_neg h
  clear h
  go_enter Tryz.func46, Tryz.ntmps46
  go_wp2_with fail
  refine (demand_any _ _ _).mono ?_
  rintro e w1 ⟨rfl, hb1, q1, q2⟩
  have x0 : w1.cell? ⟨w.heap.size, 0, none⟩ = some (.int .i64 a) := below_keep hb1 (by simp [go_sem])
  have x1 : w1.cell? ⟨w.heap.size, 1, none⟩ = some (.int .i64 b) := below_keep hb1 (by simp [go_sem])
  have x2 : w1.cell? ⟨w.heap.size, 2, none⟩ = some (.int .i64 c) := below_keep hb1 (by simp [go_sem])
  have x3 : w1.cell? ⟨w.heap.size, 3, none⟩ = some (.int .i64 d) := below_keep hb1 (by simp [go_sem])
  have y0 : w1.cell? ⟨w.heap.size + 1, 0, none⟩ = some (.int .i64 a') := below_keep hb1 (by simp [go_sem])
  have y1 : w1.cell? ⟨w.heap.size + 1, 1, none⟩ = some (.int .i64 b') := below_keep hb1 (by simp [go_sem])
  have y2 : w1.cell? ⟨w.heap.size + 1, 2, none⟩ = some (.int .i64 c') := below_keep hb1 (by simp [go_sem])
  have y3 : w1.cell? ⟨w.heap.size + 1, 3, none⟩ = some (.int .i64 d') := below_keep hb1 (by simp [go_sem])
  have HA := Lib.hid (fun W (hB : Below w1.heap.size w1 W) => ratio1_any a b c d _ W (below_keep hB x0) (below_keep hB x1) (below_keep hB x2) (below_keep hB x3))
  have HB := Lib.hid (fun W (hB : Below w1.heap.size w1 W) => ratio2_any a' b' c' d' _ W (below_keep hB y0) (below_keep hB y1) (below_keep hB y2) (below_keep hB y3))
  have HD := Lib.hid (fun W (hB : Below w1.heap.size w1 W) => demand1_any _ _ _ _ W (below_keep hB q1) (below_keep hB q2))
  have H1 := Lib.hid (below_step (below_alloc (below_alloc (Below.refl _ _) _) _) hb1)
  clear hb1 q1 q2
  simp only [A1.out] at HA
  go_wp2_with fail
  refine (first_ratio 220 (xV a' b' c' d') _ _ _ _ _ _ _ (by simp [go_sem]) (by simp [go_sem]) (by simp [go_sem])
    (Lib.hid fun W hB => HA.out W (below_step (below_alloc (Below.refl _ _) _) hB)) (Lib.hid fun W hB => HB.out W (below_step (below_alloc (Below.refl _ _) _) hB)) (Lib.hid fun W hB => HD.out W (below_step (below_alloc (Below.refl _ _) _) hB))).mono ?_
  rw [firstE_1]
  rintro e w2 ⟨rfl, hb2⟩
  have H2 := Lib.hid (below_step (below_alloc H1.out _) hb2)
  clear hb2
  go_wp2
  go_ret2
  exact ⟨rfl, H2.out⟩

set_option maxHeartbeats 2000000 in
theorem ratio_bad2 (a b c d a' b' c' d' : Int) (h : OkX a b c d) (h' : ¬ OkX a' b' c' d') (w : World) :
    Calls Tryz.prog 46 #[.agg #[.int .i64 a, .int .i64 b, .int .i64 c, .int .i64 d], .agg #[.int .i64 a', .int .i64 b', .int .i64 c', .int .i64 d']] w fun e w' => e = .returned (.tuple #[.int .i64 0, .int .i64 220]) ∧ Below w.heap.size w w' := by
  have A1 : Hid (xV a b c d = 0) := if_pos h
  have A2 : Hid (xV a' b' c' d' = 220) := if_neg h'
  clear h h'
  go_enter Tryz.func46, Tryz.ntmps46
  go_wp2_with fail
  refine (demand_any _ _ _).mono ?_
  rintro e w1 ⟨rfl, hb1, q1, q2⟩
  have x0 : w1.cell? ⟨w.heap.size, 0, none⟩ = some (.int .i64 a) := below_keep hb1 (by simp [go_sem])
  have x1 : w1.cell? ⟨w.heap.size, 1, none⟩ = some (.int .i64 b) := below_keep hb1 (by simp [go_sem])
  have x2 : w1.cell? ⟨w.heap.size, 2, none⟩ = some (.int .i64 c) := below_keep hb1 (by simp [go_sem])
  have x3 : w1.cell? ⟨w.heap.size, 3, none⟩ = some (.int .i64 d) := below_keep hb1 (by simp [go_sem])
  have y0 : w1.cell? ⟨w.heap.size + 1, 0, none⟩ = some (.int .i64 a') := below_keep hb1 (by simp [go_sem])
  have y1 : w1.cell? ⟨w.heap.size + 1, 1, none⟩ = some (.int .i64 b') := below_keep hb1 (by simp [go_sem])
  have y2 : w1.cell? ⟨w.heap.size + 1, 2, none⟩ = some (.int .i64 c') := below_keep hb1 (by simp [go_sem])
  have y3 : w1.cell? ⟨w.heap.size + 1, 3, none⟩ = some (.int .i64 d') := below_keep hb1 (by simp [go_sem])
  have HA := Lib.hid (fun W (hB : Below w1.heap.size w1 W) => ratio1_any a b c d _ W (below_keep hB x0) (below_keep hB x1) (below_keep hB x2) (below_keep hB x3))
  have HB := Lib.hid (fun W (hB : Below w1.heap.size w1 W) => ratio2_any a' b' c' d' _ W (below_keep hB y0) (below_keep hB y1) (below_keep hB y2) (below_keep hB y3))
  have HD := Lib.hid (fun W (hB : Below w1.heap.size w1 W) => demand1_any _ _ _ _ W (below_keep hB q1) (below_keep hB q2))
  have H1 := Lib.hid (below_step (below_alloc (below_alloc (Below.refl _ _) _) _) hb1)
  clear hb1 q1 q2
  simp only [A1.out, A2.out] at HA HB
  go_wp2_with fail
  refine (first_ratio 0 220 _ _ _ _ _ _ _ (by simp [go_sem]) (by simp [go_sem]) (by simp [go_sem])
    (Lib.hid fun W hB => HA.out W (below_step (below_alloc (Below.refl _ _) _) hB)) (Lib.hid fun W hB => HB.out W (below_step (below_alloc (Below.refl _ _) _) hB)) (Lib.hid fun W hB => HD.out W (below_step (below_alloc (Below.refl _ _) _) hB))).mono ?_
  rw [firstE_2]
  rintro e w2 ⟨rfl, hb2⟩
  have H2 := Lib.hid (below_step (below_alloc H1.out _) hb2)
  clear hb2
  go_wp2
  go_ret2
  exact ⟨rfl, H2.out⟩

set_option maxHeartbeats 2000000 in
theorem ratio_early (a b c d a' b' c' d' : Int) (h : OkX a b c d) (h' : OkX a' b' c' d') (hy : d' - d < 1) (w : World) :
    Calls Tryz.prog 46 #[.agg #[.int .i64 a, .int .i64 b, .int .i64 c, .int .i64 d], .agg #[.int .i64 a', .int .i64 b', .int .i64 c', .int .i64 d']] w fun e w' => e = .returned (.tuple #[.int .i64 0, .int .i64 2]) ∧ Below w.heap.size w w' := by
  have A1 : Hid (xV a b c d = 0) := if_pos h
  have A2 : Hid (xV a' b' c' d' = 0) := if_pos h'
  have D2 : Hid (demE (decide (1 ≤ d' - d)) 2 = 2) := by show demE _ 2 = 2; rw [show decide (1 ≤ d' - d) = false from decide_eq_false (by omega)]; rfl
  clear hy
  obtain ⟨⟨h1, h2⟩, ⟨h3, h4⟩, ⟨h5, h6⟩, ⟨h7, h8⟩, h9, h10⟩ := h
  obtain ⟨⟨k1, k2⟩, ⟨k3, k4⟩, ⟨k5, k6⟩, ⟨k7, k8⟩, k9, k10⟩ := h'
  go_enter Tryz.func46, Tryz.ntmps46
  go_wp2_with fail
  refine (demand_any _ _ _).mono ?_
  rintro e w1 ⟨rfl, hb1, q1, q2⟩
  have x0 : w1.cell? ⟨w.heap.size, 0, none⟩ = some (.int .i64 a) := below_keep hb1 (by simp [go_sem])
  have x1 : w1.cell? ⟨w.heap.size, 1, none⟩ = some (.int .i64 b) := below_keep hb1 (by simp [go_sem])
  have x2 : w1.cell? ⟨w.heap.size, 2, none⟩ = some (.int .i64 c) := below_keep hb1 (by simp [go_sem])
  have x3 : w1.cell? ⟨w.heap.size, 3, none⟩ = some (.int .i64 d) := below_keep hb1 (by simp [go_sem])
  have y0 : w1.cell? ⟨w.heap.size + 1, 0, none⟩ = some (.int .i64 a') := below_keep hb1 (by simp [go_sem])
  have y1 : w1.cell? ⟨w.heap.size + 1, 1, none⟩ = some (.int .i64 b') := below_keep hb1 (by simp [go_sem])
  have y2 : w1.cell? ⟨w.heap.size + 1, 2, none⟩ = some (.int .i64 c') := below_keep hb1 (by simp [go_sem])
  have y3 : w1.cell? ⟨w.heap.size + 1, 3, none⟩ = some (.int .i64 d') := below_keep hb1 (by simp [go_sem])
  have HA := Lib.hid (fun W (hB : Below w1.heap.size w1 W) => ratio1_any a b c d _ W (below_keep hB x0) (below_keep hB x1) (below_keep hB x2) (below_keep hB x3))
  have HB := Lib.hid (fun W (hB : Below w1.heap.size w1 W) => ratio2_any a' b' c' d' _ W (below_keep hB y0) (below_keep hB y1) (below_keep hB y2) (below_keep hB y3))
  have HD := Lib.hid (fun W (hB : Below w1.heap.size w1 W) => demand1_any _ _ _ _ W (below_keep hB q1) (below_keep hB q2))
  have H1 := Lib.hid (below_step (below_alloc (below_alloc (Below.refl _ _) _) _) hb1)
  clear hb1 q1 q2
  simp only [A1.out, A2.out] at HA HB
  go_wp2_with fail
  refine (first_ratio 0 0 _ _ _ _ _ _ _ (by simp [go_sem]) (by simp [go_sem]) (by simp [go_sem])
    (Lib.hid fun W hB => HA.out W (below_step (below_alloc (Below.refl _ _) _) hB)) (Lib.hid fun W hB => HB.out W (below_step (below_alloc (Below.refl _ _) _) hB)) (Lib.hid fun W hB => HD.out W (below_step (below_alloc (Below.refl _ _) _) hB))).mono ?_
  rw [firstE_3, D2.out]
  rintro e w2 ⟨rfl, hb2⟩
  have H2 := Lib.hid (below_step (below_alloc H1.out _) hb2)
  clear hb2
  go_wp2
  go_ret2
  exact ⟨rfl, H2.out⟩

set_option maxHeartbeats 2000000 in
theorem ratio_ok (a b c d a' b' c' d' : Int) (h : OkX a b c d) (h' : OkX a' b' c' d') (hy : 1 ≤ d' - d) (q k : Int) (hq : (rq (d' - d) (c' - c) = q ∧ -8388608 ≤ q ∧ q ≤ 8388608 ∧ k = 0) ∨ ((rq (d' - d) (c' - c) < -8388608 ∨ 8388608 < rq (d' - d) (c' - c)) ∧ q = 0 ∧ k = 6)) (w : World) :
    Calls Tryz.prog 46 #[.agg #[.int .i64 a, .int .i64 b, .int .i64 c, .int .i64 d], .agg #[.int .i64 a', .int .i64 b', .int .i64 c', .int .i64 d']] w fun e w' => e = .returned (.tuple #[.int .i64 q, .int .i64 k]) ∧ Below w.heap.size w w' := by
  have A1 : Hid (xV a b c d = 0) := if_pos h
  have A2 : Hid (xV a' b' c' d' = 0) := if_pos h'
  have D2 : Hid (demE (decide (1 ≤ d' - d)) 2 = 0) := by show demE _ 2 = 0; rw [show decide (1 ≤ d' - d) = true from decide_eq_true hy]; rfl
  have hcases : ∃ m f, Hid (mdV (c' - c - (d' - d)) 1000000000 (d' - d) = m) ∧ Hid (mdB (c' - c - (d' - d)) 1000000000 (d' - d) = f) ∧
      ((f = true ∧ m = q ∧ k = 0 ∧ inB q (-8388608) 8388608 = true) ∨ (f = true ∧ q = 0 ∧ k = 6 ∧ inB m (-8388608) 8388608 = false) ∨ (f = false ∧ q = 0 ∧ k = 6)) := by
    by_cases hr : -1125899906842624 ≤ rq (d' - d) (c' - c) ∧ rq (d' - d) (c' - c) ≤ 1125899906842624
    · refine ⟨_, _, Lib.hid (if_pos hr), Lib.hid (decide_eq_true hr), ?_⟩
      rcases hq with ⟨e, k1, k2, rfl⟩ | ⟨k1, rfl, rfl⟩
      · exact .inl ⟨rfl, e, rfl, inB_yes ⟨k1, k2⟩⟩
      · exact .inr (.inl ⟨rfl, rfl, rfl, inB_no (fun x => by unfold rq at k1; omega)⟩)
    · refine ⟨_, _, Lib.hid (if_neg hr), Lib.hid (decide_eq_false hr), ?_⟩
      rcases hq with ⟨e, k1, k2, rfl⟩ | ⟨k1, rfl, rfl⟩
      · exact absurd ⟨by omega, by omega⟩ hr
      · exact .inr (.inr ⟨rfl, rfl, rfl⟩)
  obtain ⟨m, f, MV, MB, hc⟩ := hcases
  have HY := Lib.hid hy
  have HCS := Lib.hid hc
  clear hy hq hc
  obtain ⟨⟨h1, h2⟩, ⟨h3, h4⟩, ⟨h5, h6⟩, ⟨h7, h8⟩, h9, h10⟩ := h
  obtain ⟨⟨k1, k2⟩, ⟨k3, k4⟩, ⟨k5, k6⟩, ⟨k7, k8⟩, k9, k10⟩ := h'
  go_enter Tryz.func46, Tryz.ntmps46
  go_wp2_with fail
  refine (demand_any _ _ _).mono ?_
  rintro e w1 ⟨rfl, hb1, q1, q2⟩
  have x0 : w1.cell? ⟨w.heap.size, 0, none⟩ = some (.int .i64 a) := below_keep hb1 (by simp [go_sem])
  have x1 : w1.cell? ⟨w.heap.size, 1, none⟩ = some (.int .i64 b) := below_keep hb1 (by simp [go_sem])
  have x2 : w1.cell? ⟨w.heap.size, 2, none⟩ = some (.int .i64 c) := below_keep hb1 (by simp [go_sem])
  have x3 : w1.cell? ⟨w.heap.size, 3, none⟩ = some (.int .i64 d) := below_keep hb1 (by simp [go_sem])
  have y0 : w1.cell? ⟨w.heap.size + 1, 0, none⟩ = some (.int .i64 a') := below_keep hb1 (by simp [go_sem])
  have y1 : w1.cell? ⟨w.heap.size + 1, 1, none⟩ = some (.int .i64 b') := below_keep hb1 (by simp [go_sem])
  have y2 : w1.cell? ⟨w.heap.size + 1, 2, none⟩ = some (.int .i64 c') := below_keep hb1 (by simp [go_sem])
  have y3 : w1.cell? ⟨w.heap.size + 1, 3, none⟩ = some (.int .i64 d') := below_keep hb1 (by simp [go_sem])
  have HA := Lib.hid (fun W (hB : Below w1.heap.size w1 W) => ratio1_any a b c d _ W (below_keep hB x0) (below_keep hB x1) (below_keep hB x2) (below_keep hB x3))
  have HB := Lib.hid (fun W (hB : Below w1.heap.size w1 W) => ratio2_any a' b' c' d' _ W (below_keep hB y0) (below_keep hB y1) (below_keep hB y2) (below_keep hB y3))
  have HD := Lib.hid (fun W (hB : Below w1.heap.size w1 W) => demand1_any _ _ _ _ W (below_keep hB q1) (below_keep hB q2))
  have H1 := Lib.hid (below_step (below_alloc (below_alloc (Below.refl _ _) _) _) hb1)
  clear hb1 q1 q2
  simp only [A1.out, A2.out] at HA HB
  go_wp2_with fail
  refine (first_ratio 0 0 _ _ _ _ _ _ _ (by simp [go_sem]) (by simp [go_sem]) (by simp [go_sem])
    (Lib.hid fun W hB => HA.out W (below_step (below_alloc (Below.refl _ _) _) hB)) (Lib.hid fun W hB => HB.out W (below_step (below_alloc (Below.refl _ _) _) hB)) (Lib.hid fun W hB => HD.out W (below_step (below_alloc (Below.refl _ _) _) hB))).mono ?_
  rw [firstE_3, D2.out]
  rintro e w2 ⟨rfl, hb2⟩
  have z0 : w2.cell? ⟨w.heap.size, 2, none⟩ = some (.int .i64 c) := below_keep hb2 (by rw [World.cell?_alloc_lt _ _ _ (World.block_lt_of_cell? _ _ x2)]; exact x2)
  have z1 : w2.cell? ⟨w.heap.size, 3, none⟩ = some (.int .i64 d) := below_keep hb2 (by rw [World.cell?_alloc_lt _ _ _ (World.block_lt_of_cell? _ _ x3)]; exact x3)
  have z2 : w2.cell? ⟨w.heap.size + 1, 2, none⟩ = some (.int .i64 c') := below_keep hb2 (by rw [World.cell?_alloc_lt _ _ _ (World.block_lt_of_cell? _ _ y2)]; exact y2)
  have z3 : w2.cell? ⟨w.heap.size + 1, 3, none⟩ = some (.int .i64 d') := below_keep hb2 (by rw [World.cell?_alloc_lt _ _ _ (World.block_lt_of_cell? _ _ y3)]; exact y3)
  have H2 := Lib.hid (below_step (below_alloc H1.out _) hb2)
  clear hb2 x0 x1 x2 x3 y0 y1 y2 y3 H1 HA HB HD
  have hy := HY.out
  go_wp2_with fail
  refine (mulDiv_any _ 1000000000 _ (by omega) (by omega) (by omega) (by omega) (by omega) (by omega) _).mono ?_
  rw [MV.out, MB.out]
  rintro e w3 ⟨rfl, hb3⟩
  have H3 := Lib.hid (below_step H2.out hb3)
  clear hb3 H2 z0 z1 z2 z3 MV MB
  rcases HCS.out with ⟨rfl, rfl, rfl, g⟩ | ⟨rfl, rfl, rfl, g⟩ | ⟨rfl, rfl, rfl⟩
  · clear HCS
    go_wp2_with fail
    refine (inside_any _ _ _ _).mono ?_
    rintro e w' ⟨rfl, rfl⟩
    go_wp2
    go_ret2
    exact ⟨rfl, H3.out⟩
  · clear HCS
    go_wp2_with fail
    refine (inside_any _ _ _ _).mono ?_
    rintro e w' ⟨rfl, rfl⟩
    go_wp2
    go_ret2
    exact ⟨rfl, H3.out⟩
  · clear HCS
    go_wp2
    go_ret2
    exact ⟨rfl, H3.out⟩

/-- delay.Ratio -/
theorem ratio_any (a b c d a' b' c' d' : Int) (w : World) :
    Calls Tryz.prog 46 #[.agg #[.int .i64 a, .int .i64 b, .int .i64 c, .int .i64 d], .agg #[.int .i64 a', .int .i64 b', .int .i64 c', .int .i64 d']] w (RtPost (OkX a b c d ∧ OkX a' b' c' d') (d' - d) (c' - c) w) := by
  unfold RtPost
  by_cases h : OkX a b c d
  · by_cases h' : OkX a' b' c' d'
    · by_cases hy : 1 ≤ d' - d
      · by_cases hr : -8388608 ≤ rq (d' - d) (c' - c) ∧ rq (d' - d) (c' - c) ≤ 8388608
        · unfold rtV rtE
          rw [if_pos (And.intro h h'), if_pos (And.intro h h'), if_pos hy, if_pos hy, if_pos hr, if_pos hr]
          exact ratio_ok a b c d a' b' c' d' h h' hy _ _ (.inl ⟨rfl, hr.1, hr.2, rfl⟩) w
        · unfold rtV rtE
          rw [if_pos (And.intro h h'), if_pos (And.intro h h'), if_pos hy, if_pos hy, if_neg hr, if_neg hr]
          exact ratio_ok a b c d a' b' c' d' h h' hy _ _ (.inr ⟨by omega, rfl, rfl⟩) w
      · unfold rtV rtE
        rw [if_pos (And.intro h h'), if_pos (And.intro h h'), if_neg hy, if_neg hy]
        exact ratio_early a b c d a' b' c' d' h h' (by omega) w
    · unfold rtV rtE
      rw [if_neg (show ¬ (OkX a b c d ∧ OkX a' b' c' d') from fun x => h' x.2), if_neg (show ¬ (OkX a b c d ∧ OkX a' b' c' d') from fun x => h' x.2)]
      exact ratio_bad2 a b c d a' b' c' d' h h' w
  · unfold rtV rtE
    rw [if_neg (show ¬ (OkX a b c d ∧ OkX a' b' c' d') from fun x => h x.1), if_neg (show ¬ (OkX a b c d ∧ OkX a' b' c' d') from fun x => h x.1)]
    exact ratio_bad1 a b c d a' b' c' d' h w

end Go.Proofs.YtkencmijghigiaaGreat
