/-
  The walks of the reference of package delay: Right, Delay, long, exact, Ratio.
-/
import Derived.Test.YtkencmijghigiaaGreatMDelay3
namespace Go.Proofs.YtkencmijghigiaaGreat
open Go.RowKit Go.Lib Plain

def stB (t : Int) : Bool := inB t (-4398046511104) 4398046511104

theorem stB_yes {t : Int} (h : -4398046511104 ≤ t ∧ t ≤ 4398046511104) : stB t = true := inB_yes h
theorem stB_no {t : Int} (h : ¬ (-4398046511104 ≤ t ∧ t ≤ 4398046511104)) : stB t = false := inB_no h

/-- isochronref12.Delay -/
theorem delayRef_any (a b c d : Int) (h : OkX a b c d) (w : World) :
    Calls Tryz.prog 31 #[.agg #[.int .i64 a, .int .i64 b, .int .i64 c, .int .i64 d]] w fun e w' => e = .returned (.int .i64 (dlV a b c d)) ∧ Below w.heap.size w w' := by
  obtain ⟨⟨h1, h2⟩, ⟨h3, h4⟩, ⟨h5, h6⟩, ⟨h7, h8⟩, h9, h10⟩ := h
  rw [show dlV a b c d = (d - a - c + b) / 2 by unfold dlV; congr 1; omega]
  go_enter Tryz.func31, Tryz.ntmps31
  go_wp2_with fail
  refine (floor_any _ 2 (by omega) (by omega) (by omega) _).mono ?_
  rintro e w' ⟨rfl, rfl⟩
  go_wp2
  go_ret
  exact ⟨rfl, below_alloc (Below.refl _ _) _⟩

def pw : Nat → Int
  | 0 => 1
  | k + 1 => pw k * 10
theorem pw_bd (k : Nat) (h : k ≤ 9) : 1 ≤ pw k ∧ pw k ≤ 1000000000 := by
  match k, h with
  | 0, _ => decide
  | 1, _ => decide
  | 2, _ => decide
  | 3, _ => decide
  | 4, _ => decide
  | 5, _ => decide
  | 6, _ => decide
  | 7, _ => decide
  | 8, _ => decide
  | 9, _ => decide
theorem pw_div {n y : Int} (h0 : 0 ≤ n) (h1 : n ≤ y) (hy : 1 ≤ y) (k : Nat) (hk : k ≤ 9) : 0 ≤ n * pw k / y ∧ n * pw k / y ≤ 1000000000 ∧ 0 ≤ n * pw k % y ∧ n * pw k % y < y := by
  obtain ⟨p1, p2⟩ := pw_bd k hk
  have m0 : 0 ≤ n * pw k := Int.mul_nonneg h0 (by omega)
  refine ⟨Int.ediv_nonneg m0 (by omega), ?_, Int.emod_nonneg _ (by omega), Int.emod_lt_of_pos _ (by omega)⟩
  have h : n * pw k ≤ y * pw k := Int.mul_le_mul_of_nonneg_right h1 (by omega)
  have h2 : n * pw k / y ≤ pw k := by
    have := Int.ediv_le_ediv (c := y) (by omega) h
    rwa [Int.mul_ediv_cancel_left _ (by omega)] at this
  omega

set_option maxHeartbeats 1000000 in
/-- isochronref12.long, from 0 on -/
theorem long_pos (n y : Int) (h0 : 0 ≤ n) (h1 : n ≤ y) (hy : 1 ≤ y) (hy2 : y ≤ 17592186044416) (w : World) :
    Calls Tryz.prog 53 #[.int .i64 n, .int .i64 y] w fun e w' => e = .returned (.int .i64 (n * 1000000000 / y)) ∧ Below w.heap.size w w' := by
  have b0 : ¬ y = 0 := by omega
  have HP := Lib.hid (fun k (hk : k ≤ 9) => pw_div h0 h1 hy k hk)
  have HD := Lib.hid (fun k => digit_div (n := n) (y := y) (by omega) (pw k))
  have s0 := pw_div h0 h1 hy 0 (by omega)
  rw [show pw 0 = 1 from rfl, Int.mul_one] at s0
  obtain ⟨s1, s2, s3, s4⟩ := s0
  go_enter Tryz.func53, Tryz.ntmps53
  go_wp2
  go_quiet (fail)
  go_wp2
  go_loop [6, 7, 8] (fun qs rs i => ∃ (k : Nat) (q r : Int), k ≤ 9 ∧ i = .int .i64 k ∧ qs = .int .i64 q ∧ rs = .int .i64 r ∧ Hid (q = n * pw k / y ∧ r = n * pw k % y)) (fun _ _ i => 9 - (RowKit.intOf i).toNat)
  case atStart => exact ⟨0, n / y, n % y, by omega, rfl, rfl, rfl, Lib.hid (by rw [show pw 0 = 1 from rfl, Int.mul_one]; exact ⟨rfl, rfl⟩)⟩
  case round =>
    clear s1 s2 s3 s4
    obtain ⟨k, q, r, hk, rfl, rfl, rfl, HQ⟩ := hrel
    have hb := HP.out k hk
    rw [← HQ.out.1, ← HQ.out.2] at hb
    obtain ⟨c1, c2, c3, c4⟩ := hb
    by_cases hlt : k < 9
    · have hd := HD.out k
      rw [← HQ.out.1, ← HQ.out.2] at hd
      have HE := Lib.hid hd
      have hb := HP.out (k + 1) (by omega)
      rw [show pw (k + 1) = pw k * 10 from rfl, hd.1, hd.2] at hb
      obtain ⟨c5, c6, c7, c8⟩ := hb
      have c9 : 0 ≤ r * 10 / y := Int.ediv_nonneg (by omega) (by omega)
      have c10 : r * 10 / y ≤ 1000000000 := by omega
      clear hd
      go_wp2
      go_round
      case rel => exact ⟨k + 1, _, _, by omega, by go_num, rfl, rfl, Lib.hid ⟨HE.out.1.symm, HE.out.2.symm⟩⟩
      case measure => simp [RowKit.intOf]; omega
    · obtain rfl : k = 9 := by omega
      go_wp2
      go_ret
      exact ⟨ret_int (by rw [HQ.out.1]; rfl), by first | exact below_drewN' (Below.refl _ _) _ | exact Below.refl _ _⟩

/-- isochronref12.exact -/
theorem exact_any (n y : Int) (h0 : 0 ≤ n) (h1 : n ≤ y) (hy : 1 ≤ y) (hy2 : y ≤ 17592186044416) (w : World) :
    Calls Tryz.prog 92 #[.int .i64 n, .int .i64 y] w fun e w' => e = .returned (.bool (n * 1000000000 % y == 0)) ∧ Below w.heap.size w w' := by
  have b0 : ¬ y = 0 := by omega
  have HP := Lib.hid (fun k (hk : k ≤ 9) => pw_div h0 h1 hy k hk)
  have HD := Lib.hid (fun k => digit_div (n := n) (y := y) (by omega) (pw k))
  have s0 := pw_div h0 h1 hy 0 (by omega)
  rw [show pw 0 = 1 from rfl, Int.mul_one] at s0
  obtain ⟨s1, s2, s3, s4⟩ := s0
  go_enter Tryz.func92, Tryz.ntmps92
  go_wp2
  go_loop [5, 6] (fun rs i => ∃ (k : Nat) (r : Int), k ≤ 9 ∧ i = .int .i64 k ∧ rs = .int .i64 r ∧ Hid (r = n * pw k % y)) (fun _ i => 9 - (RowKit.intOf i).toNat)
  case atStart => exact ⟨0, n % y, by omega, rfl, rfl, Lib.hid (by rw [show pw 0 = 1 from rfl, Int.mul_one])⟩
  case round =>
    clear s1 s2 s3 s4
    obtain ⟨k, r, hk, rfl, rfl, HQ⟩ := hrel
    have hb := HP.out k hk
    rw [← HQ.out] at hb
    obtain ⟨_, _, c3, c4⟩ := hb
    by_cases hlt : k < 9
    · have hd := (HD.out k).2
      rw [← HQ.out] at hd
      have HE := Lib.hid hd
      have c7 : 0 ≤ r * 10 % y := Int.emod_nonneg _ (by omega)
      have c8 : r * 10 % y < y := Int.emod_lt_of_pos _ (by omega)
      clear hd
      go_wp2
      go_round
      case rel => exact ⟨k + 1, _, by omega, by go_num, rfl, Lib.hid HE.out.symm⟩
      case measure => simp [RowKit.intOf]; omega
    · obtain rfl : k = 9 := by omega
      go_wp2
      go_ret
      exact ⟨ret_bool (by rw [HQ.out]; rfl), Below.refl _ _⟩

/-- isochronref12.long -/
theorem long_any (n y : Int) (h0 : -y ≤ n) (h1 : n ≤ y) (hy : 1 ≤ y) (hy2 : y ≤ 17592186044416) (w : World) :
    Calls Tryz.prog 53 #[.int .i64 n, .int .i64 y] w fun e w' => e = .returned (.int .i64 (n * 1000000000 / y)) ∧ Below w.heap.size w w' := by
  by_cases hn : 0 ≤ n
  · exact long_pos n y hn h1 hy hy2 w
  · obtain ⟨m, rfl⟩ : ∃ m, n = -m := ⟨-n, by omega⟩
    obtain ⟨q0, q1, _, _⟩ := pw_div (n := m) (y := y) (by omega) (by omega) hy 9 (by omega)
    rw [show pw 9 = 1000000000 from rfl] at q0 q1
    have HL := Lib.hid (fun W => long_pos m y (by omega) (by omega) hy hy2 W)
    have HE := Lib.hid (fun W => exact_any m y (by omega) (by omega) hy hy2 W)
    have m1 : 1 ≤ m := by omega
    have m2 : m ≤ y := by omega
    have hcase : (-m * 1000000000 / y = -(m * 1000000000 / y) ∧ (m * 1000000000 % y == 0) = true) ∨ (-m * 1000000000 / y = -(m * 1000000000 / y) - 1 ∧ (m * 1000000000 % y == 0) = false) := by
      rw [Int.neg_mul]
      by_cases hz : m * 1000000000 % y = 0
      · exact .inl ⟨neg_div_exact (by omega) hz, beq_iff_eq.2 hz⟩
      · exact .inr ⟨neg_div_more (by omega) hz, beq_eq_false_iff_ne.2 hz⟩
    clear hn h0 h1
    rcases hcase with ⟨e, k⟩ | ⟨e, k⟩
    all_goals
      rw [e]
      clear e
      have HK := Lib.hid k
      clear k
      go_enter Tryz.func53, Tryz.ntmps53
      go_wp2_with fail
      refine (HL.out _).mono ?_
      rintro e w1 ⟨rfl, hb1⟩
      go_wp2_with fail
      refine (HE.out _).mono ?_
      rw [HK.out]
      rintro e w2 ⟨rfl, hb2⟩
      have H2 := Lib.hid (below_step hb1 hb2)
      clear hb1 hb2
      go_wp2
      go_ret
      exact ⟨rfl, H2.out⟩

set_option maxHeartbeats 2000000 in
/-- isochronref12.Ratio of valid exchanges -/
theorem ratioRef_any (a b c d a' b' c' d' : Int) (h : OkX a b c d) (h' : OkX a' b' c' d') (w : World) :
    Calls Tryz.prog 30 #[.agg #[.int .i64 a, .int .i64 b, .int .i64 c, .int .i64 d], .agg #[.int .i64 a', .int .i64 b', .int .i64 c', .int .i64 d']] w (RtPost (OkX a b c d ∧ OkX a' b' c' d') (d' - d) (c' - c) w) := by
  unfold RtPost rtV rtE
  rw [if_pos (And.intro h h'), if_pos (And.intro h h')]
  obtain ⟨⟨h1, h2⟩, ⟨h3, h4⟩, ⟨h5, h6⟩, ⟨h7, h8⟩, h9, h10⟩ := h
  obtain ⟨⟨k1, k2⟩, ⟨k3, k4⟩, ⟨k5, k6⟩, ⟨k7, k8⟩, k9, k10⟩ := h'
  by_cases hy : 1 ≤ d' - d
  · rw [if_pos hy, if_pos hy]
    by_cases hbig : d' - d < c' - c - (d' - d) ∨ c' - c - (d' - d) < -(d' - d)
    · have hr : ¬ (-8388608 ≤ rq (d' - d) (c' - c) ∧ rq (d' - d) (c' - c) ≤ 8388608) := by
        unfold rq
        rintro ⟨r1, r2⟩
        have lo := div_lo (x := (c' - c - (d' - d)) * 1000000000) (y := d' - d) (by omega)
        have hi := div_hi (x := (c' - c - (d' - d)) * 1000000000) (y := d' - d) (by omega)
        have m1 := Int.mul_le_mul_of_nonneg_right r1 (show 0 ≤ d' - d by omega)
        have m2 := Int.mul_le_mul_of_nonneg_right r2 (show 0 ≤ d' - d by omega)
        rw [Int.add_mul] at hi
        omega
      rw [if_neg hr, if_neg hr]
      clear hr
      rcases hbig with hb | hb
      · go_enter Tryz.func30, Tryz.ntmps30
        go_wp2
        go_ret2
        exact ⟨rfl, below_alloc (below_alloc (Below.refl _ _) _) _⟩
      · go_enter Tryz.func30, Tryz.ntmps30
        go_wp2
        go_ret2
        exact ⟨rfl, below_alloc (below_alloc (Below.refl _ _) _) _⟩
    · have g1 : c' - c - (d' - d) ≤ d' - d := by omega
      have g2 : -(d' - d) ≤ c' - c - (d' - d) := by omega
      have hr : (-8388608 ≤ rq (d' - d) (c' - c) ∧ rq (d' - d) (c' - c) ≤ 8388608) ∨ (rq (d' - d) (c' - c) < -8388608) ∨ (-8388608 ≤ rq (d' - d) (c' - c) ∧ 8388608 < rq (d' - d) (c' - c)) := by omega
      have HL := Lib.hid (fun W => long_any (c' - c - (d' - d)) (d' - d) g2 g1 hy (by omega) W)
      have HQ : Hid ((c' - c - (d' - d)) * 1000000000 / (d' - d) = rq (d' - d) (c' - c)) := rfl
      clear hbig
      generalize rq (d' - d) (c' - c) = q at *
      rcases hr with ⟨r1, r2⟩ | r1 | ⟨r1, r2⟩
      · rw [if_pos (And.intro r1 r2), if_pos (And.intro r1 r2)]
        go_enter Tryz.func30, Tryz.ntmps30
        go_wp2_with fail
        refine (HL.out _).mono ?_
        rw [HQ.out]
        rintro e w1 ⟨rfl, hb1⟩
        have H1 := Lib.hid (below_step (below_alloc (below_alloc (Below.refl _ _) _) _) hb1)
        clear hb1
        go_wp2
        go_ret2
        exact ⟨rfl, H1.out⟩
      · rw [if_neg (show ¬ (-8388608 ≤ q ∧ q ≤ 8388608) by omega), if_neg (show ¬ (-8388608 ≤ q ∧ q ≤ 8388608) by omega)]
        go_enter Tryz.func30, Tryz.ntmps30
        go_wp2_with fail
        refine (HL.out _).mono ?_
        rw [HQ.out]
        rintro e w1 ⟨rfl, hb1⟩
        have H1 := Lib.hid (below_step (below_alloc (below_alloc (Below.refl _ _) _) _) hb1)
        clear hb1
        go_wp2
        go_ret2
        exact ⟨rfl, H1.out⟩
      · rw [if_neg (show ¬ (-8388608 ≤ q ∧ q ≤ 8388608) by omega), if_neg (show ¬ (-8388608 ≤ q ∧ q ≤ 8388608) by omega)]
        go_enter Tryz.func30, Tryz.ntmps30
        go_wp2_with fail
        refine (HL.out _).mono ?_
        rw [HQ.out]
        rintro e w1 ⟨rfl, hb1⟩
        have H1 := Lib.hid (below_step (below_alloc (below_alloc (Below.refl _ _) _) _) hb1)
        clear hb1
        go_wp2
        go_ret2
        exact ⟨rfl, H1.out⟩
  · rw [if_neg hy, if_neg hy]
    have hy' : d' - d < 1 := by omega
    clear hy
    go_enter Tryz.func30, Tryz.ntmps30
    go_wp2
    go_ret2
    exact ⟨rfl, below_alloc (below_alloc (Below.refl _ _) _) _⟩

end Go.Proofs.YtkencmijghigiaaGreat
