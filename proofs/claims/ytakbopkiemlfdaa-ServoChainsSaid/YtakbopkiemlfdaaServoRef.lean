/-
  The walks of the reference of package servo.
-/
import Derived.Test.YtakbopkiemlfdaaPart
import Derived.Test.YtakbopkiemlfdaaServoPlain
import Derived.Deep.RegionHeld3
import Derived.WalkMore
import Derived.IntWalk
namespace Go.Proofs.Ytakbopkiemlfdaa
open Go.RowKit Go.Lib Plain

def stampB (t : Int) : Bool := decide (Stamp t)

/-- isochronref13.stamp -/
theorem stamp_any (t : Int) (w : World) : Calls Try.prog 27 #[.int .i64 t] w fun e w' => e = .returned (.bool (stampB t)) ∧ w = w' := by
  by_cases h : Stamp t
  · have e : stampB t = true := decide_eq_true h
    rw [e]
    clear e
    obtain ⟨h1, h2⟩ := h
    go_enter Try.func27, Try.ntmps27
    go_wp2
    go_ret
    exact ⟨ret_bool (by first | rfl | (rw [decide_eq_false_iff_not]; omega)), rfl⟩
  · have e : stampB t = false := decide_eq_false h
    rw [e]
    clear e
    rcases (show t < -4398046511104 ∨ (-4398046511104 ≤ t ∧ 4398046511104 < t) by unfold Stamp at h; omega) with k | ⟨k1, k2⟩
    all_goals
      clear h
      go_enter Try.func27, Try.ntmps27
      go_wp2
      go_ret
      exact ⟨ret_bool (by first | rfl | (rw [decide_eq_false_iff_not]; omega)), rfl⟩

/-- isochronref13.Right -/
theorem right_any (L M P : Int) (w : World) : Calls Try.prog 16 #[.agg #[.int .i64 L, .int .i64 M, .int .i64 P]] w fun e w' => e = .returned (.bool (okS L M P)) ∧ Below w.heap.size w w' := by
  by_cases hL : Stamp L
  · have e1 : stampB L = true := decide_eq_true hL
    by_cases hM : Stamp M
    · have e2 : stampB M = true := decide_eq_true hM
      by_cases hP : -8388608 ≤ P ∧ P ≤ 8388608
      · have e : okS L M P = true := decide_eq_true ⟨hL.1, hL.2, hM.1, hM.2, hP.1, hP.2⟩
        rw [e]
        obtain ⟨h1, h2⟩ := hP
        clear e hL hM
        go_enter Try.func16, Try.ntmps16
        go_wp2_with fail
        refine (stamp_any L _).mono ?_
        rintro e w' ⟨rfl, rfl⟩
        go_wp2_with fail
        refine (stamp_any M _).mono ?_
        rintro e w' ⟨rfl, rfl⟩
        go_wp2
        go_ret
        exact ⟨ret_bool (by first | rfl | (rw [decide_eq_false_iff_not]; omega)), below_alloc (Below.refl _ _) _⟩
      · have e : okS L M P = false := decide_eq_false (fun ⟨_, _, _, _, h5, h6⟩ => hP ⟨h5, h6⟩)
        rw [e]
        rcases (show P < -8388608 ∨ (-8388608 ≤ P ∧ 8388608 < P) by omega) with k | ⟨k1, k2⟩
        all_goals
          clear e hL hM hP
          go_enter Try.func16, Try.ntmps16
          go_wp2_with fail
          refine (stamp_any L _).mono ?_
          rintro e w' ⟨rfl, rfl⟩
          go_wp2_with fail
          refine (stamp_any M _).mono ?_
          rintro e w' ⟨rfl, rfl⟩
          go_wp2
          go_ret
          exact ⟨ret_bool (by first | rfl | (rw [decide_eq_false_iff_not]; omega)), below_alloc (Below.refl _ _) _⟩
    · have e2 : stampB M = false := decide_eq_false hM
      have e : okS L M P = false := decide_eq_false (fun ⟨_, _, h3, h4, _, _⟩ => hM ⟨h3, h4⟩)
      rw [e]
      clear e hL hM
      go_enter Try.func16, Try.ntmps16
      go_wp2_with fail
      refine (stamp_any L _).mono ?_
      rintro e w' ⟨rfl, rfl⟩
      go_wp2_with fail
      refine (stamp_any M _).mono ?_
      rintro e w' ⟨rfl, rfl⟩
      go_wp2
      go_ret
      exact ⟨ret_bool (by first | rfl | (rw [decide_eq_false_iff_not]; omega)), below_alloc (Below.refl _ _) _⟩
  · have e1 : stampB L = false := decide_eq_false hL
    have e : okS L M P = false := decide_eq_false (fun ⟨h3, h4, _, _, _, _⟩ => hL ⟨h3, h4⟩)
    rw [e]
    clear e hL
    go_enter Try.func16, Try.ntmps16
    go_wp2_with fail
    refine (stamp_any L _).mono ?_
    rintro e w' ⟨rfl, rfl⟩
    go_wp2
    go_ret
    exact ⟨ret_bool (by first | rfl | (rw [decide_eq_false_iff_not]; omega)), below_alloc (Below.refl _ _) _⟩

theorem share_split (x p : Int) : share x p = x / 1000000000 * p + (x - x / 1000000000 * 1000000000) * p / 1000000000 := by
  have e : x * p = (x - x / 1000000000 * 1000000000) * p + (x / 1000000000 * p) * 1000000000 := by
    rw [Int.sub_mul, Int.mul_assoc (x / 1000000000), Int.mul_comm 1000000000 p, ← Int.mul_assoc]
    omega
  unfold share
  rw [e, Int.add_mul_ediv_right _ _ (by omega)]
  omega

/-- isochronref13.Part -/
theorem partRef_any (x p : Int) (h1 : -17592186044416 ≤ x) (h2 : x ≤ 17592186044416) (h3 : -16777216 ≤ p) (h4 : p ≤ 16777216) (w : World) :
    Calls Try.prog 31 #[.int .i64 x, .int .i64 p] w fun e w' => e = .returned (.int .i64 (share x p)) ∧ w = w' := by
  obtain ⟨b1, b2⟩ := part_bd h1 h2 h3 h4
  have he := Lib.hid (share_split x p)
  obtain ⟨q, hq⟩ : ∃ q, q = x / 1000000000 := ⟨_, rfl⟩
  have q1 : -17593 ≤ q := by omega
  have q2 : q ≤ 17592 := by omega
  have r1 : 0 ≤ x - q * 1000000000 := by omega
  have r2 : x - q * 1000000000 ≤ 999999999 := by omega
  obtain ⟨c1, c2⟩ := mul_bd (x := q) (p := p) (X := 17593) (P := 16777216) (by omega) (by omega) (by omega) (by omega)
  obtain ⟨d1, d2⟩ := mul_bd (x := x - q * 1000000000) (p := p) (X := 999999999) (P := 16777216) (by omega) (by omega) (by omega) (by omega)
  rw [← hq] at he
  have HQ := Lib.hid hq
  clear hq
  go_enter Try.func31, Try.ntmps31
  go_wp2_with fail
  refine (floor_any x 1000000000 (by omega) (by omega) (by omega) _).mono ?_
  rw [← HQ.out]
  rintro e w' ⟨rfl, rfl⟩
  go_wp2_with fail
  refine (floor_any _ 1000000000 (by omega) (by omega) (by omega) _).mono ?_
  rintro e w' ⟨rfl, rfl⟩
  have he' := he.out
  go_wp2
  go_ret
  exact ⟨ret_int (by omega), rfl⟩

/-- isochronref13.At -/
theorem atRef_any (L M P l : Int) (h : OkS L M P) (hl : Stamp l) (w : World) :
    Calls Try.prog 28 #[.agg #[.int .i64 L, .int .i64 M, .int .i64 P], .int .i64 l] w fun e w' => e = .returned (.int .i64 (atV L M P l)) ∧ Below w.heap.size w w' := by
  obtain ⟨a1, a2, a3, a4⟩ := at_bd h hl
  obtain ⟨h1, h2, h3, h4, h5, h6⟩ := h
  obtain ⟨k1, k2⟩ := hl
  have e1 : IntKind.i64.wrap (M + l) = M + l := IntWalk.i64_in _ (by omega)
  have e2 : IntKind.i64.wrap (M + l - L) = M + l - L := IntWalk.i64_in _ (by omega)
  have e3 : IntKind.i64.wrap (l - L) = l - L := IntWalk.i64_in _ (by omega)
  have e4 : IntKind.i64.wrap (M + l - L + share (l - L) P) = M + l - L + share (l - L) P := IntWalk.i64_in _ (by omega)
  have b1 : -17592186044416 ≤ l - L := by omega
  have b2 : l - L ≤ 17592186044416 := by omega
  have b3 : -16777216 ≤ P := by omega
  have b4 : P ≤ 16777216 := by omega
  go_enter Try.func28, Try.ntmps28
  go_wp2
  go_region_held3 (fun w' => w'.cell? ⟨w.heap.size, 0, none⟩ = some (.int .i64 L) ∧ w'.cell? ⟨w.heap.size, 1, none⟩ = some (.int .i64 M) ∧ w'.cell? ⟨w.heap.size, 2, none⟩ = some (.int .i64 P))
    (go_keep)
    (first | (go_at_call 31; refine (partRef_any (l - L) P b1 b2 b3 b4 _).mono ?_; rintro e w3 ⟨rfl, rfl⟩))
  go_wp2
  go_ret
  exact ⟨ret_int (by unfold atV; omega), (below_alloc (Below.refl _ _) _).drew⟩

/-- isochronref13.Time -/
theorem timeRef_any (L M P l : Int) (w : World) :
    Calls Try.prog 14 #[.agg #[.int .i64 L, .int .i64 M, .int .i64 P], .int .i64 l] w fun e w' => e = .returned (.tuple #[.int .i64 (timeV L M P l), .int .i64 (timeE L M P l)]) ∧ Below w.heap.size w w' := by
  by_cases h : OkS L M P
  · have c : okS L M P = true := decide_eq_true h
    by_cases hl : Stamp l
    · have c2 : stampB l = true := decide_eq_true hl
      have e1 : timeV L M P l = atV L M P l := if_pos ⟨h, hl⟩
      have e2 : timeE L M P l = 0 := by unfold timeE; rw [if_pos h, if_pos hl]
      rw [e1, e2]
      have HL := Lib.hid hl
      have HS := Lib.hid h
      clear e1 e2 h hl
      go_enter Try.func14, Try.ntmps14
      go_wp2_with fail
      refine (right_any L M P _).mono ?_
      rintro e w1 ⟨rfl, hb1⟩
      obtain ⟨hc, hf⟩ := bcell hb1
      go_wp2_with fail
      refine (stamp_any l _).mono ?_
      rintro e w' ⟨rfl, rfl⟩
      go_wp2_with fail
      refine (atRef_any L M P l HS.out HL.out _).mono ?_
      rintro e w2 ⟨rfl, hb2⟩
      go_wp2
      go_ret2
      exact ⟨rfl, below_step (below_step (below_alloc (Below.refl _ _) _) hb1) hb2⟩
    · have c2 : stampB l = false := decide_eq_false hl
      have e1 : timeV L M P l = 0 := if_neg (fun ⟨_, x⟩ => hl x)
      have e2 : timeE L M P l = 2 := by unfold timeE; rw [if_pos h, if_neg hl]
      rw [e1, e2]
      clear e1 e2 h hl
      go_enter Try.func14, Try.ntmps14
      go_wp2_with fail
      refine (right_any L M P _).mono ?_
      rintro e w1 ⟨rfl, hb1⟩
      go_wp2_with fail
      refine (stamp_any l _).mono ?_
      rintro e w' ⟨rfl, rfl⟩
      go_wp2
      go_ret2
      exact ⟨rfl, below_step (below_alloc (Below.refl _ _) _) hb1⟩
  · have c : okS L M P = false := decide_eq_false h
    have e1 : timeV L M P l = 0 := if_neg (fun ⟨x, _⟩ => h x)
    have e2 : timeE L M P l = 230 := if_neg h
    rw [e1, e2]
    clear e1 e2 h
    go_enter Try.func14, Try.ntmps14
    go_wp2_with fail
    refine (right_any L M P _).mono ?_
    rintro e w1 ⟨rfl, hb1⟩
    go_wp2
    go_ret2
    exact ⟨rfl, below_step (below_alloc (Below.refl _ _) _) hb1⟩

end Go.Proofs.Ytakbopkiemlfdaa
