/-
  Texts of this claim laid together: PartRef, PassRef.
-/
import Derived.WalkMore
import Derived.IntWalk
import Derived.Test.YtkencmijghigiaaGreatMNums
import Derived.Test.YtkencmijghigiaaGreatMBase
import Derived.Test.YtkencmijghigiaaGreatMPass
namespace Go.Proofs.YtkencmijghigiaaGreat
open Go.RowKit Go.Lib Plain

theorem share_split (x p : Int) : share x p = x / 1000000000 * p + (x - x / 1000000000 * 1000000000) * p / 1000000000 := by
  have e : x * p = (x - x / 1000000000 * 1000000000) * p + (x / 1000000000 * p) * 1000000000 := by
    rw [Int.sub_mul, Int.mul_assoc (x / 1000000000), Int.mul_comm 1000000000 p, ← Int.mul_assoc]
    omega
  unfold share
  rw [e, Int.add_mul_ediv_right _ _ (by omega)]
  omega

/-- isochronref13.Part -/
theorem partRef_any (x p : Int) (h1 : -17592186044416 ≤ x) (h2 : x ≤ 17592186044416) (h3 : -16777216 ≤ p) (h4 : p ≤ 16777216) (w : World) :
    Calls Tryz.prog 56 #[.int .i64 x, .int .i64 p] w fun e w' => e = .returned (.int .i64 (share x p)) ∧ w = w' := by
  obtain ⟨b1, b2⟩ := part_bd h1 h2 h3 h4
  have he := Lib.hid (share_split x p)
  obtain ⟨q, hq⟩ : ∃ q, q = x / 1000000000 := ⟨_, rfl⟩
  have q1 : -17593 ≤ q := by omega
  have q2 : q ≤ 17592 := by omega
  have r1 : 0 ≤ x - q * 1000000000 := by omega
  have r2 : x - q * 1000000000 ≤ 999999999 := by omega
  obtain ⟨c1, c2⟩ := mul_bd (x := q) (p := p) (X := 17593) (P := 16777216) (by omega) (by omega) (by omega) (by omega)
  obtain ⟨d1, d2⟩ := mul_bd (x := x - q * 1000000000) (p := p) (X := 999999999) (P := 16777216) (by omega) (by omega) (by omega) (by omega)
  rw [← hq] at he
  have HQ := Lib.hid hq
  clear hq
  go_enter Tryz.func56, Tryz.ntmps56
  go_wp2_with fail
  refine (floor_any x 1000000000 (by omega) (by omega) (by omega) _).mono ?_
  rw [← HQ.out]
  rintro e w' ⟨rfl, rfl⟩
  go_wp2_with fail
  refine (floor_any _ 1000000000 (by omega) (by omega) (by omega) _).mono ?_
  rintro e w' ⟨rfl, rfl⟩
  have he' := he.out
  go_wp2
  go_ret
  exact ⟨ret_int (by omega), rfl⟩

end Go.Proofs.YtkencmijghigiaaGreat

namespace Go.Proofs.YtkencmijghigiaaGreat
open Go.RowKit Go.Lib Plain

def sB (t : Int) : Bool := decide (Stamp t)
def rB (t : Int) : Bool := decide (Ratio t)
/-- isochronref14.stamp -/
theorem rstamp_any (t : Int) (w : World) : Calls Tryz.prog 58 #[.int .i64 t] w fun e w' => e = .returned (.bool (sB t)) ∧ w = w' := by
  have hcases : (t < -4398046511104 ∧ sB t = false) ∨ (-4398046511104 ≤ t ∧ 4398046511104 < t ∧ sB t = false) ∨ (-4398046511104 ≤ t ∧ t ≤ 4398046511104 ∧ sB t = true) := by
    unfold sB
    simp only [decide_eq_false_iff_not, decide_eq_true_eq]
    unfold Stamp
    omega
  rcases hcases with ⟨k1, k⟩ | ⟨k1, k2, k⟩ | ⟨k1, k2, k⟩
  all_goals
    rw [k]
    clear k
    go_enter Tryz.func58, Tryz.ntmps58
    go_wp2
    go_ret
    exact ⟨ret_bool (by first | rfl | (rw [decide_eq_false_iff_not]; omega)), rfl⟩
/-- isochronref14.ratio -/
theorem rratio_any (t : Int) (w : World) : Calls Tryz.prog 59 #[.int .i64 t] w fun e w' => e = .returned (.bool (rB t)) ∧ w = w' := by
  have hcases : (t < -8388608 ∧ rB t = false) ∨ (-8388608 ≤ t ∧ 8388608 < t ∧ rB t = false) ∨ (-8388608 ≤ t ∧ t ≤ 8388608 ∧ rB t = true) := by
    unfold rB
    simp only [decide_eq_false_iff_not, decide_eq_true_eq]
    unfold Ratio
    omega
  rcases hcases with ⟨k1, k⟩ | ⟨k1, k2, k⟩ | ⟨k1, k2, k⟩
  all_goals
    rw [k]
    clear k
    go_enter Tryz.func59, Tryz.ntmps59
    go_wp2
    go_ret
    exact ⟨ret_bool (by first | rfl | (rw [decide_eq_false_iff_not]; omega)), rfl⟩

/-- isochronref14.Right -/
theorem rRight_any (O C P : Int) (w : World) :
    Calls Tryz.prog 55 #[.agg #[.int .i64 O, .int .i64 C, .int .i64 P]] w fun e w' => e = .returned (.bool (okI O C P)) ∧ Below w.heap.size w w' := by
  have hcases : (sB O = false ∧ okI O C P = false) ∨ (sB O = true ∧ sB C = false ∧ okI O C P = false) ∨ (sB O = true ∧ sB C = true ∧ rB P = false ∧ okI O C P = false) ∨ (sB O = true ∧ sB C = true ∧ rB P = true ∧ okI O C P = true) := by
    by_cases h0 : Stamp O
    · by_cases h1 : Stamp C
      · by_cases h2 : Ratio P
        · exact .inr (.inr (.inr ⟨decide_eq_true h0, decide_eq_true h1, decide_eq_true h2, decide_eq_true ⟨h0, h1, h2⟩⟩))
        · exact .inr (.inr (.inl ⟨decide_eq_true h0, decide_eq_true h1, decide_eq_false h2, decide_eq_false (fun h => h2 h.2.2)⟩))
      · exact .inr (.inl ⟨decide_eq_true h0, decide_eq_false h1, decide_eq_false (fun h => h1 h.2.1)⟩)
    · exact .inl ⟨decide_eq_false h0, decide_eq_false (fun h => h0 h.1)⟩
  rcases hcases with ⟨k1, e⟩ | ⟨k1, k2, e⟩ | ⟨k1, k2, k3, e⟩ | ⟨k1, k2, k3, e⟩
  all_goals
    rw [e]
    clear e
    go_enter Tryz.func55, Tryz.ntmps55
    go_wp2_with (first | (go_at_call 58; refine (rstamp_any _ _).mono ?_; rintro e w' ⟨rfl, rfl⟩) | (go_at_call 59; refine (rratio_any _ _).mono ?_; rintro e w' ⟨rfl, rfl⟩))
    go_ret
    exact ⟨ret_bool rfl, below_alloc (Below.refl _ _) _⟩

/-- isochronref14.Limits -/
def pbB (e t d r : Int) : Bool := decide (PbOk e t d r)

def endV (O C P v : Int) : Int := if OkI O C P then v else 0
def endE (O C P : Int) : Int := if OkI O C P then 0 else 6

theorem end_ok (O C P : Int) (w : World) (h : OkI O C P) :
    Calls Tryz.prog 57 #[.agg #[.int .i64 O, .int .i64 C, .int .i64 P]] w fun e w' => e = .returned (.tuple #[.agg #[.int .i64 O, .int .i64 C, .int .i64 P], .int .i64 0]) ∧ Below w.heap.size w w' := by
  have k := Lib.hid (show okI O C P = true from decide_eq_true h)
  clear h
  go_enter Tryz.func57, Tryz.ntmps57
  go_wp2_with fail
  refine (rRight_any O C P _).mono ?_
  rw [k.out]
  rintro e w1 ⟨rfl, hb1⟩
  have c1 : w1.cell? ⟨w.heap.size, 0, none⟩ = some (.int .i64 O) := below_keep hb1 (by simp [go_sem])
  have c2 : w1.cell? ⟨w.heap.size, 1, none⟩ = some (.int .i64 C) := below_keep hb1 (by simp [go_sem])
  have c3 : w1.cell? ⟨w.heap.size, 2, none⟩ = some (.int .i64 P) := below_keep hb1 (by simp [go_sem])
  have c4 : w1.cell? ⟨w.heap.size + 1, 0, none⟩ = some (.int .i64 0) := below_keep hb1 (by simp [go_sem])
  have c5 : w1.cell? ⟨w.heap.size + 1, 1, none⟩ = some (.int .i64 0) := below_keep hb1 (by simp [go_sem])
  have c6 : w1.cell? ⟨w.heap.size + 1, 2, none⟩ = some (.int .i64 0) := below_keep hb1 (by simp [go_sem])
  have c7 : ∀ o, w1.frozen? ⟨w.heap.size + 1, o, none⟩ = false := fun o => by rw [(bcell hb1).2 _ _ (by first | (simp; done) | (simp; omega))]; simp [go_sem]
  have H1 := Lib.hid (below_step (below_alloc (below_alloc (Below.refl _ _) _) _) hb1)
  clear hb1
  go_wp2
  refine bodyPost_ret (v := .tuple #[.agg #[.int .i64 O, .int .i64 C, .int .i64 P], .int .i64 0]) (by simp [results, Tryz.results57, go_sem, *]) rfl ⟨rfl, ?_⟩
  have hb4 := H1.out
  exact ((hb4.setCell (by simp) _).setCell (by simp) _).setCell (by simp) _

theorem end_bad (O C P : Int) (w : World) (h : ¬ OkI O C P) :
    Calls Tryz.prog 57 #[.agg #[.int .i64 O, .int .i64 C, .int .i64 P]] w fun e w' => e = .returned (.tuple #[.agg #[.int .i64 0, .int .i64 0, .int .i64 0], .int .i64 6]) ∧ Below w.heap.size w w' := by
  have k := Lib.hid (show okI O C P = false from decide_eq_false h)
  clear h
  go_enter Tryz.func57, Tryz.ntmps57
  go_wp2_with fail
  refine (rRight_any O C P _).mono ?_
  rw [k.out]
  rintro e w1 ⟨rfl, hb1⟩
  have c1 : w1.cell? ⟨w.heap.size + 1, 0, none⟩ = some (.int .i64 0) := below_keep hb1 (by simp [go_sem])
  have c2 : w1.cell? ⟨w.heap.size + 1, 1, none⟩ = some (.int .i64 0) := below_keep hb1 (by simp [go_sem])
  have c3 : w1.cell? ⟨w.heap.size + 1, 2, none⟩ = some (.int .i64 0) := below_keep hb1 (by simp [go_sem])
  have c4 : ∀ o, w1.frozen? ⟨w.heap.size + 1, o, none⟩ = false := fun o => by rw [(bcell hb1).2 _ _ (by first | (simp; done) | (simp; omega))]; simp [go_sem]
  have H1 := Lib.hid (below_step (below_alloc (below_alloc (Below.refl _ _) _) _) hb1)
  clear hb1
  go_wp2
  refine bodyPost_ret (v := .tuple #[.agg #[.int .i64 0, .int .i64 0, .int .i64 0], .int .i64 6]) (by simp [results, Tryz.results57, go_sem, *]) rfl ⟨rfl, ?_⟩
  have hb4 := H1.out
  exact ((hb4.setCell (by simp) _).setCell (by simp) _).setCell (by simp) _

theorem end_any (O C P : Int) (w : World) :
    Calls Tryz.prog 57 #[.agg #[.int .i64 O, .int .i64 C, .int .i64 P]] w fun e w' => e = .returned (.tuple #[.agg #[.int .i64 (endV O C P O), .int .i64 (endV O C P C), .int .i64 (endV O C P P)], .int .i64 (endE O C P)]) ∧ Below w.heap.size w w' := by
  unfold endV endE
  by_cases h : OkI O C P
  · rw [if_pos h, if_pos h, if_pos h, if_pos h]; exact end_ok O C P w h
  · rw [if_neg h, if_neg h, if_neg h, if_neg h]; exact end_bad O C P w h

theorem infoDraft_ok (a b c : Int) : OkI (a.tmod 4398046511105) (b.tmod 4398046511105) (c.tmod 8388609) := by
  have h1 := ctmod_bd a 4398046511105 (by decide)
  have h2 := ctmod_bd b 4398046511105 (by decide)
  have h3 := ctmod_bd c 8388609 (by decide)
  exact ⟨⟨by omega, by omega⟩, ⟨by omega, by omega⟩, ⟨by omega, by omega⟩⟩

end Go.Proofs.YtkencmijghigiaaGreat
