/-
  Texts of this claim laid together: Clock, ClkBase, ClockSpan.
-/
import Derived.IntWalk
import Derived.Lib.QuietBelow
import Derived.BigQuiet
import Derived.Test.YtkencmijghigiaaGreatMNums
import Derived.Test.YtkencmijghigiaaGreatMBase
namespace Go.Proofs.YtkencmijghigiaaGreat
open Go.RowKit Go.Lib Plain

/-- clock.time -/
theorem tick_any (t : Int) (w : World) : Calls Tryz.prog 84 #[.int .i64 t] w fun e w' => e = .returned (.bool (tickB t)) ∧ w = w' := by
  have hcases : (t < 0 ∧ tickB t = false) ∨ (0 ≤ t ∧ 1099511627776 < t ∧ tickB t = false) ∨ (0 ≤ t ∧ t ≤ 1099511627776 ∧ tickB t = true) := by
    unfold tickB
    simp only [decide_eq_false_iff_not, decide_eq_true_eq]
    unfold Tick
    omega
  rcases hcases with ⟨k1, k⟩ | ⟨k1, k2, k⟩ | ⟨k1, k2, k⟩
  all_goals
    rw [k]
    clear k
    go_enter Tryz.func84, Tryz.ntmps84
    go_wp2
    go_ret
    exact ⟨ret_bool (by first | rfl | (rw [decide_eq_false_iff_not]; omega)), rfl⟩

/-- clock.Check -/
theorem clkCheck_any (O P : Int) (w : World) : Calls Tryz.prog 24 #[.agg #[.int .i64 O, .int .i64 P]] w fun e w' => e = .returned (.int .i64 (clkV O P)) ∧ Below w.heap.size w w' := by
  have hcases : (O < -1099511627776 ∧ clkV O P = 190) ∨ (-1099511627776 ≤ O ∧ 1099511627776 < O ∧ clkV O P = 190) ∨ (-1099511627776 ≤ O ∧ O ≤ 1099511627776 ∧ P < -200000 ∧ clkV O P = 190) ∨
      (-1099511627776 ≤ O ∧ O ≤ 1099511627776 ∧ -200000 ≤ P ∧ 200000 < P ∧ clkV O P = 190) ∨ (-1099511627776 ≤ O ∧ O ≤ 1099511627776 ∧ -200000 ≤ P ∧ P ≤ 200000 ∧ clkV O P = 0) := by
    by_cases h : OkC O P
    · have e : clkV O P = 0 := if_pos h
      rw [e]
      unfold OkC at h
      omega
    · have e : clkV O P = 190 := if_neg h
      rw [e]
      unfold OkC at h
      omega
  rcases hcases with ⟨k1, k⟩ | ⟨k1, k2, k⟩ | ⟨k1, k2, k3, k⟩ | ⟨k1, k2, k3, k4, k⟩ | ⟨k1, k2, k3, k4, k⟩
  all_goals
    rw [k]
    clear k
    go_enter Tryz.func24, Tryz.ntmps24
    go_wp2
    go_ret
    exact ⟨rfl, below_alloc (Below.refl _ _) _⟩

/-- clock.ticker.local -/
theorem ticker_any (O P t : Int) (h : OkC O P) (ht : Tick t) (w : World) :
    Calls Tryz.prog 85 #[.agg #[.int .i64 O, .int .i64 P], .int .i64 t] w fun e w' => e = .returned (.int .i64 (locV O P t)) ∧ Below w.heap.size w w' := by
  obtain ⟨a1, a2, a3, a4⟩ := loc_bd h ht
  obtain ⟨h1, h2, h3, h4⟩ := h
  obtain ⟨k1, k2⟩ := ht
  go_enter Tryz.func85, Tryz.ntmps85
  go_wp2_with fail
  refine (part_any _ _ (by omega) (by omega) (by omega) (by omega) _).mono ?_
  rintro e w1 ⟨rfl, hb1⟩
  obtain ⟨hc, hf⟩ := bcell hb1
  go_wp2
  go_ret
  exact ⟨ret_int (by unfold locV; omega), below_step (below_alloc (Below.refl _ _) _) hb1⟩

/-- clock.Local -/
theorem local_any (O P t : Int) (w : World) :
    Calls Tryz.prog 61 #[.agg #[.int .i64 O, .int .i64 P], .int .i64 t] w fun e w' => e = .returned (.tuple #[.int .i64 (localV O P t), .int .i64 (localE O P t)]) ∧ Below w.heap.size w w' := by
  by_cases h : OkC O P
  · have c : clkV O P = 0 := if_pos h
    by_cases hl : Tick t
    · have c2 : tickB t = true := decide_eq_true hl
      have e1 : localV O P t = locV O P t := if_pos ⟨h, hl⟩
      have e2 : localE O P t = 0 := by unfold localE; rw [if_pos h, if_pos hl]
      rw [e1, e2]
      have HL := Lib.hid hl
      have HS := Lib.hid h
      clear e1 e2 h hl
      go_enter Tryz.func61, Tryz.ntmps61
      go_wp2_with fail
      refine (clkCheck_any O P _).mono ?_
      rintro e w1 ⟨rfl, hb1⟩
      obtain ⟨hc, hf⟩ := bcell hb1
      go_wp2_with fail
      refine (tick_any t _).mono ?_
      rintro e w' ⟨rfl, rfl⟩
      go_wp2_with fail
      refine (ticker_any O P t HS.out HL.out _).mono ?_
      rintro e w2 ⟨rfl, hb2⟩
      go_wp2
      go_ret2
      exact ⟨rfl, below_step (below_step (below_alloc (Below.refl _ _) _) hb1) hb2⟩
    · have c2 : tickB t = false := decide_eq_false hl
      have e1 : localV O P t = 0 := if_neg (fun ⟨_, x⟩ => hl x)
      have e2 : localE O P t = 2 := by unfold localE; rw [if_pos h, if_neg hl]
      rw [e1, e2]
      clear e1 e2 h hl
      go_enter Tryz.func61, Tryz.ntmps61
      go_wp2_with fail
      refine (clkCheck_any O P _).mono ?_
      rintro e w1 ⟨rfl, hb1⟩
      go_wp2_with fail
      refine (tick_any t _).mono ?_
      rintro e w' ⟨rfl, rfl⟩
      go_wp2
      go_ret2
      exact ⟨rfl, below_step (below_alloc (Below.refl _ _) _) hb1⟩
  · have c : clkV O P = 190 := if_neg h
    have e1 : localV O P t = 0 := if_neg (fun ⟨x, _⟩ => h x)
    have e2 : localE O P t = 190 := if_neg h
    rw [e1, e2]
    clear e1 e2 h
    go_enter Tryz.func61, Tryz.ntmps61
    go_wp2_with fail
    refine (clkCheck_any O P _).mono ?_
    rintro e w1 ⟨rfl, hb1⟩
    go_wp2
    go_ret2
    exact ⟨rfl, below_step (below_alloc (Below.refl _ _) _) hb1⟩

theorem local_ok (O P t : Int) (h : OkC O P) (ht : Tick t) (w : World) :
    Calls Tryz.prog 61 #[.agg #[.int .i64 O, .int .i64 P], .int .i64 t] w fun e w' => e = .returned (.tuple #[.int .i64 (locV O P t), .int .i64 0]) ∧ Below w.heap.size w w' := by
  have h0 := local_any O P t w
  rwa [show localV O P t = locV O P t from if_pos ⟨h, ht⟩, show localE O P t = 0 by unfold localE; rw [if_pos h, if_pos ht]] at h0

/-- (isochronref09.Draft).Clock -/
theorem clockDraft_any (a b : Int) (w : World) :
    Calls Tryz.prog 21 #[.agg #[.int .i64 a, .int .i32 b]] w fun e w' => e = .returned (.agg #[.int .i64 (a.tmod 1099511627777), .int .i64 (b.tmod 200001)]) ∧ Below w.heap.size w w' := by
  go_enter Tryz.func21, Tryz.ntmps21
  go_wp2
  refine bodyPost_ret (v := .agg #[.int .i64 (a.tmod 1099511627777), .int .i64 (b.tmod 200001)]) (by simp [results, Tryz.results21, go_sem, IntWalk.wrap64_in (b.tmod 200001) (by have := ctmod_bd b 200001 (by decide); omega)]) rfl ⟨rfl, ?_⟩
  repeat (first | exact Below.refl _ _ | apply below_alloc)

end Go.Proofs.YtkencmijghigiaaGreat

namespace Go.Proofs.YtkencmijghigiaaGreat
open Go.RowKit Go.Lib Plain

/-- clock.Bound -/
theorem cbound_any (p d : Int) (w : World) :
    Calls Tryz.prog 71 #[.int .i64 p, .int .i64 d] w fun e w' => e = .returned (.tuple #[.int .i64 (bndV p d), .int .i64 (bndE p d)]) ∧ Below w.heap.size w w' := by
  by_cases h : BndOk p d
  · have e1 : bndV p d = -share (-d) p := if_pos h
    have e2 : bndE p d = 0 := if_pos h
    rw [e1, e2]
    obtain ⟨k1, k2, l⟩ := h
    have t1 : tickB d = true := decide_eq_true l
    obtain ⟨k3, k4⟩ := l
    obtain ⟨_, _, m1, m2⟩ := part_bd' (x := -d) (p := p) (by omega) (by omega) (by omega) k2
    clear e1 e2
    go_enter Tryz.func71, Tryz.ntmps71
    go_wp2_with fail
    refine (tick_any d _).mono ?_
    rintro e w' ⟨rfl, rfl⟩
    go_wp2_with fail
    refine (part_any (-d) p (by omega) (by omega) (by omega) (by omega) _).mono ?_
    rintro e w1 ⟨rfl, hb1⟩
    go_wp2
    go_ret2
    exact ⟨rfl, hb1⟩
  · have e1 : bndV p d = 0 := if_neg h
    have e2 : bndE p d = 2 := if_neg h
    rw [e1, e2]
    clear e1 e2
    rcases (show p < 0 ∨ (0 ≤ p ∧ 200000 < p) ∨ (0 ≤ p ∧ p ≤ 200000) by omega) with k | ⟨k, k'⟩ | ⟨k, k'⟩
    · go_enter Tryz.func71, Tryz.ntmps71
      go_wp2
      go_ret2
      exact ⟨rfl, Below.refl _ _⟩
    · go_enter Tryz.func71, Tryz.ntmps71
      go_wp2
      go_ret2
      exact ⟨rfl, Below.refl _ _⟩
    · have t1 : tickB d = false := decide_eq_false (fun l => h ⟨k, k', l⟩)
      clear h
      go_enter Tryz.func71, Tryz.ntmps71
      go_wp2_with fail
      refine (tick_any d _).mono ?_
      rintro e w' ⟨rfl, rfl⟩
      go_wp2
      go_ret2
      exact ⟨rfl, Below.refl _ _⟩

end Go.Proofs.YtkencmijghigiaaGreat

namespace Go.Proofs.YtkencmijghigiaaGreat
open Go.RowKit Go.Lib Plain

/-- clock.Elapsed -/
theorem elapsed_any (O P t d : Int) (w : World) :
    Calls Tryz.prog 49 #[.agg #[.int .i64 O, .int .i64 P], .int .i64 t, .int .i64 d] w fun e w' => e = .returned (.tuple #[.int .i64 (elV O P t d), .int .i64 (elE O P t d)]) ∧ Below w.heap.size w w' := by
  by_cases h : OkC O P
  · have c : clkV O P = 0 := if_pos h
    by_cases hl : ElOk t d
    · have e1 : elV O P t d = locV O P (t + d) - locV O P t := if_pos ⟨h, hl⟩
      have e2 : elE O P t d = 0 := by unfold elE; rw [if_pos h, if_pos hl]
      rw [e1, e2]
      obtain ⟨l1, l2, l3⟩ := hl
      have t1 : tickB t = true := decide_eq_true l1
      have t2 : tickB d = true := decide_eq_true l2
      have t3 : tickB (t + d) = true := decide_eq_true l3
      obtain ⟨b1, b2, _, _⟩ := loc_bd h l1
      obtain ⟨b3, b4, _, _⟩ := loc_bd h l3
      have HS := Lib.hid h
      have L1 := Lib.hid l1
      have L3 := Lib.hid l3
      obtain ⟨k1, k2⟩ := l1
      obtain ⟨k3, k4⟩ := l2
      clear e1 e2 h l3
      go_enter Tryz.func49, Tryz.ntmps49
      go_wp2_with fail
      refine (clkCheck_any O P _).mono ?_
      rintro e w1 ⟨rfl, hb1⟩
      have c0 : w1.cell? ⟨w.heap.size, 0, none⟩ = some (.int .i64 O) := below_keep hb1 (by simp [go_sem])
      have c1 : w1.cell? ⟨w.heap.size, 1, none⟩ = some (.int .i64 P) := below_keep hb1 (by simp [go_sem])
      have H1 := Lib.hid (below_step (below_alloc (Below.refl _ _) _) hb1)
      clear hb1
      go_wp2_with fail
      refine (tick_any t _).mono ?_
      rintro e w' ⟨rfl, rfl⟩
      go_wp2_with fail
      refine (tick_any d _).mono ?_
      rintro e w' ⟨rfl, rfl⟩
      go_wp2_with fail
      refine (tick_any (t + d) _).mono ?_
      rintro e w' ⟨rfl, rfl⟩
      go_wp2_with fail
      refine (ticker_any O P (t + d) HS.out L3.out _).mono ?_
      rintro e w2 ⟨rfl, hb2⟩
      go_wp2_with fail
      refine (ticker_any O P t HS.out L1.out _).mono ?_
      rintro e w3 ⟨rfl, hb3⟩
      go_wp2
      go_ret2
      exact ⟨rfl, below_step (below_step H1.out hb2) hb3⟩
    · have e1 : elV O P t d = 0 := if_neg (fun ⟨_, x⟩ => hl x)
      have e2 : elE O P t d = 2 := by unfold elE; rw [if_pos h, if_neg hl]
      rw [e1, e2]
      clear e1 e2 h
      by_cases l1 : Tick t
      · have t1 : tickB t = true := decide_eq_true l1
        by_cases l2 : Tick d
        · have t2 : tickB d = true := decide_eq_true l2
          have t3 : tickB (t + d) = false := decide_eq_false (fun l3 => hl ⟨l1, l2, l3⟩)
          obtain ⟨k1, k2⟩ := l1
          obtain ⟨k3, k4⟩ := l2
          clear hl
          go_enter Tryz.func49, Tryz.ntmps49
          go_wp2_with fail
          refine (clkCheck_any O P _).mono ?_
          rintro e w1 ⟨rfl, hb1⟩
          go_wp2_with fail
          refine (tick_any t _).mono ?_
          rintro e w' ⟨rfl, rfl⟩
          go_wp2_with fail
          refine (tick_any d _).mono ?_
          rintro e w' ⟨rfl, rfl⟩
          go_wp2_with fail
          refine (tick_any (t + d) _).mono ?_
          rintro e w' ⟨rfl, rfl⟩
          go_wp2
          go_ret2
          exact ⟨rfl, below_step (below_alloc (Below.refl _ _) _) hb1⟩
        · have t2 : tickB d = false := decide_eq_false l2
          clear hl l1 l2
          go_enter Tryz.func49, Tryz.ntmps49
          go_wp2_with fail
          refine (clkCheck_any O P _).mono ?_
          rintro e w1 ⟨rfl, hb1⟩
          go_wp2_with fail
          refine (tick_any t _).mono ?_
          rintro e w' ⟨rfl, rfl⟩
          go_wp2_with fail
          refine (tick_any d _).mono ?_
          rintro e w' ⟨rfl, rfl⟩
          go_wp2
          go_ret2
          exact ⟨rfl, below_step (below_alloc (Below.refl _ _) _) hb1⟩
      · have t1 : tickB t = false := decide_eq_false l1
        clear hl l1
        go_enter Tryz.func49, Tryz.ntmps49
        go_wp2_with fail
        refine (clkCheck_any O P _).mono ?_
        rintro e w1 ⟨rfl, hb1⟩
        go_wp2_with fail
        refine (tick_any t _).mono ?_
        rintro e w' ⟨rfl, rfl⟩
        go_wp2
        go_ret2
        exact ⟨rfl, below_step (below_alloc (Below.refl _ _) _) hb1⟩
  · have c : clkV O P = 190 := if_neg h
    have e1 : elV O P t d = 0 := if_neg (fun ⟨x, _⟩ => h x)
    have e2 : elE O P t d = 190 := if_neg h
    rw [e1, e2]
    clear e1 e2 h
    go_enter Tryz.func49, Tryz.ntmps49
    go_wp2_with fail
    refine (clkCheck_any O P _).mono ?_
    rintro e w1 ⟨rfl, hb1⟩
    go_wp2
    go_ret2
    exact ⟨rfl, below_step (below_alloc (Below.refl _ _) _) hb1⟩

/-- A valid time of a law. -/
def tmV (a : Int) : Int := IntKind.u64.wrap a % 1099511627777
theorem tm_tick (a : Int) : Tick (tmV a) := by
  have m0 := Int.emod_nonneg (IntKind.u64.wrap a) (show (1099511627777 : Int) ≠ 0 by decide)
  have m1 := Int.emod_lt_of_pos (IntKind.u64.wrap a) (show (0 : Int) < 1099511627777 by decide)
  unfold tmV
  exact ⟨by omega, by omega⟩
end Go.Proofs.YtkencmijghigiaaGreat
