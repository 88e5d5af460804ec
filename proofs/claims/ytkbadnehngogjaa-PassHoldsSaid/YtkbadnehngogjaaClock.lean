/-
  The walks of package clock: Check, time, local, Local; a clock's draft.
-/
import Derived.Test.YtkbadnehngogjaaPart
import Derived.Test.YtkbadnehngogjaaClockPlain
import Derived.IntWalk
namespace Go.Proofs.Ytkbadnehngogjaa
open Go.RowKit Go.Lib Plain

/-- clock.time -/
theorem tick_any (t : Int) (w : World) : Calls Try.prog 54 #[.int .i64 t] w fun e w' => e = .returned (.bool (tickB t)) ∧ w = w' := by
  have hcases : (t < 0 ∧ tickB t = false) ∨ (0 ≤ t ∧ 1099511627776 < t ∧ tickB t = false) ∨ (0 ≤ t ∧ t ≤ 1099511627776 ∧ tickB t = true) := by
    unfold tickB
    simp only [decide_eq_false_iff_not, decide_eq_true_eq]
    unfold Tick
    omega
  rcases hcases with ⟨k1, k⟩ | ⟨k1, k2, k⟩ | ⟨k1, k2, k⟩
  all_goals
    rw [k]
    clear k
    go_enter Try.func54, Try.ntmps54
    go_wp2
    go_ret
    exact ⟨ret_bool (by first | rfl | (rw [decide_eq_false_iff_not]; omega)), rfl⟩

/-- clock.Check -/
theorem clkCheck_any (O P : Int) (w : World) : Calls Try.prog 53 #[.agg #[.int .i64 O, .int .i64 P]] w fun e w' => e = .returned (.int .i64 (clkV O P)) ∧ Below w.heap.size w w' := by
  have hcases : (O < -1099511627776 ∧ clkV O P = 190) ∨ (-1099511627776 ≤ O ∧ 1099511627776 < O ∧ clkV O P = 190) ∨ (-1099511627776 ≤ O ∧ O ≤ 1099511627776 ∧ P < -200000 ∧ clkV O P = 190) ∨
      (-1099511627776 ≤ O ∧ O ≤ 1099511627776 ∧ -200000 ≤ P ∧ 200000 < P ∧ clkV O P = 190) ∨ (-1099511627776 ≤ O ∧ O ≤ 1099511627776 ∧ -200000 ≤ P ∧ P ≤ 200000 ∧ clkV O P = 0) := by
    by_cases h : OkC O P
    · have e : clkV O P = 0 := if_pos h
      rw [e]
      unfold OkC at h
      omega
    · have e : clkV O P = 190 := if_neg h
      rw [e]
      unfold OkC at h
      omega
  rcases hcases with ⟨k1, k⟩ | ⟨k1, k2, k⟩ | ⟨k1, k2, k3, k⟩ | ⟨k1, k2, k3, k4, k⟩ | ⟨k1, k2, k3, k4, k⟩
  all_goals
    rw [k]
    clear k
    go_enter Try.func53, Try.ntmps53
    go_wp2
    go_ret
    exact ⟨rfl, below_alloc (Below.refl _ _) _⟩

/-- clock.ticker.local -/
theorem ticker_any (O P t : Int) (h : OkC O P) (ht : Tick t) (w : World) :
    Calls Try.prog 55 #[.agg #[.int .i64 O, .int .i64 P], .int .i64 t] w fun e w' => e = .returned (.int .i64 (locV O P t)) ∧ Below w.heap.size w w' := by
  obtain ⟨a1, a2, a3, a4⟩ := loc_bd h ht
  obtain ⟨h1, h2, h3, h4⟩ := h
  obtain ⟨k1, k2⟩ := ht
  go_enter Try.func55, Try.ntmps55
  go_wp2_with fail
  refine (part_any _ _ (by omega) (by omega) (by omega) (by omega) _).mono ?_
  rintro e w1 ⟨rfl, hb1⟩
  obtain ⟨hc, hf⟩ := bcell hb1
  go_wp2
  go_ret
  exact ⟨ret_int (by unfold locV; omega), below_step (below_alloc (Below.refl _ _) _) hb1⟩

/-- clock.Local -/
theorem local_any (O P t : Int) (w : World) :
    Calls Try.prog 31 #[.agg #[.int .i64 O, .int .i64 P], .int .i64 t] w fun e w' => e = .returned (.tuple #[.int .i64 (localV O P t), .int .i64 (localE O P t)]) ∧ Below w.heap.size w w' := by
  by_cases h : OkC O P
  · have c : clkV O P = 0 := if_pos h
    by_cases hl : Tick t
    · have c2 : tickB t = true := decide_eq_true hl
      have e1 : localV O P t = locV O P t := if_pos ⟨h, hl⟩
      have e2 : localE O P t = 0 := by unfold localE; rw [if_pos h, if_pos hl]
      rw [e1, e2]
      have HL := Lib.hid hl
      have HS := Lib.hid h
      clear e1 e2 h hl
      go_enter Try.func31, Try.ntmps31
      go_wp2_with fail
      refine (clkCheck_any O P _).mono ?_
      rintro e w1 ⟨rfl, hb1⟩
      obtain ⟨hc, hf⟩ := bcell hb1
      go_wp2_with fail
      refine (tick_any t _).mono ?_
      rintro e w' ⟨rfl, rfl⟩
      go_wp2_with fail
      refine (ticker_any O P t HS.out HL.out _).mono ?_
      rintro e w2 ⟨rfl, hb2⟩
      go_wp2
      go_ret2
      exact ⟨rfl, below_step (below_step (below_alloc (Below.refl _ _) _) hb1) hb2⟩
    · have c2 : tickB t = false := decide_eq_false hl
      have e1 : localV O P t = 0 := if_neg (fun ⟨_, x⟩ => hl x)
      have e2 : localE O P t = 2 := by unfold localE; rw [if_pos h, if_neg hl]
      rw [e1, e2]
      clear e1 e2 h hl
      go_enter Try.func31, Try.ntmps31
      go_wp2_with fail
      refine (clkCheck_any O P _).mono ?_
      rintro e w1 ⟨rfl, hb1⟩
      go_wp2_with fail
      refine (tick_any t _).mono ?_
      rintro e w' ⟨rfl, rfl⟩
      go_wp2
      go_ret2
      exact ⟨rfl, below_step (below_alloc (Below.refl _ _) _) hb1⟩
  · have c : clkV O P = 190 := if_neg h
    have e1 : localV O P t = 0 := if_neg (fun ⟨x, _⟩ => h x)
    have e2 : localE O P t = 190 := if_neg h
    rw [e1, e2]
    clear e1 e2 h
    go_enter Try.func31, Try.ntmps31
    go_wp2_with fail
    refine (clkCheck_any O P _).mono ?_
    rintro e w1 ⟨rfl, hb1⟩
    go_wp2
    go_ret2
    exact ⟨rfl, below_step (below_alloc (Below.refl _ _) _) hb1⟩

theorem local_ok (O P t : Int) (h : OkC O P) (ht : Tick t) (w : World) :
    Calls Try.prog 31 #[.agg #[.int .i64 O, .int .i64 P], .int .i64 t] w fun e w' => e = .returned (.tuple #[.int .i64 (locV O P t), .int .i64 0]) ∧ Below w.heap.size w w' := by
  have h0 := local_any O P t w
  rwa [show localV O P t = locV O P t from if_pos ⟨h, ht⟩, show localE O P t = 0 by unfold localE; rw [if_pos h, if_pos ht]] at h0

/-- (isochronref09.Draft).Clock -/
theorem clockDraft_any (a b : Int) (w : World) :
    Calls Try.prog 30 #[.agg #[.int .i64 a, .int .i32 b]] w fun e w' => e = .returned (.agg #[.int .i64 (a.tmod 1099511627777), .int .i64 (b.tmod 200001)]) ∧ Below w.heap.size w w' := by
  go_enter Try.func30, Try.ntmps30
  go_wp2
  refine bodyPost_ret (v := .agg #[.int .i64 (a.tmod 1099511627777), .int .i64 (b.tmod 200001)]) (by simp [results, Try.results30, go_sem, IntWalk.wrap64_in (b.tmod 200001) (by have := ctmod_bd b 200001 (by decide); omega)]) rfl ⟨rfl, ?_⟩
  repeat (first | exact Below.refl _ _ | apply below_alloc)

end Go.Proofs.Ytkbadnehngogjaa
