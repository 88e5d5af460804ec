/-
  The walks of clock.Elapsed, clock.Offset, clock.Bound; of the law's time.
-/
import Derived.Test.YtjdiecinelapeaaClock
import Derived.Lib.QuietBelow
import Derived.BigQuiet
namespace Go.Proofs.Ytjdiecinelapeaa
open Go.RowKit Go.Lib Plain

/-- clock.Elapsed -/
theorem elapsed_any (O P t d : Int) (w : World) :
    Calls Try.prog 18 #[.agg #[.int .i64 O, .int .i64 P], .int .i64 t, .int .i64 d] w fun e w' => e = .returned (.tuple #[.int .i64 (elV O P t d), .int .i64 (elE O P t d)]) ∧ Below w.heap.size w w' := by
  by_cases h : OkC O P
  · have c : clkV O P = 0 := if_pos h
    by_cases hl : ElOk t d
    · have e1 : elV O P t d = locV O P (t + d) - locV O P t := if_pos ⟨h, hl⟩
      have e2 : elE O P t d = 0 := by unfold elE; rw [if_pos h, if_pos hl]
      rw [e1, e2]
      obtain ⟨l1, l2, l3⟩ := hl
      have t1 : tickB t = true := decide_eq_true l1
      have t2 : tickB d = true := decide_eq_true l2
      have t3 : tickB (t + d) = true := decide_eq_true l3
      obtain ⟨b1, b2, _, _⟩ := loc_bd h l1
      obtain ⟨b3, b4, _, _⟩ := loc_bd h l3
      have HS := Lib.hid h
      have L1 := Lib.hid l1
      have L3 := Lib.hid l3
      obtain ⟨k1, k2⟩ := l1
      obtain ⟨k3, k4⟩ := l2
      clear e1 e2 h l3
      go_enter Try.func18, Try.ntmps18
      go_wp2_with fail
      refine (clkCheck_any O P _).mono ?_
      rintro e w1 ⟨rfl, hb1⟩
      have c0 : w1.cell? ⟨w.heap.size, 0, none⟩ = some (.int .i64 O) := below_keep hb1 (by simp [go_sem])
      have c1 : w1.cell? ⟨w.heap.size, 1, none⟩ = some (.int .i64 P) := below_keep hb1 (by simp [go_sem])
      have H1 := Lib.hid (below_step (below_alloc (Below.refl _ _) _) hb1)
      clear hb1
      go_wp2_with fail
      refine (tick_any t _).mono ?_
      rintro e w' ⟨rfl, rfl⟩
      go_wp2_with fail
      refine (tick_any d _).mono ?_
      rintro e w' ⟨rfl, rfl⟩
      go_wp2_with fail
      refine (tick_any (t + d) _).mono ?_
      rintro e w' ⟨rfl, rfl⟩
      go_wp2_with fail
      refine (ticker_any O P (t + d) HS.out L3.out _).mono ?_
      rintro e w2 ⟨rfl, hb2⟩
      go_wp2_with fail
      refine (ticker_any O P t HS.out L1.out _).mono ?_
      rintro e w3 ⟨rfl, hb3⟩
      go_wp2
      go_ret2
      exact ⟨rfl, below_step (below_step H1.out hb2) hb3⟩
    · have e1 : elV O P t d = 0 := if_neg (fun ⟨_, x⟩ => hl x)
      have e2 : elE O P t d = 2 := by unfold elE; rw [if_pos h, if_neg hl]
      rw [e1, e2]
      clear e1 e2 h
      by_cases l1 : Tick t
      · have t1 : tickB t = true := decide_eq_true l1
        by_cases l2 : Tick d
        · have t2 : tickB d = true := decide_eq_true l2
          have t3 : tickB (t + d) = false := decide_eq_false (fun l3 => hl ⟨l1, l2, l3⟩)
          obtain ⟨k1, k2⟩ := l1
          obtain ⟨k3, k4⟩ := l2
          clear hl
          go_enter Try.func18, Try.ntmps18
          go_wp2_with fail
          refine (clkCheck_any O P _).mono ?_
          rintro e w1 ⟨rfl, hb1⟩
          go_wp2_with fail
          refine (tick_any t _).mono ?_
          rintro e w' ⟨rfl, rfl⟩
          go_wp2_with fail
          refine (tick_any d _).mono ?_
          rintro e w' ⟨rfl, rfl⟩
          go_wp2_with fail
          refine (tick_any (t + d) _).mono ?_
          rintro e w' ⟨rfl, rfl⟩
          go_wp2
          go_ret2
          exact ⟨rfl, below_step (below_alloc (Below.refl _ _) _) hb1⟩
        · have t2 : tickB d = false := decide_eq_false l2
          clear hl l1 l2
          go_enter Try.func18, Try.ntmps18
          go_wp2_with fail
          refine (clkCheck_any O P _).mono ?_
          rintro e w1 ⟨rfl, hb1⟩
          go_wp2_with fail
          refine (tick_any t _).mono ?_
          rintro e w' ⟨rfl, rfl⟩
          go_wp2_with fail
          refine (tick_any d _).mono ?_
          rintro e w' ⟨rfl, rfl⟩
          go_wp2
          go_ret2
          exact ⟨rfl, below_step (below_alloc (Below.refl _ _) _) hb1⟩
      · have t1 : tickB t = false := decide_eq_false l1
        clear hl l1
        go_enter Try.func18, Try.ntmps18
        go_wp2_with fail
        refine (clkCheck_any O P _).mono ?_
        rintro e w1 ⟨rfl, hb1⟩
        go_wp2_with fail
        refine (tick_any t _).mono ?_
        rintro e w' ⟨rfl, rfl⟩
        go_wp2
        go_ret2
        exact ⟨rfl, below_step (below_alloc (Below.refl _ _) _) hb1⟩
  · have c : clkV O P = 190 := if_neg h
    have e1 : elV O P t d = 0 := if_neg (fun ⟨x, _⟩ => h x)
    have e2 : elE O P t d = 190 := if_neg h
    rw [e1, e2]
    clear e1 e2 h
    go_enter Try.func18, Try.ntmps18
    go_wp2_with fail
    refine (clkCheck_any O P _).mono ?_
    rintro e w1 ⟨rfl, hb1⟩
    go_wp2
    go_ret2
    exact ⟨rfl, below_step (below_alloc (Below.refl _ _) _) hb1⟩

set_option maxHeartbeats 1000000 in
/-- clock.Offset -/
theorem offset_any (O P O' P' t : Int) (w : World) :
    Calls Try.prog 20 #[.agg #[.int .i64 O, .int .i64 P], .agg #[.int .i64 O', .int .i64 P'], .int .i64 t] w fun e w' => e = .returned (.tuple #[.int .i64 (offV O P O' P' t), .int .i64 (offE O P O' P' t)]) ∧ Below w.heap.size w w' := by
  by_cases h : OkC O P
  · have c : clkV O P = 0 := if_pos h
    by_cases h' : OkC O' P'
    · have c' : clkV O' P' = 0 := if_pos h'
      by_cases hl : Tick t
      · have e1 : offV O P O' P' t = locV O P t - locV O' P' t := if_pos ⟨⟨h, h'⟩, hl⟩
        have e2 : offE O P O' P' t = 0 := by unfold offE; rw [if_pos ⟨h, h'⟩, if_pos hl]
        rw [e1, e2]
        have t1 : tickB t = true := decide_eq_true hl
        obtain ⟨b1, b2, _, _⟩ := loc_bd h hl
        obtain ⟨b3, b4, _, _⟩ := loc_bd h' hl
        have e3 : IntKind.i64.wrap (locV O P t - locV O' P' t) = locV O P t - locV O' P' t := IntWalk.i64_in _ (by omega)
        have HS := Lib.hid h
        have HS' := Lib.hid h'
        have L1 := Lib.hid hl
        clear e1 e2 h h' hl
        go_enter Try.func20, Try.ntmps20
        go_wp2_with fail
        refine (clkCheck_any O P _).mono ?_
        rintro e w1 ⟨rfl, hb1⟩
        have c0 : w1.cell? ⟨w.heap.size, 0, none⟩ = some (.int .i64 O) := below_keep hb1 (by simp [go_sem])
        have c1 : w1.cell? ⟨w.heap.size, 1, none⟩ = some (.int .i64 P) := below_keep hb1 (by simp [go_sem])
        have c2 : w1.cell? ⟨w.heap.size + 1, 0, none⟩ = some (.int .i64 O') := below_keep hb1 (by simp [go_sem])
        have c3 : w1.cell? ⟨w.heap.size + 1, 1, none⟩ = some (.int .i64 P') := below_keep hb1 (by simp [go_sem])
        have H1 := Lib.hid (below_step (below_alloc (below_alloc (Below.refl _ _) _) _) hb1)
        clear hb1
        go_wp2_with fail
        refine (clkCheck_any O' P' _).mono ?_
        rintro e w2 ⟨rfl, hb2⟩
        have d0 := below_keep hb2 c0
        have d1 := below_keep hb2 c1
        have d2 := below_keep hb2 c2
        have d3 := below_keep hb2 c3
        have H2 := Lib.hid (below_step H1.out hb2)
        clear hb2 H1 c0 c1 c2 c3
        go_wp2_with fail
        refine (tick_any t _).mono ?_
        rintro e w' ⟨rfl, rfl⟩
        go_wp2
        have r0 := fun p : Regrown => cell_regrown d0 p.d p.os
        have r1 := fun p : Regrown => cell_regrown d1 p.d p.os
        have r2 := fun p : Regrown => cell_regrown d2 p.d p.os
        have r3 := fun p : Regrown => cell_regrown d3 p.d p.os
        refine wp_region_quiet_below (by kernel_rfl) (by kernel_rfl) ?_
        repeat (go_big_quiet_step (first | with_reducible exact Calls.regrown_of (ticker_any O P t HS.out L1.out _) | with_reducible exact Calls.regrown_of (ticker_any O' P' t HS'.out L1.out _)))
        refine wpQuiet_nil ?_
        intro w3 hw
        have H3 : Below w.heap.size w w3 := below_step H2.out (by obtain ⟨p, rfl⟩ := hw; exact below_regrown _ _ _)
        clear hw r0 r1 r2 r3 d0 d1 d2 d3 H2
        go_wp2
        go_ret2
        exact ⟨rfl, H3⟩
      · have e1 : offV O P O' P' t = 0 := if_neg (fun ⟨_, x⟩ => hl x)
        have e2 : offE O P O' P' t = 2 := by unfold offE; rw [if_pos ⟨h, h'⟩, if_neg hl]
        have t1 : tickB t = false := decide_eq_false hl
        rw [e1, e2]
        clear e1 e2 h h' hl
        go_enter Try.func20, Try.ntmps20
        go_wp2_with fail
        refine (clkCheck_any O P _).mono ?_
        rintro e w1 ⟨rfl, hb1⟩
        have c2 : w1.cell? ⟨w.heap.size + 1, 0, none⟩ = some (.int .i64 O') := below_keep hb1 (by simp [go_sem])
        have c3 : w1.cell? ⟨w.heap.size + 1, 1, none⟩ = some (.int .i64 P') := below_keep hb1 (by simp [go_sem])
        have H1 := Lib.hid (below_step (below_alloc (below_alloc (Below.refl _ _) _) _) hb1)
        clear hb1
        go_wp2_with fail
        refine (clkCheck_any O' P' _).mono ?_
        rintro e w2 ⟨rfl, hb2⟩
        have H2 := Lib.hid (below_step H1.out hb2)
        clear hb2 H1 c2 c3
        go_wp2_with fail
        refine (tick_any t _).mono ?_
        rintro e w' ⟨rfl, rfl⟩
        go_wp2
        go_ret2
        exact ⟨rfl, H2.out⟩
    · have c' : clkV O' P' = 190 := if_neg h'
      have e1 : offV O P O' P' t = 0 := if_neg (fun ⟨⟨_, x⟩, _⟩ => h' x)
      have e2 : offE O P O' P' t = 190 := if_neg (fun ⟨_, x⟩ => h' x)
      rw [e1, e2]
      clear e1 e2 h h'
      go_enter Try.func20, Try.ntmps20
      go_wp2_with fail
      refine (clkCheck_any O P _).mono ?_
      rintro e w1 ⟨rfl, hb1⟩
      have c2 : w1.cell? ⟨w.heap.size + 1, 0, none⟩ = some (.int .i64 O') := below_keep hb1 (by simp [go_sem])
      have c3 : w1.cell? ⟨w.heap.size + 1, 1, none⟩ = some (.int .i64 P') := below_keep hb1 (by simp [go_sem])
      have H1 := Lib.hid (below_step (below_alloc (below_alloc (Below.refl _ _) _) _) hb1)
      clear hb1
      go_wp2_with fail
      refine (clkCheck_any O' P' _).mono ?_
      rintro e w2 ⟨rfl, hb2⟩
      have H2 := Lib.hid (below_step H1.out hb2)
      clear hb2 H1 c2 c3
      go_wp2
      go_ret2
      exact ⟨rfl, H2.out⟩
  · have c : clkV O P = 190 := if_neg h
    have e1 : offV O P O' P' t = 0 := if_neg (fun ⟨⟨x, _⟩, _⟩ => h x)
    have e2 : offE O P O' P' t = 190 := if_neg (fun ⟨x, _⟩ => h x)
    rw [e1, e2]
    clear e1 e2 h
    go_enter Try.func20, Try.ntmps20
    go_wp2_with fail
    refine (clkCheck_any O P _).mono ?_
    rintro e w1 ⟨rfl, hb1⟩
    have H1 := Lib.hid (below_step (below_alloc (below_alloc (Below.refl _ _) _) _) hb1)
    clear hb1
    go_wp2
    go_ret2
    exact ⟨rfl, H1.out⟩

/-- clock.Bound -/
theorem cbound_any (p d : Int) (w : World) :
    Calls Try.prog 22 #[.int .i64 p, .int .i64 d] w fun e w' => e = .returned (.tuple #[.int .i64 (bndV p d), .int .i64 (bndE p d)]) ∧ Below w.heap.size w w' := by
  by_cases h : BndOk p d
  · have e1 : bndV p d = -share (-d) p := if_pos h
    have e2 : bndE p d = 0 := if_pos h
    rw [e1, e2]
    obtain ⟨k1, k2, l⟩ := h
    have t1 : tickB d = true := decide_eq_true l
    obtain ⟨k3, k4⟩ := l
    obtain ⟨_, _, m1, m2⟩ := part_bd' (x := -d) (p := p) (by omega) (by omega) (by omega) k2
    clear e1 e2
    go_enter Try.func22, Try.ntmps22
    go_wp2_with fail
    refine (tick_any d _).mono ?_
    rintro e w' ⟨rfl, rfl⟩
    go_wp2_with fail
    refine (part_any (-d) p (by omega) (by omega) (by omega) (by omega) _).mono ?_
    rintro e w1 ⟨rfl, hb1⟩
    go_wp2
    go_ret2
    exact ⟨rfl, hb1⟩
  · have e1 : bndV p d = 0 := if_neg h
    have e2 : bndE p d = 2 := if_neg h
    rw [e1, e2]
    clear e1 e2
    rcases (show p < 0 ∨ (0 ≤ p ∧ 200000 < p) ∨ (0 ≤ p ∧ p ≤ 200000) by omega) with k | ⟨k, k'⟩ | ⟨k, k'⟩
    · go_enter Try.func22, Try.ntmps22
      go_wp2
      go_ret2
      exact ⟨rfl, Below.refl _ _⟩
    · go_enter Try.func22, Try.ntmps22
      go_wp2
      go_ret2
      exact ⟨rfl, Below.refl _ _⟩
    · have t1 : tickB d = false := decide_eq_false (fun l => h ⟨k, k', l⟩)
      clear h
      go_enter Try.func22, Try.ntmps22
      go_wp2_with fail
      refine (tick_any d _).mono ?_
      rintro e w' ⟨rfl, rfl⟩
      go_wp2
      go_ret2
      exact ⟨rfl, Below.refl _ _⟩

/-- A valid time of a law. -/
def tmV (a : Int) : Int := IntKind.u64.wrap a % 1099511627777
theorem tm_tick (a : Int) : Tick (tmV a) := by
  have m0 := Int.emod_nonneg (IntKind.u64.wrap a) (show (1099511627777 : Int) ≠ 0 by decide)
  have m1 := Int.emod_lt_of_pos (IntKind.u64.wrap a) (show (0 : Int) < 1099511627777 by decide)
  unfold tmV
  exact ⟨by omega, by omega⟩
/-- isochronlaw09.time -/
theorem tm_any (a : Int) (w : World) : Calls Try.prog 24 #[.int .i64 a] w fun e w' => e = .returned (.int .i64 (tmV a)) ∧ w = w' := by
  have h1 : 0 ≤ IntKind.u64.wrap a := by rw [IntKind.wrap_u64]; omega
  obtain ⟨k1, k2⟩ := tm_tick a
  unfold tmV at k1 k2 ⊢
  obtain ⟨u, hu⟩ : ∃ u, IntKind.u64.wrap a = u := ⟨_, rfl⟩
  rw [hu] at h1 k1 k2 ⊢
  go_enter Try.func24, Try.ntmps24
  go_wp2
  go_ret
  exact ⟨rfl, rfl⟩

end Go.Proofs.Ytjdiecinelapeaa
