/-
  The walks of the reference of package clock: Elapsed, Offset, Drift, Bound.
-/
import Derived.Test.YtjdiecinelapeaaClockRef
namespace Go.Proofs.Ytjdiecinelapeaa
open Go.RowKit Go.Lib Plain

/-- isochronref09.Elapsed -/
theorem elapsedRef_any (O P t d : Int) (w : World) :
    Calls Try.prog 19 #[.agg #[.int .i64 O, .int .i64 P], .int .i64 t, .int .i64 d] w fun e w' => e = .returned (.tuple #[.int .i64 (elV O P t d), .int .i64 (elE O P t d)]) ∧ Below w.heap.size w w' := by
  by_cases h : OkC O P
  · have c : okC O P = true := decide_eq_true h
    by_cases hl : ElOk t d
    · have e1 : elV O P t d = locV O P (t + d) - locV O P t := if_pos ⟨h, hl⟩
      have e2 : elE O P t d = 0 := by unfold elE; rw [if_pos h, if_pos hl]
      rw [e1, e2]
      obtain ⟨l1, l2, l3⟩ := hl
      obtain ⟨b1, b2, _, _⟩ := loc_bd h l1
      obtain ⟨b3, b4, _, _⟩ := loc_bd h l3
      have HS := Lib.hid h
      have L1 := Lib.hid l1
      have L3 := Lib.hid l3
      obtain ⟨k1, k2⟩ := l1
      obtain ⟨k3, k4⟩ := l2
      obtain ⟨k5, k6⟩ := l3
      have e3 : IntKind.i64.wrap (locV O P (t + d) - locV O P t) = locV O P (t + d) - locV O P t := IntWalk.i64_in _ (by omega)
      have e4 : IntKind.i64.wrap (t + d) = t + d := IntWalk.i64_in _ (by omega)
      clear e1 e2 h
      go_enter Try.func19, Try.ntmps19
      go_wp2_with fail
      refine (clkRight_any O P _).mono ?_
      rintro e w1 ⟨rfl, hb1⟩
      have c0 : w1.cell? ⟨w.heap.size, 0, none⟩ = some (.int .i64 O) := below_keep hb1 (by simp [go_sem])
      have c1 : w1.cell? ⟨w.heap.size, 1, none⟩ = some (.int .i64 P) := below_keep hb1 (by simp [go_sem])
      have H1 := Lib.hid (below_step (below_alloc (Below.refl _ _) _) hb1)
      clear hb1
      go_wp2
      have r0 := fun p : Regrown => cell_regrown c0 p.d p.os
      have r1 := fun p : Regrown => cell_regrown c1 p.d p.os
      refine wp_region_quiet_below (by kernel_rfl) (by kernel_rfl) ?_
      repeat (go_big_quiet_step (first | with_reducible exact Calls.regrown_of (clkAt_any O P (t + d) HS.out L3.out _) | with_reducible exact Calls.regrown_of (clkAt_any O P t HS.out L1.out _)))
      refine wpQuiet_nil ?_
      intro w3 hw
      have H3 : Below w.heap.size w w3 := below_step H1.out (by obtain ⟨p, rfl⟩ := hw; exact below_regrown _ _ _)
      clear hw r0 r1 c0 c1 H1
      go_wp2
      go_ret2
      exact ⟨rfl, H3⟩
    · have e1 : elV O P t d = 0 := if_neg (fun ⟨_, x⟩ => hl x)
      have e2 : elE O P t d = 2 := by unfold elE; rw [if_pos h, if_neg hl]
      rw [e1, e2]
      clear e1 e2 h
      rcases (show t < 0 ∨ (0 ≤ t ∧ 1099511627776 < t) ∨ (0 ≤ t ∧ t ≤ 1099511627776 ∧ d < 0) ∨ (0 ≤ t ∧ t ≤ 1099511627776 ∧ 0 ≤ d ∧ 1099511627776 - t < d) by unfold ElOk Tick at hl; omega) with k1 | ⟨k1, k2⟩ | ⟨k1, k2, k3⟩ | ⟨k1, k2, k3, k4⟩
      all_goals
        clear hl
        go_enter Try.func19, Try.ntmps19
        go_wp2_with fail
        refine (clkRight_any O P _).mono ?_
        rintro e w1 ⟨rfl, hb1⟩
        go_wp2
        go_ret2
        exact ⟨rfl, below_step (below_alloc (Below.refl _ _) _) hb1⟩
  · have c : okC O P = false := decide_eq_false h
    have e1 : elV O P t d = 0 := if_neg (fun ⟨x, _⟩ => h x)
    have e2 : elE O P t d = 190 := if_neg h
    rw [e1, e2]
    clear e1 e2 h
    go_enter Try.func19, Try.ntmps19
    go_wp2_with fail
    refine (clkRight_any O P _).mono ?_
    rintro e w1 ⟨rfl, hb1⟩
    go_wp2
    go_ret2
    exact ⟨rfl, below_step (below_alloc (Below.refl _ _) _) hb1⟩

set_option maxHeartbeats 1000000 in
/-- isochronref09.Offset -/
theorem offsetRef_any (O P O' P' t : Int) (w : World) :
    Calls Try.prog 21 #[.agg #[.int .i64 O, .int .i64 P], .agg #[.int .i64 O', .int .i64 P'], .int .i64 t] w fun e w' => e = .returned (.tuple #[.int .i64 (offV O P O' P' t), .int .i64 (offE O P O' P' t)]) ∧ Below w.heap.size w w' := by
  by_cases h : OkC O P
  · have c : okC O P = true := decide_eq_true h
    by_cases h' : OkC O' P'
    · have c' : okC O' P' = true := decide_eq_true h'
      by_cases hl : Tick t
      · have e1 : offV O P O' P' t = locV O P t - locV O' P' t := if_pos ⟨⟨h, h'⟩, hl⟩
        have e2 : offE O P O' P' t = 0 := by unfold offE; rw [if_pos ⟨h, h'⟩, if_pos hl]
        rw [e1, e2]
        obtain ⟨b1, b2, _, _⟩ := loc_bd h hl
        obtain ⟨b3, b4, _, _⟩ := loc_bd h' hl
        have e3 : IntKind.i64.wrap (locV O P t - locV O' P' t) = locV O P t - locV O' P' t := IntWalk.i64_in _ (by omega)
        have HS := Lib.hid h
        have HS' := Lib.hid h'
        have L1 := Lib.hid hl
        obtain ⟨k1, k2⟩ := hl
        clear e1 e2 h h'
        go_enter Try.func21, Try.ntmps21
        go_wp2_with fail
        refine (clkRight_any O P _).mono ?_
        rintro e w1 ⟨rfl, hb1⟩
        have c0 : w1.cell? ⟨w.heap.size, 0, none⟩ = some (.int .i64 O) := below_keep hb1 (by simp [go_sem])
        have c1 : w1.cell? ⟨w.heap.size, 1, none⟩ = some (.int .i64 P) := below_keep hb1 (by simp [go_sem])
        have c2 : w1.cell? ⟨w.heap.size + 1, 0, none⟩ = some (.int .i64 O') := below_keep hb1 (by simp [go_sem])
        have c3 : w1.cell? ⟨w.heap.size + 1, 1, none⟩ = some (.int .i64 P') := below_keep hb1 (by simp [go_sem])
        have H1 := Lib.hid (below_step (below_alloc (below_alloc (Below.refl _ _) _) _) hb1)
        clear hb1
        go_wp2_with fail
        refine (clkRight_any O' P' _).mono ?_
        rintro e w2 ⟨rfl, hb2⟩
        have d0 := below_keep hb2 c0
        have d1 := below_keep hb2 c1
        have d2 := below_keep hb2 c2
        have d3 := below_keep hb2 c3
        have H2 := Lib.hid (below_step H1.out hb2)
        clear hb2 H1 c0 c1 c2 c3
        go_wp2
        have r0 := fun p : Regrown => cell_regrown d0 p.d p.os
        have r1 := fun p : Regrown => cell_regrown d1 p.d p.os
        have r2 := fun p : Regrown => cell_regrown d2 p.d p.os
        have r3 := fun p : Regrown => cell_regrown d3 p.d p.os
        refine wp_region_quiet_below (by kernel_rfl) (by kernel_rfl) ?_
        repeat (go_big_quiet_step (first | with_reducible exact Calls.regrown_of (clkAt_any O P t HS.out L1.out _) | with_reducible exact Calls.regrown_of (clkAt_any O' P' t HS'.out L1.out _)))
        refine wpQuiet_nil ?_
        intro w3 hw
        have H3 : Below w.heap.size w w3 := below_step H2.out (by obtain ⟨p, rfl⟩ := hw; exact below_regrown _ _ _)
        clear hw r0 r1 r2 r3 d0 d1 d2 d3 H2
        go_wp2
        go_ret2
        exact ⟨rfl, H3⟩
      · have e1 : offV O P O' P' t = 0 := if_neg (fun ⟨_, x⟩ => hl x)
        have e2 : offE O P O' P' t = 2 := by unfold offE; rw [if_pos ⟨h, h'⟩, if_neg hl]
        rw [e1, e2]
        rcases (show t < 0 ∨ (0 ≤ t ∧ 1099511627776 < t) by unfold Tick at hl; omega) with k1 | ⟨k1, k2⟩
        all_goals
          clear e1 e2 h h' hl
          go_enter Try.func21, Try.ntmps21
          go_wp2_with fail
          refine (clkRight_any O P _).mono ?_
          rintro e w1 ⟨rfl, hb1⟩
          have c2 : w1.cell? ⟨w.heap.size + 1, 0, none⟩ = some (.int .i64 O') := below_keep hb1 (by simp [go_sem])
          have c3 : w1.cell? ⟨w.heap.size + 1, 1, none⟩ = some (.int .i64 P') := below_keep hb1 (by simp [go_sem])
          have H1 := Lib.hid (below_step (below_alloc (below_alloc (Below.refl _ _) _) _) hb1)
          clear hb1
          go_wp2_with fail
          refine (clkRight_any O' P' _).mono ?_
          rintro e w2 ⟨rfl, hb2⟩
          have H2 := Lib.hid (below_step H1.out hb2)
          clear hb2 H1 c2 c3
          go_wp2
          go_ret2
          exact ⟨rfl, H2.out⟩
    · have c' : okC O' P' = false := decide_eq_false h'
      have e1 : offV O P O' P' t = 0 := if_neg (fun ⟨⟨_, x⟩, _⟩ => h' x)
      have e2 : offE O P O' P' t = 190 := if_neg (fun ⟨_, x⟩ => h' x)
      rw [e1, e2]
      clear e1 e2 h h'
      go_enter Try.func21, Try.ntmps21
      go_wp2_with fail
      refine (clkRight_any O P _).mono ?_
      rintro e w1 ⟨rfl, hb1⟩
      have c2 : w1.cell? ⟨w.heap.size + 1, 0, none⟩ = some (.int .i64 O') := below_keep hb1 (by simp [go_sem])
      have c3 : w1.cell? ⟨w.heap.size + 1, 1, none⟩ = some (.int .i64 P') := below_keep hb1 (by simp [go_sem])
      have H1 := Lib.hid (below_step (below_alloc (below_alloc (Below.refl _ _) _) _) hb1)
      clear hb1
      go_wp2_with fail
      refine (clkRight_any O' P' _).mono ?_
      rintro e w2 ⟨rfl, hb2⟩
      have H2 := Lib.hid (below_step H1.out hb2)
      clear hb2 H1 c2 c3
      go_wp2
      go_ret2
      exact ⟨rfl, H2.out⟩
  · have c : okC O P = false := decide_eq_false h
    have e1 : offV O P O' P' t = 0 := if_neg (fun ⟨⟨x, _⟩, _⟩ => h x)
    have e2 : offE O P O' P' t = 190 := if_neg (fun ⟨x, _⟩ => h x)
    rw [e1, e2]
    clear e1 e2 h
    go_enter Try.func21, Try.ntmps21
    go_wp2_with fail
    refine (clkRight_any O P _).mono ?_
    rintro e w1 ⟨rfl, hb1⟩
    have H1 := Lib.hid (below_step (below_alloc (below_alloc (Below.refl _ _) _) _) hb1)
    clear hb1
    go_wp2
    go_ret2
    exact ⟨rfl, H1.out⟩

/-- isochronref09.Drift -/
theorem driftRef_any (p d : Int) (k1 : 0 ≤ p) (k2 : p ≤ 200000) (k3 : 0 ≤ d) (k4 : d ≤ 1099511627776) (w : World) :
    Calls Try.prog 31 #[.int .i64 p, .int .i64 d] w fun e w' => e = .returned (.int .i64 (-share (-d) p)) ∧ w = w' := by
  obtain ⟨m1, m2, m3, m4⟩ := part_bd' (x := -d) (p := p) (by omega) (by omega) (by omega) k2
  unfold share at m3 m4 ⊢
  go_enter Try.func31, Try.ntmps31
  go_wp2_with fail
  refine (floor_any (-d * p) 1000000000 (by omega) (by omega) (by omega) _).mono ?_
  rintro e w' ⟨rfl, rfl⟩
  go_wp2
  go_ret
  exact ⟨rfl, rfl⟩

/-- isochronref09.Bound -/
theorem cboundRef_any (p d : Int) (w : World) :
    Calls Try.prog 23 #[.int .i64 p, .int .i64 d] w fun e w' => e = .returned (.tuple #[.int .i64 (bndV p d), .int .i64 (bndE p d)]) ∧ w = w' := by
  by_cases h : BndOk p d
  · have e1 : bndV p d = -share (-d) p := if_pos h
    have e2 : bndE p d = 0 := if_pos h
    rw [e1, e2]
    obtain ⟨k1, k2, k3, k4⟩ := h
    clear e1 e2
    go_enter Try.func23, Try.ntmps23
    go_wp2_with fail
    refine (driftRef_any p d k1 k2 k3 k4 _).mono ?_
    rintro e w' ⟨rfl, rfl⟩
    go_wp2
    go_ret2
    exact ⟨rfl, rfl⟩
  · have e1 : bndV p d = 0 := if_neg h
    have e2 : bndE p d = 2 := if_neg h
    rw [e1, e2]
    rcases (show p < 0 ∨ (0 ≤ p ∧ 200000 < p) ∨ (0 ≤ p ∧ p ≤ 200000 ∧ d < 0) ∨ (0 ≤ p ∧ p ≤ 200000 ∧ 0 ≤ d ∧ 1099511627776 < d) by unfold BndOk Tick at h; omega) with k1 | ⟨k1, k2⟩ | ⟨k1, k2, k3⟩ | ⟨k1, k2, k3, k4⟩
    all_goals
      clear e1 e2 h
      go_enter Try.func23, Try.ntmps23
      go_wp2
      go_ret2
      exact ⟨rfl, rfl⟩

end Go.Proofs.Ytjdiecinelapeaa
