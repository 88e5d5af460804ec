/-
  The walks of the reference of package pass.
-/
import Derived.Test.YtkbadnehngogjaaPass
import Derived.Test.YtkbadnehngogjaaPartRef
import Derived.Test.YtkbadnehngogjaaTail
namespace Go.Proofs.Ytkbadnehngogjaa
open Go.RowKit Go.Lib Plain

def sB (t : Int) : Bool := decide (Stamp t)
def rB (t : Int) : Bool := decide (Ratio t)
/-- isochronref14.stamp -/
theorem rstamp_any (t : Int) (w : World) : Calls Try.prog 39 #[.int .i64 t] w fun e w' => e = .returned (.bool (sB t)) ∧ w = w' := by
  have hcases : (t < -4398046511104 ∧ sB t = false) ∨ (-4398046511104 ≤ t ∧ 4398046511104 < t ∧ sB t = false) ∨ (-4398046511104 ≤ t ∧ t ≤ 4398046511104 ∧ sB t = true) := by
    unfold sB
    simp only [decide_eq_false_iff_not, decide_eq_true_eq]
    unfold Stamp
    omega
  rcases hcases with ⟨k1, k⟩ | ⟨k1, k2, k⟩ | ⟨k1, k2, k⟩
  all_goals
    rw [k]
    clear k
    go_enter Try.func39, Try.ntmps39
    go_wp2
    go_ret
    exact ⟨ret_bool (by first | rfl | (rw [decide_eq_false_iff_not]; omega)), rfl⟩
/-- isochronref14.ratio -/
theorem rratio_any (t : Int) (w : World) : Calls Try.prog 40 #[.int .i64 t] w fun e w' => e = .returned (.bool (rB t)) ∧ w = w' := by
  have hcases : (t < -8388608 ∧ rB t = false) ∨ (-8388608 ≤ t ∧ 8388608 < t ∧ rB t = false) ∨ (-8388608 ≤ t ∧ t ≤ 8388608 ∧ rB t = true) := by
    unfold rB
    simp only [decide_eq_false_iff_not, decide_eq_true_eq]
    unfold Ratio
    omega
  rcases hcases with ⟨k1, k⟩ | ⟨k1, k2, k⟩ | ⟨k1, k2, k⟩
  all_goals
    rw [k]
    clear k
    go_enter Try.func40, Try.ntmps40
    go_wp2
    go_ret
    exact ⟨ret_bool (by first | rfl | (rw [decide_eq_false_iff_not]; omega)), rfl⟩

/-- isochronref14.Right -/
theorem rRight_any (O C P : Int) (w : World) :
    Calls Try.prog 18 #[.agg #[.int .i64 O, .int .i64 C, .int .i64 P]] w fun e w' => e = .returned (.bool (okI O C P)) ∧ Below w.heap.size w w' := by
  have hcases : (sB O = false ∧ okI O C P = false) ∨ (sB O = true ∧ sB C = false ∧ okI O C P = false) ∨ (sB O = true ∧ sB C = true ∧ rB P = false ∧ okI O C P = false) ∨ (sB O = true ∧ sB C = true ∧ rB P = true ∧ okI O C P = true) := by
    by_cases h0 : Stamp O
    · by_cases h1 : Stamp C
      · by_cases h2 : Ratio P
        · exact .inr (.inr (.inr ⟨decide_eq_true h0, decide_eq_true h1, decide_eq_true h2, decide_eq_true ⟨h0, h1, h2⟩⟩))
        · exact .inr (.inr (.inl ⟨decide_eq_true h0, decide_eq_true h1, decide_eq_false h2, decide_eq_false (fun h => h2 h.2.2)⟩))
      · exact .inr (.inl ⟨decide_eq_true h0, decide_eq_false h1, decide_eq_false (fun h => h1 h.2.1)⟩)
    · exact .inl ⟨decide_eq_false h0, decide_eq_false (fun h => h0 h.1)⟩
  rcases hcases with ⟨k1, e⟩ | ⟨k1, k2, e⟩ | ⟨k1, k2, k3, e⟩ | ⟨k1, k2, k3, e⟩
  all_goals
    rw [e]
    clear e
    go_enter Try.func18, Try.ntmps18
    go_wp2_with (first | (go_at_call 39; refine (rstamp_any _ _).mono ?_; rintro e w' ⟨rfl, rfl⟩) | (go_at_call 40; refine (rratio_any _ _).mono ?_; rintro e w' ⟨rfl, rfl⟩))
    go_ret
    exact ⟨ret_bool rfl, below_alloc (Below.refl _ _) _⟩

/-- isochronref14.Limits -/
def pbB (e t d r : Int) : Bool := decide (PbOk e t d r)

def endV (O C P v : Int) : Int := if OkI O C P then v else 0
def endE (O C P : Int) : Int := if OkI O C P then 0 else 6

theorem end_ok (O C P : Int) (w : World) (h : OkI O C P) :
    Calls Try.prog 42 #[.agg #[.int .i64 O, .int .i64 C, .int .i64 P]] w fun e w' => e = .returned (.tuple #[.agg #[.int .i64 O, .int .i64 C, .int .i64 P], .int .i64 0]) ∧ Below w.heap.size w w' := by
  have k := Lib.hid (show okI O C P = true from decide_eq_true h)
  clear h
  go_enter Try.func42, Try.ntmps42
  go_wp2_with fail
  refine (rRight_any O C P _).mono ?_
  rw [k.out]
  rintro e w1 ⟨rfl, hb1⟩
  have c1 : w1.cell? ⟨w.heap.size, 0, none⟩ = some (.int .i64 O) := below_keep hb1 (by simp [go_sem])
  have c2 : w1.cell? ⟨w.heap.size, 1, none⟩ = some (.int .i64 C) := below_keep hb1 (by simp [go_sem])
  have c3 : w1.cell? ⟨w.heap.size, 2, none⟩ = some (.int .i64 P) := below_keep hb1 (by simp [go_sem])
  have c4 : w1.cell? ⟨w.heap.size + 1, 0, none⟩ = some (.int .i64 0) := below_keep hb1 (by simp [go_sem])
  have c5 : w1.cell? ⟨w.heap.size + 1, 1, none⟩ = some (.int .i64 0) := below_keep hb1 (by simp [go_sem])
  have c6 : w1.cell? ⟨w.heap.size + 1, 2, none⟩ = some (.int .i64 0) := below_keep hb1 (by simp [go_sem])
  have c7 : ∀ o, w1.frozen? ⟨w.heap.size + 1, o, none⟩ = false := fun o => by rw [(bcell hb1).2 _ _ (by first | (simp; done) | (simp; omega))]; simp [go_sem]
  have H1 := Lib.hid (below_step (below_alloc (below_alloc (Below.refl _ _) _) _) hb1)
  clear hb1
  go_wp2
  refine bodyPost_ret (v := .tuple #[.agg #[.int .i64 O, .int .i64 C, .int .i64 P], .int .i64 0]) (by simp [results, Try.results42, go_sem, *]) rfl ⟨rfl, ?_⟩
  have hb4 := H1.out
  exact ((hb4.setCell (by simp) _).setCell (by simp) _).setCell (by simp) _

theorem end_bad (O C P : Int) (w : World) (h : ¬ OkI O C P) :
    Calls Try.prog 42 #[.agg #[.int .i64 O, .int .i64 C, .int .i64 P]] w fun e w' => e = .returned (.tuple #[.agg #[.int .i64 0, .int .i64 0, .int .i64 0], .int .i64 6]) ∧ Below w.heap.size w w' := by
  have k := Lib.hid (show okI O C P = false from decide_eq_false h)
  clear h
  go_enter Try.func42, Try.ntmps42
  go_wp2_with fail
  refine (rRight_any O C P _).mono ?_
  rw [k.out]
  rintro e w1 ⟨rfl, hb1⟩
  have c1 : w1.cell? ⟨w.heap.size + 1, 0, none⟩ = some (.int .i64 0) := below_keep hb1 (by simp [go_sem])
  have c2 : w1.cell? ⟨w.heap.size + 1, 1, none⟩ = some (.int .i64 0) := below_keep hb1 (by simp [go_sem])
  have c3 : w1.cell? ⟨w.heap.size + 1, 2, none⟩ = some (.int .i64 0) := below_keep hb1 (by simp [go_sem])
  have c4 : ∀ o, w1.frozen? ⟨w.heap.size + 1, o, none⟩ = false := fun o => by rw [(bcell hb1).2 _ _ (by first | (simp; done) | (simp; omega))]; simp [go_sem]
  have H1 := Lib.hid (below_step (below_alloc (below_alloc (Below.refl _ _) _) _) hb1)
  clear hb1
  go_wp2
  refine bodyPost_ret (v := .tuple #[.agg #[.int .i64 0, .int .i64 0, .int .i64 0], .int .i64 6]) (by simp [results, Try.results42, go_sem, *]) rfl ⟨rfl, ?_⟩
  have hb4 := H1.out
  exact ((hb4.setCell (by simp) _).setCell (by simp) _).setCell (by simp) _

theorem end_any (O C P : Int) (w : World) :
    Calls Try.prog 42 #[.agg #[.int .i64 O, .int .i64 C, .int .i64 P]] w fun e w' => e = .returned (.tuple #[.agg #[.int .i64 (endV O C P O), .int .i64 (endV O C P C), .int .i64 (endV O C P P)], .int .i64 (endE O C P)]) ∧ Below w.heap.size w w' := by
  unfold endV endE
  by_cases h : OkI O C P
  · rw [if_pos h, if_pos h, if_pos h, if_pos h]; exact end_ok O C P w h
  · rw [if_neg h, if_neg h, if_neg h, if_neg h]; exact end_bad O C P w h

/-- (isochronref14.Draft).Info -/
theorem infoDraft_any (a b c : Int) (w : World) :
    Calls Try.prog 12 #[.agg #[.int .i64 a, .int .i64 b, .int .i32 c]] w fun e w' => e = .returned (.agg #[.int .i64 (a.tmod 4398046511105), .int .i64 (b.tmod 4398046511105), .int .i64 (c.tmod 8388609)]) ∧ Below w.heap.size w w' := by
  go_enter Try.func12, Try.ntmps12
  go_wp2
  refine bodyPost_ret (v := .agg #[.int .i64 (a.tmod 4398046511105), .int .i64 (b.tmod 4398046511105), .int .i64 (c.tmod 8388609)]) (by simp [results, Try.results12, go_sem, IntWalk.wrap64_in (c.tmod 8388609) (by have := ctmod_bd c 8388609 (by decide); omega)]) rfl ⟨rfl, ?_⟩
  repeat (first | exact Below.refl _ _ | apply below_alloc)
theorem infoDraft_ok (a b c : Int) : OkI (a.tmod 4398046511105) (b.tmod 4398046511105) (c.tmod 8388609) := by
  have h1 := ctmod_bd a 4398046511105 (by decide)
  have h2 := ctmod_bd b 4398046511105 (by decide)
  have h3 := ctmod_bd c 8388609 (by decide)
  exact ⟨⟨by omega, by omega⟩, ⟨by omega, by omega⟩, ⟨by omega, by omega⟩⟩

/-- isochronref14.Limits -/
theorem rLimits_any (e t d r : Int) (w : World) : Calls Try.prog 27 #[.int .i64 e, .int .i64 t, .int .i64 d, .int .i64 r] w fun y w' => y = .returned (.bool (pbB e t d r)) ∧ w = w' := by
  have hcases : (e < 0 ∧ pbB e t d r = false) ∨
      (0 ≤ e ∧ sB e = false ∧ pbB e t d r = false) ∨
      (0 ≤ e ∧ sB e = true ∧ t < 0 ∧ pbB e t d r = false) ∨
      (0 ≤ e ∧ sB e = true ∧ 0 ≤ t ∧ sB t = false ∧ pbB e t d r = false) ∨
      (0 ≤ e ∧ sB e = true ∧ 0 ≤ t ∧ sB t = true ∧ d < 0 ∧ pbB e t d r = false) ∨
      (0 ≤ e ∧ sB e = true ∧ 0 ≤ t ∧ sB t = true ∧ 0 ≤ d ∧ sB d = false ∧ pbB e t d r = false) ∨
      (0 ≤ e ∧ sB e = true ∧ 0 ≤ t ∧ sB t = true ∧ 0 ≤ d ∧ sB d = true ∧ r < 0 ∧ pbB e t d r = false) ∨
      (0 ≤ e ∧ sB e = true ∧ 0 ≤ t ∧ sB t = true ∧ 0 ≤ d ∧ sB d = true ∧ 0 ≤ r ∧ rB r = false ∧ pbB e t d r = false) ∨
      (0 ≤ e ∧ sB e = true ∧ 0 ≤ t ∧ sB t = true ∧ 0 ≤ d ∧ sB d = true ∧ 0 ≤ r ∧ rB r = true ∧ pbB e t d r = true) := by
    by_cases k0 : 0 ≤ e
    · by_cases k1 : Stamp e
      · by_cases k2 : 0 ≤ t
        · by_cases k3 : Stamp t
          · by_cases k4 : 0 ≤ d
            · by_cases k5 : Stamp d
              · by_cases k6 : 0 ≤ r
                · by_cases k7 : Ratio r
                  · exact .inr (.inr (.inr (.inr (.inr (.inr (.inr (.inr (⟨k0, decide_eq_true k1, k2, decide_eq_true k3, k4, decide_eq_true k5, k6, decide_eq_true k7, decide_eq_true ⟨⟨k0, k1.2⟩, ⟨k2, k3.2⟩, ⟨k4, k5.2⟩, ⟨k6, k7.2⟩⟩⟩))))))))
                  · exact .inr (.inr (.inr (.inr (.inr (.inr (.inr (.inl ⟨k0, decide_eq_true k1, k2, decide_eq_true k3, k4, decide_eq_true k5, k6, decide_eq_false k7, decide_eq_false (fun h => k7 ⟨by have := h.2.2.2.1; omega, h.2.2.2.2⟩)⟩)))))))
                · exact .inr (.inr (.inr (.inr (.inr (.inr (.inl ⟨k0, decide_eq_true k1, k2, decide_eq_true k3, k4, decide_eq_true k5, (by omega), decide_eq_false (fun h => k6 h.2.2.2.1)⟩))))))
              · exact .inr (.inr (.inr (.inr (.inr (.inl ⟨k0, decide_eq_true k1, k2, decide_eq_true k3, k4, decide_eq_false k5, decide_eq_false (fun h => k5 ⟨by have := h.2.2.1.1; omega, h.2.2.1.2⟩)⟩)))))
            · exact .inr (.inr (.inr (.inr (.inl ⟨k0, decide_eq_true k1, k2, decide_eq_true k3, (by omega), decide_eq_false (fun h => k4 h.2.2.1.1)⟩))))
          · exact .inr (.inr (.inr (.inl ⟨k0, decide_eq_true k1, k2, decide_eq_false k3, decide_eq_false (fun h => k3 ⟨by have := h.2.1.1; omega, h.2.1.2⟩)⟩)))
        · exact .inr (.inr (.inl ⟨k0, decide_eq_true k1, (by omega), decide_eq_false (fun h => k2 h.2.1.1)⟩))
      · exact .inr (.inl ⟨k0, decide_eq_false k1, decide_eq_false (fun h => k1 ⟨by have := h.1.1; omega, h.1.2⟩)⟩)
    · exact .inl ⟨(by omega), decide_eq_false (fun h => k0 h.1.1)⟩
  rcases hcases with ⟨k0, q⟩ | ⟨k0, k1, q⟩ | ⟨k0, k1, k2, q⟩ | ⟨k0, k1, k2, k3, q⟩ | ⟨k0, k1, k2, k3, k4, q⟩ | ⟨k0, k1, k2, k3, k4, k5, q⟩ | ⟨k0, k1, k2, k3, k4, k5, k6, q⟩ | ⟨k0, k1, k2, k3, k4, k5, k6, k7, q⟩ | ⟨k0, k1, k2, k3, k4, k5, k6, k7, q⟩
  all_goals
    rw [q]
    clear q
    go_enter Try.func27, Try.ntmps27
    go_wp2_with (first | (go_at_call 39; refine (rstamp_any _ _).mono ?_; rintro e w' ⟨rfl, rfl⟩) | (go_at_call 40; refine (rratio_any _ _).mono ?_; rintro e w' ⟨rfl, rfl⟩))
    go_ret
    exact ⟨ret_bool (by first | rfl | (rw [decide_eq_false_iff_not]; omega)), rfl⟩

/-- isochronref14.Bound -/
theorem rBound_any (e t d r : Int) (h : PbOk e t d r) (w : World) : Calls Try.prog 28 #[.int .i64 e, .int .i64 t, .int .i64 d, .int .i64 r] w fun y w' => y = .returned (.int .i64 (pbV e t d r)) ∧ w = w' := by
  obtain ⟨⟨h1, h2⟩, ⟨h3, h4⟩, ⟨h5, h6⟩, ⟨h7, h8⟩⟩ := h
  obtain ⟨b1, b2⟩ := part_bd (x := -d - t) (p := r + 600000) (by omega) (by omega) (by omega) (by omega)
  unfold pbV
  rw [show -(d + t) = -d - t by omega]
  go_enter Try.func28, Try.ntmps28
  go_wp2_with fail
  refine (partRef_any (-d - t) (r + 600000) (by omega) (by omega) (by omega) (by omega) _).mono ?_
  rintro y w' ⟨rfl, rfl⟩
  go_wp2
  go_ret
  exact ⟨rfl, rfl⟩

end Go.Proofs.Ytkbadnehngogjaa
