/-
  The walks of servo.Sync and servo.Bound.
-/
import Derived.Test.YtakbopkiemlfdaaServo
namespace Go.Proofs.Ytakbopkiemlfdaa
open Go.RowKit Go.Lib Plain

set_option maxHeartbeats 1000000 in
theorem sync_ok (L M P l m p : Int) (h : OkS L M P) (hl : L ≤ l) (h2 : OkS l m p) (w : World) :
    Calls Try.prog 19 #[.agg #[.int .i64 L, .int .i64 M, .int .i64 P], .int .i64 l, .int .i64 m, .int .i64 p] w fun e w' => e = .returned (.tuple #[.agg #[.int .i64 l, .int .i64 m, .int .i64 p], .int .i64 (m - atV L M P l), .int .i64 0]) ∧ Below w.heap.size w w' := by
  have c1 : chkV L M P = 0 := if_pos h
  have c2 : chkV l m p = 0 := if_pos h2
  have hl' : Stamp l := ⟨h2.1, h2.2.1⟩
  obtain ⟨a1, a2, _, _⟩ := at_bd h hl'
  obtain ⟨b1, b2, b3, b4, b5, b6⟩ := id h2
  have HS := Lib.hid h
  have HL := Lib.hid hl'
  clear h h2 hl'
  go_enter Try.func19, Try.ntmps19
  go_wp2_with fail
  refine (check_any L M P _).mono ?_
  rintro e w1 ⟨rfl, hb1⟩
  have hz : w.heap.size + 1 < w1.heap.size := by have := hb1.size; simp at this; omega
  have hz0 : w.heap.size < w1.heap.size := by omega
  have g0 : w1.cell? ⟨w.heap.size, 0, none⟩ = some (.int .i64 L) := below_keep hb1 (by simp [go_sem])
  have g1 : w1.cell? ⟨w.heap.size, 1, none⟩ = some (.int .i64 M) := below_keep hb1 (by simp [go_sem])
  have g2 : w1.cell? ⟨w.heap.size, 2, none⟩ = some (.int .i64 P) := below_keep hb1 (by simp [go_sem])
  have g3 : w1.cell? ⟨w.heap.size + 1, 0, none⟩ = some (.int .i64 0) := below_keep hb1 (by simp [go_sem])
  have g4 : w1.cell? ⟨w.heap.size + 1, 1, none⟩ = some (.int .i64 0) := below_keep hb1 (by simp [go_sem])
  have g5 : w1.cell? ⟨w.heap.size + 1, 2, none⟩ = some (.int .i64 0) := below_keep hb1 (by simp [go_sem])
  have g6 : ∀ o, w1.frozen? ⟨w.heap.size + 1, o, none⟩ = false := fun o => by rw [(bcell hb1).2 _ _ (by simp)]; simp [go_sem]
  have HB := Lib.hid (below_step (below_alloc (below_alloc (Below.refl _ _) _) _) hb1)
  clear hb1
  go_wp2_with fail
  refine (check_any l m p _).mono ?_
  rintro e w2 ⟨rfl, hb2⟩
  have hz2 : w1.heap.size < w2.heap.size := by have := hb2.size; simp at this; omega
  have hz20 : w.heap.size < w2.heap.size := by omega
  have hz21 : w.heap.size + 1 < w2.heap.size := by omega
  have k0 : w2.cell? ⟨w.heap.size, 0, none⟩ = some (.int .i64 L) := below_keep hb2 (by rw [World.cell?_alloc_lt _ _ _ hz0]; exact g0)
  have k1 : w2.cell? ⟨w.heap.size, 1, none⟩ = some (.int .i64 M) := below_keep hb2 (by rw [World.cell?_alloc_lt _ _ _ hz0]; exact g1)
  have k2 : w2.cell? ⟨w.heap.size, 2, none⟩ = some (.int .i64 P) := below_keep hb2 (by rw [World.cell?_alloc_lt _ _ _ hz0]; exact g2)
  have k3 : w2.cell? ⟨w.heap.size + 1, 0, none⟩ = some (.int .i64 0) := below_keep hb2 (by rw [World.cell?_alloc_lt _ _ _ hz]; exact g3)
  have k4 : w2.cell? ⟨w.heap.size + 1, 1, none⟩ = some (.int .i64 0) := below_keep hb2 (by rw [World.cell?_alloc_lt _ _ _ hz]; exact g4)
  have k5 : w2.cell? ⟨w.heap.size + 1, 2, none⟩ = some (.int .i64 0) := below_keep hb2 (by rw [World.cell?_alloc_lt _ _ _ hz]; exact g5)
  have k6 : ∀ o, w2.frozen? ⟨w.heap.size + 1, o, none⟩ = false := fun o => by rw [(bcell hb2).2 _ _ (by simp; omega), World.frozen?_alloc_old _ _ _ (by simp; omega)]; exact g6 o
  have l0 : w2.cell? ⟨w1.heap.size, 0, none⟩ = some (.int .i64 l) := below_keep hb2 (by simp [go_sem])
  have l1 : w2.cell? ⟨w1.heap.size, 1, none⟩ = some (.int .i64 m) := below_keep hb2 (by simp [go_sem])
  have l2 : w2.cell? ⟨w1.heap.size, 2, none⟩ = some (.int .i64 p) := below_keep hb2 (by simp [go_sem])
  have hne1 : ¬ w1.heap.size = w.heap.size + 1 := by omega
  have hne2 : ¬ w.heap.size + 1 = w1.heap.size := by omega
  have HB2 := Lib.hid (below_step (below_alloc HB.out _) hb2)
  clear hb2 HB g0 g1 g2 g3 g4 g5 g6
  go_wp2
  go_region_held3 (fun w' => w'.cell? ⟨w.heap.size, 0, none⟩ = some (.int .i64 L) ∧ w'.cell? ⟨w.heap.size, 1, none⟩ = some (.int .i64 M) ∧ w'.cell? ⟨w.heap.size, 2, none⟩ = some (.int .i64 P) ∧
      w'.cell? ⟨w1.heap.size, 0, none⟩ = some (.int .i64 l) ∧ w'.cell? ⟨w1.heap.size, 1, none⟩ = some (.int .i64 m) ∧ w'.cell? ⟨w1.heap.size, 2, none⟩ = some (.int .i64 p))
    (first | (go_keep; done) | (dsimp only; refine ⟨?_, ?_, ?_, ?_, ?_, ?_⟩ <;> (go_keep; done)) | (refine ⟨below_keep (by assumption) ?_, below_keep (by assumption) ?_, below_keep (by assumption) ?_, below_keep (by assumption) ?_, below_keep (by assumption) ?_, below_keep (by assumption) ?_⟩ <;> go_keep))
    (first | (go_at_call 26; refine (at_any L M P l HS.out HL.out _).mono ?_; rintro e w3 ⟨rfl, hb3⟩; have q3 := below_keep hb3 k3; have q4 := below_keep hb3 k4; have q5 := below_keep hb3 k5; have q6 : ∀ o, w3.frozen? ⟨w.heap.size + 1, o, none⟩ = false := fun o => (hb3.frozen (p := ⟨w.heap.size + 1, o, none⟩) hz21).trans (k6 o)))
  go_wp2
  refine bodyPost_ret (v := .tuple #[.agg #[.int .i64 l, .int .i64 m, .int .i64 p], .int .i64 (m - atV L M P l), .int .i64 0]) (by simp [results, Try.results19, go_sem, q3, q4, q5, IntWalk.i64_in (m - atV L M P l) (by omega)]) rfl ⟨rfl, ?_⟩
  have hb4 := below_step HB2.out.drew hb3
  exact ((hb4.setCell (by simp) _).setCell (by simp) _).setCell (by simp) _

theorem sync_bad (L M P l m p : Int) (h : ¬ OkS L M P) (w : World) :
    Calls Try.prog 19 #[.agg #[.int .i64 L, .int .i64 M, .int .i64 P], .int .i64 l, .int .i64 m, .int .i64 p] w fun e w' => e = .returned (.tuple #[.agg #[.int .i64 0, .int .i64 0, .int .i64 0], .int .i64 0, .int .i64 230]) ∧ Below w.heap.size w w' := by
  have c1 : chkV L M P = 230 := if_neg h
  clear h
  go_enter Try.func19, Try.ntmps19
  go_wp2_with fail
  refine (check_any L M P _).mono ?_
  rintro e w1 ⟨rfl, hb1⟩
  have g3 : w1.cell? ⟨w.heap.size + 1, 0, none⟩ = some (.int .i64 0) := below_keep hb1 (by simp [go_sem])
  have g4 : w1.cell? ⟨w.heap.size + 1, 1, none⟩ = some (.int .i64 0) := below_keep hb1 (by simp [go_sem])
  have g5 : w1.cell? ⟨w.heap.size + 1, 2, none⟩ = some (.int .i64 0) := below_keep hb1 (by simp [go_sem])
  have g6 : ∀ o, w1.frozen? ⟨w.heap.size + 1, o, none⟩ = false := fun o => by rw [(bcell hb1).2 _ _ (by simp)]; simp [go_sem]
  have HB := Lib.hid (below_step (below_alloc (below_alloc (Below.refl _ _) _) _) hb1)
  clear hb1
  go_wp2
  refine bodyPost_ret (v := .tuple #[.agg #[.int .i64 0, .int .i64 0, .int .i64 0], .int .i64 0, .int .i64 230]) (by simp [results, Try.results19, go_sem, g3, g4, g5]) rfl ⟨rfl, ?_⟩
  exact ((HB.out.setCell (by simp) _).setCell (by simp) _).setCell (by simp) _

theorem sync_early (L M P l m p : Int) (h : OkS L M P) (hl : l < L) (w : World) :
    Calls Try.prog 19 #[.agg #[.int .i64 L, .int .i64 M, .int .i64 P], .int .i64 l, .int .i64 m, .int .i64 p] w fun e w' => e = .returned (.tuple #[.agg #[.int .i64 0, .int .i64 0, .int .i64 0], .int .i64 0, .int .i64 2]) ∧ Below w.heap.size w w' := by
  have c1 : chkV L M P = 0 := if_pos h
  clear h
  go_enter Try.func19, Try.ntmps19
  go_wp2_with fail
  refine (check_any L M P _).mono ?_
  rintro e w1 ⟨rfl, hb1⟩
  have hz : w.heap.size + 1 < w1.heap.size := by have := hb1.size; simp at this; omega
  have hz0 : w.heap.size < w1.heap.size := by omega
  have g0 : w1.cell? ⟨w.heap.size, 0, none⟩ = some (.int .i64 L) := below_keep hb1 (by simp [go_sem])
  have g3 : w1.cell? ⟨w.heap.size + 1, 0, none⟩ = some (.int .i64 0) := below_keep hb1 (by simp [go_sem])
  have g4 : w1.cell? ⟨w.heap.size + 1, 1, none⟩ = some (.int .i64 0) := below_keep hb1 (by simp [go_sem])
  have g5 : w1.cell? ⟨w.heap.size + 1, 2, none⟩ = some (.int .i64 0) := below_keep hb1 (by simp [go_sem])
  have g6 : ∀ o, w1.frozen? ⟨w.heap.size + 1, o, none⟩ = false := fun o => by rw [(bcell hb1).2 _ _ (by simp)]; simp [go_sem]
  have HB := Lib.hid (below_step (below_alloc (below_alloc (Below.refl _ _) _) _) hb1)
  clear hb1
  go_wp2
  refine bodyPost_ret (v := .tuple #[.agg #[.int .i64 0, .int .i64 0, .int .i64 0], .int .i64 0, .int .i64 2]) (by simp [results, Try.results19, go_sem, g3, g4, g5, hz]) rfl ⟨rfl, ?_⟩
  exact below_alloc (((HB.out.setCell (by simp) _).setCell (by simp) _).setCell (by simp) _) _

theorem sync_arg (L M P l m p : Int) (h : OkS L M P) (hl : L ≤ l) (h2 : ¬ OkS l m p) (w : World) :
    Calls Try.prog 19 #[.agg #[.int .i64 L, .int .i64 M, .int .i64 P], .int .i64 l, .int .i64 m, .int .i64 p] w fun e w' => e = .returned (.tuple #[.agg #[.int .i64 0, .int .i64 0, .int .i64 0], .int .i64 0, .int .i64 2]) ∧ Below w.heap.size w w' := by
  have c1 : chkV L M P = 0 := if_pos h
  have c2 : chkV l m p = 230 := if_neg h2
  clear h h2
  go_enter Try.func19, Try.ntmps19
  go_wp2_with fail
  refine (check_any L M P _).mono ?_
  rintro e w1 ⟨rfl, hb1⟩
  have hz : w.heap.size + 1 < w1.heap.size := by have := hb1.size; simp at this; omega
  have hz0 : w.heap.size < w1.heap.size := by omega
  have g0 : w1.cell? ⟨w.heap.size, 0, none⟩ = some (.int .i64 L) := below_keep hb1 (by simp [go_sem])
  have g3 : w1.cell? ⟨w.heap.size + 1, 0, none⟩ = some (.int .i64 0) := below_keep hb1 (by simp [go_sem])
  have g4 : w1.cell? ⟨w.heap.size + 1, 1, none⟩ = some (.int .i64 0) := below_keep hb1 (by simp [go_sem])
  have g5 : w1.cell? ⟨w.heap.size + 1, 2, none⟩ = some (.int .i64 0) := below_keep hb1 (by simp [go_sem])
  have g6 : ∀ o, w1.frozen? ⟨w.heap.size + 1, o, none⟩ = false := fun o => by rw [(bcell hb1).2 _ _ (by simp)]; simp [go_sem]
  have HB := Lib.hid (below_step (below_alloc (below_alloc (Below.refl _ _) _) _) hb1)
  clear hb1
  go_wp2_with fail
  refine (check_any l m p _).mono ?_
  rintro e w2 ⟨rfl, hb2⟩
  have hz2 : w1.heap.size < w2.heap.size := by have := hb2.size; simp at this; omega
  have hz21 : w.heap.size + 1 < w2.heap.size := by omega
  have k3 : w2.cell? ⟨w.heap.size + 1, 0, none⟩ = some (.int .i64 0) := below_keep hb2 (by rw [World.cell?_alloc_lt _ _ _ hz]; exact g3)
  have k4 : w2.cell? ⟨w.heap.size + 1, 1, none⟩ = some (.int .i64 0) := below_keep hb2 (by rw [World.cell?_alloc_lt _ _ _ hz]; exact g4)
  have k5 : w2.cell? ⟨w.heap.size + 1, 2, none⟩ = some (.int .i64 0) := below_keep hb2 (by rw [World.cell?_alloc_lt _ _ _ hz]; exact g5)
  have k6 : ∀ o, w2.frozen? ⟨w.heap.size + 1, o, none⟩ = false := fun o => by rw [(bcell hb2).2 _ _ (by simp; omega), World.frozen?_alloc_old _ _ _ (by simp; omega)]; exact g6 o
  have HB2 := Lib.hid (below_step (below_alloc HB.out _) hb2)
  clear hb2 HB g0 g3 g4 g5 g6
  go_wp2
  refine bodyPost_ret (v := .tuple #[.agg #[.int .i64 0, .int .i64 0, .int .i64 0], .int .i64 0, .int .i64 2]) (by simp [results, Try.results19, go_sem, k3, k4, k5]) rfl ⟨rfl, ?_⟩
  exact ((HB2.out.setCell (by simp) _).setCell (by simp) _).setCell (by simp) _

/-- servo.Sync -/
theorem sync_any (L M P l m p : Int) (w : World) :
    Calls Try.prog 19 #[.agg #[.int .i64 L, .int .i64 M, .int .i64 P], .int .i64 l, .int .i64 m, .int .i64 p] w fun e w' =>
      e = .returned (.tuple #[.agg #[.int .i64 (syncL L M P l m p), .int .i64 (syncM L M P l m p), .int .i64 (syncP L M P l m p)], .int .i64 (syncN L M P l m p), .int .i64 (syncE L M P l m p)]) ∧ Below w.heap.size w w' := by
  unfold syncL syncM syncP syncN syncE
  by_cases h : OkS L M P
  · by_cases hl : L ≤ l
    · by_cases h2 : OkS l m p
      · have hs : SyncOk L M P l m p := ⟨h, hl, h2⟩
        simp only [if_pos h, if_pos hs]
        exact sync_ok L M P l m p h hl h2 w
      · have hs : ¬ SyncOk L M P l m p := fun ⟨_, _, x⟩ => h2 x
        simp only [if_pos h, if_neg hs]
        exact sync_arg L M P l m p h hl h2 w
    · have hs : ¬ SyncOk L M P l m p := fun ⟨_, x, _⟩ => hl x
      simp only [if_pos h, if_neg hs]
      exact sync_early L M P l m p h (by omega) w
  · have hs : ¬ SyncOk L M P l m p := fun ⟨x, _, _⟩ => h x
    simp only [if_neg h, if_neg hs]
    exact sync_bad L M P l m p h w

theorem bound_ok (e x r : Int) (h : LimOk e x r) (w : World) :
    Calls Try.prog 21 #[.int .i64 e, .int .i64 x, .int .i64 r] w fun y w' => y = .returned (.tuple #[.int .i64 (boundV e x r), .int .i64 0]) ∧ Below w.heap.size w w' := by
  obtain ⟨h1, h2, h3, h4, h5, h6⟩ := h
  obtain ⟨b1, b2⟩ := part_bd (x := -x) (p := r + 82) (by omega) (by omega) (by omega) (by omega)
  go_enter Try.func21, Try.ntmps21
  go_wp2_with fail
  refine (part_any (-x) (r + 82) (by omega) (by omega) (by omega) (by omega) _).mono ?_
  rintro y w1 ⟨rfl, hb1⟩
  go_wp2
  go_ret2
  exact ⟨rfl, hb1⟩

theorem bound_bad (e x r : Int) (h : ¬ LimOk e x r) (w : World) :
    Calls Try.prog 21 #[.int .i64 e, .int .i64 x, .int .i64 r] w fun y w' => y = .returned (.tuple #[.int .i64 0, .int .i64 2]) ∧ w = w' := by
  have hc : (e < 0) ∨ (0 ≤ e ∧ 4398046511104 < e) ∨ (0 ≤ e ∧ e ≤ 4398046511104 ∧ x < 0) ∨ (0 ≤ e ∧ e ≤ 4398046511104 ∧ 0 ≤ x ∧ 4398046511104 < x) ∨
      (0 ≤ e ∧ e ≤ 4398046511104 ∧ 0 ≤ x ∧ x ≤ 4398046511104 ∧ r < 0) ∨ (0 ≤ e ∧ e ≤ 4398046511104 ∧ 0 ≤ x ∧ x ≤ 4398046511104 ∧ 0 ≤ r ∧ 8388608 < r) := by unfold LimOk at h; omega
  clear h
  rcases hc with k1 | ⟨k1, k2⟩ | ⟨k1, k2, k3⟩ | ⟨k1, k2, k3, k4⟩ | ⟨k1, k2, k3, k4, k5⟩ | ⟨k1, k2, k3, k4, k5, k6⟩
  all_goals
    go_enter Try.func21, Try.ntmps21
    go_wp2
    go_ret2
    exact ⟨rfl, rfl⟩

end Go.Proofs.Ytakbopkiemlfdaa
