/-
  The walk of the reference's Sync.
-/
import Derived.Test.YtakbopkiemlfdaaServoRef2
namespace Go.Proofs.Ytakbopkiemlfdaa
open Go.RowKit Go.Lib Plain

set_option maxHeartbeats 1000000 in
theorem syncRef_ok (L M P l m p : Int) (h : OkS L M P) (hl : L ≤ l) (h2 : OkS l m p) (w : World) :
    Calls Try.prog 20 #[.agg #[.int .i64 L, .int .i64 M, .int .i64 P], .int .i64 l, .int .i64 m, .int .i64 p] w fun e w' => e = .returned (.tuple #[.agg #[.int .i64 l, .int .i64 m, .int .i64 p], .int .i64 (m - atV L M P l), .int .i64 0]) ∧ Below w.heap.size w w' := by
  have c1 : okS L M P = true := decide_eq_true h
  have c2 : okS l m p = true := decide_eq_true h2
  have hl' : Stamp l := ⟨h2.1, h2.2.1⟩
  obtain ⟨a1, a2, _, _⟩ := at_bd h hl'
  obtain ⟨b1, b2, b3, b4, b5, b6⟩ := id h2
  have HS := Lib.hid h
  have HL := Lib.hid hl'
  clear h h2 hl'
  go_enter Try.func20, Try.ntmps20
  go_wp2_with fail
  refine (right_any L M P _).mono ?_
  rintro e w1 ⟨rfl, hb1⟩
  have hz : w.heap.size + 1 < w1.heap.size := by have := hb1.size; simp at this; omega
  have hz0 : w.heap.size < w1.heap.size := by omega
  have hz2 : w.heap.size + 2 < w1.heap.size := by have := hb1.size; simp at this; omega
  have g0 : w1.cell? ⟨w.heap.size, 0, none⟩ = some (.int .i64 L) := below_keep hb1 (by simp [go_sem])
  have g1 : w1.cell? ⟨w.heap.size, 1, none⟩ = some (.int .i64 M) := below_keep hb1 (by simp [go_sem])
  have g2 : w1.cell? ⟨w.heap.size, 2, none⟩ = some (.int .i64 P) := below_keep hb1 (by simp [go_sem])
  have g3 : w1.cell? ⟨w.heap.size + 1, 0, none⟩ = some (.int .i64 0) := below_keep hb1 (by simp [go_sem])
  have g4 : w1.cell? ⟨w.heap.size + 1, 1, none⟩ = some (.int .i64 0) := below_keep hb1 (by simp [go_sem])
  have g5 : w1.cell? ⟨w.heap.size + 1, 2, none⟩ = some (.int .i64 0) := below_keep hb1 (by simp [go_sem])
  have g6 : ∀ o, w1.frozen? ⟨w.heap.size + 1, o, none⟩ = false := fun o => by rw [(bcell hb1).2 _ _ (by simp)]; simp [go_sem]
  have g7 : w1.cell? ⟨w.heap.size + 2, 0, none⟩ = some (.int .i64 l) := below_keep hb1 (by simp [go_sem])
  have g8 : w1.cell? ⟨w.heap.size + 2, 1, none⟩ = some (.int .i64 m) := below_keep hb1 (by simp [go_sem])
  have g9 : w1.cell? ⟨w.heap.size + 2, 2, none⟩ = some (.int .i64 p) := below_keep hb1 (by simp [go_sem])
  have HB := Lib.hid (below_step (below_alloc (below_alloc (below_alloc (Below.refl _ _) _) _) _) hb1)
  clear hb1
  go_wp2_with fail
  refine (right_any l m p _).mono ?_
  rintro e w2 ⟨rfl, hb2⟩
  have z20 : w.heap.size < w2.heap.size := Nat.lt_of_lt_of_le hz0 hb2.size
  have z21 : w.heap.size + 1 < w2.heap.size := Nat.lt_of_lt_of_le hz hb2.size
  have z22 : w.heap.size + 2 < w2.heap.size := Nat.lt_of_lt_of_le hz2 hb2.size
  have k0 := below_keep hb2 g0
  have k1 := below_keep hb2 g1
  have k2 := below_keep hb2 g2
  have k3 := below_keep hb2 g3
  have k4 := below_keep hb2 g4
  have k5 := below_keep hb2 g5
  have k6 : ∀ o, w2.frozen? ⟨w.heap.size + 1, o, none⟩ = false := fun o => ((bcell hb2).2 _ _ hz).trans (g6 o)
  have l0 := below_keep hb2 g7
  have l1 := below_keep hb2 g8
  have l2 := below_keep hb2 g9
  have HB2 := Lib.hid (below_step HB.out hb2)
  clear hb2 HB g0 g1 g2 g3 g4 g5 g6 g7 g8 g9 hz hz0 hz2
  go_wp2
  go_region_held3 (fun w' => w'.cell? ⟨w.heap.size, 0, none⟩ = some (.int .i64 L) ∧ w'.cell? ⟨w.heap.size, 1, none⟩ = some (.int .i64 M) ∧ w'.cell? ⟨w.heap.size, 2, none⟩ = some (.int .i64 P) ∧
      w'.cell? ⟨w.heap.size + 2, 0, none⟩ = some (.int .i64 l) ∧ w'.cell? ⟨w.heap.size + 2, 1, none⟩ = some (.int .i64 m) ∧ w'.cell? ⟨w.heap.size + 2, 2, none⟩ = some (.int .i64 p))
    (first | (go_keep; done) | (refine ⟨below_keep (by assumption) ?_, below_keep (by assumption) ?_, below_keep (by assumption) ?_, below_keep (by assumption) ?_, below_keep (by assumption) ?_, below_keep (by assumption) ?_⟩ <;> go_keep))
    (first | (go_at_call 28; refine (atRef_any L M P l HS.out HL.out _).mono ?_; rintro e w3 ⟨rfl, hb3⟩; have q3 := below_keep hb3 k3; have q4 := below_keep hb3 k4; have q5 := below_keep hb3 k5; have q6 : ∀ o, w3.frozen? ⟨w.heap.size + 1, o, none⟩ = false := fun o => (hb3.frozen (p := ⟨w.heap.size + 1, o, none⟩) z21).trans (k6 o)))
  go_wp2
  refine bodyPost_ret (v := .tuple #[.agg #[.int .i64 l, .int .i64 m, .int .i64 p], .int .i64 (m - atV L M P l), .int .i64 0]) (by simp [results, Try.results20, go_sem, q3, q4, q5, IntWalk.i64_in (m - atV L M P l) (by omega)]) rfl ⟨rfl, ?_⟩
  have hb4 := below_step HB2.out.drew hb3
  exact ((hb4.setCell (by simp) _).setCell (by simp) _).setCell (by simp) _

theorem syncRef_bad (L M P l m p : Int) (h : ¬ OkS L M P) (w : World) :
    Calls Try.prog 20 #[.agg #[.int .i64 L, .int .i64 M, .int .i64 P], .int .i64 l, .int .i64 m, .int .i64 p] w fun e w' => e = .returned (.tuple #[.agg #[.int .i64 0, .int .i64 0, .int .i64 0], .int .i64 0, .int .i64 230]) ∧ Below w.heap.size w w' := by
  have c1 : okS L M P = false := decide_eq_false h
  clear h
  go_enter Try.func20, Try.ntmps20
  go_wp2_with fail
  refine (right_any L M P _).mono ?_
  rintro e w1 ⟨rfl, hb1⟩
  have hz : w.heap.size + 1 < w1.heap.size := by have := hb1.size; simp at this; omega
  have hz0 : w.heap.size < w1.heap.size := by omega
  have hz2 : w.heap.size + 2 < w1.heap.size := by have := hb1.size; simp at this; omega
  have g0 : w1.cell? ⟨w.heap.size, 0, none⟩ = some (.int .i64 L) := below_keep hb1 (by simp [go_sem])
  have g1 : w1.cell? ⟨w.heap.size, 1, none⟩ = some (.int .i64 M) := below_keep hb1 (by simp [go_sem])
  have g2 : w1.cell? ⟨w.heap.size, 2, none⟩ = some (.int .i64 P) := below_keep hb1 (by simp [go_sem])
  have g3 : w1.cell? ⟨w.heap.size + 1, 0, none⟩ = some (.int .i64 0) := below_keep hb1 (by simp [go_sem])
  have g4 : w1.cell? ⟨w.heap.size + 1, 1, none⟩ = some (.int .i64 0) := below_keep hb1 (by simp [go_sem])
  have g5 : w1.cell? ⟨w.heap.size + 1, 2, none⟩ = some (.int .i64 0) := below_keep hb1 (by simp [go_sem])
  have g6 : ∀ o, w1.frozen? ⟨w.heap.size + 1, o, none⟩ = false := fun o => by rw [(bcell hb1).2 _ _ (by simp)]; simp [go_sem]
  have g7 : w1.cell? ⟨w.heap.size + 2, 0, none⟩ = some (.int .i64 l) := below_keep hb1 (by simp [go_sem])
  have g8 : w1.cell? ⟨w.heap.size + 2, 1, none⟩ = some (.int .i64 m) := below_keep hb1 (by simp [go_sem])
  have g9 : w1.cell? ⟨w.heap.size + 2, 2, none⟩ = some (.int .i64 p) := below_keep hb1 (by simp [go_sem])
  have HB := Lib.hid (below_step (below_alloc (below_alloc (below_alloc (Below.refl _ _) _) _) _) hb1)
  clear hb1
  go_wp2
  refine bodyPost_ret (v := .tuple #[.agg #[.int .i64 0, .int .i64 0, .int .i64 0], .int .i64 0, .int .i64 230]) (by simp [results, Try.results20, go_sem, g3, g4, g5]) rfl ⟨rfl, ?_⟩
  exact ((HB.out.setCell (by simp) _).setCell (by simp) _).setCell (by simp) _

theorem syncRef_early (L M P l m p : Int) (h : OkS L M P) (hl : l < L) (w : World) :
    Calls Try.prog 20 #[.agg #[.int .i64 L, .int .i64 M, .int .i64 P], .int .i64 l, .int .i64 m, .int .i64 p] w fun e w' => e = .returned (.tuple #[.agg #[.int .i64 0, .int .i64 0, .int .i64 0], .int .i64 0, .int .i64 2]) ∧ Below w.heap.size w w' := by
  have c1 : okS L M P = true := decide_eq_true h
  clear h
  go_enter Try.func20, Try.ntmps20
  go_wp2_with fail
  refine (right_any L M P _).mono ?_
  rintro e w1 ⟨rfl, hb1⟩
  have hz : w.heap.size + 1 < w1.heap.size := by have := hb1.size; simp at this; omega
  have hz0 : w.heap.size < w1.heap.size := by omega
  have hz2 : w.heap.size + 2 < w1.heap.size := by have := hb1.size; simp at this; omega
  have g0 : w1.cell? ⟨w.heap.size, 0, none⟩ = some (.int .i64 L) := below_keep hb1 (by simp [go_sem])
  have g1 : w1.cell? ⟨w.heap.size, 1, none⟩ = some (.int .i64 M) := below_keep hb1 (by simp [go_sem])
  have g2 : w1.cell? ⟨w.heap.size, 2, none⟩ = some (.int .i64 P) := below_keep hb1 (by simp [go_sem])
  have g3 : w1.cell? ⟨w.heap.size + 1, 0, none⟩ = some (.int .i64 0) := below_keep hb1 (by simp [go_sem])
  have g4 : w1.cell? ⟨w.heap.size + 1, 1, none⟩ = some (.int .i64 0) := below_keep hb1 (by simp [go_sem])
  have g5 : w1.cell? ⟨w.heap.size + 1, 2, none⟩ = some (.int .i64 0) := below_keep hb1 (by simp [go_sem])
  have g6 : ∀ o, w1.frozen? ⟨w.heap.size + 1, o, none⟩ = false := fun o => by rw [(bcell hb1).2 _ _ (by simp)]; simp [go_sem]
  have g7 : w1.cell? ⟨w.heap.size + 2, 0, none⟩ = some (.int .i64 l) := below_keep hb1 (by simp [go_sem])
  have g8 : w1.cell? ⟨w.heap.size + 2, 1, none⟩ = some (.int .i64 m) := below_keep hb1 (by simp [go_sem])
  have g9 : w1.cell? ⟨w.heap.size + 2, 2, none⟩ = some (.int .i64 p) := below_keep hb1 (by simp [go_sem])
  have HB := Lib.hid (below_step (below_alloc (below_alloc (below_alloc (Below.refl _ _) _) _) _) hb1)
  clear hb1
  go_wp2
  refine bodyPost_ret (v := .tuple #[.agg #[.int .i64 0, .int .i64 0, .int .i64 0], .int .i64 0, .int .i64 2]) (by simp [results, Try.results20, go_sem, g3, g4, g5]) rfl ⟨rfl, ?_⟩
  exact ((HB.out.setCell (by simp) _).setCell (by simp) _).setCell (by simp) _

theorem syncRef_arg (L M P l m p : Int) (h : OkS L M P) (hl : L ≤ l) (h2 : ¬ OkS l m p) (w : World) :
    Calls Try.prog 20 #[.agg #[.int .i64 L, .int .i64 M, .int .i64 P], .int .i64 l, .int .i64 m, .int .i64 p] w fun e w' => e = .returned (.tuple #[.agg #[.int .i64 0, .int .i64 0, .int .i64 0], .int .i64 0, .int .i64 2]) ∧ Below w.heap.size w w' := by
  have c1 : okS L M P = true := decide_eq_true h
  have c2 : okS l m p = false := decide_eq_false h2
  clear h h2
  go_enter Try.func20, Try.ntmps20
  go_wp2_with fail
  refine (right_any L M P _).mono ?_
  rintro e w1 ⟨rfl, hb1⟩
  have hz : w.heap.size + 1 < w1.heap.size := by have := hb1.size; simp at this; omega
  have hz0 : w.heap.size < w1.heap.size := by omega
  have hz2 : w.heap.size + 2 < w1.heap.size := by have := hb1.size; simp at this; omega
  have g0 : w1.cell? ⟨w.heap.size, 0, none⟩ = some (.int .i64 L) := below_keep hb1 (by simp [go_sem])
  have g1 : w1.cell? ⟨w.heap.size, 1, none⟩ = some (.int .i64 M) := below_keep hb1 (by simp [go_sem])
  have g2 : w1.cell? ⟨w.heap.size, 2, none⟩ = some (.int .i64 P) := below_keep hb1 (by simp [go_sem])
  have g3 : w1.cell? ⟨w.heap.size + 1, 0, none⟩ = some (.int .i64 0) := below_keep hb1 (by simp [go_sem])
  have g4 : w1.cell? ⟨w.heap.size + 1, 1, none⟩ = some (.int .i64 0) := below_keep hb1 (by simp [go_sem])
  have g5 : w1.cell? ⟨w.heap.size + 1, 2, none⟩ = some (.int .i64 0) := below_keep hb1 (by simp [go_sem])
  have g6 : ∀ o, w1.frozen? ⟨w.heap.size + 1, o, none⟩ = false := fun o => by rw [(bcell hb1).2 _ _ (by simp)]; simp [go_sem]
  have g7 : w1.cell? ⟨w.heap.size + 2, 0, none⟩ = some (.int .i64 l) := below_keep hb1 (by simp [go_sem])
  have g8 : w1.cell? ⟨w.heap.size + 2, 1, none⟩ = some (.int .i64 m) := below_keep hb1 (by simp [go_sem])
  have g9 : w1.cell? ⟨w.heap.size + 2, 2, none⟩ = some (.int .i64 p) := below_keep hb1 (by simp [go_sem])
  have HB := Lib.hid (below_step (below_alloc (below_alloc (below_alloc (Below.refl _ _) _) _) _) hb1)
  clear hb1
  go_wp2_with fail
  refine (right_any l m p _).mono ?_
  rintro e w2 ⟨rfl, hb2⟩
  have z20 : w.heap.size < w2.heap.size := Nat.lt_of_lt_of_le hz0 hb2.size
  have z21 : w.heap.size + 1 < w2.heap.size := Nat.lt_of_lt_of_le hz hb2.size
  have z22 : w.heap.size + 2 < w2.heap.size := Nat.lt_of_lt_of_le hz2 hb2.size
  have k0 := below_keep hb2 g0
  have k1 := below_keep hb2 g1
  have k2 := below_keep hb2 g2
  have k3 := below_keep hb2 g3
  have k4 := below_keep hb2 g4
  have k5 := below_keep hb2 g5
  have k6 : ∀ o, w2.frozen? ⟨w.heap.size + 1, o, none⟩ = false := fun o => ((bcell hb2).2 _ _ hz).trans (g6 o)
  have l0 := below_keep hb2 g7
  have l1 := below_keep hb2 g8
  have l2 := below_keep hb2 g9
  have HB2 := Lib.hid (below_step HB.out hb2)
  clear hb2 HB g0 g1 g2 g3 g4 g5 g6 g7 g8 g9 hz hz0 hz2
  go_wp2
  refine bodyPost_ret (v := .tuple #[.agg #[.int .i64 0, .int .i64 0, .int .i64 0], .int .i64 0, .int .i64 2]) (by simp [results, Try.results20, go_sem, k3, k4, k5]) rfl ⟨rfl, ?_⟩
  exact ((HB2.out.setCell (by simp) _).setCell (by simp) _).setCell (by simp) _

/-- isochronref13.Sync -/
theorem syncRef_any (L M P l m p : Int) (w : World) :
    Calls Try.prog 20 #[.agg #[.int .i64 L, .int .i64 M, .int .i64 P], .int .i64 l, .int .i64 m, .int .i64 p] w fun e w' =>
      e = .returned (.tuple #[.agg #[.int .i64 (syncL L M P l m p), .int .i64 (syncM L M P l m p), .int .i64 (syncP L M P l m p)], .int .i64 (syncN L M P l m p), .int .i64 (syncE L M P l m p)]) ∧ Below w.heap.size w w' := by
  unfold syncL syncM syncP syncN syncE
  by_cases h : OkS L M P
  · by_cases hl : L ≤ l
    · by_cases h2 : OkS l m p
      · have hs : SyncOk L M P l m p := ⟨h, hl, h2⟩
        simp only [if_pos h, if_pos hs]
        exact syncRef_ok L M P l m p h hl h2 w
      · have hs : ¬ SyncOk L M P l m p := fun ⟨_, _, x⟩ => h2 x
        simp only [if_pos h, if_neg hs]
        exact syncRef_arg L M P l m p h hl h2 w
    · have hs : ¬ SyncOk L M P l m p := fun ⟨_, x, _⟩ => hl x
      simp only [if_pos h, if_neg hs]
      exact syncRef_early L M P l m p h (by omega) w
  · have hs : ¬ SyncOk L M P l m p := fun ⟨x, _, _⟩ => h x
    simp only [if_neg h, if_neg hs]
    exact syncRef_bad L M P l m p h w

end Go.Proofs.Ytakbopkiemlfdaa
