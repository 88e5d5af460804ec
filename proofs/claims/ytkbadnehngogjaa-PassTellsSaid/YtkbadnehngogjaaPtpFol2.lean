/-
  ptp.Check of a follow-up whose other fields are zero.
-/
import Derived.Test.YtkbadnehngogjaaPtpFol
import Derived.Test.YtkbadnehngogjaaWhole
namespace Go.Proofs.Ytkbadnehngogjaa
open Go.RowKit Go.Lib Plain

def folM (D C i p S T P : Int) : List Value := [.int .i64 8, .int .i64 D, .int .i64 C, .int .i64 i, .int .i64 p, .int .i64 S, .int .i64 T, .int .i64 P, .int .i64 0, .int .i64 0, .int .i64 0, .int .i64 0, .int .i64 0, .int .i64 0, .int .i64 0, .int .i64 0, .int .i64 0]
def folO (D C i p S : Int) : List Value := [.int .i64 8, .int .i64 D, .int .i64 C, .int .i64 i, .int .i64 p, .int .i64 S, .int .i64 0, .int .i64 0, .int .i64 0, .int .i64 0, .int .i64 0, .int .i64 0, .int .i64 0, .int .i64 0, .int .i64 0, .int .i64 0, .int .i64 0]

set_option maxHeartbeats 4000000 in
set_option maxRecDepth 100000 in
theorem ptpFol_0 (D C i p S T P : Int) (w : World) (q0 : inV D 0 127 = false) :
    Calls Try.prog 49 #[.agg #[.int .i64 8, .int .i64 D, .int .i64 C, .int .i64 i, .int .i64 p, .int .i64 S, .int .i64 T, .int .i64 P, .int .i64 0, .int .i64 0, .int .i64 0, .int .i64 0, .int .i64 0, .int .i64 0, .int .i64 0, .int .i64 0, .int .i64 0]] w fun e w' => e = .returned (.int .i64 200) ∧ Below w.heap.size w w' := by
  have ha := Lib.hid agg_msg
  have hs := Lib.hid size_msg
  go_enter Try.func49, Try.ntmps49
  go_wp2_with fail
  refine (pinside_any _ _ _ _).mono ?_
  rintro e w' ⟨rfl, rfl⟩
  go_wp2
  refine wp_world ?_
  intro W hW
  have c1 : W.cell? ⟨w.heap.size, 0, none⟩ = some (.int .i64 8) := by subst hW; simp [go_sem]
  have c2 : W.cell? ⟨w.heap.size, 6, none⟩ = some (.int .i64 T) := by subst hW; simp [go_sem]
  have c3 : W.cell? ⟨w.heap.size, 7, none⟩ = some (.int .i64 P) := by subst hW; simp [go_sem]
  have c4 : W.cell? ⟨w.heap.size + 1, 6, none⟩ = some (.int .i64 0) := by subst hW; simp [go_sem]
  have c5 : W.cell? ⟨w.heap.size + 1, 7, none⟩ = some (.int .i64 0) := by subst hW; simp [go_sem]
  have c6 : ∀ o, W.frozen? ⟨w.heap.size + 1, o, none⟩ = false := fun o => by subst hW; simp [go_sem]
  have HW_W := Lib.hid (show Below w.heap.size w W by subst hW; exact below_alloc (below_alloc (Below.refl _ _) _) _)
  clear hW 
  have hz : w.heap.size + 1 < W.heap.size := World.block_lt_of_cell? _ _ c4
  have hz0 : w.heap.size < W.heap.size := by omega
  go_region_held3 (fun w' => w'.cell? ⟨w.heap.size, 6, none⟩ = some (.int .i64 T) ∧ w'.cell? ⟨w.heap.size, 7, none⟩ = some (.int .i64 P)) (first | (go_keep; done) | (refine ⟨?_, ?_⟩ <;> (go_keep; done)) | fail) (fail)
  all_goals go_wp2_with (first | (go_at_call 58; refine (ptStamp_any _ _).mono ?_; rintro e w' ⟨rfl, rfl⟩) | (go_at_call 57; refine (pinside_any _ _ _ _).mono ?_; rintro e w' ⟨rfl, rfl⟩))
  all_goals go_ret
  all_goals exact ⟨rfl, by first | exact ((HW_W.out).setCell (by simp) _).setCell (by simp) _ | exact (Below.drew (((HW_W.out).setCell (by simp) _).setCell (by simp) _)) | exact ((Below.drew (HW_W.out)).setCell (by simp) _).setCell (by simp) _⟩

set_option maxHeartbeats 4000000 in
set_option maxRecDepth 100000 in
theorem ptpFol_1 (D C i p S T P : Int) (w : World) (q0 : inV D 0 127 = true) (q1 : inV C (-4398046511104) 4398046511104 = false) :
    Calls Try.prog 49 #[.agg #[.int .i64 8, .int .i64 D, .int .i64 C, .int .i64 i, .int .i64 p, .int .i64 S, .int .i64 T, .int .i64 P, .int .i64 0, .int .i64 0, .int .i64 0, .int .i64 0, .int .i64 0, .int .i64 0, .int .i64 0, .int .i64 0, .int .i64 0]] w fun e w' => e = .returned (.int .i64 200) ∧ Below w.heap.size w w' := by
  have ha := Lib.hid agg_msg
  have hs := Lib.hid size_msg
  go_enter Try.func49, Try.ntmps49
  go_wp2_with fail
  refine (pinside_any _ _ _ _).mono ?_
  rintro e w' ⟨rfl, rfl⟩
  go_wp2_with fail
  refine (ptStamp_any _ _).mono ?_
  rintro e w' ⟨rfl, rfl⟩
  go_wp2
  refine wp_world ?_
  intro W hW
  have c1 : W.cell? ⟨w.heap.size, 0, none⟩ = some (.int .i64 8) := by subst hW; simp [go_sem]
  have c2 : W.cell? ⟨w.heap.size, 6, none⟩ = some (.int .i64 T) := by subst hW; simp [go_sem]
  have c3 : W.cell? ⟨w.heap.size, 7, none⟩ = some (.int .i64 P) := by subst hW; simp [go_sem]
  have c4 : W.cell? ⟨w.heap.size + 1, 6, none⟩ = some (.int .i64 0) := by subst hW; simp [go_sem]
  have c5 : W.cell? ⟨w.heap.size + 1, 7, none⟩ = some (.int .i64 0) := by subst hW; simp [go_sem]
  have c6 : ∀ o, W.frozen? ⟨w.heap.size + 1, o, none⟩ = false := fun o => by subst hW; simp [go_sem]
  have HW_W := Lib.hid (show Below w.heap.size w W by subst hW; exact below_alloc (below_alloc (Below.refl _ _) _) _)
  clear hW 
  have hz : w.heap.size + 1 < W.heap.size := World.block_lt_of_cell? _ _ c4
  have hz0 : w.heap.size < W.heap.size := by omega
  go_region_held3 (fun w' => w'.cell? ⟨w.heap.size, 6, none⟩ = some (.int .i64 T) ∧ w'.cell? ⟨w.heap.size, 7, none⟩ = some (.int .i64 P)) (first | (go_keep; done) | (refine ⟨?_, ?_⟩ <;> (go_keep; done)) | fail) (fail)
  all_goals go_wp2_with (first | (go_at_call 58; refine (ptStamp_any _ _).mono ?_; rintro e w' ⟨rfl, rfl⟩) | (go_at_call 57; refine (pinside_any _ _ _ _).mono ?_; rintro e w' ⟨rfl, rfl⟩))
  all_goals go_ret
  all_goals exact ⟨rfl, by first | exact ((HW_W.out).setCell (by simp) _).setCell (by simp) _ | exact (Below.drew (((HW_W.out).setCell (by simp) _).setCell (by simp) _)) | exact ((Below.drew (HW_W.out)).setCell (by simp) _).setCell (by simp) _⟩

set_option maxHeartbeats 4000000 in
set_option maxRecDepth 100000 in
theorem ptpFol_2 (D C i p S T P : Int) (w : World) (q0 : inV D 0 127 = true) (q1 : inV C (-4398046511104) 4398046511104 = true) (q2 : portB i p = false) :
    Calls Try.prog 49 #[.agg #[.int .i64 8, .int .i64 D, .int .i64 C, .int .i64 i, .int .i64 p, .int .i64 S, .int .i64 T, .int .i64 P, .int .i64 0, .int .i64 0, .int .i64 0, .int .i64 0, .int .i64 0, .int .i64 0, .int .i64 0, .int .i64 0, .int .i64 0]] w fun e w' => e = .returned (.int .i64 200) ∧ Below w.heap.size w w' := by
  have ha := Lib.hid agg_msg
  have hs := Lib.hid size_msg
  go_enter Try.func49, Try.ntmps49
  go_wp2_with fail
  refine (pinside_any _ _ _ _).mono ?_
  rintro e w' ⟨rfl, rfl⟩
  go_wp2_with fail
  refine (ptStamp_any _ _).mono ?_
  rintro e w' ⟨rfl, rfl⟩
  go_wp2_with fail
  refine (checkPort_any _ _ _).mono ?_
  rintro e w1 ⟨rfl, hb1⟩
  have c1 : w1.cell? ⟨w.heap.size, 0, none⟩ = some (.int .i64 8) := below_keep hb1 (by simp [go_sem])
  have c2 : w1.cell? ⟨w.heap.size, 6, none⟩ = some (.int .i64 T) := below_keep hb1 (by simp [go_sem])
  have c3 : w1.cell? ⟨w.heap.size, 7, none⟩ = some (.int .i64 P) := below_keep hb1 (by simp [go_sem])
  have c4 : w1.cell? ⟨w.heap.size + 1, 6, none⟩ = some (.int .i64 0) := below_keep hb1 (by simp [go_sem])
  have c5 : w1.cell? ⟨w.heap.size + 1, 7, none⟩ = some (.int .i64 0) := below_keep hb1 (by simp [go_sem])
  have c6 : ∀ o, w1.frozen? ⟨w.heap.size + 1, o, none⟩ = false := fun o => by rw [(bcell hb1).2 _ _ (by first | (simp; done) | (simp; omega))]; simp [go_sem]
  have H1 := Lib.hid (below_step (below_alloc (below_alloc (Below.refl _ _) _) _) hb1)
  clear hb1
  go_wp2
  have hz : w.heap.size + 1 < w1.heap.size := World.block_lt_of_cell? _ _ c4
  have hz0 : w.heap.size < w1.heap.size := by omega
  go_region_held3 (fun w' => w'.cell? ⟨w.heap.size, 6, none⟩ = some (.int .i64 T) ∧ w'.cell? ⟨w.heap.size, 7, none⟩ = some (.int .i64 P)) (first | (go_keep; done) | (refine ⟨?_, ?_⟩ <;> (go_keep; done)) | fail) (fail)
  all_goals go_wp2_with (first | (go_at_call 58; refine (ptStamp_any _ _).mono ?_; rintro e w' ⟨rfl, rfl⟩) | (go_at_call 57; refine (pinside_any _ _ _ _).mono ?_; rintro e w' ⟨rfl, rfl⟩))
  all_goals go_ret
  all_goals exact ⟨rfl, by first | exact ((H1.out).setCell (by simp) _).setCell (by simp) _ | exact (Below.drew (((H1.out).setCell (by simp) _).setCell (by simp) _)) | exact ((Below.drew (H1.out)).setCell (by simp) _).setCell (by simp) _⟩

set_option maxHeartbeats 4000000 in
set_option maxRecDepth 100000 in
theorem ptpFol_3 (D C i p S T P : Int) (w : World) (q0 : inV D 0 127 = true) (q1 : inV C (-4398046511104) 4398046511104 = true) (q2 : portB i p = true) (q3 : inV S 0 65535 = false) :
    Calls Try.prog 49 #[.agg #[.int .i64 8, .int .i64 D, .int .i64 C, .int .i64 i, .int .i64 p, .int .i64 S, .int .i64 T, .int .i64 P, .int .i64 0, .int .i64 0, .int .i64 0, .int .i64 0, .int .i64 0, .int .i64 0, .int .i64 0, .int .i64 0, .int .i64 0]] w fun e w' => e = .returned (.int .i64 200) ∧ Below w.heap.size w w' := by
  have ha := Lib.hid agg_msg
  have hs := Lib.hid size_msg
  go_enter Try.func49, Try.ntmps49
  go_wp2_with fail
  refine (pinside_any _ _ _ _).mono ?_
  rintro e w' ⟨rfl, rfl⟩
  go_wp2_with fail
  refine (ptStamp_any _ _).mono ?_
  rintro e w' ⟨rfl, rfl⟩
  go_wp2_with fail
  refine (checkPort_any _ _ _).mono ?_
  rintro e w1 ⟨rfl, hb1⟩
  have c1 : w1.cell? ⟨w.heap.size, 0, none⟩ = some (.int .i64 8) := below_keep hb1 (by simp [go_sem])
  have c2 : w1.cell? ⟨w.heap.size, 6, none⟩ = some (.int .i64 T) := below_keep hb1 (by simp [go_sem])
  have c3 : w1.cell? ⟨w.heap.size, 7, none⟩ = some (.int .i64 P) := below_keep hb1 (by simp [go_sem])
  have c4 : w1.cell? ⟨w.heap.size + 1, 6, none⟩ = some (.int .i64 0) := below_keep hb1 (by simp [go_sem])
  have c5 : w1.cell? ⟨w.heap.size + 1, 7, none⟩ = some (.int .i64 0) := below_keep hb1 (by simp [go_sem])
  have c6 : w1.cell? ⟨w.heap.size, 5, none⟩ = some (.int .i64 S) := below_keep hb1 (by simp [go_sem])
  have c7 : ∀ o, w1.frozen? ⟨w.heap.size + 1, o, none⟩ = false := fun o => by rw [(bcell hb1).2 _ _ (by first | (simp; done) | (simp; omega))]; simp [go_sem]
  have H1 := Lib.hid (below_step (below_alloc (below_alloc (Below.refl _ _) _) _) hb1)
  clear hb1
  go_wp2_with fail
  refine (pinside_any _ _ _ _).mono ?_
  rintro e w' ⟨rfl, rfl⟩
  go_wp2
  have hz : w.heap.size + 1 < w1.heap.size := World.block_lt_of_cell? _ _ c4
  have hz0 : w.heap.size < w1.heap.size := by omega
  go_region_held3 (fun w' => w'.cell? ⟨w.heap.size, 6, none⟩ = some (.int .i64 T) ∧ w'.cell? ⟨w.heap.size, 7, none⟩ = some (.int .i64 P)) (first | (go_keep; done) | (refine ⟨?_, ?_⟩ <;> (go_keep; done)) | fail) (fail)
  all_goals go_wp2_with (first | (go_at_call 58; refine (ptStamp_any _ _).mono ?_; rintro e w' ⟨rfl, rfl⟩) | (go_at_call 57; refine (pinside_any _ _ _ _).mono ?_; rintro e w' ⟨rfl, rfl⟩))
  all_goals go_ret
  all_goals exact ⟨rfl, by first | exact ((H1.out).setCell (by simp) _).setCell (by simp) _ | exact (Below.drew (((H1.out).setCell (by simp) _).setCell (by simp) _)) | exact ((Below.drew (H1.out)).setCell (by simp) _).setCell (by simp) _⟩

set_option maxHeartbeats 4000000 in
set_option maxRecDepth 100000 in
theorem ptpFol_4 (D C i p S T P : Int) (w : World) (q0 : inV D 0 127 = true) (q1 : inV C (-4398046511104) 4398046511104 = true) (q2 : portB i p = true) (q3 : inV S 0 65535 = true) (q4 : inV T (-4398046511104) 4398046511104 = false) :
    Calls Try.prog 49 #[.agg #[.int .i64 8, .int .i64 D, .int .i64 C, .int .i64 i, .int .i64 p, .int .i64 S, .int .i64 T, .int .i64 P, .int .i64 0, .int .i64 0, .int .i64 0, .int .i64 0, .int .i64 0, .int .i64 0, .int .i64 0, .int .i64 0, .int .i64 0]] w fun e w' => e = .returned (.int .i64 200) ∧ Below w.heap.size w w' := by
  have ha := Lib.hid agg_msg
  have hs := Lib.hid size_msg
  go_enter Try.func49, Try.ntmps49
  go_wp2_with fail
  refine (pinside_any _ _ _ _).mono ?_
  rintro e w' ⟨rfl, rfl⟩
  go_wp2_with fail
  refine (ptStamp_any _ _).mono ?_
  rintro e w' ⟨rfl, rfl⟩
  go_wp2_with fail
  refine (checkPort_any _ _ _).mono ?_
  rintro e w1 ⟨rfl, hb1⟩
  have c1 : w1.cell? ⟨w.heap.size, 0, none⟩ = some (.int .i64 8) := below_keep hb1 (by simp [go_sem])
  have c2 : w1.cell? ⟨w.heap.size, 6, none⟩ = some (.int .i64 T) := below_keep hb1 (by simp [go_sem])
  have c3 : w1.cell? ⟨w.heap.size, 7, none⟩ = some (.int .i64 P) := below_keep hb1 (by simp [go_sem])
  have c4 : w1.cell? ⟨w.heap.size + 1, 6, none⟩ = some (.int .i64 0) := below_keep hb1 (by simp [go_sem])
  have c5 : w1.cell? ⟨w.heap.size + 1, 7, none⟩ = some (.int .i64 0) := below_keep hb1 (by simp [go_sem])
  have c6 : w1.cell? ⟨w.heap.size, 5, none⟩ = some (.int .i64 S) := below_keep hb1 (by simp [go_sem])
  have c7 : ∀ o, w1.frozen? ⟨w.heap.size + 1, o, none⟩ = false := fun o => by rw [(bcell hb1).2 _ _ (by first | (simp; done) | (simp; omega))]; simp [go_sem]
  have H1 := Lib.hid (below_step (below_alloc (below_alloc (Below.refl _ _) _) _) hb1)
  clear hb1
  go_wp2_with fail
  refine (pinside_any _ _ _ _).mono ?_
  rintro e w' ⟨rfl, rfl⟩
  go_wp2
  have hz : w.heap.size + 1 < w1.heap.size := World.block_lt_of_cell? _ _ c4
  have hz0 : w.heap.size < w1.heap.size := by omega
  go_region_held3 (fun w' => w'.cell? ⟨w.heap.size, 6, none⟩ = some (.int .i64 T) ∧ w'.cell? ⟨w.heap.size, 7, none⟩ = some (.int .i64 P)) (first | (go_keep; done) | (refine ⟨?_, ?_⟩ <;> (go_keep; done)) | fail) (fail)
  all_goals go_wp2_with (first | (go_at_call 58; refine (ptStamp_any _ _).mono ?_; rintro e w' ⟨rfl, rfl⟩) | (go_at_call 57; refine (pinside_any _ _ _ _).mono ?_; rintro e w' ⟨rfl, rfl⟩))
  all_goals go_ret
  all_goals exact ⟨rfl, by first | exact ((H1.out).setCell (by simp) _).setCell (by simp) _ | exact (Below.drew (((H1.out).setCell (by simp) _).setCell (by simp) _)) | exact ((Below.drew (H1.out)).setCell (by simp) _).setCell (by simp) _⟩

set_option maxHeartbeats 4000000 in
set_option maxRecDepth 100000 in
theorem ptpFol_5 (D C i p S T P : Int) (w : World) (q0 : inV D 0 127 = true) (q1 : inV C (-4398046511104) 4398046511104 = true) (q2 : portB i p = true) (q3 : inV S 0 65535 = true) (q4 : inV T (-4398046511104) 4398046511104 = true) (q5 : inV P (-8388608) 8388608 = false) :
    Calls Try.prog 49 #[.agg #[.int .i64 8, .int .i64 D, .int .i64 C, .int .i64 i, .int .i64 p, .int .i64 S, .int .i64 T, .int .i64 P, .int .i64 0, .int .i64 0, .int .i64 0, .int .i64 0, .int .i64 0, .int .i64 0, .int .i64 0, .int .i64 0, .int .i64 0]] w fun e w' => e = .returned (.int .i64 200) ∧ Below w.heap.size w w' := by
  have ha := Lib.hid agg_msg
  have hs := Lib.hid size_msg
  go_enter Try.func49, Try.ntmps49
  go_wp2_with fail
  refine (pinside_any _ _ _ _).mono ?_
  rintro e w' ⟨rfl, rfl⟩
  go_wp2_with fail
  refine (ptStamp_any _ _).mono ?_
  rintro e w' ⟨rfl, rfl⟩
  go_wp2_with fail
  refine (checkPort_any _ _ _).mono ?_
  rintro e w1 ⟨rfl, hb1⟩
  have c1 : w1.cell? ⟨w.heap.size, 0, none⟩ = some (.int .i64 8) := below_keep hb1 (by simp [go_sem])
  have c2 : w1.cell? ⟨w.heap.size, 6, none⟩ = some (.int .i64 T) := below_keep hb1 (by simp [go_sem])
  have c3 : w1.cell? ⟨w.heap.size, 7, none⟩ = some (.int .i64 P) := below_keep hb1 (by simp [go_sem])
  have c4 : w1.cell? ⟨w.heap.size + 1, 6, none⟩ = some (.int .i64 0) := below_keep hb1 (by simp [go_sem])
  have c5 : w1.cell? ⟨w.heap.size + 1, 7, none⟩ = some (.int .i64 0) := below_keep hb1 (by simp [go_sem])
  have c6 : w1.cell? ⟨w.heap.size, 5, none⟩ = some (.int .i64 S) := below_keep hb1 (by simp [go_sem])
  have c7 : ∀ o, w1.frozen? ⟨w.heap.size + 1, o, none⟩ = false := fun o => by rw [(bcell hb1).2 _ _ (by first | (simp; done) | (simp; omega))]; simp [go_sem]
  have H1 := Lib.hid (below_step (below_alloc (below_alloc (Below.refl _ _) _) _) hb1)
  clear hb1
  go_wp2_with fail
  refine (pinside_any _ _ _ _).mono ?_
  rintro e w' ⟨rfl, rfl⟩
  go_wp2
  have hz : w.heap.size + 1 < w1.heap.size := World.block_lt_of_cell? _ _ c4
  have hz0 : w.heap.size < w1.heap.size := by omega
  go_region_held3 (fun w' => w'.cell? ⟨w.heap.size, 6, none⟩ = some (.int .i64 T) ∧ w'.cell? ⟨w.heap.size, 7, none⟩ = some (.int .i64 P)) (first | (go_keep; done) | (refine ⟨?_, ?_⟩ <;> (go_keep; done)) | fail) (fail)
  all_goals go_wp2_with (first | (go_at_call 58; refine (ptStamp_any _ _).mono ?_; rintro e w' ⟨rfl, rfl⟩) | (go_at_call 57; refine (pinside_any _ _ _ _).mono ?_; rintro e w' ⟨rfl, rfl⟩))
  all_goals go_ret
  all_goals exact ⟨rfl, by first | exact ((H1.out).setCell (by simp) _).setCell (by simp) _ | exact (Below.drew (((H1.out).setCell (by simp) _).setCell (by simp) _)) | exact ((Below.drew (H1.out)).setCell (by simp) _).setCell (by simp) _⟩

end Go.Proofs.Ytkbadnehngogjaa
