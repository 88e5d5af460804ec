/-
  ptp.Check of a follow-up whose other fields are zero: the last case; all cases.
-/
import Derived.Test.YtkbadnehngogjaaPtpFol2
namespace Go.Proofs.Ytkbadnehngogjaa
open Go.RowKit Go.Lib Plain

set_option maxRecDepth 100000 in
theorem msg_neq (D C i p S T P : Int) (W : World) : (binOp .neq 46 (.agg (folM D C i p S T P).toArray) (.agg (folM D C i p S T P).toArray)).run Try.prog W = .ok (.bool false) W := by
  simp [folM, go_sem]

set_option maxHeartbeats 4000000 in
set_option maxRecDepth 100000 in
theorem ptpFol_6 (D C i p S T P : Int) (w : World) (q0 : inV D 0 127 = true) (q1 : inV C (-4398046511104) 4398046511104 = true) (q2 : portB i p = true) (q3 : inV S 0 65535 = true) (q4 : inV T (-4398046511104) 4398046511104 = true) (q5 : inV P (-8388608) 8388608 = true) :
    Calls Try.prog 49 #[.agg #[.int .i64 8, .int .i64 D, .int .i64 C, .int .i64 i, .int .i64 p, .int .i64 S, .int .i64 T, .int .i64 P, .int .i64 0, .int .i64 0, .int .i64 0, .int .i64 0, .int .i64 0, .int .i64 0, .int .i64 0, .int .i64 0, .int .i64 0]] w fun e w' => e = .returned (.int .i64 0) ∧ Below w.heap.size w w' := by
  have ha := Lib.hid agg_msg
  have hs := Lib.hid size_msg
  go_enter Try.func49, Try.ntmps49
  go_wp2_with fail
  refine (pinside_any _ _ _ _).mono ?_
  rintro e w' ⟨rfl, rfl⟩
  go_wp2_with fail
  refine (ptStamp_any _ _).mono ?_
  rintro e w' ⟨rfl, rfl⟩
  go_wp2_with fail
  refine (checkPort_any _ _ _).mono ?_
  rintro e w1 ⟨rfl, hb1⟩
  have HM := Lib.hid (show Holds w1 w.heap.size (folM D C i p S T P) from ((holds_alloc _ (folM D C i p S T P) 46 (by simp)).alloc (by simp) _).keep hb1)
  have HO := Lib.hid (show Holds w1 (w.heap.size + 1) (folO D C i p S) from (holds_alloc _ (folO D C i p S) 46 (by simp)).keep hb1)
  have c1 : w1.cell? ⟨w.heap.size, 0, none⟩ = some (.int .i64 8) := below_keep hb1 (by simp [go_sem])
  have c2 : w1.cell? ⟨w.heap.size, 6, none⟩ = some (.int .i64 T) := below_keep hb1 (by simp [go_sem])
  have c3 : w1.cell? ⟨w.heap.size, 7, none⟩ = some (.int .i64 P) := below_keep hb1 (by simp [go_sem])
  have c4 : w1.cell? ⟨w.heap.size + 1, 6, none⟩ = some (.int .i64 0) := below_keep hb1 (by simp [go_sem])
  have c5 : w1.cell? ⟨w.heap.size + 1, 7, none⟩ = some (.int .i64 0) := below_keep hb1 (by simp [go_sem])
  have c6 : w1.cell? ⟨w.heap.size, 5, none⟩ = some (.int .i64 S) := below_keep hb1 (by simp [go_sem])
  have c7 : ∀ o, w1.frozen? ⟨w.heap.size + 1, o, none⟩ = false := fun o => by rw [(bcell hb1).2 _ _ (by first | (simp; done) | (simp; omega))]; simp [go_sem]
  have H1 := Lib.hid (below_step (below_alloc (below_alloc (Below.refl _ _) _) _) hb1)
  clear hb1
  go_wp2_with fail
  refine (pinside_any _ _ _ _).mono ?_
  rintro e w' ⟨rfl, rfl⟩
  go_wp2
  have hz : w.heap.size + 1 < w1.heap.size := World.block_lt_of_cell? _ _ c4
  have hz0 : w.heap.size < w1.heap.size := by omega
  go_region_held3 (fun w' => w'.cell? ⟨w.heap.size, 6, none⟩ = some (.int .i64 T) ∧ w'.cell? ⟨w.heap.size, 7, none⟩ = some (.int .i64 P)) (first | (go_keep; done) | (refine ⟨?_, ?_⟩ <;> (go_keep; done)) | fail) (fail)
  all_goals have hne := fun W => msg_neq D C i p S T P W
  all_goals go_wp2_with (first | (go_at_call 58; refine (ptStamp_any _ _).mono ?_; rintro e w' ⟨rfl, rfl⟩) | (go_at_call 57; refine (pinside_any _ _ _ _).mono ?_; rintro e w' ⟨rfl, rfl⟩) | (refine wpList_load_wanted (by rfl) (.tmp 1) 46 rfl w.heap.size 0 (folM D C i p S T P) rfl ha.out hs.out (by repeat (first | exact HM.out | refine Holds.drew ?_ | refine Holds.far ?_ (by omega) _)) ?_) | (refine wpList_load_wanted (by rfl) (.tmp 3) 46 rfl (w.heap.size + 1) 0 (folM D C i p S T P) rfl ha.out hs.out (by first | exact ((HO.out.set 6 _).set 7 _) | exact ((HO.out.set 7 _).set 6 _) | exact ((HO.out.set 6 _).set 7 _).drew | exact ((HO.out.set 7 _).set 6 _).drew | exact ((HO.out.drew.set 6 _).set 7 _) | exact ((HO.out.drew.set 7 _).set 6 _)) ?_))
  all_goals go_ret
  all_goals exact ⟨rfl, by first | exact ((H1.out).setCell (by simp) _).setCell (by simp) _ | exact (Below.drew (((H1.out).setCell (by simp) _).setCell (by simp) _)) | exact ((Below.drew (H1.out)).setCell (by simp) _).setCell (by simp) _⟩

theorem ptpCheck_follow (D C i p S T P : Int) (w : World) :
    Calls Try.prog 49 #[.agg #[.int .i64 8, .int .i64 D, .int .i64 C, .int .i64 i, .int .i64 p, .int .i64 S, .int .i64 T, .int .i64 P, .int .i64 0, .int .i64 0, .int .i64 0, .int .i64 0, .int .i64 0, .int .i64 0, .int .i64 0, .int .i64 0, .int .i64 0]] w fun e w' => e = .returned (.int .i64 (folV D C i p S T P)) ∧ Below w.heap.size w w' := by
  have hcases : (inV D 0 127 = false ∧ folV D C i p S T P = 200) ∨
      (inV D 0 127 = true ∧ inV C (-4398046511104) 4398046511104 = false ∧ folV D C i p S T P = 200) ∨
      (inV D 0 127 = true ∧ inV C (-4398046511104) 4398046511104 = true ∧ portB i p = false ∧ folV D C i p S T P = 200) ∨
      (inV D 0 127 = true ∧ inV C (-4398046511104) 4398046511104 = true ∧ portB i p = true ∧ inV S 0 65535 = false ∧ folV D C i p S T P = 200) ∨
      (inV D 0 127 = true ∧ inV C (-4398046511104) 4398046511104 = true ∧ portB i p = true ∧ inV S 0 65535 = true ∧ inV T (-4398046511104) 4398046511104 = false ∧ folV D C i p S T P = 200) ∨
      (inV D 0 127 = true ∧ inV C (-4398046511104) 4398046511104 = true ∧ portB i p = true ∧ inV S 0 65535 = true ∧ inV T (-4398046511104) 4398046511104 = true ∧ inV P (-8388608) 8388608 = false ∧ folV D C i p S T P = 200) ∨
      (inV D 0 127 = true ∧ inV C (-4398046511104) 4398046511104 = true ∧ portB i p = true ∧ inV S 0 65535 = true ∧ inV T (-4398046511104) 4398046511104 = true ∧ inV P (-8388608) 8388608 = true ∧ folV D C i p S T P = 0) := by
    by_cases k0 : In D 0 127
    · by_cases k1 : In C (-4398046511104) 4398046511104
      · by_cases k2 : PortOk i p
        · by_cases k3 : In S 0 65535
          · by_cases k4 : In T (-4398046511104) 4398046511104
            · by_cases k5 : In P (-8388608) 8388608
              · exact .inr (.inr (.inr (.inr (.inr (.inr (⟨decide_eq_true k0, decide_eq_true k1, decide_eq_true k2, decide_eq_true k3, decide_eq_true k4, decide_eq_true k5, if_pos ⟨⟨k0, k1, k2, k3⟩, k4, k5⟩⟩))))))
              · exact .inr (.inr (.inr (.inr (.inr (.inl ⟨decide_eq_true k0, decide_eq_true k1, decide_eq_true k2, decide_eq_true k3, decide_eq_true k4, decide_eq_false k5, if_neg (fun h => k5 h.2.2)⟩)))))
            · exact .inr (.inr (.inr (.inr (.inl ⟨decide_eq_true k0, decide_eq_true k1, decide_eq_true k2, decide_eq_true k3, decide_eq_false k4, if_neg (fun h => k4 h.2.1)⟩))))
          · exact .inr (.inr (.inr (.inl ⟨decide_eq_true k0, decide_eq_true k1, decide_eq_true k2, decide_eq_false k3, if_neg (fun h => k3 h.1.2.2.2)⟩)))
        · exact .inr (.inr (.inl ⟨decide_eq_true k0, decide_eq_true k1, decide_eq_false k2, if_neg (fun h => k2 h.1.2.2.1)⟩))
      · exact .inr (.inl ⟨decide_eq_true k0, decide_eq_false k1, if_neg (fun h => k1 h.1.2.1)⟩)
    · exact .inl ⟨decide_eq_false k0, if_neg (fun h => k0 h.1.1)⟩
  rcases hcases with ⟨q0, e⟩ | ⟨q0, q1, e⟩ | ⟨q0, q1, q2, e⟩ | ⟨q0, q1, q2, q3, e⟩ | ⟨q0, q1, q2, q3, q4, e⟩ | ⟨q0, q1, q2, q3, q4, q5, e⟩ | ⟨q0, q1, q2, q3, q4, q5, e⟩
  · rw [e]; exact ptpFol_0 D C i p S T P w q0
  · rw [e]; exact ptpFol_1 D C i p S T P w q0 q1
  · rw [e]; exact ptpFol_2 D C i p S T P w q0 q1 q2
  · rw [e]; exact ptpFol_3 D C i p S T P w q0 q1 q2 q3
  · rw [e]; exact ptpFol_4 D C i p S T P w q0 q1 q2 q3 q4
  · rw [e]; exact ptpFol_5 D C i p S T P w q0 q1 q2 q3 q4 q5
  · rw [e]; exact ptpFol_6 D C i p S T P w q0 q1 q2 q3 q4 q5

end Go.Proofs.Ytkbadnehngogjaa
