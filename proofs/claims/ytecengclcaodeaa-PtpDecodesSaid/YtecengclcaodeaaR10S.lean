/-
  The reference's Right of a message of the kinds 0, 2. No conditions.
-/
import Derived.Test.YtecengclcaodeaaR10
namespace Go.Proofs.Ytecengclcaodeaa
open Go.RowKit Go.Lib Plain

set_option maxHeartbeats 8000000 in
set_option maxRecDepth 100000 in
theorem rgt_0 (D C i p S T P r q a b c v e g s : Int) (w : World) : Calls Try.prog 19 #[.agg #[.int .i64 0, .int .i64 D, .int .i64 C, .int .i64 i, .int .i64 p, .int .i64 S, .int .i64 T, .int .i64 P, .int .i64 r, .int .i64 q, .int .i64 a, .int .i64 b, .int .i64 c, .int .i64 v, .int .i64 e, .int .i64 g, .int .i64 s]] w fun y w' => y = .returned (.bool (rgtB (baseB D C i p S) (decide (ZeroAll T P r q a b c v e g s)))) ∧ Below w.heap.size w w' := by
  go_enter Try.func19, Try.ntmps19
  rcases base_cases D C i p S with ⟨q0, k⟩ | ⟨q0, q1, k⟩ | ⟨q0, q1, q2, k⟩ | ⟨q0, q1, q2, q3, k⟩ | ⟨q0, q1, q2, q3, k⟩
  all_goals
    have kk := Lib.hid k
    clear k
  iterate 2
    · go_wp2_with (first | (go_at_call 14; refine (rsize_0 _).mono ?_; rintro e1 w9 ⟨rfl, rfl⟩) | (go_at_call 28; refine (rin_any _ _ _ _).mono ?_; rintro e1 w9 ⟨rfl, rfl⟩))
      go_ret
      exact ⟨by rw [kk.out]; first | done | rfl, below_alloc (Below.refl _ _) _⟩
  all_goals
    go_wp2_with (first | (go_at_call 14; refine (rsize_0 _).mono ?_; rintro e1 w9 ⟨rfl, rfl⟩) | (go_at_call 28; refine (rin_any _ _ _ _).mono ?_; rintro e1 w9 ⟨rfl, rfl⟩))
    refine (rPort_any _ _ _).mono ?_
    rintro e1 wz ⟨rfl, hb1⟩
    have HM := Lib.hid (show Holds wz w.heap.size (mMsg 0 D C i p S T P r q a b c v e g s) from (holds_alloc w (mMsg 0 D C i p S T P r q a b c v e g s) 27 rfl).keep hb1)
    have HB := Lib.hid (below_step (below_alloc (Below.refl _ _) _) hb1)
    clear hb1
    have k0 : wz.cell? ⟨w.heap.size, 0, none⟩ = some (.int .i64 0) := HM.out 0 _ rfl
    have k1 : wz.cell? ⟨w.heap.size, 1, none⟩ = some (.int .i64 D) := HM.out 1 _ rfl
    have k2 : wz.cell? ⟨w.heap.size, 2, none⟩ = some (.int .i64 C) := HM.out 2 _ rfl
    have k3 : wz.cell? ⟨w.heap.size, 3, none⟩ = some (.int .i64 i) := HM.out 3 _ rfl
    have k4 : wz.cell? ⟨w.heap.size, 4, none⟩ = some (.int .i64 p) := HM.out 4 _ rfl
    have k5 : wz.cell? ⟨w.heap.size, 5, none⟩ = some (.int .i64 S) := HM.out 5 _ rfl
    have k6 : wz.cell? ⟨w.heap.size, 6, none⟩ = some (.int .i64 T) := HM.out 6 _ rfl
    have k7 : wz.cell? ⟨w.heap.size, 7, none⟩ = some (.int .i64 P) := HM.out 7 _ rfl
    have k8 : wz.cell? ⟨w.heap.size, 8, none⟩ = some (.int .i64 r) := HM.out 8 _ rfl
    have k9 : wz.cell? ⟨w.heap.size, 9, none⟩ = some (.int .i64 q) := HM.out 9 _ rfl
    have k10 : wz.cell? ⟨w.heap.size, 10, none⟩ = some (.int .i64 a) := HM.out 10 _ rfl
    have k11 : wz.cell? ⟨w.heap.size, 11, none⟩ = some (.int .i64 b) := HM.out 11 _ rfl
    have k12 : wz.cell? ⟨w.heap.size, 12, none⟩ = some (.int .i64 c) := HM.out 12 _ rfl
    have k13 : wz.cell? ⟨w.heap.size, 13, none⟩ = some (.int .i64 v) := HM.out 13 _ rfl
    have k14 : wz.cell? ⟨w.heap.size, 14, none⟩ = some (.int .i64 e) := HM.out 14 _ rfl
    have k15 : wz.cell? ⟨w.heap.size, 15, none⟩ = some (.int .i64 g) := HM.out 15 _ rfl
    have k16 : wz.cell? ⟨w.heap.size, 16, none⟩ = some (.int .i64 s) := HM.out 16 _ rfl
  iterate 2
    · go_wp2_with (go_at_call 28; refine (rin_any _ _ _ _).mono ?_; rintro e1 w9 ⟨rfl, rfl⟩)
      go_ret
      exact ⟨by rw [kk.out]; first | done | rfl, HB.out⟩
  by_cases hT : T = 0
  rotate_left
  · go_wp2_with (go_at_call 28; refine (rin_any _ _ _ _).mono ?_; rintro e1 w9 ⟨rfl, rfl⟩)
    go_ret
    exact ⟨by rw [kk.out, decide_eq_false (fun x => hT (x.1))]; first | done | rfl, HB.out⟩
  by_cases hP : P = 0
  rotate_left
  · go_wp2_with (go_at_call 28; refine (rin_any _ _ _ _).mono ?_; rintro e1 w9 ⟨rfl, rfl⟩)
    go_ret
    exact ⟨by rw [kk.out, decide_eq_false (fun x => hP (x.2.1))]; first | done | rfl, HB.out⟩
  have hP0 := in_zero
  by_cases hR : r = 0 ∧ q = 0
  rotate_left
  · have hN := fun W => (pid_neq r q W).trans (by rw [decide_eq_false hR, Bool.not_false])
    have HR := Lib.hid hR
    clear hR
    go_wp2_with (go_at_call 28; refine (rin_any _ _ _ _).mono ?_; rintro e1 w9 ⟨rfl, rfl⟩)
    go_ret
    exact ⟨by rw [kk.out, decide_eq_false (fun x => HR.out ⟨x.2.2.1, x.2.2.2.1⟩)]; first | done | rfl, HB.out⟩
  have hN := fun W => (pid_neq r q W).trans (by rw [decide_eq_true hR, Bool.not_true])
  have HR := Lib.hid hR
  clear hR
  by_cases hM : a = 0 ∧ b = 0 ∧ c = 0 ∧ v = 0 ∧ e = 0 ∧ g = 0
  rotate_left
  · have hE := fun W => (mas_eql a b c v e g W).trans (by rw [decide_eq_false hM])
    have HM2 := Lib.hid hM
    clear hM
    go_wp2_with (go_at_call 28; refine (rin_any _ _ _ _).mono ?_; rintro e1 w9 ⟨rfl, rfl⟩)
    go_ret
    exact ⟨by rw [kk.out, decide_eq_false (fun x => HM2.out ⟨x.2.2.2.2.1, x.2.2.2.2.2.1, x.2.2.2.2.2.2.1, x.2.2.2.2.2.2.2.1, x.2.2.2.2.2.2.2.2.1, x.2.2.2.2.2.2.2.2.2.1⟩)]; first | done | rfl, HB.out⟩
  have hE := fun W => (mas_eql a b c v e g W).trans (by rw [decide_eq_true hM])
  have HM2 := Lib.hid hM
  clear hM
  by_cases hS : s = 0
  rotate_left
  · go_wp2_with (go_at_call 28; refine (rin_any _ _ _ _).mono ?_; rintro e1 w9 ⟨rfl, rfl⟩)
    go_ret
    exact ⟨by rw [kk.out, decide_eq_false (fun x => hS (x.2.2.2.2.2.2.2.2.2.2))]; exact congrArg (fun b => Ending.returned (Value.bool b)) (show (s == 0) = false by simp [hS]), HB.out⟩
  go_wp2_with (go_at_call 28; refine (rin_any _ _ _ _).mono ?_; rintro e1 w9 ⟨rfl, rfl⟩)
  go_ret
  exact ⟨by rw [kk.out, decide_eq_true ⟨hT, hP, HR.out.1, HR.out.2, HM2.out.1, HM2.out.2.1, HM2.out.2.2.1, HM2.out.2.2.2.1, HM2.out.2.2.2.2.1, HM2.out.2.2.2.2.2, hS⟩]; first | done | rfl | exact congrArg (fun b => Ending.returned (Value.bool b)) (show (s == 0) = true by simp [hS]), HB.out⟩

set_option maxHeartbeats 8000000 in
set_option maxRecDepth 100000 in
theorem rgt_2 (D C i p S T P r q a b c v e g s : Int) (w : World) : Calls Try.prog 19 #[.agg #[.int .i64 2, .int .i64 D, .int .i64 C, .int .i64 i, .int .i64 p, .int .i64 S, .int .i64 T, .int .i64 P, .int .i64 r, .int .i64 q, .int .i64 a, .int .i64 b, .int .i64 c, .int .i64 v, .int .i64 e, .int .i64 g, .int .i64 s]] w fun y w' => y = .returned (.bool (rgtB (baseB D C i p S) (decide (ZeroAll T P r q a b c v e g s)))) ∧ Below w.heap.size w w' := by
  go_enter Try.func19, Try.ntmps19
  rcases base_cases D C i p S with ⟨q0, k⟩ | ⟨q0, q1, k⟩ | ⟨q0, q1, q2, k⟩ | ⟨q0, q1, q2, q3, k⟩ | ⟨q0, q1, q2, q3, k⟩
  all_goals
    have kk := Lib.hid k
    clear k
  iterate 2
    · go_wp2_with (first | (go_at_call 14; refine (rsize_2 _).mono ?_; rintro e1 w9 ⟨rfl, rfl⟩) | (go_at_call 28; refine (rin_any _ _ _ _).mono ?_; rintro e1 w9 ⟨rfl, rfl⟩))
      go_ret
      exact ⟨by rw [kk.out]; first | done | rfl, below_alloc (Below.refl _ _) _⟩
  all_goals
    go_wp2_with (first | (go_at_call 14; refine (rsize_2 _).mono ?_; rintro e1 w9 ⟨rfl, rfl⟩) | (go_at_call 28; refine (rin_any _ _ _ _).mono ?_; rintro e1 w9 ⟨rfl, rfl⟩))
    refine (rPort_any _ _ _).mono ?_
    rintro e1 wz ⟨rfl, hb1⟩
    have HM := Lib.hid (show Holds wz w.heap.size (mMsg 2 D C i p S T P r q a b c v e g s) from (holds_alloc w (mMsg 2 D C i p S T P r q a b c v e g s) 27 rfl).keep hb1)
    have HB := Lib.hid (below_step (below_alloc (Below.refl _ _) _) hb1)
    clear hb1
    have k0 : wz.cell? ⟨w.heap.size, 0, none⟩ = some (.int .i64 2) := HM.out 0 _ rfl
    have k1 : wz.cell? ⟨w.heap.size, 1, none⟩ = some (.int .i64 D) := HM.out 1 _ rfl
    have k2 : wz.cell? ⟨w.heap.size, 2, none⟩ = some (.int .i64 C) := HM.out 2 _ rfl
    have k3 : wz.cell? ⟨w.heap.size, 3, none⟩ = some (.int .i64 i) := HM.out 3 _ rfl
    have k4 : wz.cell? ⟨w.heap.size, 4, none⟩ = some (.int .i64 p) := HM.out 4 _ rfl
    have k5 : wz.cell? ⟨w.heap.size, 5, none⟩ = some (.int .i64 S) := HM.out 5 _ rfl
    have k6 : wz.cell? ⟨w.heap.size, 6, none⟩ = some (.int .i64 T) := HM.out 6 _ rfl
    have k7 : wz.cell? ⟨w.heap.size, 7, none⟩ = some (.int .i64 P) := HM.out 7 _ rfl
    have k8 : wz.cell? ⟨w.heap.size, 8, none⟩ = some (.int .i64 r) := HM.out 8 _ rfl
    have k9 : wz.cell? ⟨w.heap.size, 9, none⟩ = some (.int .i64 q) := HM.out 9 _ rfl
    have k10 : wz.cell? ⟨w.heap.size, 10, none⟩ = some (.int .i64 a) := HM.out 10 _ rfl
    have k11 : wz.cell? ⟨w.heap.size, 11, none⟩ = some (.int .i64 b) := HM.out 11 _ rfl
    have k12 : wz.cell? ⟨w.heap.size, 12, none⟩ = some (.int .i64 c) := HM.out 12 _ rfl
    have k13 : wz.cell? ⟨w.heap.size, 13, none⟩ = some (.int .i64 v) := HM.out 13 _ rfl
    have k14 : wz.cell? ⟨w.heap.size, 14, none⟩ = some (.int .i64 e) := HM.out 14 _ rfl
    have k15 : wz.cell? ⟨w.heap.size, 15, none⟩ = some (.int .i64 g) := HM.out 15 _ rfl
    have k16 : wz.cell? ⟨w.heap.size, 16, none⟩ = some (.int .i64 s) := HM.out 16 _ rfl
  iterate 2
    · go_wp2_with (go_at_call 28; refine (rin_any _ _ _ _).mono ?_; rintro e1 w9 ⟨rfl, rfl⟩)
      go_ret
      exact ⟨by rw [kk.out]; first | done | rfl, HB.out⟩
  by_cases hT : T = 0
  rotate_left
  · go_wp2_with (go_at_call 28; refine (rin_any _ _ _ _).mono ?_; rintro e1 w9 ⟨rfl, rfl⟩)
    go_ret
    exact ⟨by rw [kk.out, decide_eq_false (fun x => hT (x.1))]; first | done | rfl, HB.out⟩
  by_cases hP : P = 0
  rotate_left
  · go_wp2_with (go_at_call 28; refine (rin_any _ _ _ _).mono ?_; rintro e1 w9 ⟨rfl, rfl⟩)
    go_ret
    exact ⟨by rw [kk.out, decide_eq_false (fun x => hP (x.2.1))]; first | done | rfl, HB.out⟩
  have hP0 := in_zero
  by_cases hR : r = 0 ∧ q = 0
  rotate_left
  · have hN := fun W => (pid_neq r q W).trans (by rw [decide_eq_false hR, Bool.not_false])
    have HR := Lib.hid hR
    clear hR
    go_wp2_with (go_at_call 28; refine (rin_any _ _ _ _).mono ?_; rintro e1 w9 ⟨rfl, rfl⟩)
    go_ret
    exact ⟨by rw [kk.out, decide_eq_false (fun x => HR.out ⟨x.2.2.1, x.2.2.2.1⟩)]; first | done | rfl, HB.out⟩
  have hN := fun W => (pid_neq r q W).trans (by rw [decide_eq_true hR, Bool.not_true])
  have HR := Lib.hid hR
  clear hR
  by_cases hM : a = 0 ∧ b = 0 ∧ c = 0 ∧ v = 0 ∧ e = 0 ∧ g = 0
  rotate_left
  · have hE := fun W => (mas_eql a b c v e g W).trans (by rw [decide_eq_false hM])
    have HM2 := Lib.hid hM
    clear hM
    go_wp2_with (go_at_call 28; refine (rin_any _ _ _ _).mono ?_; rintro e1 w9 ⟨rfl, rfl⟩)
    go_ret
    exact ⟨by rw [kk.out, decide_eq_false (fun x => HM2.out ⟨x.2.2.2.2.1, x.2.2.2.2.2.1, x.2.2.2.2.2.2.1, x.2.2.2.2.2.2.2.1, x.2.2.2.2.2.2.2.2.1, x.2.2.2.2.2.2.2.2.2.1⟩)]; first | done | rfl, HB.out⟩
  have hE := fun W => (mas_eql a b c v e g W).trans (by rw [decide_eq_true hM])
  have HM2 := Lib.hid hM
  clear hM
  by_cases hS : s = 0
  rotate_left
  · go_wp2_with (go_at_call 28; refine (rin_any _ _ _ _).mono ?_; rintro e1 w9 ⟨rfl, rfl⟩)
    go_ret
    exact ⟨by rw [kk.out, decide_eq_false (fun x => hS (x.2.2.2.2.2.2.2.2.2.2))]; exact congrArg (fun b => Ending.returned (Value.bool b)) (show (s == 0) = false by simp [hS]), HB.out⟩
  go_wp2_with (go_at_call 28; refine (rin_any _ _ _ _).mono ?_; rintro e1 w9 ⟨rfl, rfl⟩)
  go_ret
  exact ⟨by rw [kk.out, decide_eq_true ⟨hT, hP, HR.out.1, HR.out.2, HM2.out.1, HM2.out.2.1, HM2.out.2.2.1, HM2.out.2.2.2.1, HM2.out.2.2.2.2.1, HM2.out.2.2.2.2.2, hS⟩]; first | done | rfl | exact congrArg (fun b => Ending.returned (Value.bool b)) (show (s == 0) = true by simp [hS]), HB.out⟩

end Go.Proofs.Ytecengclcaodeaa
