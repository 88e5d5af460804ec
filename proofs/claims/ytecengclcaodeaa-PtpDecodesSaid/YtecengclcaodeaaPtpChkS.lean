/-
  ptp.Check of a message of the kinds 0 and 2. No conditions.
-/
import Derived.Test.YtecengclcaodeaaPtpChk0
import Derived.Deep.RegionHeld3
import Derived.Deep.DeepCutAuto
import Derived.WalkMore
namespace Go.Proofs.Ytecengclcaodeaa
open Go.RowKit Go.Lib Plain

set_option maxHeartbeats 8000000 in
set_option maxRecDepth 100000 in
theorem chk_0 (D C i p S T P r q a b c v e g s : Int) (w : World) : Calls Try.prog 24 #[.agg #[.int .i64 0, .int .i64 D, .int .i64 C, .int .i64 i, .int .i64 p, .int .i64 S, .int .i64 T, .int .i64 P, .int .i64 r, .int .i64 q, .int .i64 a, .int .i64 b, .int .i64 c, .int .i64 v, .int .i64 e, .int .i64 g, .int .i64 s]] w fun y w' => y = .returned (.int .i64 (chkB (baseB D C i p S) (decide (ZeroAll T P r q a b c v e g s)))) ∧ Below w.heap.size w w' := by
  have ha := Lib.hid agg_msg
  have hs := Lib.hid size_msg
  go_enter Try.func24, Try.ntmps24
  go_upto_region 2 with fail
  go_cut [4] (fun s4 wx => s4 = .bool (baseB D C i p S) ∧ Holds wx w.heap.size (mMsg 0 D C i p S T P r q a b c v e g s) ∧ Holds wx (w.heap.size + 1) (mMsg 0 D C i p S 0 0 0 0 0 0 0 0 0 0 0) ∧ (∀ x, wx.frozen? ⟨w.heap.size + 1, x, none⟩ = false) ∧ Below w.heap.size w wx)
  case first =>
    have G1 : ∀ wz, Below ((w.alloc (.cells (mMsg 0 D C i p S T P r q a b c v e g s).toArray 27)).alloc (.cells (mMsg 0 D C i p S 0 0 0 0 0 0 0 0 0 0 0).toArray 27)).heap.size ((w.alloc (.cells (mMsg 0 D C i p S T P r q a b c v e g s).toArray 27)).alloc (.cells (mMsg 0 D C i p S 0 0 0 0 0 0 0 0 0 0 0).toArray 27)) wz →
        Holds wz w.heap.size (mMsg 0 D C i p S T P r q a b c v e g s) ∧ Holds wz (w.heap.size + 1) (mMsg 0 D C i p S 0 0 0 0 0 0 0 0 0 0 0) ∧ (∀ x, wz.frozen? ⟨w.heap.size + 1, x, none⟩ = false) ∧ Below w.heap.size w wz := fun wz hb =>
      ⟨((holds_alloc w (mMsg 0 D C i p S T P r q a b c v e g s) 27 rfl).alloc (by simp) _).keep hb, (holds_alloc _ (mMsg 0 D C i p S 0 0 0 0 0 0 0 0 0 0 0) 27 (by simp)).keep hb,
        fun x => by rw [(bcell hb).2 _ _ (by simp)]; exact frozen_new _ _ _ _ (by simp), below_step (below_alloc (below_alloc (Below.refl _ _) _) _) hb⟩
    have G := Lib.hid G1
    clear G1
    rcases base_cases D C i p S with ⟨q0, k⟩ | ⟨q0, q1, k⟩ | ⟨q0, q1, q2, k⟩ | ⟨q0, q1, q2, q3, k⟩ | ⟨q0, q1, q2, q3, k⟩
    · have kk := Lib.hid k
      clear k
      go_wp2_with (go_at_call 29; refine (pinside_any _ _ _ _).mono ?_; rintro e1 w9 ⟨rfl, rfl⟩)
      go_meet
      exact ⟨by rw [kk.out], G.out _ (Below.refl _ _)⟩
    · have kk := Lib.hid k
      clear k
      go_wp2_with (first | (go_at_call 29; refine (pinside_any _ _ _ _).mono ?_; rintro e1 w9 ⟨rfl, rfl⟩) | (go_at_call 40; refine (ptStamp_any _ _).mono ?_; rintro e1 w9 ⟨rfl, rfl⟩))
      go_meet
      exact ⟨by rw [kk.out], G.out _ (Below.refl _ _)⟩
    all_goals
      have kk := Lib.hid k
      clear k
      go_wp2_with (first | (go_at_call 29; refine (pinside_any _ _ _ _).mono ?_; rintro e1 w9 ⟨rfl, rfl⟩) | (go_at_call 40; refine (ptStamp_any _ _).mono ?_; rintro e1 w9 ⟨rfl, rfl⟩))
      refine (checkPort_any _ _ _).mono ?_
      rintro e1 wz ⟨rfl, hb1⟩
      have G2 := Lib.hid (G.out wz hb1)
      have c6 : wz.cell? ⟨w.heap.size, 5, none⟩ = some (.int .i64 S) := G2.out.1 5 _ rfl
      clear hb1
      go_wp2_with (go_at_call 29; refine (pinside_any _ _ _ _).mono ?_; rintro e1 w9 ⟨rfl, rfl⟩)
      go_meet
      exact ⟨by rw [kk.out], G2.out⟩
  case rest =>
    obtain ⟨rfl, hm, ho, hf, hB⟩ := hcut
    have HM := Lib.hid hm
    have HO := Lib.hid ho
    have HF := Lib.hid hf
    have HB := Lib.hid hB
    clear hm ho hf hB
    have c0 : wc.cell? ⟨w.heap.size, 0, none⟩ = some (.int .i64 0) := HM.out 0 _ rfl
    have z1 : w.heap.size + 1 < wc.heap.size := World.block_lt_of_cell? _ _ (HO.out 0 _ rfl)
    have z0 : w.heap.size < wc.heap.size := by omega
    cases hb : baseB D C i p S
    · go_wp2
      go_ret
      exact ⟨by rw [hb]; first | done | rfl, HB.out⟩
    by_cases hz : ZeroAll T P r q a b c v e g s
    · have hne := fun W => (msg_neq_any 0 D C i p S T P r q a b c v e g s 0 0 0 0 0 0 0 0 0 0 0 W).trans (by rw [show decide (T = 0 ∧ P = 0 ∧ r = 0 ∧ q = 0 ∧ a = 0 ∧ b = 0 ∧ c = 0 ∧ v = 0 ∧ e = 0 ∧ g = 0 ∧ s = 0) = true from decide_eq_true hz, Bool.not_true])
      have HZ := Lib.hid hz
      clear hz
      go_wp2_with (first | refine wpList_load_wanted (by rfl) (.tmp 1) 27 rfl w.heap.size 0 (mMsg 0 D C i p S T P r q a b c v e g s) rfl ha.out hs.out HM.out ?_ | refine wpList_load_wanted (by rfl) (.tmp 3) 27 rfl (w.heap.size + 1) 0 (mMsg 0 D C i p S 0 0 0 0 0 0 0 0 0 0 0) rfl ha.out hs.out HO.out ?_)
      go_ret
      exact ⟨by rw [hb, decide_eq_true HZ.out]; first | done | rfl, HB.out⟩
    · have hne := fun W => (msg_neq_any 0 D C i p S T P r q a b c v e g s 0 0 0 0 0 0 0 0 0 0 0 W).trans (by rw [show decide (T = 0 ∧ P = 0 ∧ r = 0 ∧ q = 0 ∧ a = 0 ∧ b = 0 ∧ c = 0 ∧ v = 0 ∧ e = 0 ∧ g = 0 ∧ s = 0) = false from decide_eq_false hz, Bool.not_false])
      have HZ := Lib.hid hz
      clear hz
      go_wp2_with (first | refine wpList_load_wanted (by rfl) (.tmp 1) 27 rfl w.heap.size 0 (mMsg 0 D C i p S T P r q a b c v e g s) rfl ha.out hs.out HM.out ?_ | refine wpList_load_wanted (by rfl) (.tmp 3) 27 rfl (w.heap.size + 1) 0 (mMsg 0 D C i p S 0 0 0 0 0 0 0 0 0 0 0) rfl ha.out hs.out HO.out ?_)
      go_ret
      exact ⟨by rw [hb, decide_eq_false HZ.out]; first | done | rfl, HB.out⟩

set_option maxHeartbeats 8000000 in
set_option maxRecDepth 100000 in
theorem chk_2 (D C i p S T P r q a b c v e g s : Int) (w : World) : Calls Try.prog 24 #[.agg #[.int .i64 2, .int .i64 D, .int .i64 C, .int .i64 i, .int .i64 p, .int .i64 S, .int .i64 T, .int .i64 P, .int .i64 r, .int .i64 q, .int .i64 a, .int .i64 b, .int .i64 c, .int .i64 v, .int .i64 e, .int .i64 g, .int .i64 s]] w fun y w' => y = .returned (.int .i64 (chkB (baseB D C i p S) (decide (ZeroAll T P r q a b c v e g s)))) ∧ Below w.heap.size w w' := by
  have ha := Lib.hid agg_msg
  have hs := Lib.hid size_msg
  go_enter Try.func24, Try.ntmps24
  go_upto_region 2 with fail
  go_cut [4] (fun s4 wx => s4 = .bool (baseB D C i p S) ∧ Holds wx w.heap.size (mMsg 2 D C i p S T P r q a b c v e g s) ∧ Holds wx (w.heap.size + 1) (mMsg 2 D C i p S 0 0 0 0 0 0 0 0 0 0 0) ∧ (∀ x, wx.frozen? ⟨w.heap.size + 1, x, none⟩ = false) ∧ Below w.heap.size w wx)
  case first =>
    have G1 : ∀ wz, Below ((w.alloc (.cells (mMsg 2 D C i p S T P r q a b c v e g s).toArray 27)).alloc (.cells (mMsg 2 D C i p S 0 0 0 0 0 0 0 0 0 0 0).toArray 27)).heap.size ((w.alloc (.cells (mMsg 2 D C i p S T P r q a b c v e g s).toArray 27)).alloc (.cells (mMsg 2 D C i p S 0 0 0 0 0 0 0 0 0 0 0).toArray 27)) wz →
        Holds wz w.heap.size (mMsg 2 D C i p S T P r q a b c v e g s) ∧ Holds wz (w.heap.size + 1) (mMsg 2 D C i p S 0 0 0 0 0 0 0 0 0 0 0) ∧ (∀ x, wz.frozen? ⟨w.heap.size + 1, x, none⟩ = false) ∧ Below w.heap.size w wz := fun wz hb =>
      ⟨((holds_alloc w (mMsg 2 D C i p S T P r q a b c v e g s) 27 rfl).alloc (by simp) _).keep hb, (holds_alloc _ (mMsg 2 D C i p S 0 0 0 0 0 0 0 0 0 0 0) 27 (by simp)).keep hb,
        fun x => by rw [(bcell hb).2 _ _ (by simp)]; exact frozen_new _ _ _ _ (by simp), below_step (below_alloc (below_alloc (Below.refl _ _) _) _) hb⟩
    have G := Lib.hid G1
    clear G1
    rcases base_cases D C i p S with ⟨q0, k⟩ | ⟨q0, q1, k⟩ | ⟨q0, q1, q2, k⟩ | ⟨q0, q1, q2, q3, k⟩ | ⟨q0, q1, q2, q3, k⟩
    · have kk := Lib.hid k
      clear k
      go_wp2_with (go_at_call 29; refine (pinside_any _ _ _ _).mono ?_; rintro e1 w9 ⟨rfl, rfl⟩)
      go_meet
      exact ⟨by rw [kk.out], G.out _ (Below.refl _ _)⟩
    · have kk := Lib.hid k
      clear k
      go_wp2_with (first | (go_at_call 29; refine (pinside_any _ _ _ _).mono ?_; rintro e1 w9 ⟨rfl, rfl⟩) | (go_at_call 40; refine (ptStamp_any _ _).mono ?_; rintro e1 w9 ⟨rfl, rfl⟩))
      go_meet
      exact ⟨by rw [kk.out], G.out _ (Below.refl _ _)⟩
    all_goals
      have kk := Lib.hid k
      clear k
      go_wp2_with (first | (go_at_call 29; refine (pinside_any _ _ _ _).mono ?_; rintro e1 w9 ⟨rfl, rfl⟩) | (go_at_call 40; refine (ptStamp_any _ _).mono ?_; rintro e1 w9 ⟨rfl, rfl⟩))
      refine (checkPort_any _ _ _).mono ?_
      rintro e1 wz ⟨rfl, hb1⟩
      have G2 := Lib.hid (G.out wz hb1)
      have c6 : wz.cell? ⟨w.heap.size, 5, none⟩ = some (.int .i64 S) := G2.out.1 5 _ rfl
      clear hb1
      go_wp2_with (go_at_call 29; refine (pinside_any _ _ _ _).mono ?_; rintro e1 w9 ⟨rfl, rfl⟩)
      go_meet
      exact ⟨by rw [kk.out], G2.out⟩
  case rest =>
    obtain ⟨rfl, hm, ho, hf, hB⟩ := hcut
    have HM := Lib.hid hm
    have HO := Lib.hid ho
    have HF := Lib.hid hf
    have HB := Lib.hid hB
    clear hm ho hf hB
    have c0 : wc.cell? ⟨w.heap.size, 0, none⟩ = some (.int .i64 2) := HM.out 0 _ rfl
    have z1 : w.heap.size + 1 < wc.heap.size := World.block_lt_of_cell? _ _ (HO.out 0 _ rfl)
    have z0 : w.heap.size < wc.heap.size := by omega
    cases hb : baseB D C i p S
    · go_wp2
      go_ret
      exact ⟨by rw [hb]; first | done | rfl, HB.out⟩
    by_cases hz : ZeroAll T P r q a b c v e g s
    · have hne := fun W => (msg_neq_any 2 D C i p S T P r q a b c v e g s 0 0 0 0 0 0 0 0 0 0 0 W).trans (by rw [show decide (T = 0 ∧ P = 0 ∧ r = 0 ∧ q = 0 ∧ a = 0 ∧ b = 0 ∧ c = 0 ∧ v = 0 ∧ e = 0 ∧ g = 0 ∧ s = 0) = true from decide_eq_true hz, Bool.not_true])
      have HZ := Lib.hid hz
      clear hz
      go_wp2_with (first | refine wpList_load_wanted (by rfl) (.tmp 1) 27 rfl w.heap.size 0 (mMsg 2 D C i p S T P r q a b c v e g s) rfl ha.out hs.out HM.out ?_ | refine wpList_load_wanted (by rfl) (.tmp 3) 27 rfl (w.heap.size + 1) 0 (mMsg 2 D C i p S 0 0 0 0 0 0 0 0 0 0 0) rfl ha.out hs.out HO.out ?_)
      go_ret
      exact ⟨by rw [hb, decide_eq_true HZ.out]; first | done | rfl, HB.out⟩
    · have hne := fun W => (msg_neq_any 2 D C i p S T P r q a b c v e g s 0 0 0 0 0 0 0 0 0 0 0 W).trans (by rw [show decide (T = 0 ∧ P = 0 ∧ r = 0 ∧ q = 0 ∧ a = 0 ∧ b = 0 ∧ c = 0 ∧ v = 0 ∧ e = 0 ∧ g = 0 ∧ s = 0) = false from decide_eq_false hz, Bool.not_false])
      have HZ := Lib.hid hz
      clear hz
      go_wp2_with (first | refine wpList_load_wanted (by rfl) (.tmp 1) 27 rfl w.heap.size 0 (mMsg 2 D C i p S T P r q a b c v e g s) rfl ha.out hs.out HM.out ?_ | refine wpList_load_wanted (by rfl) (.tmp 3) 27 rfl (w.heap.size + 1) 0 (mMsg 2 D C i p S 0 0 0 0 0 0 0 0 0 0 0) rfl ha.out hs.out HO.out ?_)
      go_ret
      exact ⟨by rw [hb, decide_eq_false HZ.out]; first | done | rfl, HB.out⟩

end Go.Proofs.Ytecengclcaodeaa
