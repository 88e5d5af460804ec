/-
  ptp.Check of a message of the kind 10. No conditions.
-/
import Derived.Test.YtecengclcaodeaaPtpChk0
import Derived.Deep.RegionHeld3
import Derived.Deep.DeepCutAuto
import Derived.WalkMore
namespace Go.Proofs.Ytecengclcaodeaa
open Go.RowKit Go.Lib Plain

set_option maxHeartbeats 16000000 in
set_option maxRecDepth 100000 in
theorem chk_10 (D C i p S T P r q a b c v e g s : Int) (w : World) : Calls Try.prog 24 #[.agg #[.int .i64 10, .int .i64 D, .int .i64 C, .int .i64 i, .int .i64 p, .int .i64 S, .int .i64 T, .int .i64 P, .int .i64 r, .int .i64 q, .int .i64 a, .int .i64 b, .int .i64 c, .int .i64 v, .int .i64 e, .int .i64 g, .int .i64 s]] w fun y w' => y = .returned (.int .i64 (chkB (baseB D C i p S) (decide (In T (-4398046511104) 4398046511104 ∧ PortOk r q ∧ P = 0 ∧ a = 0 ∧ b = 0 ∧ c = 0 ∧ v = 0 ∧ e = 0 ∧ g = 0 ∧ s = 0)))) ∧ Below w.heap.size w w' := by
  have ha := Lib.hid agg_msg
  have hs := Lib.hid size_msg
  go_enter Try.func24, Try.ntmps24
  go_upto_region 2 with fail
  go_cut [4] (fun s4 wx => s4 = .bool (baseB D C i p S) ∧ Holds wx w.heap.size (mMsg 10 D C i p S T P r q a b c v e g s) ∧ Holds wx (w.heap.size + 1) (mMsg 10 D C i p S 0 0 0 0 0 0 0 0 0 0 0) ∧ (∀ x, wx.frozen? ⟨w.heap.size + 1, x, none⟩ = false) ∧ Below w.heap.size w wx)
  case first =>
    have G1 : ∀ wz, Below ((w.alloc (.cells (mMsg 10 D C i p S T P r q a b c v e g s).toArray 27)).alloc (.cells (mMsg 10 D C i p S 0 0 0 0 0 0 0 0 0 0 0).toArray 27)).heap.size ((w.alloc (.cells (mMsg 10 D C i p S T P r q a b c v e g s).toArray 27)).alloc (.cells (mMsg 10 D C i p S 0 0 0 0 0 0 0 0 0 0 0).toArray 27)) wz →
        Holds wz w.heap.size (mMsg 10 D C i p S T P r q a b c v e g s) ∧ Holds wz (w.heap.size + 1) (mMsg 10 D C i p S 0 0 0 0 0 0 0 0 0 0 0) ∧ (∀ x, wz.frozen? ⟨w.heap.size + 1, x, none⟩ = false) ∧ Below w.heap.size w wz := fun wz hb =>
      ⟨((holds_alloc w (mMsg 10 D C i p S T P r q a b c v e g s) 27 rfl).alloc (by simp) _).keep hb, (holds_alloc _ (mMsg 10 D C i p S 0 0 0 0 0 0 0 0 0 0 0) 27 (by simp)).keep hb,
        fun x => by rw [(bcell hb).2 _ _ (by simp)]; exact frozen_new _ _ _ _ (by simp), below_step (below_alloc (below_alloc (Below.refl _ _) _) _) hb⟩
    have G := Lib.hid G1
    clear G1
    rcases base_cases D C i p S with ⟨q0, k⟩ | ⟨q0, q1, k⟩ | ⟨q0, q1, q2, k⟩ | ⟨q0, q1, q2, q3, k⟩ | ⟨q0, q1, q2, q3, k⟩
    · have kk := Lib.hid k
      clear k
      go_wp2_with (go_at_call 29; refine (pinside_any _ _ _ _).mono ?_; rintro e1 w9 ⟨rfl, rfl⟩)
      go_meet
      exact ⟨by rw [kk.out], G.out _ (Below.refl _ _)⟩
    · have kk := Lib.hid k
      clear k
      go_wp2_with (first | (go_at_call 29; refine (pinside_any _ _ _ _).mono ?_; rintro e1 w9 ⟨rfl, rfl⟩) | (go_at_call 40; refine (ptStamp_any _ _).mono ?_; rintro e1 w9 ⟨rfl, rfl⟩))
      go_meet
      exact ⟨by rw [kk.out], G.out _ (Below.refl _ _)⟩
    all_goals
      have kk := Lib.hid k
      clear k
      go_wp2_with (first | (go_at_call 29; refine (pinside_any _ _ _ _).mono ?_; rintro e1 w9 ⟨rfl, rfl⟩) | (go_at_call 40; refine (ptStamp_any _ _).mono ?_; rintro e1 w9 ⟨rfl, rfl⟩))
      refine (checkPort_any _ _ _).mono ?_
      rintro e1 wz ⟨rfl, hb1⟩
      have G2 := Lib.hid (G.out wz hb1)
      have c6 : wz.cell? ⟨w.heap.size, 5, none⟩ = some (.int .i64 S) := G2.out.1 5 _ rfl
      clear hb1
      go_wp2_with (go_at_call 29; refine (pinside_any _ _ _ _).mono ?_; rintro e1 w9 ⟨rfl, rfl⟩)
      go_meet
      exact ⟨by rw [kk.out], G2.out⟩
  case rest =>
    obtain ⟨rfl, hm, ho, hf, hB⟩ := hcut
    have HM := Lib.hid hm
    have HO := Lib.hid ho
    have HF := Lib.hid hf
    have HB := Lib.hid hB
    clear hm ho hf hB
    have c0 : wc.cell? ⟨w.heap.size, 0, none⟩ = some (.int .i64 10) := HM.out 0 _ rfl
    have z1 : w.heap.size + 1 < wc.heap.size := World.block_lt_of_cell? _ _ (HO.out 0 _ rfl)
    have z0 : w.heap.size < wc.heap.size := by omega
    have r6 : wc.cell? ⟨w.heap.size, 6, none⟩ = some (.int .i64 T) := HM.out 6 _ rfl
    have r8 : wc.cell? ⟨w.heap.size, 8, none⟩ = some (.int .i64 r) := HM.out 8 _ rfl
    have r9 : wc.cell? ⟨w.heap.size, 9, none⟩ = some (.int .i64 q) := HM.out 9 _ rfl
    have o6 : wc.cell? ⟨w.heap.size + 1, 6, none⟩ = some (.int .i64 0) := HO.out 6 _ rfl
    have o8 : wc.cell? ⟨w.heap.size + 1, 8, none⟩ = some (.int .i64 0) := HO.out 8 _ rfl
    have o9 : wc.cell? ⟨w.heap.size + 1, 9, none⟩ = some (.int .i64 0) := HO.out 9 _ rfl
    have hf := HF.out
    go_wp2
    go_region_held3 (fun w' => w'.cell? ⟨w.heap.size, 6, none⟩ = some (.int .i64 T) ∧ w'.cell? ⟨w.heap.size, 8, none⟩ = some (.int .i64 r) ∧ w'.cell? ⟨w.heap.size, 9, none⟩ = some (.int .i64 q)) (first | (go_keep; done) | (refine ⟨?_, ?_, ?_⟩ <;> (go_keep; done)) | fail) (fail)
    all_goals
      refine then_world ?_
      intro W9 hW9
      have HM9 := Lib.hid (show Holds W9 w.heap.size (mMsg 10 D C i p S T P r q a b c v e g s) by subst hW9; repeat (first | exact HM.out | refine Holds.drew ?_ | refine Holds.far ?_ (by omega) _))
      have HO9 := Lib.hid (show Holds W9 (w.heap.size + 1) (mMsg 10 D C i p S T 0 r q 0 0 0 0 0 0 0) by subst hW9; first | exact (((HO.out.set 6 _).set 8 _).set 9 _) | exact (((HO.out.set 6 _).set 8 _).set 9 _).drew | exact (((HO.out.drew.set 6 _).set 8 _).set 9 _) | exact (((HO.out.set 8 _).set 9 _).set 6 _) | exact (((HO.out.set 8 _).set 9 _).set 6 _).drew | exact (((HO.out.drew.set 8 _).set 9 _).set 6 _))
      have HB9 := Lib.hid (show Below w.heap.size w W9 by subst hW9; repeat (first | exact HB.out | refine Below.drew ?_ | refine Below.setCell ?_ (by first | (simp; done) | omega | (simp; omega)) _))
      clear hW9 hf r6 o6 r8 o8 r9 o9
      have k6 : W9.cell? ⟨w.heap.size, 6, none⟩ = some (.int .i64 T) := HM9.out 6 _ rfl
      have k8 : W9.cell? ⟨w.heap.size, 8, none⟩ = some (.int .i64 r) := HM9.out 8 _ rfl
      have k9 : W9.cell? ⟨w.heap.size, 9, none⟩ = some (.int .i64 q) := HM9.out 9 _ rfl
      clear c0 HM HO HB HF
      have c0 : W9.cell? ⟨w.heap.size, 0, none⟩ = some (.int .i64 10) := HM9.out 0 _ rfl
      cases hb : baseB D C i p S
      · go_wp2
        go_ret
        exact ⟨by rw [hb]; first | done | rfl, HB9.out⟩
      cases h0 : inV T (-4398046511104) 4398046511104
      · go_wp2_with (first | (go_at_call 40; refine (ptStamp_any _ _).mono ?_; rintro e1 w9 ⟨rfl, rfl⟩))
        go_ret
        exact ⟨by rw [hb, decide_eq_false (fun x => of_decide_eq_false h0 x.1)]; first | done | rfl, HB9.out⟩
      cases h1 : portB r q
      · go_wp2_with (first | (go_at_call 40; refine (ptStamp_any _ _).mono ?_; rintro e1 w9 ⟨rfl, rfl⟩) | (go_at_call 41; refine (checkPort_any _ _ _).mono ?_; rintro e1 wz ⟨rfl, hb1⟩; have HMz := Lib.hid (HM9.out.keep hb1); have HOz := Lib.hid (HO9.out.keep hb1); have HBz := Lib.hid (below_step HB9.out hb1); clear hb1))
        go_ret
        exact ⟨by rw [hb, decide_eq_false (fun x => of_decide_eq_false h1 x.2.1)]; first | done | rfl, HBz.out⟩
      have hz : (T = T ∧ P = 0 ∧ r = r ∧ q = q ∧ a = 0 ∧ b = 0 ∧ c = 0 ∧ v = 0 ∧ e = 0 ∧ g = 0 ∧ s = 0) ↔ (P = 0 ∧ a = 0 ∧ b = 0 ∧ c = 0 ∧ v = 0 ∧ e = 0 ∧ g = 0 ∧ s = 0) := by simp
      by_cases hzz : P = 0 ∧ a = 0 ∧ b = 0 ∧ c = 0 ∧ v = 0 ∧ e = 0 ∧ g = 0 ∧ s = 0
      · have hne := fun W => (msg_neq_any 10 D C i p S T P r q a b c v e g s T 0 r q 0 0 0 0 0 0 0 W).trans (by rw [decide_eq_true (hz.2 hzz), Bool.not_true])
        have HZ := Lib.hid hzz
        clear hzz hz
        go_wp2_with (first | (go_at_call 40; refine (ptStamp_any _ _).mono ?_; rintro e1 w9 ⟨rfl, rfl⟩) | (go_at_call 41; refine (checkPort_any _ _ _).mono ?_; rintro e1 wz ⟨rfl, hb1⟩; have HMz := Lib.hid (HM9.out.keep hb1); have HOz := Lib.hid (HO9.out.keep hb1); have HBz := Lib.hid (below_step HB9.out hb1); clear hb1) | refine wpList_load_wanted (by rfl) (.tmp 1) 27 rfl w.heap.size 0 (mMsg 10 D C i p S T P r q a b c v e g s) rfl ha.out hs.out HMz.out ?_ | refine wpList_load_wanted (by rfl) (.tmp 3) 27 rfl (w.heap.size + 1) 0 (mMsg 10 D C i p S T 0 r q 0 0 0 0 0 0 0) rfl ha.out hs.out HOz.out ?_)
        go_ret
        exact ⟨by rw [hb, decide_eq_true ⟨of_decide_eq_true h0, of_decide_eq_true h1, HZ.out⟩]; first | done | rfl, HBz.out⟩
      · have hne := fun W => (msg_neq_any 10 D C i p S T P r q a b c v e g s T 0 r q 0 0 0 0 0 0 0 W).trans (by rw [decide_eq_false (fun x => hzz (hz.1 x)), Bool.not_false])
        have HZ := Lib.hid hzz
        clear hzz hz
        go_wp2_with (first | (go_at_call 40; refine (ptStamp_any _ _).mono ?_; rintro e1 w9 ⟨rfl, rfl⟩) | (go_at_call 41; refine (checkPort_any _ _ _).mono ?_; rintro e1 wz ⟨rfl, hb1⟩; have HMz := Lib.hid (HM9.out.keep hb1); have HOz := Lib.hid (HO9.out.keep hb1); have HBz := Lib.hid (below_step HB9.out hb1); clear hb1) | refine wpList_load_wanted (by rfl) (.tmp 1) 27 rfl w.heap.size 0 (mMsg 10 D C i p S T P r q a b c v e g s) rfl ha.out hs.out HMz.out ?_ | refine wpList_load_wanted (by rfl) (.tmp 3) 27 rfl (w.heap.size + 1) 0 (mMsg 10 D C i p S T 0 r q 0 0 0 0 0 0 0) rfl ha.out hs.out HOz.out ?_)
        go_ret
        exact ⟨by rw [hb, decide_eq_false (fun x => HZ.out x.2.2)]; first | done | rfl, HBz.out⟩

end Go.Proofs.Ytecengclcaodeaa
