/-
  ptp.Check of a message of the kind 11. No conditions.
-/
import Derived.Test.YtecengclcaodeaaPtpMas
import Derived.Test.YtecengclcaodeaaAt
import Derived.Deep.RegionHeld3
import Derived.Deep.DeepCutAuto
import Derived.WalkMore
namespace Go.Proofs.Ytecengclcaodeaa
open Go.RowKit Go.Lib Plain

set_option maxHeartbeats 16000000 in
set_option maxRecDepth 100000 in
theorem chk_11 (D C i p S T P r q a b c v e g s : Int) (w : World) : Calls Try.prog 24 #[.agg #[.int .i64 11, .int .i64 D, .int .i64 C, .int .i64 i, .int .i64 p, .int .i64 S, .int .i64 T, .int .i64 P, .int .i64 r, .int .i64 q, .int .i64 a, .int .i64 b, .int .i64 c, .int .i64 v, .int .i64 e, .int .i64 g, .int .i64 s]] w fun y w' => y = .returned (.int .i64 (chkB (baseB D C i p S) (decide (MasterOk a b c v e g ∧ In s 0 65535 ∧ T = 0 ∧ P = 0 ∧ r = 0 ∧ q = 0)))) ∧ Below w.heap.size w w' := by
  have ha := Lib.hid agg_msg
  have hs := Lib.hid size_msg
  go_enter Try.func24, Try.ntmps24
  go_upto_region 2 with fail
  go_cut [4] (fun s4 wx => s4 = .bool (baseB D C i p S) ∧ Holds wx w.heap.size (mMsg 11 D C i p S T P r q a b c v e g s) ∧ Holds wx (w.heap.size + 1) (mMsg 11 D C i p S 0 0 0 0 0 0 0 0 0 0 0) ∧ (∀ x, wx.frozen? ⟨w.heap.size + 1, x, none⟩ = false) ∧ Below w.heap.size w wx)
  case first =>
    have G1 : ∀ wz, Below ((w.alloc (.cells (mMsg 11 D C i p S T P r q a b c v e g s).toArray 27)).alloc (.cells (mMsg 11 D C i p S 0 0 0 0 0 0 0 0 0 0 0).toArray 27)).heap.size ((w.alloc (.cells (mMsg 11 D C i p S T P r q a b c v e g s).toArray 27)).alloc (.cells (mMsg 11 D C i p S 0 0 0 0 0 0 0 0 0 0 0).toArray 27)) wz →
        Holds wz w.heap.size (mMsg 11 D C i p S T P r q a b c v e g s) ∧ Holds wz (w.heap.size + 1) (mMsg 11 D C i p S 0 0 0 0 0 0 0 0 0 0 0) ∧ (∀ x, wz.frozen? ⟨w.heap.size + 1, x, none⟩ = false) ∧ Below w.heap.size w wz := fun wz hb =>
      ⟨((holds_alloc w (mMsg 11 D C i p S T P r q a b c v e g s) 27 rfl).alloc (by simp) _).keep hb, (holds_alloc _ (mMsg 11 D C i p S 0 0 0 0 0 0 0 0 0 0 0) 27 (by simp)).keep hb,
        fun x => by rw [(bcell hb).2 _ _ (by simp)]; exact frozen_new _ _ _ _ (by simp), below_step (below_alloc (below_alloc (Below.refl _ _) _) _) hb⟩
    have G := Lib.hid G1
    clear G1
    rcases base_cases D C i p S with ⟨q0, k⟩ | ⟨q0, q1, k⟩ | ⟨q0, q1, q2, k⟩ | ⟨q0, q1, q2, q3, k⟩ | ⟨q0, q1, q2, q3, k⟩
    · have kk := Lib.hid k
      clear k
      go_wp2_with (go_at_call 29; refine (pinside_any _ _ _ _).mono ?_; rintro e1 w9 ⟨rfl, rfl⟩)
      go_meet
      exact ⟨by rw [kk.out], G.out _ (Below.refl _ _)⟩
    · have kk := Lib.hid k
      clear k
      go_wp2_with (first | (go_at_call 29; refine (pinside_any _ _ _ _).mono ?_; rintro e1 w9 ⟨rfl, rfl⟩) | (go_at_call 40; refine (ptStamp_any _ _).mono ?_; rintro e1 w9 ⟨rfl, rfl⟩))
      go_meet
      exact ⟨by rw [kk.out], G.out _ (Below.refl _ _)⟩
    all_goals
      have kk := Lib.hid k
      clear k
      go_wp2_with (first | (go_at_call 29; refine (pinside_any _ _ _ _).mono ?_; rintro e1 w9 ⟨rfl, rfl⟩) | (go_at_call 40; refine (ptStamp_any _ _).mono ?_; rintro e1 w9 ⟨rfl, rfl⟩))
      refine (checkPort_any _ _ _).mono ?_
      rintro e1 wz ⟨rfl, hb1⟩
      have G2 := Lib.hid (G.out wz hb1)
      have c6 : wz.cell? ⟨w.heap.size, 5, none⟩ = some (.int .i64 S) := G2.out.1 5 _ rfl
      clear hb1
      go_wp2_with (go_at_call 29; refine (pinside_any _ _ _ _).mono ?_; rintro e1 w9 ⟨rfl, rfl⟩)
      go_meet
      exact ⟨by rw [kk.out], G2.out⟩
  case rest =>
    obtain ⟨rfl, hm, ho, hf, hB⟩ := hcut
    have HM := Lib.hid hm
    have HO := Lib.hid ho
    have HF := Lib.hid hf
    have HB := Lib.hid hB
    clear hm ho hf hB
    have c0 : wc.cell? ⟨w.heap.size, 0, none⟩ = some (.int .i64 11) := HM.out 0 _ rfl
    have z1 : w.heap.size + 1 < wc.heap.size := World.block_lt_of_cell? _ _ (HO.out 0 _ rfl)
    have z0 : w.heap.size < wc.heap.size := by omega
    have r10 : wc.cell? ⟨w.heap.size, 10, none⟩ = some (.int .i64 a) := HM.out 10 _ rfl
    have r11 : wc.cell? ⟨w.heap.size, 11, none⟩ = some (.int .i64 b) := HM.out 11 _ rfl
    have r12 : wc.cell? ⟨w.heap.size, 12, none⟩ = some (.int .i64 c) := HM.out 12 _ rfl
    have r13 : wc.cell? ⟨w.heap.size, 13, none⟩ = some (.int .i64 v) := HM.out 13 _ rfl
    have r14 : wc.cell? ⟨w.heap.size, 14, none⟩ = some (.int .i64 e) := HM.out 14 _ rfl
    have r15 : wc.cell? ⟨w.heap.size, 15, none⟩ = some (.int .i64 g) := HM.out 15 _ rfl
    have r16 : wc.cell? ⟨w.heap.size, 16, none⟩ = some (.int .i64 s) := HM.out 16 _ rfl
    have o10 : wc.cell? ⟨w.heap.size + 1, 10, none⟩ = some (.int .i64 0) := HO.out 10 _ rfl
    have o11 : wc.cell? ⟨w.heap.size + 1, 11, none⟩ = some (.int .i64 0) := HO.out 11 _ rfl
    have o12 : wc.cell? ⟨w.heap.size + 1, 12, none⟩ = some (.int .i64 0) := HO.out 12 _ rfl
    have o13 : wc.cell? ⟨w.heap.size + 1, 13, none⟩ = some (.int .i64 0) := HO.out 13 _ rfl
    have o14 : wc.cell? ⟨w.heap.size + 1, 14, none⟩ = some (.int .i64 0) := HO.out 14 _ rfl
    have o15 : wc.cell? ⟨w.heap.size + 1, 15, none⟩ = some (.int .i64 0) := HO.out 15 _ rfl
    have o16 : wc.cell? ⟨w.heap.size + 1, 16, none⟩ = some (.int .i64 0) := HO.out 16 _ rfl
    have hf := HF.out
    have HK := Lib.hid (show ∀ (W : World) (jj : Nat) (vv : Value), (W.cell? ⟨w.heap.size, 10, none⟩ = some (.int .i64 a) ∧ W.cell? ⟨w.heap.size, 11, none⟩ = some (.int .i64 b) ∧ W.cell? ⟨w.heap.size, 12, none⟩ = some (.int .i64 c) ∧ W.cell? ⟨w.heap.size, 13, none⟩ = some (.int .i64 v) ∧ W.cell? ⟨w.heap.size, 14, none⟩ = some (.int .i64 e) ∧ W.cell? ⟨w.heap.size, 15, none⟩ = some (.int .i64 g) ∧ W.cell? ⟨w.heap.size, 16, none⟩ = some (.int .i64 s)) → ((W.setCell ⟨w.heap.size + 1, jj, none⟩ vv).cell? ⟨w.heap.size, 10, none⟩ = some (.int .i64 a) ∧ (W.setCell ⟨w.heap.size + 1, jj, none⟩ vv).cell? ⟨w.heap.size, 11, none⟩ = some (.int .i64 b) ∧ (W.setCell ⟨w.heap.size + 1, jj, none⟩ vv).cell? ⟨w.heap.size, 12, none⟩ = some (.int .i64 c) ∧ (W.setCell ⟨w.heap.size + 1, jj, none⟩ vv).cell? ⟨w.heap.size, 13, none⟩ = some (.int .i64 v) ∧ (W.setCell ⟨w.heap.size + 1, jj, none⟩ vv).cell? ⟨w.heap.size, 14, none⟩ = some (.int .i64 e) ∧ (W.setCell ⟨w.heap.size + 1, jj, none⟩ vv).cell? ⟨w.heap.size, 15, none⟩ = some (.int .i64 g) ∧ (W.setCell ⟨w.heap.size + 1, jj, none⟩ vv).cell? ⟨w.heap.size, 16, none⟩ = some (.int .i64 s)) from fun W jj vv h => by obtain ⟨h0, h1, h2, h3, h4, h5, h6⟩ := h; exact ⟨by rw [World.cell?_setCell_far _ _ _ _ (show w.heap.size + 1 ≠ w.heap.size by omega)]; exact h0, by rw [World.cell?_setCell_far _ _ _ _ (show w.heap.size + 1 ≠ w.heap.size by omega)]; exact h1, by rw [World.cell?_setCell_far _ _ _ _ (show w.heap.size + 1 ≠ w.heap.size by omega)]; exact h2, by rw [World.cell?_setCell_far _ _ _ _ (show w.heap.size + 1 ≠ w.heap.size by omega)]; exact h3, by rw [World.cell?_setCell_far _ _ _ _ (show w.heap.size + 1 ≠ w.heap.size by omega)]; exact h4, by rw [World.cell?_setCell_far _ _ _ _ (show w.heap.size + 1 ≠ w.heap.size by omega)]; exact h5, by rw [World.cell?_setCell_far _ _ _ _ (show w.heap.size + 1 ≠ w.heap.size by omega)]; exact h6⟩)
    have HD := Lib.hid (show ∀ W : World, (W.cell? ⟨w.heap.size, 10, none⟩ = some (.int .i64 a) ∧ W.cell? ⟨w.heap.size, 11, none⟩ = some (.int .i64 b) ∧ W.cell? ⟨w.heap.size, 12, none⟩ = some (.int .i64 c) ∧ W.cell? ⟨w.heap.size, 13, none⟩ = some (.int .i64 v) ∧ W.cell? ⟨w.heap.size, 14, none⟩ = some (.int .i64 e) ∧ W.cell? ⟨w.heap.size, 15, none⟩ = some (.int .i64 g) ∧ W.cell? ⟨w.heap.size, 16, none⟩ = some (.int .i64 s)) → (W.drew.cell? ⟨w.heap.size, 10, none⟩ = some (.int .i64 a) ∧ W.drew.cell? ⟨w.heap.size, 11, none⟩ = some (.int .i64 b) ∧ W.drew.cell? ⟨w.heap.size, 12, none⟩ = some (.int .i64 c) ∧ W.drew.cell? ⟨w.heap.size, 13, none⟩ = some (.int .i64 v) ∧ W.drew.cell? ⟨w.heap.size, 14, none⟩ = some (.int .i64 e) ∧ W.drew.cell? ⟨w.heap.size, 15, none⟩ = some (.int .i64 g) ∧ W.drew.cell? ⟨w.heap.size, 16, none⟩ = some (.int .i64 s)) from fun W h => by obtain ⟨h0, h1, h2, h3, h4, h5, h6⟩ := h; exact ⟨by simpa using h0, by simpa using h1, by simpa using h2, by simpa using h3, by simpa using h4, by simpa using h5, by simpa using h6⟩)
    have hS0 : wc.cell? ⟨w.heap.size, 10, none⟩ = some (.int .i64 a) ∧ wc.cell? ⟨w.heap.size, 11, none⟩ = some (.int .i64 b) ∧ wc.cell? ⟨w.heap.size, 12, none⟩ = some (.int .i64 c) ∧ wc.cell? ⟨w.heap.size, 13, none⟩ = some (.int .i64 v) ∧ wc.cell? ⟨w.heap.size, 14, none⟩ = some (.int .i64 e) ∧ wc.cell? ⟨w.heap.size, 15, none⟩ = some (.int .i64 g) ∧ wc.cell? ⟨w.heap.size, 16, none⟩ = some (.int .i64 s) := ⟨r10, r11, r12, r13, r14, r15, r16⟩
    have t00 := Lib.hid (show Holds _ (w.heap.size + 1) (mMsg 11 D C i p S 0 0 0 0 a b c v e g s) from (((((((HO.out.set 10 (.int .i64 a)).set 11 (.int .i64 b)).set 12 (.int .i64 c)).set 13 (.int .i64 v)).set 14 (.int .i64 e)).set 15 (.int .i64 g)).set 16 (.int .i64 s)))
    have t01 := Lib.hid (show Holds _ (w.heap.size + 1) (mMsg 11 D C i p S 0 0 0 0 a b c v e g s) from (((((((HO.out.drew.set 10 (.int .i64 a)).set 11 (.int .i64 b)).set 12 (.int .i64 c)).set 13 (.int .i64 v)).set 14 (.int .i64 e)).set 15 (.int .i64 g)).set 16 (.int .i64 s)))
    have t10 := Lib.hid (show Holds _ (w.heap.size + 1) (mMsg 11 D C i p S 0 0 0 0 a b c v e g s) from (((((((HO.out.set 16 (.int .i64 s)).set 10 (.int .i64 a)).set 11 (.int .i64 b)).set 12 (.int .i64 c)).set 13 (.int .i64 v)).set 14 (.int .i64 e)).set 15 (.int .i64 g)))
    have t11 := Lib.hid (show Holds _ (w.heap.size + 1) (mMsg 11 D C i p S 0 0 0 0 a b c v e g s) from (((((((HO.out.drew.set 16 (.int .i64 s)).set 10 (.int .i64 a)).set 11 (.int .i64 b)).set 12 (.int .i64 c)).set 13 (.int .i64 v)).set 14 (.int .i64 e)).set 15 (.int .i64 g)))
    go_wp2
    go_region_held3 (fun w' => w'.cell? ⟨w.heap.size, 10, none⟩ = some (.int .i64 a) ∧ w'.cell? ⟨w.heap.size, 11, none⟩ = some (.int .i64 b) ∧ w'.cell? ⟨w.heap.size, 12, none⟩ = some (.int .i64 c) ∧ w'.cell? ⟨w.heap.size, 13, none⟩ = some (.int .i64 v) ∧ w'.cell? ⟨w.heap.size, 14, none⟩ = some (.int .i64 e) ∧ w'.cell? ⟨w.heap.size, 15, none⟩ = some (.int .i64 g) ∧ w'.cell? ⟨w.heap.size, 16, none⟩ = some (.int .i64 s)) (first | with_reducible assumption | ((repeat (first | with_reducible assumption | with_reducible refine HK.out _ _ _ ?_ | with_reducible refine HD.out _ ?_)); done) | fail) (fail)
    all_goals
      refine then_world ?_
      intro W9 hW9
      have HM9 := Lib.hid (show Holds W9 w.heap.size (mMsg 11 D C i p S T P r q a b c v e g s) by subst hW9; repeat (first | with_reducible exact HM.out | with_reducible refine Holds.drew ?_ | with_reducible refine Holds.far ?_ (by omega) _))
      have HO9 := Lib.hid (show Holds W9 (w.heap.size + 1) (mMsg 11 D C i p S 0 0 0 0 a b c v e g s) by subst hW9; first | with_reducible exact t00.out | with_reducible exact t00.out.drew | with_reducible exact t01.out | with_reducible exact t01.out.drew | with_reducible exact t10.out | with_reducible exact t10.out.drew | with_reducible exact t11.out | with_reducible exact t11.out.drew)
      have HB9 := Lib.hid (show Below w.heap.size w W9 by subst hW9; repeat (first | with_reducible exact HB.out | with_reducible refine Below.drew ?_ | with_reducible refine Below.setCell ?_ (by first | (simp; done) | omega | (simp; omega)) _))
      clear hW9 hf r10 o10 r11 o11 r12 o12 r13 o13 r14 o14 r15 o15 r16 o16
      have k10 : W9.cell? ⟨w.heap.size, 10, none⟩ = some (.int .i64 a) := HM9.out 10 _ rfl
      have k11 : W9.cell? ⟨w.heap.size, 11, none⟩ = some (.int .i64 b) := HM9.out 11 _ rfl
      have k12 : W9.cell? ⟨w.heap.size, 12, none⟩ = some (.int .i64 c) := HM9.out 12 _ rfl
      have k13 : W9.cell? ⟨w.heap.size, 13, none⟩ = some (.int .i64 v) := HM9.out 13 _ rfl
      have k14 : W9.cell? ⟨w.heap.size, 14, none⟩ = some (.int .i64 e) := HM9.out 14 _ rfl
      have k15 : W9.cell? ⟨w.heap.size, 15, none⟩ = some (.int .i64 g) := HM9.out 15 _ rfl
      have k16 : W9.cell? ⟨w.heap.size, 16, none⟩ = some (.int .i64 s) := HM9.out 16 _ rfl
      clear c0 HM HO HB HF
      have c0 : W9.cell? ⟨w.heap.size, 0, none⟩ = some (.int .i64 11) := HM9.out 0 _ rfl
      cases hb : baseB D C i p S
      · go_wp2
        go_ret
        exact ⟨by rw [hb]; first | done | rfl, HB9.out⟩
      cases h0 : masB a b c v e g
      · have hE : masE a b c v e g = 201 := if_neg (of_decide_eq_false h0)
        go_wp2_with (first | (go_at_call 12; refine (checkMaster_any _ _ _ _ _ _ _).mono ?_; rintro e1 wz ⟨rfl, hb1⟩; have HMz := Lib.hid (HM9.out.keep hb1); have HOz := Lib.hid (HO9.out.keep hb1); have HBz := Lib.hid (below_step HB9.out hb1); have ks : wz.cell? ⟨w.heap.size, 16, none⟩ = some (.int .i64 s) := HMz.out 16 _ rfl; clear hb1))
        go_ret
        exact ⟨by rw [hb, decide_eq_false (fun x => of_decide_eq_false h0 x.1)]; first | done | rfl, HBz.out⟩
      have hE : masE a b c v e g = 0 := if_pos (of_decide_eq_true h0)
      cases h1 : inV s 0 65535
      · go_wp2_with (first | (go_at_call 12; refine (checkMaster_any _ _ _ _ _ _ _).mono ?_; rintro e1 wz ⟨rfl, hb1⟩; have HMz := Lib.hid (HM9.out.keep hb1); have HOz := Lib.hid (HO9.out.keep hb1); have HBz := Lib.hid (below_step HB9.out hb1); have ks : wz.cell? ⟨w.heap.size, 16, none⟩ = some (.int .i64 s) := HMz.out 16 _ rfl; clear hb1) | (go_at_call 29; refine (pinside_any _ _ _ _).mono ?_; rintro e1 w9 ⟨rfl, rfl⟩))
        go_ret
        exact ⟨by rw [hb, decide_eq_false (fun x => of_decide_eq_false h1 x.2.1)]; first | done | rfl, HBz.out⟩
      have hz : (T = 0 ∧ P = 0 ∧ r = 0 ∧ q = 0 ∧ a = a ∧ b = b ∧ c = c ∧ v = v ∧ e = e ∧ g = g ∧ s = s) ↔ (T = 0 ∧ P = 0 ∧ r = 0 ∧ q = 0) := by simp
      by_cases hzz : T = 0 ∧ P = 0 ∧ r = 0 ∧ q = 0
      · have hne := fun W => (msg_neq_any 11 D C i p S T P r q a b c v e g s 0 0 0 0 a b c v e g s W).trans (by rw [decide_eq_true (hz.2 hzz), Bool.not_true])
        have HZ := Lib.hid hzz
        clear hzz hz
        go_wp2_with (first | (go_at_call 12; refine (checkMaster_any _ _ _ _ _ _ _).mono ?_; rintro e1 wz ⟨rfl, hb1⟩; have HMz := Lib.hid (HM9.out.keep hb1); have HOz := Lib.hid (HO9.out.keep hb1); have HBz := Lib.hid (below_step HB9.out hb1); have ks : wz.cell? ⟨w.heap.size, 16, none⟩ = some (.int .i64 s) := HMz.out 16 _ rfl; clear hb1) | (go_at_call 29; refine (pinside_any _ _ _ _).mono ?_; rintro e1 w9 ⟨rfl, rfl⟩) | ((with_reducible refine at_load 27 (.tmp 1) ?_); refine wpList_load_wanted (by rfl) (.tmp 1) 27 rfl w.heap.size 0 (mMsg 11 D C i p S T P r q a b c v e g s) rfl ha.out hs.out HMz.out ?_) | ((with_reducible refine at_load 27 (.tmp 3) ?_); refine wpList_load_wanted (by rfl) (.tmp 3) 27 rfl (w.heap.size + 1) 0 (mMsg 11 D C i p S 0 0 0 0 a b c v e g s) rfl ha.out hs.out HOz.out ?_))
        go_ret
        exact ⟨by rw [hb, decide_eq_true ⟨of_decide_eq_true h0, of_decide_eq_true h1, HZ.out⟩]; first | done | rfl, HBz.out⟩
      · have hne := fun W => (msg_neq_any 11 D C i p S T P r q a b c v e g s 0 0 0 0 a b c v e g s W).trans (by rw [decide_eq_false (fun x => hzz (hz.1 x)), Bool.not_false])
        have HZ := Lib.hid hzz
        clear hzz hz
        go_wp2_with (first | (go_at_call 12; refine (checkMaster_any _ _ _ _ _ _ _).mono ?_; rintro e1 wz ⟨rfl, hb1⟩; have HMz := Lib.hid (HM9.out.keep hb1); have HOz := Lib.hid (HO9.out.keep hb1); have HBz := Lib.hid (below_step HB9.out hb1); have ks : wz.cell? ⟨w.heap.size, 16, none⟩ = some (.int .i64 s) := HMz.out 16 _ rfl; clear hb1) | (go_at_call 29; refine (pinside_any _ _ _ _).mono ?_; rintro e1 w9 ⟨rfl, rfl⟩) | ((with_reducible refine at_load 27 (.tmp 1) ?_); refine wpList_load_wanted (by rfl) (.tmp 1) 27 rfl w.heap.size 0 (mMsg 11 D C i p S T P r q a b c v e g s) rfl ha.out hs.out HMz.out ?_) | ((with_reducible refine at_load 27 (.tmp 3) ?_); refine wpList_load_wanted (by rfl) (.tmp 3) 27 rfl (w.heap.size + 1) 0 (mMsg 11 D C i p S 0 0 0 0 a b c v e g s) rfl ha.out hs.out HOz.out ?_))
        go_ret
        exact ⟨by rw [hb, decide_eq_false (fun x => HZ.out x.2.2)]; first | done | rfl, HBz.out⟩

end Go.Proofs.Ytecengclcaodeaa
