/-
  DelayKnown: for every input the law returns true, and its arguments read as before. No conditions.
-/
import Derived.Test.YtpbolnieclbdmaaDelayWorks
import Derived.Test.YtpbolnieclbdmaaDelayRef
import Derived.Test.YtpbolnieclbdmaaOpen12
import Derived.Lib.QuietBelow
import Derived.BigQuiet
namespace Go.Proofs.Ytpbolnieclbdmaa
open Go.RowKit Go.Lib Plain
open Go.ChangeShapes Go.WideShapes Go.ChangeAt

set_option maxHeartbeats 4000000 in
set_option maxRecDepth 100000 in
theorem delayKnown_walk (w : World) : Calls Try.prog 10 #[] w fun y w' => y = .returned (.bool true) ∧ Below w.heap.size w w' := by
  go_enter Try.func10, Try.ntmps10
  go_wp2_with fail
  refine (works_any _).mono ?_
  rintro y w1 ⟨rfl, hb1⟩
  have H1 := Lib.hid (below_step (Below.refl _ _) hb1)
  clear hb1
  go_wp2_with fail
  refine (delay_any (-4398046511104) (4398046511104) (4398046511104) (4398046511104) _).mono ?_
  rw [show delV (-4398046511104) (4398046511104) (4398046511104) (4398046511104) = 4398046511104 by decide +kernel, show xV (-4398046511104) (4398046511104) (4398046511104) (4398046511104) = 0 by decide +kernel]
  rintro y w2 ⟨rfl, hb2⟩
  have H2 := Lib.hid (below_step (H1.out) hb2)
  clear hb2 H1
  go_wp2_with fail
  refine (delay_any (0) (-4398046511104) (4398046511104) (1) _).mono ?_
  rw [show delV (0) (-4398046511104) (4398046511104) (1) = -4398046511104 by decide +kernel, show xV (0) (-4398046511104) (4398046511104) (1) = 0 by decide +kernel]
  rintro y w3 ⟨rfl, hb3⟩
  have H3 := Lib.hid (below_step (H2.out) hb3)
  clear hb3 H2
  go_wp2_with fail
  refine (ratio_any 0 0 0 0 1 0 2 1 _).mono ?_
  unfold RtPost
  rw [show rtV (OkX 0 0 0 0 ∧ OkX 1 0 2 1) (1 - 0) (2 - 0) = 0 by decide +kernel, show rtE (OkX 0 0 0 0 ∧ OkX 1 0 2 1) (1 - 0) (2 - 0) = 6 by decide +kernel]
  rintro y w4 ⟨rfl, hb4⟩
  have H4 := Lib.hid (below_step (H3.out) hb4)
  clear hb4 H3
  go_wp2_with fail
  refine (ratio_any 0 0 0 0 0 0 1008388608 1000000000 _).mono ?_
  unfold RtPost
  rw [show rtV (OkX 0 0 0 0 ∧ OkX 0 0 1008388608 1000000000) (1000000000 - 0) (1008388608 - 0) = 8388608 by decide +kernel, show rtE (OkX 0 0 0 0 ∧ OkX 0 0 1008388608 1000000000) (1000000000 - 0) (1008388608 - 0) = 0 by decide +kernel]
  rintro y w5 ⟨rfl, hb5⟩
  have H5 := Lib.hid (below_step (H4.out) hb5)
  clear hb5 H4
  go_wp2_with fail
  refine (ratio_any 0 0 0 0 0 0 1008388609 1000000000 _).mono ?_
  unfold RtPost
  rw [show rtV (OkX 0 0 0 0 ∧ OkX 0 0 1008388609 1000000000) (1000000000 - 0) (1008388609 - 0) = 0 by decide +kernel, show rtE (OkX 0 0 0 0 ∧ OkX 0 0 1008388609 1000000000) (1000000000 - 0) (1008388609 - 0) = 6 by decide +kernel]
  rintro y w6 ⟨rfl, hb6⟩
  have H6 := Lib.hid (below_step (H5.out) hb6)
  clear hb6 H5
  go_wp2_with fail
  refine (ratio_any 0 0 0 0 0 0 999999999 1000000001 _).mono ?_
  unfold RtPost
  rw [show rtV (OkX 0 0 0 0 ∧ OkX 0 0 999999999 1000000001) (1000000001 - 0) (999999999 - 0) = -2 by decide +kernel, show rtE (OkX 0 0 0 0 ∧ OkX 0 0 999999999 1000000001) (1000000001 - 0) (999999999 - 0) = 0 by decide +kernel]
  rintro y w7 ⟨rfl, hb7⟩
  have H7 := Lib.hid (below_step (H6.out) hb7)
  clear hb7 H6
  go_wp2_with fail
  refine (ratio_any 1 0 0 0 0 0 0 0 _).mono ?_
  unfold RtPost
  rw [show rtV (OkX 1 0 0 0 ∧ OkX 0 0 0 0) (0 - 0) (0 - 0) = 0 by decide +kernel, show rtE (OkX 1 0 0 0 ∧ OkX 0 0 0 0) (0 - 0) (0 - 0) = 220 by decide +kernel]
  rintro y w8 ⟨rfl, hb8⟩
  have H8 := Lib.hid (below_step (H7.out) hb8)
  clear hb8 H7
  go_wp2_with fail
  refine (meet_any 0 200001 0 0 (-1) 0 0 _).mono ?_
  rw [show mt1 0 200001 0 0 (-1) 0 0 = 0 by decide +kernel, show mt2 0 200001 0 0 (-1) 0 0 = 0 by decide +kernel, show mt3 0 200001 0 0 (-1) 0 0 = 0 by decide +kernel, show mt4 0 200001 0 0 (-1) 0 0 = 0 by decide +kernel, show mtE 0 200001 0 0 (-1) 0 0 = 190 by decide +kernel]
  rintro y w9 ⟨rfl, hb9⟩
  have H9 := Lib.hid (below_step (H8.out) hb9)
  clear hb9 H8
  go_wp2_with fail
  refine (meet_any 0 0 0 0 4611686018427387904 4611686018427387904 0 _).mono ?_
  rw [show mt1 0 0 0 0 4611686018427387904 4611686018427387904 0 = 0 by decide +kernel, show mt2 0 0 0 0 4611686018427387904 4611686018427387904 0 = 0 by decide +kernel, show mt3 0 0 0 0 4611686018427387904 4611686018427387904 0 = 0 by decide +kernel, show mt4 0 0 0 0 4611686018427387904 4611686018427387904 0 = 0 by decide +kernel, show mtE 0 0 0 0 4611686018427387904 4611686018427387904 0 = 2 by decide +kernel]
  rintro y w10 ⟨rfl, hb10⟩
  have H10 := Lib.hid (below_step (below_alloc (H9.out) _) hb10)
  clear hb10 H9
  go_wp2_with fail
  refine (delayBound_any 0 1099511627776 1 _).mono ?_
  rw [show dblV 0 1099511627776 1 = 0 by decide +kernel, show dblE 0 1099511627776 1 = 2 by decide +kernel]
  rintro y w11 ⟨rfl, hb11⟩
  have H11 := Lib.hid (below_step (below_alloc (H10.out) _) hb11)
  clear hb11 H10
  go_wp2_with fail
  refine (ratioBound_any 4398046511104 _).mono ?_
  rw [show rblV 4398046511104 = 83 by decide +kernel, show rblE 4398046511104 = 0 by decide +kernel]
  rintro y w12 ⟨rfl, hb12⟩
  have H12 := Lib.hid (below_step (H11.out) hb12)
  clear hb12 H11
  go_wp2
  go_ret
  exact ⟨rfl, H12.out⟩

set_option maxRecDepth 100000 in
theorem delayKnown_lifted (os : Os) (started : os.Started) (H : Type) (enc : TypeId × Value → H) :
    ReturnsInHanded {} Try.checked os 10 .any (Rows.delayKnownSpec.pre6 enc Try.prog Try.f10 [] false) (Rows.delayKnownSpec.post enc Try.prog Try.f10 false true false false) := by
  refine law_lifted started Try.func10 (by kernel_rfl)
    (ChangeSpec.witness6 (enc := enc) (C := Try.checked) false ⟨#[], #[], []⟩ 8 (by kernel_rfl) (by kernel_rfl) (by kernel_rfl) (by kernel_rfl))
    rfl (by kernel_rfl) (by kernel_rfl) (fun ds hd => ?_) ?_
  · rw [Try.params10] at hd
    match ds, hd with
    | [], _ => exact ⟨rfl, rfl, rfl⟩
  · intro W base args ds p hval hA
    rw [Try.params10] at hA hval
    obtain ⟨hz, rfl, rfl⟩ := trodAll_nil hA
    obtain rfl : args = #[] := by
      cases args; simp_all
    exact delayKnown_walk  W

theorem delayKnown_holds : Rows.DelayKnownSaid :=
  OpenClaim.holds_of_wide 10 Try.f10 rfl rfl rfl rfl rfl rfl rfl ⟨rfl, rfl, rfl, rfl, rfl⟩ rfl rfl rfl rfl rfl (by kernel_rfl) Try.func10 (by kernel_rfl)
    (of_decide_eq_true (by kernel_rfl)) (by unfold Func.isWrapper; first | (rw [if_pos (by decide +kernel)]; kernel_rfl) | (rw [if_neg (by decide +kernel)]; exact ⟨rfl, rfl⟩))
    (fun os started H enc _ => delayKnown_lifted os started H enc)
#print axioms delayKnown_holds

end Go.Proofs.Ytpbolnieclbdmaa
