/-
  ServoKnown: the law, which has no arguments, returns true. No conditions.
-/
import Derived.Test.YtakbopkiemlfdaaServoWorks
import Derived.Test.YtakbopkiemlfdaaOpen13
namespace Go.Proofs.Ytakbopkiemlfdaa
open Go.RowKit Go.Lib Plain
open Go.ChangeShapes Go.WideShapes Go.ChangeAt

theorem when_3 : WhenIs (-4398046511104) 4398046511104 8388608 (-4611686018427387904) (-4398046511104) 0 :=
  .inl ⟨by decide +kernel, by decide +kernel, ⟨by decide, by decide, by decide +kernel, fun l h1 h2 => by omega⟩, rfl⟩
theorem when_4 : WhenIs (-4398046511104) 4398046511104 8388608 13267926509607 0 4 := .inr (.inl ⟨by decide +kernel, by decide +kernel, rfl, rfl⟩)

set_option maxHeartbeats 4000000 in
set_option maxRecDepth 100000 in
theorem servoKnown_walk (w : World) : Calls Try.prog 9 #[] w fun y w' => y = .returned (.bool true) ∧ Below w.heap.size w w' := by
  go_enter Try.func9, Try.ntmps9
  go_wp2_with fail
  refine (works_any _).mono ?_
  rintro e w1 ⟨rfl, hb1⟩
  have H1 := Lib.hid hb1
  clear hb1
  go_wp2_with fail
  refine (time_any (-4398046511104) 4398046511104 8388608 4398046511104 _).mono ?_
  rw [show timeV (-4398046511104) 4398046511104 8388608 4398046511104 = 13267926509606 by decide +kernel, show timeE (-4398046511104) 4398046511104 8388608 4398046511104 = 0 by decide +kernel]
  rintro e w2 ⟨rfl, hb2⟩
  have a0 : w2.cell? ⟨w1.heap.size, 0, none⟩ = some (.int .i64 (-4398046511104)) := below_keep hb2 (by simp [go_sem])
  have a1 : w2.cell? ⟨w1.heap.size, 1, none⟩ = some (.int .i64 4398046511104) := below_keep hb2 (by simp [go_sem])
  have a2 : w2.cell? ⟨w1.heap.size, 2, none⟩ = some (.int .i64 8388608) := below_keep hb2 (by simp [go_sem])
  have H2 := Lib.hid (below_step (below_alloc H1.out _) hb2)
  clear hb2 H1
  go_wp2_with fail
  refine (time_any (-4398046511104) 4398046511104 8388608 4398046511105 _).mono ?_
  rw [show timeV (-4398046511104) 4398046511104 8388608 4398046511105 = 0 by decide +kernel, show timeE (-4398046511104) 4398046511104 8388608 4398046511105 = 2 by decide +kernel]
  rintro e w3 ⟨rfl, hb3⟩
  have b0 := below_keep hb3 a0
  have b1 := below_keep hb3 a1
  have b2 := below_keep hb3 a2
  have H3 := Lib.hid (below_step H2.out hb3)
  clear hb3 H2 a0 a1 a2
  go_wp2_with fail
  refine (time_any 4398046511105 0 0 4398046511105 _).mono ?_
  rw [show timeV 4398046511105 0 0 4398046511105 = 0 by decide +kernel, show timeE 4398046511105 0 0 4398046511105 = 230 by decide +kernel]
  rintro e w4 ⟨rfl, hb4⟩
  have c0 := below_keep hb4 b0
  have c1 := below_keep hb4 b1
  have c2 := below_keep hb4 b2
  have H4 := Lib.hid (below_step H3.out hb4)
  clear hb4 H3 b0 b1 b2
  go_wp2_with fail
  refine (when_any (-4398046511104) 4398046511104 8388608 (-4611686018427387904) _).mono ?_
  rintro e w5 ⟨r, k, rfl, hw, hb5⟩
  obtain ⟨rfl, rfl⟩ := when_3.unique hw
  have d0 := below_keep hb5 c0
  have d1 := below_keep hb5 c1
  have d2 := below_keep hb5 c2
  have H5 := Lib.hid (below_step H4.out hb5)
  clear hb5 H4 c0 c1 c2 hw
  go_wp2_with fail
  refine (when_any (-4398046511104) 4398046511104 8388608 13267926509607 _).mono ?_
  rintro e w6 ⟨r, k, rfl, hw, hb6⟩
  obtain ⟨rfl, rfl⟩ := when_4.unique hw
  have e0 := below_keep hb6 d0
  have e1 := below_keep hb6 d1
  have e2 := below_keep hb6 d2
  have H6 := Lib.hid (below_step H5.out hb6)
  clear hb6 H5 d0 d1 d2 hw
  go_wp2_with fail
  refine (sync_arg (-4398046511104) 4398046511104 8388608 (-4398046511104) 0 (-8388609) (by decide +kernel) (by decide) (by decide +kernel) _).mono ?_
  rintro e w7 ⟨rfl, hb7⟩
  have H7 := Lib.hid (below_alloc (below_step H6.out hb7) (.cells #[.int .i64 0, .int .i64 0, .int .i64 0] 23))
  clear hb7 H6 e0 e1 e2
  go_wp2_with fail
  refine (sync_bad 0 (-4398046511105) 0 (-1) 0 0 (by decide +kernel) _).mono ?_
  rintro e w8 ⟨rfl, hb8⟩
  have H8 := Lib.hid (below_alloc (below_step H7.out hb8) (.cells #[.int .i64 0, .int .i64 0, .int .i64 0] 23))
  clear hb8 H7
  go_wp2_with fail
  refine (bound_ok 4398046511104 4398046511104 8388608 (by decide +kernel) _).mono ?_
  rw [show boundV 4398046511104 4398046511104 8388608 = 4434940359895 by decide +kernel]
  rintro e w9 ⟨rfl, hb9⟩
  have H9 := Lib.hid (below_step H8.out hb9)
  clear hb9 H8
  go_wp2_with fail
  refine (bound_bad 0 0 8388609 (by decide +kernel) _).mono ?_
  rintro e w10 ⟨rfl, rfl⟩
  go_wp2
  go_ret
  exact ⟨rfl, H9.out⟩

set_option maxRecDepth 100000 in
theorem servoKnown_lifted (os : Os) (started : os.Started) (H : Type) (enc : TypeId × Value → H) :
    ReturnsInHanded {} Try.checked os 9 .any (Rows.servoKnownSpec.pre6 enc Try.prog Try.f9 [] false) (Rows.servoKnownSpec.post enc Try.prog Try.f9 false true false false) := by
  refine law_lifted started Try.func9 (by kernel_rfl)
    (ChangeSpec.witness6 (enc := enc) (C := Try.checked) false ⟨#[], #[], []⟩ 8 (by kernel_rfl) (by kernel_rfl) (by kernel_rfl) (by kernel_rfl))
    rfl (by kernel_rfl) (by kernel_rfl) (fun ds hd => ?_) ?_
  · rw [Try.params9] at hd
    match ds, hd with
    | [], _ => exact ⟨rfl, rfl, rfl⟩
  · intro W base args ds p hval hA
    rw [Try.params9] at hA hval
    obtain ⟨hz, rfl, rfl⟩ := trodAll_nil hA
    obtain rfl : args = #[] := by
      cases args; simp_all
    exact servoKnown_walk  W

theorem servoKnown_holds : Rows.ServoKnownSaid :=
  OpenClaim.holds_of_wide 9 Try.f9 rfl rfl rfl rfl rfl rfl rfl ⟨rfl, rfl, rfl, rfl, rfl⟩ rfl rfl rfl rfl rfl (by kernel_rfl) Try.func9 (by kernel_rfl)
    (of_decide_eq_true (by kernel_rfl)) (by unfold Func.isWrapper; first | (rw [if_pos (by decide +kernel)]; kernel_rfl) | (rw [if_neg (by decide +kernel)]; exact ⟨rfl, rfl⟩))
    (fun os started H enc _ => servoKnown_lifted os started H enc)
#print axioms servoKnown_holds

end Go.Proofs.Ytakbopkiemlfdaa
