/-
  PassLimits: for every input the law returns true, and its arguments read as before. No conditions.
-/
import Derived.Test.YtkbadnehngogjaaPassWorks
import Derived.Test.YtkbadnehngogjaaPassRef
import Derived.Test.YtkbadnehngogjaaOpen14
import Derived.Lib.QuietBelow
import Derived.BigQuiet
namespace Go.Proofs.Ytkbadnehngogjaa
open Go.RowKit Go.Lib Plain
open Go.ChangeShapes Go.WideShapes Go.ChangeAt

set_option maxHeartbeats 8000000 in
set_option maxRecDepth 100000 in
theorem passLimits_walk (e t d r : Int) (w : World) : Calls Try.prog 6 #[.int .i64 e, .int .i64 t, .int .i64 d, .int .i64 r] w fun y w' => y = .returned (.bool true) ∧ Below w.heap.size w w' := by
  by_cases h : PbOk e t d r
  · have e1 := Lib.hid (show pblV e t d r = pbV e t d r from if_pos h)
    have e2 := Lib.hid (show pblE e t d r = 0 from if_pos h)
    have e3 := Lib.hid (show pbB e t d r = true from decide_eq_true h)
    have HX := Lib.hid h
    clear h
    go_enter Try.func6, Try.ntmps6
    go_wp2_with fail
    refine (works_any _).mono ?_
    rintro y w1 ⟨rfl, hb1⟩
    have H1 := Lib.hid (below_step (Below.refl _ _) hb1)
    clear hb1
    go_wp2_with fail
    refine (pBound_any e t d r _).mono ?_
    rw [e1.out, e2.out]
    rintro y w2 ⟨rfl, hb2⟩
    have H2 := Lib.hid (below_step (H1.out) hb2)
    clear hb2 H1
    go_wp2_with fail
    refine (rLimits_any e t d r _).mono ?_
    rw [e3.out]
    rintro y w' ⟨rfl, rfl⟩
    go_wp2_with fail
    refine (rBound_any e t d r HX.out _).mono ?_
    rintro y w' ⟨rfl, rfl⟩
    go_wp2
    go_ret
    exact ⟨rfl, H2.out⟩
  · have e1 := Lib.hid (show pblV e t d r = 0 from if_neg h)
    have e2 := Lib.hid (show pblE e t d r = 2 from if_neg h)
    have e3 := Lib.hid (show pbB e t d r = false from decide_eq_false h)
    clear h
    go_enter Try.func6, Try.ntmps6
    go_wp2_with fail
    refine (works_any _).mono ?_
    rintro y w1 ⟨rfl, hb1⟩
    have H1 := Lib.hid (below_step (Below.refl _ _) hb1)
    clear hb1
    go_wp2_with fail
    refine (pBound_any e t d r _).mono ?_
    rw [e1.out, e2.out]
    rintro y w2 ⟨rfl, hb2⟩
    have H2 := Lib.hid (below_step (H1.out) hb2)
    clear hb2 H1
    go_wp2_with fail
    refine (rLimits_any e t d r _).mono ?_
    rw [e3.out]
    rintro y w' ⟨rfl, rfl⟩
    go_wp2
    go_ret
    exact ⟨rfl, H2.out⟩

set_option maxRecDepth 100000 in
theorem passLimits_lifted (os : Os) (started : os.Started) (H : Type) (enc : TypeId × Value → H) :
    ReturnsInHanded {} Try.checked os 6 .any (Rows.passLimitsSpec.pre6 enc Try.prog Try.f6 [] false) (Rows.passLimitsSpec.post enc Try.prog Try.f6 false true false false) := by
  refine law_lifted started Try.func6 (by kernel_rfl)
    (ChangeSpec.witness6 (enc := enc) (C := Try.checked) false ⟨#[], #[.int .i64 0, .int .i64 0, .int .i64 0, .int .i64 0], []⟩ 8 (by kernel_rfl) (by kernel_rfl) (by kernel_rfl) (by kernel_rfl))
    rfl (by kernel_rfl) (by kernel_rfl) (fun ds hd => ?_) ?_
  · rw [Try.params6] at hd
    match ds, hd with
    | [_, _, _, _], _ => exact ⟨rfl, rfl, rfl⟩
  · intro W base args ds p hval hA
    rw [Try.params6] at hA hval
    obtain ⟨v0, vs0, d0, ds0, p0, q0, ha0, rfl, rfl, h0, r0⟩ := trodAll_cons hA
    obtain ⟨v1, vs1, d1, ds1, p1, q1, ha1, rfl, rfl, h1, r1⟩ := trodAll_cons r0
    obtain ⟨v2, vs2, d2, ds2, p2, q2, ha2, rfl, rfl, h2, r2⟩ := trodAll_cons r1
    obtain ⟨v3, vs3, d3, ds3, p3, q3, ha3, rfl, rfl, h3, r3⟩ := trodAll_cons r2
    obtain ⟨hz, rfl, rfl⟩ := trodAll_nil r3
    obtain rfl : args = #[v0, v1, v2, v3] := by
      subst hz
      subst ha3
      subst ha2
      subst ha1
      cases args; simpa using ha0
    obtain ⟨x0, rfl, rfl, rfl, w0⟩ := open_int Try.underlying3 (hval 0 3 v0 rfl rfl) h0
    obtain ⟨x1, rfl, rfl, rfl, w1⟩ := open_int Try.underlying3 (hval 1 3 v1 rfl rfl) h1
    obtain ⟨x2, rfl, rfl, rfl, w2⟩ := open_int Try.underlying3 (hval 2 3 v2 rfl rfl) h2
    obtain ⟨x3, rfl, rfl, rfl, w3⟩ := open_int Try.underlying3 (hval 3 3 v3 rfl rfl) h3
    exact passLimits_walk x0 x1 x2 x3 W

theorem passLimits_holds : Rows.PassLimitsSaid :=
  OpenClaim.holds_of_wide 6 Try.f6 rfl rfl rfl rfl rfl rfl rfl ⟨rfl, rfl, rfl, rfl, rfl⟩ rfl rfl rfl rfl rfl (by kernel_rfl) Try.func6 (by kernel_rfl)
    (of_decide_eq_true (by kernel_rfl)) (by unfold Func.isWrapper; first | (rw [if_pos (by decide +kernel)]; kernel_rfl) | (rw [if_neg (by decide +kernel)]; exact ⟨rfl, rfl⟩))
    (fun os started H enc _ => passLimits_lifted os started H enc)
#print axioms passLimits_holds

end Go.Proofs.Ytkbadnehngogjaa
