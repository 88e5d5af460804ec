/-
  ServoLimits: for every input the law returns true, and its arguments read as before. No conditions.
-/
import Derived.Test.YtakbopkiemlfdaaServoWorks
import Derived.Test.YtakbopkiemlfdaaServoRef2
import Derived.Test.YtakbopkiemlfdaaLift
namespace Go.Proofs.Ytakbopkiemlfdaa
open Go.RowKit Go.Lib Plain
open Go.ChangeShapes Go.WideShapes Go.ChangeAt

set_option maxHeartbeats 1000000 in
theorem servoLimits_walk (e x r : Int) (w : World) : Calls Try.prog 6 #[.int .i64 e, .int .i64 x, .int .i64 r] w fun y w' => y = .returned (.bool true) ∧ Below w.heap.size w w' := by
  by_cases h : LimOk e x r
  · have hl : limB e x r = true := decide_eq_true h
    have HH := Lib.hid h
    clear h
    go_enter Try.func6, Try.ntmps6
    go_wp2_with fail
    refine (works_any _).mono ?_
    rintro y w1 ⟨rfl, hb1⟩
    go_wp2_with fail
    refine (bound_ok e x r HH.out _).mono ?_
    rintro y w2 ⟨rfl, hb2⟩
    go_wp2_with fail
    refine (limits_any e x r _).mono ?_
    rintro y w3 ⟨rfl, rfl⟩
    go_wp2_with fail
    refine (boundRef_any e x r HH.out _).mono ?_
    rintro y w3 ⟨rfl, rfl⟩
    go_wp2
    go_ret
    exact ⟨rfl, below_step hb1 hb2⟩
  · have hl : limB e x r = false := decide_eq_false h
    have HH := Lib.hid h
    clear h
    go_enter Try.func6, Try.ntmps6
    go_wp2_with fail
    refine (works_any _).mono ?_
    rintro y w1 ⟨rfl, hb1⟩
    go_wp2_with fail
    refine (bound_bad e x r HH.out _).mono ?_
    rintro y w2 ⟨rfl, rfl⟩
    go_wp2_with fail
    refine (limits_any e x r _).mono ?_
    rintro y w3 ⟨rfl, rfl⟩
    go_wp2
    go_ret
    exact ⟨rfl, hb1⟩

set_option maxRecDepth 100000 in
theorem servoLimits_lifted (os : Os) (started : os.Started) (H : Type) (enc : TypeId × Value → H) :
    ReturnsInHanded {} Try.checked os 6 .any (Rows.servoLimitsSpec.pre6 enc Try.prog Try.f6 [] false) (Rows.servoLimitsSpec.post enc Try.prog Try.f6 false true false false) := by
  refine law_lifted started Try.func6 (by kernel_rfl)
    (ChangeSpec.witness6 (enc := enc) (C := Try.checked) false ⟨#[], #[.int .i64 0, .int .i64 0, .int .i64 0], []⟩ 8 (by kernel_rfl) (by kernel_rfl) (by kernel_rfl) (by kernel_rfl))
    rfl (by kernel_rfl) (by kernel_rfl) (fun ds hd => ?_) ?_
  · rw [Try.params6] at hd
    match ds, hd with
    | [_, _, _], _ => exact ⟨rfl, rfl, rfl⟩
  · intro W base args ds p hval hA
    rw [Try.params6] at hA hval
    obtain ⟨v0, v1, v2, d0, d1, d2, p0, p1, p2, ha, rfl, rfl, h0, h1, h2⟩ := trodAll_three hA
    obtain rfl : args = #[v0, v1, v2] := by cases args; simp at ha; simp [ha]
    obtain ⟨a, rfl, rfl, rfl, wa⟩ := open_int Try.underlying3 (hval 0 3 v0 rfl rfl) h0
    obtain ⟨b, rfl, rfl, rfl, wb⟩ := open_int Try.underlying3 (hval 1 3 v1 rfl rfl) h1
    obtain ⟨c, rfl, rfl, rfl, wc⟩ := open_int Try.underlying3 (hval 2 3 v2 rfl rfl) h2
    exact servoLimits_walk a b c W

theorem servoLimits_holds : Rows.ServoLimitsSaid :=
  OpenClaim.holds_of_wide 6 Try.f6 rfl rfl rfl rfl rfl rfl rfl ⟨rfl, rfl, rfl, rfl, rfl⟩ rfl rfl rfl rfl rfl (by kernel_rfl) Try.func6 (by kernel_rfl)
    (of_decide_eq_true (by kernel_rfl)) (by unfold Func.isWrapper; first | (rw [if_pos (by decide +kernel)]; kernel_rfl) | (rw [if_neg (by decide +kernel)]; exact ⟨rfl, rfl⟩))
    (fun os started H enc _ => servoLimits_lifted os started H enc)
#print axioms servoLimits_holds

end Go.Proofs.Ytakbopkiemlfdaa
