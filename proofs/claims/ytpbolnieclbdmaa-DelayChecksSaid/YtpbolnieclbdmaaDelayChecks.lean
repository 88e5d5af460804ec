/-
  DelayChecks: for every input the law returns true, and its arguments read as before. No conditions.
-/
import Derived.Test.YtpbolnieclbdmaaDelayWorks
import Derived.Test.YtpbolnieclbdmaaDelayRef
import Derived.Test.YtpbolnieclbdmaaOpen12
import Derived.Lib.QuietBelow
import Derived.BigQuiet
namespace Go.Proofs.Ytpbolnieclbdmaa
open Go.RowKit Go.Lib Plain
open Go.ChangeShapes Go.WideShapes Go.ChangeAt

set_option maxHeartbeats 4000000 in
set_option maxRecDepth 100000 in
theorem delayChecks_walk (a b c d : Int) (w : World) : Calls Try.prog 3 #[.agg #[.int .i64 a, .int .i64 b, .int .i64 c, .int .i64 d]] w fun y w' => y = .returned (.bool true) ∧ Below w.heap.size w w' := by
  by_cases h : OkX a b c d
  · have e1 := Lib.hid (show delV a b c d = dlV a b c d from if_pos h)
    have e2 := Lib.hid (show xV a b c d = 0 from if_pos h)
    have e3 := Lib.hid (show okX a b c d = true from decide_eq_true h)
    have HX := Lib.hid h
    clear h
    go_enter Try.func3, Try.ntmps3
    go_wp2_with fail
    refine (works_any _).mono ?_
    rintro e w1 ⟨rfl, hb1⟩
    have c1 : w1.cell? ⟨w.heap.size, 0, none⟩ = some (.int .i64 a) := below_keep hb1 (by simp [go_sem])
    have c2 : w1.cell? ⟨w.heap.size, 1, none⟩ = some (.int .i64 b) := below_keep hb1 (by simp [go_sem])
    have c3 : w1.cell? ⟨w.heap.size, 2, none⟩ = some (.int .i64 c) := below_keep hb1 (by simp [go_sem])
    have c4 : w1.cell? ⟨w.heap.size, 3, none⟩ = some (.int .i64 d) := below_keep hb1 (by simp [go_sem])
    have H1 := Lib.hid (below_step (below_alloc (Below.refl _ _) _) hb1)
    clear hb1
    go_wp2_with fail
    refine (delay_any a b c d _).mono ?_
    rw [e1.out, e2.out]
    rintro e w2 ⟨rfl, hb2⟩
    have c5 : w2.cell? ⟨w.heap.size, 0, none⟩ = some (.int .i64 a) := below_keep hb2 (c1)
    have c6 : w2.cell? ⟨w.heap.size, 1, none⟩ = some (.int .i64 b) := below_keep hb2 (c2)
    have c7 : w2.cell? ⟨w.heap.size, 2, none⟩ = some (.int .i64 c) := below_keep hb2 (c3)
    have c8 : w2.cell? ⟨w.heap.size, 3, none⟩ = some (.int .i64 d) := below_keep hb2 (c4)
    have H2 := Lib.hid (below_step (H1.out) hb2)
    clear hb2 c1 c2 c3 c4 H1
    go_wp2_with fail
    refine (xRight_any a b c d _).mono ?_
    rw [e3.out]
    rintro e w3 ⟨rfl, hb3⟩
    have c9 : w3.cell? ⟨w.heap.size, 0, none⟩ = some (.int .i64 a) := below_keep hb3 (c5)
    have c10 : w3.cell? ⟨w.heap.size, 1, none⟩ = some (.int .i64 b) := below_keep hb3 (c6)
    have c11 : w3.cell? ⟨w.heap.size, 2, none⟩ = some (.int .i64 c) := below_keep hb3 (c7)
    have c12 : w3.cell? ⟨w.heap.size, 3, none⟩ = some (.int .i64 d) := below_keep hb3 (c8)
    have H3 := Lib.hid (below_step (H2.out) hb3)
    clear hb3 c5 c6 c7 c8 H2
    go_wp2_with fail
    refine (xCheck_any a b c d _).mono ?_
    rw [e2.out]
    rintro e w4 ⟨rfl, hb4⟩
    have c13 : w4.cell? ⟨w.heap.size, 0, none⟩ = some (.int .i64 a) := below_keep hb4 (c9)
    have c14 : w4.cell? ⟨w.heap.size, 1, none⟩ = some (.int .i64 b) := below_keep hb4 (c10)
    have c15 : w4.cell? ⟨w.heap.size, 2, none⟩ = some (.int .i64 c) := below_keep hb4 (c11)
    have c16 : w4.cell? ⟨w.heap.size, 3, none⟩ = some (.int .i64 d) := below_keep hb4 (c12)
    have H4 := Lib.hid (below_step (H3.out) hb4)
    clear hb4 c9 c10 c11 c12 H3
    go_wp2_with fail
    refine (delayRef_any a b c d HX.out _).mono ?_
    rintro e w5 ⟨rfl, hb5⟩
    have c17 : w5.cell? ⟨w.heap.size, 0, none⟩ = some (.int .i64 a) := below_keep hb5 (c13)
    have c18 : w5.cell? ⟨w.heap.size, 1, none⟩ = some (.int .i64 b) := below_keep hb5 (c14)
    have c19 : w5.cell? ⟨w.heap.size, 2, none⟩ = some (.int .i64 c) := below_keep hb5 (c15)
    have c20 : w5.cell? ⟨w.heap.size, 3, none⟩ = some (.int .i64 d) := below_keep hb5 (c16)
    have H5 := Lib.hid (below_step (H4.out) hb5)
    clear hb5 c13 c14 c15 c16 H4
    go_wp2
    go_ret
    exact ⟨rfl, H5.out⟩
  · have e1 := Lib.hid (show delV a b c d = 0 from if_neg h)
    have e2 := Lib.hid (show xV a b c d = 220 from if_neg h)
    have e3 := Lib.hid (show okX a b c d = false from decide_eq_false h)
    clear h
    go_enter Try.func3, Try.ntmps3
    go_wp2_with fail
    refine (works_any _).mono ?_
    rintro e w1 ⟨rfl, hb1⟩
    have c1 : w1.cell? ⟨w.heap.size, 0, none⟩ = some (.int .i64 a) := below_keep hb1 (by simp [go_sem])
    have c2 : w1.cell? ⟨w.heap.size, 1, none⟩ = some (.int .i64 b) := below_keep hb1 (by simp [go_sem])
    have c3 : w1.cell? ⟨w.heap.size, 2, none⟩ = some (.int .i64 c) := below_keep hb1 (by simp [go_sem])
    have c4 : w1.cell? ⟨w.heap.size, 3, none⟩ = some (.int .i64 d) := below_keep hb1 (by simp [go_sem])
    have H1 := Lib.hid (below_step (below_alloc (Below.refl _ _) _) hb1)
    clear hb1
    go_wp2_with fail
    refine (delay_any a b c d _).mono ?_
    rw [e1.out, e2.out]
    rintro e w2 ⟨rfl, hb2⟩
    have c5 : w2.cell? ⟨w.heap.size, 0, none⟩ = some (.int .i64 a) := below_keep hb2 (c1)
    have c6 : w2.cell? ⟨w.heap.size, 1, none⟩ = some (.int .i64 b) := below_keep hb2 (c2)
    have c7 : w2.cell? ⟨w.heap.size, 2, none⟩ = some (.int .i64 c) := below_keep hb2 (c3)
    have c8 : w2.cell? ⟨w.heap.size, 3, none⟩ = some (.int .i64 d) := below_keep hb2 (c4)
    have H2 := Lib.hid (below_step (H1.out) hb2)
    clear hb2 c1 c2 c3 c4 H1
    go_wp2_with fail
    refine (xRight_any a b c d _).mono ?_
    rw [e3.out]
    rintro e w3 ⟨rfl, hb3⟩
    have c9 : w3.cell? ⟨w.heap.size, 0, none⟩ = some (.int .i64 a) := below_keep hb3 (c5)
    have c10 : w3.cell? ⟨w.heap.size, 1, none⟩ = some (.int .i64 b) := below_keep hb3 (c6)
    have c11 : w3.cell? ⟨w.heap.size, 2, none⟩ = some (.int .i64 c) := below_keep hb3 (c7)
    have c12 : w3.cell? ⟨w.heap.size, 3, none⟩ = some (.int .i64 d) := below_keep hb3 (c8)
    have H3 := Lib.hid (below_step (H2.out) hb3)
    clear hb3 c5 c6 c7 c8 H2
    go_wp2_with fail
    refine (xCheck_any a b c d _).mono ?_
    rw [e2.out]
    rintro e w4 ⟨rfl, hb4⟩
    have c13 : w4.cell? ⟨w.heap.size, 0, none⟩ = some (.int .i64 a) := below_keep hb4 (c9)
    have c14 : w4.cell? ⟨w.heap.size, 1, none⟩ = some (.int .i64 b) := below_keep hb4 (c10)
    have c15 : w4.cell? ⟨w.heap.size, 2, none⟩ = some (.int .i64 c) := below_keep hb4 (c11)
    have c16 : w4.cell? ⟨w.heap.size, 3, none⟩ = some (.int .i64 d) := below_keep hb4 (c12)
    have H4 := Lib.hid (below_step (H3.out) hb4)
    clear hb4 c9 c10 c11 c12 H3
    go_wp2
    go_ret
    exact ⟨rfl, H4.out⟩

set_option maxRecDepth 100000 in
theorem delayChecks_lifted (os : Os) (started : os.Started) (H : Type) (enc : TypeId × Value → H) :
    ReturnsInHanded {} Try.checked os 3 .any (Rows.delayChecksSpec.pre6 enc Try.prog Try.f3 [] false) (Rows.delayChecksSpec.post enc Try.prog Try.f3 false true false false) := by
  refine law_lifted started Try.func3 (by kernel_rfl)
    (ChangeSpec.witness6 (enc := enc) (C := Try.checked) false ⟨#[], #[.agg #[.int .i64 0, .int .i64 0, .int .i64 0, .int .i64 0]], []⟩ 8 (by kernel_rfl) (by kernel_rfl) (by kernel_rfl) (by kernel_rfl))
    rfl (by kernel_rfl) (by kernel_rfl) (fun ds hd => ?_) ?_
  · rw [Try.params3] at hd
    match ds, hd with
    | [_], _ => exact ⟨rfl, rfl, rfl⟩
  · intro W base args ds p hval hA
    rw [Try.params3] at hA hval
    obtain ⟨v0, vs0, d0, ds0, p0, q0, ha0, rfl, rfl, h0, r0⟩ := trodAll_cons hA
    obtain ⟨hz, rfl, rfl⟩ := trodAll_nil r0
    obtain rfl : args = #[v0] := by
      subst hz
      cases args; simpa using ha0
    obtain ⟨x0_0, x0_1, x0_2, x0_3, rfl⟩ := open_exch (hval 0 23 v0 rfl rfl) h0
    exact delayChecks_walk x0_0 x0_1 x0_2 x0_3 W

theorem delayChecks_holds : Rows.DelayChecksSaid :=
  OpenClaim.holds_of_wide 3 Try.f3 rfl rfl rfl rfl rfl rfl rfl ⟨rfl, rfl, rfl, rfl, rfl⟩ rfl rfl rfl rfl rfl (by kernel_rfl) Try.func3 (by kernel_rfl)
    (of_decide_eq_true (by kernel_rfl)) (by unfold Func.isWrapper; first | (rw [if_pos (by decide +kernel)]; kernel_rfl) | (rw [if_neg (by decide +kernel)]; exact ⟨rfl, rfl⟩))
    (fun os started H enc _ => delayChecks_lifted os started H enc)
#print axioms delayChecks_holds

end Go.Proofs.Ytpbolnieclbdmaa
