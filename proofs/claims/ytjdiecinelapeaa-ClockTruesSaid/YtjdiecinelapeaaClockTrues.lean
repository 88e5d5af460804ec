/-
  ClockTrues: for every input the law returns true, and its arguments read as before. No conditions.
-/
import Derived.Test.YtjdiecinelapeaaClockWorks
import Derived.Test.YtjdiecinelapeaaClockRef2
import Derived.Test.YtjdiecinelapeaaOpen09
import Derived.Lib.QuietBelow
import Derived.BigQuiet
namespace Go.Proofs.Ytjdiecinelapeaa
open Go.RowKit Go.Lib Plain
open Go.ChangeShapes Go.WideShapes Go.ChangeAt

set_option maxHeartbeats 2000000 in
theorem clockTrues_walk (O P a b l : Int) (w : World) : Calls Try.prog 4 #[.agg #[.int .i64 O, .int .i64 P], .agg #[.int .i64 a, .int .i32 b], .int .i64 l] w fun y w' => y = .returned (.bool true) ∧ Below w.heap.size w w' := by
  go_enter Try.func4, Try.ntmps4
  go_wp2_with fail
  refine (works_any _).mono ?_
  rintro y w1 ⟨rfl, hb1⟩
  have s0 : w1.cell? ⟨w.heap.size, 0, none⟩ = some (.int .i64 O) := below_keep hb1 (by simp [go_sem])
  have s1 : w1.cell? ⟨w.heap.size, 1, none⟩ = some (.int .i64 P) := below_keep hb1 (by simp [go_sem])
  have d0 : w1.cell? ⟨w.heap.size + 1, 0, none⟩ = some (.int .i64 a) := below_keep hb1 (by simp [go_sem])
  have d1 : w1.cell? ⟨w.heap.size + 1, 1, none⟩ = some (.int .i32 b) := below_keep hb1 (by simp [go_sem])
  have H1 := Lib.hid (below_step (below_alloc (below_alloc (Below.refl _ _) _) _) hb1)
  clear hb1
  go_wp2
  have r0 := fun p : Regrown => cell_regrown s0 p.d p.os
  have r1 := fun p : Regrown => cell_regrown s1 p.d p.os
  have r3 := fun p : Regrown => cell_regrown d0 p.d p.os
  have r4 := fun p : Regrown => cell_regrown d1 p.d p.os
  refine wp_region_quiet_below (by kernel_rfl) (by kernel_rfl) ?_
  repeat (go_big_quiet_step (exact Calls.regrown_of (clockDraft_any a b _)))
  refine wpQuiet_nil ?_
  intro w3 hw
  have H3 := Lib.hid (below_step H1.out (show Below w1.heap.size w1 w3 by obtain ⟨p, rfl⟩ := hw; exact below_regrown _ _ _))
  clear hw r0 r1 r3 r4 s0 s1 d0 d1 H1
  go_wp2
  generalize a.tmod 1099511627777 = O'
  generalize b.tmod 200001 = P'
  go_loopw [19] (fun i wr => ∃ k : Nat, k ≤ 2 ∧ i = .int .i64 k ∧ Below w.heap.size w wr) (fun i _ => 2 - (RowKit.intOf i).toNat)
  case atStart => exact ⟨0, by omega, rfl, H3.out⟩
  case round =>
    clear H3
    obtain ⟨k, hk, rfl, hB⟩ := hrel
    have HB := Lib.hid hB
    clear hB
    by_cases hlt : k < 2
    · obtain ⟨x, y, hi⟩ := cpair_any O P O' P' k hlt
      go_wp2_with fail
      refine (true_any x y l _).mono ?_
      rintro e w4 ⟨r, q, rfl, hw1, hb4⟩
      have x0 : w4.cell? ⟨wr.heap.size, 0, none⟩ = some (.int .i64 x) := below_keep hb4 (by simp [go_sem])
      have x1 : w4.cell? ⟨wr.heap.size, 1, none⟩ = some (.int .i64 y) := below_keep hb4 (by simp [go_sem])
      have H4 := Lib.hid (below_step (below_alloc HB.out _) hb4)
      clear hb4 HB
      have HW := Lib.hid hw1
      clear hw1
      go_wp2_with fail
      refine (trueRef_any x y l _).mono ?_
      rintro e w5 ⟨r', q', rfl, hw2, hb5⟩
      obtain ⟨rfl, rfl⟩ := HW.out.unique hw2
      have H5 := Lib.hid (below_step H4.out hb5)
      clear hb5 H4 x0 x1 hw2 HW
      go_wp2
      go_roundw
      case rel => exact ⟨k + 1, by omega, by go_num, H5.out⟩
      case measure => simp [RowKit.intOf]; omega
    · go_wp2
      go_ret
      exact ⟨rfl, HB.out⟩

set_option maxRecDepth 100000 in
theorem clockTrues_lifted (os : Os) (started : os.Started) (H : Type) (enc : TypeId × Value → H) :
    ReturnsInHanded {} Try.checked os 4 .any (Rows.clockTruesSpec.pre6 enc Try.prog Try.f4 [] false) (Rows.clockTruesSpec.post enc Try.prog Try.f4 false true false false) := by
  refine law_lifted started Try.func4 (by kernel_rfl)
    (ChangeSpec.witness6 (enc := enc) (C := Try.checked) false ⟨#[], #[.agg #[.int .i64 0, .int .i64 0], .agg #[.int .i64 0, .int .i32 0], .int .i64 0], []⟩ 8 (by kernel_rfl) (by kernel_rfl) (by kernel_rfl) (by kernel_rfl))
    rfl (by kernel_rfl) (by kernel_rfl) (fun ds hd => ?_) ?_
  · rw [Try.params4] at hd
    match ds, hd with
    | [_, _, _], _ => exact ⟨rfl, rfl, rfl⟩
  · intro W base args ds p hval hA
    rw [Try.params4] at hA hval
    obtain ⟨v0, vs0, d0, ds0, p0, q0, ha0, rfl, rfl, h0, r0⟩ := trodAll_cons hA
    obtain ⟨v1, vs1, d1, ds1, p1, q1, ha1, rfl, rfl, h1, r1⟩ := trodAll_cons r0
    obtain ⟨v2, vs2, d2, ds2, p2, q2, ha2, rfl, rfl, h2, r2⟩ := trodAll_cons r1
    obtain ⟨hz, rfl, rfl⟩ := trodAll_nil r2
    obtain rfl : args = #[v0, v1, v2] := by
      subst hz
      subst ha2
      subst ha1
      cases args; simpa using ha0
    obtain ⟨x0_0, x0_1, rfl⟩ := open_clock (hval 0 23 v0 rfl rfl) h0
    obtain ⟨x1_0, x1_1, rfl⟩ := open_draft09 (hval 1 25 v1 rfl rfl) h1
    obtain ⟨x2, rfl, rfl, rfl, w2⟩ := open_int Try.underlying3 (hval 2 3 v2 rfl rfl) h2
    exact clockTrues_walk x0_0 x0_1 x1_0 x1_1 x2 W

theorem clockTrues_holds : Rows.ClockTruesSaid :=
  OpenClaim.holds_of_wide 4 Try.f4 rfl rfl rfl rfl rfl rfl rfl ⟨rfl, rfl, rfl, rfl, rfl⟩ rfl rfl rfl rfl rfl (by kernel_rfl) Try.func4 (by kernel_rfl)
    (of_decide_eq_true (by kernel_rfl)) (by unfold Func.isWrapper; first | (rw [if_pos (by decide +kernel)]; kernel_rfl) | (rw [if_neg (by decide +kernel)]; exact ⟨rfl, rfl⟩))
    (fun os started H enc _ => clockTrues_lifted os started H enc)
#print axioms clockTrues_holds

end Go.Proofs.Ytjdiecinelapeaa
