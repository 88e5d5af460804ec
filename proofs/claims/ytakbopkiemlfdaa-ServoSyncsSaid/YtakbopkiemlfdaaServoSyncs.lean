/-
  ServoSyncs: for every input the law returns true, and its arguments read as before. No conditions.
-/
import Derived.Test.YtakbopkiemlfdaaServoWorks
import Derived.Test.YtakbopkiemlfdaaServoRef4
import Derived.Test.YtakbopkiemlfdaaServoPair
import Derived.Lib.QuietBelow
import Derived.BigQuiet
namespace Go.Proofs.Ytakbopkiemlfdaa
open Go.RowKit Go.Lib Plain
open Go.ChangeShapes Go.WideShapes Go.ChangeAt

set_option maxHeartbeats 2000000 in
theorem servoSyncs_walk (L M P a b c l m p : Int) (w : World) : Calls Try.prog 5 #[.agg #[.int .i64 L, .int .i64 M, .int .i64 P], .agg #[.int .i64 a, .int .i64 b, .int .i32 c], .int .i64 l, .int .i64 m, .int .i64 p] w fun y w' => y = .returned (.bool true) ∧ Below w.heap.size w w' := by
  go_enter Try.func5, Try.ntmps5
  go_wp2_with fail
  refine (works_any _).mono ?_
  rintro y w1 ⟨rfl, hb1⟩
  have s0 : w1.cell? ⟨w.heap.size, 0, none⟩ = some (.int .i64 L) := below_keep hb1 (by simp [go_sem])
  have s1 : w1.cell? ⟨w.heap.size, 1, none⟩ = some (.int .i64 M) := below_keep hb1 (by simp [go_sem])
  have s2 : w1.cell? ⟨w.heap.size, 2, none⟩ = some (.int .i64 P) := below_keep hb1 (by simp [go_sem])
  have d0 : w1.cell? ⟨w.heap.size + 1, 0, none⟩ = some (.int .i64 a) := below_keep hb1 (by simp [go_sem])
  have d1 : w1.cell? ⟨w.heap.size + 1, 1, none⟩ = some (.int .i64 b) := below_keep hb1 (by simp [go_sem])
  have d2 : w1.cell? ⟨w.heap.size + 1, 2, none⟩ = some (.int .i32 c) := below_keep hb1 (by simp [go_sem])
  have H1 := Lib.hid (below_step (below_alloc (below_alloc (Below.refl _ _) _) _) hb1)
  clear hb1
  go_wp2
  have r0 := fun p : Regrown => cell_regrown s0 p.d p.os
  have r1 := fun p : Regrown => cell_regrown s1 p.d p.os
  have r2 := fun p : Regrown => cell_regrown s2 p.d p.os
  have r3 := fun p : Regrown => cell_regrown d0 p.d p.os
  have r4 := fun p : Regrown => cell_regrown d1 p.d p.os
  have r5 := fun p : Regrown => cell_regrown d2 p.d p.os
  refine wp_region_quiet_below (by kernel_rfl) (by kernel_rfl) ?_
  repeat (go_big_quiet_step (exact Calls.regrown_of (draft_any a b c _)))
  refine wpQuiet_nil ?_
  intro w3 hw
  have H3 := Lib.hid (below_step H1.out (show Below w1.heap.size w1 w3 by obtain ⟨p, rfl⟩ := hw; exact below_regrown _ _ _))
  clear hw r0 r1 r2 r3 r4 r5 s0 s1 s2 d0 d1 d2 H1
  go_wp2
  generalize a.tmod 4398046511105 = L'
  generalize b.tmod 4398046511105 = M'
  generalize c.tmod 8388609 = P'
  go_loopw [25] (fun i wr => ∃ k : Nat, k ≤ 2 ∧ i = .int .i64 k ∧ Below w.heap.size w wr) (fun i _ => 2 - (RowKit.intOf i).toNat)
  case atStart => exact ⟨0, by omega, rfl, H3.out⟩
  case round =>
    clear H3
    obtain ⟨k, hk, rfl, hB⟩ := hrel
    have HB := Lib.hid hB
    clear hB
    by_cases hlt : k < 2
    · obtain ⟨x, y, z, hi⟩ := pair_any L M P L' M' P' k hlt
      go_wp2_with fail
      refine (sync_any x y z l m p _).mono ?_
      rintro e w4 ⟨rfl, hb4⟩
      have x0 : w4.cell? ⟨wr.heap.size, 0, none⟩ = some (.int .i64 x) := below_keep hb4 (by simp [go_sem])
      have x1 : w4.cell? ⟨wr.heap.size, 1, none⟩ = some (.int .i64 y) := below_keep hb4 (by simp [go_sem])
      have x2 : w4.cell? ⟨wr.heap.size, 2, none⟩ = some (.int .i64 z) := below_keep hb4 (by simp [go_sem])
      have H4 := Lib.hid (below_step (below_alloc HB.out _) hb4)
      clear hb4 HB
      have z4 := World.block_lt_of_cell? _ _ x0
      go_wp2_with fail
      refine (syncRef_any x y z l m p _).mono ?_
      rintro e w5 ⟨rfl, hb5⟩
      have s0 : w5.cell? ⟨w4.heap.size, 0, none⟩ = some (.int .i64 (syncL x y z l m p)) := below_keep hb5 (by simp [go_sem])
      have s1 : w5.cell? ⟨w4.heap.size, 1, none⟩ = some (.int .i64 (syncM x y z l m p)) := below_keep hb5 (by simp [go_sem])
      have s2 : w5.cell? ⟨w4.heap.size, 2, none⟩ = some (.int .i64 (syncP x y z l m p)) := below_keep hb5 (by simp [go_sem])
      have z5 := World.block_lt_of_cell? _ _ s0
      have H5 := Lib.hid (below_alloc (below_step (below_alloc H4.out _) hb5) (.cells #[.int .i64 (syncL x y z l m p), .int .i64 (syncM x y z l m p), .int .i64 (syncP x y z l m p)] 23))
      clear hb5 H4 x0 x1 x2
      go_wp2
      go_roundw
      case rel => exact ⟨k + 1, by omega, by go_num, H5.out⟩
      case measure => simp [RowKit.intOf]; omega
    · go_wp2
      go_ret
      exact ⟨rfl, HB.out⟩

set_option maxRecDepth 100000 in
theorem servoSyncs_lifted (os : Os) (started : os.Started) (H : Type) (enc : TypeId × Value → H) :
    ReturnsInHanded {} Try.checked os 5 .any (Rows.servoSyncsSpec.pre6 enc Try.prog Try.f5 [] false) (Rows.servoSyncsSpec.post enc Try.prog Try.f5 false true false false) := by
  refine law_lifted started Try.func5 (by kernel_rfl)
    (ChangeSpec.witness6 (enc := enc) (C := Try.checked) false ⟨#[], #[.agg #[.int .i64 0, .int .i64 0, .int .i64 0], .agg #[.int .i64 0, .int .i64 0, .int .i32 0], .int .i64 0, .int .i64 0, .int .i64 0], []⟩ 8 (by kernel_rfl) (by kernel_rfl) (by kernel_rfl) (by kernel_rfl))
    rfl (by kernel_rfl) (by kernel_rfl) (fun ds hd => ?_) ?_
  · rw [Try.params5] at hd
    match ds, hd with
    | [_, _, _, _, _], _ => exact ⟨rfl, rfl, rfl⟩
  · intro W base args ds p hval hA
    rw [Try.params5] at hA hval
    obtain ⟨v0, vs0, d0, ds0, p0, q0, ha0, rfl, rfl, h0, r0⟩ := trodAll_cons hA
    obtain ⟨v1, vs1, d1, ds1, p1, q1, ha1, rfl, rfl, h1, r1⟩ := trodAll_cons r0
    obtain ⟨v2, vs2, d2, ds2, p2, q2, ha2, rfl, rfl, h2, r2⟩ := trodAll_cons r1
    obtain ⟨v3, vs3, d3, ds3, p3, q3, ha3, rfl, rfl, h3, r3⟩ := trodAll_cons r2
    obtain ⟨v4, vs4, d4, ds4, p4, q4, ha4, rfl, rfl, h4, r4⟩ := trodAll_cons r3
    obtain ⟨hz, rfl, rfl⟩ := trodAll_nil r4
    obtain rfl : args = #[v0, v1, v2, v3, v4] := by
      subst hz
      subst ha4
      subst ha3
      subst ha2
      subst ha1
      cases args; simpa using ha0
    obtain ⟨x0_0, x0_1, x0_2, rfl⟩ := open_servo (hval 0 23 v0 rfl rfl) h0
    obtain ⟨x1_0, x1_1, x1_2, rfl⟩ := open_draft13 (hval 1 25 v1 rfl rfl) h1
    obtain ⟨x2, rfl, rfl, rfl, w2⟩ := open_int Try.underlying3 (hval 2 3 v2 rfl rfl) h2
    obtain ⟨x3, rfl, rfl, rfl, w3⟩ := open_int Try.underlying3 (hval 3 3 v3 rfl rfl) h3
    obtain ⟨x4, rfl, rfl, rfl, w4⟩ := open_int Try.underlying3 (hval 4 3 v4 rfl rfl) h4
    exact servoSyncs_walk x0_0 x0_1 x0_2 x1_0 x1_1 x1_2 x2 x3 x4 W

theorem servoSyncs_holds : Rows.ServoSyncsSaid :=
  OpenClaim.holds_of_wide 5 Try.f5 rfl rfl rfl rfl rfl rfl rfl ⟨rfl, rfl, rfl, rfl, rfl⟩ rfl rfl rfl rfl rfl (by kernel_rfl) Try.func5 (by kernel_rfl)
    (of_decide_eq_true (by kernel_rfl)) (by unfold Func.isWrapper; first | (rw [if_pos (by decide +kernel)]; kernel_rfl) | (rw [if_neg (by decide +kernel)]; exact ⟨rfl, rfl⟩))
    (fun os started H enc _ => servoSyncs_lifted os started H enc)
#print axioms servoSyncs_holds

end Go.Proofs.Ytakbopkiemlfdaa
