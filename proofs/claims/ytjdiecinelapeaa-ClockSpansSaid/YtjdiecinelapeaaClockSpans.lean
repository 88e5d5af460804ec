/-
  ClockSpans: for every input the law returns true, and its arguments read as before. No conditions.
-/
import Derived.Test.YtjdiecinelapeaaClockWorks
import Derived.Test.YtjdiecinelapeaaClockRef3
import Derived.Test.YtjdiecinelapeaaOpenTwo
import Derived.Test.YtjdiecinelapeaaOpen09
import Derived.Lib.QuietBelow
import Derived.BigQuiet
namespace Go.Proofs.Ytjdiecinelapeaa
open Go.RowKit Go.Lib Plain
open Go.ChangeShapes Go.WideShapes Go.ChangeAt

set_option maxHeartbeats 4000000 in
set_option maxRecDepth 100000 in
theorem clockSpans_walk (O P a b a' b' t n q : Int) (w : World) : Calls Try.prog 5 #[.agg #[.int .i64 O, .int .i64 P], .agg #[.int .i64 a, .int .i32 b, .int .i64 a', .int .i32 b'], .int .i64 t, .int .i64 n, .int .i64 q] w fun y w' => y = .returned (.bool true) ∧ Below w.heap.size w w' := by
  go_enter Try.func5, Try.ntmps5
  go_wp2_with fail
  refine (works_any _).mono ?_
  rintro y w1 ⟨rfl, hb1⟩
  have s0 : w1.cell? ⟨w.heap.size, 0, none⟩ = some (.int .i64 O) := below_keep hb1 (by simp [go_sem])
  have s1 : w1.cell? ⟨w.heap.size, 1, none⟩ = some (.int .i64 P) := below_keep hb1 (by simp [go_sem])
  have d0 : w1.cell? ⟨w.heap.size + 1, 0, none⟩ = some (.int .i64 a) := below_keep hb1 (by simp [go_sem])
  have d1 : w1.cell? ⟨w.heap.size + 1, 1, none⟩ = some (.int .i32 b) := below_keep hb1 (by simp [go_sem])
  have d2 : w1.cell? ⟨w.heap.size + 1, 2, none⟩ = some (.int .i64 a') := below_keep hb1 (by simp [go_sem])
  have d3 : w1.cell? ⟨w.heap.size + 1, 3, none⟩ = some (.int .i32 b') := below_keep hb1 (by simp [go_sem])
  have H1 := Lib.hid (below_step (below_alloc (below_alloc (Below.refl _ _) _) _) hb1)
  clear hb1
  go_wp2
  have r0 := fun p : Regrown => cell_regrown s0 p.d p.os
  have r1 := fun p : Regrown => cell_regrown s1 p.d p.os
  have r3 := fun p : Regrown => cell_regrown d0 p.d p.os
  have r4 := fun p : Regrown => cell_regrown d1 p.d p.os
  refine wp_region_quiet_below (by kernel_rfl) (by kernel_rfl) ?_
  repeat (go_big_quiet_step (exact Calls.regrown_of (clockDraft_any a b _)))
  refine wpQuiet_nil ?_
  intro w3 hw
  have hb : Below w1.heap.size w1 w3 := by obtain ⟨p, rfl⟩ := hw; exact below_regrown _ _ _
  have v2 := below_keep hb d2
  have v3 := below_keep hb d3
  have H3 := Lib.hid (below_step H1.out hb)
  clear hw r0 r1 r3 r4 s0 s1 d0 d1 d2 d3 hb H1
  go_wp2
  generalize a.tmod 1099511627777 = O'
  generalize b.tmod 200001 = P'
  go_loopw [28] (fun i wr => ∃ k : Nat, k ≤ 2 ∧ i = .int .i64 k ∧ wr.cell? ⟨w.heap.size + 1, 2, none⟩ = some (.int .i64 a') ∧ wr.cell? ⟨w.heap.size + 1, 3, none⟩ = some (.int .i32 b') ∧ Below w.heap.size w wr) (fun i _ => 2 - (RowKit.intOf i).toNat)
  case atStart => exact ⟨0, by omega, rfl, v2, v3, H3.out⟩
  case round =>
    clear H3 v2 v3
    obtain ⟨k, hk, rfl, u2, u3, hB⟩ := hrel
    have HB := Lib.hid hB
    clear hB
    by_cases hlt : k < 2
    · obtain ⟨x, y, hi⟩ := cpair_any O P O' P' k hlt
      have zr := World.block_lt_of_cell? _ _ u2
      go_wp2_with fail
      refine (elapsed_any x y t n _).mono ?_
      rintro e w4 ⟨rfl, hb4⟩
      have x0 : w4.cell? ⟨wr.heap.size, 0, none⟩ = some (.int .i64 x) := below_keep hb4 (by simp [go_sem])
      have x1 : w4.cell? ⟨wr.heap.size, 1, none⟩ = some (.int .i64 y) := below_keep hb4 (by simp [go_sem])
      have x2 := below_keep hb4 (show (wr.alloc _).cell? _ = _ from (World.cell?_alloc_lt _ _ _ zr).trans u2)
      have x3 := below_keep hb4 (show (wr.alloc _).cell? _ = _ from (World.cell?_alloc_lt _ _ _ zr).trans u3)
      have H4 := Lib.hid (below_step (below_alloc HB.out _) hb4)
      clear hb4 HB u2 u3 zr
      go_wp2_with fail
      refine (elapsedRef_any x y t n _).mono ?_
      rintro e w5 ⟨rfl, hb5⟩
      have y0 := below_keep hb5 x0
      have y1 := below_keep hb5 x1
      have y2 := below_keep hb5 x2
      have y3 := below_keep hb5 x3
      have H5 := Lib.hid (below_step H4.out hb5)
      clear hb5 H4 x0 x1 x2 x3
      go_wp2
      have r0 := fun p : Regrown => cell_regrown y0 p.d p.os
      have r1 := fun p : Regrown => cell_regrown y1 p.d p.os
      have r2 := fun p : Regrown => cell_regrown y2 p.d p.os
      have r3 := fun p : Regrown => cell_regrown y3 p.d p.os
      refine wp_region_quiet_below (by kernel_rfl) (by kernel_rfl) ?_
      repeat (go_big_quiet_step (first | with_reducible exact Calls.regrown_of (clockDraft_any a' b' _) | with_reducible exact Calls.regrown_of (offset_any (a'.tmod 1099511627777) (b'.tmod 200001) x y t _)))
      refine wpQuiet_nil ?_
      intro w6 hw
      have hb : Below w5.heap.size w5 w6 := by obtain ⟨p, rfl⟩ := hw; exact below_regrown _ _ _
      have c0 := below_keep hb y0
      have c1 := below_keep hb y1
      have c2 := below_keep hb y2
      have c3 := below_keep hb y3
      have H6 := Lib.hid (below_step H5.out hb)
      clear hw r0 r1 r2 r3 hb H5 y0 y1 y2 y3
      go_wp2
      have r0 := fun p : Regrown => cell_regrown c0 p.d p.os
      have r1 := fun p : Regrown => cell_regrown c1 p.d p.os
      have r2 := fun p : Regrown => cell_regrown c2 p.d p.os
      have r3 := fun p : Regrown => cell_regrown c3 p.d p.os
      refine wp_region_quiet_below (by kernel_rfl) (by kernel_rfl) ?_
      repeat (go_big_quiet_step (first | with_reducible exact Calls.regrown_of (clockDraft_any a' b' _) | with_reducible exact Calls.regrown_of (offsetRef_any (a'.tmod 1099511627777) (b'.tmod 200001) x y t _)))
      refine wpQuiet_nil ?_
      intro w7 hw
      have hb : Below w6.heap.size w6 w7 := by obtain ⟨p, rfl⟩ := hw; exact below_regrown _ _ _
      have f0 := below_keep hb c0
      have f1 := below_keep hb c1
      have f2 := below_keep hb c2
      have f3 := below_keep hb c3
      have H7 := Lib.hid (below_step H6.out hb)
      clear hw r0 r1 r2 r3 hb H6 c0 c1 c2 c3
      go_wp2
      have r0 := fun p : Regrown => cell_regrown f0 p.d p.os
      have r1 := fun p : Regrown => cell_regrown f1 p.d p.os
      have r2 := fun p : Regrown => cell_regrown f2 p.d p.os
      have r3 := fun p : Regrown => cell_regrown f3 p.d p.os
      refine wp_region_quiet_below (by kernel_rfl) (by kernel_rfl) ?_
      repeat (go_big_quiet_step (first | with_reducible exact Calls.regrown_of (clockDraft_any a' b' _) | with_reducible exact Calls.regrown_of (offset_any x y (a'.tmod 1099511627777) (b'.tmod 200001) t _)))
      refine wpQuiet_nil ?_
      intro w8 hw
      have hb : Below w7.heap.size w7 w8 := by obtain ⟨p, rfl⟩ := hw; exact below_regrown _ _ _
      have g0 := below_keep hb f0
      have g1 := below_keep hb f1
      have g2 := below_keep hb f2
      have g3 := below_keep hb f3
      have H8 := Lib.hid (below_step H7.out hb)
      clear hw r0 r1 r2 r3 hb H7 f0 f1 f2 f3
      go_wp2
      have r0 := fun p : Regrown => cell_regrown g0 p.d p.os
      have r1 := fun p : Regrown => cell_regrown g1 p.d p.os
      have r2 := fun p : Regrown => cell_regrown g2 p.d p.os
      have r3 := fun p : Regrown => cell_regrown g3 p.d p.os
      refine wp_region_quiet_below (by kernel_rfl) (by kernel_rfl) ?_
      repeat (go_big_quiet_step (first | with_reducible exact Calls.regrown_of (clockDraft_any a' b' _) | with_reducible exact Calls.regrown_of (offsetRef_any x y (a'.tmod 1099511627777) (b'.tmod 200001) t _)))
      refine wpQuiet_nil ?_
      intro w9 hw
      have hb : Below w8.heap.size w8 w9 := by obtain ⟨p, rfl⟩ := hw; exact below_regrown _ _ _
      have h0 := below_keep hb g0
      have h1 := below_keep hb g1
      have h2 := below_keep hb g2
      have h3 := below_keep hb g3
      have H9 := Lib.hid (below_step H8.out hb)
      clear hw r0 r1 r2 r3 hb H8 g0 g1 g2 g3
      go_wp2
      go_roundw
      case rel => exact ⟨k + 1, by omega, by go_num, h2, h3, H9.out⟩
      case measure => simp [RowKit.intOf]; omega
    · clear u2 u3
      go_wp2_with fail
      refine (cbound_any q n _).mono ?_
      rintro e w4 ⟨rfl, hb4⟩
      have H4 := Lib.hid (below_step HB.out hb4)
      clear hb4 HB
      go_wp2_with fail
      refine (cboundRef_any q n _).mono ?_
      rintro e w5 ⟨rfl, rfl⟩
      go_wp2
      go_ret
      exact ⟨rfl, H4.out⟩

set_option maxRecDepth 100000 in
theorem clockSpans_lifted (os : Os) (started : os.Started) (H : Type) (enc : TypeId × Value → H) :
    ReturnsInHanded {} Try.checked os 5 .any (Rows.clockSpansSpec.pre6 enc Try.prog Try.f5 [] false) (Rows.clockSpansSpec.post enc Try.prog Try.f5 false true false false) := by
  refine law_lifted started Try.func5 (by kernel_rfl)
    (ChangeSpec.witness6 (enc := enc) (C := Try.checked) false ⟨#[], #[.agg #[.int .i64 0, .int .i64 0], .agg #[.int .i64 0, .int .i32 0, .int .i64 0, .int .i32 0], .int .i64 0, .int .i64 0, .int .i64 0], []⟩ 8 (by kernel_rfl) (by kernel_rfl) (by kernel_rfl) (by kernel_rfl))
    rfl (by kernel_rfl) (by kernel_rfl) (fun ds hd => ?_) ?_
  · rw [Try.params5] at hd
    match ds, hd with
    | [_, _, _, _, _], _ => exact ⟨rfl, rfl, rfl⟩
  · intro W base args ds p hval hA
    rw [Try.params5] at hA hval
    obtain ⟨v0, vs0, d0, ds0, p0, q0, ha0, rfl, rfl, h0, r0⟩ := trodAll_cons hA
    obtain ⟨v1, vs1, d1, ds1, p1, q1, ha1, rfl, rfl, h1, r1⟩ := trodAll_cons r0
    obtain ⟨v2, vs2, d2, ds2, p2, q2, ha2, rfl, rfl, h2, r2⟩ := trodAll_cons r1
    obtain ⟨v3, vs3, d3, ds3, p3, q3, ha3, rfl, rfl, h3, r3⟩ := trodAll_cons r2
    obtain ⟨v4, vs4, d4, ds4, p4, q4, ha4, rfl, rfl, h4, r4⟩ := trodAll_cons r3
    obtain ⟨hz, rfl, rfl⟩ := trodAll_nil r4
    obtain rfl : args = #[v0, v1, v2, v3, v4] := by
      subst hz
      subst ha4
      subst ha3
      subst ha2
      subst ha1
      cases args; simpa using ha0
    obtain ⟨x0_0, x0_1, rfl⟩ := open_clock (hval 0 23 v0 rfl rfl) h0
    obtain ⟨x1_0, x1_1, x1_2, x1_3, rfl⟩ := open_draft09s (hval 1 35 v1 rfl rfl) h1
    obtain ⟨x2, rfl, rfl, rfl, w2⟩ := open_int Try.underlying3 (hval 2 3 v2 rfl rfl) h2
    obtain ⟨x3, rfl, rfl, rfl, w3⟩ := open_int Try.underlying3 (hval 3 3 v3 rfl rfl) h3
    obtain ⟨x4, rfl, rfl, rfl, w4⟩ := open_int Try.underlying3 (hval 4 3 v4 rfl rfl) h4
    exact clockSpans_walk x0_0 x0_1 x1_0 x1_1 x1_2 x1_3 x2 x3 x4 W

theorem clockSpans_holds : Rows.ClockSpansSaid :=
  OpenClaim.holds_of_wide 5 Try.f5 rfl rfl rfl rfl rfl rfl rfl ⟨rfl, rfl, rfl, rfl, rfl⟩ rfl rfl rfl rfl rfl (by kernel_rfl) Try.func5 (by kernel_rfl)
    (of_decide_eq_true (by kernel_rfl)) (by unfold Func.isWrapper; first | (rw [if_pos (by decide +kernel)]; kernel_rfl) | (rw [if_neg (by decide +kernel)]; exact ⟨rfl, rfl⟩))
    (fun os started H enc _ => clockSpans_lifted os started H enc)
#print axioms clockSpans_holds

end Go.Proofs.Ytjdiecinelapeaa
