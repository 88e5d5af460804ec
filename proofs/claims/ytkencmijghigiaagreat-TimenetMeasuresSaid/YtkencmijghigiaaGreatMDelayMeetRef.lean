/-
  The walk of the reference of delay.Meet.
-/
import Derived.IntWalk
import Derived.Lib.QuietBelow
import Derived.BigQuiet
import Derived.Test.YtkencmijghigiaaGreatMDelayMeet
import Derived.Test.YtkencmijghigiaaGreatMRfs
namespace Go.Proofs.YtkencmijghigiaaGreat
open Go.RowKit Go.Lib Plain

set_option maxHeartbeats 4000000 in
/-- isochronref12.Meet of valid clocks at valid times -/
theorem meetRef_any (O P O' P' t d u : Int) (h : OkC O P) (h' : OkC O' P') (hs : Spn t d u) (w : World) :
    Calls Tryz.prog 29 #[.agg #[.int .i64 O, .int .i64 P], .agg #[.int .i64 O', .int .i64 P'], .int .i64 t, .int .i64 d, .int .i64 u] w
      fun e w' => e = .returned (.agg #[.int .i64 (locV O P t), .int .i64 (locV O' P' (t + d)), .int .i64 (locV O' P' (t + d + u)), .int .i64 (locV O P (t + 2 * d + u))]) ∧ Below w.heap.size w w' := by
  have HC := Lib.hid h
  have HC' := Lib.hid h'
  obtain ⟨⟨t0, t1⟩, ⟨d0, d1⟩, ⟨u0, u1⟩, ht⟩ := hs
  have e1 : IntKind.i64.wrap (t + d) = t + d := IntWalk.i64_in _ (by omega)
  have e2 : IntKind.i64.wrap (t + d + u) = t + d + u := IntWalk.i64_in _ (by omega)
  have e3 : IntKind.i64.wrap (2 * d) = 2 * d := IntWalk.i64_in _ (by omega)
  have e4 : IntKind.i64.wrap (t + 2 * d) = t + 2 * d := IntWalk.i64_in _ (by omega)
  have e5 : IntKind.i64.wrap (t + 2 * d + u) = t + 2 * d + u := IntWalk.i64_in _ (by omega)
  clear h h'
  have T1 := Lib.hid (show Tick t from ⟨t0, t1⟩)
  have T2 := Lib.hid (show Tick (t + d) from ⟨by omega, by omega⟩)
  have T3 := Lib.hid (show Tick (t + d + u) from ⟨by omega, by omega⟩)
  have T4 := Lib.hid (show Tick (t + 2 * d + u) from ⟨by omega, by omega⟩)
  go_enter Tryz.func29, Tryz.ntmps29
  go_wp2
  refine wp_world ?_
  intro W hW
  have x0 : W.cell? ⟨w.heap.size, 0, none⟩ = some (.int .i64 O) := by subst hW; simp [go_sem]
  have x1 : W.cell? ⟨w.heap.size, 1, none⟩ = some (.int .i64 P) := by subst hW; simp [go_sem]
  have y0 : W.cell? ⟨w.heap.size + 1, 0, none⟩ = some (.int .i64 O') := by subst hW; simp [go_sem]
  have y1 : W.cell? ⟨w.heap.size + 1, 1, none⟩ = some (.int .i64 P') := by subst hW; simp [go_sem]
  have k0 : W.cell? ⟨w.heap.size + 2, 0, none⟩ = some (.int .i64 0) := by subst hW; simp [go_sem]
  have k1 : W.cell? ⟨w.heap.size + 2, 1, none⟩ = some (.int .i64 0) := by subst hW; simp [go_sem]
  have k2 : W.cell? ⟨w.heap.size + 2, 2, none⟩ = some (.int .i64 0) := by subst hW; simp [go_sem]
  have k3 : W.cell? ⟨w.heap.size + 2, 3, none⟩ = some (.int .i64 0) := by subst hW; simp [go_sem]
  have k6 : ∀ o, W.frozen? ⟨w.heap.size + 2, o, none⟩ = false := fun o => by subst hW; simp [go_sem]
  have hB : Below w.heap.size w W := by subst hW; exact below_alloc (below_alloc (below_alloc (Below.refl _ _) _) _) _
  have hz : w.heap.size + 2 < W.heap.size := World.block_lt_of_cell? _ _ k0
  have HB := Lib.hid hB
  clear hW hB
  have r0 := fun p : Regrown => cell_regrown x0 p.d p.os
  have r1 := fun p : Regrown => cell_regrown x1 p.d p.os
  have r2 := fun p : Regrown => cell_regrown y0 p.d p.os
  have r3 := fun p : Regrown => cell_regrown y1 p.d p.os
  refine wp_region_quiet_tail 24 (by kernel_rfl) (by kernel_rfl) ?_
  simp only [List.take_succ_cons, List.take_zero, List.drop_succ_cons, List.drop_zero]
  repeat (go_big_quiet_step (first | with_reducible exact Calls.regrown_of (clkAt_any O P t HC.out T1.out _) | with_reducible exact Calls.regrown_of (clkAt_any O' P' (t + d) HC'.out T2.out _) | with_reducible exact Calls.regrown_of (clkAt_any O' P' (t + d + u) HC'.out T3.out _) | with_reducible exact Calls.regrown_of (clkAt_any O P (t + 2 * d + u) HC.out T4.out _)))
  refine wpQuiet_nil ?_
  intro w6 hw
  have hb : Below W.heap.size W w6 := by obtain ⟨p, rfl⟩ := hw; exact below_regrown _ _ _
  have m0 := below_keep hb k0
  have m1 := below_keep hb k1
  have m2 := below_keep hb k2
  have m3 := below_keep hb k3
  have m6 : ∀ o, w6.frozen? ⟨w.heap.size + 2, o, none⟩ = false := fun o => ((bcell hb).2 _ _ hz).trans (k6 o)
  have H6 := Lib.hid (below_step HB.out hb)
  clear hw r0 r1 r2 r3 hb k0 k1 k2 k3 k6 x0 x1 y0 y1 HB
  go_wp2
  refine bodyPost_ret (v := .agg #[.int .i64 (locV O P t), .int .i64 (locV O' P' (t + d)), .int .i64 (locV O' P' (t + d + u)), .int .i64 (locV O P (t + 2 * d + u))]) (by simp [results, Tryz.results29, go_sem, *]) rfl ⟨rfl, ?_⟩
  have hb4 := H6.out
  exact (((hb4.setCell (by simp; omega) _).setCell (by simp; omega) _).setCell (by simp; omega) _).setCell (by simp; omega) _

end Go.Proofs.YtkencmijghigiaaGreat
