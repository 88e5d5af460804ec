/-
  isochronlaw13.works: the examples of the chapter hold.
-/
import Derived.Test.YtakbopkiemlfdaaServoWhen
import Derived.Test.YtakbopkiemlfdaaServoSync
namespace Go.Proofs.Ytakbopkiemlfdaa
open Go.RowKit Go.Lib Plain

theorem isLeast_at {L M P m r : Int} (h : OkS L M P) (h0 : -4398046511104 < r) (h1 : r ≤ 4398046511104) (h2 : m ≤ atV L M P r) (h3 : atV L M P (r - 1) < m) : IsLeast (atV L M P) (-4398046511104) 4398046511104 m r := by
  refine ⟨by omega, h1, h2, fun l l0 l1 => ?_⟩
  have := at_mono (L := L) (M := M) (P := P) (l := l) (k := r - 1) (by omega) (by obtain ⟨_, _, _, _, h5, _⟩ := h; omega)
  omega
theorem when_1 : WhenIs 100 5000 2000000 6000 1099 0 := .inl ⟨by decide +kernel, by decide +kernel, isLeast_at (by decide +kernel) (by decide) (by decide) (by decide +kernel) (by decide +kernel), rfl⟩
theorem when_2 : WhenIs 100 5000 2000000 5001 101 0 := .inl ⟨by decide +kernel, by decide +kernel, isLeast_at (by decide +kernel) (by decide) (by decide) (by decide +kernel) (by decide +kernel), rfl⟩

set_option maxHeartbeats 4000000 in
set_option maxRecDepth 100000 in
theorem works_any (w : World) : Calls Try.prog 11 #[] w fun e w' => e = .returned (.bool true) ∧ Below w.heap.size w w' := by
  go_enter Try.func11, Try.ntmps11
  go_wp2_with fail
  refine (time_any 100 5000 2000000 100 _).mono ?_
  rw [show timeV 100 5000 2000000 100 = 5000 by decide +kernel, show timeE 100 5000 2000000 100 = 0 by decide +kernel]
  rintro e w1 ⟨rfl, hb1⟩
  have z1 : w.heap.size < w1.heap.size := by have := hb1.size; simp at this; omega
  have a0 : w1.cell? ⟨w.heap.size, 0, none⟩ = some (.int .i64 100) := below_keep hb1 (by simp [go_sem])
  have a1 : w1.cell? ⟨w.heap.size, 1, none⟩ = some (.int .i64 5000) := below_keep hb1 (by simp [go_sem])
  have a2 : w1.cell? ⟨w.heap.size, 2, none⟩ = some (.int .i64 2000000) := below_keep hb1 (by simp [go_sem])
  have H1 := Lib.hid (below_step (below_alloc (Below.refl _ _) _) hb1)
  clear hb1
  go_wp2_with fail
  refine (time_any 100 5000 2000000 1099 _).mono ?_
  rw [show timeV 100 5000 2000000 1099 = 6000 by decide +kernel, show timeE 100 5000 2000000 1099 = 0 by decide +kernel]
  rintro e w2 ⟨rfl, hb2⟩
  have b0 := below_keep hb2 a0
  have b1 := below_keep hb2 a1
  have b2 := below_keep hb2 a2
  have H2 := Lib.hid (below_step H1.out hb2)
  clear hb2 a0 a1 a2 H1 z1
  go_wp2_with fail
  refine (time_any 100 5000 2000000 99 _).mono ?_
  rw [show timeV 100 5000 2000000 99 = 4998 by decide +kernel, show timeE 100 5000 2000000 99 = 0 by decide +kernel]
  rintro e w3 ⟨rfl, hb3⟩
  have c0 := below_keep hb3 b0
  have c1 := below_keep hb3 b1
  have c2 := below_keep hb3 b2
  have H3 := Lib.hid (below_step H2.out hb3)
  clear hb3 b0 b1 b2 H2
  go_wp2_with fail
  refine (when_any 100 5000 2000000 6000 _).mono ?_
  rintro e w4 ⟨r, k, rfl, hw, hb4⟩
  obtain ⟨rfl, rfl⟩ := when_1.unique hw
  have d0 := below_keep hb4 c0
  have d1 := below_keep hb4 c1
  have d2 := below_keep hb4 c2
  have H4 := Lib.hid (below_step H3.out hb4)
  clear hb4 c0 c1 c2 H3 hw
  go_wp2_with fail
  refine (when_any 100 5000 2000000 5001 _).mono ?_
  rintro e w5 ⟨r, k, rfl, hw, hb5⟩
  obtain ⟨rfl, rfl⟩ := when_2.unique hw
  have e0 := below_keep hb5 d0
  have e1 := below_keep hb5 d1
  have e2 := below_keep hb5 d2
  have H5 := Lib.hid (below_step H4.out hb5)
  clear hb5 d0 d1 d2 H4 hw
  go_wp2_with fail
  refine (sync_any 100 5000 2000000 1100 6010 0 _).mono ?_
  rw [show syncL 100 5000 2000000 1100 6010 0 = 1100 by decide +kernel, show syncM 100 5000 2000000 1100 6010 0 = 6010 by decide +kernel, show syncP 100 5000 2000000 1100 6010 0 = 0 by decide +kernel,
    show syncN 100 5000 2000000 1100 6010 0 = 8 by decide +kernel, show syncE 100 5000 2000000 1100 6010 0 = 0 by decide +kernel]
  rintro e w6 ⟨rfl, hb6⟩
  have f0 := below_keep hb6 e0
  have f1 := below_keep hb6 e1
  have f2 := below_keep hb6 e2
  have z6 := World.block_lt_of_cell? _ _ f0
  have H6 := Lib.hid (below_step H5.out hb6)
  clear hb6 e0 e1 e2 H5
  go_wp2_with fail
  have n1 : ¬ (5 : Int) < 0 := by decide
  refine (bound_ok 5 0 0 (by decide) _).mono ?_
  rw [show boundV 5 0 0 = 8 by decide +kernel]
  rintro e w7 ⟨rfl, hb7⟩
  have g0 := below_keep hb7 (show (w6.alloc _).cell? _ = _ from (World.cell?_alloc_lt _ _ _ z6).trans f0)
  have g1 := below_keep hb7 (show (w6.alloc _).cell? _ = _ from (World.cell?_alloc_lt _ _ _ z6).trans f1)
  have g2 := below_keep hb7 (show (w6.alloc _).cell? _ = _ from (World.cell?_alloc_lt _ _ _ z6).trans f2)
  have g3 : w7.cell? ⟨w6.heap.size, 0, none⟩ = some (.int .i64 1100) := below_keep hb7 (by simp [go_sem])
  have g4 : w7.cell? ⟨w6.heap.size, 1, none⟩ = some (.int .i64 6010) := below_keep hb7 (by simp [go_sem])
  have g5 : w7.cell? ⟨w6.heap.size, 2, none⟩ = some (.int .i64 0) := below_keep hb7 (by simp [go_sem])
  have H7 := Lib.hid (below_step (below_alloc H6.out _) hb7)
  clear hb7 f0 f1 f2 H6
  go_wp2_with fail
  refine (bound_ok 0 1000000000 18 (by decide) _).mono ?_
  rw [show boundV 0 1000000000 18 = 103 by decide +kernel]
  rintro e w8 ⟨rfl, hb8⟩
  have h0 := below_keep hb8 g0
  have h1 := below_keep hb8 g1
  have h2 := below_keep hb8 g2
  have h3 := below_keep hb8 g3
  have h4 := below_keep hb8 g4
  have h5 := below_keep hb8 g5
  have H8 := Lib.hid (below_step H7.out hb8)
  clear hb8 g0 g1 g2 g3 g4 g5 H7
  go_wp2_with fail
  refine (bound_ok 0 1 0 (by decide) _).mono ?_
  rw [show boundV 0 1 0 = 4 by decide +kernel]
  rintro e w9 ⟨rfl, hb9⟩
  have i0 := below_keep hb9 h0
  have i1 := below_keep hb9 h1
  have i2 := below_keep hb9 h2
  have i3 := below_keep hb9 h3
  have i4 := below_keep hb9 h4
  have i5 := below_keep hb9 h5
  have H9 := Lib.hid (below_step H8.out hb9)
  clear hb9 h0 h1 h2 h3 h4 h5 H8
  go_wp2_with fail
  refine (sync_any 100 5000 2000000 99 0 0 _).mono ?_
  rw [show syncL 100 5000 2000000 99 0 0 = 0 by decide +kernel, show syncM 100 5000 2000000 99 0 0 = 0 by decide +kernel, show syncP 100 5000 2000000 99 0 0 = 0 by decide +kernel,
    show syncN 100 5000 2000000 99 0 0 = 0 by decide +kernel, show syncE 100 5000 2000000 99 0 0 = 2 by decide +kernel]
  rintro e w10 ⟨rfl, hb10⟩
  have j3 := below_keep hb10 i3
  have j4 := below_keep hb10 i4
  have j5 := below_keep hb10 i5
  have z10 := World.block_lt_of_cell? _ _ j3
  have H10 := Lib.hid (below_step H9.out hb10)
  clear hb10 i0 i1 i2 i3 i4 i5 H9
  go_wp2_with fail
  refine (bound_bad (-1) 0 0 (by decide) _).mono ?_
  rintro e w11 ⟨rfl, rfl⟩
  go_wp2_with fail
  refine (check_any 0 0 8388609 _).mono ?_
  rw [show chkV 0 0 8388609 = 230 by decide +kernel]
  rintro e w12 ⟨rfl, hb12⟩
  have H12 := Lib.hid (below_step (below_alloc H10.out _) hb12)
  clear hb12 H10 j3 j4 j5
  go_wp2
  go_ret
  exact ⟨rfl, H12.out⟩

end Go.Proofs.Ytakbopkiemlfdaa
