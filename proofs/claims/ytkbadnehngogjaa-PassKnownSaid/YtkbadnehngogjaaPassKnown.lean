/-
  PassKnown: for every input the law returns true, and its arguments read as before. No conditions.
-/
import Derived.Test.YtkbadnehngogjaaPassWorks
import Derived.Test.YtkbadnehngogjaaPassRef
import Derived.Test.YtkbadnehngogjaaOpen14
import Derived.Lib.QuietBelow
import Derived.BigQuiet
namespace Go.Proofs.Ytkbadnehngogjaa
open Go.RowKit Go.Lib Plain
open Go.ChangeShapes Go.WideShapes Go.ChangeAt

def synM : List Value := [.int .i64 0, .int .i64 0, .int .i64 0, .int .i64 0, .int .i64 1, .int .i64 0, .int .i64 0, .int .i64 0, .int .i64 0, .int .i64 0, .int .i64 0, .int .i64 0, .int .i64 0, .int .i64 0, .int .i64 0, .int .i64 0, .int .i64 0]
theorem syn_neq (W : World) : (binOp .neq 46 (.agg synM.toArray) (.agg synM.toArray)).run Try.prog W = .ok (.bool false) W := by
  simp [synM, go_sem]

set_option maxHeartbeats 4000000 in
set_option maxRecDepth 100000 in
/-- ptp.Check of a sync -/
theorem ptpCheck_sync (w : World) : Calls Try.prog 49 #[.agg #[.int .i64 0, .int .i64 0, .int .i64 0, .int .i64 0, .int .i64 1, .int .i64 0, .int .i64 0, .int .i64 0, .int .i64 0, .int .i64 0, .int .i64 0, .int .i64 0, .int .i64 0, .int .i64 0, .int .i64 0, .int .i64 0, .int .i64 0]] w fun e w' => e = .returned (.int .i64 0) ∧ Below w.heap.size w w' := by
  have b0 : inV 0 0 127 = true := by decide +kernel
  have b1 : inV 0 (-4398046511104) 4398046511104 = true := by decide +kernel
  have b2 : portB 0 1 = true := by decide +kernel
  have b3 : inV 0 0 65535 = true := by decide +kernel
  have B0 := Lib.hid b0
  have B1 := Lib.hid b1
  have B2 := Lib.hid b2
  have B3 := Lib.hid b3
  clear b0 b1 b2 b3
  have ha := Lib.hid agg_msg
  have hs := Lib.hid size_msg
  go_enter Try.func49, Try.ntmps49
  go_wp2_with fail
  refine (pinside_any _ _ _ _).mono ?_
  rw [B0.out]
  rintro e w' ⟨rfl, rfl⟩
  go_wp2_with fail
  refine (ptStamp_any _ _).mono ?_
  rw [B1.out]
  rintro e w' ⟨rfl, rfl⟩
  go_wp2_with fail
  refine (checkPort_any _ _ _).mono ?_
  rw [B2.out]
  rintro e w1 ⟨rfl, hb1⟩
  have HM := Lib.hid (show Holds w1 w.heap.size synM from ((holds_alloc _ synM 46 (by simp)).alloc (by simp) _).keep hb1)
  have HO := Lib.hid (show Holds w1 (w.heap.size + 1) synM from (holds_alloc _ synM 46 (by simp)).keep hb1)
  have c1 : w1.cell? ⟨w.heap.size, 0, none⟩ = some (.int .i64 0) := HM.out 0 _ rfl
  have c6 : w1.cell? ⟨w.heap.size, 5, none⟩ = some (.int .i64 0) := HM.out 5 _ rfl
  have H1 := Lib.hid (below_step (below_alloc (below_alloc (Below.refl _ _) _) _) hb1)
  clear hb1
  go_wp2_with fail
  refine (pinside_any _ _ _ _).mono ?_
  rw [B3.out]
  rintro e w' ⟨rfl, rfl⟩
  have hne := fun W => syn_neq W
  go_wp2_with (first | refine wpList_load_wanted (by rfl) (.tmp 1) 46 rfl w.heap.size 0 synM rfl ha.out hs.out HM.out ?_ | refine wpList_load_wanted (by rfl) (.tmp 3) 46 rfl (w.heap.size + 1) 0 synM rfl ha.out hs.out HO.out ?_)
  go_ret
  exact ⟨rfl, H1.out⟩

set_option maxHeartbeats 4000000 in
set_option maxRecDepth 100000 in
theorem of_sync (w : World) : Calls Try.prog 24 #[.agg #[.int .i64 0, .int .i64 0, .int .i64 0, .int .i64 0, .int .i64 1, .int .i64 0, .int .i64 0, .int .i64 0, .int .i64 0, .int .i64 0, .int .i64 0, .int .i64 0, .int .i64 0, .int .i64 0, .int .i64 0, .int .i64 0, .int .i64 0]] w fun e w' => e = .returned (.tuple #[.agg #[.int .i64 0, .int .i64 0, .int .i64 0], .int .i64 200]) ∧ Below w.heap.size w w' := by
  go_enter Try.func24, Try.ntmps24
  go_wp2_with fail
  refine (ptpCheck_sync _).mono ?_
  rintro e w1 ⟨rfl, hb1⟩
  have c1 : w1.cell? ⟨w.heap.size, 0, none⟩ = some (.int .i64 0) := below_keep hb1 (by simp [go_sem])
  have c2 : w1.cell? ⟨w.heap.size + 1, 0, none⟩ = some (.int .i64 0) := below_keep hb1 (by simp [go_sem])
  have c3 : w1.cell? ⟨w.heap.size + 1, 1, none⟩ = some (.int .i64 0) := below_keep hb1 (by simp [go_sem])
  have c4 : w1.cell? ⟨w.heap.size + 1, 2, none⟩ = some (.int .i64 0) := below_keep hb1 (by simp [go_sem])
  have c5 : ∀ o, w1.frozen? ⟨w.heap.size + 1, o, none⟩ = false := fun o => by rw [(bcell hb1).2 _ _ (by first | (simp; done) | (simp; omega))]; simp [go_sem]
  have H1 := Lib.hid (below_step (below_alloc (below_alloc (Below.refl _ _) _) _) hb1)
  clear hb1
  go_wp2
  refine bodyPost_ret (v := .tuple #[.agg #[.int .i64 0, .int .i64 0, .int .i64 0], .int .i64 200]) (by simp [results, Try.results24, go_sem, *]) rfl ⟨rfl, ?_⟩
  have hb4 := H1.out
  exact ((hb4.setCell (by simp) _).setCell (by simp) _).setCell (by simp) _

set_option maxHeartbeats 8000000 in
set_option maxRecDepth 100000 in
theorem passKnown_walk (w : World) : Calls Try.prog 8 #[] w fun y w' => y = .returned (.bool true) ∧ Below w.heap.size w w' := by
  go_enter Try.func8, Try.ntmps8
  go_wp2_with fail
  refine (works_any _).mono ?_
  rintro y w1 ⟨rfl, hb1⟩
  have H1 := Lib.hid (below_step (Below.refl _ _) hb1)
  clear hb1
  go_wp2_with fail
  refine (set_any 4398046511104 4398046511104 8388608 0 _).mono ?_
  rw [show (apV (OkI 4398046511104 4398046511104 8388608) (Stamp 0) (stV 4398046511104 4398046511104 0 0)) = 0 by decide +kernel, show (apV (OkI 4398046511104 4398046511104 8388608) (Stamp 0) (stV 4398046511104 4398046511104 0 (4398046511104 + 4398046511104))) = 0 by decide +kernel, show (apV (OkI 4398046511104 4398046511104 8388608) (Stamp 0) (stV 4398046511104 4398046511104 0 8388608)) = 0 by decide +kernel, show (apE (OkI 4398046511104 4398046511104 8388608) (Stamp 0) (stE 4398046511104 4398046511104)) = 6 by decide +kernel]
  rintro y w2 ⟨rfl, hb2⟩
  have c1 : w2.cell? ⟨w1.heap.size, 0, none⟩ = some (.int .i64 (4398046511104)) := below_keep hb2 (by simp [go_sem])
  have c2 : w2.cell? ⟨w1.heap.size, 1, none⟩ = some (.int .i64 (4398046511104)) := below_keep hb2 (by simp [go_sem])
  have c3 : w2.cell? ⟨w1.heap.size, 2, none⟩ = some (.int .i64 (8388608)) := below_keep hb2 (by simp [go_sem])
  have H2 := Lib.hid (below_step (below_alloc (H1.out) _) hb2)
  clear hb2 H1
  have hz4 : w1.heap.size < w2.heap.size := World.block_lt_of_cell? _ _ c1
  go_wp2_with fail
  refine (set_any 4398046511104 4398046511104 8388608 4398046511105 _).mono ?_
  rw [show (apV (OkI 4398046511104 4398046511104 8388608) (Stamp 4398046511105) (stV 4398046511104 4398046511104 4398046511105 4398046511105)) = 0 by decide +kernel, show (apV (OkI 4398046511104 4398046511104 8388608) (Stamp 4398046511105) (stV 4398046511104 4398046511104 4398046511105 (4398046511104 + 4398046511104))) = 0 by decide +kernel, show (apV (OkI 4398046511104 4398046511104 8388608) (Stamp 4398046511105) (stV 4398046511104 4398046511104 4398046511105 8388608)) = 0 by decide +kernel, show (apE (OkI 4398046511104 4398046511104 8388608) (Stamp 4398046511105) (stE 4398046511104 4398046511104)) = 2 by decide +kernel]
  rintro y w3 ⟨rfl, hb3⟩
  have c5 : w3.cell? ⟨w1.heap.size, 0, none⟩ = some (.int .i64 (4398046511104)) := below_keep hb3 (by rw [World.cell?_alloc_lt _ _ _ (by first | exact World.block_lt_of_cell? _ _ c1 | (have := World.block_lt_of_cell? _ _ c1; simp; omega))]; exact c1)
  have c6 : w3.cell? ⟨w1.heap.size, 1, none⟩ = some (.int .i64 (4398046511104)) := below_keep hb3 (by rw [World.cell?_alloc_lt _ _ _ (by first | exact World.block_lt_of_cell? _ _ c2 | (have := World.block_lt_of_cell? _ _ c2; simp; omega))]; exact c2)
  have c7 : w3.cell? ⟨w1.heap.size, 2, none⟩ = some (.int .i64 (8388608)) := below_keep hb3 (by rw [World.cell?_alloc_lt _ _ _ (by first | exact World.block_lt_of_cell? _ _ c3 | (have := World.block_lt_of_cell? _ _ c3; simp; omega))]; exact c3)
  have H3 := Lib.hid (below_step (below_alloc (H2.out) _) hb3)
  clear hb3 c1 c2 c3 H2 hz4
  have hz8 : w1.heap.size < w3.heap.size := World.block_lt_of_cell? _ _ c5
  go_wp2_with fail
  refine (arrive_any 4398046511104 4398046511104 8388608 0 1 _).mono ?_
  rw [show (apV (OkI 4398046511104 4398046511104 8388608) (Stamp 0 ∧ Ratio 1) (dnV 4398046511104 (corV 4398046511104 0 (8388608 + 1)) (8388608 + 1) 4398046511104)) = 0 by decide +kernel, show (apV (OkI 4398046511104 4398046511104 8388608) (Stamp 0 ∧ Ratio 1) (dnV 4398046511104 (corV 4398046511104 0 (8388608 + 1)) (8388608 + 1) (corV 4398046511104 0 (8388608 + 1)))) = 0 by decide +kernel, show (apV (OkI 4398046511104 4398046511104 8388608) (Stamp 0 ∧ Ratio 1) (dnV 4398046511104 (corV 4398046511104 0 (8388608 + 1)) (8388608 + 1) (8388608 + 1))) = 0 by decide +kernel, show (apE (OkI 4398046511104 4398046511104 8388608) (Stamp 0 ∧ Ratio 1) (dnE 4398046511104 (corV 4398046511104 0 (8388608 + 1)) (8388608 + 1))) = 6 by decide +kernel]
  rintro y w4 ⟨rfl, hb4⟩
  have c9 : w4.cell? ⟨w1.heap.size, 0, none⟩ = some (.int .i64 (4398046511104)) := below_keep hb4 (by rw [World.cell?_alloc_lt _ _ _ (by first | exact World.block_lt_of_cell? _ _ c5 | (have := World.block_lt_of_cell? _ _ c5; simp; omega))]; exact c5)
  have c10 : w4.cell? ⟨w1.heap.size, 1, none⟩ = some (.int .i64 (4398046511104)) := below_keep hb4 (by rw [World.cell?_alloc_lt _ _ _ (by first | exact World.block_lt_of_cell? _ _ c6 | (have := World.block_lt_of_cell? _ _ c6; simp; omega))]; exact c6)
  have c11 : w4.cell? ⟨w1.heap.size, 2, none⟩ = some (.int .i64 (8388608)) := below_keep hb4 (by rw [World.cell?_alloc_lt _ _ _ (by first | exact World.block_lt_of_cell? _ _ c7 | (have := World.block_lt_of_cell? _ _ c7; simp; omega))]; exact c7)
  have H4 := Lib.hid (below_step (below_alloc (H3.out) _) hb4)
  clear hb4 c5 c6 c7 H3 hz8
  have hz12 : w1.heap.size < w4.heap.size := World.block_lt_of_cell? _ _ c9
  go_wp2_with fail
  refine (arrive_any 4398046511104 4398046511104 8388608 0 (-16777216) _).mono ?_
  rw [show (apV (OkI 4398046511104 4398046511104 8388608) (Stamp 0 ∧ Ratio (-16777216)) (dnV 4398046511104 (corV 4398046511104 0 (8388608 + (-16777216))) (8388608 + (-16777216)) 4398046511104)) = 0 by decide +kernel, show (apV (OkI 4398046511104 4398046511104 8388608) (Stamp 0 ∧ Ratio (-16777216)) (dnV 4398046511104 (corV 4398046511104 0 (8388608 + (-16777216))) (8388608 + (-16777216)) (corV 4398046511104 0 (8388608 + (-16777216))))) = 0 by decide +kernel, show (apV (OkI 4398046511104 4398046511104 8388608) (Stamp 0 ∧ Ratio (-16777216)) (dnV 4398046511104 (corV 4398046511104 0 (8388608 + (-16777216))) (8388608 + (-16777216)) (8388608 + (-16777216)))) = 0 by decide +kernel, show (apE (OkI 4398046511104 4398046511104 8388608) (Stamp 0 ∧ Ratio (-16777216)) (dnE 4398046511104 (corV 4398046511104 0 (8388608 + (-16777216))) (8388608 + (-16777216)))) = 2 by decide +kernel]
  rintro y w5 ⟨rfl, hb5⟩
  have c13 : w5.cell? ⟨w1.heap.size, 0, none⟩ = some (.int .i64 (4398046511104)) := below_keep hb5 (by rw [World.cell?_alloc_lt _ _ _ (by first | exact World.block_lt_of_cell? _ _ c9 | (have := World.block_lt_of_cell? _ _ c9; simp; omega))]; exact c9)
  have c14 : w5.cell? ⟨w1.heap.size, 1, none⟩ = some (.int .i64 (4398046511104)) := below_keep hb5 (by rw [World.cell?_alloc_lt _ _ _ (by first | exact World.block_lt_of_cell? _ _ c10 | (have := World.block_lt_of_cell? _ _ c10; simp; omega))]; exact c10)
  have c15 : w5.cell? ⟨w1.heap.size, 2, none⟩ = some (.int .i64 (8388608)) := below_keep hb5 (by rw [World.cell?_alloc_lt _ _ _ (by first | exact World.block_lt_of_cell? _ _ c11 | (have := World.block_lt_of_cell? _ _ c11; simp; omega))]; exact c11)
  have H5 := Lib.hid (below_step (below_alloc (H4.out) _) hb5)
  clear hb5 c9 c10 c11 H4 hz12
  have hz16 : w1.heap.size < w5.heap.size := World.block_lt_of_cell? _ _ c13
  go_wp2_with fail
  refine (arrive_any 4398046511104 4398046511104 8388608 0 (-8388608) _).mono ?_
  rw [show (apV (OkI 4398046511104 4398046511104 8388608) (Stamp 0 ∧ Ratio (-8388608)) (dnV 4398046511104 (corV 4398046511104 0 (8388608 + (-8388608))) (8388608 + (-8388608)) 4398046511104)) = 4398046511104 by decide +kernel, show (apV (OkI 4398046511104 4398046511104 8388608) (Stamp 0 ∧ Ratio (-8388608)) (dnV 4398046511104 (corV 4398046511104 0 (8388608 + (-8388608))) (8388608 + (-8388608)) (corV 4398046511104 0 (8388608 + (-8388608))))) = 4398046511104 by decide +kernel, show (apV (OkI 4398046511104 4398046511104 8388608) (Stamp 0 ∧ Ratio (-8388608)) (dnV 4398046511104 (corV 4398046511104 0 (8388608 + (-8388608))) (8388608 + (-8388608)) (8388608 + (-8388608)))) = 0 by decide +kernel, show (apE (OkI 4398046511104 4398046511104 8388608) (Stamp 0 ∧ Ratio (-8388608)) (dnE 4398046511104 (corV 4398046511104 0 (8388608 + (-8388608))) (8388608 + (-8388608)))) = 0 by decide +kernel]
  rintro y w6 ⟨rfl, hb6⟩
  have c17 : w6.cell? ⟨w1.heap.size, 0, none⟩ = some (.int .i64 (4398046511104)) := below_keep hb6 (by rw [World.cell?_alloc_lt _ _ _ (by first | exact World.block_lt_of_cell? _ _ c13 | (have := World.block_lt_of_cell? _ _ c13; simp; omega))]; exact c13)
  have c18 : w6.cell? ⟨w1.heap.size, 1, none⟩ = some (.int .i64 (4398046511104)) := below_keep hb6 (by rw [World.cell?_alloc_lt _ _ _ (by first | exact World.block_lt_of_cell? _ _ c14 | (have := World.block_lt_of_cell? _ _ c14; simp; omega))]; exact c14)
  have c19 : w6.cell? ⟨w1.heap.size, 2, none⟩ = some (.int .i64 (8388608)) := below_keep hb6 (by rw [World.cell?_alloc_lt _ _ _ (by first | exact World.block_lt_of_cell? _ _ c15 | (have := World.block_lt_of_cell? _ _ c15; simp; omega))]; exact c15)
  have c20 : w6.cell? ⟨w5.heap.size, 0, none⟩ = some (.int .i64 (0)) := below_keep hb6 (by simp [go_sem])
  have c21 : w6.cell? ⟨w5.heap.size, 1, none⟩ = some (.int .i64 (0)) := below_keep hb6 (by simp [go_sem])
  have c22 : w6.cell? ⟨w5.heap.size, 2, none⟩ = some (.int .i64 (0)) := below_keep hb6 (by simp [go_sem])
  have H6 := Lib.hid (below_step (below_alloc (H5.out) _) hb6)
  clear hb6 c13 c14 c15 H5 hz16
  have hz23 : w1.heap.size < w6.heap.size := World.block_lt_of_cell? _ _ c17
  have hz24 : w5.heap.size < w6.heap.size := World.block_lt_of_cell? _ _ c20
  go_wp2_with fail
  refine (arrive_any 4398046511105 0 0 4398046511105 0 _).mono ?_
  rw [show (apV (OkI 4398046511105 0 0) (Stamp 4398046511105 ∧ Ratio 0) (dnV 4398046511105 (corV 0 4398046511105 (0 + 0)) (0 + 0) 4398046511105)) = 0 by decide +kernel, show (apV (OkI 4398046511105 0 0) (Stamp 4398046511105 ∧ Ratio 0) (dnV 4398046511105 (corV 0 4398046511105 (0 + 0)) (0 + 0) (corV 0 4398046511105 (0 + 0)))) = 0 by decide +kernel, show (apV (OkI 4398046511105 0 0) (Stamp 4398046511105 ∧ Ratio 0) (dnV 4398046511105 (corV 0 4398046511105 (0 + 0)) (0 + 0) (0 + 0))) = 0 by decide +kernel, show (apE (OkI 4398046511105 0 0) (Stamp 4398046511105 ∧ Ratio 0) (dnE 4398046511105 (corV 0 4398046511105 (0 + 0)) (0 + 0))) = 240 by decide +kernel]
  rintro y w7 ⟨rfl, hb7⟩
  have c25 : w7.cell? ⟨w1.heap.size, 0, none⟩ = some (.int .i64 (4398046511104)) := below_keep hb7 (by rw [World.cell?_alloc_lt _ _ _ (by first | exact World.block_lt_of_cell? _ _ c17 | (have := World.block_lt_of_cell? _ _ c17; simp; omega))]; exact c17)
  have c26 : w7.cell? ⟨w1.heap.size, 1, none⟩ = some (.int .i64 (4398046511104)) := below_keep hb7 (by rw [World.cell?_alloc_lt _ _ _ (by first | exact World.block_lt_of_cell? _ _ c18 | (have := World.block_lt_of_cell? _ _ c18; simp; omega))]; exact c18)
  have c27 : w7.cell? ⟨w1.heap.size, 2, none⟩ = some (.int .i64 (8388608)) := below_keep hb7 (by rw [World.cell?_alloc_lt _ _ _ (by first | exact World.block_lt_of_cell? _ _ c19 | (have := World.block_lt_of_cell? _ _ c19; simp; omega))]; exact c19)
  have c28 : w7.cell? ⟨w5.heap.size, 0, none⟩ = some (.int .i64 (0)) := below_keep hb7 (by rw [World.cell?_alloc_lt _ _ _ (by first | exact World.block_lt_of_cell? _ _ c20 | (have := World.block_lt_of_cell? _ _ c20; simp; omega))]; exact c20)
  have c29 : w7.cell? ⟨w5.heap.size, 1, none⟩ = some (.int .i64 (0)) := below_keep hb7 (by rw [World.cell?_alloc_lt _ _ _ (by first | exact World.block_lt_of_cell? _ _ c21 | (have := World.block_lt_of_cell? _ _ c21; simp; omega))]; exact c21)
  have c30 : w7.cell? ⟨w5.heap.size, 2, none⟩ = some (.int .i64 (0)) := below_keep hb7 (by rw [World.cell?_alloc_lt _ _ _ (by first | exact World.block_lt_of_cell? _ _ c22 | (have := World.block_lt_of_cell? _ _ c22; simp; omega))]; exact c22)
  have c31 : w7.cell? ⟨w6.heap.size, 0, none⟩ = some (.int .i64 (4398046511104)) := below_keep hb7 (by simp [go_sem])
  have c32 : w7.cell? ⟨w6.heap.size, 1, none⟩ = some (.int .i64 (4398046511104)) := below_keep hb7 (by simp [go_sem])
  have c33 : w7.cell? ⟨w6.heap.size, 2, none⟩ = some (.int .i64 (0)) := below_keep hb7 (by simp [go_sem])
  have H7 := Lib.hid (below_step (below_alloc (H6.out) _) hb7)
  clear hb7 c17 c18 c19 c20 c21 c22 H6 hz23 hz24
  have hz34 : w1.heap.size < w7.heap.size := World.block_lt_of_cell? _ _ c25
  have hz35 : w5.heap.size < w7.heap.size := World.block_lt_of_cell? _ _ c28
  have hz36 : w6.heap.size < w7.heap.size := World.block_lt_of_cell? _ _ c31
  go_wp2_with fail
  refine (leave_any 0 0 (-8388609) (-1) _).mono ?_
  rw [show (apV (OkI 0 0 (-8388609)) (Tick (-1)) (dnV 0 (corV 0 (-1) (-8388609)) (-8388609) 0)) = 0 by decide +kernel, show (apV (OkI 0 0 (-8388609)) (Tick (-1)) (dnV 0 (corV 0 (-1) (-8388609)) (-8388609) (corV 0 (-1) (-8388609)))) = 0 by decide +kernel, show (apV (OkI 0 0 (-8388609)) (Tick (-1)) (dnV 0 (corV 0 (-1) (-8388609)) (-8388609) (-8388609))) = 0 by decide +kernel, show (apE (OkI 0 0 (-8388609)) (Tick (-1)) (dnE 0 (corV 0 (-1) (-8388609)) (-8388609))) = 240 by decide +kernel]
  rintro y w8 ⟨rfl, hb8⟩
  have c37 : w8.cell? ⟨w1.heap.size, 0, none⟩ = some (.int .i64 (4398046511104)) := below_keep hb8 (by rw [World.cell?_alloc_lt _ _ _ (by first | exact World.block_lt_of_cell? _ _ c25 | (have := World.block_lt_of_cell? _ _ c25; simp; omega))]; exact c25)
  have c38 : w8.cell? ⟨w1.heap.size, 1, none⟩ = some (.int .i64 (4398046511104)) := below_keep hb8 (by rw [World.cell?_alloc_lt _ _ _ (by first | exact World.block_lt_of_cell? _ _ c26 | (have := World.block_lt_of_cell? _ _ c26; simp; omega))]; exact c26)
  have c39 : w8.cell? ⟨w1.heap.size, 2, none⟩ = some (.int .i64 (8388608)) := below_keep hb8 (by rw [World.cell?_alloc_lt _ _ _ (by first | exact World.block_lt_of_cell? _ _ c27 | (have := World.block_lt_of_cell? _ _ c27; simp; omega))]; exact c27)
  have c40 : w8.cell? ⟨w5.heap.size, 0, none⟩ = some (.int .i64 (0)) := below_keep hb8 (by rw [World.cell?_alloc_lt _ _ _ (by first | exact World.block_lt_of_cell? _ _ c28 | (have := World.block_lt_of_cell? _ _ c28; simp; omega))]; exact c28)
  have c41 : w8.cell? ⟨w5.heap.size, 1, none⟩ = some (.int .i64 (0)) := below_keep hb8 (by rw [World.cell?_alloc_lt _ _ _ (by first | exact World.block_lt_of_cell? _ _ c29 | (have := World.block_lt_of_cell? _ _ c29; simp; omega))]; exact c29)
  have c42 : w8.cell? ⟨w5.heap.size, 2, none⟩ = some (.int .i64 (0)) := below_keep hb8 (by rw [World.cell?_alloc_lt _ _ _ (by first | exact World.block_lt_of_cell? _ _ c30 | (have := World.block_lt_of_cell? _ _ c30; simp; omega))]; exact c30)
  have c43 : w8.cell? ⟨w6.heap.size, 0, none⟩ = some (.int .i64 (4398046511104)) := below_keep hb8 (by rw [World.cell?_alloc_lt _ _ _ (by first | exact World.block_lt_of_cell? _ _ c31 | (have := World.block_lt_of_cell? _ _ c31; simp; omega))]; exact c31)
  have c44 : w8.cell? ⟨w6.heap.size, 1, none⟩ = some (.int .i64 (4398046511104)) := below_keep hb8 (by rw [World.cell?_alloc_lt _ _ _ (by first | exact World.block_lt_of_cell? _ _ c32 | (have := World.block_lt_of_cell? _ _ c32; simp; omega))]; exact c32)
  have c45 : w8.cell? ⟨w6.heap.size, 2, none⟩ = some (.int .i64 (0)) := below_keep hb8 (by rw [World.cell?_alloc_lt _ _ _ (by first | exact World.block_lt_of_cell? _ _ c33 | (have := World.block_lt_of_cell? _ _ c33; simp; omega))]; exact c33)
  have H8 := Lib.hid (below_step (below_alloc (H7.out) _) hb8)
  clear hb8 c25 c26 c27 c28 c29 c30 c31 c32 c33 H7 hz34 hz35 hz36
  have hz46 : w1.heap.size < w8.heap.size := World.block_lt_of_cell? _ _ c37
  have hz47 : w5.heap.size < w8.heap.size := World.block_lt_of_cell? _ _ c40
  have hz48 : w6.heap.size < w8.heap.size := World.block_lt_of_cell? _ _ c43
  go_wp2_with fail
  refine (arrive_any 0 0 0 (-1) (-1) _).mono ?_
  rw [show (apV (OkI 0 0 0) (Stamp (-1) ∧ Ratio (-1)) (dnV 0 (corV 0 (-1) (0 + (-1))) (0 + (-1)) 0)) = 0 by decide +kernel, show (apV (OkI 0 0 0) (Stamp (-1) ∧ Ratio (-1)) (dnV 0 (corV 0 (-1) (0 + (-1))) (0 + (-1)) (corV 0 (-1) (0 + (-1))))) = -1 by decide +kernel, show (apV (OkI 0 0 0) (Stamp (-1) ∧ Ratio (-1)) (dnV 0 (corV 0 (-1) (0 + (-1))) (0 + (-1)) (0 + (-1)))) = -1 by decide +kernel, show (apE (OkI 0 0 0) (Stamp (-1) ∧ Ratio (-1)) (dnE 0 (corV 0 (-1) (0 + (-1))) (0 + (-1)))) = 0 by decide +kernel]
  rintro y w9 ⟨rfl, hb9⟩
  have c49 : w9.cell? ⟨w1.heap.size, 0, none⟩ = some (.int .i64 (4398046511104)) := below_keep hb9 (by rw [World.cell?_alloc_lt _ _ _ (by first | exact World.block_lt_of_cell? _ _ c37 | (have := World.block_lt_of_cell? _ _ c37; simp; omega))]; exact c37)
  have c50 : w9.cell? ⟨w1.heap.size, 1, none⟩ = some (.int .i64 (4398046511104)) := below_keep hb9 (by rw [World.cell?_alloc_lt _ _ _ (by first | exact World.block_lt_of_cell? _ _ c38 | (have := World.block_lt_of_cell? _ _ c38; simp; omega))]; exact c38)
  have c51 : w9.cell? ⟨w1.heap.size, 2, none⟩ = some (.int .i64 (8388608)) := below_keep hb9 (by rw [World.cell?_alloc_lt _ _ _ (by first | exact World.block_lt_of_cell? _ _ c39 | (have := World.block_lt_of_cell? _ _ c39; simp; omega))]; exact c39)
  have c52 : w9.cell? ⟨w5.heap.size, 0, none⟩ = some (.int .i64 (0)) := below_keep hb9 (by rw [World.cell?_alloc_lt _ _ _ (by first | exact World.block_lt_of_cell? _ _ c40 | (have := World.block_lt_of_cell? _ _ c40; simp; omega))]; exact c40)
  have c53 : w9.cell? ⟨w5.heap.size, 1, none⟩ = some (.int .i64 (0)) := below_keep hb9 (by rw [World.cell?_alloc_lt _ _ _ (by first | exact World.block_lt_of_cell? _ _ c41 | (have := World.block_lt_of_cell? _ _ c41; simp; omega))]; exact c41)
  have c54 : w9.cell? ⟨w5.heap.size, 2, none⟩ = some (.int .i64 (0)) := below_keep hb9 (by rw [World.cell?_alloc_lt _ _ _ (by first | exact World.block_lt_of_cell? _ _ c42 | (have := World.block_lt_of_cell? _ _ c42; simp; omega))]; exact c42)
  have c55 : w9.cell? ⟨w6.heap.size, 0, none⟩ = some (.int .i64 (4398046511104)) := below_keep hb9 (by rw [World.cell?_alloc_lt _ _ _ (by first | exact World.block_lt_of_cell? _ _ c43 | (have := World.block_lt_of_cell? _ _ c43; simp; omega))]; exact c43)
  have c56 : w9.cell? ⟨w6.heap.size, 1, none⟩ = some (.int .i64 (4398046511104)) := below_keep hb9 (by rw [World.cell?_alloc_lt _ _ _ (by first | exact World.block_lt_of_cell? _ _ c44 | (have := World.block_lt_of_cell? _ _ c44; simp; omega))]; exact c44)
  have c57 : w9.cell? ⟨w6.heap.size, 2, none⟩ = some (.int .i64 (0)) := below_keep hb9 (by rw [World.cell?_alloc_lt _ _ _ (by first | exact World.block_lt_of_cell? _ _ c45 | (have := World.block_lt_of_cell? _ _ c45; simp; omega))]; exact c45)
  have H9 := Lib.hid (below_step (below_alloc (H8.out) _) hb9)
  clear hb9 c37 c38 c39 c40 c41 c42 c43 c44 c45 H8 hz46 hz47 hz48
  have hz58 : w1.heap.size < w9.heap.size := World.block_lt_of_cell? _ _ c49
  have hz59 : w5.heap.size < w9.heap.size := World.block_lt_of_cell? _ _ c52
  have hz60 : w6.heap.size < w9.heap.size := World.block_lt_of_cell? _ _ c55
  go_wp2_with fail
  refine (message_any 4398046511104 4398046511104 8388608 128 0 1 0 _).mono ?_
  rw [show (msL 4398046511104 4398046511104 8388608 128 0 1 0).toArray = #[.int .i64 0, .int .i64 0, .int .i64 0, .int .i64 0, .int .i64 0, .int .i64 0, .int .i64 0, .int .i64 0, .int .i64 0, .int .i64 0, .int .i64 0, .int .i64 0, .int .i64 0, .int .i64 0, .int .i64 0, .int .i64 0, .int .i64 0] from by rw [show msL 4398046511104 4398046511104 8388608 128 0 1 0 = z17 from if_neg (by decide +kernel)]; rfl, show msE 4398046511104 4398046511104 8388608 128 0 1 0 = 200 by decide +kernel]
  rintro y w10 ⟨rfl, hb10⟩
  have c61 : w10.cell? ⟨w1.heap.size, 0, none⟩ = some (.int .i64 (4398046511104)) := below_keep hb10 (by rw [World.cell?_alloc_lt _ _ _ (by first | exact World.block_lt_of_cell? _ _ c49 | (have := World.block_lt_of_cell? _ _ c49; simp; omega))]; exact c49)
  have c62 : w10.cell? ⟨w1.heap.size, 1, none⟩ = some (.int .i64 (4398046511104)) := below_keep hb10 (by rw [World.cell?_alloc_lt _ _ _ (by first | exact World.block_lt_of_cell? _ _ c50 | (have := World.block_lt_of_cell? _ _ c50; simp; omega))]; exact c50)
  have c63 : w10.cell? ⟨w1.heap.size, 2, none⟩ = some (.int .i64 (8388608)) := below_keep hb10 (by rw [World.cell?_alloc_lt _ _ _ (by first | exact World.block_lt_of_cell? _ _ c51 | (have := World.block_lt_of_cell? _ _ c51; simp; omega))]; exact c51)
  have c64 : w10.cell? ⟨w5.heap.size, 0, none⟩ = some (.int .i64 (0)) := below_keep hb10 (by rw [World.cell?_alloc_lt _ _ _ (by first | exact World.block_lt_of_cell? _ _ c52 | (have := World.block_lt_of_cell? _ _ c52; simp; omega))]; exact c52)
  have c65 : w10.cell? ⟨w5.heap.size, 1, none⟩ = some (.int .i64 (0)) := below_keep hb10 (by rw [World.cell?_alloc_lt _ _ _ (by first | exact World.block_lt_of_cell? _ _ c53 | (have := World.block_lt_of_cell? _ _ c53; simp; omega))]; exact c53)
  have c66 : w10.cell? ⟨w5.heap.size, 2, none⟩ = some (.int .i64 (0)) := below_keep hb10 (by rw [World.cell?_alloc_lt _ _ _ (by first | exact World.block_lt_of_cell? _ _ c54 | (have := World.block_lt_of_cell? _ _ c54; simp; omega))]; exact c54)
  have c67 : w10.cell? ⟨w6.heap.size, 0, none⟩ = some (.int .i64 (4398046511104)) := below_keep hb10 (by rw [World.cell?_alloc_lt _ _ _ (by first | exact World.block_lt_of_cell? _ _ c55 | (have := World.block_lt_of_cell? _ _ c55; simp; omega))]; exact c55)
  have c68 : w10.cell? ⟨w6.heap.size, 1, none⟩ = some (.int .i64 (4398046511104)) := below_keep hb10 (by rw [World.cell?_alloc_lt _ _ _ (by first | exact World.block_lt_of_cell? _ _ c56 | (have := World.block_lt_of_cell? _ _ c56; simp; omega))]; exact c56)
  have c69 : w10.cell? ⟨w6.heap.size, 2, none⟩ = some (.int .i64 (0)) := below_keep hb10 (by rw [World.cell?_alloc_lt _ _ _ (by first | exact World.block_lt_of_cell? _ _ c57 | (have := World.block_lt_of_cell? _ _ c57; simp; omega))]; exact c57)
  have c70 : w10.cell? ⟨w9.heap.size, 0, none⟩ = some (.int .i64 (0)) := below_keep hb10 (by simp [go_sem])
  have c71 : w10.cell? ⟨w9.heap.size, 1, none⟩ = some (.int .i64 (-1)) := below_keep hb10 (by simp [go_sem])
  have c72 : w10.cell? ⟨w9.heap.size, 2, none⟩ = some (.int .i64 (-1)) := below_keep hb10 (by simp [go_sem])
  have H10 := Lib.hid (below_step (below_alloc (H9.out) _) hb10)
  clear hb10 c49 c50 c51 c52 c53 c54 c55 c56 c57 H9 hz58 hz59 hz60
  have hz73 : w1.heap.size < w10.heap.size := World.block_lt_of_cell? _ _ c61
  have hz74 : w5.heap.size < w10.heap.size := World.block_lt_of_cell? _ _ c64
  have hz75 : w6.heap.size < w10.heap.size := World.block_lt_of_cell? _ _ c67
  have hz76 : w9.heap.size < w10.heap.size := World.block_lt_of_cell? _ _ c70
  go_wp2_with fail
  refine (message_any 0 0 1073741824 128 0 0 0 _).mono ?_
  rw [show (msL 0 0 1073741824 128 0 0 0).toArray = #[.int .i64 0, .int .i64 0, .int .i64 0, .int .i64 0, .int .i64 0, .int .i64 0, .int .i64 0, .int .i64 0, .int .i64 0, .int .i64 0, .int .i64 0, .int .i64 0, .int .i64 0, .int .i64 0, .int .i64 0, .int .i64 0, .int .i64 0] from by rw [show msL 0 0 1073741824 128 0 0 0 = z17 from if_neg (by decide +kernel)]; rfl, show msE 0 0 1073741824 128 0 0 0 = 240 by decide +kernel]
  rintro y w11 ⟨rfl, hb11⟩
  have c77 : w11.cell? ⟨w1.heap.size, 0, none⟩ = some (.int .i64 (4398046511104)) := below_keep hb11 (by rw [World.cell?_alloc_lt _ _ _ (by first | exact World.block_lt_of_cell? _ _ c61 | (have := World.block_lt_of_cell? _ _ c61; simp; omega))]; exact c61)
  have c78 : w11.cell? ⟨w1.heap.size, 1, none⟩ = some (.int .i64 (4398046511104)) := below_keep hb11 (by rw [World.cell?_alloc_lt _ _ _ (by first | exact World.block_lt_of_cell? _ _ c62 | (have := World.block_lt_of_cell? _ _ c62; simp; omega))]; exact c62)
  have c79 : w11.cell? ⟨w1.heap.size, 2, none⟩ = some (.int .i64 (8388608)) := below_keep hb11 (by rw [World.cell?_alloc_lt _ _ _ (by first | exact World.block_lt_of_cell? _ _ c63 | (have := World.block_lt_of_cell? _ _ c63; simp; omega))]; exact c63)
  have c80 : w11.cell? ⟨w5.heap.size, 0, none⟩ = some (.int .i64 (0)) := below_keep hb11 (by rw [World.cell?_alloc_lt _ _ _ (by first | exact World.block_lt_of_cell? _ _ c64 | (have := World.block_lt_of_cell? _ _ c64; simp; omega))]; exact c64)
  have c81 : w11.cell? ⟨w5.heap.size, 1, none⟩ = some (.int .i64 (0)) := below_keep hb11 (by rw [World.cell?_alloc_lt _ _ _ (by first | exact World.block_lt_of_cell? _ _ c65 | (have := World.block_lt_of_cell? _ _ c65; simp; omega))]; exact c65)
  have c82 : w11.cell? ⟨w5.heap.size, 2, none⟩ = some (.int .i64 (0)) := below_keep hb11 (by rw [World.cell?_alloc_lt _ _ _ (by first | exact World.block_lt_of_cell? _ _ c66 | (have := World.block_lt_of_cell? _ _ c66; simp; omega))]; exact c66)
  have c83 : w11.cell? ⟨w6.heap.size, 0, none⟩ = some (.int .i64 (4398046511104)) := below_keep hb11 (by rw [World.cell?_alloc_lt _ _ _ (by first | exact World.block_lt_of_cell? _ _ c67 | (have := World.block_lt_of_cell? _ _ c67; simp; omega))]; exact c67)
  have c84 : w11.cell? ⟨w6.heap.size, 1, none⟩ = some (.int .i64 (4398046511104)) := below_keep hb11 (by rw [World.cell?_alloc_lt _ _ _ (by first | exact World.block_lt_of_cell? _ _ c68 | (have := World.block_lt_of_cell? _ _ c68; simp; omega))]; exact c68)
  have c85 : w11.cell? ⟨w6.heap.size, 2, none⟩ = some (.int .i64 (0)) := below_keep hb11 (by rw [World.cell?_alloc_lt _ _ _ (by first | exact World.block_lt_of_cell? _ _ c69 | (have := World.block_lt_of_cell? _ _ c69; simp; omega))]; exact c69)
  have c86 : w11.cell? ⟨w9.heap.size, 0, none⟩ = some (.int .i64 (0)) := below_keep hb11 (by rw [World.cell?_alloc_lt _ _ _ (by first | exact World.block_lt_of_cell? _ _ c70 | (have := World.block_lt_of_cell? _ _ c70; simp; omega))]; exact c70)
  have c87 : w11.cell? ⟨w9.heap.size, 1, none⟩ = some (.int .i64 (-1)) := below_keep hb11 (by rw [World.cell?_alloc_lt _ _ _ (by first | exact World.block_lt_of_cell? _ _ c71 | (have := World.block_lt_of_cell? _ _ c71; simp; omega))]; exact c71)
  have c88 : w11.cell? ⟨w9.heap.size, 2, none⟩ = some (.int .i64 (-1)) := below_keep hb11 (by rw [World.cell?_alloc_lt _ _ _ (by first | exact World.block_lt_of_cell? _ _ c72 | (have := World.block_lt_of_cell? _ _ c72; simp; omega))]; exact c72)
  have H11 := Lib.hid (below_step (below_alloc (H10.out) _) hb11)
  clear hb11 c61 c62 c63 c64 c65 c66 c67 c68 c69 c70 c71 c72 H10 hz73 hz74 hz75 hz76
  have hz89 : w1.heap.size < w11.heap.size := World.block_lt_of_cell? _ _ c77
  have hz90 : w5.heap.size < w11.heap.size := World.block_lt_of_cell? _ _ c80
  have hz91 : w6.heap.size < w11.heap.size := World.block_lt_of_cell? _ _ c83
  have hz92 : w9.heap.size < w11.heap.size := World.block_lt_of_cell? _ _ c86
  go_wp2_with fail
  refine (of_sync _).mono ?_
  rintro y w12 ⟨rfl, hb12⟩
  have c93 : w12.cell? ⟨w1.heap.size, 0, none⟩ = some (.int .i64 (4398046511104)) := below_keep hb12 (by rw [World.cell?_alloc_lt _ _ _ (by first | exact World.block_lt_of_cell? _ _ c77 | (have := World.block_lt_of_cell? _ _ c77; simp; omega))]; exact c77)
  have c94 : w12.cell? ⟨w1.heap.size, 1, none⟩ = some (.int .i64 (4398046511104)) := below_keep hb12 (by rw [World.cell?_alloc_lt _ _ _ (by first | exact World.block_lt_of_cell? _ _ c78 | (have := World.block_lt_of_cell? _ _ c78; simp; omega))]; exact c78)
  have c95 : w12.cell? ⟨w1.heap.size, 2, none⟩ = some (.int .i64 (8388608)) := below_keep hb12 (by rw [World.cell?_alloc_lt _ _ _ (by first | exact World.block_lt_of_cell? _ _ c79 | (have := World.block_lt_of_cell? _ _ c79; simp; omega))]; exact c79)
  have c96 : w12.cell? ⟨w5.heap.size, 0, none⟩ = some (.int .i64 (0)) := below_keep hb12 (by rw [World.cell?_alloc_lt _ _ _ (by first | exact World.block_lt_of_cell? _ _ c80 | (have := World.block_lt_of_cell? _ _ c80; simp; omega))]; exact c80)
  have c97 : w12.cell? ⟨w5.heap.size, 1, none⟩ = some (.int .i64 (0)) := below_keep hb12 (by rw [World.cell?_alloc_lt _ _ _ (by first | exact World.block_lt_of_cell? _ _ c81 | (have := World.block_lt_of_cell? _ _ c81; simp; omega))]; exact c81)
  have c98 : w12.cell? ⟨w5.heap.size, 2, none⟩ = some (.int .i64 (0)) := below_keep hb12 (by rw [World.cell?_alloc_lt _ _ _ (by first | exact World.block_lt_of_cell? _ _ c82 | (have := World.block_lt_of_cell? _ _ c82; simp; omega))]; exact c82)
  have c99 : w12.cell? ⟨w6.heap.size, 0, none⟩ = some (.int .i64 (4398046511104)) := below_keep hb12 (by rw [World.cell?_alloc_lt _ _ _ (by first | exact World.block_lt_of_cell? _ _ c83 | (have := World.block_lt_of_cell? _ _ c83; simp; omega))]; exact c83)
  have c100 : w12.cell? ⟨w6.heap.size, 1, none⟩ = some (.int .i64 (4398046511104)) := below_keep hb12 (by rw [World.cell?_alloc_lt _ _ _ (by first | exact World.block_lt_of_cell? _ _ c84 | (have := World.block_lt_of_cell? _ _ c84; simp; omega))]; exact c84)
  have c101 : w12.cell? ⟨w6.heap.size, 2, none⟩ = some (.int .i64 (0)) := below_keep hb12 (by rw [World.cell?_alloc_lt _ _ _ (by first | exact World.block_lt_of_cell? _ _ c85 | (have := World.block_lt_of_cell? _ _ c85; simp; omega))]; exact c85)
  have c102 : w12.cell? ⟨w9.heap.size, 0, none⟩ = some (.int .i64 (0)) := below_keep hb12 (by rw [World.cell?_alloc_lt _ _ _ (by first | exact World.block_lt_of_cell? _ _ c86 | (have := World.block_lt_of_cell? _ _ c86; simp; omega))]; exact c86)
  have c103 : w12.cell? ⟨w9.heap.size, 1, none⟩ = some (.int .i64 (-1)) := below_keep hb12 (by rw [World.cell?_alloc_lt _ _ _ (by first | exact World.block_lt_of_cell? _ _ c87 | (have := World.block_lt_of_cell? _ _ c87; simp; omega))]; exact c87)
  have c104 : w12.cell? ⟨w9.heap.size, 2, none⟩ = some (.int .i64 (-1)) := below_keep hb12 (by rw [World.cell?_alloc_lt _ _ _ (by first | exact World.block_lt_of_cell? _ _ c88 | (have := World.block_lt_of_cell? _ _ c88; simp; omega))]; exact c88)
  have H12 := Lib.hid (below_step (below_alloc (H11.out) _) hb12)
  clear hb12 c77 c78 c79 c80 c81 c82 c83 c84 c85 c86 c87 c88 H11 hz89 hz90 hz91 hz92
  have hz105 : w1.heap.size < w12.heap.size := World.block_lt_of_cell? _ _ c93
  have hz106 : w5.heap.size < w12.heap.size := World.block_lt_of_cell? _ _ c96
  have hz107 : w6.heap.size < w12.heap.size := World.block_lt_of_cell? _ _ c99
  have hz108 : w9.heap.size < w12.heap.size := World.block_lt_of_cell? _ _ c102
  go_wp2_with fail
  refine (pBound_any 0 0 0 8388609 _).mono ?_
  rw [show pblV 0 0 0 8388609 = 0 by decide +kernel, show pblE 0 0 0 8388609 = 2 by decide +kernel]
  rintro y w13 ⟨rfl, hb13⟩
  have c109 : w13.cell? ⟨w1.heap.size, 0, none⟩ = some (.int .i64 (4398046511104)) := below_keep hb13 (by rw [World.cell?_alloc_lt _ _ _ (by first | exact World.block_lt_of_cell? _ _ c93 | (have := World.block_lt_of_cell? _ _ c93; simp; omega))]; exact c93)
  have c110 : w13.cell? ⟨w1.heap.size, 1, none⟩ = some (.int .i64 (4398046511104)) := below_keep hb13 (by rw [World.cell?_alloc_lt _ _ _ (by first | exact World.block_lt_of_cell? _ _ c94 | (have := World.block_lt_of_cell? _ _ c94; simp; omega))]; exact c94)
  have c111 : w13.cell? ⟨w1.heap.size, 2, none⟩ = some (.int .i64 (8388608)) := below_keep hb13 (by rw [World.cell?_alloc_lt _ _ _ (by first | exact World.block_lt_of_cell? _ _ c95 | (have := World.block_lt_of_cell? _ _ c95; simp; omega))]; exact c95)
  have c112 : w13.cell? ⟨w5.heap.size, 0, none⟩ = some (.int .i64 (0)) := below_keep hb13 (by rw [World.cell?_alloc_lt _ _ _ (by first | exact World.block_lt_of_cell? _ _ c96 | (have := World.block_lt_of_cell? _ _ c96; simp; omega))]; exact c96)
  have c113 : w13.cell? ⟨w5.heap.size, 1, none⟩ = some (.int .i64 (0)) := below_keep hb13 (by rw [World.cell?_alloc_lt _ _ _ (by first | exact World.block_lt_of_cell? _ _ c97 | (have := World.block_lt_of_cell? _ _ c97; simp; omega))]; exact c97)
  have c114 : w13.cell? ⟨w5.heap.size, 2, none⟩ = some (.int .i64 (0)) := below_keep hb13 (by rw [World.cell?_alloc_lt _ _ _ (by first | exact World.block_lt_of_cell? _ _ c98 | (have := World.block_lt_of_cell? _ _ c98; simp; omega))]; exact c98)
  have c115 : w13.cell? ⟨w6.heap.size, 0, none⟩ = some (.int .i64 (4398046511104)) := below_keep hb13 (by rw [World.cell?_alloc_lt _ _ _ (by first | exact World.block_lt_of_cell? _ _ c99 | (have := World.block_lt_of_cell? _ _ c99; simp; omega))]; exact c99)
  have c116 : w13.cell? ⟨w6.heap.size, 1, none⟩ = some (.int .i64 (4398046511104)) := below_keep hb13 (by rw [World.cell?_alloc_lt _ _ _ (by first | exact World.block_lt_of_cell? _ _ c100 | (have := World.block_lt_of_cell? _ _ c100; simp; omega))]; exact c100)
  have c117 : w13.cell? ⟨w6.heap.size, 2, none⟩ = some (.int .i64 (0)) := below_keep hb13 (by rw [World.cell?_alloc_lt _ _ _ (by first | exact World.block_lt_of_cell? _ _ c101 | (have := World.block_lt_of_cell? _ _ c101; simp; omega))]; exact c101)
  have c118 : w13.cell? ⟨w9.heap.size, 0, none⟩ = some (.int .i64 (0)) := below_keep hb13 (by rw [World.cell?_alloc_lt _ _ _ (by first | exact World.block_lt_of_cell? _ _ c102 | (have := World.block_lt_of_cell? _ _ c102; simp; omega))]; exact c102)
  have c119 : w13.cell? ⟨w9.heap.size, 1, none⟩ = some (.int .i64 (-1)) := below_keep hb13 (by rw [World.cell?_alloc_lt _ _ _ (by first | exact World.block_lt_of_cell? _ _ c103 | (have := World.block_lt_of_cell? _ _ c103; simp; omega))]; exact c103)
  have c120 : w13.cell? ⟨w9.heap.size, 2, none⟩ = some (.int .i64 (-1)) := below_keep hb13 (by rw [World.cell?_alloc_lt _ _ _ (by first | exact World.block_lt_of_cell? _ _ c104 | (have := World.block_lt_of_cell? _ _ c104; simp; omega))]; exact c104)
  have H13 := Lib.hid (below_step (below_alloc (H12.out) _) hb13)
  clear hb13 c93 c94 c95 c96 c97 c98 c99 c100 c101 c102 c103 c104 H12 hz105 hz106 hz107 hz108
  go_wp2_with fail
  refine (pBound_any 0 0 0 0 _).mono ?_
  rw [show pblV 0 0 0 0 = 2 by decide +kernel, show pblE 0 0 0 0 = 0 by decide +kernel]
  rintro y w14 ⟨rfl, hb14⟩
  have c121 : w14.cell? ⟨w1.heap.size, 0, none⟩ = some (.int .i64 (4398046511104)) := below_keep hb14 (c109)
  have c122 : w14.cell? ⟨w1.heap.size, 1, none⟩ = some (.int .i64 (4398046511104)) := below_keep hb14 (c110)
  have c123 : w14.cell? ⟨w1.heap.size, 2, none⟩ = some (.int .i64 (8388608)) := below_keep hb14 (c111)
  have c124 : w14.cell? ⟨w5.heap.size, 0, none⟩ = some (.int .i64 (0)) := below_keep hb14 (c112)
  have c125 : w14.cell? ⟨w5.heap.size, 1, none⟩ = some (.int .i64 (0)) := below_keep hb14 (c113)
  have c126 : w14.cell? ⟨w5.heap.size, 2, none⟩ = some (.int .i64 (0)) := below_keep hb14 (c114)
  have c127 : w14.cell? ⟨w6.heap.size, 0, none⟩ = some (.int .i64 (4398046511104)) := below_keep hb14 (c115)
  have c128 : w14.cell? ⟨w6.heap.size, 1, none⟩ = some (.int .i64 (4398046511104)) := below_keep hb14 (c116)
  have c129 : w14.cell? ⟨w6.heap.size, 2, none⟩ = some (.int .i64 (0)) := below_keep hb14 (c117)
  have c130 : w14.cell? ⟨w9.heap.size, 0, none⟩ = some (.int .i64 (0)) := below_keep hb14 (c118)
  have c131 : w14.cell? ⟨w9.heap.size, 1, none⟩ = some (.int .i64 (-1)) := below_keep hb14 (c119)
  have c132 : w14.cell? ⟨w9.heap.size, 2, none⟩ = some (.int .i64 (-1)) := below_keep hb14 (c120)
  have H14 := Lib.hid (below_step (H13.out) hb14)
  clear hb14 c109 c110 c111 c112 c113 c114 c115 c116 c117 c118 c119 c120 H13
  go_wp2
  go_ret
  exact ⟨rfl, H14.out⟩

set_option maxRecDepth 100000 in
theorem passKnown_lifted (os : Os) (started : os.Started) (H : Type) (enc : TypeId × Value → H) :
    ReturnsInHanded {} Try.checked os 8 .any (Rows.passKnownSpec.pre6 enc Try.prog Try.f8 [] false) (Rows.passKnownSpec.post enc Try.prog Try.f8 false true false false) := by
  refine law_lifted started Try.func8 (by kernel_rfl)
    (ChangeSpec.witness6 (enc := enc) (C := Try.checked) false ⟨#[], #[], []⟩ 8 (by kernel_rfl) (by kernel_rfl) (by kernel_rfl) (by kernel_rfl))
    rfl (by kernel_rfl) (by kernel_rfl) (fun ds hd => ?_) ?_
  · rw [Try.params8] at hd
    match ds, hd with
    | [], _ => exact ⟨rfl, rfl, rfl⟩
  · intro W base args ds p hval hA
    rw [Try.params8] at hA hval
    obtain ⟨hz, rfl, rfl⟩ := trodAll_nil hA
    obtain rfl : args = #[] := by
      cases args; simp_all
    exact passKnown_walk  W

theorem passKnown_holds : Rows.PassKnownSaid :=
  OpenClaim.holds_of_wide 8 Try.f8 rfl rfl rfl rfl rfl rfl rfl ⟨rfl, rfl, rfl, rfl, rfl⟩ rfl rfl rfl rfl rfl (by kernel_rfl) Try.func8 (by kernel_rfl)
    (of_decide_eq_true (by kernel_rfl)) (by unfold Func.isWrapper; first | (rw [if_pos (by decide +kernel)]; kernel_rfl) | (rw [if_neg (by decide +kernel)]; exact ⟨rfl, rfl⟩))
    (fun os started H enc _ => passKnown_lifted os started H enc)
#print axioms passKnown_holds

end Go.Proofs.Ytkbadnehngogjaa
