/-
  isochronlaw14.works: the examples of the chapter hold.
-/
import Derived.Test.YtkbadnehngogjaaPass5a
import Derived.Test.YtkbadnehngogjaaPass5s
import Derived.Test.YtkbadnehngogjaaPass6
namespace Go.Proofs.Ytkbadnehngogjaa
open Go.RowKit Go.Lib Plain

set_option maxHeartbeats 8000000 in
set_option maxRecDepth 100000 in
theorem works_any (w : World) : Calls Try.prog 11 #[] w fun e w' => e = .returned (.bool true) ∧ Below w.heap.size w w' := by
  go_enter Try.func11, Try.ntmps11
  go_wp2_with fail
  refine (arrive_any 1000 5 1000000 2000 (-500000) _).mono ?_
  rw [show (apV (OkI 1000 5 1000000) (Stamp 2000 ∧ Ratio (-500000)) (dnV 1000 (corV 5 2000 (1000000 + (-500000))) (1000000 + (-500000)) 1000)) = 1000 by decide +kernel, show (apV (OkI 1000 5 1000000) (Stamp 2000 ∧ Ratio (-500000)) (dnV 1000 (corV 5 2000 (1000000 + (-500000))) (1000000 + (-500000)) (corV 5 2000 (1000000 + (-500000))))) = 2006 by decide +kernel, show (apV (OkI 1000 5 1000000) (Stamp 2000 ∧ Ratio (-500000)) (dnV 1000 (corV 5 2000 (1000000 + (-500000))) (1000000 + (-500000)) (1000000 + (-500000)))) = 500000 by decide +kernel, show (apE (OkI 1000 5 1000000) (Stamp 2000 ∧ Ratio (-500000)) (dnE 1000 (corV 5 2000 (1000000 + (-500000))) (1000000 + (-500000)))) = 0 by decide +kernel]
  rintro e w1 ⟨rfl, hb1⟩
  have c1 : w1.cell? ⟨w.heap.size, 0, none⟩ = some (.int .i64 1000) := below_keep hb1 (by simp [go_sem])
  have c2 : w1.cell? ⟨w.heap.size, 1, none⟩ = some (.int .i64 5) := below_keep hb1 (by simp [go_sem])
  have c3 : w1.cell? ⟨w.heap.size, 2, none⟩ = some (.int .i64 1000000) := below_keep hb1 (by simp [go_sem])
  have H1 := Lib.hid (below_step (below_alloc (Below.refl _ _) _) hb1)
  clear hb1
  have hz4 : w.heap.size < w1.heap.size := World.block_lt_of_cell? _ _ c1
  go_wp2_with fail
  refine (leave_any 1000 5 1000000 3000 _).mono ?_
  rw [show (apV (OkI 1000 5 1000000) (Tick 3000) (dnV 1000 (corV 5 3000 1000000) 1000000 1000)) = 1000 by decide +kernel, show (apV (OkI 1000 5 1000000) (Tick 3000) (dnV 1000 (corV 5 3000 1000000) 1000000 (corV 5 3000 1000000))) = 3008 by decide +kernel, show (apV (OkI 1000 5 1000000) (Tick 3000) (dnV 1000 (corV 5 3000 1000000) 1000000 1000000)) = 1000000 by decide +kernel, show (apE (OkI 1000 5 1000000) (Tick 3000) (dnE 1000 (corV 5 3000 1000000) 1000000)) = 0 by decide +kernel]
  rintro e w2 ⟨rfl, hb2⟩
  have c5 : w2.cell? ⟨w.heap.size, 0, none⟩ = some (.int .i64 1000) := below_keep hb2 (by rw [World.cell?_alloc_lt _ _ _ (by first | exact World.block_lt_of_cell? _ _ c1 | (have := World.block_lt_of_cell? _ _ c1; simp; omega))]; exact c1)
  have c6 : w2.cell? ⟨w.heap.size, 1, none⟩ = some (.int .i64 5) := below_keep hb2 (by rw [World.cell?_alloc_lt _ _ _ (by first | exact World.block_lt_of_cell? _ _ c2 | (have := World.block_lt_of_cell? _ _ c2; simp; omega))]; exact c2)
  have c7 : w2.cell? ⟨w.heap.size, 2, none⟩ = some (.int .i64 1000000) := below_keep hb2 (by rw [World.cell?_alloc_lt _ _ _ (by first | exact World.block_lt_of_cell? _ _ c3 | (have := World.block_lt_of_cell? _ _ c3; simp; omega))]; exact c3)
  have c8 : w2.cell? ⟨w1.heap.size, 0, none⟩ = some (.int .i64 (1000)) := below_keep hb2 (by simp [go_sem])
  have c9 : w2.cell? ⟨w1.heap.size, 1, none⟩ = some (.int .i64 (2006)) := below_keep hb2 (by simp [go_sem])
  have c10 : w2.cell? ⟨w1.heap.size, 2, none⟩ = some (.int .i64 (500000)) := below_keep hb2 (by simp [go_sem])
  have H2 := Lib.hid (below_step (below_alloc (H1.out) _) hb2)
  clear hb2 c1 c2 c3 H1 hz4
  have hz11 : w.heap.size < w2.heap.size := World.block_lt_of_cell? _ _ c5
  have hz12 : w1.heap.size < w2.heap.size := World.block_lt_of_cell? _ _ c8
  go_wp2_with fail
  refine (leave_any 1000 5 1000000 0 _).mono ?_
  rw [show (apV (OkI 1000 5 1000000) (Tick 0) (dnV 1000 (corV 5 0 1000000) 1000000 1000)) = 1000 by decide +kernel, show (apV (OkI 1000 5 1000000) (Tick 0) (dnV 1000 (corV 5 0 1000000) 1000000 (corV 5 0 1000000))) = 5 by decide +kernel, show (apV (OkI 1000 5 1000000) (Tick 0) (dnV 1000 (corV 5 0 1000000) 1000000 1000000)) = 1000000 by decide +kernel, show (apE (OkI 1000 5 1000000) (Tick 0) (dnE 1000 (corV 5 0 1000000) 1000000)) = 0 by decide +kernel]
  rintro e w3 ⟨rfl, hb3⟩
  have c13 : w3.cell? ⟨w.heap.size, 0, none⟩ = some (.int .i64 1000) := below_keep hb3 (by rw [World.cell?_alloc_lt _ _ _ (by first | exact World.block_lt_of_cell? _ _ c5 | (have := World.block_lt_of_cell? _ _ c5; simp; omega))]; exact c5)
  have c14 : w3.cell? ⟨w.heap.size, 1, none⟩ = some (.int .i64 5) := below_keep hb3 (by rw [World.cell?_alloc_lt _ _ _ (by first | exact World.block_lt_of_cell? _ _ c6 | (have := World.block_lt_of_cell? _ _ c6; simp; omega))]; exact c6)
  have c15 : w3.cell? ⟨w.heap.size, 2, none⟩ = some (.int .i64 1000000) := below_keep hb3 (by rw [World.cell?_alloc_lt _ _ _ (by first | exact World.block_lt_of_cell? _ _ c7 | (have := World.block_lt_of_cell? _ _ c7; simp; omega))]; exact c7)
  have c16 : w3.cell? ⟨w1.heap.size, 0, none⟩ = some (.int .i64 (1000)) := below_keep hb3 (by rw [World.cell?_alloc_lt _ _ _ (by first | exact World.block_lt_of_cell? _ _ c8 | (have := World.block_lt_of_cell? _ _ c8; simp; omega))]; exact c8)
  have c17 : w3.cell? ⟨w1.heap.size, 1, none⟩ = some (.int .i64 (2006)) := below_keep hb3 (by rw [World.cell?_alloc_lt _ _ _ (by first | exact World.block_lt_of_cell? _ _ c9 | (have := World.block_lt_of_cell? _ _ c9; simp; omega))]; exact c9)
  have c18 : w3.cell? ⟨w1.heap.size, 2, none⟩ = some (.int .i64 (500000)) := below_keep hb3 (by rw [World.cell?_alloc_lt _ _ _ (by first | exact World.block_lt_of_cell? _ _ c10 | (have := World.block_lt_of_cell? _ _ c10; simp; omega))]; exact c10)
  have c19 : w3.cell? ⟨w2.heap.size, 0, none⟩ = some (.int .i64 (1000)) := below_keep hb3 (by simp [go_sem])
  have c20 : w3.cell? ⟨w2.heap.size, 1, none⟩ = some (.int .i64 (3008)) := below_keep hb3 (by simp [go_sem])
  have c21 : w3.cell? ⟨w2.heap.size, 2, none⟩ = some (.int .i64 (1000000)) := below_keep hb3 (by simp [go_sem])
  have H3 := Lib.hid (below_step (below_alloc (H2.out) _) hb3)
  clear hb3 c5 c6 c7 c8 c9 c10 H2 hz11 hz12
  have hz22 : w.heap.size < w3.heap.size := World.block_lt_of_cell? _ _ c13
  have hz23 : w1.heap.size < w3.heap.size := World.block_lt_of_cell? _ _ c16
  have hz24 : w2.heap.size < w3.heap.size := World.block_lt_of_cell? _ _ c19
  go_wp2_with fail
  refine (set_any 1000 5 1000000 7 _).mono ?_
  rw [show (apV (OkI 1000 5 1000000) (Stamp 7) (stV 1000 5 7 7)) = 7 by decide +kernel, show (apV (OkI 1000 5 1000000) (Stamp 7) (stV 1000 5 7 (1000 + 5))) = 1005 by decide +kernel, show (apV (OkI 1000 5 1000000) (Stamp 7) (stV 1000 5 7 1000000)) = 1000000 by decide +kernel, show (apE (OkI 1000 5 1000000) (Stamp 7) (stE 1000 5)) = 0 by decide +kernel]
  rintro e w4 ⟨rfl, hb4⟩
  have c25 : w4.cell? ⟨w.heap.size, 0, none⟩ = some (.int .i64 1000) := below_keep hb4 (by rw [World.cell?_alloc_lt _ _ _ (by first | exact World.block_lt_of_cell? _ _ c13 | (have := World.block_lt_of_cell? _ _ c13; simp; omega))]; exact c13)
  have c26 : w4.cell? ⟨w.heap.size, 1, none⟩ = some (.int .i64 5) := below_keep hb4 (by rw [World.cell?_alloc_lt _ _ _ (by first | exact World.block_lt_of_cell? _ _ c14 | (have := World.block_lt_of_cell? _ _ c14; simp; omega))]; exact c14)
  have c27 : w4.cell? ⟨w.heap.size, 2, none⟩ = some (.int .i64 1000000) := below_keep hb4 (by rw [World.cell?_alloc_lt _ _ _ (by first | exact World.block_lt_of_cell? _ _ c15 | (have := World.block_lt_of_cell? _ _ c15; simp; omega))]; exact c15)
  have c28 : w4.cell? ⟨w1.heap.size, 0, none⟩ = some (.int .i64 (1000)) := below_keep hb4 (by rw [World.cell?_alloc_lt _ _ _ (by first | exact World.block_lt_of_cell? _ _ c16 | (have := World.block_lt_of_cell? _ _ c16; simp; omega))]; exact c16)
  have c29 : w4.cell? ⟨w1.heap.size, 1, none⟩ = some (.int .i64 (2006)) := below_keep hb4 (by rw [World.cell?_alloc_lt _ _ _ (by first | exact World.block_lt_of_cell? _ _ c17 | (have := World.block_lt_of_cell? _ _ c17; simp; omega))]; exact c17)
  have c30 : w4.cell? ⟨w1.heap.size, 2, none⟩ = some (.int .i64 (500000)) := below_keep hb4 (by rw [World.cell?_alloc_lt _ _ _ (by first | exact World.block_lt_of_cell? _ _ c18 | (have := World.block_lt_of_cell? _ _ c18; simp; omega))]; exact c18)
  have c31 : w4.cell? ⟨w2.heap.size, 0, none⟩ = some (.int .i64 (1000)) := below_keep hb4 (by rw [World.cell?_alloc_lt _ _ _ (by first | exact World.block_lt_of_cell? _ _ c19 | (have := World.block_lt_of_cell? _ _ c19; simp; omega))]; exact c19)
  have c32 : w4.cell? ⟨w2.heap.size, 1, none⟩ = some (.int .i64 (3008)) := below_keep hb4 (by rw [World.cell?_alloc_lt _ _ _ (by first | exact World.block_lt_of_cell? _ _ c20 | (have := World.block_lt_of_cell? _ _ c20; simp; omega))]; exact c20)
  have c33 : w4.cell? ⟨w2.heap.size, 2, none⟩ = some (.int .i64 (1000000)) := below_keep hb4 (by rw [World.cell?_alloc_lt _ _ _ (by first | exact World.block_lt_of_cell? _ _ c21 | (have := World.block_lt_of_cell? _ _ c21; simp; omega))]; exact c21)
  have c34 : w4.cell? ⟨w3.heap.size, 0, none⟩ = some (.int .i64 (1000)) := below_keep hb4 (by simp [go_sem])
  have c35 : w4.cell? ⟨w3.heap.size, 1, none⟩ = some (.int .i64 (5)) := below_keep hb4 (by simp [go_sem])
  have c36 : w4.cell? ⟨w3.heap.size, 2, none⟩ = some (.int .i64 (1000000)) := below_keep hb4 (by simp [go_sem])
  have H4 := Lib.hid (below_step (below_alloc (H3.out) _) hb4)
  clear hb4 c13 c14 c15 c16 c17 c18 c19 c20 c21 H3 hz22 hz23 hz24
  have hz37 : w.heap.size < w4.heap.size := World.block_lt_of_cell? _ _ c25
  have hz38 : w1.heap.size < w4.heap.size := World.block_lt_of_cell? _ _ c28
  have hz39 : w2.heap.size < w4.heap.size := World.block_lt_of_cell? _ _ c31
  have hz40 : w3.heap.size < w4.heap.size := World.block_lt_of_cell? _ _ c34
  go_wp2_with fail
  refine (message_any 1000 5 1000000 0 1 1 9 _).mono ?_
  rw [show (msL 1000 5 1000000 0 1 1 9).toArray = #[.int .i64 8, .int .i64 0, .int .i64 5, .int .i64 1, .int .i64 1, .int .i64 9, .int .i64 1000, .int .i64 1000000, .int .i64 0, .int .i64 0, .int .i64 0, .int .i64 0, .int .i64 0, .int .i64 0, .int .i64 0, .int .i64 0, .int .i64 0] from by rw [show msL 1000 5 1000000 0 1 1 9 = folM 0 5 1 1 9 1000 1000000 from if_pos (by decide +kernel)]; rfl, show msE 1000 5 1000000 0 1 1 9 = 0 by decide +kernel]
  rintro e w5 ⟨rfl, hb5⟩
  have c41 : w5.cell? ⟨w.heap.size, 0, none⟩ = some (.int .i64 1000) := below_keep hb5 (by rw [World.cell?_alloc_lt _ _ _ (by first | exact World.block_lt_of_cell? _ _ c25 | (have := World.block_lt_of_cell? _ _ c25; simp; omega))]; exact c25)
  have c42 : w5.cell? ⟨w.heap.size, 1, none⟩ = some (.int .i64 5) := below_keep hb5 (by rw [World.cell?_alloc_lt _ _ _ (by first | exact World.block_lt_of_cell? _ _ c26 | (have := World.block_lt_of_cell? _ _ c26; simp; omega))]; exact c26)
  have c43 : w5.cell? ⟨w.heap.size, 2, none⟩ = some (.int .i64 1000000) := below_keep hb5 (by rw [World.cell?_alloc_lt _ _ _ (by first | exact World.block_lt_of_cell? _ _ c27 | (have := World.block_lt_of_cell? _ _ c27; simp; omega))]; exact c27)
  have c44 : w5.cell? ⟨w1.heap.size, 0, none⟩ = some (.int .i64 (1000)) := below_keep hb5 (by rw [World.cell?_alloc_lt _ _ _ (by first | exact World.block_lt_of_cell? _ _ c28 | (have := World.block_lt_of_cell? _ _ c28; simp; omega))]; exact c28)
  have c45 : w5.cell? ⟨w1.heap.size, 1, none⟩ = some (.int .i64 (2006)) := below_keep hb5 (by rw [World.cell?_alloc_lt _ _ _ (by first | exact World.block_lt_of_cell? _ _ c29 | (have := World.block_lt_of_cell? _ _ c29; simp; omega))]; exact c29)
  have c46 : w5.cell? ⟨w1.heap.size, 2, none⟩ = some (.int .i64 (500000)) := below_keep hb5 (by rw [World.cell?_alloc_lt _ _ _ (by first | exact World.block_lt_of_cell? _ _ c30 | (have := World.block_lt_of_cell? _ _ c30; simp; omega))]; exact c30)
  have c47 : w5.cell? ⟨w2.heap.size, 0, none⟩ = some (.int .i64 (1000)) := below_keep hb5 (by rw [World.cell?_alloc_lt _ _ _ (by first | exact World.block_lt_of_cell? _ _ c31 | (have := World.block_lt_of_cell? _ _ c31; simp; omega))]; exact c31)
  have c48 : w5.cell? ⟨w2.heap.size, 1, none⟩ = some (.int .i64 (3008)) := below_keep hb5 (by rw [World.cell?_alloc_lt _ _ _ (by first | exact World.block_lt_of_cell? _ _ c32 | (have := World.block_lt_of_cell? _ _ c32; simp; omega))]; exact c32)
  have c49 : w5.cell? ⟨w2.heap.size, 2, none⟩ = some (.int .i64 (1000000)) := below_keep hb5 (by rw [World.cell?_alloc_lt _ _ _ (by first | exact World.block_lt_of_cell? _ _ c33 | (have := World.block_lt_of_cell? _ _ c33; simp; omega))]; exact c33)
  have c50 : w5.cell? ⟨w3.heap.size, 0, none⟩ = some (.int .i64 (1000)) := below_keep hb5 (by rw [World.cell?_alloc_lt _ _ _ (by first | exact World.block_lt_of_cell? _ _ c34 | (have := World.block_lt_of_cell? _ _ c34; simp; omega))]; exact c34)
  have c51 : w5.cell? ⟨w3.heap.size, 1, none⟩ = some (.int .i64 (5)) := below_keep hb5 (by rw [World.cell?_alloc_lt _ _ _ (by first | exact World.block_lt_of_cell? _ _ c35 | (have := World.block_lt_of_cell? _ _ c35; simp; omega))]; exact c35)
  have c52 : w5.cell? ⟨w3.heap.size, 2, none⟩ = some (.int .i64 (1000000)) := below_keep hb5 (by rw [World.cell?_alloc_lt _ _ _ (by first | exact World.block_lt_of_cell? _ _ c36 | (have := World.block_lt_of_cell? _ _ c36; simp; omega))]; exact c36)
  have c53 : w5.cell? ⟨w4.heap.size, 0, none⟩ = some (.int .i64 (7)) := below_keep hb5 (by simp [go_sem])
  have c54 : w5.cell? ⟨w4.heap.size, 1, none⟩ = some (.int .i64 (1005)) := below_keep hb5 (by simp [go_sem])
  have c55 : w5.cell? ⟨w4.heap.size, 2, none⟩ = some (.int .i64 (1000000)) := below_keep hb5 (by simp [go_sem])
  have H5 := Lib.hid (below_step (below_alloc (H4.out) _) hb5)
  clear hb5 c25 c26 c27 c28 c29 c30 c31 c32 c33 c34 c35 c36 H4 hz37 hz38 hz39 hz40
  have hz56 : w.heap.size < w5.heap.size := World.block_lt_of_cell? _ _ c41
  have hz57 : w1.heap.size < w5.heap.size := World.block_lt_of_cell? _ _ c44
  have hz58 : w2.heap.size < w5.heap.size := World.block_lt_of_cell? _ _ c47
  have hz59 : w3.heap.size < w5.heap.size := World.block_lt_of_cell? _ _ c50
  have hz60 : w4.heap.size < w5.heap.size := World.block_lt_of_cell? _ _ c53
  go_wp2_with fail
  refine (of_ok 0 5 1 1 9 1000 1000000 (by decide +kernel) _).mono ?_
  rintro e w6 ⟨rfl, hb6⟩
  have c61 : w6.cell? ⟨w.heap.size, 0, none⟩ = some (.int .i64 1000) := below_keep hb6 (by rw [World.cell?_alloc_lt _ _ _ (by first | exact World.block_lt_of_cell? _ _ c41 | (have := World.block_lt_of_cell? _ _ c41; simp; omega))]; exact c41)
  have c62 : w6.cell? ⟨w.heap.size, 1, none⟩ = some (.int .i64 5) := below_keep hb6 (by rw [World.cell?_alloc_lt _ _ _ (by first | exact World.block_lt_of_cell? _ _ c42 | (have := World.block_lt_of_cell? _ _ c42; simp; omega))]; exact c42)
  have c63 : w6.cell? ⟨w.heap.size, 2, none⟩ = some (.int .i64 1000000) := below_keep hb6 (by rw [World.cell?_alloc_lt _ _ _ (by first | exact World.block_lt_of_cell? _ _ c43 | (have := World.block_lt_of_cell? _ _ c43; simp; omega))]; exact c43)
  have c64 : w6.cell? ⟨w1.heap.size, 0, none⟩ = some (.int .i64 (1000)) := below_keep hb6 (by rw [World.cell?_alloc_lt _ _ _ (by first | exact World.block_lt_of_cell? _ _ c44 | (have := World.block_lt_of_cell? _ _ c44; simp; omega))]; exact c44)
  have c65 : w6.cell? ⟨w1.heap.size, 1, none⟩ = some (.int .i64 (2006)) := below_keep hb6 (by rw [World.cell?_alloc_lt _ _ _ (by first | exact World.block_lt_of_cell? _ _ c45 | (have := World.block_lt_of_cell? _ _ c45; simp; omega))]; exact c45)
  have c66 : w6.cell? ⟨w1.heap.size, 2, none⟩ = some (.int .i64 (500000)) := below_keep hb6 (by rw [World.cell?_alloc_lt _ _ _ (by first | exact World.block_lt_of_cell? _ _ c46 | (have := World.block_lt_of_cell? _ _ c46; simp; omega))]; exact c46)
  have c67 : w6.cell? ⟨w2.heap.size, 0, none⟩ = some (.int .i64 (1000)) := below_keep hb6 (by rw [World.cell?_alloc_lt _ _ _ (by first | exact World.block_lt_of_cell? _ _ c47 | (have := World.block_lt_of_cell? _ _ c47; simp; omega))]; exact c47)
  have c68 : w6.cell? ⟨w2.heap.size, 1, none⟩ = some (.int .i64 (3008)) := below_keep hb6 (by rw [World.cell?_alloc_lt _ _ _ (by first | exact World.block_lt_of_cell? _ _ c48 | (have := World.block_lt_of_cell? _ _ c48; simp; omega))]; exact c48)
  have c69 : w6.cell? ⟨w2.heap.size, 2, none⟩ = some (.int .i64 (1000000)) := below_keep hb6 (by rw [World.cell?_alloc_lt _ _ _ (by first | exact World.block_lt_of_cell? _ _ c49 | (have := World.block_lt_of_cell? _ _ c49; simp; omega))]; exact c49)
  have c70 : w6.cell? ⟨w3.heap.size, 0, none⟩ = some (.int .i64 (1000)) := below_keep hb6 (by rw [World.cell?_alloc_lt _ _ _ (by first | exact World.block_lt_of_cell? _ _ c50 | (have := World.block_lt_of_cell? _ _ c50; simp; omega))]; exact c50)
  have c71 : w6.cell? ⟨w3.heap.size, 1, none⟩ = some (.int .i64 (5)) := below_keep hb6 (by rw [World.cell?_alloc_lt _ _ _ (by first | exact World.block_lt_of_cell? _ _ c51 | (have := World.block_lt_of_cell? _ _ c51; simp; omega))]; exact c51)
  have c72 : w6.cell? ⟨w3.heap.size, 2, none⟩ = some (.int .i64 (1000000)) := below_keep hb6 (by rw [World.cell?_alloc_lt _ _ _ (by first | exact World.block_lt_of_cell? _ _ c52 | (have := World.block_lt_of_cell? _ _ c52; simp; omega))]; exact c52)
  have c73 : w6.cell? ⟨w4.heap.size, 0, none⟩ = some (.int .i64 (7)) := below_keep hb6 (by rw [World.cell?_alloc_lt _ _ _ (by first | exact World.block_lt_of_cell? _ _ c53 | (have := World.block_lt_of_cell? _ _ c53; simp; omega))]; exact c53)
  have c74 : w6.cell? ⟨w4.heap.size, 1, none⟩ = some (.int .i64 (1005)) := below_keep hb6 (by rw [World.cell?_alloc_lt _ _ _ (by first | exact World.block_lt_of_cell? _ _ c54 | (have := World.block_lt_of_cell? _ _ c54; simp; omega))]; exact c54)
  have c75 : w6.cell? ⟨w4.heap.size, 2, none⟩ = some (.int .i64 (1000000)) := below_keep hb6 (by rw [World.cell?_alloc_lt _ _ _ (by first | exact World.block_lt_of_cell? _ _ c55 | (have := World.block_lt_of_cell? _ _ c55; simp; omega))]; exact c55)
  have H6 := Lib.hid (below_step (below_alloc (H5.out) _) hb6)
  clear hb6 c41 c42 c43 c44 c45 c46 c47 c48 c49 c50 c51 c52 c53 c54 c55 H5 hz56 hz57 hz58 hz59 hz60
  have hz76 : w.heap.size < w6.heap.size := World.block_lt_of_cell? _ _ c61
  have hz77 : w1.heap.size < w6.heap.size := World.block_lt_of_cell? _ _ c64
  have hz78 : w2.heap.size < w6.heap.size := World.block_lt_of_cell? _ _ c67
  have hz79 : w3.heap.size < w6.heap.size := World.block_lt_of_cell? _ _ c70
  have hz80 : w4.heap.size < w6.heap.size := World.block_lt_of_cell? _ _ c73
  go_wp2_with fail
  refine (pBound_any 1 2 10 0 _).mono ?_
  rw [show pblV 1 2 10 0 = 6 by decide +kernel, show pblE 1 2 10 0 = 0 by decide +kernel]
  rintro e w7 ⟨rfl, hb7⟩
  have c81 : w7.cell? ⟨w.heap.size, 0, none⟩ = some (.int .i64 1000) := below_keep hb7 (by rw [World.cell?_alloc_lt _ _ _ (by first | exact World.block_lt_of_cell? _ _ c61 | (have := World.block_lt_of_cell? _ _ c61; simp; omega))]; exact c61)
  have c82 : w7.cell? ⟨w.heap.size, 1, none⟩ = some (.int .i64 5) := below_keep hb7 (by rw [World.cell?_alloc_lt _ _ _ (by first | exact World.block_lt_of_cell? _ _ c62 | (have := World.block_lt_of_cell? _ _ c62; simp; omega))]; exact c62)
  have c83 : w7.cell? ⟨w.heap.size, 2, none⟩ = some (.int .i64 1000000) := below_keep hb7 (by rw [World.cell?_alloc_lt _ _ _ (by first | exact World.block_lt_of_cell? _ _ c63 | (have := World.block_lt_of_cell? _ _ c63; simp; omega))]; exact c63)
  have c84 : w7.cell? ⟨w1.heap.size, 0, none⟩ = some (.int .i64 (1000)) := below_keep hb7 (by rw [World.cell?_alloc_lt _ _ _ (by first | exact World.block_lt_of_cell? _ _ c64 | (have := World.block_lt_of_cell? _ _ c64; simp; omega))]; exact c64)
  have c85 : w7.cell? ⟨w1.heap.size, 1, none⟩ = some (.int .i64 (2006)) := below_keep hb7 (by rw [World.cell?_alloc_lt _ _ _ (by first | exact World.block_lt_of_cell? _ _ c65 | (have := World.block_lt_of_cell? _ _ c65; simp; omega))]; exact c65)
  have c86 : w7.cell? ⟨w1.heap.size, 2, none⟩ = some (.int .i64 (500000)) := below_keep hb7 (by rw [World.cell?_alloc_lt _ _ _ (by first | exact World.block_lt_of_cell? _ _ c66 | (have := World.block_lt_of_cell? _ _ c66; simp; omega))]; exact c66)
  have c87 : w7.cell? ⟨w2.heap.size, 0, none⟩ = some (.int .i64 (1000)) := below_keep hb7 (by rw [World.cell?_alloc_lt _ _ _ (by first | exact World.block_lt_of_cell? _ _ c67 | (have := World.block_lt_of_cell? _ _ c67; simp; omega))]; exact c67)
  have c88 : w7.cell? ⟨w2.heap.size, 1, none⟩ = some (.int .i64 (3008)) := below_keep hb7 (by rw [World.cell?_alloc_lt _ _ _ (by first | exact World.block_lt_of_cell? _ _ c68 | (have := World.block_lt_of_cell? _ _ c68; simp; omega))]; exact c68)
  have c89 : w7.cell? ⟨w2.heap.size, 2, none⟩ = some (.int .i64 (1000000)) := below_keep hb7 (by rw [World.cell?_alloc_lt _ _ _ (by first | exact World.block_lt_of_cell? _ _ c69 | (have := World.block_lt_of_cell? _ _ c69; simp; omega))]; exact c69)
  have c90 : w7.cell? ⟨w3.heap.size, 0, none⟩ = some (.int .i64 (1000)) := below_keep hb7 (by rw [World.cell?_alloc_lt _ _ _ (by first | exact World.block_lt_of_cell? _ _ c70 | (have := World.block_lt_of_cell? _ _ c70; simp; omega))]; exact c70)
  have c91 : w7.cell? ⟨w3.heap.size, 1, none⟩ = some (.int .i64 (5)) := below_keep hb7 (by rw [World.cell?_alloc_lt _ _ _ (by first | exact World.block_lt_of_cell? _ _ c71 | (have := World.block_lt_of_cell? _ _ c71; simp; omega))]; exact c71)
  have c92 : w7.cell? ⟨w3.heap.size, 2, none⟩ = some (.int .i64 (1000000)) := below_keep hb7 (by rw [World.cell?_alloc_lt _ _ _ (by first | exact World.block_lt_of_cell? _ _ c72 | (have := World.block_lt_of_cell? _ _ c72; simp; omega))]; exact c72)
  have c93 : w7.cell? ⟨w4.heap.size, 0, none⟩ = some (.int .i64 (7)) := below_keep hb7 (by rw [World.cell?_alloc_lt _ _ _ (by first | exact World.block_lt_of_cell? _ _ c73 | (have := World.block_lt_of_cell? _ _ c73; simp; omega))]; exact c73)
  have c94 : w7.cell? ⟨w4.heap.size, 1, none⟩ = some (.int .i64 (1005)) := below_keep hb7 (by rw [World.cell?_alloc_lt _ _ _ (by first | exact World.block_lt_of_cell? _ _ c74 | (have := World.block_lt_of_cell? _ _ c74; simp; omega))]; exact c74)
  have c95 : w7.cell? ⟨w4.heap.size, 2, none⟩ = some (.int .i64 (1000000)) := below_keep hb7 (by rw [World.cell?_alloc_lt _ _ _ (by first | exact World.block_lt_of_cell? _ _ c75 | (have := World.block_lt_of_cell? _ _ c75; simp; omega))]; exact c75)
  have c96 : w7.cell? ⟨w6.heap.size, 0, none⟩ = some (.int .i64 (1000)) := below_keep hb7 (by simp [go_sem])
  have c97 : w7.cell? ⟨w6.heap.size, 1, none⟩ = some (.int .i64 (5)) := below_keep hb7 (by simp [go_sem])
  have c98 : w7.cell? ⟨w6.heap.size, 2, none⟩ = some (.int .i64 (1000000)) := below_keep hb7 (by simp [go_sem])
  have H7 := Lib.hid (below_step (below_alloc (H6.out) _) hb7)
  clear hb7 c61 c62 c63 c64 c65 c66 c67 c68 c69 c70 c71 c72 c73 c74 c75 H6 hz76 hz77 hz78 hz79 hz80
  go_wp2_with fail
  refine (pBound_any 0 0 10000 400000 _).mono ?_
  rw [show pblV 0 0 10000 400000 = 12 by decide +kernel, show pblE 0 0 10000 400000 = 0 by decide +kernel]
  rintro e w8 ⟨rfl, hb8⟩
  have c99 : w8.cell? ⟨w.heap.size, 0, none⟩ = some (.int .i64 1000) := below_keep hb8 (c81)
  have c100 : w8.cell? ⟨w.heap.size, 1, none⟩ = some (.int .i64 5) := below_keep hb8 (c82)
  have c101 : w8.cell? ⟨w.heap.size, 2, none⟩ = some (.int .i64 1000000) := below_keep hb8 (c83)
  have c102 : w8.cell? ⟨w1.heap.size, 0, none⟩ = some (.int .i64 (1000)) := below_keep hb8 (c84)
  have c103 : w8.cell? ⟨w1.heap.size, 1, none⟩ = some (.int .i64 (2006)) := below_keep hb8 (c85)
  have c104 : w8.cell? ⟨w1.heap.size, 2, none⟩ = some (.int .i64 (500000)) := below_keep hb8 (c86)
  have c105 : w8.cell? ⟨w2.heap.size, 0, none⟩ = some (.int .i64 (1000)) := below_keep hb8 (c87)
  have c106 : w8.cell? ⟨w2.heap.size, 1, none⟩ = some (.int .i64 (3008)) := below_keep hb8 (c88)
  have c107 : w8.cell? ⟨w2.heap.size, 2, none⟩ = some (.int .i64 (1000000)) := below_keep hb8 (c89)
  have c108 : w8.cell? ⟨w3.heap.size, 0, none⟩ = some (.int .i64 (1000)) := below_keep hb8 (c90)
  have c109 : w8.cell? ⟨w3.heap.size, 1, none⟩ = some (.int .i64 (5)) := below_keep hb8 (c91)
  have c110 : w8.cell? ⟨w3.heap.size, 2, none⟩ = some (.int .i64 (1000000)) := below_keep hb8 (c92)
  have c111 : w8.cell? ⟨w4.heap.size, 0, none⟩ = some (.int .i64 (7)) := below_keep hb8 (c93)
  have c112 : w8.cell? ⟨w4.heap.size, 1, none⟩ = some (.int .i64 (1005)) := below_keep hb8 (c94)
  have c113 : w8.cell? ⟨w4.heap.size, 2, none⟩ = some (.int .i64 (1000000)) := below_keep hb8 (c95)
  have c114 : w8.cell? ⟨w6.heap.size, 0, none⟩ = some (.int .i64 (1000)) := below_keep hb8 (c96)
  have c115 : w8.cell? ⟨w6.heap.size, 1, none⟩ = some (.int .i64 (5)) := below_keep hb8 (c97)
  have c116 : w8.cell? ⟨w6.heap.size, 2, none⟩ = some (.int .i64 (1000000)) := below_keep hb8 (c98)
  have H8 := Lib.hid (below_step (H7.out) hb8)
  clear hb8 c81 c82 c83 c84 c85 c86 c87 c88 c89 c90 c91 c92 c93 c94 c95 c96 c97 c98 H7
  go_wp2_with fail
  refine (leave_any 1000 5 1000000 (-1) _).mono ?_
  rw [show (apV (OkI 1000 5 1000000) (Tick (-1)) (dnV 1000 (corV 5 (-1) 1000000) 1000000 1000)) = 0 by decide +kernel, show (apV (OkI 1000 5 1000000) (Tick (-1)) (dnV 1000 (corV 5 (-1) 1000000) 1000000 (corV 5 (-1) 1000000))) = 0 by decide +kernel, show (apV (OkI 1000 5 1000000) (Tick (-1)) (dnV 1000 (corV 5 (-1) 1000000) 1000000 1000000)) = 0 by decide +kernel, show (apE (OkI 1000 5 1000000) (Tick (-1)) (dnE 1000 (corV 5 (-1) 1000000) 1000000)) = 2 by decide +kernel]
  rintro e w9 ⟨rfl, hb9⟩
  have c117 : w9.cell? ⟨w.heap.size, 0, none⟩ = some (.int .i64 1000) := below_keep hb9 (c99)
  have c118 : w9.cell? ⟨w.heap.size, 1, none⟩ = some (.int .i64 5) := below_keep hb9 (c100)
  have c119 : w9.cell? ⟨w.heap.size, 2, none⟩ = some (.int .i64 1000000) := below_keep hb9 (c101)
  have c120 : w9.cell? ⟨w1.heap.size, 0, none⟩ = some (.int .i64 (1000)) := below_keep hb9 (c102)
  have c121 : w9.cell? ⟨w1.heap.size, 1, none⟩ = some (.int .i64 (2006)) := below_keep hb9 (c103)
  have c122 : w9.cell? ⟨w1.heap.size, 2, none⟩ = some (.int .i64 (500000)) := below_keep hb9 (c104)
  have c123 : w9.cell? ⟨w2.heap.size, 0, none⟩ = some (.int .i64 (1000)) := below_keep hb9 (c105)
  have c124 : w9.cell? ⟨w2.heap.size, 1, none⟩ = some (.int .i64 (3008)) := below_keep hb9 (c106)
  have c125 : w9.cell? ⟨w2.heap.size, 2, none⟩ = some (.int .i64 (1000000)) := below_keep hb9 (c107)
  have c126 : w9.cell? ⟨w3.heap.size, 0, none⟩ = some (.int .i64 (1000)) := below_keep hb9 (c108)
  have c127 : w9.cell? ⟨w3.heap.size, 1, none⟩ = some (.int .i64 (5)) := below_keep hb9 (c109)
  have c128 : w9.cell? ⟨w3.heap.size, 2, none⟩ = some (.int .i64 (1000000)) := below_keep hb9 (c110)
  have c129 : w9.cell? ⟨w4.heap.size, 0, none⟩ = some (.int .i64 (7)) := below_keep hb9 (c111)
  have c130 : w9.cell? ⟨w4.heap.size, 1, none⟩ = some (.int .i64 (1005)) := below_keep hb9 (c112)
  have c131 : w9.cell? ⟨w4.heap.size, 2, none⟩ = some (.int .i64 (1000000)) := below_keep hb9 (c113)
  have c132 : w9.cell? ⟨w6.heap.size, 0, none⟩ = some (.int .i64 (1000)) := below_keep hb9 (c114)
  have c133 : w9.cell? ⟨w6.heap.size, 1, none⟩ = some (.int .i64 (5)) := below_keep hb9 (c115)
  have c134 : w9.cell? ⟨w6.heap.size, 2, none⟩ = some (.int .i64 (1000000)) := below_keep hb9 (c116)
  have H9 := Lib.hid (below_step (H8.out) hb9)
  clear hb9 c99 c100 c101 c102 c103 c104 c105 c106 c107 c108 c109 c110 c111 c112 c113 c114 c115 c116 H8
  have hz135 : w.heap.size < w9.heap.size := World.block_lt_of_cell? _ _ c117
  have hz136 : w1.heap.size < w9.heap.size := World.block_lt_of_cell? _ _ c120
  have hz137 : w2.heap.size < w9.heap.size := World.block_lt_of_cell? _ _ c123
  have hz138 : w3.heap.size < w9.heap.size := World.block_lt_of_cell? _ _ c126
  have hz139 : w4.heap.size < w9.heap.size := World.block_lt_of_cell? _ _ c129
  have hz140 : w6.heap.size < w9.heap.size := World.block_lt_of_cell? _ _ c132
  go_wp2_with fail
  refine (arrive_any 0 4398046511104 0 1 0 _).mono ?_
  rw [show (apV (OkI 0 4398046511104 0) (Stamp 1 ∧ Ratio 0) (dnV 0 (corV 4398046511104 1 (0 + 0)) (0 + 0) 0)) = 0 by decide +kernel, show (apV (OkI 0 4398046511104 0) (Stamp 1 ∧ Ratio 0) (dnV 0 (corV 4398046511104 1 (0 + 0)) (0 + 0) (corV 4398046511104 1 (0 + 0)))) = 0 by decide +kernel, show (apV (OkI 0 4398046511104 0) (Stamp 1 ∧ Ratio 0) (dnV 0 (corV 4398046511104 1 (0 + 0)) (0 + 0) (0 + 0))) = 0 by decide +kernel, show (apE (OkI 0 4398046511104 0) (Stamp 1 ∧ Ratio 0) (dnE 0 (corV 4398046511104 1 (0 + 0)) (0 + 0))) = 6 by decide +kernel]
  rintro e w10 ⟨rfl, hb10⟩
  have c141 : w10.cell? ⟨w.heap.size, 0, none⟩ = some (.int .i64 1000) := below_keep hb10 (by rw [World.cell?_alloc_lt _ _ _ (by first | exact World.block_lt_of_cell? _ _ c117 | (have := World.block_lt_of_cell? _ _ c117; simp; omega))]; exact c117)
  have c142 : w10.cell? ⟨w.heap.size, 1, none⟩ = some (.int .i64 5) := below_keep hb10 (by rw [World.cell?_alloc_lt _ _ _ (by first | exact World.block_lt_of_cell? _ _ c118 | (have := World.block_lt_of_cell? _ _ c118; simp; omega))]; exact c118)
  have c143 : w10.cell? ⟨w.heap.size, 2, none⟩ = some (.int .i64 1000000) := below_keep hb10 (by rw [World.cell?_alloc_lt _ _ _ (by first | exact World.block_lt_of_cell? _ _ c119 | (have := World.block_lt_of_cell? _ _ c119; simp; omega))]; exact c119)
  have c144 : w10.cell? ⟨w1.heap.size, 0, none⟩ = some (.int .i64 (1000)) := below_keep hb10 (by rw [World.cell?_alloc_lt _ _ _ (by first | exact World.block_lt_of_cell? _ _ c120 | (have := World.block_lt_of_cell? _ _ c120; simp; omega))]; exact c120)
  have c145 : w10.cell? ⟨w1.heap.size, 1, none⟩ = some (.int .i64 (2006)) := below_keep hb10 (by rw [World.cell?_alloc_lt _ _ _ (by first | exact World.block_lt_of_cell? _ _ c121 | (have := World.block_lt_of_cell? _ _ c121; simp; omega))]; exact c121)
  have c146 : w10.cell? ⟨w1.heap.size, 2, none⟩ = some (.int .i64 (500000)) := below_keep hb10 (by rw [World.cell?_alloc_lt _ _ _ (by first | exact World.block_lt_of_cell? _ _ c122 | (have := World.block_lt_of_cell? _ _ c122; simp; omega))]; exact c122)
  have c147 : w10.cell? ⟨w2.heap.size, 0, none⟩ = some (.int .i64 (1000)) := below_keep hb10 (by rw [World.cell?_alloc_lt _ _ _ (by first | exact World.block_lt_of_cell? _ _ c123 | (have := World.block_lt_of_cell? _ _ c123; simp; omega))]; exact c123)
  have c148 : w10.cell? ⟨w2.heap.size, 1, none⟩ = some (.int .i64 (3008)) := below_keep hb10 (by rw [World.cell?_alloc_lt _ _ _ (by first | exact World.block_lt_of_cell? _ _ c124 | (have := World.block_lt_of_cell? _ _ c124; simp; omega))]; exact c124)
  have c149 : w10.cell? ⟨w2.heap.size, 2, none⟩ = some (.int .i64 (1000000)) := below_keep hb10 (by rw [World.cell?_alloc_lt _ _ _ (by first | exact World.block_lt_of_cell? _ _ c125 | (have := World.block_lt_of_cell? _ _ c125; simp; omega))]; exact c125)
  have c150 : w10.cell? ⟨w3.heap.size, 0, none⟩ = some (.int .i64 (1000)) := below_keep hb10 (by rw [World.cell?_alloc_lt _ _ _ (by first | exact World.block_lt_of_cell? _ _ c126 | (have := World.block_lt_of_cell? _ _ c126; simp; omega))]; exact c126)
  have c151 : w10.cell? ⟨w3.heap.size, 1, none⟩ = some (.int .i64 (5)) := below_keep hb10 (by rw [World.cell?_alloc_lt _ _ _ (by first | exact World.block_lt_of_cell? _ _ c127 | (have := World.block_lt_of_cell? _ _ c127; simp; omega))]; exact c127)
  have c152 : w10.cell? ⟨w3.heap.size, 2, none⟩ = some (.int .i64 (1000000)) := below_keep hb10 (by rw [World.cell?_alloc_lt _ _ _ (by first | exact World.block_lt_of_cell? _ _ c128 | (have := World.block_lt_of_cell? _ _ c128; simp; omega))]; exact c128)
  have c153 : w10.cell? ⟨w4.heap.size, 0, none⟩ = some (.int .i64 (7)) := below_keep hb10 (by rw [World.cell?_alloc_lt _ _ _ (by first | exact World.block_lt_of_cell? _ _ c129 | (have := World.block_lt_of_cell? _ _ c129; simp; omega))]; exact c129)
  have c154 : w10.cell? ⟨w4.heap.size, 1, none⟩ = some (.int .i64 (1005)) := below_keep hb10 (by rw [World.cell?_alloc_lt _ _ _ (by first | exact World.block_lt_of_cell? _ _ c130 | (have := World.block_lt_of_cell? _ _ c130; simp; omega))]; exact c130)
  have c155 : w10.cell? ⟨w4.heap.size, 2, none⟩ = some (.int .i64 (1000000)) := below_keep hb10 (by rw [World.cell?_alloc_lt _ _ _ (by first | exact World.block_lt_of_cell? _ _ c131 | (have := World.block_lt_of_cell? _ _ c131; simp; omega))]; exact c131)
  have c156 : w10.cell? ⟨w6.heap.size, 0, none⟩ = some (.int .i64 (1000)) := below_keep hb10 (by rw [World.cell?_alloc_lt _ _ _ (by first | exact World.block_lt_of_cell? _ _ c132 | (have := World.block_lt_of_cell? _ _ c132; simp; omega))]; exact c132)
  have c157 : w10.cell? ⟨w6.heap.size, 1, none⟩ = some (.int .i64 (5)) := below_keep hb10 (by rw [World.cell?_alloc_lt _ _ _ (by first | exact World.block_lt_of_cell? _ _ c133 | (have := World.block_lt_of_cell? _ _ c133; simp; omega))]; exact c133)
  have c158 : w10.cell? ⟨w6.heap.size, 2, none⟩ = some (.int .i64 (1000000)) := below_keep hb10 (by rw [World.cell?_alloc_lt _ _ _ (by first | exact World.block_lt_of_cell? _ _ c134 | (have := World.block_lt_of_cell? _ _ c134; simp; omega))]; exact c134)
  have H10 := Lib.hid (below_step (below_alloc (H9.out) _) hb10)
  clear hb10 c117 c118 c119 c120 c121 c122 c123 c124 c125 c126 c127 c128 c129 c130 c131 c132 c133 c134 H9 hz135 hz136 hz137 hz138 hz139 hz140
  have hz159 : w.heap.size < w10.heap.size := World.block_lt_of_cell? _ _ c141
  have hz160 : w1.heap.size < w10.heap.size := World.block_lt_of_cell? _ _ c144
  have hz161 : w2.heap.size < w10.heap.size := World.block_lt_of_cell? _ _ c147
  have hz162 : w3.heap.size < w10.heap.size := World.block_lt_of_cell? _ _ c150
  have hz163 : w4.heap.size < w10.heap.size := World.block_lt_of_cell? _ _ c153
  have hz164 : w6.heap.size < w10.heap.size := World.block_lt_of_cell? _ _ c156
  go_wp2_with fail
  refine (pCheck_any 0 0 8388609 _).mono ?_
  rw [show infV 0 0 8388609 = 240 by decide +kernel]
  rintro e w11 ⟨rfl, hb11⟩
  have c165 : w11.cell? ⟨w.heap.size, 0, none⟩ = some (.int .i64 1000) := below_keep hb11 (by rw [World.cell?_alloc_lt _ _ _ (by first | exact World.block_lt_of_cell? _ _ c141 | (have := World.block_lt_of_cell? _ _ c141; simp; omega))]; exact c141)
  have c166 : w11.cell? ⟨w.heap.size, 1, none⟩ = some (.int .i64 5) := below_keep hb11 (by rw [World.cell?_alloc_lt _ _ _ (by first | exact World.block_lt_of_cell? _ _ c142 | (have := World.block_lt_of_cell? _ _ c142; simp; omega))]; exact c142)
  have c167 : w11.cell? ⟨w.heap.size, 2, none⟩ = some (.int .i64 1000000) := below_keep hb11 (by rw [World.cell?_alloc_lt _ _ _ (by first | exact World.block_lt_of_cell? _ _ c143 | (have := World.block_lt_of_cell? _ _ c143; simp; omega))]; exact c143)
  have c168 : w11.cell? ⟨w1.heap.size, 0, none⟩ = some (.int .i64 (1000)) := below_keep hb11 (by rw [World.cell?_alloc_lt _ _ _ (by first | exact World.block_lt_of_cell? _ _ c144 | (have := World.block_lt_of_cell? _ _ c144; simp; omega))]; exact c144)
  have c169 : w11.cell? ⟨w1.heap.size, 1, none⟩ = some (.int .i64 (2006)) := below_keep hb11 (by rw [World.cell?_alloc_lt _ _ _ (by first | exact World.block_lt_of_cell? _ _ c145 | (have := World.block_lt_of_cell? _ _ c145; simp; omega))]; exact c145)
  have c170 : w11.cell? ⟨w1.heap.size, 2, none⟩ = some (.int .i64 (500000)) := below_keep hb11 (by rw [World.cell?_alloc_lt _ _ _ (by first | exact World.block_lt_of_cell? _ _ c146 | (have := World.block_lt_of_cell? _ _ c146; simp; omega))]; exact c146)
  have c171 : w11.cell? ⟨w2.heap.size, 0, none⟩ = some (.int .i64 (1000)) := below_keep hb11 (by rw [World.cell?_alloc_lt _ _ _ (by first | exact World.block_lt_of_cell? _ _ c147 | (have := World.block_lt_of_cell? _ _ c147; simp; omega))]; exact c147)
  have c172 : w11.cell? ⟨w2.heap.size, 1, none⟩ = some (.int .i64 (3008)) := below_keep hb11 (by rw [World.cell?_alloc_lt _ _ _ (by first | exact World.block_lt_of_cell? _ _ c148 | (have := World.block_lt_of_cell? _ _ c148; simp; omega))]; exact c148)
  have c173 : w11.cell? ⟨w2.heap.size, 2, none⟩ = some (.int .i64 (1000000)) := below_keep hb11 (by rw [World.cell?_alloc_lt _ _ _ (by first | exact World.block_lt_of_cell? _ _ c149 | (have := World.block_lt_of_cell? _ _ c149; simp; omega))]; exact c149)
  have c174 : w11.cell? ⟨w3.heap.size, 0, none⟩ = some (.int .i64 (1000)) := below_keep hb11 (by rw [World.cell?_alloc_lt _ _ _ (by first | exact World.block_lt_of_cell? _ _ c150 | (have := World.block_lt_of_cell? _ _ c150; simp; omega))]; exact c150)
  have c175 : w11.cell? ⟨w3.heap.size, 1, none⟩ = some (.int .i64 (5)) := below_keep hb11 (by rw [World.cell?_alloc_lt _ _ _ (by first | exact World.block_lt_of_cell? _ _ c151 | (have := World.block_lt_of_cell? _ _ c151; simp; omega))]; exact c151)
  have c176 : w11.cell? ⟨w3.heap.size, 2, none⟩ = some (.int .i64 (1000000)) := below_keep hb11 (by rw [World.cell?_alloc_lt _ _ _ (by first | exact World.block_lt_of_cell? _ _ c152 | (have := World.block_lt_of_cell? _ _ c152; simp; omega))]; exact c152)
  have c177 : w11.cell? ⟨w4.heap.size, 0, none⟩ = some (.int .i64 (7)) := below_keep hb11 (by rw [World.cell?_alloc_lt _ _ _ (by first | exact World.block_lt_of_cell? _ _ c153 | (have := World.block_lt_of_cell? _ _ c153; simp; omega))]; exact c153)
  have c178 : w11.cell? ⟨w4.heap.size, 1, none⟩ = some (.int .i64 (1005)) := below_keep hb11 (by rw [World.cell?_alloc_lt _ _ _ (by first | exact World.block_lt_of_cell? _ _ c154 | (have := World.block_lt_of_cell? _ _ c154; simp; omega))]; exact c154)
  have c179 : w11.cell? ⟨w4.heap.size, 2, none⟩ = some (.int .i64 (1000000)) := below_keep hb11 (by rw [World.cell?_alloc_lt _ _ _ (by first | exact World.block_lt_of_cell? _ _ c155 | (have := World.block_lt_of_cell? _ _ c155; simp; omega))]; exact c155)
  have c180 : w11.cell? ⟨w6.heap.size, 0, none⟩ = some (.int .i64 (1000)) := below_keep hb11 (by rw [World.cell?_alloc_lt _ _ _ (by first | exact World.block_lt_of_cell? _ _ c156 | (have := World.block_lt_of_cell? _ _ c156; simp; omega))]; exact c156)
  have c181 : w11.cell? ⟨w6.heap.size, 1, none⟩ = some (.int .i64 (5)) := below_keep hb11 (by rw [World.cell?_alloc_lt _ _ _ (by first | exact World.block_lt_of_cell? _ _ c157 | (have := World.block_lt_of_cell? _ _ c157; simp; omega))]; exact c157)
  have c182 : w11.cell? ⟨w6.heap.size, 2, none⟩ = some (.int .i64 (1000000)) := below_keep hb11 (by rw [World.cell?_alloc_lt _ _ _ (by first | exact World.block_lt_of_cell? _ _ c158 | (have := World.block_lt_of_cell? _ _ c158; simp; omega))]; exact c158)
  have H11 := Lib.hid (below_step (below_alloc (H10.out) _) hb11)
  clear hb11 c141 c142 c143 c144 c145 c146 c147 c148 c149 c150 c151 c152 c153 c154 c155 c156 c157 c158 H10 hz159 hz160 hz161 hz162 hz163 hz164
  go_wp2
  go_ret
  exact ⟨rfl, H11.out⟩

end Go.Proofs.Ytkbadnehngogjaa
