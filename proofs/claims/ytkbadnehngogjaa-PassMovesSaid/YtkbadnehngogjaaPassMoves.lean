/-
  PassMoves: for every input the law returns true, and its arguments read as before. No conditions.
-/
import Derived.Test.YtkbadnehngogjaaPassWorks
import Derived.Test.YtkbadnehngogjaaPassRef2
import Derived.Test.YtkbadnehngogjaaPassRef3
import Derived.Test.YtkbadnehngogjaaOpen14
import Derived.Lib.QuietBelow
import Derived.BigQuiet
namespace Go.Proofs.Ytkbadnehngogjaa
open Go.RowKit Go.Lib Plain
open Go.ChangeShapes Go.WideShapes Go.ChangeAt

theorem ipair_0 : ∀ (a b c d e f : Value) (w : World), (Instr.index 28 (.agg #[a, b, c, d, e, f]) (.int .i64 0)).run Try.prog w = .ok (.agg #[a, b, c]) w := fun _ _ _ _ _ _ _ => by kernel_rfl
theorem ipair_1 : ∀ (a b c d e f : Value) (w : World), (Instr.index 28 (.agg #[a, b, c, d, e, f]) (.int .i64 1)).run Try.prog w = .ok (.agg #[d, e, f]) w := fun _ _ _ _ _ _ _ => by kernel_rfl
theorem ipair_any (a b c d e f : Int) (k : Nat) (hk : k < 2) : ∃ x y z : Int, ∀ W, (Instr.index 28 (.agg #[.int .i64 a, .int .i64 b, .int .i64 c, .int .i64 d, .int .i64 e, .int .i64 f]) (.int .i64 (k : Int))).run Try.prog W = .ok (.agg #[.int .i64 x, .int .i64 y, .int .i64 z]) W := by
  rcases (show k = 0 ∨ k = 1 by omega) with rfl | rfl
  · exact ⟨_, _, _, fun W => ipair_0 _ _ _ _ _ _ W⟩
  · exact ⟨_, _, _, fun W => ipair_1 _ _ _ _ _ _ W⟩

set_option maxHeartbeats 8000000 in
set_option maxRecDepth 100000 in
theorem passMoves_walk (O C P a b c d r x : Int) (w : World) : Calls Try.prog 3 #[.agg #[.int .i64 O, .int .i64 C, .int .i64 P], .agg #[.int .i64 a, .int .i64 b, .int .i32 c], .int .i64 d, .int .i64 r, .int .i64 x] w fun y w' => y = .returned (.bool true) ∧ Below w.heap.size w w' := by
  go_enter Try.func3, Try.ntmps3
  go_wp2_with fail
  refine (works_any _).mono ?_
  rintro y w1 ⟨rfl, hb1⟩
  have c1 : w1.cell? ⟨w.heap.size, 0, none⟩ = some (.int .i64 O) := below_keep hb1 (by simp [go_sem])
  have c2 : w1.cell? ⟨w.heap.size, 1, none⟩ = some (.int .i64 C) := below_keep hb1 (by simp [go_sem])
  have c3 : w1.cell? ⟨w.heap.size, 2, none⟩ = some (.int .i64 P) := below_keep hb1 (by simp [go_sem])
  have c4 : w1.cell? ⟨w.heap.size + 1, 0, none⟩ = some (.int .i64 a) := below_keep hb1 (by simp [go_sem])
  have c5 : w1.cell? ⟨w.heap.size + 1, 1, none⟩ = some (.int .i64 b) := below_keep hb1 (by simp [go_sem])
  have c6 : w1.cell? ⟨w.heap.size + 1, 2, none⟩ = some (.int .i32 c) := below_keep hb1 (by simp [go_sem])
  have H1 := Lib.hid (below_step (below_alloc (below_alloc (Below.refl _ _) _) _) hb1)
  clear hb1
  go_wp2
  have r0 := fun p : Regrown => cell_regrown c1 p.d p.os
  have r1 := fun p : Regrown => cell_regrown c2 p.d p.os
  have r2 := fun p : Regrown => cell_regrown c3 p.d p.os
  have r3 := fun p : Regrown => cell_regrown c4 p.d p.os
  have r4 := fun p : Regrown => cell_regrown c5 p.d p.os
  have r5 := fun p : Regrown => cell_regrown c6 p.d p.os
  refine wp_region_quiet_below (by kernel_rfl) (by kernel_rfl) ?_
  repeat (go_big_quiet_step (exact Calls.regrown_of (infoDraft_any a b c _)))
  refine wpQuiet_nil ?_
  intro wq hw
  have HQ := Lib.hid (below_step H1.out (show Below w1.heap.size w1 wq by obtain ⟨p, rfl⟩ := hw; exact below_regrown _ _ _))
  clear hw r0 r1 r2 r3 r4 r5 c1 c2 c3 c4 c5 c6 H1
  go_wp2
  generalize a.tmod 4398046511105 = dO
  generalize b.tmod 4398046511105 = dC
  generalize c.tmod 8388609 = dP
  go_loopw [27] (fun i wr => ∃ k : Nat, k ≤ 2 ∧ i = .int .i64 k ∧ Below w.heap.size w wr) (fun i _ => 2 - (RowKit.intOf i).toNat)
  case atStart => exact ⟨0, by omega, rfl, HQ.out⟩
  case round =>
    clear HQ
    obtain ⟨k, hk, rfl, hB⟩ := hrel
    have HB := Lib.hid hB
    clear hB
    by_cases hlt : k < 2
    · obtain ⟨x0, x1, x2, hi⟩ := ipair_any O C P dO dC dP k hlt
      by_cases h : OkI x0 x1 x2
      · have q1 : infV x0 x1 x2 = 0 := if_pos h
        have q2 : okI x0 x1 x2 = true := decide_eq_true h
        have Q1 := Lib.hid q1
        have Q2 := Lib.hid q2
        clear h q1 q2
        go_wp2_with fail
        refine (arrive_any x0 x1 x2 d r _).mono ?_
        rintro y w2 ⟨rfl, hb2⟩
        have c11 : w2.cell? ⟨wr.heap.size, 0, none⟩ = some (.int .i64 x0) := below_keep hb2 (by simp [go_sem])
        have c12 : w2.cell? ⟨wr.heap.size, 1, none⟩ = some (.int .i64 x1) := below_keep hb2 (by simp [go_sem])
        have c13 : w2.cell? ⟨wr.heap.size, 2, none⟩ = some (.int .i64 x2) := below_keep hb2 (by simp [go_sem])
        have H2 := Lib.hid (below_step (below_alloc (HB.out) _) hb2)
        clear hb2 HB
        generalize hs0 : (apV (OkI x0 x1 x2) (Stamp d ∧ Ratio r) (dnV x0 (corV x1 d (x2 + r)) (x2 + r) x0)) = s0 at *
        generalize hs1 : (apV (OkI x0 x1 x2) (Stamp d ∧ Ratio r) (dnV x0 (corV x1 d (x2 + r)) (x2 + r) (corV x1 d (x2 + r)))) = s1 at *
        generalize hs2 : (apV (OkI x0 x1 x2) (Stamp d ∧ Ratio r) (dnV x0 (corV x1 d (x2 + r)) (x2 + r) (x2 + r))) = s2 at *
        generalize hs3 : (apE (OkI x0 x1 x2) (Stamp d ∧ Ratio r) (dnE x0 (corV x1 d (x2 + r)) (x2 + r))) = s3 at *
        have Es0 := Lib.hid hs0
        have Es1 := Lib.hid hs1
        have Es2 := Lib.hid hs2
        have Es3 := Lib.hid hs3
        clear hs0 hs1 hs2 hs3
        have hz14 : wr.heap.size < w2.heap.size := World.block_lt_of_cell? _ _ c11
        go_wp2_with fail
        refine (rArrive_any x0 x1 x2 d r _).mono ?_
        rw [Es0.out, Es1.out, Es2.out, Es3.out]
        rintro y w3 ⟨rfl, hb3⟩
        have c15 : w3.cell? ⟨wr.heap.size, 0, none⟩ = some (.int .i64 x0) := below_keep hb3 (by rw [World.cell?_alloc_lt _ _ _ (by first | exact World.block_lt_of_cell? _ _ c11 | (have := World.block_lt_of_cell? _ _ c11; simp; omega))]; exact c11)
        have c16 : w3.cell? ⟨wr.heap.size, 1, none⟩ = some (.int .i64 x1) := below_keep hb3 (by rw [World.cell?_alloc_lt _ _ _ (by first | exact World.block_lt_of_cell? _ _ c12 | (have := World.block_lt_of_cell? _ _ c12; simp; omega))]; exact c12)
        have c17 : w3.cell? ⟨wr.heap.size, 2, none⟩ = some (.int .i64 x2) := below_keep hb3 (by rw [World.cell?_alloc_lt _ _ _ (by first | exact World.block_lt_of_cell? _ _ c13 | (have := World.block_lt_of_cell? _ _ c13; simp; omega))]; exact c13)
        have c18 : w3.cell? ⟨w2.heap.size, 0, none⟩ = some (.int .i64 s0) := below_keep hb3 (by simp [go_sem])
        have c19 : w3.cell? ⟨w2.heap.size, 1, none⟩ = some (.int .i64 s1) := below_keep hb3 (by simp [go_sem])
        have c20 : w3.cell? ⟨w2.heap.size, 2, none⟩ = some (.int .i64 s2) := below_keep hb3 (by simp [go_sem])
        have H3 := Lib.hid (below_step (below_alloc (H2.out) _) hb3)
        clear hb3 c11 c12 c13 H2 hz14
        have hz21 : wr.heap.size < w3.heap.size := World.block_lt_of_cell? _ _ c15
        have hz22 : w2.heap.size < w3.heap.size := World.block_lt_of_cell? _ _ c18
        go_wp2_with fail
        refine (leave_any x0 x1 x2 x _).mono ?_
        rintro y w4 ⟨rfl, hb4⟩
        have c23 : w4.cell? ⟨wr.heap.size, 0, none⟩ = some (.int .i64 x0) := below_keep hb4 (by rw [World.cell?_alloc_lt _ _ _ (by first | exact World.block_lt_of_cell? _ _ c15 | (have := World.block_lt_of_cell? _ _ c15; simp; omega))]; exact c15)
        have c24 : w4.cell? ⟨wr.heap.size, 1, none⟩ = some (.int .i64 x1) := below_keep hb4 (by rw [World.cell?_alloc_lt _ _ _ (by first | exact World.block_lt_of_cell? _ _ c16 | (have := World.block_lt_of_cell? _ _ c16; simp; omega))]; exact c16)
        have c25 : w4.cell? ⟨wr.heap.size, 2, none⟩ = some (.int .i64 x2) := below_keep hb4 (by rw [World.cell?_alloc_lt _ _ _ (by first | exact World.block_lt_of_cell? _ _ c17 | (have := World.block_lt_of_cell? _ _ c17; simp; omega))]; exact c17)
        have c26 : w4.cell? ⟨w2.heap.size, 0, none⟩ = some (.int .i64 s0) := below_keep hb4 (by rw [World.cell?_alloc_lt _ _ _ (by first | exact World.block_lt_of_cell? _ _ c18 | (have := World.block_lt_of_cell? _ _ c18; simp; omega))]; exact c18)
        have c27 : w4.cell? ⟨w2.heap.size, 1, none⟩ = some (.int .i64 s1) := below_keep hb4 (by rw [World.cell?_alloc_lt _ _ _ (by first | exact World.block_lt_of_cell? _ _ c19 | (have := World.block_lt_of_cell? _ _ c19; simp; omega))]; exact c19)
        have c28 : w4.cell? ⟨w2.heap.size, 2, none⟩ = some (.int .i64 s2) := below_keep hb4 (by rw [World.cell?_alloc_lt _ _ _ (by first | exact World.block_lt_of_cell? _ _ c20 | (have := World.block_lt_of_cell? _ _ c20; simp; omega))]; exact c20)
        have c29 : w4.cell? ⟨w3.heap.size, 0, none⟩ = some (.int .i64 s0) := below_keep hb4 (by simp [go_sem])
        have c30 : w4.cell? ⟨w3.heap.size, 1, none⟩ = some (.int .i64 s1) := below_keep hb4 (by simp [go_sem])
        have c31 : w4.cell? ⟨w3.heap.size, 2, none⟩ = some (.int .i64 s2) := below_keep hb4 (by simp [go_sem])
        have H4 := Lib.hid (below_step (below_alloc (H3.out) _) hb4)
        clear hb4 c15 c16 c17 c18 c19 c20 H3 hz21 hz22
        generalize ht0 : (apV (OkI x0 x1 x2) (Tick x) (dnV x0 (corV x1 x x2) x2 x0)) = t0 at *
        generalize ht1 : (apV (OkI x0 x1 x2) (Tick x) (dnV x0 (corV x1 x x2) x2 (corV x1 x x2))) = t1 at *
        generalize ht2 : (apV (OkI x0 x1 x2) (Tick x) (dnV x0 (corV x1 x x2) x2 x2)) = t2 at *
        generalize ht3 : (apE (OkI x0 x1 x2) (Tick x) (dnE x0 (corV x1 x x2) x2)) = t3 at *
        have Et0 := Lib.hid ht0
        have Et1 := Lib.hid ht1
        have Et2 := Lib.hid ht2
        have Et3 := Lib.hid ht3
        clear ht0 ht1 ht2 ht3
        have hz32 : wr.heap.size < w4.heap.size := World.block_lt_of_cell? _ _ c23
        have hz33 : w2.heap.size < w4.heap.size := World.block_lt_of_cell? _ _ c26
        have hz34 : w3.heap.size < w4.heap.size := World.block_lt_of_cell? _ _ c29
        go_wp2_with fail
        refine (rLeave_any x0 x1 x2 x _).mono ?_
        rw [Et0.out, Et1.out, Et2.out, Et3.out]
        rintro y w5 ⟨rfl, hb5⟩
        have c35 : w5.cell? ⟨wr.heap.size, 0, none⟩ = some (.int .i64 x0) := below_keep hb5 (by rw [World.cell?_alloc_lt _ _ _ (by first | exact World.block_lt_of_cell? _ _ c23 | (have := World.block_lt_of_cell? _ _ c23; simp; omega))]; exact c23)
        have c36 : w5.cell? ⟨wr.heap.size, 1, none⟩ = some (.int .i64 x1) := below_keep hb5 (by rw [World.cell?_alloc_lt _ _ _ (by first | exact World.block_lt_of_cell? _ _ c24 | (have := World.block_lt_of_cell? _ _ c24; simp; omega))]; exact c24)
        have c37 : w5.cell? ⟨wr.heap.size, 2, none⟩ = some (.int .i64 x2) := below_keep hb5 (by rw [World.cell?_alloc_lt _ _ _ (by first | exact World.block_lt_of_cell? _ _ c25 | (have := World.block_lt_of_cell? _ _ c25; simp; omega))]; exact c25)
        have c38 : w5.cell? ⟨w2.heap.size, 0, none⟩ = some (.int .i64 s0) := below_keep hb5 (by rw [World.cell?_alloc_lt _ _ _ (by first | exact World.block_lt_of_cell? _ _ c26 | (have := World.block_lt_of_cell? _ _ c26; simp; omega))]; exact c26)
        have c39 : w5.cell? ⟨w2.heap.size, 1, none⟩ = some (.int .i64 s1) := below_keep hb5 (by rw [World.cell?_alloc_lt _ _ _ (by first | exact World.block_lt_of_cell? _ _ c27 | (have := World.block_lt_of_cell? _ _ c27; simp; omega))]; exact c27)
        have c40 : w5.cell? ⟨w2.heap.size, 2, none⟩ = some (.int .i64 s2) := below_keep hb5 (by rw [World.cell?_alloc_lt _ _ _ (by first | exact World.block_lt_of_cell? _ _ c28 | (have := World.block_lt_of_cell? _ _ c28; simp; omega))]; exact c28)
        have c41 : w5.cell? ⟨w3.heap.size, 0, none⟩ = some (.int .i64 s0) := below_keep hb5 (by rw [World.cell?_alloc_lt _ _ _ (by first | exact World.block_lt_of_cell? _ _ c29 | (have := World.block_lt_of_cell? _ _ c29; simp; omega))]; exact c29)
        have c42 : w5.cell? ⟨w3.heap.size, 1, none⟩ = some (.int .i64 s1) := below_keep hb5 (by rw [World.cell?_alloc_lt _ _ _ (by first | exact World.block_lt_of_cell? _ _ c30 | (have := World.block_lt_of_cell? _ _ c30; simp; omega))]; exact c30)
        have c43 : w5.cell? ⟨w3.heap.size, 2, none⟩ = some (.int .i64 s2) := below_keep hb5 (by rw [World.cell?_alloc_lt _ _ _ (by first | exact World.block_lt_of_cell? _ _ c31 | (have := World.block_lt_of_cell? _ _ c31; simp; omega))]; exact c31)
        have c44 : w5.cell? ⟨w4.heap.size, 0, none⟩ = some (.int .i64 t0) := below_keep hb5 (by simp [go_sem])
        have c45 : w5.cell? ⟨w4.heap.size, 1, none⟩ = some (.int .i64 t1) := below_keep hb5 (by simp [go_sem])
        have c46 : w5.cell? ⟨w4.heap.size, 2, none⟩ = some (.int .i64 t2) := below_keep hb5 (by simp [go_sem])
        have H5 := Lib.hid (below_step (below_alloc (H4.out) _) hb5)
        clear hb5 c23 c24 c25 c26 c27 c28 c29 c30 c31 H4 hz32 hz33 hz34
        have hz47 : wr.heap.size < w5.heap.size := World.block_lt_of_cell? _ _ c35
        have hz48 : w2.heap.size < w5.heap.size := World.block_lt_of_cell? _ _ c38
        have hz49 : w3.heap.size < w5.heap.size := World.block_lt_of_cell? _ _ c41
        have hz50 : w4.heap.size < w5.heap.size := World.block_lt_of_cell? _ _ c44
        go_wp2
        refine wp_world ?_
        intro W hW
        have c51 : W.cell? ⟨wr.heap.size, 0, none⟩ = some (.int .i64 x0) := by subst hW; rw [World.cell?_alloc_lt _ _ _ (by first | exact World.block_lt_of_cell? _ _ c35 | (have := World.block_lt_of_cell? _ _ c35; simp; omega))]; exact c35
        have c52 : W.cell? ⟨wr.heap.size, 1, none⟩ = some (.int .i64 x1) := by subst hW; rw [World.cell?_alloc_lt _ _ _ (by first | exact World.block_lt_of_cell? _ _ c36 | (have := World.block_lt_of_cell? _ _ c36; simp; omega))]; exact c36
        have c53 : W.cell? ⟨wr.heap.size, 2, none⟩ = some (.int .i64 x2) := by subst hW; rw [World.cell?_alloc_lt _ _ _ (by first | exact World.block_lt_of_cell? _ _ c37 | (have := World.block_lt_of_cell? _ _ c37; simp; omega))]; exact c37
        have c54 : W.cell? ⟨w2.heap.size, 0, none⟩ = some (.int .i64 s0) := by subst hW; rw [World.cell?_alloc_lt _ _ _ (by first | exact World.block_lt_of_cell? _ _ c38 | (have := World.block_lt_of_cell? _ _ c38; simp; omega))]; exact c38
        have c55 : W.cell? ⟨w2.heap.size, 1, none⟩ = some (.int .i64 s1) := by subst hW; rw [World.cell?_alloc_lt _ _ _ (by first | exact World.block_lt_of_cell? _ _ c39 | (have := World.block_lt_of_cell? _ _ c39; simp; omega))]; exact c39
        have c56 : W.cell? ⟨w2.heap.size, 2, none⟩ = some (.int .i64 s2) := by subst hW; rw [World.cell?_alloc_lt _ _ _ (by first | exact World.block_lt_of_cell? _ _ c40 | (have := World.block_lt_of_cell? _ _ c40; simp; omega))]; exact c40
        have c57 : W.cell? ⟨w3.heap.size, 0, none⟩ = some (.int .i64 s0) := by subst hW; rw [World.cell?_alloc_lt _ _ _ (by first | exact World.block_lt_of_cell? _ _ c41 | (have := World.block_lt_of_cell? _ _ c41; simp; omega))]; exact c41
        have c58 : W.cell? ⟨w3.heap.size, 1, none⟩ = some (.int .i64 s1) := by subst hW; rw [World.cell?_alloc_lt _ _ _ (by first | exact World.block_lt_of_cell? _ _ c42 | (have := World.block_lt_of_cell? _ _ c42; simp; omega))]; exact c42
        have c59 : W.cell? ⟨w3.heap.size, 2, none⟩ = some (.int .i64 s2) := by subst hW; rw [World.cell?_alloc_lt _ _ _ (by first | exact World.block_lt_of_cell? _ _ c43 | (have := World.block_lt_of_cell? _ _ c43; simp; omega))]; exact c43
        have c60 : W.cell? ⟨w4.heap.size, 0, none⟩ = some (.int .i64 t0) := by subst hW; rw [World.cell?_alloc_lt _ _ _ (by first | exact World.block_lt_of_cell? _ _ c44 | (have := World.block_lt_of_cell? _ _ c44; simp; omega))]; exact c44
        have c61 : W.cell? ⟨w4.heap.size, 1, none⟩ = some (.int .i64 t1) := by subst hW; rw [World.cell?_alloc_lt _ _ _ (by first | exact World.block_lt_of_cell? _ _ c45 | (have := World.block_lt_of_cell? _ _ c45; simp; omega))]; exact c45
        have c62 : W.cell? ⟨w4.heap.size, 2, none⟩ = some (.int .i64 t2) := by subst hW; rw [World.cell?_alloc_lt _ _ _ (by first | exact World.block_lt_of_cell? _ _ c46 | (have := World.block_lt_of_cell? _ _ c46; simp; omega))]; exact c46
        have c63 : W.cell? ⟨w5.heap.size, 0, none⟩ = some (.int .i64 t0) := by subst hW; simp [go_sem]
        have c64 : W.cell? ⟨w5.heap.size, 1, none⟩ = some (.int .i64 t1) := by subst hW; simp [go_sem]
        have c65 : W.cell? ⟨w5.heap.size, 2, none⟩ = some (.int .i64 t2) := by subst hW; simp [go_sem]
        have HW_W := Lib.hid (show Below w.heap.size w W by subst hW; exact below_alloc (H5.out) _)
        clear hW c35 c36 c37 c38 c39 c40 c41 c42 c43 c44 c45 c46 H5 hz47 hz48 hz49 hz50
        have r0 := fun p : Regrown => cell_regrown c51 p.d p.os
        have r1 := fun p : Regrown => cell_regrown c52 p.d p.os
        have r2 := fun p : Regrown => cell_regrown c53 p.d p.os
        have r3 := fun p : Regrown => cell_regrown c54 p.d p.os
        have r4 := fun p : Regrown => cell_regrown c55 p.d p.os
        have r5 := fun p : Regrown => cell_regrown c56 p.d p.os
        have r6 := fun p : Regrown => cell_regrown c57 p.d p.os
        have r7 := fun p : Regrown => cell_regrown c58 p.d p.os
        have r8 := fun p : Regrown => cell_regrown c59 p.d p.os
        have r9 := fun p : Regrown => cell_regrown c60 p.d p.os
        have r10 := fun p : Regrown => cell_regrown c61 p.d p.os
        have r11 := fun p : Regrown => cell_regrown c62 p.d p.os
        have r12 := fun p : Regrown => cell_regrown c63 p.d p.os
        have r13 := fun p : Regrown => cell_regrown c64 p.d p.os
        have r14 := fun p : Regrown => cell_regrown c65 p.d p.os
        have q1 := Q1.out
        have q2 := Q2.out
        refine wp_region_quiet_below (by kernel_rfl) (by kernel_rfl) ?_
        repeat (go_big_quiet_step (first | with_reducible exact Calls.regrown_of (pCheck_any x0 x1 x2 _) | with_reducible exact Calls.regrown_of (rRight_any x0 x1 x2 _)))
        refine wpQuiet_nil ?_
        intro wz hw
        have HZ := Lib.hid (below_step HW_W.out (show Below W.heap.size W wz by obtain ⟨p, rfl⟩ := hw; exact below_regrown _ _ _))
        clear hw r0 r1 r2 r3 r4 r5 r6 r7 r8 r9 r10 r11 r12 r13 r14 c51 c52 c53 c54 c55 c56 c57 c58 c59 c60 c61 c62 c63 c64 c65
        go_wp2
        go_roundw
        case rel => exact ⟨k + 1, by omega, by go_num, HZ.out⟩
        case measure => simp [RowKit.intOf]; omega
      · have q1 : infV x0 x1 x2 = 240 := if_neg h
        have q2 : okI x0 x1 x2 = false := decide_eq_false h
        have Q1 := Lib.hid q1
        have Q2 := Lib.hid q2
        clear h q1 q2
        go_wp2_with fail
        refine (arrive_any x0 x1 x2 d r _).mono ?_
        rintro y w2 ⟨rfl, hb2⟩
        have c11 : w2.cell? ⟨wr.heap.size, 0, none⟩ = some (.int .i64 x0) := below_keep hb2 (by simp [go_sem])
        have c12 : w2.cell? ⟨wr.heap.size, 1, none⟩ = some (.int .i64 x1) := below_keep hb2 (by simp [go_sem])
        have c13 : w2.cell? ⟨wr.heap.size, 2, none⟩ = some (.int .i64 x2) := below_keep hb2 (by simp [go_sem])
        have H2 := Lib.hid (below_step (below_alloc (HB.out) _) hb2)
        clear hb2 HB
        generalize hs0 : (apV (OkI x0 x1 x2) (Stamp d ∧ Ratio r) (dnV x0 (corV x1 d (x2 + r)) (x2 + r) x0)) = s0 at *
        generalize hs1 : (apV (OkI x0 x1 x2) (Stamp d ∧ Ratio r) (dnV x0 (corV x1 d (x2 + r)) (x2 + r) (corV x1 d (x2 + r)))) = s1 at *
        generalize hs2 : (apV (OkI x0 x1 x2) (Stamp d ∧ Ratio r) (dnV x0 (corV x1 d (x2 + r)) (x2 + r) (x2 + r))) = s2 at *
        generalize hs3 : (apE (OkI x0 x1 x2) (Stamp d ∧ Ratio r) (dnE x0 (corV x1 d (x2 + r)) (x2 + r))) = s3 at *
        have Es0 := Lib.hid hs0
        have Es1 := Lib.hid hs1
        have Es2 := Lib.hid hs2
        have Es3 := Lib.hid hs3
        clear hs0 hs1 hs2 hs3
        have hz14 : wr.heap.size < w2.heap.size := World.block_lt_of_cell? _ _ c11
        go_wp2_with fail
        refine (rArrive_any x0 x1 x2 d r _).mono ?_
        rw [Es0.out, Es1.out, Es2.out, Es3.out]
        rintro y w3 ⟨rfl, hb3⟩
        have c15 : w3.cell? ⟨wr.heap.size, 0, none⟩ = some (.int .i64 x0) := below_keep hb3 (by rw [World.cell?_alloc_lt _ _ _ (by first | exact World.block_lt_of_cell? _ _ c11 | (have := World.block_lt_of_cell? _ _ c11; simp; omega))]; exact c11)
        have c16 : w3.cell? ⟨wr.heap.size, 1, none⟩ = some (.int .i64 x1) := below_keep hb3 (by rw [World.cell?_alloc_lt _ _ _ (by first | exact World.block_lt_of_cell? _ _ c12 | (have := World.block_lt_of_cell? _ _ c12; simp; omega))]; exact c12)
        have c17 : w3.cell? ⟨wr.heap.size, 2, none⟩ = some (.int .i64 x2) := below_keep hb3 (by rw [World.cell?_alloc_lt _ _ _ (by first | exact World.block_lt_of_cell? _ _ c13 | (have := World.block_lt_of_cell? _ _ c13; simp; omega))]; exact c13)
        have c18 : w3.cell? ⟨w2.heap.size, 0, none⟩ = some (.int .i64 s0) := below_keep hb3 (by simp [go_sem])
        have c19 : w3.cell? ⟨w2.heap.size, 1, none⟩ = some (.int .i64 s1) := below_keep hb3 (by simp [go_sem])
        have c20 : w3.cell? ⟨w2.heap.size, 2, none⟩ = some (.int .i64 s2) := below_keep hb3 (by simp [go_sem])
        have H3 := Lib.hid (below_step (below_alloc (H2.out) _) hb3)
        clear hb3 c11 c12 c13 H2 hz14
        have hz21 : wr.heap.size < w3.heap.size := World.block_lt_of_cell? _ _ c15
        have hz22 : w2.heap.size < w3.heap.size := World.block_lt_of_cell? _ _ c18
        go_wp2_with fail
        refine (leave_any x0 x1 x2 x _).mono ?_
        rintro y w4 ⟨rfl, hb4⟩
        have c23 : w4.cell? ⟨wr.heap.size, 0, none⟩ = some (.int .i64 x0) := below_keep hb4 (by rw [World.cell?_alloc_lt _ _ _ (by first | exact World.block_lt_of_cell? _ _ c15 | (have := World.block_lt_of_cell? _ _ c15; simp; omega))]; exact c15)
        have c24 : w4.cell? ⟨wr.heap.size, 1, none⟩ = some (.int .i64 x1) := below_keep hb4 (by rw [World.cell?_alloc_lt _ _ _ (by first | exact World.block_lt_of_cell? _ _ c16 | (have := World.block_lt_of_cell? _ _ c16; simp; omega))]; exact c16)
        have c25 : w4.cell? ⟨wr.heap.size, 2, none⟩ = some (.int .i64 x2) := below_keep hb4 (by rw [World.cell?_alloc_lt _ _ _ (by first | exact World.block_lt_of_cell? _ _ c17 | (have := World.block_lt_of_cell? _ _ c17; simp; omega))]; exact c17)
        have c26 : w4.cell? ⟨w2.heap.size, 0, none⟩ = some (.int .i64 s0) := below_keep hb4 (by rw [World.cell?_alloc_lt _ _ _ (by first | exact World.block_lt_of_cell? _ _ c18 | (have := World.block_lt_of_cell? _ _ c18; simp; omega))]; exact c18)
        have c27 : w4.cell? ⟨w2.heap.size, 1, none⟩ = some (.int .i64 s1) := below_keep hb4 (by rw [World.cell?_alloc_lt _ _ _ (by first | exact World.block_lt_of_cell? _ _ c19 | (have := World.block_lt_of_cell? _ _ c19; simp; omega))]; exact c19)
        have c28 : w4.cell? ⟨w2.heap.size, 2, none⟩ = some (.int .i64 s2) := below_keep hb4 (by rw [World.cell?_alloc_lt _ _ _ (by first | exact World.block_lt_of_cell? _ _ c20 | (have := World.block_lt_of_cell? _ _ c20; simp; omega))]; exact c20)
        have c29 : w4.cell? ⟨w3.heap.size, 0, none⟩ = some (.int .i64 s0) := below_keep hb4 (by simp [go_sem])
        have c30 : w4.cell? ⟨w3.heap.size, 1, none⟩ = some (.int .i64 s1) := below_keep hb4 (by simp [go_sem])
        have c31 : w4.cell? ⟨w3.heap.size, 2, none⟩ = some (.int .i64 s2) := below_keep hb4 (by simp [go_sem])
        have H4 := Lib.hid (below_step (below_alloc (H3.out) _) hb4)
        clear hb4 c15 c16 c17 c18 c19 c20 H3 hz21 hz22
        generalize ht0 : (apV (OkI x0 x1 x2) (Tick x) (dnV x0 (corV x1 x x2) x2 x0)) = t0 at *
        generalize ht1 : (apV (OkI x0 x1 x2) (Tick x) (dnV x0 (corV x1 x x2) x2 (corV x1 x x2))) = t1 at *
        generalize ht2 : (apV (OkI x0 x1 x2) (Tick x) (dnV x0 (corV x1 x x2) x2 x2)) = t2 at *
        generalize ht3 : (apE (OkI x0 x1 x2) (Tick x) (dnE x0 (corV x1 x x2) x2)) = t3 at *
        have Et0 := Lib.hid ht0
        have Et1 := Lib.hid ht1
        have Et2 := Lib.hid ht2
        have Et3 := Lib.hid ht3
        clear ht0 ht1 ht2 ht3
        have hz32 : wr.heap.size < w4.heap.size := World.block_lt_of_cell? _ _ c23
        have hz33 : w2.heap.size < w4.heap.size := World.block_lt_of_cell? _ _ c26
        have hz34 : w3.heap.size < w4.heap.size := World.block_lt_of_cell? _ _ c29
        go_wp2_with fail
        refine (rLeave_any x0 x1 x2 x _).mono ?_
        rw [Et0.out, Et1.out, Et2.out, Et3.out]
        rintro y w5 ⟨rfl, hb5⟩
        have c35 : w5.cell? ⟨wr.heap.size, 0, none⟩ = some (.int .i64 x0) := below_keep hb5 (by rw [World.cell?_alloc_lt _ _ _ (by first | exact World.block_lt_of_cell? _ _ c23 | (have := World.block_lt_of_cell? _ _ c23; simp; omega))]; exact c23)
        have c36 : w5.cell? ⟨wr.heap.size, 1, none⟩ = some (.int .i64 x1) := below_keep hb5 (by rw [World.cell?_alloc_lt _ _ _ (by first | exact World.block_lt_of_cell? _ _ c24 | (have := World.block_lt_of_cell? _ _ c24; simp; omega))]; exact c24)
        have c37 : w5.cell? ⟨wr.heap.size, 2, none⟩ = some (.int .i64 x2) := below_keep hb5 (by rw [World.cell?_alloc_lt _ _ _ (by first | exact World.block_lt_of_cell? _ _ c25 | (have := World.block_lt_of_cell? _ _ c25; simp; omega))]; exact c25)
        have c38 : w5.cell? ⟨w2.heap.size, 0, none⟩ = some (.int .i64 s0) := below_keep hb5 (by rw [World.cell?_alloc_lt _ _ _ (by first | exact World.block_lt_of_cell? _ _ c26 | (have := World.block_lt_of_cell? _ _ c26; simp; omega))]; exact c26)
        have c39 : w5.cell? ⟨w2.heap.size, 1, none⟩ = some (.int .i64 s1) := below_keep hb5 (by rw [World.cell?_alloc_lt _ _ _ (by first | exact World.block_lt_of_cell? _ _ c27 | (have := World.block_lt_of_cell? _ _ c27; simp; omega))]; exact c27)
        have c40 : w5.cell? ⟨w2.heap.size, 2, none⟩ = some (.int .i64 s2) := below_keep hb5 (by rw [World.cell?_alloc_lt _ _ _ (by first | exact World.block_lt_of_cell? _ _ c28 | (have := World.block_lt_of_cell? _ _ c28; simp; omega))]; exact c28)
        have c41 : w5.cell? ⟨w3.heap.size, 0, none⟩ = some (.int .i64 s0) := below_keep hb5 (by rw [World.cell?_alloc_lt _ _ _ (by first | exact World.block_lt_of_cell? _ _ c29 | (have := World.block_lt_of_cell? _ _ c29; simp; omega))]; exact c29)
        have c42 : w5.cell? ⟨w3.heap.size, 1, none⟩ = some (.int .i64 s1) := below_keep hb5 (by rw [World.cell?_alloc_lt _ _ _ (by first | exact World.block_lt_of_cell? _ _ c30 | (have := World.block_lt_of_cell? _ _ c30; simp; omega))]; exact c30)
        have c43 : w5.cell? ⟨w3.heap.size, 2, none⟩ = some (.int .i64 s2) := below_keep hb5 (by rw [World.cell?_alloc_lt _ _ _ (by first | exact World.block_lt_of_cell? _ _ c31 | (have := World.block_lt_of_cell? _ _ c31; simp; omega))]; exact c31)
        have c44 : w5.cell? ⟨w4.heap.size, 0, none⟩ = some (.int .i64 t0) := below_keep hb5 (by simp [go_sem])
        have c45 : w5.cell? ⟨w4.heap.size, 1, none⟩ = some (.int .i64 t1) := below_keep hb5 (by simp [go_sem])
        have c46 : w5.cell? ⟨w4.heap.size, 2, none⟩ = some (.int .i64 t2) := below_keep hb5 (by simp [go_sem])
        have H5 := Lib.hid (below_step (below_alloc (H4.out) _) hb5)
        clear hb5 c23 c24 c25 c26 c27 c28 c29 c30 c31 H4 hz32 hz33 hz34
        have hz47 : wr.heap.size < w5.heap.size := World.block_lt_of_cell? _ _ c35
        have hz48 : w2.heap.size < w5.heap.size := World.block_lt_of_cell? _ _ c38
        have hz49 : w3.heap.size < w5.heap.size := World.block_lt_of_cell? _ _ c41
        have hz50 : w4.heap.size < w5.heap.size := World.block_lt_of_cell? _ _ c44
        go_wp2
        refine wp_world ?_
        intro W hW
        have c51 : W.cell? ⟨wr.heap.size, 0, none⟩ = some (.int .i64 x0) := by subst hW; rw [World.cell?_alloc_lt _ _ _ (by first | exact World.block_lt_of_cell? _ _ c35 | (have := World.block_lt_of_cell? _ _ c35; simp; omega))]; exact c35
        have c52 : W.cell? ⟨wr.heap.size, 1, none⟩ = some (.int .i64 x1) := by subst hW; rw [World.cell?_alloc_lt _ _ _ (by first | exact World.block_lt_of_cell? _ _ c36 | (have := World.block_lt_of_cell? _ _ c36; simp; omega))]; exact c36
        have c53 : W.cell? ⟨wr.heap.size, 2, none⟩ = some (.int .i64 x2) := by subst hW; rw [World.cell?_alloc_lt _ _ _ (by first | exact World.block_lt_of_cell? _ _ c37 | (have := World.block_lt_of_cell? _ _ c37; simp; omega))]; exact c37
        have c54 : W.cell? ⟨w2.heap.size, 0, none⟩ = some (.int .i64 s0) := by subst hW; rw [World.cell?_alloc_lt _ _ _ (by first | exact World.block_lt_of_cell? _ _ c38 | (have := World.block_lt_of_cell? _ _ c38; simp; omega))]; exact c38
        have c55 : W.cell? ⟨w2.heap.size, 1, none⟩ = some (.int .i64 s1) := by subst hW; rw [World.cell?_alloc_lt _ _ _ (by first | exact World.block_lt_of_cell? _ _ c39 | (have := World.block_lt_of_cell? _ _ c39; simp; omega))]; exact c39
        have c56 : W.cell? ⟨w2.heap.size, 2, none⟩ = some (.int .i64 s2) := by subst hW; rw [World.cell?_alloc_lt _ _ _ (by first | exact World.block_lt_of_cell? _ _ c40 | (have := World.block_lt_of_cell? _ _ c40; simp; omega))]; exact c40
        have c57 : W.cell? ⟨w3.heap.size, 0, none⟩ = some (.int .i64 s0) := by subst hW; rw [World.cell?_alloc_lt _ _ _ (by first | exact World.block_lt_of_cell? _ _ c41 | (have := World.block_lt_of_cell? _ _ c41; simp; omega))]; exact c41
        have c58 : W.cell? ⟨w3.heap.size, 1, none⟩ = some (.int .i64 s1) := by subst hW; rw [World.cell?_alloc_lt _ _ _ (by first | exact World.block_lt_of_cell? _ _ c42 | (have := World.block_lt_of_cell? _ _ c42; simp; omega))]; exact c42
        have c59 : W.cell? ⟨w3.heap.size, 2, none⟩ = some (.int .i64 s2) := by subst hW; rw [World.cell?_alloc_lt _ _ _ (by first | exact World.block_lt_of_cell? _ _ c43 | (have := World.block_lt_of_cell? _ _ c43; simp; omega))]; exact c43
        have c60 : W.cell? ⟨w4.heap.size, 0, none⟩ = some (.int .i64 t0) := by subst hW; rw [World.cell?_alloc_lt _ _ _ (by first | exact World.block_lt_of_cell? _ _ c44 | (have := World.block_lt_of_cell? _ _ c44; simp; omega))]; exact c44
        have c61 : W.cell? ⟨w4.heap.size, 1, none⟩ = some (.int .i64 t1) := by subst hW; rw [World.cell?_alloc_lt _ _ _ (by first | exact World.block_lt_of_cell? _ _ c45 | (have := World.block_lt_of_cell? _ _ c45; simp; omega))]; exact c45
        have c62 : W.cell? ⟨w4.heap.size, 2, none⟩ = some (.int .i64 t2) := by subst hW; rw [World.cell?_alloc_lt _ _ _ (by first | exact World.block_lt_of_cell? _ _ c46 | (have := World.block_lt_of_cell? _ _ c46; simp; omega))]; exact c46
        have c63 : W.cell? ⟨w5.heap.size, 0, none⟩ = some (.int .i64 t0) := by subst hW; simp [go_sem]
        have c64 : W.cell? ⟨w5.heap.size, 1, none⟩ = some (.int .i64 t1) := by subst hW; simp [go_sem]
        have c65 : W.cell? ⟨w5.heap.size, 2, none⟩ = some (.int .i64 t2) := by subst hW; simp [go_sem]
        have HW_W := Lib.hid (show Below w.heap.size w W by subst hW; exact below_alloc (H5.out) _)
        clear hW c35 c36 c37 c38 c39 c40 c41 c42 c43 c44 c45 c46 H5 hz47 hz48 hz49 hz50
        have r0 := fun p : Regrown => cell_regrown c51 p.d p.os
        have r1 := fun p : Regrown => cell_regrown c52 p.d p.os
        have r2 := fun p : Regrown => cell_regrown c53 p.d p.os
        have r3 := fun p : Regrown => cell_regrown c54 p.d p.os
        have r4 := fun p : Regrown => cell_regrown c55 p.d p.os
        have r5 := fun p : Regrown => cell_regrown c56 p.d p.os
        have r6 := fun p : Regrown => cell_regrown c57 p.d p.os
        have r7 := fun p : Regrown => cell_regrown c58 p.d p.os
        have r8 := fun p : Regrown => cell_regrown c59 p.d p.os
        have r9 := fun p : Regrown => cell_regrown c60 p.d p.os
        have r10 := fun p : Regrown => cell_regrown c61 p.d p.os
        have r11 := fun p : Regrown => cell_regrown c62 p.d p.os
        have r12 := fun p : Regrown => cell_regrown c63 p.d p.os
        have r13 := fun p : Regrown => cell_regrown c64 p.d p.os
        have r14 := fun p : Regrown => cell_regrown c65 p.d p.os
        have q1 := Q1.out
        have q2 := Q2.out
        refine wp_region_quiet_below (by kernel_rfl) (by kernel_rfl) ?_
        repeat (go_big_quiet_step (first | with_reducible exact Calls.regrown_of (pCheck_any x0 x1 x2 _) | with_reducible exact Calls.regrown_of (rRight_any x0 x1 x2 _)))
        refine wpQuiet_nil ?_
        intro wz hw
        have HZ := Lib.hid (below_step HW_W.out (show Below W.heap.size W wz by obtain ⟨p, rfl⟩ := hw; exact below_regrown _ _ _))
        clear hw r0 r1 r2 r3 r4 r5 r6 r7 r8 r9 r10 r11 r12 r13 r14 c51 c52 c53 c54 c55 c56 c57 c58 c59 c60 c61 c62 c63 c64 c65
        go_wp2
        go_roundw
        case rel => exact ⟨k + 1, by omega, by go_num, HZ.out⟩
        case measure => simp [RowKit.intOf]; omega
    · go_wp2
      go_ret
      exact ⟨rfl, HB.out⟩

set_option maxRecDepth 100000 in
theorem passMoves_lifted (os : Os) (started : os.Started) (H : Type) (enc : TypeId × Value → H) :
    ReturnsInHanded {} Try.checked os 3 .any (Rows.passMovesSpec.pre6 enc Try.prog Try.f3 [] false) (Rows.passMovesSpec.post enc Try.prog Try.f3 false true false false) := by
  refine law_lifted started Try.func3 (by kernel_rfl)
    (ChangeSpec.witness6 (enc := enc) (C := Try.checked) false ⟨#[], #[.agg #[.int .i64 0, .int .i64 0, .int .i64 0], .agg #[.int .i64 0, .int .i64 0, .int .i32 0], .int .i64 0, .int .i64 0, .int .i64 0], []⟩ 8 (by kernel_rfl) (by kernel_rfl) (by kernel_rfl) (by kernel_rfl))
    rfl (by kernel_rfl) (by kernel_rfl) (fun ds hd => ?_) ?_
  · rw [Try.params3] at hd
    match ds, hd with
    | [_, _, _, _, _], _ => exact ⟨rfl, rfl, rfl⟩
  · intro W base args ds p hval hA
    rw [Try.params3] at hA hval
    obtain ⟨v0, vs0, d0, ds0, p0, q0, ha0, rfl, rfl, h0, r0⟩ := trodAll_cons hA
    obtain ⟨v1, vs1, d1, ds1, p1, q1, ha1, rfl, rfl, h1, r1⟩ := trodAll_cons r0
    obtain ⟨v2, vs2, d2, ds2, p2, q2, ha2, rfl, rfl, h2, r2⟩ := trodAll_cons r1
    obtain ⟨v3, vs3, d3, ds3, p3, q3, ha3, rfl, rfl, h3, r3⟩ := trodAll_cons r2
    obtain ⟨v4, vs4, d4, ds4, p4, q4, ha4, rfl, rfl, h4, r4⟩ := trodAll_cons r3
    obtain ⟨hz, rfl, rfl⟩ := trodAll_nil r4
    obtain rfl : args = #[v0, v1, v2, v3, v4] := by
      subst hz
      subst ha4
      subst ha3
      subst ha2
      subst ha1
      cases args; simpa using ha0
    obtain ⟨x0_0, x0_1, x0_2, rfl⟩ := open_info (hval 0 23 v0 rfl rfl) h0
    obtain ⟨x1_0, x1_1, x1_2, rfl⟩ := open_draft14 (hval 1 25 v1 rfl rfl) h1
    obtain ⟨x2, rfl, rfl, rfl, w2⟩ := open_int Try.underlying3 (hval 2 3 v2 rfl rfl) h2
    obtain ⟨x3, rfl, rfl, rfl, w3⟩ := open_int Try.underlying3 (hval 3 3 v3 rfl rfl) h3
    obtain ⟨x4, rfl, rfl, rfl, w4⟩ := open_int Try.underlying3 (hval 4 3 v4 rfl rfl) h4
    exact passMoves_walk x0_0 x0_1 x0_2 x1_0 x1_1 x1_2 x2 x3 x4 W

theorem passMoves_holds : Rows.PassMovesSaid :=
  OpenClaim.holds_of_wide 3 Try.f3 rfl rfl rfl rfl rfl rfl rfl ⟨rfl, rfl, rfl, rfl, rfl⟩ rfl rfl rfl rfl rfl (by kernel_rfl) Try.func3 (by kernel_rfl)
    (of_decide_eq_true (by kernel_rfl)) (by unfold Func.isWrapper; first | (rw [if_pos (by decide +kernel)]; kernel_rfl) | (rw [if_neg (by decide +kernel)]; exact ⟨rfl, rfl⟩))
    (fun os started H enc _ => passMoves_lifted os started H enc)
#print axioms passMoves_holds

end Go.Proofs.Ytkbadnehngogjaa
