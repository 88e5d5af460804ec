/-
  PassHolds: for every input the law returns true, and its arguments read as before. No conditions.
-/
import Derived.Test.YtkbadnehngogjaaPassWorks
import Derived.Test.YtkbadnehngogjaaPassRef
import Derived.Test.YtkbadnehngogjaaClock
import Derived.Test.YtkbadnehngogjaaTwoClk
import Derived.Test.YtkbadnehngogjaaOpenWay
import Derived.Test.YtkbadnehngogjaaOpen14
import Derived.Lib.QuietBelow
import Derived.Deep.RegionHeld3
import Derived.Deep.DeepCutAuto
import Derived.BigQuiet
namespace Go.Proofs.Ytkbadnehngogjaa
open Go.RowKit Go.Lib Plain
open Go.ChangeShapes Go.WideShapes Go.ChangeAt

set_option maxHeartbeats 8000000 in
set_option maxRecDepth 100000 in
theorem passHolds_core (a b a' b' t n E Q R z l : Int) (hl : z.tmod 1000000 = l) (l0 : -1000000 ≤ l) (l1 : l ≤ 1000000) (t0 : 0 ≤ t) (t1 : t ≤ 4294967295) (n0 : 0 ≤ n) (n1 : n ≤ 65535) (e0 : -32768 ≤ E) (e1 : E ≤ 32767) (u0 : -32768 ≤ Q) (u1 : Q ≤ 32767) (r0 : -32768 ≤ R) (r1 : R ≤ 32767) (w : World) :
    Calls Try.prog 10 #[.agg #[.int .i64 a, .int .i32 b, .int .i64 a', .int .i32 b'], .agg #[.int .u32 t, .int .u16 n, .int .i16 E, .int .i16 Q, .int .i16 R], .int .i32 z] w fun y w' => y = .returned (.bool true) ∧ Below w.heap.size w w' := by
  go_enter Try.func10, Try.ntmps10
  go_wp2_with fail
  refine (works_any _).mono ?_
  rintro y w1 ⟨rfl, hb1⟩
  have c1 : w1.cell? ⟨w.heap.size, 0, none⟩ = some (.int .i64 a) := below_keep hb1 (by simp [go_sem])
  have c2 : w1.cell? ⟨w.heap.size, 1, none⟩ = some (.int .i32 b) := below_keep hb1 (by simp [go_sem])
  have c3 : w1.cell? ⟨w.heap.size, 2, none⟩ = some (.int .i64 a') := below_keep hb1 (by simp [go_sem])
  have c4 : w1.cell? ⟨w.heap.size, 3, none⟩ = some (.int .i32 b') := below_keep hb1 (by simp [go_sem])
  have c5 : w1.cell? ⟨w.heap.size + 1, 0, none⟩ = some (.int .u32 t) := below_keep hb1 (by simp [go_sem])
  have c6 : w1.cell? ⟨w.heap.size + 1, 1, none⟩ = some (.int .u16 n) := below_keep hb1 (by simp [go_sem])
  have c7 : w1.cell? ⟨w.heap.size + 1, 2, none⟩ = some (.int .i16 E) := below_keep hb1 (by simp [go_sem])
  have c8 : w1.cell? ⟨w.heap.size + 1, 3, none⟩ = some (.int .i16 Q) := below_keep hb1 (by simp [go_sem])
  have c9 : w1.cell? ⟨w.heap.size + 1, 4, none⟩ = some (.int .i16 R) := below_keep hb1 (by simp [go_sem])
  have H1 := Lib.hid (below_step (below_alloc (below_alloc (Below.refl _ _) _) _) hb1)
  clear hb1
  have z1 : w.heap.size < w1.heap.size := World.block_lt_of_cell? _ _ c1
  go_upto_region 3 with fail
  go_cut [7, 8] (fun s5 s6 wx => ∃ b5 b6 : Nat, s5 = .pointer (some ⟨b5, 0, none⟩) ∧ s6 = .pointer (some ⟨b6, 0, none⟩) ∧ wx.cell? ⟨b5, 0, none⟩ = some (.int .i64 (a.tmod 1099511627777)) ∧ wx.cell? ⟨b5, 1, none⟩ = some (.int .i64 (b.tmod 200001)) ∧
      wx.cell? ⟨b6, 0, none⟩ = some (.int .i64 (a'.tmod 1099511627777)) ∧ wx.cell? ⟨b6, 1, none⟩ = some (.int .i64 (b'.tmod 200001)) ∧ wx.cell? ⟨w.heap.size + 1, 0, none⟩ = some (.int .u32 t) ∧ wx.cell? ⟨w.heap.size + 1, 1, none⟩ = some (.int .u16 n) ∧ wx.cell? ⟨w.heap.size + 1, 2, none⟩ = some (.int .i16 E) ∧ wx.cell? ⟨w.heap.size + 1, 3, none⟩ = some (.int .i16 Q) ∧ wx.cell? ⟨w.heap.size + 1, 4, none⟩ = some (.int .i16 R) ∧ Below w.heap.size w wx)
  case first =>
    have jb := Lib.hid (Below.drew (Below.refl w1.heap.size w1))
    have HK := Lib.hid (fun wx (hB : Below w1.heap.size w1 wx) => (⟨hB, below_keep hB c1, below_keep hB c2, below_keep hB c3, below_keep hB c4⟩ :
      Below w1.heap.size w1 wx ∧ wx.cell? ⟨w.heap.size, 0, none⟩ = some (.int .i64 a) ∧ wx.cell? ⟨w.heap.size, 1, none⟩ = some (.int .i32 b) ∧ wx.cell? ⟨w.heap.size, 2, none⟩ = some (.int .i64 a') ∧ wx.cell? ⟨w.heap.size, 3, none⟩ = some (.int .i32 b')))
    go_region_held3 (fun w' => Below w1.heap.size w1 w' ∧ w'.cell? ⟨w.heap.size, 0, none⟩ = some (.int .i64 a) ∧ w'.cell? ⟨w.heap.size, 1, none⟩ = some (.int .i32 b) ∧ w'.cell? ⟨w.heap.size, 2, none⟩ = some (.int .i64 a') ∧ w'.cell? ⟨w.heap.size, 3, none⟩ = some (.int .i32 b'))
      (first | assumption | (refine HK.out _ ?_; repeat (first | exact jb.out | exact Below.refl _ _ | refine Below.drew ?_ | refine Below.setCell ?_ (by first | exact Nat.le_refl _ | omega | (simp; done) | (simp; omega)) _ | refine Below.alloc ?_ (by first | exact Nat.le_refl _ | omega | (simp; done) | (simp; omega)) _)) | fail)
      (first | (go_at_call 30; refine (clockDraft_any _ _ _).mono ?_; rintro e wz ⟨rfl, hb3⟩; obtain ⟨hh, _⟩ := ‹Below w1.heap.size _ _ ∧ _›; have jz := Nat.le_trans hh.size hb3.size; have jb := Lib.hid (below_step hh hb3); clear hh; first | (with_reducible have hb4 := bkd hb3; first | (with_reducible have jj := bk2 hb4; obtain ⟨j1, j2, j3, j4, j5, j6, j7, j8, j9, j10, j11⟩ := jj) | (with_reducible have jj := bk1 hb4; obtain ⟨j1, j2, j3, j4, j5, j6, j7, j8, j9, j10⟩ := jj) | (have jj := bk0 hb4; obtain ⟨j1, j2, j3, j4, j5⟩ := jj)) | (first | (with_reducible have jj := bk2 hb3; obtain ⟨j1, j2, j3, j4, j5, j6, j7, j8, j9, j10, j11⟩ := jj) | (with_reducible have jj := bk1 hb3; obtain ⟨j1, j2, j3, j4, j5, j6, j7, j8, j9, j10⟩ := jj) | (have jj := bk0 hb3; obtain ⟨j1, j2, j3, j4, j5⟩ := jj))) | fail)
    all_goals go_wp2_with fail
    all_goals go_meet
    all_goals
      obtain ⟨hB, _⟩ := ‹Below w1.heap.size _ _ ∧ _›
      exact ⟨_, _, rfl, rfl, by simp [go_sem, *], by simp [go_sem, *], by simp [go_sem, *], by simp [go_sem, *], below_keep hB c5, below_keep hB c6, below_keep hB c7, below_keep hB c8, below_keep hB c9, below_step H1.out hB⟩
  case rest =>
    obtain ⟨b5, b6, rfl, rfl, q0, q1, q2, q3, p0, p1, p2, p3, p4, hB⟩ := hcut
    have HB := Lib.hid hB
    have h := clockDraft_ok a b
    have h' := clockDraft_ok a' b'
    clear hB z1 c1 c2 c3 c4 c5 c6 c7 c8 c9 H1
    generalize a.tmod 1099511627777 = O at *
    generalize b.tmod 200001 = P at *
    generalize a'.tmod 1099511627777 = O' at *
    generalize b'.tmod 200001 = P' at *
    have kt : Tick t := ⟨t0, by omega⟩
    have kn : Tick (t + n) := ⟨by omega, by omega⟩
    obtain ⟨v1, v2, _, _⟩ := loc_bd h kt
    obtain ⟨v3, v4, _, _⟩ := loc_bd h kn
    obtain ⟨_, _, g1, g2⟩ := id h
    obtain ⟨_, _, g3, g4⟩ := id h'
    have hp := Lib.hid (pass_holds (t := t) (n := n) (P := P) (P' := P') (E := E) (D := Q) (R := R) n0 g1 g2 g3 g4)
    have hd : locV O P (t + n) = locV O P t + n + (share (t + n) P - share t P) := by unfold locV; omega
    have HD := Lib.hid hd
    have HS := Lib.hid h
    have T1 := Lib.hid kt
    have T2 := Lib.hid kn
    clear h h' kt kn hd
    go_wp2
    have r0' := fun p : Regrown => cell_regrown p0 p.d p.os
    have r1' := fun p : Regrown => cell_regrown p1 p.d p.os
    refine wp_region_quiet_below (by kernel_rfl) (by kernel_rfl) ?_
    repeat (go_big_quiet_step (fail))
    refine wpQuiet_nil ?_
    intro wz hw
    have hbz : Below wc.heap.size wc wz := by obtain ⟨p, rfl⟩ := hw; exact below_regrown _ _ _
    clear hw r0' r1'
    have c10 : wz.cell? ⟨b5, 0, none⟩ = some (.int .i64 O) := below_keep hbz (q0)
    have c11 : wz.cell? ⟨b5, 1, none⟩ = some (.int .i64 P) := below_keep hbz (q1)
    have c12 : wz.cell? ⟨b6, 0, none⟩ = some (.int .i64 O') := below_keep hbz (q2)
    have c13 : wz.cell? ⟨b6, 1, none⟩ = some (.int .i64 P') := below_keep hbz (q3)
    have c14 : wz.cell? ⟨w.heap.size + 1, 0, none⟩ = some (.int .u32 t) := below_keep hbz (p0)
    have c15 : wz.cell? ⟨w.heap.size + 1, 1, none⟩ = some (.int .u16 n) := below_keep hbz (p1)
    have c16 : wz.cell? ⟨w.heap.size + 1, 2, none⟩ = some (.int .i16 E) := below_keep hbz (p2)
    have c17 : wz.cell? ⟨w.heap.size + 1, 3, none⟩ = some (.int .i16 Q) := below_keep hbz (p3)
    have c18 : wz.cell? ⟨w.heap.size + 1, 4, none⟩ = some (.int .i16 R) := below_keep hbz (p4)
    have H2 := Lib.hid (below_step (HB.out) hbz)
    clear hbz q0 q1 q2 q3 p0 p1 p2 p3 p4 HB
    go_wp2_with fail
    refine (local_ok O P t HS.out T1.out _).mono ?_
    rintro y w3 ⟨rfl, hb3⟩
    have c19 : w3.cell? ⟨b5, 0, none⟩ = some (.int .i64 O) := below_keep hb3 (c10)
    have c20 : w3.cell? ⟨b5, 1, none⟩ = some (.int .i64 P) := below_keep hb3 (c11)
    have c21 : w3.cell? ⟨b6, 0, none⟩ = some (.int .i64 O') := below_keep hb3 (c12)
    have c22 : w3.cell? ⟨b6, 1, none⟩ = some (.int .i64 P') := below_keep hb3 (c13)
    have c23 : w3.cell? ⟨w.heap.size + 1, 0, none⟩ = some (.int .u32 t) := below_keep hb3 (c14)
    have c24 : w3.cell? ⟨w.heap.size + 1, 1, none⟩ = some (.int .u16 n) := below_keep hb3 (c15)
    have c25 : w3.cell? ⟨w.heap.size + 1, 2, none⟩ = some (.int .i16 E) := below_keep hb3 (c16)
    have c26 : w3.cell? ⟨w.heap.size + 1, 3, none⟩ = some (.int .i16 Q) := below_keep hb3 (c17)
    have c27 : w3.cell? ⟨w.heap.size + 1, 4, none⟩ = some (.int .i16 R) := below_keep hb3 (c18)
    have H3 := Lib.hid (below_step (H2.out) hb3)
    clear hb3 c10 c11 c12 c13 c14 c15 c16 c17 c18 H2
    go_wp2_with fail
    refine (local_ok O P (t + n) HS.out T2.out _).mono ?_
    rintro y w4 ⟨rfl, hb4⟩
    have c28 : w4.cell? ⟨b5, 0, none⟩ = some (.int .i64 O) := below_keep hb4 (c19)
    have c29 : w4.cell? ⟨b5, 1, none⟩ = some (.int .i64 P) := below_keep hb4 (c20)
    have c30 : w4.cell? ⟨b6, 0, none⟩ = some (.int .i64 O') := below_keep hb4 (c21)
    have c31 : w4.cell? ⟨b6, 1, none⟩ = some (.int .i64 P') := below_keep hb4 (c22)
    have c32 : w4.cell? ⟨w.heap.size + 1, 0, none⟩ = some (.int .u32 t) := below_keep hb4 (c23)
    have c33 : w4.cell? ⟨w.heap.size + 1, 1, none⟩ = some (.int .u16 n) := below_keep hb4 (c24)
    have c34 : w4.cell? ⟨w.heap.size + 1, 2, none⟩ = some (.int .i16 E) := below_keep hb4 (c25)
    have c35 : w4.cell? ⟨w.heap.size + 1, 3, none⟩ = some (.int .i16 Q) := below_keep hb4 (c26)
    have c36 : w4.cell? ⟨w.heap.size + 1, 4, none⟩ = some (.int .i16 R) := below_keep hb4 (c27)
    have H4 := Lib.hid (below_step (H3.out) hb4)
    clear hb4 c19 c20 c21 c22 c23 c24 c25 c26 c27 H3
    generalize locV O P t = c1 at *
    generalize locV O P (t + n) = c2 at *
    obtain ⟨b1, b2⟩ := part_bd (x := n + Q) (p := P - P' + R) (by omega) (by omega) (by omega) (by omega)
    have ki : OkI (c1 - 100) (100 + E) l := ⟨⟨by omega, by omega⟩, ⟨by omega, by omega⟩, ⟨by omega, by omega⟩⟩
    have ka : Stamp (n + Q) ∧ Ratio (P - P' + R - l) := ⟨⟨by omega, by omega⟩, ⟨by omega, by omega⟩⟩
    have kp : l + (P - P' + R - l) = P - P' + R := by omega
    have kc : -4398046511104 ≤ corV (100 + E) (n + Q) (P - P' + R) ∧ corV (100 + E) (n + Q) (P - P' + R) ≤ 4398046511104 := by unfold corV; omega
    have kf : OkI (c1 - 100) (corV (100 + E) (n + Q) (P - P' + R)) (P - P' + R) := ⟨⟨by omega, by omega⟩, kc, ⟨by omega, by omega⟩⟩
    have E0 : Hid ((apV (OkI (c1 - 100) (100 + E) l) (Stamp (n + Q) ∧ Ratio (P - P' + R - l)) (dnV (c1 - 100) (corV (100 + E) (n + Q) (l + (P - P' + R - l))) (l + (P - P' + R - l)) (c1 - 100))) = c1 - 100) := by show (apV (OkI (c1 - 100) (100 + E) l) (Stamp (n + Q) ∧ Ratio (P - P' + R - l)) (dnV (c1 - 100) (corV (100 + E) (n + Q) (l + (P - P' + R - l))) (l + (P - P' + R - l)) (c1 - 100))) = _; rw [kp]; unfold apV dnV; rw [if_pos ki, if_pos ka, if_pos kf]
    have E1 : Hid ((apV (OkI (c1 - 100) (100 + E) l) (Stamp (n + Q) ∧ Ratio (P - P' + R - l)) (dnV (c1 - 100) (corV (100 + E) (n + Q) (l + (P - P' + R - l))) (l + (P - P' + R - l)) (corV (100 + E) (n + Q) (l + (P - P' + R - l))))) = corV (100 + E) (n + Q) (P - P' + R)) := by show (apV (OkI (c1 - 100) (100 + E) l) (Stamp (n + Q) ∧ Ratio (P - P' + R - l)) (dnV (c1 - 100) (corV (100 + E) (n + Q) (l + (P - P' + R - l))) (l + (P - P' + R - l)) (corV (100 + E) (n + Q) (l + (P - P' + R - l))))) = _; rw [kp]; unfold apV dnV; rw [if_pos ki, if_pos ka, if_pos kf]
    have E2 : Hid ((apV (OkI (c1 - 100) (100 + E) l) (Stamp (n + Q) ∧ Ratio (P - P' + R - l)) (dnV (c1 - 100) (corV (100 + E) (n + Q) (l + (P - P' + R - l))) (l + (P - P' + R - l)) (l + (P - P' + R - l)))) = P - P' + R) := by show (apV (OkI (c1 - 100) (100 + E) l) (Stamp (n + Q) ∧ Ratio (P - P' + R - l)) (dnV (c1 - 100) (corV (100 + E) (n + Q) (l + (P - P' + R - l))) (l + (P - P' + R - l)) (l + (P - P' + R - l)))) = _; rw [kp]; unfold apV dnV; rw [if_pos ki, if_pos ka, if_pos kf]
    have E3 : Hid ((apE (OkI (c1 - 100) (100 + E) l) (Stamp (n + Q) ∧ Ratio (P - P' + R - l)) (dnE (c1 - 100) (corV (100 + E) (n + Q) (l + (P - P' + R - l))) (l + (P - P' + R - l)))) = 0) := by show (apE (OkI (c1 - 100) (100 + E) l) (Stamp (n + Q) ∧ Ratio (P - P' + R - l)) (dnE (c1 - 100) (corV (100 + E) (n + Q) (l + (P - P' + R - l))) (l + (P - P' + R - l)))) = _; rw [kp]; unfold apE dnE; rw [if_pos ki, if_pos ka, if_pos kf]
    have kg : corV (100 + E) (n + Q) (P - P' + R) = 100 + (E + (n + Q + share (n + Q) (P - P' + R))) := by unfold corV; omega
    obtain ⟨k1, k2⟩ := hp.out
    have k3 := HD.out
    have kb : PbOk (max E (-E)) (max Q (-Q)) n (max R (-R)) := ⟨⟨by omega, by omega⟩, ⟨by omega, by omega⟩, ⟨by omega, by omega⟩, ⟨by omega, by omega⟩⟩
    obtain ⟨b3, b4⟩ := part_bd (x := -(n + max Q (-Q))) (p := max R (-R) + 600000) (by omega) (by omega) (by omega) (by omega)
    have kv : -400000000000 ≤ pbV (max E (-E)) (max Q (-Q)) n (max R (-R)) ∧ pbV (max E (-E)) (max Q (-Q)) n (max R (-R)) ≤ 400000000000 := by unfold pbV; omega
    have B1 : Hid (pblV (max E (-E)) (max Q (-Q)) n (max R (-R)) = pbV (max E (-E)) (max Q (-Q)) n (max R (-R))) := if_pos kb
    have B2 : Hid (pblE (max E (-E)) (max Q (-Q)) n (max R (-R)) = 0) := if_pos kb
    have k4 : c2 - pbV (max E (-E)) (max Q (-Q)) n (max R (-R)) ≤ c1 - 100 + corV (100 + E) (n + Q) (P - P' + R) ∧ c1 - 100 + corV (100 + E) (n + Q) (P - P' + R) ≤ c2 + pbV (max E (-E)) (max Q (-Q)) n (max R (-R)) := by omega
    obtain ⟨kc1, kc2⟩ := kc
    obtain ⟨kv1, kv2⟩ := kv
    have K4 := Lib.hid k4
    clear ki ka kp kf kg k1 k2 k3 kb k4 hp HD b1 b2 b3 b4
    have hz37 : b5 < w4.heap.size := World.block_lt_of_cell? _ _ c28
    have hz38 : b6 < w4.heap.size := World.block_lt_of_cell? _ _ c30
    have hz39 : w.heap.size + 1 < w4.heap.size := World.block_lt_of_cell? _ _ c32
    go_wp2_with fail
    refine (arrive_any (c1 - 100) (100 + E) l (n + Q) (P - P' + R - l) _).mono ?_
    rw [E0.out, E1.out, E2.out, E3.out]
    rintro y w5 ⟨rfl, hb5⟩
    have c40 : w5.cell? ⟨b5, 0, none⟩ = some (.int .i64 O) := below_keep hb5 (by rw [World.cell?_alloc_lt _ _ _ (by first | exact World.block_lt_of_cell? _ _ c28 | (have := World.block_lt_of_cell? _ _ c28; simp; omega))]; exact c28)
    have c41 : w5.cell? ⟨b5, 1, none⟩ = some (.int .i64 P) := below_keep hb5 (by rw [World.cell?_alloc_lt _ _ _ (by first | exact World.block_lt_of_cell? _ _ c29 | (have := World.block_lt_of_cell? _ _ c29; simp; omega))]; exact c29)
    have c42 : w5.cell? ⟨b6, 0, none⟩ = some (.int .i64 O') := below_keep hb5 (by rw [World.cell?_alloc_lt _ _ _ (by first | exact World.block_lt_of_cell? _ _ c30 | (have := World.block_lt_of_cell? _ _ c30; simp; omega))]; exact c30)
    have c43 : w5.cell? ⟨b6, 1, none⟩ = some (.int .i64 P') := below_keep hb5 (by rw [World.cell?_alloc_lt _ _ _ (by first | exact World.block_lt_of_cell? _ _ c31 | (have := World.block_lt_of_cell? _ _ c31; simp; omega))]; exact c31)
    have c44 : w5.cell? ⟨w.heap.size + 1, 0, none⟩ = some (.int .u32 t) := below_keep hb5 (by rw [World.cell?_alloc_lt _ _ _ (by first | exact World.block_lt_of_cell? _ _ c32 | (have := World.block_lt_of_cell? _ _ c32; simp; omega))]; exact c32)
    have c45 : w5.cell? ⟨w.heap.size + 1, 1, none⟩ = some (.int .u16 n) := below_keep hb5 (by rw [World.cell?_alloc_lt _ _ _ (by first | exact World.block_lt_of_cell? _ _ c33 | (have := World.block_lt_of_cell? _ _ c33; simp; omega))]; exact c33)
    have c46 : w5.cell? ⟨w.heap.size + 1, 2, none⟩ = some (.int .i16 E) := below_keep hb5 (by rw [World.cell?_alloc_lt _ _ _ (by first | exact World.block_lt_of_cell? _ _ c34 | (have := World.block_lt_of_cell? _ _ c34; simp; omega))]; exact c34)
    have c47 : w5.cell? ⟨w.heap.size + 1, 3, none⟩ = some (.int .i16 Q) := below_keep hb5 (by rw [World.cell?_alloc_lt _ _ _ (by first | exact World.block_lt_of_cell? _ _ c35 | (have := World.block_lt_of_cell? _ _ c35; simp; omega))]; exact c35)
    have c48 : w5.cell? ⟨w.heap.size + 1, 4, none⟩ = some (.int .i16 R) := below_keep hb5 (by rw [World.cell?_alloc_lt _ _ _ (by first | exact World.block_lt_of_cell? _ _ c36 | (have := World.block_lt_of_cell? _ _ c36; simp; omega))]; exact c36)
    have c49 : w5.cell? ⟨w4.heap.size, 0, none⟩ = some (.int .i64 (c1 - 100)) := below_keep hb5 (by simp [go_sem])
    have c50 : w5.cell? ⟨w4.heap.size, 1, none⟩ = some (.int .i64 (100 + E)) := below_keep hb5 (by simp [go_sem])
    have c51 : w5.cell? ⟨w4.heap.size, 2, none⟩ = some (.int .i64 l) := below_keep hb5 (by simp [go_sem])
    have H5 := Lib.hid (below_step (below_alloc (H4.out) _) hb5)
    clear hb5 c28 c29 c30 c31 c32 c33 c34 c35 c36 H4 hz37 hz38 hz39
    generalize corV (100 + E) (n + Q) (P - P' + R) = V at *
    have hz52 : b5 < w5.heap.size := World.block_lt_of_cell? _ _ c40
    have hz53 : b6 < w5.heap.size := World.block_lt_of_cell? _ _ c42
    have hz54 : w.heap.size + 1 < w5.heap.size := World.block_lt_of_cell? _ _ c44
    have hz55 : w4.heap.size < w5.heap.size := World.block_lt_of_cell? _ _ c49
    go_wp2_with fail
    refine (pBound_any (max E (-E)) (max Q (-Q)) n (max R (-R)) _).mono ?_
    rw [B1.out, B2.out]
    rintro y w6 ⟨rfl, hb6⟩
    have c56 : w6.cell? ⟨b5, 0, none⟩ = some (.int .i64 O) := below_keep hb6 (by rw [World.cell?_alloc_lt _ _ _ (by first | exact World.block_lt_of_cell? _ _ c40 | (have := World.block_lt_of_cell? _ _ c40; simp; omega))]; exact c40)
    have c57 : w6.cell? ⟨b5, 1, none⟩ = some (.int .i64 P) := below_keep hb6 (by rw [World.cell?_alloc_lt _ _ _ (by first | exact World.block_lt_of_cell? _ _ c41 | (have := World.block_lt_of_cell? _ _ c41; simp; omega))]; exact c41)
    have c58 : w6.cell? ⟨b6, 0, none⟩ = some (.int .i64 O') := below_keep hb6 (by rw [World.cell?_alloc_lt _ _ _ (by first | exact World.block_lt_of_cell? _ _ c42 | (have := World.block_lt_of_cell? _ _ c42; simp; omega))]; exact c42)
    have c59 : w6.cell? ⟨b6, 1, none⟩ = some (.int .i64 P') := below_keep hb6 (by rw [World.cell?_alloc_lt _ _ _ (by first | exact World.block_lt_of_cell? _ _ c43 | (have := World.block_lt_of_cell? _ _ c43; simp; omega))]; exact c43)
    have c60 : w6.cell? ⟨w.heap.size + 1, 0, none⟩ = some (.int .u32 t) := below_keep hb6 (by rw [World.cell?_alloc_lt _ _ _ (by first | exact World.block_lt_of_cell? _ _ c44 | (have := World.block_lt_of_cell? _ _ c44; simp; omega))]; exact c44)
    have c61 : w6.cell? ⟨w.heap.size + 1, 1, none⟩ = some (.int .u16 n) := below_keep hb6 (by rw [World.cell?_alloc_lt _ _ _ (by first | exact World.block_lt_of_cell? _ _ c45 | (have := World.block_lt_of_cell? _ _ c45; simp; omega))]; exact c45)
    have c62 : w6.cell? ⟨w.heap.size + 1, 2, none⟩ = some (.int .i16 E) := below_keep hb6 (by rw [World.cell?_alloc_lt _ _ _ (by first | exact World.block_lt_of_cell? _ _ c46 | (have := World.block_lt_of_cell? _ _ c46; simp; omega))]; exact c46)
    have c63 : w6.cell? ⟨w.heap.size + 1, 3, none⟩ = some (.int .i16 Q) := below_keep hb6 (by rw [World.cell?_alloc_lt _ _ _ (by first | exact World.block_lt_of_cell? _ _ c47 | (have := World.block_lt_of_cell? _ _ c47; simp; omega))]; exact c47)
    have c64 : w6.cell? ⟨w.heap.size + 1, 4, none⟩ = some (.int .i16 R) := below_keep hb6 (by rw [World.cell?_alloc_lt _ _ _ (by first | exact World.block_lt_of_cell? _ _ c48 | (have := World.block_lt_of_cell? _ _ c48; simp; omega))]; exact c48)
    have c65 : w6.cell? ⟨w4.heap.size, 0, none⟩ = some (.int .i64 (c1 - 100)) := below_keep hb6 (by rw [World.cell?_alloc_lt _ _ _ (by first | exact World.block_lt_of_cell? _ _ c49 | (have := World.block_lt_of_cell? _ _ c49; simp; omega))]; exact c49)
    have c66 : w6.cell? ⟨w4.heap.size, 1, none⟩ = some (.int .i64 (100 + E)) := below_keep hb6 (by rw [World.cell?_alloc_lt _ _ _ (by first | exact World.block_lt_of_cell? _ _ c50 | (have := World.block_lt_of_cell? _ _ c50; simp; omega))]; exact c50)
    have c67 : w6.cell? ⟨w4.heap.size, 2, none⟩ = some (.int .i64 l) := below_keep hb6 (by rw [World.cell?_alloc_lt _ _ _ (by first | exact World.block_lt_of_cell? _ _ c51 | (have := World.block_lt_of_cell? _ _ c51; simp; omega))]; exact c51)
    have c68 : w6.cell? ⟨w5.heap.size, 0, none⟩ = some (.int .i64 (c1 - 100)) := below_keep hb6 (by simp [go_sem])
    have c69 : w6.cell? ⟨w5.heap.size, 1, none⟩ = some (.int .i64 V) := below_keep hb6 (by simp [go_sem])
    have c70 : w6.cell? ⟨w5.heap.size, 2, none⟩ = some (.int .i64 (P - P' + R)) := below_keep hb6 (by simp [go_sem])
    have H6 := Lib.hid (below_step (below_alloc (H5.out) _) hb6)
    clear hb6 c40 c41 c42 c43 c44 c45 c46 c47 c48 c49 c50 c51 H5 hz52 hz53 hz54 hz55
    generalize pbV (max E (-E)) (max Q (-Q)) n (max R (-R)) = m at *
    obtain ⟨k1, k2⟩ := K4.out
    clear K4
    go_wp2
    go_ret
    exact ⟨ret_bool (by first | rfl | (simp; omega)), H6.out⟩

theorem passHolds_walk (a b a' b' t n E Q R : Int) (h : (0 ≤ t ∧ t ≤ 4294967295) ∧ (0 ≤ n ∧ n ≤ 65535) ∧ (-32768 ≤ E ∧ E ≤ 32767) ∧ (-32768 ≤ Q ∧ Q ≤ 32767) ∧ (-32768 ≤ R ∧ R ≤ 32767)) (z : Int) (w : World) :
    Calls Try.prog 10 #[.agg #[.int .i64 a, .int .i32 b, .int .i64 a', .int .i32 b'], .agg #[.int .u32 t, .int .u16 n, .int .i16 E, .int .i16 Q, .int .i16 R], .int .i32 z] w fun y w' => y = .returned (.bool true) ∧ Below w.heap.size w w' := by
  have k := ctmod_bd z 1000000 (by decide)
  obtain ⟨⟨h0, h1⟩, ⟨h2, h3⟩, ⟨h4, h5⟩, ⟨h6, h7⟩, ⟨h8, h9⟩⟩ := h
  exact passHolds_core a b a' b' t n E Q R z _ rfl (by omega) (by omega) h0 h1 h2 h3 h4 h5 h6 h7 h8 h9 w

set_option maxRecDepth 100000 in
theorem passHolds_lifted (os : Os) (started : os.Started) (H : Type) (enc : TypeId × Value → H) :
    ReturnsInHanded {} Try.checked os 10 .any (Rows.passHoldsSpec.pre6 enc Try.prog Try.f10 [] false) (Rows.passHoldsSpec.post enc Try.prog Try.f10 false true false false) := by
  refine law_lifted started Try.func10 (by kernel_rfl)
    (ChangeSpec.witness6 (enc := enc) (C := Try.checked) false ⟨#[], #[.agg #[.int .i64 0, .int .i32 0, .int .i64 0, .int .i32 0], .agg #[.int .u32 0, .int .u16 0, .int .i16 0, .int .i16 0, .int .i16 0], .int .i32 0], []⟩ 8 (by kernel_rfl) (by kernel_rfl) (by kernel_rfl) (by kernel_rfl))
    rfl (by kernel_rfl) (by kernel_rfl) (fun ds hd => ?_) ?_
  · rw [Try.params10] at hd
    match ds, hd with
    | [_, _, _], _ => exact ⟨rfl, rfl, rfl⟩
  · intro W base args ds p hval hA
    rw [Try.params10] at hA hval
    obtain ⟨v0, vs0, d0, ds0, p0, q0, ha0, rfl, rfl, h0, r0⟩ := trodAll_cons hA
    obtain ⟨v1, vs1, d1, ds1, p1, q1, ha1, rfl, rfl, h1, r1⟩ := trodAll_cons r0
    obtain ⟨v2, vs2, d2, ds2, p2, q2, ha2, rfl, rfl, h2, r2⟩ := trodAll_cons r1
    obtain ⟨hz, rfl, rfl⟩ := trodAll_nil r2
    obtain rfl : args = #[v0, v1, v2] := by
      subst hz
      subst ha2
      subst ha1
      cases args; simpa using ha0
    obtain ⟨x0_0, x0_1, x0_2, x0_3, rfl⟩ := open_draft09s (hval 0 68 v0 rfl rfl) h0
    obtain ⟨x1_0, x1_1, x1_2, x1_3, x1_4, rfl, w1⟩ := open_way (hval 1 71 v1 rfl rfl) h1
    obtain ⟨x2, rfl, rfl, rfl, w2⟩ := open_int Try.underlying21 (hval 2 21 v2 rfl rfl) h2
    exact passHolds_walk x0_0 x0_1 x0_2 x0_3 x1_0 x1_1 x1_2 x1_3 x1_4 w1 x2 W

theorem passHolds_holds : Rows.PassHoldsSaid :=
  OpenClaim.holds_of_wide 10 Try.f10 rfl rfl rfl rfl rfl rfl rfl ⟨rfl, rfl, rfl, rfl, rfl⟩ rfl rfl rfl rfl rfl (by kernel_rfl) Try.func10 (by kernel_rfl)
    (of_decide_eq_true (by kernel_rfl)) (by unfold Func.isWrapper; first | (rw [if_pos (by decide +kernel)]; kernel_rfl) | (rw [if_neg (by decide +kernel)]; exact ⟨rfl, rfl⟩))
    (fun os started H enc _ => passHolds_lifted os started H enc)
#print axioms passHolds_holds

end Go.Proofs.Ytkbadnehngogjaa
