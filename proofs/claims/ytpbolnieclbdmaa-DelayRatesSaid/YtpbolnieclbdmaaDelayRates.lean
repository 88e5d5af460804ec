/-
  DelayRates: for every input the law returns true, and its arguments read as before. No conditions.
-/
import Derived.Test.YtpbolnieclbdmaaDelayWorks
import Derived.Test.YtpbolnieclbdmaaTwoClk
import Derived.Test.YtpbolnieclbdmaaDelayRef
import Derived.Test.YtpbolnieclbdmaaOpen12
import Derived.Lib.QuietBelow
import Derived.BigQuiet
namespace Go.Proofs.Ytpbolnieclbdmaa
open Go.RowKit Go.Lib Plain
open Go.ChangeShapes Go.WideShapes Go.ChangeAt

theorem ratioBound_ok (y : Int) (h : RbOk y) (w : World) :
    Calls Try.prog 25 #[.int .i64 y] w fun e w' => e = .returned (.tuple #[.int .i64 (rbV y), .int .i64 0]) ∧ Below w.heap.size w w' := by
  have hb := ratioBound_any y w
  rwa [show rblV y = rbV y from if_pos h, show rblE y = 0 from if_pos h] at hb
theorem rb_bd (y : Int) (h1 : 1 ≤ y) : 82 ≤ rbV y ∧ rbV y ≤ 2001000082 := by
  have b1 : -2001000000 ≤ -2001000000 / y := Int.le_ediv_of_mul_le (by omega) (by have := Int.mul_le_mul_of_nonneg_left h1 (show (0 : Int) ≤ 2001000000 by decide); omega)
  have b2 : -2001000000 / y ≤ 0 := by
    have := Int.ediv_lt_of_lt_mul (a := -2001000000) (b := 1) (c := y) (by omega) (by omega)
    omega
  unfold rbV
  omega

set_option maxHeartbeats 4000000 in
set_option maxRecDepth 100000 in
theorem delayRates_core (a b a' b' t d u g : Int) (t0 : 0 ≤ t) (t1 : t ≤ 4294967295) (d0 : 0 ≤ d) (d1 : d ≤ 4294967295) (u0 : 0 ≤ u) (u1 : u ≤ 4294967295) (g0 : 0 ≤ g) (g1 : g ≤ 4294967295) (w : World) : Calls Try.prog 8 #[.agg #[.int .i64 a, .int .i32 b, .int .i64 a', .int .i32 b'], .agg #[.int .u32 t, .int .u32 d, .int .u32 u, .int .u32 g]] w fun y w' => y = .returned (.bool true) ∧ Below w.heap.size w w' := by
  go_enter Try.func8, Try.ntmps8
  go_wp2_with fail
  refine (works_any _).mono ?_
  rintro y w1 ⟨rfl, hb1⟩
  have c1 : w1.cell? ⟨w.heap.size, 0, none⟩ = some (.int .i64 a) := below_keep hb1 (by simp [go_sem])
  have c2 : w1.cell? ⟨w.heap.size, 1, none⟩ = some (.int .i32 b) := below_keep hb1 (by simp [go_sem])
  have c3 : w1.cell? ⟨w.heap.size, 2, none⟩ = some (.int .i64 a') := below_keep hb1 (by simp [go_sem])
  have c4 : w1.cell? ⟨w.heap.size, 3, none⟩ = some (.int .i32 b') := below_keep hb1 (by simp [go_sem])
  have c5 : w1.cell? ⟨w.heap.size + 1, 0, none⟩ = some (.int .u32 t) := below_keep hb1 (by simp [go_sem])
  have c6 : w1.cell? ⟨w.heap.size + 1, 1, none⟩ = some (.int .u32 d) := below_keep hb1 (by simp [go_sem])
  have c7 : w1.cell? ⟨w.heap.size + 1, 2, none⟩ = some (.int .u32 u) := below_keep hb1 (by simp [go_sem])
  have c8 : w1.cell? ⟨w.heap.size + 1, 3, none⟩ = some (.int .u32 g) := below_keep hb1 (by simp [go_sem])
  have H1 := Lib.hid (below_step (below_alloc (below_alloc (Below.refl _ _) _) _) hb1)
  clear hb1
  have z1 : w.heap.size < w1.heap.size := World.block_lt_of_cell? _ _ c1
  go_upto_region 3 with fail
  go_cut [5, 6] (fun s5 s6 wx => ∃ b5 b6 : Nat, s5 = .pointer (some ⟨b5, 0, none⟩) ∧ s6 = .pointer (some ⟨b6, 0, none⟩) ∧ wx.cell? ⟨b5, 0, none⟩ = some (.int .i64 (a.tmod 1099511627777)) ∧ wx.cell? ⟨b5, 1, none⟩ = some (.int .i64 (b.tmod 200001)) ∧
      wx.cell? ⟨b6, 0, none⟩ = some (.int .i64 (a'.tmod 1099511627777)) ∧ wx.cell? ⟨b6, 1, none⟩ = some (.int .i64 (b'.tmod 200001)) ∧ wx.cell? ⟨w.heap.size + 1, 0, none⟩ = some (.int .u32 t) ∧ wx.cell? ⟨w.heap.size + 1, 1, none⟩ = some (.int .u32 d) ∧ wx.cell? ⟨w.heap.size + 1, 2, none⟩ = some (.int .u32 u) ∧ wx.cell? ⟨w.heap.size + 1, 3, none⟩ = some (.int .u32 g) ∧ Below w.heap.size w wx)
  case first =>
    have jb := Lib.hid (Below.drew (Below.refl w1.heap.size w1))
    have HK := Lib.hid (fun wx (hB : Below w1.heap.size w1 wx) => (⟨hB, below_keep hB c1, below_keep hB c2, below_keep hB c3, below_keep hB c4⟩ :
      Below w1.heap.size w1 wx ∧ wx.cell? ⟨w.heap.size, 0, none⟩ = some (.int .i64 a) ∧ wx.cell? ⟨w.heap.size, 1, none⟩ = some (.int .i32 b) ∧ wx.cell? ⟨w.heap.size, 2, none⟩ = some (.int .i64 a') ∧ wx.cell? ⟨w.heap.size, 3, none⟩ = some (.int .i32 b')))
    go_region_held3 (fun w' => Below w1.heap.size w1 w' ∧ w'.cell? ⟨w.heap.size, 0, none⟩ = some (.int .i64 a) ∧ w'.cell? ⟨w.heap.size, 1, none⟩ = some (.int .i32 b) ∧ w'.cell? ⟨w.heap.size, 2, none⟩ = some (.int .i64 a') ∧ w'.cell? ⟨w.heap.size, 3, none⟩ = some (.int .i32 b'))
      (first | assumption | (refine HK.out _ ?_; repeat (first | exact jb.out | exact Below.refl _ _ | refine Below.drew ?_ | refine Below.setCell ?_ (by first | exact Nat.le_refl _ | omega | (simp; done) | (simp; omega)) _ | refine Below.alloc ?_ (by first | exact Nat.le_refl _ | omega | (simp; done) | (simp; omega)) _)) | fail)
      (first | (go_at_call 18; refine (clockDraft_any _ _ _).mono ?_; rintro e wz ⟨rfl, hb3⟩; obtain ⟨hh, _⟩ := ‹Below w1.heap.size _ _ ∧ _›; have jz := Nat.le_trans hh.size hb3.size; have jb := Lib.hid (below_step hh hb3); clear hh; first | (with_reducible have hb4 := bkd hb3; first | (with_reducible have jj := bk2 hb4; obtain ⟨j1, j2, j3, j4, j5, j6, j7, j8, j9, j10, j11⟩ := jj) | (with_reducible have jj := bk1 hb4; obtain ⟨j1, j2, j3, j4, j5, j6, j7, j8, j9, j10⟩ := jj) | (have jj := bk0 hb4; obtain ⟨j1, j2, j3, j4, j5⟩ := jj)) | (first | (with_reducible have jj := bk2 hb3; obtain ⟨j1, j2, j3, j4, j5, j6, j7, j8, j9, j10, j11⟩ := jj) | (with_reducible have jj := bk1 hb3; obtain ⟨j1, j2, j3, j4, j5, j6, j7, j8, j9, j10⟩ := jj) | (have jj := bk0 hb3; obtain ⟨j1, j2, j3, j4, j5⟩ := jj))) | fail)
    all_goals go_wp2_with fail
    all_goals go_meet
    all_goals
      obtain ⟨hB, _⟩ := ‹Below w1.heap.size _ _ ∧ _›
      exact ⟨_, _, rfl, rfl, by simp [go_sem, *], by simp [go_sem, *], by simp [go_sem, *], by simp [go_sem, *], below_keep hB c5, below_keep hB c6, below_keep hB c7, below_keep hB c8, below_step H1.out hB⟩
  case rest =>
    obtain ⟨b5, b6, rfl, rfl, q0, q1, q2, q3, p0, p1, p2, p3, hB⟩ := hcut
    have HB := Lib.hid hB
    have h := clockDraft_ok a b
    have h' := clockDraft_ok a' b'
    clear hB z1 c1 c2 c3 c4 c5 c6 c7 c8 H1
    generalize a.tmod 1099511627777 = O at *
    generalize b.tmod 200001 = P at *
    generalize a'.tmod 1099511627777 = O' at *
    generalize b'.tmod 200001 = P' at *
    have ks : Spn t d u := ⟨⟨by omega, by omega⟩, ⟨by omega, by omega⟩, ⟨by omega, by omega⟩, by omega⟩
    have hm : MtOk O P O' P' t d u := ⟨h, h', ks⟩
    have m1 : Hid (mt1 O P O' P' t d u = locV O P t) := if_pos hm
    have m2 : Hid (mt2 O P O' P' t d u = locV O' P' (t + d)) := if_pos hm
    have m3 : Hid (mt3 O P O' P' t d u = locV O' P' (t + d + u)) := if_pos hm
    have m4 : Hid (mt4 O P O' P' t d u = locV O P (t + 2 * d + u)) := if_pos hm
    have m5 : Hid (mtE O P O' P' t d u = 0) := by show mtE _ _ _ _ _ _ _ = 0; unfold mtE; rw [if_pos h, if_pos h', if_pos ks]
    have v1 := loc_bd h (show Tick t from ⟨by omega, by omega⟩)
    have v2 := loc_bd h' (show Tick (t + d) from ⟨by omega, by omega⟩)
    have v3 := loc_bd h' (show Tick (t + d + u) from ⟨by omega, by omega⟩)
    have v4 := loc_bd h (show Tick (t + 2 * d + u) from ⟨by omega, by omega⟩)
    have v5 := loc_mono (O := O) (P := P) (x := t) (y := t + 2 * d + u) h.2.2.1 (by omega)
    have v6 := loc_mono (O := O') (P := P') (x := t + d) (y := t + d + u) h'.2.2.1 (by omega)
    obtain ⟨_, _, pa, pb⟩ := id h
    obtain ⟨_, _, pc, pd⟩ := id h'

    have ks2 : Spn (t + g) d u := ⟨⟨by omega, by omega⟩, ⟨by omega, by omega⟩, ⟨by omega, by omega⟩, by omega⟩
    have hn : MtOk O P O' P' (t + g) d u := ⟨h, h', ks2⟩
    have n1 : Hid (mt1 O P O' P' (t + g) d u = locV O P (t + g)) := if_pos hn
    have n2 : Hid (mt2 O P O' P' (t + g) d u = locV O' P' (t + g + d)) := if_pos hn
    have n3 : Hid (mt3 O P O' P' (t + g) d u = locV O' P' (t + g + d + u)) := if_pos hn
    have n4 : Hid (mt4 O P O' P' (t + g) d u = locV O P (t + g + 2 * d + u)) := if_pos hn
    have n5 : Hid (mtE O P O' P' (t + g) d u = 0) := by show mtE _ _ _ _ _ _ _ = 0; unfold mtE; rw [if_pos h, if_pos h', if_pos ks2]
    have f1 := loc_bd h (show Tick (t + g) from ⟨by omega, by omega⟩)
    have f2 := loc_bd h' (show Tick (t + g + d) from ⟨by omega, by omega⟩)
    have f3 := loc_bd h' (show Tick (t + g + d + u) from ⟨by omega, by omega⟩)
    have f4 := loc_bd h (show Tick (t + g + 2 * d + u) from ⟨by omega, by omega⟩)
    have f5 := loc_mono (O := O) (P := P) (x := t + g) (y := t + g + 2 * d + u) h.2.2.1 (by omega)
    have f6 := loc_mono (O := O') (P := P') (x := t + g + d) (y := t + g + d + u) h'.2.2.1 (by omega)
    have y1 := loc_mono (O := O) (P := P) (x := t + 2 * d + u) (y := t + g + 2 * d + u) h.2.2.1 (by omega)
    have HR := Lib.hid (fun k => rates_plain (t := t + 2 * d + u) (g := g) g0 pa pb pc pd (locV O P (t + g + 2 * d + u) - locV O P (t + 2 * d + u)) (locV O' P' (t + g + d + u) - locV O' P' (t + d + u))
      (by rw [show t + g + 2 * d + u = t + 2 * d + u + g by omega]; unfold locV; omega) (t + d + u) (by rw [show t + g + d + u = t + d + u + g by omega]; unfold locV; omega) k)
    clear hm hn ks ks2 h h'
    go_wp2_with fail
    refine (meet_any O P O' P' t d u _).mono ?_
    rw [m1.out, m2.out, m3.out, m4.out, m5.out]
    rintro y w2 ⟨rfl, hb2⟩
    have c9 : w2.cell? ⟨b5, 0, none⟩ = some (.int .i64 O) := below_keep hb2 (q0)
    have c10 : w2.cell? ⟨b5, 1, none⟩ = some (.int .i64 P) := below_keep hb2 (q1)
    have c11 : w2.cell? ⟨b6, 0, none⟩ = some (.int .i64 O') := below_keep hb2 (q2)
    have c12 : w2.cell? ⟨b6, 1, none⟩ = some (.int .i64 P') := below_keep hb2 (q3)
    have c13 : w2.cell? ⟨w.heap.size + 1, 0, none⟩ = some (.int .u32 t) := below_keep hb2 (p0)
    have c14 : w2.cell? ⟨w.heap.size + 1, 1, none⟩ = some (.int .u32 d) := below_keep hb2 (p1)
    have c15 : w2.cell? ⟨w.heap.size + 1, 2, none⟩ = some (.int .u32 u) := below_keep hb2 (p2)
    have c16 : w2.cell? ⟨w.heap.size + 1, 3, none⟩ = some (.int .u32 g) := below_keep hb2 (p3)
    have H2 := Lib.hid (below_step (HB.out) hb2)
    clear hb2 q0 q1 q2 q3 p0 p1 p2 p3 HB
    have hz17 : b5 < w2.heap.size := World.block_lt_of_cell? _ _ c9
    have hz18 : b6 < w2.heap.size := World.block_lt_of_cell? _ _ c11
    have hz19 : w.heap.size + 1 < w2.heap.size := World.block_lt_of_cell? _ _ c13
    go_wp2_with fail
    refine (meet_any O P O' P' (t + g) d u _).mono ?_
    rw [n1.out, n2.out, n3.out, n4.out, n5.out]
    rintro y w3 ⟨rfl, hb3⟩
    have c20 : w3.cell? ⟨b5, 0, none⟩ = some (.int .i64 O) := below_keep hb3 (by rw [World.cell?_alloc_lt _ _ _ (by first | exact World.block_lt_of_cell? _ _ c9 | (have := World.block_lt_of_cell? _ _ c9; simp; omega))]; exact c9)
    have c21 : w3.cell? ⟨b5, 1, none⟩ = some (.int .i64 P) := below_keep hb3 (by rw [World.cell?_alloc_lt _ _ _ (by first | exact World.block_lt_of_cell? _ _ c10 | (have := World.block_lt_of_cell? _ _ c10; simp; omega))]; exact c10)
    have c22 : w3.cell? ⟨b6, 0, none⟩ = some (.int .i64 O') := below_keep hb3 (by rw [World.cell?_alloc_lt _ _ _ (by first | exact World.block_lt_of_cell? _ _ c11 | (have := World.block_lt_of_cell? _ _ c11; simp; omega))]; exact c11)
    have c23 : w3.cell? ⟨b6, 1, none⟩ = some (.int .i64 P') := below_keep hb3 (by rw [World.cell?_alloc_lt _ _ _ (by first | exact World.block_lt_of_cell? _ _ c12 | (have := World.block_lt_of_cell? _ _ c12; simp; omega))]; exact c12)
    have c24 : w3.cell? ⟨w.heap.size + 1, 0, none⟩ = some (.int .u32 t) := below_keep hb3 (by rw [World.cell?_alloc_lt _ _ _ (by first | exact World.block_lt_of_cell? _ _ c13 | (have := World.block_lt_of_cell? _ _ c13; simp; omega))]; exact c13)
    have c25 : w3.cell? ⟨w.heap.size + 1, 1, none⟩ = some (.int .u32 d) := below_keep hb3 (by rw [World.cell?_alloc_lt _ _ _ (by first | exact World.block_lt_of_cell? _ _ c14 | (have := World.block_lt_of_cell? _ _ c14; simp; omega))]; exact c14)
    have c26 : w3.cell? ⟨w.heap.size + 1, 2, none⟩ = some (.int .u32 u) := below_keep hb3 (by rw [World.cell?_alloc_lt _ _ _ (by first | exact World.block_lt_of_cell? _ _ c15 | (have := World.block_lt_of_cell? _ _ c15; simp; omega))]; exact c15)
    have c27 : w3.cell? ⟨w.heap.size + 1, 3, none⟩ = some (.int .u32 g) := below_keep hb3 (by rw [World.cell?_alloc_lt _ _ _ (by first | exact World.block_lt_of_cell? _ _ c16 | (have := World.block_lt_of_cell? _ _ c16; simp; omega))]; exact c16)
    have c28 : w3.cell? ⟨w2.heap.size, 0, none⟩ = some (.int .i64 (locV O P t)) := below_keep hb3 (by simp [go_sem])
    have c29 : w3.cell? ⟨w2.heap.size, 1, none⟩ = some (.int .i64 (locV O' P' (t + d))) := below_keep hb3 (by simp [go_sem])
    have c30 : w3.cell? ⟨w2.heap.size, 2, none⟩ = some (.int .i64 (locV O' P' (t + d + u))) := below_keep hb3 (by simp [go_sem])
    have c31 : w3.cell? ⟨w2.heap.size, 3, none⟩ = some (.int .i64 (locV O P (t + 2 * d + u))) := below_keep hb3 (by simp [go_sem])
    have H3 := Lib.hid (below_step (below_alloc (H2.out) _) hb3)
    clear hb3 c9 c10 c11 c12 c13 c14 c15 c16 H2 hz17 hz18 hz19
    clear m1 m2 m3 m4 m5 n1 n2 n3 n4 n5
    generalize locV O P t = T1 at *
    generalize locV O' P' (t + d) = T2 at *
    generalize locV O' P' (t + d + u) = T3 at *
    generalize locV O P (t + 2 * d + u) = T4 at *
    generalize locV O P (t + g) = U1 at *
    generalize locV O' P' (t + g + d) = U2 at *
    generalize locV O' P' (t + g + d + u) = U3 at *
    generalize locV O P (t + g + 2 * d + u) = U4 at *
    have ho : OkX T1 T2 T3 T4 ∧ OkX U1 U2 U3 U4 := ⟨⟨by omega, by omega, by omega, by omega, v5, v6⟩, ⟨by omega, by omega, by omega, by omega, f5, f6⟩⟩
    have y2 : U4 - T4 ≤ 4398046511104 := by omega
    have hcase : (U4 - T4 < 1 ∧ Hid (rtV (OkX T1 T2 T3 T4 ∧ OkX U1 U2 U3 U4) (U4 - T4) (U3 - T3) = 0) ∧ Hid (rtE (OkX T1 T2 T3 T4 ∧ OkX U1 U2 U3 U4) (U4 - T4) (U3 - T3) = 2)) ∨
        (1 ≤ U4 - T4 ∧ ∃ r, Hid (rtV (OkX T1 T2 T3 T4 ∧ OkX U1 U2 U3 U4) (U4 - T4) (U3 - T3) = r) ∧ Hid (rtE (OkX T1 T2 T3 T4 ∧ OkX U1 U2 U3 U4) (U4 - T4) (U3 - T3) = 0) ∧ -8388608 ≤ r ∧ r ≤ 8388608 ∧ P' - P - rbV (U4 - T4) ≤ r ∧ r ≤ P' - P + rbV (U4 - T4)) ∨
        (1 ≤ U4 - T4 ∧ Hid (rtV (OkX T1 T2 T3 T4 ∧ OkX U1 U2 U3 U4) (U4 - T4) (U3 - T3) = 0) ∧ Hid (rtE (OkX T1 T2 T3 T4 ∧ OkX U1 U2 U3 U4) (U4 - T4) (U3 - T3) = 6) ∧ 8388608 < rbV (U4 - T4) + 400000) := by
      by_cases hy : 1 ≤ U4 - T4
      · obtain ⟨r1, r2⟩ := HR.out hy
        by_cases hr : -8388608 ≤ rq (U4 - T4) (U3 - T3) ∧ rq (U4 - T4) (U3 - T3) ≤ 8388608
        · refine .inr (.inl ⟨hy, rq (U4 - T4) (U3 - T3), ?_, ?_, hr.1, hr.2, r1, r2⟩)
          · show rtV _ _ _ = _
            unfold rtV; rw [if_pos ho, if_pos hy, if_pos hr]
          · show rtE _ _ _ = _
            unfold rtE; rw [if_pos ho, if_pos hy, if_pos hr]
        · refine .inr (.inr ⟨hy, ?_, ?_, by omega⟩)
          · show rtV _ _ _ = _
            unfold rtV; rw [if_pos ho, if_pos hy, if_neg hr]
          · show rtE _ _ _ = _
            unfold rtE; rw [if_pos ho, if_pos hy, if_neg hr]
      · refine .inl ⟨by omega, ?_, ?_⟩
        · show rtV _ _ _ = _
          unfold rtV; rw [if_pos ho, if_neg hy]
        · show rtE _ _ _ = _
          unfold rtE; rw [if_pos ho, if_neg hy]
    clear ho HR v5 v6 f5 f6
    have hz32 : b5 < w3.heap.size := World.block_lt_of_cell? _ _ c20
    have hz33 : b6 < w3.heap.size := World.block_lt_of_cell? _ _ c22
    have hz34 : w.heap.size + 1 < w3.heap.size := World.block_lt_of_cell? _ _ c24
    have hz35 : w2.heap.size < w3.heap.size := World.block_lt_of_cell? _ _ c28
    rcases hcase with ⟨hy, E1, E2⟩ | ⟨hy, r, E1, E2, r0, r1, r2, r3⟩ | ⟨hy, E1, E2, r4⟩
    · have hx := hy
      clear hx
      go_wp2_with fail
      refine (ratio_any T1 T2 T3 T4 U1 U2 U3 U4 _).mono ?_
      unfold RtPost
      rw [E1.out, E2.out]
      rintro y w4 ⟨rfl, hb4⟩
      have c36 : w4.cell? ⟨b5, 0, none⟩ = some (.int .i64 O) := below_keep hb4 (by rw [World.cell?_alloc_lt _ _ _ (by first | exact World.block_lt_of_cell? _ _ c20 | (have := World.block_lt_of_cell? _ _ c20; simp; omega))]; exact c20)
      have c37 : w4.cell? ⟨b5, 1, none⟩ = some (.int .i64 P) := below_keep hb4 (by rw [World.cell?_alloc_lt _ _ _ (by first | exact World.block_lt_of_cell? _ _ c21 | (have := World.block_lt_of_cell? _ _ c21; simp; omega))]; exact c21)
      have c38 : w4.cell? ⟨b6, 0, none⟩ = some (.int .i64 O') := below_keep hb4 (by rw [World.cell?_alloc_lt _ _ _ (by first | exact World.block_lt_of_cell? _ _ c22 | (have := World.block_lt_of_cell? _ _ c22; simp; omega))]; exact c22)
      have c39 : w4.cell? ⟨b6, 1, none⟩ = some (.int .i64 P') := below_keep hb4 (by rw [World.cell?_alloc_lt _ _ _ (by first | exact World.block_lt_of_cell? _ _ c23 | (have := World.block_lt_of_cell? _ _ c23; simp; omega))]; exact c23)
      have c40 : w4.cell? ⟨w.heap.size + 1, 0, none⟩ = some (.int .u32 t) := below_keep hb4 (by rw [World.cell?_alloc_lt _ _ _ (by first | exact World.block_lt_of_cell? _ _ c24 | (have := World.block_lt_of_cell? _ _ c24; simp; omega))]; exact c24)
      have c41 : w4.cell? ⟨w.heap.size + 1, 1, none⟩ = some (.int .u32 d) := below_keep hb4 (by rw [World.cell?_alloc_lt _ _ _ (by first | exact World.block_lt_of_cell? _ _ c25 | (have := World.block_lt_of_cell? _ _ c25; simp; omega))]; exact c25)
      have c42 : w4.cell? ⟨w.heap.size + 1, 2, none⟩ = some (.int .u32 u) := below_keep hb4 (by rw [World.cell?_alloc_lt _ _ _ (by first | exact World.block_lt_of_cell? _ _ c26 | (have := World.block_lt_of_cell? _ _ c26; simp; omega))]; exact c26)
      have c43 : w4.cell? ⟨w.heap.size + 1, 3, none⟩ = some (.int .u32 g) := below_keep hb4 (by rw [World.cell?_alloc_lt _ _ _ (by first | exact World.block_lt_of_cell? _ _ c27 | (have := World.block_lt_of_cell? _ _ c27; simp; omega))]; exact c27)
      have c44 : w4.cell? ⟨w2.heap.size, 0, none⟩ = some (.int .i64 T1) := below_keep hb4 (by rw [World.cell?_alloc_lt _ _ _ (by first | exact World.block_lt_of_cell? _ _ c28 | (have := World.block_lt_of_cell? _ _ c28; simp; omega))]; exact c28)
      have c45 : w4.cell? ⟨w2.heap.size, 1, none⟩ = some (.int .i64 T2) := below_keep hb4 (by rw [World.cell?_alloc_lt _ _ _ (by first | exact World.block_lt_of_cell? _ _ c29 | (have := World.block_lt_of_cell? _ _ c29; simp; omega))]; exact c29)
      have c46 : w4.cell? ⟨w2.heap.size, 2, none⟩ = some (.int .i64 T3) := below_keep hb4 (by rw [World.cell?_alloc_lt _ _ _ (by first | exact World.block_lt_of_cell? _ _ c30 | (have := World.block_lt_of_cell? _ _ c30; simp; omega))]; exact c30)
      have c47 : w4.cell? ⟨w2.heap.size, 3, none⟩ = some (.int .i64 T4) := below_keep hb4 (by rw [World.cell?_alloc_lt _ _ _ (by first | exact World.block_lt_of_cell? _ _ c31 | (have := World.block_lt_of_cell? _ _ c31; simp; omega))]; exact c31)
      have c48 : w4.cell? ⟨w3.heap.size, 0, none⟩ = some (.int .i64 U1) := below_keep hb4 (by simp [go_sem])
      have c49 : w4.cell? ⟨w3.heap.size, 1, none⟩ = some (.int .i64 U2) := below_keep hb4 (by simp [go_sem])
      have c50 : w4.cell? ⟨w3.heap.size, 2, none⟩ = some (.int .i64 U3) := below_keep hb4 (by simp [go_sem])
      have c51 : w4.cell? ⟨w3.heap.size, 3, none⟩ = some (.int .i64 U4) := below_keep hb4 (by simp [go_sem])
      have H4 := Lib.hid (below_step (below_alloc (H3.out) _) hb4)
      clear hb4 c20 c21 c22 c23 c24 c25 c26 c27 c28 c29 c30 c31 H3 hz32 hz33 hz34 hz35
      go_wp2
      go_ret
      exact ⟨rfl, H4.out⟩
    · have hx := hy
      clear hx
      go_wp2_with fail
      refine (ratio_any T1 T2 T3 T4 U1 U2 U3 U4 _).mono ?_
      unfold RtPost
      rw [E1.out, E2.out]
      rintro y w4 ⟨rfl, hb4⟩
      have c36 : w4.cell? ⟨b5, 0, none⟩ = some (.int .i64 O) := below_keep hb4 (by rw [World.cell?_alloc_lt _ _ _ (by first | exact World.block_lt_of_cell? _ _ c20 | (have := World.block_lt_of_cell? _ _ c20; simp; omega))]; exact c20)
      have c37 : w4.cell? ⟨b5, 1, none⟩ = some (.int .i64 P) := below_keep hb4 (by rw [World.cell?_alloc_lt _ _ _ (by first | exact World.block_lt_of_cell? _ _ c21 | (have := World.block_lt_of_cell? _ _ c21; simp; omega))]; exact c21)
      have c38 : w4.cell? ⟨b6, 0, none⟩ = some (.int .i64 O') := below_keep hb4 (by rw [World.cell?_alloc_lt _ _ _ (by first | exact World.block_lt_of_cell? _ _ c22 | (have := World.block_lt_of_cell? _ _ c22; simp; omega))]; exact c22)
      have c39 : w4.cell? ⟨b6, 1, none⟩ = some (.int .i64 P') := below_keep hb4 (by rw [World.cell?_alloc_lt _ _ _ (by first | exact World.block_lt_of_cell? _ _ c23 | (have := World.block_lt_of_cell? _ _ c23; simp; omega))]; exact c23)
      have c40 : w4.cell? ⟨w.heap.size + 1, 0, none⟩ = some (.int .u32 t) := below_keep hb4 (by rw [World.cell?_alloc_lt _ _ _ (by first | exact World.block_lt_of_cell? _ _ c24 | (have := World.block_lt_of_cell? _ _ c24; simp; omega))]; exact c24)
      have c41 : w4.cell? ⟨w.heap.size + 1, 1, none⟩ = some (.int .u32 d) := below_keep hb4 (by rw [World.cell?_alloc_lt _ _ _ (by first | exact World.block_lt_of_cell? _ _ c25 | (have := World.block_lt_of_cell? _ _ c25; simp; omega))]; exact c25)
      have c42 : w4.cell? ⟨w.heap.size + 1, 2, none⟩ = some (.int .u32 u) := below_keep hb4 (by rw [World.cell?_alloc_lt _ _ _ (by first | exact World.block_lt_of_cell? _ _ c26 | (have := World.block_lt_of_cell? _ _ c26; simp; omega))]; exact c26)
      have c43 : w4.cell? ⟨w.heap.size + 1, 3, none⟩ = some (.int .u32 g) := below_keep hb4 (by rw [World.cell?_alloc_lt _ _ _ (by first | exact World.block_lt_of_cell? _ _ c27 | (have := World.block_lt_of_cell? _ _ c27; simp; omega))]; exact c27)
      have c44 : w4.cell? ⟨w2.heap.size, 0, none⟩ = some (.int .i64 T1) := below_keep hb4 (by rw [World.cell?_alloc_lt _ _ _ (by first | exact World.block_lt_of_cell? _ _ c28 | (have := World.block_lt_of_cell? _ _ c28; simp; omega))]; exact c28)
      have c45 : w4.cell? ⟨w2.heap.size, 1, none⟩ = some (.int .i64 T2) := below_keep hb4 (by rw [World.cell?_alloc_lt _ _ _ (by first | exact World.block_lt_of_cell? _ _ c29 | (have := World.block_lt_of_cell? _ _ c29; simp; omega))]; exact c29)
      have c46 : w4.cell? ⟨w2.heap.size, 2, none⟩ = some (.int .i64 T3) := below_keep hb4 (by rw [World.cell?_alloc_lt _ _ _ (by first | exact World.block_lt_of_cell? _ _ c30 | (have := World.block_lt_of_cell? _ _ c30; simp; omega))]; exact c30)
      have c47 : w4.cell? ⟨w2.heap.size, 3, none⟩ = some (.int .i64 T4) := below_keep hb4 (by rw [World.cell?_alloc_lt _ _ _ (by first | exact World.block_lt_of_cell? _ _ c31 | (have := World.block_lt_of_cell? _ _ c31; simp; omega))]; exact c31)
      have c48 : w4.cell? ⟨w3.heap.size, 0, none⟩ = some (.int .i64 U1) := below_keep hb4 (by simp [go_sem])
      have c49 : w4.cell? ⟨w3.heap.size, 1, none⟩ = some (.int .i64 U2) := below_keep hb4 (by simp [go_sem])
      have c50 : w4.cell? ⟨w3.heap.size, 2, none⟩ = some (.int .i64 U3) := below_keep hb4 (by simp [go_sem])
      have c51 : w4.cell? ⟨w3.heap.size, 3, none⟩ = some (.int .i64 U4) := below_keep hb4 (by simp [go_sem])
      have H4 := Lib.hid (below_step (below_alloc (H3.out) _) hb4)
      clear hb4 c20 c21 c22 c23 c24 c25 c26 c27 c28 c29 c30 c31 H3 hz32 hz33 hz34 hz35
      have HB2 := Lib.hid (rb_bd (U4 - T4) hy)
      go_wp2_with fail
      refine (ratioBound_ok (U4 - T4) ⟨hy, y2⟩ _).mono ?_
      rintro y w5 ⟨rfl, hb5⟩
      have c52 : w5.cell? ⟨b5, 0, none⟩ = some (.int .i64 O) := below_keep hb5 (c36)
      have c53 : w5.cell? ⟨b5, 1, none⟩ = some (.int .i64 P) := below_keep hb5 (c37)
      have c54 : w5.cell? ⟨b6, 0, none⟩ = some (.int .i64 O') := below_keep hb5 (c38)
      have c55 : w5.cell? ⟨b6, 1, none⟩ = some (.int .i64 P') := below_keep hb5 (c39)
      have c56 : w5.cell? ⟨w.heap.size + 1, 0, none⟩ = some (.int .u32 t) := below_keep hb5 (c40)
      have c57 : w5.cell? ⟨w.heap.size + 1, 1, none⟩ = some (.int .u32 d) := below_keep hb5 (c41)
      have c58 : w5.cell? ⟨w.heap.size + 1, 2, none⟩ = some (.int .u32 u) := below_keep hb5 (c42)
      have c59 : w5.cell? ⟨w.heap.size + 1, 3, none⟩ = some (.int .u32 g) := below_keep hb5 (c43)
      have c60 : w5.cell? ⟨w2.heap.size, 0, none⟩ = some (.int .i64 T1) := below_keep hb5 (c44)
      have c61 : w5.cell? ⟨w2.heap.size, 1, none⟩ = some (.int .i64 T2) := below_keep hb5 (c45)
      have c62 : w5.cell? ⟨w2.heap.size, 2, none⟩ = some (.int .i64 T3) := below_keep hb5 (c46)
      have c63 : w5.cell? ⟨w2.heap.size, 3, none⟩ = some (.int .i64 T4) := below_keep hb5 (c47)
      have c64 : w5.cell? ⟨w3.heap.size, 0, none⟩ = some (.int .i64 U1) := below_keep hb5 (c48)
      have c65 : w5.cell? ⟨w3.heap.size, 1, none⟩ = some (.int .i64 U2) := below_keep hb5 (c49)
      have c66 : w5.cell? ⟨w3.heap.size, 2, none⟩ = some (.int .i64 U3) := below_keep hb5 (c50)
      have c67 : w5.cell? ⟨w3.heap.size, 3, none⟩ = some (.int .i64 U4) := below_keep hb5 (c51)
      have H5 := Lib.hid (below_step (H4.out) hb5)
      clear hb5 c36 c37 c38 c39 c40 c41 c42 c43 c44 c45 c46 c47 c48 c49 c50 c51 H4
      obtain ⟨j1, j2⟩ := HB2.out
      generalize rbV (U4 - T4) = m at *
      clear HB2
      go_wp2
      go_ret
      exact ⟨ret_bool (by first | rfl | (simp; omega)), H5.out⟩
    · have hx := hy
      clear hx
      go_wp2_with fail
      refine (ratio_any T1 T2 T3 T4 U1 U2 U3 U4 _).mono ?_
      unfold RtPost
      rw [E1.out, E2.out]
      rintro y w4 ⟨rfl, hb4⟩
      have c36 : w4.cell? ⟨b5, 0, none⟩ = some (.int .i64 O) := below_keep hb4 (by rw [World.cell?_alloc_lt _ _ _ (by first | exact World.block_lt_of_cell? _ _ c20 | (have := World.block_lt_of_cell? _ _ c20; simp; omega))]; exact c20)
      have c37 : w4.cell? ⟨b5, 1, none⟩ = some (.int .i64 P) := below_keep hb4 (by rw [World.cell?_alloc_lt _ _ _ (by first | exact World.block_lt_of_cell? _ _ c21 | (have := World.block_lt_of_cell? _ _ c21; simp; omega))]; exact c21)
      have c38 : w4.cell? ⟨b6, 0, none⟩ = some (.int .i64 O') := below_keep hb4 (by rw [World.cell?_alloc_lt _ _ _ (by first | exact World.block_lt_of_cell? _ _ c22 | (have := World.block_lt_of_cell? _ _ c22; simp; omega))]; exact c22)
      have c39 : w4.cell? ⟨b6, 1, none⟩ = some (.int .i64 P') := below_keep hb4 (by rw [World.cell?_alloc_lt _ _ _ (by first | exact World.block_lt_of_cell? _ _ c23 | (have := World.block_lt_of_cell? _ _ c23; simp; omega))]; exact c23)
      have c40 : w4.cell? ⟨w.heap.size + 1, 0, none⟩ = some (.int .u32 t) := below_keep hb4 (by rw [World.cell?_alloc_lt _ _ _ (by first | exact World.block_lt_of_cell? _ _ c24 | (have := World.block_lt_of_cell? _ _ c24; simp; omega))]; exact c24)
      have c41 : w4.cell? ⟨w.heap.size + 1, 1, none⟩ = some (.int .u32 d) := below_keep hb4 (by rw [World.cell?_alloc_lt _ _ _ (by first | exact World.block_lt_of_cell? _ _ c25 | (have := World.block_lt_of_cell? _ _ c25; simp; omega))]; exact c25)
      have c42 : w4.cell? ⟨w.heap.size + 1, 2, none⟩ = some (.int .u32 u) := below_keep hb4 (by rw [World.cell?_alloc_lt _ _ _ (by first | exact World.block_lt_of_cell? _ _ c26 | (have := World.block_lt_of_cell? _ _ c26; simp; omega))]; exact c26)
      have c43 : w4.cell? ⟨w.heap.size + 1, 3, none⟩ = some (.int .u32 g) := below_keep hb4 (by rw [World.cell?_alloc_lt _ _ _ (by first | exact World.block_lt_of_cell? _ _ c27 | (have := World.block_lt_of_cell? _ _ c27; simp; omega))]; exact c27)
      have c44 : w4.cell? ⟨w2.heap.size, 0, none⟩ = some (.int .i64 T1) := below_keep hb4 (by rw [World.cell?_alloc_lt _ _ _ (by first | exact World.block_lt_of_cell? _ _ c28 | (have := World.block_lt_of_cell? _ _ c28; simp; omega))]; exact c28)
      have c45 : w4.cell? ⟨w2.heap.size, 1, none⟩ = some (.int .i64 T2) := below_keep hb4 (by rw [World.cell?_alloc_lt _ _ _ (by first | exact World.block_lt_of_cell? _ _ c29 | (have := World.block_lt_of_cell? _ _ c29; simp; omega))]; exact c29)
      have c46 : w4.cell? ⟨w2.heap.size, 2, none⟩ = some (.int .i64 T3) := below_keep hb4 (by rw [World.cell?_alloc_lt _ _ _ (by first | exact World.block_lt_of_cell? _ _ c30 | (have := World.block_lt_of_cell? _ _ c30; simp; omega))]; exact c30)
      have c47 : w4.cell? ⟨w2.heap.size, 3, none⟩ = some (.int .i64 T4) := below_keep hb4 (by rw [World.cell?_alloc_lt _ _ _ (by first | exact World.block_lt_of_cell? _ _ c31 | (have := World.block_lt_of_cell? _ _ c31; simp; omega))]; exact c31)
      have c48 : w4.cell? ⟨w3.heap.size, 0, none⟩ = some (.int .i64 U1) := below_keep hb4 (by simp [go_sem])
      have c49 : w4.cell? ⟨w3.heap.size, 1, none⟩ = some (.int .i64 U2) := below_keep hb4 (by simp [go_sem])
      have c50 : w4.cell? ⟨w3.heap.size, 2, none⟩ = some (.int .i64 U3) := below_keep hb4 (by simp [go_sem])
      have c51 : w4.cell? ⟨w3.heap.size, 3, none⟩ = some (.int .i64 U4) := below_keep hb4 (by simp [go_sem])
      have H4 := Lib.hid (below_step (below_alloc (H3.out) _) hb4)
      clear hb4 c20 c21 c22 c23 c24 c25 c26 c27 c28 c29 c30 c31 H3 hz32 hz33 hz34 hz35
      have HB2 := Lib.hid (rb_bd (U4 - T4) hy)
      go_wp2_with fail
      refine (ratioBound_ok (U4 - T4) ⟨hy, y2⟩ _).mono ?_
      rintro y w5 ⟨rfl, hb5⟩
      have c52 : w5.cell? ⟨b5, 0, none⟩ = some (.int .i64 O) := below_keep hb5 (c36)
      have c53 : w5.cell? ⟨b5, 1, none⟩ = some (.int .i64 P) := below_keep hb5 (c37)
      have c54 : w5.cell? ⟨b6, 0, none⟩ = some (.int .i64 O') := below_keep hb5 (c38)
      have c55 : w5.cell? ⟨b6, 1, none⟩ = some (.int .i64 P') := below_keep hb5 (c39)
      have c56 : w5.cell? ⟨w.heap.size + 1, 0, none⟩ = some (.int .u32 t) := below_keep hb5 (c40)
      have c57 : w5.cell? ⟨w.heap.size + 1, 1, none⟩ = some (.int .u32 d) := below_keep hb5 (c41)
      have c58 : w5.cell? ⟨w.heap.size + 1, 2, none⟩ = some (.int .u32 u) := below_keep hb5 (c42)
      have c59 : w5.cell? ⟨w.heap.size + 1, 3, none⟩ = some (.int .u32 g) := below_keep hb5 (c43)
      have c60 : w5.cell? ⟨w2.heap.size, 0, none⟩ = some (.int .i64 T1) := below_keep hb5 (c44)
      have c61 : w5.cell? ⟨w2.heap.size, 1, none⟩ = some (.int .i64 T2) := below_keep hb5 (c45)
      have c62 : w5.cell? ⟨w2.heap.size, 2, none⟩ = some (.int .i64 T3) := below_keep hb5 (c46)
      have c63 : w5.cell? ⟨w2.heap.size, 3, none⟩ = some (.int .i64 T4) := below_keep hb5 (c47)
      have c64 : w5.cell? ⟨w3.heap.size, 0, none⟩ = some (.int .i64 U1) := below_keep hb5 (c48)
      have c65 : w5.cell? ⟨w3.heap.size, 1, none⟩ = some (.int .i64 U2) := below_keep hb5 (c49)
      have c66 : w5.cell? ⟨w3.heap.size, 2, none⟩ = some (.int .i64 U3) := below_keep hb5 (c50)
      have c67 : w5.cell? ⟨w3.heap.size, 3, none⟩ = some (.int .i64 U4) := below_keep hb5 (c51)
      have H5 := Lib.hid (below_step (H4.out) hb5)
      clear hb5 c36 c37 c38 c39 c40 c41 c42 c43 c44 c45 c46 c47 c48 c49 c50 c51 H4
      obtain ⟨j1, j2⟩ := HB2.out
      generalize rbV (U4 - T4) = m at *
      clear HB2
      go_wp2
      go_ret
      exact ⟨ret_bool (by first | rfl | (simp; omega)), H5.out⟩

theorem delayRates_walk (a b a' b' t d u g : Int) (h : (0 ≤ t ∧ t ≤ 4294967295) ∧ (0 ≤ d ∧ d ≤ 4294967295) ∧ (0 ≤ u ∧ u ≤ 4294967295) ∧ (0 ≤ g ∧ g ≤ 4294967295)) (w : World) : Calls Try.prog 8 #[.agg #[.int .i64 a, .int .i32 b, .int .i64 a', .int .i32 b'], .agg #[.int .u32 t, .int .u32 d, .int .u32 u, .int .u32 g]] w fun y w' => y = .returned (.bool true) ∧ Below w.heap.size w w' :=
  delayRates_core a b a' b' t d u g h.1.1 h.1.2 h.2.1.1 h.2.1.2 h.2.2.1.1 h.2.2.1.2 h.2.2.2.1 h.2.2.2.2 w

set_option maxRecDepth 100000 in
theorem delayRates_lifted (os : Os) (started : os.Started) (H : Type) (enc : TypeId × Value → H) :
    ReturnsInHanded {} Try.checked os 8 .any (Rows.delayRatesSpec.pre6 enc Try.prog Try.f8 [] false) (Rows.delayRatesSpec.post enc Try.prog Try.f8 false true false false) := by
  refine law_lifted started Try.func8 (by kernel_rfl)
    (ChangeSpec.witness6 (enc := enc) (C := Try.checked) false ⟨#[], #[.agg #[.int .i64 0, .int .i32 0, .int .i64 0, .int .i32 0], .agg #[.int .u32 0, .int .u32 0, .int .u32 0, .int .u32 0]], []⟩ 8 (by kernel_rfl) (by kernel_rfl) (by kernel_rfl) (by kernel_rfl))
    rfl (by kernel_rfl) (by kernel_rfl) (fun ds hd => ?_) ?_
  · rw [Try.params8] at hd
    match ds, hd with
    | [_, _], _ => exact ⟨rfl, rfl, rfl⟩
  · intro W base args ds p hval hA
    rw [Try.params8] at hA hval
    obtain ⟨v0, vs0, d0, ds0, p0, q0, ha0, rfl, rfl, h0, r0⟩ := trodAll_cons hA
    obtain ⟨v1, vs1, d1, ds1, p1, q1, ha1, rfl, rfl, h1, r1⟩ := trodAll_cons r0
    obtain ⟨hz, rfl, rfl⟩ := trodAll_nil r1
    obtain rfl : args = #[v0, v1] := by
      subst hz
      subst ha1
      cases args; simpa using ha0
    obtain ⟨x0_0, x0_1, x0_2, x0_3, rfl⟩ := open_draft09s (hval 0 40 v0 rfl rfl) h0
    obtain ⟨x1_0, x1_1, x1_2, x1_3, rfl, w1⟩ := open_span (hval 1 56 v1 rfl rfl) h1
    exact delayRates_walk x0_0 x0_1 x0_2 x0_3 x1_0 x1_1 x1_2 x1_3 w1 W

theorem delayRates_holds : Rows.DelayRatesSaid :=
  OpenClaim.holds_of_wide 8 Try.f8 rfl rfl rfl rfl rfl rfl rfl ⟨rfl, rfl, rfl, rfl, rfl⟩ rfl rfl rfl rfl rfl (by kernel_rfl) Try.func8 (by kernel_rfl)
    (of_decide_eq_true (by kernel_rfl)) (by unfold Func.isWrapper; first | (rw [if_pos (by decide +kernel)]; kernel_rfl) | (rw [if_neg (by decide +kernel)]; exact ⟨rfl, rfl⟩))
    (fun os started H enc _ => delayRates_lifted os started H enc)
#print axioms delayRates_holds

end Go.Proofs.Ytpbolnieclbdmaa
