/-
  ServoHolds: for every input the law returns true, and its arguments read as before. No conditions.
-/
import Derived.Test.YtakbopkiemlfdaaServoWorks
import Derived.Test.YtakbopkiemlfdaaClock
import Derived.Test.YtakbopkiemlfdaaHoldsPlain
import Derived.Test.YtakbopkiemlfdaaOpenDrafts
import Derived.Test.YtakbopkiemlfdaaOpenSince
import Derived.Test.YtakbopkiemlfdaaOpen13
import Derived.Deep.RegionHeld3
import Derived.Deep.DeepCutAuto
import Derived.Lib.QuietBelow
import Derived.BigQuiet
namespace Go.Proofs.Ytakbopkiemlfdaa
open Go.RowKit Go.Lib Plain
open Go.ChangeShapes Go.WideShapes Go.ChangeAt

theorem bk0 {W w1 : World} (hb : Below W.heap.size W w1) : (∀ b o, b < W.heap.size → w1.cell? ⟨b, o, none⟩ = W.cell? ⟨b, o, none⟩) ∧ (∀ b o, b < W.heap.size → w1.frozen? ⟨b, o, none⟩ = W.frozen? ⟨b, o, none⟩) ∧
    (∀ b, b < W.heap.size → b < w1.heap.size) ∧ (∀ b, b < W.heap.size → ¬ b = w1.heap.size) ∧ (∀ b, b < W.heap.size → ¬ w1.heap.size = b) :=
  ⟨fun b o h => hb.cell (p := ⟨b, o, none⟩) h, fun b o h => hb.frozen (p := ⟨b, o, none⟩) h, fun b h => Nat.lt_of_lt_of_le h hb.size, fun b h e => by have := hb.size; omega, fun b h e => by have := hb.size; omega⟩

/-- The same behind an alloc. -/
theorem bk1 {W w1 : World} {X : Obj} (hb : Below (W.alloc X).heap.size (W.alloc X) w1) : (∀ b o, b < W.heap.size → w1.cell? ⟨b, o, none⟩ = W.cell? ⟨b, o, none⟩) ∧ (∀ b o, b < W.heap.size → w1.frozen? ⟨b, o, none⟩ = W.frozen? ⟨b, o, none⟩) ∧
    (∀ b, b < W.heap.size → b < w1.heap.size) ∧ (∀ b, b < W.heap.size → ¬ b = w1.heap.size) ∧ (∀ b, b < W.heap.size → ¬ w1.heap.size = b) ∧
    (∀ o, w1.cell? ⟨W.heap.size, o, none⟩ = (W.alloc X).cell? ⟨W.heap.size, o, none⟩) ∧ (∀ o, w1.frozen? ⟨W.heap.size, o, none⟩ = (W.alloc X).frozen? ⟨W.heap.size, o, none⟩) ∧ W.heap.size < w1.heap.size ∧ ¬ W.heap.size = w1.heap.size ∧ ¬ w1.heap.size = W.heap.size := by
  have hs : (W.alloc X).heap.size = W.heap.size + 1 := by simp
  have hz := hb.size
  refine ⟨fun b o h => ?_, fun b o h => ?_, fun b h => by omega, fun b h => by omega, fun b h => by omega, fun o => hb.cell (p := ⟨W.heap.size, o, none⟩) (by simp), fun o => hb.frozen (p := ⟨W.heap.size, o, none⟩) (by simp), by omega, by omega, by omega⟩
  · rw [hb.cell (p := ⟨b, o, none⟩) (by show b < _; omega)]
    exact World.cell?_alloc_lt _ _ _ h
  · rw [hb.frozen (p := ⟨b, o, none⟩) (by show b < _; omega)]
    simp [go_sem, h]

/-- The same behind two. -/
theorem bk2 {W w1 : World} {X Y : Obj} (hb : Below ((W.alloc X).alloc Y).heap.size ((W.alloc X).alloc Y) w1) : (∀ b o, b < W.heap.size → w1.cell? ⟨b, o, none⟩ = W.cell? ⟨b, o, none⟩) ∧ (∀ b o, b < W.heap.size → w1.frozen? ⟨b, o, none⟩ = W.frozen? ⟨b, o, none⟩) ∧
    (∀ b, b < W.heap.size → b < w1.heap.size) ∧ (∀ b, b < W.heap.size → ¬ b = w1.heap.size) ∧ (∀ b, b < W.heap.size → ¬ w1.heap.size = b) ∧
    (∀ o, w1.cell? ⟨W.heap.size, o, none⟩ = (W.alloc X).cell? ⟨W.heap.size, o, none⟩) ∧ (∀ o, w1.frozen? ⟨W.heap.size, o, none⟩ = (W.alloc X).frozen? ⟨W.heap.size, o, none⟩) ∧ W.heap.size < w1.heap.size ∧
    (∀ o, w1.cell? ⟨W.heap.size + 1, o, none⟩ = ((W.alloc X).alloc Y).cell? ⟨W.heap.size + 1, o, none⟩) ∧ (∀ o, w1.frozen? ⟨W.heap.size + 1, o, none⟩ = ((W.alloc X).alloc Y).frozen? ⟨W.heap.size + 1, o, none⟩) ∧ W.heap.size + 1 < w1.heap.size := by
  have hs : (W.alloc X).heap.size = W.heap.size + 1 := by simp
  have hs2 : ((W.alloc X).alloc Y).heap.size = W.heap.size + 2 := by simp
  have hz := hb.size
  refine ⟨fun b o h => ?_, fun b o h => ?_, fun b h => by omega, fun b h => by omega, fun b h => by omega, fun o => ?_, fun o => ?_, by omega, fun o => hb.cell (p := ⟨W.heap.size + 1, o, none⟩) (by simp), fun o => hb.frozen (p := ⟨W.heap.size + 1, o, none⟩) (by simp), by omega⟩
  · rw [hb.cell (p := ⟨b, o, none⟩) (by show b < _; omega), World.cell?_alloc_lt _ _ _ (by show b < _; omega)]
    exact World.cell?_alloc_lt _ _ _ h
  · rw [hb.frozen (p := ⟨b, o, none⟩) (by show b < _; omega)]
    have h2 : b < W.heap.size + 1 := by omega
    simp [go_sem, h, h2]
  · rw [hb.cell (p := ⟨W.heap.size, o, none⟩) (by show W.heap.size < _; omega)]
    exact World.cell?_alloc_lt _ _ _ (by show W.heap.size < _; omega)
  · rw [hb.frozen (p := ⟨W.heap.size, o, none⟩) (by show W.heap.size < _; omega)]
    simp [go_sem]

theorem bkd {W w1 : World} (hb : Below W.drew.heap.size W.drew w1) : Below W.heap.size W w1 := ⟨hb.os, hb.tape, hb.output, hb.size, hb.block⟩

set_option maxHeartbeats 4000000 in
set_option maxRecDepth 100000 in
theorem servoHolds_core (a b a' b' t n E R : Int) (w : World) (t0 : 0 ≤ t) (t1 : t ≤ 4294967295) (n0 : 0 ≤ n) (n1 : n ≤ 4294967295) (e0 : -32768 ≤ E) (e1 : E ≤ 32767) (r0 : -32768 ≤ R) (r1 : R ≤ 32767) :
    Calls Try.prog 10 #[.agg #[.int .i64 a, .int .i32 b, .int .i64 a', .int .i32 b'], .agg #[.int .u32 t, .int .u32 n, .int .i16 E, .int .i16 R]] w fun y w' => y = .returned (.bool true) ∧ Below w.heap.size w w' := by
  go_enter Try.func10, Try.ntmps10
  go_wp2_with fail
  refine (works_any _).mono ?_
  rintro y w1 ⟨rfl, hb1⟩
  have d0 : w1.cell? ⟨w.heap.size, 0, none⟩ = some (.int .i64 a) := below_keep hb1 (by simp [go_sem])
  have d1 : w1.cell? ⟨w.heap.size, 1, none⟩ = some (.int .i32 b) := below_keep hb1 (by simp [go_sem])
  have d2 : w1.cell? ⟨w.heap.size, 2, none⟩ = some (.int .i64 a') := below_keep hb1 (by simp [go_sem])
  have d3 : w1.cell? ⟨w.heap.size, 3, none⟩ = some (.int .i32 b') := below_keep hb1 (by simp [go_sem])
  have s0 : w1.cell? ⟨w.heap.size + 1, 0, none⟩ = some (.int .u32 t) := below_keep hb1 (by simp [go_sem])
  have s1 : w1.cell? ⟨w.heap.size + 1, 1, none⟩ = some (.int .u32 n) := below_keep hb1 (by simp [go_sem])
  have s2 : w1.cell? ⟨w.heap.size + 1, 2, none⟩ = some (.int .i16 E) := below_keep hb1 (by simp [go_sem])
  have s3 : w1.cell? ⟨w.heap.size + 1, 3, none⟩ = some (.int .i16 R) := below_keep hb1 (by simp [go_sem])
  have z1 : w.heap.size < w1.heap.size := World.block_lt_of_cell? _ _ d0
  have z2 : w.heap.size + 1 < w1.heap.size := World.block_lt_of_cell? _ _ s0
  have H1 := below_step (below_alloc (below_alloc (Below.refl _ _) _) _) hb1
  clear hb1
  go_upto_region 3 with fail
  go_cut [5, 6] (fun s5 s6 wx => ∃ b5 b6 : Nat, s5 = .pointer (some ⟨b5, 0, none⟩) ∧ s6 = .pointer (some ⟨b6, 0, none⟩) ∧ wx.cell? ⟨b5, 0, none⟩ = some (.int .i64 (a.tmod 1099511627777)) ∧ wx.cell? ⟨b5, 1, none⟩ = some (.int .i64 (b.tmod 200001)) ∧
      wx.cell? ⟨b6, 0, none⟩ = some (.int .i64 (a'.tmod 1099511627777)) ∧ wx.cell? ⟨b6, 1, none⟩ = some (.int .i64 (b'.tmod 200001)) ∧
      wx.cell? ⟨w.heap.size + 1, 0, none⟩ = some (.int .u32 t) ∧ wx.cell? ⟨w.heap.size + 1, 1, none⟩ = some (.int .u32 n) ∧ wx.cell? ⟨w.heap.size + 1, 2, none⟩ = some (.int .i16 E) ∧ wx.cell? ⟨w.heap.size + 1, 3, none⟩ = some (.int .i16 R) ∧ Below w.heap.size w wx)
  case first =>
    have jb := Lib.hid (Below.drew (Below.refl w1.heap.size w1))
    have HK := Lib.hid (fun wx (hB : Below w1.heap.size w1 wx) => (⟨hB, below_keep hB d0, below_keep hB d1, below_keep hB d2, below_keep hB d3⟩ :
      Below w1.heap.size w1 wx ∧ wx.cell? ⟨w.heap.size, 0, none⟩ = some (.int .i64 a) ∧ wx.cell? ⟨w.heap.size, 1, none⟩ = some (.int .i32 b) ∧ wx.cell? ⟨w.heap.size, 2, none⟩ = some (.int .i64 a') ∧ wx.cell? ⟨w.heap.size, 3, none⟩ = some (.int .i32 b')))
    go_region_held3 (fun w' => Below w1.heap.size w1 w' ∧ w'.cell? ⟨w.heap.size, 0, none⟩ = some (.int .i64 a) ∧ w'.cell? ⟨w.heap.size, 1, none⟩ = some (.int .i32 b) ∧ w'.cell? ⟨w.heap.size, 2, none⟩ = some (.int .i64 a') ∧ w'.cell? ⟨w.heap.size, 3, none⟩ = some (.int .i32 b'))
      (first | assumption | (refine HK.out _ ?_; repeat (first | exact jb.out | exact Below.refl _ _ | refine Below.drew ?_ | refine Below.setCell ?_ (by first | exact Nat.le_refl _ | omega | (simp; done) | (simp; omega)) _ | refine Below.alloc ?_ (by first | exact Nat.le_refl _ | omega | (simp; done) | (simp; omega)) _)) | fail)
      (first | (go_at_call 24; refine (clockDraft_any _ _ _).mono ?_; rintro e w3 ⟨rfl, hb3⟩; obtain ⟨hh, _⟩ := ‹Below w1.heap.size _ _ ∧ _›; have jz := Nat.le_trans hh.size hb3.size; have jb := Lib.hid (below_step hh hb3); clear hh; first | (with_reducible have hb4 := bkd hb3; first | (with_reducible have jj := bk2 hb4; obtain ⟨j1, j2, j3, j4, j5, j6, j7, j8, j9, j10, j11⟩ := jj) | (with_reducible have jj := bk1 hb4; obtain ⟨j1, j2, j3, j4, j5, j6, j7, j8, j9, j10⟩ := jj) | (have jj := bk0 hb4; obtain ⟨j1, j2, j3, j4, j5⟩ := jj)) | (first | (with_reducible have jj := bk2 hb3; obtain ⟨j1, j2, j3, j4, j5, j6, j7, j8, j9, j10, j11⟩ := jj) | (with_reducible have jj := bk1 hb3; obtain ⟨j1, j2, j3, j4, j5, j6, j7, j8, j9, j10⟩ := jj) | (have jj := bk0 hb3; obtain ⟨j1, j2, j3, j4, j5⟩ := jj))) | fail)
    all_goals go_wp2_with fail
    all_goals go_meet
    all_goals
      obtain ⟨hB, _⟩ := ‹Below w1.heap.size _ _ ∧ _›
      exact ⟨_, _, rfl, rfl, by simp [go_sem, *], by simp [go_sem, *], by simp [go_sem, *], by simp [go_sem, *], below_keep hB s0, below_keep hB s1, below_keep hB s2, below_keep hB s3, below_step H1 hB⟩
  case rest =>
    obtain ⟨b5, b6, rfl, rfl, x0, x1, y0, y1, p0, p1, p2, p3, hB⟩ := hcut
    have HB := Lib.hid hB
    have h := clockDraft_ok a b
    have h' := clockDraft_ok a' b'
    clear hB d0 d1 d2 d3 s0 s1 s2 s3 z1 z2 H1
    generalize a.tmod 1099511627777 = O at *
    generalize b.tmod 200001 = P at *
    generalize a'.tmod 1099511627777 = O' at *
    generalize b'.tmod 200001 = P' at *
    have kt : Tick t := ⟨t0, by omega⟩
    have kn : Tick (t + n) := ⟨by omega, by omega⟩
    obtain ⟨q1, q2, _, _⟩ := loc_bd h kt
    obtain ⟨q3, q4, _, _⟩ := loc_bd h kn
    obtain ⟨q5, q6, _, _⟩ := loc_bd h' kt
    obtain ⟨q7, q8, _, _⟩ := loc_bd h' kn
    have hx : 0 ≤ locV O P (t + n) - locV O P t := by have := loc_mono (O := O) (P := P) (x := t) (y := t + n) h.2.2.1 (by omega); omega
    obtain ⟨_, _, u1, u2⟩ := id h
    obtain ⟨_, _, u3, u4⟩ := id h'
    have hp := Lib.hid (holds_plain (O1 := O) (P1 := P) (O2 := O') (P2 := P') (t := t) (n := n) (E := E) (R := R) n0 u1 u2 u3 u4 hx)
    have HS := Lib.hid h
    have HS' := Lib.hid h'
    have T1 := Lib.hid kt
    have T2 := Lib.hid kn
    clear h h' kt kn
    go_wp2
    have r0' := fun p : Regrown => cell_regrown p0 p.d p.os
    have r1' := fun p : Regrown => cell_regrown p1 p.d p.os
    refine wp_region_quiet_below (by kernel_rfl) (by kernel_rfl) ?_
    repeat (go_big_quiet_step (fail))
    refine wpQuiet_nil ?_
    intro w3 hw
    have hb : Below wc.heap.size wc w3 := by obtain ⟨p, rfl⟩ := hw; exact below_regrown _ _ _
    have x0' := below_keep hb x0
    have x1' := below_keep hb x1
    have y0' := below_keep hb y0
    have y1' := below_keep hb y1
    have p2' := below_keep hb p2
    have p3' := below_keep hb p3
    have H3 := Lib.hid (below_step HB.out hb)
    clear hb hw r0' r1' x0 x1 y0 y1 p0 p1 p2 p3 HB
    go_wp2_with fail
    refine (local_ok O P t HS.out T1.out _).mono ?_
    rintro y w4 ⟨rfl, hb⟩
    have x0 := below_keep hb x0'
    have x1 := below_keep hb x1'
    have y0 := below_keep hb y0'
    have y1 := below_keep hb y1'
    have p2 := below_keep hb p2'
    have p3 := below_keep hb p3'
    have H4 := Lib.hid (below_step H3.out hb)
    clear hb x0' x1' y0' y1' p2' p3' H3
    go_wp2_with fail
    refine (local_ok O' P' t HS'.out T1.out _).mono ?_
    rintro y w5 ⟨rfl, hb⟩
    have x0' := below_keep hb x0
    have x1' := below_keep hb x1
    have y0' := below_keep hb y0
    have y1' := below_keep hb y1
    have p2' := below_keep hb p2
    have p3' := below_keep hb p3
    have H5 := Lib.hid (below_step H4.out hb)
    clear hb x0 x1 y0 y1 p2 p3 H4
    go_wp2_with fail
    refine (local_ok O P (t + n) HS.out T2.out _).mono ?_
    rintro y w6 ⟨rfl, hb⟩
    have x0 := below_keep hb x0'
    have x1 := below_keep hb x1'
    have y0 := below_keep hb y0'
    have y1 := below_keep hb y1'
    have p2 := below_keep hb p2'
    have p3 := below_keep hb p3'
    have H6 := Lib.hid (below_step H5.out hb)
    clear hb x0' x1' y0' y1' p2' p3' H5
    go_wp2_with fail
    refine (local_ok O' P' (t + n) HS'.out T2.out _).mono ?_
    rintro y w7 ⟨rfl, hb⟩
    have x0' := below_keep hb x0
    have x1' := below_keep hb x1
    have y0' := below_keep hb y0
    have y1' := below_keep hb y1
    have p2' := below_keep hb p2
    have p3' := below_keep hb p3
    have z7 := World.block_lt_of_cell? _ _ p2'
    have H7 := Lib.hid (below_step H6.out hb)
    clear hb x0 x1 y0 y1 p2 p3 H6
    generalize locV O P t = c1 at *
    generalize locV O P (t + n) = c2 at *
    generalize locV O' P' t = c3 at *
    generalize locV O' P' (t + n) = c4 at *
    have hs : OkS c1 (c3 + E) (P' - P + R) := ⟨by omega, by omega, by omega, by omega, by omega, by omega⟩
    have hst : Stamp c2 := ⟨by omega, by omega⟩
    have E1 : Hid (timeV c1 (c3 + E) (P' - P + R) c2 = atV c1 (c3 + E) (P' - P + R) c2) := if_pos ⟨hs, hst⟩
    have E2 : Hid (timeE c1 (c3 + E) (P' - P + R) c2 = 0) := by show timeE _ _ _ _ = 0; unfold timeE; rw [if_pos hs, if_pos hst]
    obtain ⟨g1, g2, _, _⟩ := at_bd hs hst
    obtain ⟨e, he, hec⟩ : ∃ e, max E (-E) = e ∧ 0 ≤ e ∧ e ≤ 32768 := ⟨_, rfl, by omega, by omega⟩
    obtain ⟨r, hr, hrc⟩ : ∃ r, max R (-R) = r ∧ 0 ≤ r ∧ r ≤ 32768 := ⟨_, rfl, by omega, by omega⟩
    obtain ⟨e2, e3⟩ := hec
    obtain ⟨r2, r3⟩ := hrc
    have hlim := Lib.hid (show LimOk e (c2 - c1) r from ⟨by omega, by omega, by omega, by omega, by omega, by omega⟩)
    obtain ⟨b1, b2⟩ := part_bd (x := -(c2 - c1)) (p := r + 82) (by omega) (by omega) (by omega) (by omega)
    obtain ⟨k1, k2⟩ := hp.out
    rw [he, hr] at k1 k2
    clear hs hst hp
    go_wp2_with fail
    refine (time_any _ _ _ _ _).mono ?_
    rw [E1.out, E2.out]
    rintro y w8 ⟨rfl, hb⟩
    have p2 : w8.cell? ⟨w.heap.size + 1, 2, none⟩ = some (.int .i16 E) := below_keep hb (by rw [World.cell?_alloc_lt _ _ _ z7]; exact p2')
    have p3 : w8.cell? ⟨w.heap.size + 1, 3, none⟩ = some (.int .i16 R) := below_keep hb (by rw [World.cell?_alloc_lt _ _ _ z7]; exact p3')
    have H8 := Lib.hid (below_step (below_alloc H7.out _) hb)
    clear hb p2' p3' z7 H7 E1 E2 x0' x1' y0' y1'
    generalize atV c1 (c3 + E) (P' - P + R) c2 = got at *
    have HE := Lib.hid he
    have HRR := Lib.hid hr
    clear he hr
    go_wp2_with fail
    refine (bound_ok _ _ _ (by rw [HE.out, HRR.out]; exact hlim.out) _).mono ?_
    rw [HE.out, HRR.out]
    rintro y w9 ⟨rfl, hb⟩
    have H9 := Lib.hid (below_step H8.out hb)
    clear hb p2 p3 H8 hlim
    have b3 : -400000000000 ≤ boundV e (c2 - c1) r ∧ boundV e (c2 - c1) r ≤ 400000000000 := by unfold boundV; omega
    generalize boundV e (c2 - c1) r = bd at *
    obtain ⟨b3, b4⟩ := b3
    go_wp2
    go_ret
    exact ⟨ret_bool (by first | rfl | (simp; omega)), H9.out⟩

theorem servoHolds_walk (a b a' b' t n E R : Int) (h : (0 ≤ t ∧ t ≤ 4294967295) ∧ (0 ≤ n ∧ n ≤ 4294967295) ∧ (-32768 ≤ E ∧ E ≤ 32767) ∧ (-32768 ≤ R ∧ R ≤ 32767)) (w : World) :
    Calls Try.prog 10 #[.agg #[.int .i64 a, .int .i32 b, .int .i64 a', .int .i32 b'], .agg #[.int .u32 t, .int .u32 n, .int .i16 E, .int .i16 R]] w fun y w' => y = .returned (.bool true) ∧ Below w.heap.size w w' :=
  servoHolds_core a b a' b' t n E R w h.1.1 h.1.2 h.2.1.1 h.2.1.2 h.2.2.1.1 h.2.2.1.2 h.2.2.2.1 h.2.2.2.2

set_option maxRecDepth 100000 in
theorem servoHolds_lifted (os : Os) (started : os.Started) (H : Type) (enc : TypeId × Value → H) :
    ReturnsInHanded {} Try.checked os 10 .any (Rows.servoHoldsSpec.pre6 enc Try.prog Try.f10 [] false) (Rows.servoHoldsSpec.post enc Try.prog Try.f10 false true false false) := by
  refine law_lifted started Try.func10 (by kernel_rfl)
    (ChangeSpec.witness6 (enc := enc) (C := Try.checked) false ⟨#[], #[.agg #[.int .i64 0, .int .i32 0, .int .i64 0, .int .i32 0], .agg #[.int .u32 0, .int .u32 0, .int .i16 0, .int .i16 0]], []⟩ 8 (by kernel_rfl) (by kernel_rfl) (by kernel_rfl) (by kernel_rfl))
    rfl (by kernel_rfl) (by kernel_rfl) (fun ds hd => ?_) ?_
  · rw [Try.params10] at hd
    match ds, hd with
    | [_, _], _ => exact ⟨rfl, rfl, rfl⟩
  · intro W base args ds p hval hA
    rw [Try.params10] at hA hval
    obtain ⟨v0, vs0, d0, ds0, p0, q0, ha0, rfl, rfl, h0, r0⟩ := trodAll_cons hA
    obtain ⟨v1, vs1, d1, ds1, p1, q1, ha1, rfl, rfl, h1, r1⟩ := trodAll_cons r0
    obtain ⟨hz, rfl, rfl⟩ := trodAll_nil r1
    obtain rfl : args = #[v0, v1] := by
      subst hz
      subst ha1
      cases args; simpa using ha0
    obtain ⟨x0_0, x0_1, x0_2, x0_3, rfl⟩ := open_draft09s (hval 0 47 v0 rfl rfl) h0
    obtain ⟨x1_0, x1_1, x1_2, x1_3, rfl, w1⟩ := open_since (hval 1 50 v1 rfl rfl) h1
    exact servoHolds_walk x0_0 x0_1 x0_2 x0_3 x1_0 x1_1 x1_2 x1_3 w1 W

theorem servoHolds_holds : Rows.ServoHoldsSaid :=
  OpenClaim.holds_of_wide 10 Try.f10 rfl rfl rfl rfl rfl rfl rfl ⟨rfl, rfl, rfl, rfl, rfl⟩ rfl rfl rfl rfl rfl (by kernel_rfl) Try.func10 (by kernel_rfl)
    (of_decide_eq_true (by kernel_rfl)) (by unfold Func.isWrapper; first | (rw [if_pos (by decide +kernel)]; kernel_rfl) | (rw [if_neg (by decide +kernel)]; exact ⟨rfl, rfl⟩))
    (fun os started H enc _ => servoHolds_lifted os started H enc)
#print axioms servoHolds_holds

end Go.Proofs.Ytakbopkiemlfdaa
