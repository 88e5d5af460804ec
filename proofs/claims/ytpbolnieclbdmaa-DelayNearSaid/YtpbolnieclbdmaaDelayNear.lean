/-
  DelayNear: for every input the law returns true, and its arguments read as before. No conditions.
-/
import Derived.Test.YtpbolnieclbdmaaDelayWorks
import Derived.Test.YtpbolnieclbdmaaTwoClk
import Derived.Test.YtpbolnieclbdmaaDelayRef
import Derived.Test.YtpbolnieclbdmaaOpen12
import Derived.Lib.QuietBelow
import Derived.BigQuiet
namespace Go.Proofs.Ytpbolnieclbdmaa
open Go.RowKit Go.Lib Plain
open Go.ChangeShapes Go.WideShapes Go.ChangeAt

theorem mx2 (x y : Int) : (if y > x then y else x) = max x y := by
  rw [Int.max_def]
  split <;> split <;> omega
theorem run_max4 (W : World) (ts : Array TypeId) (t : TypeId) (x y z u : Int) : (Builtin.max_ ts t #[.int .i64 x, .int .i64 y, .int .i64 z, .int .i64 u]).run Try.prog W = .ok (.int .i64 (max (max (max x y) z) u)) W := by
  simp [Builtin.max_, Builtin.max2, mx2]

/-- delay.DelayBound, of a bound that is known only by what it bounds. -/
theorem delayBound_near (p d u n : Int) (h : DbOk p d u) (hn : d - dbV p d u ≤ n ∧ n ≤ d + dbV p d u) (w : World) :
    Calls Try.prog 23 #[.int .i64 p, .int .i64 d, .int .i64 u] w fun e w' => ∃ m, e = .returned (.tuple #[.int .i64 m, .int .i64 0]) ∧ (d - m ≤ n ∧ n ≤ d + m ∧ -500000000 ≤ m ∧ m ≤ 500000000) ∧ Below w.heap.size w w' := by
  have hb := delayBound_any p d u w
  rw [show dblV p d u = dbV p d u from if_pos h, show dblE p d u = 0 from if_pos h] at hb
  refine hb.mono fun e w' ⟨he, hw⟩ => ⟨_, he, ⟨hn.1, hn.2, ?_⟩, hw⟩
  obtain ⟨⟨p1, p2⟩, _, ⟨d1, d2⟩, ⟨u1, u2⟩, k⟩ := h
  obtain ⟨_, _, m1, m2⟩ := part_bd' (x := -(2 * d + u)) (p := p) (by omega) (by omega) (by omega) p2
  obtain ⟨_, _, m3, m4⟩ := part_bd' (x := -u) (p := p) (by omega) (by omega) (by omega) p2
  unfold dbV
  omega

set_option maxHeartbeats 4000000 in
set_option maxRecDepth 100000 in
theorem delayNear_core (a b a' b' t d u g : Int) (t0 : 0 ≤ t) (t1 : t ≤ 4294967295) (d0 : 0 ≤ d) (d1 : d ≤ 4294967295) (u0 : 0 ≤ u) (u1 : u ≤ 4294967295) (w : World) : Calls Try.prog 7 #[.agg #[.int .i64 a, .int .i32 b, .int .i64 a', .int .i32 b'], .agg #[.int .u32 t, .int .u32 d, .int .u32 u, .int .u32 g]] w fun y w' => y = .returned (.bool true) ∧ Below w.heap.size w w' := by
  go_enter Try.func7, Try.ntmps7
  go_wp2_with fail
  refine (works_any _).mono ?_
  rintro y w1 ⟨rfl, hb1⟩
  have c1 : w1.cell? ⟨w.heap.size, 0, none⟩ = some (.int .i64 a) := below_keep hb1 (by simp [go_sem])
  have c2 : w1.cell? ⟨w.heap.size, 1, none⟩ = some (.int .i32 b) := below_keep hb1 (by simp [go_sem])
  have c3 : w1.cell? ⟨w.heap.size, 2, none⟩ = some (.int .i64 a') := below_keep hb1 (by simp [go_sem])
  have c4 : w1.cell? ⟨w.heap.size, 3, none⟩ = some (.int .i32 b') := below_keep hb1 (by simp [go_sem])
  have c5 : w1.cell? ⟨w.heap.size + 1, 0, none⟩ = some (.int .u32 t) := below_keep hb1 (by simp [go_sem])
  have c6 : w1.cell? ⟨w.heap.size + 1, 1, none⟩ = some (.int .u32 d) := below_keep hb1 (by simp [go_sem])
  have c7 : w1.cell? ⟨w.heap.size + 1, 2, none⟩ = some (.int .u32 u) := below_keep hb1 (by simp [go_sem])
  have c8 : w1.cell? ⟨w.heap.size + 1, 3, none⟩ = some (.int .u32 g) := below_keep hb1 (by simp [go_sem])
  have H1 := Lib.hid (below_step (below_alloc (below_alloc (Below.refl _ _) _) _) hb1)
  clear hb1
  have z1 : w.heap.size < w1.heap.size := World.block_lt_of_cell? _ _ c1
  go_upto_region 3 with fail
  go_cut [5, 6] (fun s5 s6 wx => ∃ b5 b6 : Nat, s5 = .pointer (some ⟨b5, 0, none⟩) ∧ s6 = .pointer (some ⟨b6, 0, none⟩) ∧ wx.cell? ⟨b5, 0, none⟩ = some (.int .i64 (a.tmod 1099511627777)) ∧ wx.cell? ⟨b5, 1, none⟩ = some (.int .i64 (b.tmod 200001)) ∧
      wx.cell? ⟨b6, 0, none⟩ = some (.int .i64 (a'.tmod 1099511627777)) ∧ wx.cell? ⟨b6, 1, none⟩ = some (.int .i64 (b'.tmod 200001)) ∧ wx.cell? ⟨w.heap.size + 1, 0, none⟩ = some (.int .u32 t) ∧ wx.cell? ⟨w.heap.size + 1, 1, none⟩ = some (.int .u32 d) ∧ wx.cell? ⟨w.heap.size + 1, 2, none⟩ = some (.int .u32 u) ∧ wx.cell? ⟨w.heap.size + 1, 3, none⟩ = some (.int .u32 g) ∧ Below w.heap.size w wx)
  case first =>
    have jb := Lib.hid (Below.drew (Below.refl w1.heap.size w1))
    have HK := Lib.hid (fun wx (hB : Below w1.heap.size w1 wx) => (⟨hB, below_keep hB c1, below_keep hB c2, below_keep hB c3, below_keep hB c4⟩ :
      Below w1.heap.size w1 wx ∧ wx.cell? ⟨w.heap.size, 0, none⟩ = some (.int .i64 a) ∧ wx.cell? ⟨w.heap.size, 1, none⟩ = some (.int .i32 b) ∧ wx.cell? ⟨w.heap.size, 2, none⟩ = some (.int .i64 a') ∧ wx.cell? ⟨w.heap.size, 3, none⟩ = some (.int .i32 b')))
    go_region_held3 (fun w' => Below w1.heap.size w1 w' ∧ w'.cell? ⟨w.heap.size, 0, none⟩ = some (.int .i64 a) ∧ w'.cell? ⟨w.heap.size, 1, none⟩ = some (.int .i32 b) ∧ w'.cell? ⟨w.heap.size, 2, none⟩ = some (.int .i64 a') ∧ w'.cell? ⟨w.heap.size, 3, none⟩ = some (.int .i32 b'))
      (first | assumption | (refine HK.out _ ?_; repeat (first | exact jb.out | exact Below.refl _ _ | refine Below.drew ?_ | refine Below.setCell ?_ (by first | exact Nat.le_refl _ | omega | (simp; done) | (simp; omega)) _ | refine Below.alloc ?_ (by first | exact Nat.le_refl _ | omega | (simp; done) | (simp; omega)) _)) | fail)
      (first | (go_at_call 18; refine (clockDraft_any _ _ _).mono ?_; rintro e wz ⟨rfl, hb3⟩; obtain ⟨hh, _⟩ := ‹Below w1.heap.size _ _ ∧ _›; have jz := Nat.le_trans hh.size hb3.size; have jb := Lib.hid (below_step hh hb3); clear hh; first | (with_reducible have hb4 := bkd hb3; first | (with_reducible have jj := bk2 hb4; obtain ⟨j1, j2, j3, j4, j5, j6, j7, j8, j9, j10, j11⟩ := jj) | (with_reducible have jj := bk1 hb4; obtain ⟨j1, j2, j3, j4, j5, j6, j7, j8, j9, j10⟩ := jj) | (have jj := bk0 hb4; obtain ⟨j1, j2, j3, j4, j5⟩ := jj)) | (first | (with_reducible have jj := bk2 hb3; obtain ⟨j1, j2, j3, j4, j5, j6, j7, j8, j9, j10, j11⟩ := jj) | (with_reducible have jj := bk1 hb3; obtain ⟨j1, j2, j3, j4, j5, j6, j7, j8, j9, j10⟩ := jj) | (have jj := bk0 hb3; obtain ⟨j1, j2, j3, j4, j5⟩ := jj))) | fail)
    all_goals go_wp2_with fail
    all_goals go_meet
    all_goals
      obtain ⟨hB, _⟩ := ‹Below w1.heap.size _ _ ∧ _›
      exact ⟨_, _, rfl, rfl, by simp [go_sem, *], by simp [go_sem, *], by simp [go_sem, *], by simp [go_sem, *], below_keep hB c5, below_keep hB c6, below_keep hB c7, below_keep hB c8, below_step H1.out hB⟩
  case rest =>
    obtain ⟨b5, b6, rfl, rfl, q0, q1, q2, q3, p0, p1, p2, p3, hB⟩ := hcut
    have HB := Lib.hid hB
    have h := clockDraft_ok a b
    have h' := clockDraft_ok a' b'
    clear hB z1 c1 c2 c3 c4 c5 c6 c7 c8 H1
    generalize a.tmod 1099511627777 = O at *
    generalize b.tmod 200001 = P at *
    generalize a'.tmod 1099511627777 = O' at *
    generalize b'.tmod 200001 = P' at *
    have ks : Spn t d u := ⟨⟨by omega, by omega⟩, ⟨by omega, by omega⟩, ⟨by omega, by omega⟩, by omega⟩
    have hm : MtOk O P O' P' t d u := ⟨h, h', ks⟩
    have m1 : Hid (mt1 O P O' P' t d u = locV O P t) := if_pos hm
    have m2 : Hid (mt2 O P O' P' t d u = locV O' P' (t + d)) := if_pos hm
    have m3 : Hid (mt3 O P O' P' t d u = locV O' P' (t + d + u)) := if_pos hm
    have m4 : Hid (mt4 O P O' P' t d u = locV O P (t + 2 * d + u)) := if_pos hm
    have m5 : Hid (mtE O P O' P' t d u = 0) := by show mtE _ _ _ _ _ _ _ = 0; unfold mtE; rw [if_pos h, if_pos h', if_pos ks]
    have v1 := loc_bd h (show Tick t from ⟨by omega, by omega⟩)
    have v2 := loc_bd h' (show Tick (t + d) from ⟨by omega, by omega⟩)
    have v3 := loc_bd h' (show Tick (t + d + u) from ⟨by omega, by omega⟩)
    have v4 := loc_bd h (show Tick (t + 2 * d + u) from ⟨by omega, by omega⟩)
    have v5 := loc_mono (O := O) (P := P) (x := t) (y := t + 2 * d + u) h.2.2.1 (by omega)
    have v6 := loc_mono (O := O') (P := P') (x := t + d) (y := t + d + u) h'.2.2.1 (by omega)
    obtain ⟨_, _, pa, pb⟩ := id h
    obtain ⟨_, _, pc, pd⟩ := id h'

    have HN := Lib.hid (fun p (k1 : -p ≤ P) (k2 : P ≤ p) (k3 : -p ≤ P') (k4 : P' ≤ p) => near_plain (O := O) (O' := O') (t := t) d0 u0 k1 k2 k3 k4)
    clear hm h h'
    have KS := Lib.hid (show Spn 0 d u from ⟨⟨by decide, by decide⟩, ks.2.1, ks.2.2.1, by omega⟩)
    clear ks
    go_wp2_with fail
    refine (meet_any O P O' P' t d u _).mono ?_
    rw [m1.out, m2.out, m3.out, m4.out, m5.out]
    rintro y w2 ⟨rfl, hb2⟩
    have c9 : w2.cell? ⟨b5, 0, none⟩ = some (.int .i64 O) := below_keep hb2 (q0)
    have c10 : w2.cell? ⟨b5, 1, none⟩ = some (.int .i64 P) := below_keep hb2 (q1)
    have c11 : w2.cell? ⟨b6, 0, none⟩ = some (.int .i64 O') := below_keep hb2 (q2)
    have c12 : w2.cell? ⟨b6, 1, none⟩ = some (.int .i64 P') := below_keep hb2 (q3)
    have c13 : w2.cell? ⟨w.heap.size + 1, 0, none⟩ = some (.int .u32 t) := below_keep hb2 (p0)
    have c14 : w2.cell? ⟨w.heap.size + 1, 1, none⟩ = some (.int .u32 d) := below_keep hb2 (p1)
    have c15 : w2.cell? ⟨w.heap.size + 1, 2, none⟩ = some (.int .u32 u) := below_keep hb2 (p2)
    have c16 : w2.cell? ⟨w.heap.size + 1, 3, none⟩ = some (.int .u32 g) := below_keep hb2 (p3)
    have H2 := Lib.hid (below_step (HB.out) hb2)
    clear hb2 q0 q1 q2 q3 p0 p1 p2 p3 HB
    clear m1 m2 m3 m4 m5
    generalize locV O P t = T1 at *
    generalize locV O' P' (t + d) = T2 at *
    generalize locV O' P' (t + d + u) = T3 at *
    generalize locV O P (t + 2 * d + u) = T4 at *
    have ho : OkX T1 T2 T3 T4 := ⟨by omega, by omega, by omega, by omega, v5, v6⟩
    have e1 : Hid (delV T1 T2 T3 T4 = dlV T1 T2 T3 T4) := if_pos ho
    have e2 : Hid (xV T1 T2 T3 T4 = 0) := if_pos ho
    have e3 := dl_bd ho
    clear ho v1 v2 v3 v4 v5 v6
    have hz17 : b5 < w2.heap.size := World.block_lt_of_cell? _ _ c9
    have hz18 : b6 < w2.heap.size := World.block_lt_of_cell? _ _ c11
    have hz19 : w.heap.size + 1 < w2.heap.size := World.block_lt_of_cell? _ _ c13
    go_wp2_with fail
    refine (delay_any T1 T2 T3 T4 _).mono ?_
    rw [e1.out, e2.out]
    rintro y w3 ⟨rfl, hb3⟩
    have c20 : w3.cell? ⟨b5, 0, none⟩ = some (.int .i64 O) := below_keep hb3 (by rw [World.cell?_alloc_lt _ _ _ (by first | exact World.block_lt_of_cell? _ _ c9 | (have := World.block_lt_of_cell? _ _ c9; simp; omega))]; exact c9)
    have c21 : w3.cell? ⟨b5, 1, none⟩ = some (.int .i64 P) := below_keep hb3 (by rw [World.cell?_alloc_lt _ _ _ (by first | exact World.block_lt_of_cell? _ _ c10 | (have := World.block_lt_of_cell? _ _ c10; simp; omega))]; exact c10)
    have c22 : w3.cell? ⟨b6, 0, none⟩ = some (.int .i64 O') := below_keep hb3 (by rw [World.cell?_alloc_lt _ _ _ (by first | exact World.block_lt_of_cell? _ _ c11 | (have := World.block_lt_of_cell? _ _ c11; simp; omega))]; exact c11)
    have c23 : w3.cell? ⟨b6, 1, none⟩ = some (.int .i64 P') := below_keep hb3 (by rw [World.cell?_alloc_lt _ _ _ (by first | exact World.block_lt_of_cell? _ _ c12 | (have := World.block_lt_of_cell? _ _ c12; simp; omega))]; exact c12)
    have c24 : w3.cell? ⟨w.heap.size + 1, 0, none⟩ = some (.int .u32 t) := below_keep hb3 (by rw [World.cell?_alloc_lt _ _ _ (by first | exact World.block_lt_of_cell? _ _ c13 | (have := World.block_lt_of_cell? _ _ c13; simp; omega))]; exact c13)
    have c25 : w3.cell? ⟨w.heap.size + 1, 1, none⟩ = some (.int .u32 d) := below_keep hb3 (by rw [World.cell?_alloc_lt _ _ _ (by first | exact World.block_lt_of_cell? _ _ c14 | (have := World.block_lt_of_cell? _ _ c14; simp; omega))]; exact c14)
    have c26 : w3.cell? ⟨w.heap.size + 1, 2, none⟩ = some (.int .u32 u) := below_keep hb3 (by rw [World.cell?_alloc_lt _ _ _ (by first | exact World.block_lt_of_cell? _ _ c15 | (have := World.block_lt_of_cell? _ _ c15; simp; omega))]; exact c15)
    have c27 : w3.cell? ⟨w.heap.size + 1, 3, none⟩ = some (.int .u32 g) := below_keep hb3 (by rw [World.cell?_alloc_lt _ _ _ (by first | exact World.block_lt_of_cell? _ _ c16 | (have := World.block_lt_of_cell? _ _ c16; simp; omega))]; exact c16)
    have c28 : w3.cell? ⟨w2.heap.size, 0, none⟩ = some (.int .i64 T1) := below_keep hb3 (by simp [go_sem])
    have c29 : w3.cell? ⟨w2.heap.size, 1, none⟩ = some (.int .i64 T2) := below_keep hb3 (by simp [go_sem])
    have c30 : w3.cell? ⟨w2.heap.size, 2, none⟩ = some (.int .i64 T3) := below_keep hb3 (by simp [go_sem])
    have c31 : w3.cell? ⟨w2.heap.size, 3, none⟩ = some (.int .i64 T4) := below_keep hb3 (by simp [go_sem])
    have H3 := Lib.hid (below_step (below_alloc (H2.out) _) hb3)
    clear hb3 c9 c10 c11 c12 c13 c14 c15 c16 H2 hz17 hz18 hz19
    generalize dlV T1 T2 T3 T4 = n at *
    obtain ⟨e4, e5⟩ := e3
    clear c28 c29 c30 c31
    have hx4 := run_max4
    go_wp2_with fail
    refine (delayBound_near _ _ _ n ⟨⟨by omega, by omega⟩, KS.out⟩ (HN.out _ (by omega) (by omega) (by omega) (by omega)) _).mono ?_
    rintro y w4 ⟨m, rfl, ⟨j1, j2, j3, j4⟩, hb4⟩
    have c32 : w4.cell? ⟨b5, 0, none⟩ = some (.int .i64 O) := below_keep hb4 (c20)
    have c33 : w4.cell? ⟨b5, 1, none⟩ = some (.int .i64 P) := below_keep hb4 (c21)
    have c34 : w4.cell? ⟨b6, 0, none⟩ = some (.int .i64 O') := below_keep hb4 (c22)
    have c35 : w4.cell? ⟨b6, 1, none⟩ = some (.int .i64 P') := below_keep hb4 (c23)
    have c36 : w4.cell? ⟨w.heap.size + 1, 0, none⟩ = some (.int .u32 t) := below_keep hb4 (c24)
    have c37 : w4.cell? ⟨w.heap.size + 1, 1, none⟩ = some (.int .u32 d) := below_keep hb4 (c25)
    have c38 : w4.cell? ⟨w.heap.size + 1, 2, none⟩ = some (.int .u32 u) := below_keep hb4 (c26)
    have c39 : w4.cell? ⟨w.heap.size + 1, 3, none⟩ = some (.int .u32 g) := below_keep hb4 (c27)
    have H4 := Lib.hid (below_step (H3.out) hb4)
    clear hb4 c20 c21 c22 c23 c24 c25 c26 c27 H3
    clear HN KS hx4
    go_wp2
    go_ret
    exact ⟨ret_bool (by first | rfl | (simp; omega)), H4.out⟩

theorem delayNear_walk (a b a' b' t d u g : Int) (h : (0 ≤ t ∧ t ≤ 4294967295) ∧ (0 ≤ d ∧ d ≤ 4294967295) ∧ (0 ≤ u ∧ u ≤ 4294967295) ∧ (0 ≤ g ∧ g ≤ 4294967295)) (w : World) : Calls Try.prog 7 #[.agg #[.int .i64 a, .int .i32 b, .int .i64 a', .int .i32 b'], .agg #[.int .u32 t, .int .u32 d, .int .u32 u, .int .u32 g]] w fun y w' => y = .returned (.bool true) ∧ Below w.heap.size w w' :=
  delayNear_core a b a' b' t d u g h.1.1 h.1.2 h.2.1.1 h.2.1.2 h.2.2.1.1 h.2.2.1.2  w

set_option maxRecDepth 100000 in
theorem delayNear_lifted (os : Os) (started : os.Started) (H : Type) (enc : TypeId × Value → H) :
    ReturnsInHanded {} Try.checked os 7 .any (Rows.delayNearSpec.pre6 enc Try.prog Try.f7 [] false) (Rows.delayNearSpec.post enc Try.prog Try.f7 false true false false) := by
  refine law_lifted started Try.func7 (by kernel_rfl)
    (ChangeSpec.witness6 (enc := enc) (C := Try.checked) false ⟨#[], #[.agg #[.int .i64 0, .int .i32 0, .int .i64 0, .int .i32 0], .agg #[.int .u32 0, .int .u32 0, .int .u32 0, .int .u32 0]], []⟩ 8 (by kernel_rfl) (by kernel_rfl) (by kernel_rfl) (by kernel_rfl))
    rfl (by kernel_rfl) (by kernel_rfl) (fun ds hd => ?_) ?_
  · rw [Try.params7] at hd
    match ds, hd with
    | [_, _], _ => exact ⟨rfl, rfl, rfl⟩
  · intro W base args ds p hval hA
    rw [Try.params7] at hA hval
    obtain ⟨v0, vs0, d0, ds0, p0, q0, ha0, rfl, rfl, h0, r0⟩ := trodAll_cons hA
    obtain ⟨v1, vs1, d1, ds1, p1, q1, ha1, rfl, rfl, h1, r1⟩ := trodAll_cons r0
    obtain ⟨hz, rfl, rfl⟩ := trodAll_nil r1
    obtain rfl : args = #[v0, v1] := by
      subst hz
      subst ha1
      cases args; simpa using ha0
    obtain ⟨x0_0, x0_1, x0_2, x0_3, rfl⟩ := open_draft09s (hval 0 40 v0 rfl rfl) h0
    obtain ⟨x1_0, x1_1, x1_2, x1_3, rfl, w1⟩ := open_span (hval 1 56 v1 rfl rfl) h1
    exact delayNear_walk x0_0 x0_1 x0_2 x0_3 x1_0 x1_1 x1_2 x1_3 w1 W

theorem delayNear_holds : Rows.DelayNearSaid :=
  OpenClaim.holds_of_wide 7 Try.f7 rfl rfl rfl rfl rfl rfl rfl ⟨rfl, rfl, rfl, rfl, rfl⟩ rfl rfl rfl rfl rfl (by kernel_rfl) Try.func7 (by kernel_rfl)
    (of_decide_eq_true (by kernel_rfl)) (by unfold Func.isWrapper; first | (rw [if_pos (by decide +kernel)]; kernel_rfl) | (rw [if_neg (by decide +kernel)]; exact ⟨rfl, rfl⟩))
    (fun os started H enc _ => delayNear_lifted os started H enc)
#print axioms delayNear_holds

end Go.Proofs.Ytpbolnieclbdmaa
