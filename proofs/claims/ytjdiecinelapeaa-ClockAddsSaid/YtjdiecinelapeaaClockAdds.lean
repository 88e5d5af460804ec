/-
  ClockAdds: for every input the law returns true, and its arguments read as before. No conditions.
-/
import Derived.Test.YtjdiecinelapeaaClockWorks
import Derived.Test.YtjdiecinelapeaaOpenTwo
import Derived.Deep.RegionHeld3
import Derived.Deep.DeepCutAuto
import Derived.Test.YtjdiecinelapeaaOpen09
import Derived.Lib.QuietBelow
import Derived.BigQuiet
namespace Go.Proofs.Ytjdiecinelapeaa
open Go.RowKit Go.Lib Plain
open Go.ChangeShapes Go.WideShapes Go.ChangeAt

theorem u64_nonneg (x : Int) : 0 ≤ IntKind.u64.wrap x := by rw [IntKind.wrap_u64]; omega

theorem bk0 {W w1 : World} (hb : Below W.heap.size W w1) : (∀ b o, b < W.heap.size → w1.cell? ⟨b, o, none⟩ = W.cell? ⟨b, o, none⟩) ∧ (∀ b o, b < W.heap.size → w1.frozen? ⟨b, o, none⟩ = W.frozen? ⟨b, o, none⟩) ∧
    (∀ b, b < W.heap.size → b < w1.heap.size) ∧ (∀ b, b < W.heap.size → ¬ b = w1.heap.size) ∧ (∀ b, b < W.heap.size → ¬ w1.heap.size = b) :=
  ⟨fun b o h => hb.cell (p := ⟨b, o, none⟩) h, fun b o h => hb.frozen (p := ⟨b, o, none⟩) h, fun b h => Nat.lt_of_lt_of_le h hb.size, fun b h e => by have := hb.size; omega, fun b h e => by have := hb.size; omega⟩

theorem elapsed_ok (O P t d : Int) (h : OkC O P) (hl : ElOk t d) (w : World) :
    Calls Try.prog 18 #[.agg #[.int .i64 O, .int .i64 P], .int .i64 t, .int .i64 d] w fun e w' => e = .returned (.tuple #[.int .i64 (locV O P (t + d) - locV O P t), .int .i64 0]) ∧ Below w.heap.size w w' := by
  have h0 := elapsed_any O P t d w
  rwa [show elV O P t d = locV O P (t + d) - locV O P t from if_pos ⟨h, hl⟩, show elE O P t d = 0 by unfold elE; rw [if_pos h, if_pos hl]] at h0
theorem offset_ok (O P O' P' t : Int) (h : OkC O P) (h' : OkC O' P') (hl : Tick t) (w : World) :
    Calls Try.prog 20 #[.agg #[.int .i64 O, .int .i64 P], .agg #[.int .i64 O', .int .i64 P'], .int .i64 t] w fun e w' => e = .returned (.tuple #[.int .i64 (locV O P t - locV O' P' t), .int .i64 0]) ∧ Below w.heap.size w w' := by
  have h0 := offset_any O P O' P' t w
  rwa [show offV O P O' P' t = locV O P t - locV O' P' t from if_pos ⟨⟨h, h'⟩, hl⟩, show offE O P O' P' t = 0 by unfold offE; rw [if_pos ⟨h, h'⟩, if_pos hl]] at h0

/-- The same behind an alloc. -/
theorem bk1 {W w1 : World} {X : Obj} (hb : Below (W.alloc X).heap.size (W.alloc X) w1) : (∀ b o, b < W.heap.size → w1.cell? ⟨b, o, none⟩ = W.cell? ⟨b, o, none⟩) ∧ (∀ b o, b < W.heap.size → w1.frozen? ⟨b, o, none⟩ = W.frozen? ⟨b, o, none⟩) ∧
    (∀ b, b < W.heap.size → b < w1.heap.size) ∧ (∀ b, b < W.heap.size → ¬ b = w1.heap.size) ∧ (∀ b, b < W.heap.size → ¬ w1.heap.size = b) ∧
    (∀ o, w1.cell? ⟨W.heap.size, o, none⟩ = (W.alloc X).cell? ⟨W.heap.size, o, none⟩) ∧ (∀ o, w1.frozen? ⟨W.heap.size, o, none⟩ = (W.alloc X).frozen? ⟨W.heap.size, o, none⟩) ∧ W.heap.size < w1.heap.size ∧ ¬ W.heap.size = w1.heap.size ∧ ¬ w1.heap.size = W.heap.size := by
  have hs : (W.alloc X).heap.size = W.heap.size + 1 := by simp
  have hz := hb.size
  refine ⟨fun b o h => ?_, fun b o h => ?_, fun b h => by omega, fun b h => by omega, fun b h => by omega, fun o => hb.cell (p := ⟨W.heap.size, o, none⟩) (by simp), fun o => hb.frozen (p := ⟨W.heap.size, o, none⟩) (by simp), by omega, by omega, by omega⟩
  · rw [hb.cell (p := ⟨b, o, none⟩) (by show b < _; omega)]
    exact World.cell?_alloc_lt _ _ _ h
  · rw [hb.frozen (p := ⟨b, o, none⟩) (by show b < _; omega)]
    simp [go_sem, h]

/-- The same behind two. -/
theorem bk2 {W w1 : World} {X Y : Obj} (hb : Below ((W.alloc X).alloc Y).heap.size ((W.alloc X).alloc Y) w1) : (∀ b o, b < W.heap.size → w1.cell? ⟨b, o, none⟩ = W.cell? ⟨b, o, none⟩) ∧ (∀ b o, b < W.heap.size → w1.frozen? ⟨b, o, none⟩ = W.frozen? ⟨b, o, none⟩) ∧
    (∀ b, b < W.heap.size → b < w1.heap.size) ∧ (∀ b, b < W.heap.size → ¬ b = w1.heap.size) ∧ (∀ b, b < W.heap.size → ¬ w1.heap.size = b) ∧
    (∀ o, w1.cell? ⟨W.heap.size, o, none⟩ = (W.alloc X).cell? ⟨W.heap.size, o, none⟩) ∧ (∀ o, w1.frozen? ⟨W.heap.size, o, none⟩ = (W.alloc X).frozen? ⟨W.heap.size, o, none⟩) ∧ W.heap.size < w1.heap.size ∧
    (∀ o, w1.cell? ⟨W.heap.size + 1, o, none⟩ = ((W.alloc X).alloc Y).cell? ⟨W.heap.size + 1, o, none⟩) ∧ (∀ o, w1.frozen? ⟨W.heap.size + 1, o, none⟩ = ((W.alloc X).alloc Y).frozen? ⟨W.heap.size + 1, o, none⟩) ∧ W.heap.size + 1 < w1.heap.size := by
  have hs : (W.alloc X).heap.size = W.heap.size + 1 := by simp
  have hs2 : ((W.alloc X).alloc Y).heap.size = W.heap.size + 2 := by simp
  have hz := hb.size
  refine ⟨fun b o h => ?_, fun b o h => ?_, fun b h => by omega, fun b h => by omega, fun b h => by omega, fun o => ?_, fun o => ?_, by omega, fun o => hb.cell (p := ⟨W.heap.size + 1, o, none⟩) (by simp), fun o => hb.frozen (p := ⟨W.heap.size + 1, o, none⟩) (by simp), by omega⟩
  · rw [hb.cell (p := ⟨b, o, none⟩) (by show b < _; omega), World.cell?_alloc_lt _ _ _ (by show b < _; omega)]
    exact World.cell?_alloc_lt _ _ _ h
  · rw [hb.frozen (p := ⟨b, o, none⟩) (by show b < _; omega)]
    have h2 : b < W.heap.size + 1 := by omega
    simp [go_sem, h, h2]
  · rw [hb.cell (p := ⟨W.heap.size, o, none⟩) (by show W.heap.size < _; omega)]
    exact World.cell?_alloc_lt _ _ _ (by show W.heap.size < _; omega)
  · rw [hb.frozen (p := ⟨W.heap.size, o, none⟩) (by show W.heap.size < _; omega)]
    simp [go_sem]

theorem bkd {W w1 : World} (hb : Below W.drew.heap.size W.drew w1) : Below W.heap.size W w1 := ⟨hb.os, hb.tape, hb.output, hb.size, hb.block⟩

set_option maxHeartbeats 4000000 in
set_option maxRecDepth 100000 in
theorem clockAdds_core (a b a' b' at1 l1 l2 v1 v2 n m : Int) (hv1 : IntKind.u64.wrap l1 = v1) (v10 : 0 ≤ v1) (hv2 : IntKind.u64.wrap l2 = v2) (v20 : 0 ≤ v2) (hn : v1 % (1099511627776 - tmV at1 + 1) = n) (n0 : 0 ≤ n) (n1 : n ≤ 1099511627776 - tmV at1)
    (hm : v2 % (1099511627776 - tmV at1 - n + 1) = m) (m0 : 0 ≤ m) (m1 : m ≤ 1099511627776 - tmV at1 - n) (w : World) :
    Calls Try.prog 8 #[.agg #[.int .i64 a, .int .i32 b, .int .i64 a', .int .i32 b'], .int .i64 at1, .agg #[.int .i64 l1, .int .i64 l2]] w fun y w' => y = .returned (.bool true) ∧ Below w.heap.size w w' := by
  go_enter Try.func8, Try.ntmps8
  go_wp2_with fail
  refine (works_any _).mono ?_
  rintro y w1 ⟨rfl, hb1⟩
  have d0 : w1.cell? ⟨w.heap.size, 0, none⟩ = some (.int .i64 a) := below_keep hb1 (by simp [go_sem])
  have d1 : w1.cell? ⟨w.heap.size, 1, none⟩ = some (.int .i32 b) := below_keep hb1 (by simp [go_sem])
  have d2 : w1.cell? ⟨w.heap.size, 2, none⟩ = some (.int .i64 a') := below_keep hb1 (by simp [go_sem])
  have d3 : w1.cell? ⟨w.heap.size, 3, none⟩ = some (.int .i32 b') := below_keep hb1 (by simp [go_sem])
  have s0 : w1.cell? ⟨w.heap.size + 1, 0, none⟩ = some (.int .i64 l1) := below_keep hb1 (by simp [go_sem])
  have s1 : w1.cell? ⟨w.heap.size + 1, 1, none⟩ = some (.int .i64 l2) := below_keep hb1 (by simp [go_sem])
  have z1 : w.heap.size < w1.heap.size := World.block_lt_of_cell? _ _ d0
  have z2 : w.heap.size + 1 < w1.heap.size := World.block_lt_of_cell? _ _ s0
  have H1 := below_step (below_alloc (below_alloc (Below.refl _ _) _) _) hb1
  clear hb1
  go_upto_region 3 with fail
  go_cut [7, 8, 9] (fun s5 s6 s9 wx => ∃ b5 b6 : Nat, s5 = .pointer (some ⟨b5, 0, none⟩) ∧ s6 = .pointer (some ⟨b6, 0, none⟩) ∧ s9 = .int .i64 (tmV at1) ∧ wx.cell? ⟨b5, 0, none⟩ = some (.int .i64 (a.tmod 1099511627777)) ∧ wx.cell? ⟨b5, 1, none⟩ = some (.int .i64 (b.tmod 200001)) ∧
      wx.cell? ⟨b6, 0, none⟩ = some (.int .i64 (a'.tmod 1099511627777)) ∧ wx.cell? ⟨b6, 1, none⟩ = some (.int .i64 (b'.tmod 200001)) ∧
      wx.cell? ⟨w.heap.size + 1, 0, none⟩ = some (.int .i64 l1) ∧ wx.cell? ⟨w.heap.size + 1, 1, none⟩ = some (.int .i64 l2) ∧ Below w.heap.size w wx)
  case first =>
    have jb := Lib.hid (Below.drew (Below.refl w1.heap.size w1))
    have HK := Lib.hid (fun wx (hB : Below w1.heap.size w1 wx) => (⟨hB, below_keep hB d0, below_keep hB d1, below_keep hB d2, below_keep hB d3⟩ :
      Below w1.heap.size w1 wx ∧ wx.cell? ⟨w.heap.size, 0, none⟩ = some (.int .i64 a) ∧ wx.cell? ⟨w.heap.size, 1, none⟩ = some (.int .i32 b) ∧ wx.cell? ⟨w.heap.size, 2, none⟩ = some (.int .i64 a') ∧ wx.cell? ⟨w.heap.size, 3, none⟩ = some (.int .i32 b')))
    go_region_held3 (fun w' => Below w1.heap.size w1 w' ∧ w'.cell? ⟨w.heap.size, 0, none⟩ = some (.int .i64 a) ∧ w'.cell? ⟨w.heap.size, 1, none⟩ = some (.int .i32 b) ∧ w'.cell? ⟨w.heap.size, 2, none⟩ = some (.int .i64 a') ∧ w'.cell? ⟨w.heap.size, 3, none⟩ = some (.int .i32 b'))
      (first | assumption | (refine HK.out _ ?_; repeat (first | exact jb.out | exact Below.refl _ _ | refine Below.drew ?_ | refine Below.setCell ?_ (by first | exact Nat.le_refl _ | omega | (simp; done) | (simp; omega)) _ | refine Below.alloc ?_ (by first | exact Nat.le_refl _ | omega | (simp; done) | (simp; omega)) _)) | fail)
      (first | (go_at_call 11; refine (clockDraft_any _ _ _).mono ?_; rintro e w3 ⟨rfl, hb3⟩; obtain ⟨hh, _⟩ := ‹Below w1.heap.size _ _ ∧ _›; have jz := Nat.le_trans hh.size hb3.size; have jb := Lib.hid (below_step hh hb3); clear hh; first | (with_reducible have hb4 := bkd hb3; first | (with_reducible have jj := bk2 hb4; obtain ⟨j1, j2, j3, j4, j5, j6, j7, j8, j9, j10, j11⟩ := jj) | (with_reducible have jj := bk1 hb4; obtain ⟨j1, j2, j3, j4, j5, j6, j7, j8, j9, j10⟩ := jj) | (have jj := bk0 hb4; obtain ⟨j1, j2, j3, j4, j5⟩ := jj)) | (first | (with_reducible have jj := bk2 hb3; obtain ⟨j1, j2, j3, j4, j5, j6, j7, j8, j9, j10, j11⟩ := jj) | (with_reducible have jj := bk1 hb3; obtain ⟨j1, j2, j3, j4, j5, j6, j7, j8, j9, j10⟩ := jj) | (have jj := bk0 hb3; obtain ⟨j1, j2, j3, j4, j5⟩ := jj))) | (go_at_call 24; refine (tm_any _ _).mono ?_; rintro e w3 ⟨rfl, rfl⟩) | fail)
    all_goals go_wp2_with fail
    all_goals go_meet
    all_goals
      obtain ⟨hB, _⟩ := ‹Below w1.heap.size _ _ ∧ _›
      exact ⟨_, _, rfl, rfl, rfl, by simp [go_sem, *], by simp [go_sem, *], by simp [go_sem, *], by simp [go_sem, *], below_keep hB s0, below_keep hB s1, below_step H1 hB⟩
  case rest =>
    obtain ⟨b5, b6, rfl, rfl, rfl, x0, x1, y0, y1, p0, p1, hB⟩ := hcut
    have HB := Lib.hid hB
    have h := clockDraft_ok a b
    have h' := clockDraft_ok a' b'
    have ht := tm_tick at1
    clear hB d0 d1 d2 d3 s0 s1 z1 z2 H1
    generalize a.tmod 1099511627777 = O at *
    generalize b.tmod 200001 = P at *
    generalize a'.tmod 1099511627777 = O' at *
    generalize b'.tmod 200001 = P' at *
    generalize tmV at1 = t at *
    obtain ⟨k1, k2⟩ := id ht
    have t2 : Tick (t + n) := ⟨by omega, by omega⟩
    have e1 := Lib.hid (show ElOk t n from ⟨ht, ⟨n0, by omega⟩, t2⟩)
    have e2 := Lib.hid (show ElOk (t + n) m from ⟨t2, ⟨m0, by omega⟩, ⟨by omega, by omega⟩⟩)
    have e3 := Lib.hid (show ElOk t (n + m) from ⟨ht, ⟨by omega, by omega⟩, ⟨by omega, by omega⟩⟩)
    have hq : locV O P (t + (n + m)) = locV O P (t + n + m) := by rw [Int.add_assoc]
    obtain ⟨q1, q2, _, _⟩ := loc_bd h ht
    obtain ⟨q3, q4, _, _⟩ := loc_bd h t2
    obtain ⟨q5, q6, _, _⟩ := loc_bd h (show Tick (t + n + m) from ⟨by omega, by omega⟩)
    obtain ⟨q7, q8, _, _⟩ := loc_bd h' ht
    obtain ⟨q9, q10, _, _⟩ := loc_bd h' t2
    have HS := Lib.hid h
    have HS' := Lib.hid h'
    have T1 := Lib.hid ht
    have T2 := Lib.hid t2
    clear h h' ht t2
    go_wp2_with fail
    refine (elapsed_ok O P t n HS.out e1.out _).mono ?_
    rintro y w3 ⟨rfl, hb⟩
    have x0' := below_keep hb x0
    have x1' := below_keep hb x1
    have y0' := below_keep hb y0
    have y1' := below_keep hb y1
    have H3 := Lib.hid (below_step HB.out hb)
    clear hb x0 x1 y0 y1 HB p0 p1
    go_wp2_with fail
    refine (elapsed_ok O P (t + n) m HS.out e2.out _).mono ?_
    rintro y w4 ⟨rfl, hb⟩
    have x0 := below_keep hb x0'
    have x1 := below_keep hb x1'
    have y0 := below_keep hb y0'
    have y1 := below_keep hb y1'
    have H4 := Lib.hid (below_step H3.out hb)
    clear hb x0' x1' y0' y1' H3
    go_wp2_with fail
    refine (elapsed_ok O P t (n + m) HS.out e3.out _).mono ?_
    rw [hq]
    rintro y w5 ⟨rfl, hb⟩
    have x0' := below_keep hb x0
    have x1' := below_keep hb x1
    have y0' := below_keep hb y0
    have y1' := below_keep hb y1
    have H5 := Lib.hid (below_step H4.out hb)
    clear hb x0 x1 y0 y1 H4 hq
    go_wp2_with fail
    refine (elapsed_ok O' P' t n HS'.out e1.out _).mono ?_
    rintro y w6 ⟨rfl, hb⟩
    have x0 := below_keep hb x0'
    have x1 := below_keep hb x1'
    have y0 := below_keep hb y0'
    have y1 := below_keep hb y1'
    have H6 := Lib.hid (below_step H5.out hb)
    clear hb x0' x1' y0' y1' H5
    go_wp2_with fail
    refine (offset_ok O P O' P' t HS.out HS'.out T1.out _).mono ?_
    rintro y w7 ⟨rfl, hb⟩
    have x0' := below_keep hb x0
    have x1' := below_keep hb x1
    have y0' := below_keep hb y0
    have y1' := below_keep hb y1
    have H7 := Lib.hid (below_step H6.out hb)
    clear hb x0 x1 y0 y1 H6
    go_wp2_with fail
    refine (offset_ok O P O' P' (t + n) HS.out HS'.out T2.out _).mono ?_
    rintro y w8 ⟨rfl, hb⟩
    have H8 := Lib.hid (below_step H7.out hb)
    clear hb x0' x1' y0' y1' H7
    generalize locV O P t = c1 at *
    generalize locV O P (t + n) = c2 at *
    generalize locV O P (t + n + m) = c3 at *
    generalize locV O' P' t = c4 at *
    generalize locV O' P' (t + n) = c5 at *
    go_wp2
    go_ret
    exact ⟨ret_bool (by first | rfl | (simp; omega)), H8.out⟩

theorem clockAdds_walk (a b a' b' at1 l1 l2 : Int) (w : World) :
    Calls Try.prog 8 #[.agg #[.int .i64 a, .int .i32 b, .int .i64 a', .int .i32 b'], .int .i64 at1, .agg #[.int .i64 l1, .int .i64 l2]] w fun y w' => y = .returned (.bool true) ∧ Below w.heap.size w w' := by
  have h1 := u64_nonneg l1
  have h2 := u64_nonneg l2
  obtain ⟨v1, hv1⟩ : ∃ v, IntKind.u64.wrap l1 = v := ⟨_, rfl⟩
  obtain ⟨v2, hv2⟩ : ∃ v, IntKind.u64.wrap l2 = v := ⟨_, rfl⟩
  rw [hv1] at h1
  rw [hv2] at h2
  obtain ⟨k1, k2⟩ := tm_tick at1
  obtain ⟨n, hn⟩ : ∃ n, v1 % (1099511627776 - tmV at1 + 1) = n := ⟨_, rfl⟩
  have e0 := Int.emod_nonneg v1 (show 1099511627776 - tmV at1 + 1 ≠ 0 by omega)
  have e1 := Int.emod_lt_of_pos v1 (show 0 < 1099511627776 - tmV at1 + 1 by omega)
  rw [hn] at e0 e1
  obtain ⟨m, hm⟩ : ∃ m, v2 % (1099511627776 - tmV at1 - n + 1) = m := ⟨_, rfl⟩
  have e2 := Int.emod_nonneg v2 (show 1099511627776 - tmV at1 - n + 1 ≠ 0 by omega)
  have e3 := Int.emod_lt_of_pos v2 (show 0 < 1099511627776 - tmV at1 - n + 1 by omega)
  exact clockAdds_core a b a' b' at1 l1 l2 v1 v2 n m hv1 h1 hv2 h2 hn e0 (by omega) hm (by omega) (by omega) w

set_option maxRecDepth 100000 in
theorem clockAdds_lifted (os : Os) (started : os.Started) (H : Type) (enc : TypeId × Value → H) :
    ReturnsInHanded {} Try.checked os 8 .any (Rows.clockAddsSpec.pre6 enc Try.prog Try.f8 [] false) (Rows.clockAddsSpec.post enc Try.prog Try.f8 false true false false) := by
  refine law_lifted started Try.func8 (by kernel_rfl)
    (ChangeSpec.witness6 (enc := enc) (C := Try.checked) false ⟨#[], #[.agg #[.int .i64 0, .int .i32 0, .int .i64 0, .int .i32 0], .int .i64 0, .agg #[.int .i64 0, .int .i64 0]], []⟩ 8 (by kernel_rfl) (by kernel_rfl) (by kernel_rfl) (by kernel_rfl))
    rfl (by kernel_rfl) (by kernel_rfl) (fun ds hd => ?_) ?_
  · rw [Try.params8] at hd
    match ds, hd with
    | [_, _, _], _ => exact ⟨rfl, rfl, rfl⟩
  · intro W base args ds p hval hA
    rw [Try.params8] at hA hval
    obtain ⟨v0, vs0, d0, ds0, p0, q0, ha0, rfl, rfl, h0, r0⟩ := trodAll_cons hA
    obtain ⟨v1, vs1, d1, ds1, p1, q1, ha1, rfl, rfl, h1, r1⟩ := trodAll_cons r0
    obtain ⟨v2, vs2, d2, ds2, p2, q2, ha2, rfl, rfl, h2, r2⟩ := trodAll_cons r1
    obtain ⟨hz, rfl, rfl⟩ := trodAll_nil r2
    obtain rfl : args = #[v0, v1, v2] := by
      subst hz
      subst ha2
      subst ha1
      cases args; simpa using ha0
    obtain ⟨x0_0, x0_1, x0_2, x0_3, rfl⟩ := open_draft09s (hval 0 35 v0 rfl rfl) h0
    obtain ⟨x1, rfl, rfl, rfl, w1⟩ := open_int Try.underlying3 (hval 1 3 v1 rfl rfl) h1
    obtain ⟨x2_0, x2_1, rfl⟩ := open_ints2 (hval 2 44 v2 rfl rfl) h2
    exact clockAdds_walk x0_0 x0_1 x0_2 x0_3 x1 x2_0 x2_1 W

theorem clockAdds_holds : Rows.ClockAddsSaid :=
  OpenClaim.holds_of_wide 8 Try.f8 rfl rfl rfl rfl rfl rfl rfl ⟨rfl, rfl, rfl, rfl, rfl⟩ rfl rfl rfl rfl rfl (by kernel_rfl) Try.func8 (by kernel_rfl)
    (of_decide_eq_true (by kernel_rfl)) (by unfold Func.isWrapper; first | (rw [if_pos (by decide +kernel)]; kernel_rfl) | (rw [if_neg (by decide +kernel)]; exact ⟨rfl, rfl⟩))
    (fun os started H enc _ => clockAdds_lifted os started H enc)
#print axioms clockAdds_holds

end Go.Proofs.Ytjdiecinelapeaa
