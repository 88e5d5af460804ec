/-
  The reference's Measure. No conditions.
-/
import Derived.Test.YtkencmijghigiaaGreatMInfs
import Derived.Test.YtkencmijghigiaaGreatMDelayMeetRef
import Derived.Test.YtkencmijghigiaaGreatMDelayRef
namespace Go.Proofs.YtkencmijghigiaaGreat
open Go.RowKit Go.Lib Go.Shelf Plain

theorem newX15 (W wz : World) (hb : Below (W.alloc (.cells #[.int .i64 0, .int .i64 0, .int .i64 0, .int .i64 0] 74)).heap.size (W.alloc (.cells #[.int .i64 0, .int .i64 0, .int .i64 0, .int .i64 0] 74)) wz) :
    Hid (wz.cell? ⟨W.heap.size, 0, none⟩ = some (.int .i64 0) ∧ wz.cell? ⟨W.heap.size, 1, none⟩ = some (.int .i64 0) ∧ wz.cell? ⟨W.heap.size, 2, none⟩ = some (.int .i64 0) ∧ wz.cell? ⟨W.heap.size, 3, none⟩ = some (.int .i64 0) ∧ ∀ o, wz.frozen? ⟨W.heap.size, o, none⟩ = false) :=
  Lib.hid ⟨below_keep hb (by simp [go_sem]), below_keep hb (by simp [go_sem]), below_keep hb (by simp [go_sem]), below_keep hb (by simp [go_sem]), fun o => ((bcell hb).2 _ _ (by simp [go_sem])).trans (frozen_new _ _ _ _ rfl)⟩

theorem newXD15 (W wz : World) (hb : Below (W.alloc (.cells #[.int .i64 0, .int .i64 0, .int .i64 0, .int .i64 0] 74)).drew.heap.size (W.alloc (.cells #[.int .i64 0, .int .i64 0, .int .i64 0, .int .i64 0] 74)).drew wz) :
    Hid (wz.cell? ⟨W.heap.size, 0, none⟩ = some (.int .i64 0) ∧ wz.cell? ⟨W.heap.size, 1, none⟩ = some (.int .i64 0) ∧ wz.cell? ⟨W.heap.size, 2, none⟩ = some (.int .i64 0) ∧ wz.cell? ⟨W.heap.size, 3, none⟩ = some (.int .i64 0) ∧ ∀ o, wz.frozen? ⟨W.heap.size, o, none⟩ = false) :=
  newX15 W wz (below_step (Below.drew (Below.refl _ _)) hb)

theorem set4_15 {V wz : World} {a b c d : Int} (hb : Below V.heap.size V wz) (e0 : wz.cell? ⟨V.heap.size, 0, none⟩ = some (.int .i64 0)) (e1 : wz.cell? ⟨V.heap.size, 1, none⟩ = some (.int .i64 0)) (e2 : wz.cell? ⟨V.heap.size, 2, none⟩ = some (.int .i64 0)) (e3 : wz.cell? ⟨V.heap.size, 3, none⟩ = some (.int .i64 0)) :
    Below V.heap.size V ((((wz.setCell ⟨V.heap.size, 0, none⟩ (.int .i64 a)).setCell ⟨V.heap.size, 1, none⟩ (.int .i64 b)).setCell ⟨V.heap.size, 2, none⟩ (.int .i64 c)).setCell ⟨V.heap.size, 3, none⟩ (.int .i64 d)) ∧
      Holds ((((wz.setCell ⟨V.heap.size, 0, none⟩ (.int .i64 a)).setCell ⟨V.heap.size, 1, none⟩ (.int .i64 b)).setCell ⟨V.heap.size, 2, none⟩ (.int .i64 c)).setCell ⟨V.heap.size, 3, none⟩ (.int .i64 d)) V.heap.size [.int .i64 a, .int .i64 b, .int .i64 c, .int .i64 d] := by
  refine ⟨(((hb.setCell (Nat.le_refl _) _).setCell (Nat.le_refl _) _).setCell (Nat.le_refl _) _).setCell (Nat.le_refl _) _, ?_⟩
  intro i v hi
  match i, hi with
  | 0, hi => cases hi; simp [go_sem, e0]
  | 1, hi => cases hi; simp [go_sem, e1]
  | 2, hi => cases hi; simp [go_sem, e2]
  | 3, hi => cases hi; simp [go_sem, e3]

set_option maxHeartbeats 16000000 in
set_option maxRecDepth 100000 in
theorem refMeas_any (n : Nt) (hb : n.Bd) (hc : n.Clk) (par : Fin n.m → Fin n.m) (hp : n.Par par) (j : Fin n.m) (j0 : 0 < j.val) (w : World) (hn : n.In w) :
    Calls Tryz.prog 12 #[.agg n.vs.toArray, .int .i64 (j.val : Int)] w fun y w' => y = .returned (.tuple #[.int .i64 (meaD n par j), .int .i64 (meaR n par j)]) ∧ Below w.heap.size w w' := by
  have g0 := hb.ga0
  have g1 := hb.ga1
  have s1 := (xt_ok hb hc par j (t := 0) (by omega) (by omega)).1
  have s2 := (xt_ok hb hc par j (t := n.ga) (by omega) (by omega)).1
  have o1 := (xt_ok hb hc par j (t := 0) (by omega) (by omega)).2
  have o2 := (xt_ok hb hc par j (t := n.ga) (by omega) (by omega)).2
  have ME1 := Lib.hid (fun W => meetRef_any _ _ _ _ _ _ _ (hc j.val j.isLt) (hc (par j).val (par j).isLt) s1 W)
  have ME2 := Lib.hid (fun W => meetRef_any _ _ _ _ _ _ _ (hc j.val j.isLt) (hc (par j).val (par j).isLt) s2 W)
  have HD := Lib.hid (fun W => delayRef_any _ _ _ _ o2 W)
  have HR := Lib.hid (show ∀ W, Calls Tryz.prog 30 #[.agg #[.int .i64 (xt1 n j 0), .int .i64 (xt2 n par j 0), .int .i64 (xt3 n par j 0), .int .i64 (xt4 n j 0)], .agg #[.int .i64 (xt1 n j n.ga), .int .i64 (xt2 n par j n.ga), .int .i64 (xt3 n par j n.ga), .int .i64 (xt4 n j n.ga)]] W fun e w' => e = .returned (.tuple #[.int .i64 (meaR n par j), .int .i64 0]) ∧ Below W.heap.size W w' from fun W => by
    obtain ⟨-, y0, -, -, k0, k1⟩ := rateK_bd hb
    have hg := gap_bd hb hc j
    obtain ⟨r0, r1⟩ := meaR_bd hb hc par j
    obtain ⟨_, _, p1, p2⟩ := hc j.val j.isLt
    obtain ⟨_, _, p3, p4⟩ := hc (par j).val (par j).isLt
    have h := ratioRef_any (xt1 n j 0) (xt2 n par j 0) (xt3 n par j 0) (xt4 n j 0) (xt1 n j n.ga) (xt2 n par j n.ga) (xt3 n par j n.ga) (xt4 n j n.ga) o1 o2 W
    have hy : 1 ≤ xt4 n j n.ga - xt4 n j 0 := by omega
    have hr : -8388608 ≤ rq (xt4 n j n.ga - xt4 n j 0) (xt3 n par j n.ga - xt3 n par j 0) ∧ rq (xt4 n j n.ga - xt4 n j 0) (xt3 n par j n.ga - xt3 n par j 0) ≤ 8388608 := by
      show -8388608 ≤ meaR n par j ∧ meaR n par j ≤ 8388608
      omega
    unfold RtPost rtV rtE at h
    rw [if_pos (And.intro o1 o2), if_pos (And.intro o1 o2), if_pos hy, if_pos hy, if_pos hr, if_pos hr] at h
    exact h)
  have x0 : (0 : Int) ≤ (j.val : Int) := by omega
  have x1 : (j.val : Int) < (n.m : Int) := by have := j.isLt; omega
  have y0 : (0 : Int) ≤ ((par j).val : Int) := by omega
  have y1 : ((par j).val : Int) < (n.m : Int) := by have := (par j).isLt; omega
  have e0 : w.cell? ⟨n.bc, n.oc + j.val * 2, none⟩ = some (.int .i64 (n.cO j.val)) := hn.c0 _ j.isLt
  have e1 : w.cell? ⟨n.bc, n.oc + j.val * 2 + 1, none⟩ = some (.int .i64 (n.cP j.val)) := hn.c1 _ j.isLt
  have f0 : w.cell? ⟨n.bc, n.oc + (par j).val * 2, none⟩ = some (.int .i64 (n.cO (par j).val)) := hn.c0 _ (par j).isLt
  have f1 : w.cell? ⟨n.bc, n.oc + (par j).val * 2 + 1, none⟩ = some (.int .i64 (n.cP (par j).val)) := hn.c1 _ (par j).isLt
  have pp : w.cell? ⟨n.bp, n.op + j.val, none⟩ = some (.int .i64 ((par j).val : Int)) := by rw [hn.p _ j.isLt, hp.eq j j0]
  have dd : w.cell? ⟨n.bd, n.od + j.val, none⟩ = some (.int .i64 (n.de j.val)) := hn.d _ j.isLt
  have HD : Hid (∀ W, Calls Tryz.prog 31 #[.agg #[.int .i64 (xt1 n j n.ga), .int .i64 (xt2 n par j n.ga), .int .i64 (xt3 n par j n.ga), .int .i64 (xt4 n j n.ga)]] W fun e w' => e = .returned (.int .i64 (meaD n par j)) ∧ Below W.heap.size W w') := HD
  have ME1 : Hid (∀ W, Calls Tryz.prog 29 #[.agg #[.int .i64 (n.cO j.val), .int .i64 (n.cP j.val)], .agg #[.int .i64 (n.cO (par j).val), .int .i64 (n.cP (par j).val)], .int .i64 0, .int .i64 (n.de j.val), .int .i64 n.tu] W fun e w' => e = .returned (.agg #[.int .i64 (xt1 n j 0), .int .i64 (xt2 n par j 0), .int .i64 (xt3 n par j 0), .int .i64 (xt4 n j 0)]) ∧ Below W.heap.size W w') := ME1
  have ME2 : Hid (∀ W, Calls Tryz.prog 29 #[.agg #[.int .i64 (n.cO j.val), .int .i64 (n.cP j.val)], .agg #[.int .i64 (n.cO (par j).val), .int .i64 (n.cP (par j).val)], .int .i64 n.ga, .int .i64 (n.de j.val), .int .i64 n.tu] W fun e w' => e = .returned (.agg #[.int .i64 (xt1 n j n.ga), .int .i64 (xt2 n par j n.ga), .int .i64 (xt3 n par j n.ga), .int .i64 (xt4 n j n.ga)]) ∧ Below W.heap.size W w') := ME2
  clear hn hb hc hp o1 o2 s1 s2 g0 g1
  generalize meaD n par j = dv at *
  generalize meaR n par j = rv at *
  generalize xt1 n j 0 = A1 at *
  generalize xt2 n par j 0 = A2 at *
  generalize xt3 n par j 0 = A3 at *
  generalize xt4 n j 0 = A4 at *
  generalize xt1 n j n.ga = B1 at *
  generalize xt2 n par j n.ga = B2 at *
  generalize xt3 n par j n.ga = B3 at *
  generalize xt4 n j n.ga = B4 at *
  generalize par j = q at *
  go_enter Tryz.func12, Tryz.ntmps12
  rw [n.lit]
  go_upto_region 1 with fail
  refine wp_world ?_
  intro V hV
  have HM := Lib.hid (show Holds V w.heap.size n.vs by subst hV; exact holds_alloc w n.vs 25 rfl)
  have HV := Lib.hid (show Below w.heap.size w V by subst hV; exact below_alloc (Below.refl _ _) _)
  clear hV
  have m0 : V.cell? ⟨w.heap.size, 0, none⟩ = some (.slice (some ⟨n.bc, n.oc, none⟩) n.m n.kc) := HM.out 0 _ rfl
  have m1 : V.cell? ⟨w.heap.size, 1, none⟩ = some (.slice (some ⟨n.bp, n.op, none⟩) n.m n.kp) := HM.out 1 _ rfl
  have m2 : V.cell? ⟨w.heap.size, 2, none⟩ = some (.slice (some ⟨n.bd, n.od, none⟩) n.m n.kd) := HM.out 2 _ rfl
  have m3 : V.cell? ⟨w.heap.size, 3, none⟩ = some (.int .i64 n.tu) := HM.out 3 _ rfl
  have m4 : V.cell? ⟨w.heap.size, 4, none⟩ = some (.int .i64 n.ga) := HM.out 4 _ rfl
  have e0 := below_keep HV.out e0
  have e1 := below_keep HV.out e1
  have f0 := below_keep HV.out f0
  have f1 := below_keep HV.out f1
  have pp := below_keep HV.out pp
  have dd := below_keep HV.out dd
  go_cut [6, 7] (fun s6 s7 wx => ∃ b6 b7 : Nat, s6 = .pointer (some ⟨b6, 0, none⟩) ∧ s7 = .pointer (some ⟨b7, 0, none⟩) ∧ wx.cell? ⟨b6, 0, none⟩ = some (.int .i64 (n.cO j.val)) ∧ wx.cell? ⟨b6, 1, none⟩ = some (.int .i64 (n.cP j.val)) ∧
      wx.cell? ⟨b7, 0, none⟩ = some (.int .i64 (n.cO q.val)) ∧ wx.cell? ⟨b7, 1, none⟩ = some (.int .i64 (n.cP q.val)) ∧ Below V.heap.size V wx)
  case first =>
    have HK := Lib.hid (fun wx (hB : Below V.heap.size V wx) => (⟨hB, below_keep hB m0, below_keep hB m1, below_keep hB e0, below_keep hB e1, below_keep hB f0, below_keep hB f1, below_keep hB pp⟩ :
      Below V.heap.size V wx ∧ wx.cell? ⟨w.heap.size, 0, none⟩ = some (.slice (some ⟨n.bc, n.oc, none⟩) n.m n.kc) ∧ wx.cell? ⟨w.heap.size, 1, none⟩ = some (.slice (some ⟨n.bp, n.op, none⟩) n.m n.kp) ∧ wx.cell? ⟨n.bc, n.oc + j.val * 2, none⟩ = some (.int .i64 (n.cO j.val)) ∧ wx.cell? ⟨n.bc, n.oc + j.val * 2 + 1, none⟩ = some (.int .i64 (n.cP j.val)) ∧ wx.cell? ⟨n.bc, n.oc + q.val * 2, none⟩ = some (.int .i64 (n.cO q.val)) ∧ wx.cell? ⟨n.bc, n.oc + q.val * 2 + 1, none⟩ = some (.int .i64 (n.cP q.val)) ∧ wx.cell? ⟨n.bp, n.op + j.val, none⟩ = some (.int .i64 (q.val : Int))))
    go_region_held3 (fun wx => Below V.heap.size V wx ∧ wx.cell? ⟨w.heap.size, 0, none⟩ = some (.slice (some ⟨n.bc, n.oc, none⟩) n.m n.kc) ∧ wx.cell? ⟨w.heap.size, 1, none⟩ = some (.slice (some ⟨n.bp, n.op, none⟩) n.m n.kp) ∧ wx.cell? ⟨n.bc, n.oc + j.val * 2, none⟩ = some (.int .i64 (n.cO j.val)) ∧ wx.cell? ⟨n.bc, n.oc + j.val * 2 + 1, none⟩ = some (.int .i64 (n.cP j.val)) ∧ wx.cell? ⟨n.bc, n.oc + q.val * 2, none⟩ = some (.int .i64 (n.cO q.val)) ∧ wx.cell? ⟨n.bc, n.oc + q.val * 2 + 1, none⟩ = some (.int .i64 (n.cP q.val)) ∧ wx.cell? ⟨n.bp, n.op + j.val, none⟩ = some (.int .i64 (q.val : Int)))
      (first | assumption | (refine HK.out _ ?_; repeat (first | exact Below.refl _ _ | refine Below.drew ?_ | refine Below.setCell ?_ (by first | exact Nat.le_refl _ | omega | (simp; done) | (simp; omega)) _ | refine Below.alloc ?_ (by first | exact Nat.le_refl _ | omega | (simp; done) | (simp; omega)) _)) | fail)
      (fail)
    all_goals go_wp2_with fail
    all_goals go_meet
    all_goals
      obtain ⟨hB, _⟩ := ‹Below V.heap.size _ _ ∧ _›
      exact ⟨_, _, rfl, rfl, by simp [go_sem, *], by simp [go_sem, *], by simp [go_sem, *], by simp [go_sem, *], hB⟩
  case rest =>
    obtain ⟨b6, b7, rfl, rfl, k0, k1, l0, l1, hB⟩ := hcut
    obtain ⟨V2, hV2⟩ : ∃ W, W = wc := ⟨_, rfl⟩
    subst hV2
    have H2 := Lib.hid (below_step HV.out hB)
    have m2' := below_keep hB m2
    have m3' := below_keep hB m3
    have m4' := below_keep hB m4
    have dd' := below_keep hB dd
    clear m0 m1 m2 m3 m4 e0 e1 f0 f1 pp dd hB HV HM
    go_upto_region 2 with fail
    go_cut [8] (fun s wx => ∃ b : Nat, s = .pointer (some ⟨b, 0, none⟩) ∧ Below V2.heap.size V2 wx ∧ Holds wx b [.int .i64 A1, .int .i64 A2, .int .i64 A3, .int .i64 A4])
    case first =>
      have jb := Lib.hid (Below.drew (Below.refl V2.heap.size V2))
      have HK := Lib.hid (fun wx (hB : Below V2.heap.size V2 wx) => (⟨hB, below_keep hB k0, below_keep hB k1, below_keep hB l0, below_keep hB l1, below_keep hB m2', below_keep hB m3', below_keep hB dd'⟩ : Below V2.heap.size V2 wx ∧ wx.cell? ⟨b6, 0, none⟩ = some (.int .i64 (n.cO j.val)) ∧ wx.cell? ⟨b6, 1, none⟩ = some (.int .i64 (n.cP j.val)) ∧ wx.cell? ⟨b7, 0, none⟩ = some (.int .i64 (n.cO q.val)) ∧ wx.cell? ⟨b7, 1, none⟩ = some (.int .i64 (n.cP q.val)) ∧ wx.cell? ⟨w.heap.size, 2, none⟩ = some (.slice (some ⟨n.bd, n.od, none⟩) n.m n.kd) ∧ wx.cell? ⟨w.heap.size, 3, none⟩ = some (.int .i64 n.tu) ∧ wx.cell? ⟨n.bd, n.od + j.val, none⟩ = some (.int .i64 (n.de j.val))))
      have z0 := World.block_lt_of_cell? _ _ k0; have z1 := World.block_lt_of_cell? _ _ k1; have z2 := World.block_lt_of_cell? _ _ l0; have z3 := World.block_lt_of_cell? _ _ l1; have z4 := World.block_lt_of_cell? _ _ m2'; have z5 := World.block_lt_of_cell? _ _ m3'; have z6 := World.block_lt_of_cell? _ _ dd'
      go_region_held3 (fun wx => Below V2.heap.size V2 wx ∧ wx.cell? ⟨b6, 0, none⟩ = some (.int .i64 (n.cO j.val)) ∧ wx.cell? ⟨b6, 1, none⟩ = some (.int .i64 (n.cP j.val)) ∧ wx.cell? ⟨b7, 0, none⟩ = some (.int .i64 (n.cO q.val)) ∧ wx.cell? ⟨b7, 1, none⟩ = some (.int .i64 (n.cP q.val)) ∧ wx.cell? ⟨w.heap.size, 2, none⟩ = some (.slice (some ⟨n.bd, n.od, none⟩) n.m n.kd) ∧ wx.cell? ⟨w.heap.size, 3, none⟩ = some (.int .i64 n.tu) ∧ wx.cell? ⟨n.bd, n.od + j.val, none⟩ = some (.int .i64 (n.de j.val)))
        (first | assumption | (refine HK.out _ ?_; (repeat (first | with_reducible exact jb.out | with_reducible exact Below.refl _ _ | with_reducible refine Below.drew ?_ | refine Below.setCell ?_ (by first | exact Nat.le_refl _ | omega | (simp; done) | (simp; omega)) _ | refine Below.alloc ?_ (by first | exact Nat.le_refl _ | omega | (simp; done) | (simp; omega)) _)); done) | fail)
        (first | (go_at_call 29; refine (ME1.out _).mono ?_; rintro e wz ⟨rfl, hb3⟩; (try ((first | (with_reducible have en := newXD15 _ _ hb3) | (with_reducible have en := newX15 _ _ hb3)); obtain ⟨e0, e1, e2, e3, e4⟩ := en.out; clear en)); have jb := Lib.hid (show Below V2.heap.size V2 wz from below_step (by (repeat (first | with_reducible exact jb.out | with_reducible exact Below.refl _ _ | with_reducible refine Below.drew ?_ | refine Below.setCell ?_ (by first | exact Nat.le_refl _ | omega | (simp; done) | (simp; omega)) _ | refine Below.alloc ?_ (by first | exact Nat.le_refl _ | omega | (simp; done) | (simp; omega)) _))) hb3); have jz : V2.heap.size ≤ wz.heap.size := jb.out.size; clear hb3) | fail)
      all_goals
        go_wp2_with fail
        go_meet
        refine ⟨_, rfl, ?_⟩
        first | (with_reducible exact ⟨below_alloc jb.out _, holds_alloc _ _ _ rfl⟩) | (with_reducible exact set4_15 jb.out e0 e1 e2 e3)
    case rest =>
      obtain ⟨b8, rfl, hB, hX⟩ := hcut
      obtain ⟨wc3, hw3⟩ : ∃ W, W = wc := ⟨_, rfl⟩
      subst hw3
      have X3 := Lib.hid hX
      have H3 := Lib.hid (below_step H2.out hB)
      have k03 := below_keep hB k0
      have k13 := below_keep hB k1
      have l03 := below_keep hB l0
      have l13 := below_keep hB l1
      have m2'3 := below_keep hB m2'
      have m3'3 := below_keep hB m3'
      have m4'3 := below_keep hB m4'
      have dd'3 := below_keep hB dd'
      clear k0 k1 l0 l1 m2' m3' m4' dd' hB hX H2 ME1
      go_upto_region 3 with fail
      go_cut [9] (fun s wx => ∃ b : Nat, s = .pointer (some ⟨b, 0, none⟩) ∧ Below wc3.heap.size wc3 wx ∧ Holds wx b [.int .i64 B1, .int .i64 B2, .int .i64 B3, .int .i64 B4])
      case first =>
        have jb := Lib.hid (Below.drew (Below.refl wc3.heap.size wc3))
        have HK := Lib.hid (fun wx (hB : Below wc3.heap.size wc3 wx) => (⟨hB, below_keep hB k03, below_keep hB k13, below_keep hB l03, below_keep hB l13, below_keep hB m2'3, below_keep hB m3'3, below_keep hB dd'3, below_keep hB m4'3⟩ : Below wc3.heap.size wc3 wx ∧ wx.cell? ⟨b6, 0, none⟩ = some (.int .i64 (n.cO j.val)) ∧ wx.cell? ⟨b6, 1, none⟩ = some (.int .i64 (n.cP j.val)) ∧ wx.cell? ⟨b7, 0, none⟩ = some (.int .i64 (n.cO q.val)) ∧ wx.cell? ⟨b7, 1, none⟩ = some (.int .i64 (n.cP q.val)) ∧ wx.cell? ⟨w.heap.size, 2, none⟩ = some (.slice (some ⟨n.bd, n.od, none⟩) n.m n.kd) ∧ wx.cell? ⟨w.heap.size, 3, none⟩ = some (.int .i64 n.tu) ∧ wx.cell? ⟨n.bd, n.od + j.val, none⟩ = some (.int .i64 (n.de j.val)) ∧ wx.cell? ⟨w.heap.size, 4, none⟩ = some (.int .i64 n.ga)))
        have z0 := World.block_lt_of_cell? _ _ k03; have z1 := World.block_lt_of_cell? _ _ k13; have z2 := World.block_lt_of_cell? _ _ l03; have z3 := World.block_lt_of_cell? _ _ l13; have z4 := World.block_lt_of_cell? _ _ m2'3; have z5 := World.block_lt_of_cell? _ _ m3'3; have z6 := World.block_lt_of_cell? _ _ dd'3; have z7 := World.block_lt_of_cell? _ _ m4'3
        go_region_held3 (fun wx => Below wc3.heap.size wc3 wx ∧ wx.cell? ⟨b6, 0, none⟩ = some (.int .i64 (n.cO j.val)) ∧ wx.cell? ⟨b6, 1, none⟩ = some (.int .i64 (n.cP j.val)) ∧ wx.cell? ⟨b7, 0, none⟩ = some (.int .i64 (n.cO q.val)) ∧ wx.cell? ⟨b7, 1, none⟩ = some (.int .i64 (n.cP q.val)) ∧ wx.cell? ⟨w.heap.size, 2, none⟩ = some (.slice (some ⟨n.bd, n.od, none⟩) n.m n.kd) ∧ wx.cell? ⟨w.heap.size, 3, none⟩ = some (.int .i64 n.tu) ∧ wx.cell? ⟨n.bd, n.od + j.val, none⟩ = some (.int .i64 (n.de j.val)) ∧ wx.cell? ⟨w.heap.size, 4, none⟩ = some (.int .i64 n.ga))
          (first | assumption | (refine HK.out _ ?_; (repeat (first | with_reducible exact jb.out | with_reducible exact Below.refl _ _ | with_reducible refine Below.drew ?_ | refine Below.setCell ?_ (by first | exact Nat.le_refl _ | omega | (simp; done) | (simp; omega)) _ | refine Below.alloc ?_ (by first | exact Nat.le_refl _ | omega | (simp; done) | (simp; omega)) _)); done) | fail)
          (first | (go_at_call 29; refine (ME2.out _).mono ?_; rintro e wz ⟨rfl, hb3⟩; (try ((first | (with_reducible have en := newXD15 _ _ hb3) | (with_reducible have en := newX15 _ _ hb3)); obtain ⟨e0, e1, e2, e3, e4⟩ := en.out; clear en)); have jb := Lib.hid (show Below wc3.heap.size wc3 wz from below_step (by (repeat (first | with_reducible exact jb.out | with_reducible exact Below.refl _ _ | with_reducible refine Below.drew ?_ | refine Below.setCell ?_ (by first | exact Nat.le_refl _ | omega | (simp; done) | (simp; omega)) _ | refine Below.alloc ?_ (by first | exact Nat.le_refl _ | omega | (simp; done) | (simp; omega)) _))) hb3); have jz : wc3.heap.size ≤ wz.heap.size := jb.out.size; clear hb3) | fail)
        all_goals
          go_wp2_with fail
          go_meet
          refine ⟨_, rfl, ?_⟩
          first | (with_reducible exact ⟨below_alloc jb.out _, holds_alloc _ _ _ rfl⟩) | (with_reducible exact set4_15 jb.out e0 e1 e2 e3)
      case rest =>
        obtain ⟨b9, rfl, hB, hX⟩ := hcut
        have H4 := Lib.hid (below_step H3.out hB)
        have Y4 := Lib.hid hX
        have X4 := Lib.hid (X3.out.keep hB)
        clear k03 k13 l03 l13 m2'3 m3'3 m4'3 dd'3 hB hX H3 X3 ME2
        have hae := Lib.hid agg_ex
        have hse := Lib.hid size_ex
        go_wp2_with (first | ((with_reducible refine at_load 74 (.tmp 9) ?_); refine wpList_load_whole rfl (.tmp 9) 74 rfl b9 0 [.int .i64 B1, .int .i64 B2, .int .i64 B3, .int .i64 B4] rfl hae.out hse.out Y4.out ?_; simp only [Act.put, List.setIfInBounds_toArray, List.set_cons_succ, List.set_cons_zero]) | ((with_reducible refine at_load 74 (.tmp 8) ?_); refine wpList_load_whole rfl (.tmp 8) 74 rfl b8 0 [.int .i64 A1, .int .i64 A2, .int .i64 A3, .int .i64 A4] rfl hae.out hse.out X4.out ?_; simp only [Act.put, List.setIfInBounds_toArray, List.set_cons_succ, List.set_cons_zero]))
        refine (HR.out _).mono ?_
        rintro y w5 ⟨rfl, hb5⟩
        have Y5 := Lib.hid (Y4.out.keep hb5)
        have H5 := Lib.hid (below_step H4.out hb5)
        clear hb5 Y4 X4 H4
        go_wp2_with ((with_reducible refine at_load 74 (.tmp 9) ?_); refine wpList_load_whole rfl (.tmp 9) 74 rfl b9 0 [.int .i64 B1, .int .i64 B2, .int .i64 B3, .int .i64 B4] rfl hae.out hse.out Y5.out ?_; simp only [Act.put, List.setIfInBounds_toArray, List.set_cons_succ, List.set_cons_zero])
        refine (HD.out _).mono ?_
        rintro y w6 ⟨rfl, hb6⟩
        have H6 := Lib.hid (below_step H5.out hb6)
        go_wp2
        refine bodyPost_ret (v := .tuple #[.int .i64 dv, .int .i64 rv]) ?_ rfl ⟨rfl, H6.out⟩
        simp [results, Tryz.results12]

end Go.Proofs.YtkencmijghigiaaGreat
