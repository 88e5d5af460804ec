/-
  (tree).measure: what a node measures of its link. No conditions.
-/
import Derived.Test.YtkencmijghigiaaGreatMOps
import Derived.Test.YtkencmijghigiaaGreatMDelayMeet
namespace Go.Proofs.YtkencmijghigiaaGreat
open Go.RowKit Go.Lib Go.Shelf Plain

theorem loc_step {O P t x : Int} (hP : -200000 ≤ P ∧ P ≤ 200000) (hx : 0 ≤ x) (hx1 : x ≤ 1099511627776) : locV O P t ≤ locV O P (t + x) ∧ (10000 ≤ x → 1 ≤ locV O P (t + x) - locV O P t) := by
  have h := dgain_bd t x P
  have hu := mul_bd (x := x) (p := P) (X := x) (P := 200000) (by omega) (by omega) hP.1 hP.2
  unfold locV
  generalize share (t + x) P = a at *
  generalize share t P = b at *
  rcases Int.lt_or_le 0 x with h0 | h0
  · omega
  · obtain rfl : x = 0 := by omega
    rw [Int.add_zero] at *
    omega

/-- All clocks are valid. -/
def Nt.Clk (n : Nt) : Prop := ∀ j, j < n.m → OkC (n.cO j) (n.cP j)
/-- The four times of a measurement at t. -/
def xt1 (n : Nt) (j : Fin n.m) (t : Int) : Int := locV (n.cO j.val) (n.cP j.val) t
def xt2 (n : Nt) (par : Fin n.m → Fin n.m) (j : Fin n.m) (t : Int) : Int := locV (n.cO (par j).val) (n.cP (par j).val) (t + n.de j.val)
def xt3 (n : Nt) (par : Fin n.m → Fin n.m) (j : Fin n.m) (t : Int) : Int := locV (n.cO (par j).val) (n.cP (par j).val) (t + n.de j.val + n.tu)
def xt4 (n : Nt) (j : Fin n.m) (t : Int) : Int := locV (n.cO j.val) (n.cP j.val) (t + 2 * n.de j.val + n.tu)
/-- The measured delay and rate. -/
def meaD (n : Nt) (par : Fin n.m → Fin n.m) (j : Fin n.m) : Int := dlV (xt1 n j n.ga) (xt2 n par j n.ga) (xt3 n par j n.ga) (xt4 n j n.ga)
def meaR (n : Nt) (par : Fin n.m → Fin n.m) (j : Fin n.m) : Int := rq (xt4 n j n.ga - xt4 n j 0) (xt3 n par j n.ga - xt3 n par j 0)

theorem xt_ok {n : Nt} (hb : n.Bd) (hc : n.Clk) (par : Fin n.m → Fin n.m) (j : Fin n.m) {t : Int} (t0 : 0 ≤ t) (t1 : t ≤ 1073741824) : Spn t (n.de j.val) n.tu ∧ OkX (xt1 n j t) (xt2 n par j t) (xt3 n par j t) (xt4 n j t) := by
  have d0 := hb.de0 j.val j.isLt
  have d1 := hb.de1 j.val j.isLt
  have u0 := hb.tu0
  have u1 := hb.tu1
  have c1 := hc j.val j.isLt
  have c2 := hc (par j).val (par j).isLt
  have a1 := loc_bd c1 (t := t) ⟨t0, by omega⟩
  have a2 := loc_bd c2 (t := t + n.de j.val) ⟨by omega, by omega⟩
  have a3 := loc_bd c2 (t := t + n.de j.val + n.tu) ⟨by omega, by omega⟩
  have a4 := loc_bd c1 (t := t + 2 * n.de j.val + n.tu) ⟨by omega, by omega⟩
  have m1 := loc_mono (O := n.cO j.val) (P := n.cP j.val) (x := t) (y := t + 2 * n.de j.val + n.tu) c1.2.2.1 (by omega)
  have m2 := loc_mono (O := n.cO (par j).val) (P := n.cP (par j).val) (x := t + n.de j.val) (y := t + n.de j.val + n.tu) c2.2.2.1 (by omega)
  refine ⟨⟨⟨t0, by omega⟩, ⟨d0, by omega⟩, ⟨u0, by omega⟩, by omega⟩, ?_⟩
  unfold xt1 xt2 xt3 xt4
  exact ⟨⟨by omega, by omega⟩, ⟨by omega, by omega⟩, ⟨by omega, by omega⟩, ⟨by omega, by omega⟩, m1, m2⟩
/-- What a node's clock advances between the measurements. -/
theorem gap_bd {n : Nt} (hb : n.Bd) (hc : n.Clk) (j : Fin n.m) : n.ga - drV n.ga ≤ xt4 n j n.ga - xt4 n j 0 := by
  obtain ⟨e, d0, d1⟩ := drV_bd (x := n.ga) (by have := hb.ga0; omega) (by have := hb.ga1; omega)
  have h := gain_drift (t := 2 * n.de j.val + n.tu) (n := n.ga) (P := n.cP j.val) (p := 200000) (by have := hb.ga0; omega) (hc j.val j.isLt).2.2.1 (hc j.val j.isLt).2.2.2
  rw [e]
  unfold xt4 locV
  rw [show n.ga + 2 * n.de j.val + n.tu = 2 * n.de j.val + n.tu + n.ga by omega, show (0 : Int) + 2 * n.de j.val + n.tu = 2 * n.de j.val + n.tu by omega]
  omega
/-- The measured rate differs from the rates' difference by at most the bound. -/
theorem meaR_bd {n : Nt} (hb : n.Bd) (hc : n.Clk) (par : Fin n.m → Fin n.m) (j : Fin n.m) :
    n.cP (par j).val - n.cP j.val - rateK n ≤ meaR n par j ∧ meaR n par j ≤ n.cP (par j).val - n.cP j.val + rateK n := by
  obtain ⟨-, y0, -, ek, -, -⟩ := rateK_bd hb
  have hg := gap_bd hb hc j
  have c1 := hc j.val j.isLt
  have c2 := hc (par j).val (par j).isLt
  have hr := rates_plain (t := 2 * n.de j.val + n.tu) (g := n.ga) (P := n.cP j.val) (P' := n.cP (par j).val) (by have := hb.ga0; omega) c1.2.2.1 c1.2.2.2 c2.2.2.1 c2.2.2.2 (xt4 n j n.ga - xt4 n j 0) (xt3 n par j n.ga - xt3 n par j 0)
    (by unfold xt4 locV; rw [show n.ga + 2 * n.de j.val + n.tu = 2 * n.de j.val + n.tu + n.ga by omega, show (0 : Int) + 2 * n.de j.val + n.tu = 2 * n.de j.val + n.tu by omega]; omega) (n.de j.val + n.tu)
    (by unfold xt3 locV; rw [show n.ga + n.de j.val + n.tu = n.de j.val + n.tu + n.ga by omega, show (0 : Int) + n.de j.val + n.tu = n.de j.val + n.tu by omega]; omega) (by omega)
  have hm : rbV (xt4 n j n.ga - xt4 n j 0) ≤ rateK n := by
    rw [ek]
    unfold rbV
    generalize xt4 n j n.ga - xt4 n j 0 = y at *
    generalize n.ga - drV n.ga = y' at *
    have h1 : (-2001000000 : Int) / y' ≤ (-2001000000) / y := by
      refine (Int.le_ediv_iff_mul_le (by omega)).2 ?_
      have h2 := Int.ediv_mul_le (-2001000000) (show y' ≠ 0 by omega)
      have h3 : (-2001000000 : Int) / y' < 0 := Int.ediv_lt_of_lt_mul (by omega) (by omega)
      have h4 : (-2001000000 : Int) / y' * y ≤ (-2001000000 : Int) / y' * y' := Int.mul_le_mul_of_nonpos_left (by omega) hg
      omega
    omega
  unfold meaR
  omega
theorem meaD_bd {n : Nt} (hb : n.Bd) (hc : n.Clk) (par : Fin n.m → Fin n.m) (j : Fin n.m) :
    n.de j.val - dbV 200000 (n.de j.val) n.tu ≤ meaD n par j ∧ meaD n par j ≤ n.de j.val + dbV 200000 (n.de j.val) n.tu := by
  have c1 := hc j.val j.isLt
  have c2 := hc (par j).val (par j).isLt
  exact near_plain (t := n.ga) (hb.de0 j.val j.isLt) hb.tu0 c1.2.2.1 c1.2.2.2 c2.2.2.1 c2.2.2.2

theorem agg_ex : ∀ w, (isAgg 74).run Tryz.prog w = .ok true w := fun w => by kernel_rfl
theorem size_ex : ∀ w, (sizeOf 74).run Tryz.prog w = .ok 4 w := fun w => by kernel_rfl
theorem four_one (a b c d : Int) : ∀ v ∈ [Value.int .i64 a, .int .i64 b, .int .i64 c, .int .i64 d], v.oneCell' = true := by
  intro v hv
  simp only [List.mem_cons, List.not_mem_nil, or_false] at hv
  rcases hv with rfl | rfl | rfl | rfl <;> rfl
theorem cell_al15 {w : World} {a : Addr} {v : Value} (h : w.cell? a = some v) (o : Obj) : (w.alloc o).cell? a = some v := (World.cell?_alloc_lt _ _ _ (World.block_lt_of_cell? _ _ h)).trans h

set_option maxHeartbeats 8000000 in
set_option maxRecDepth 100000 in
theorem meas1_any (n : Nt) (hb : n.Bd) (hc : n.Clk) (par : Fin n.m → Fin n.m) (hp : n.Par par) (j : Fin n.m) (j0 : 0 < j.val) (bt bi : Nat) (t : Int) (t0 : 0 ≤ t) (t1 : t ≤ 1073741824) (w : World) (hn : n.In w) (hT : Holds w bt n.vs) (hi : w.cell? ⟨bi, 0, none⟩ = some (.int .i64 (j.val : Int))) :
    Calls Tryz.prog 43 #[.int .i64 t, .pointer (some ⟨bt, 0, none⟩), .pointer (some ⟨bi, 0, none⟩)] w fun y w' =>
      y = .returned (.tuple #[.agg #[.int .i64 (xt1 n j t), .int .i64 (xt2 n par j t), .int .i64 (xt3 n par j t), .int .i64 (xt4 n j t)], .int .i64 0]) ∧ Below w.heap.size w w' := by
  have HMe := Lib.hid (show ∀ W, Calls Tryz.prog 44 #[.agg #[.int .i64 (n.cO j.val), .int .i64 (n.cP j.val)], .agg #[.int .i64 (n.cO (par j).val), .int .i64 (n.cP (par j).val)], .int .i64 t, .int .i64 (n.de j.val), .int .i64 n.tu] W fun e w' => e = .returned (.tuple #[.agg #[.int .i64 (xt1 n j t), .int .i64 (xt2 n par j t), .int .i64 (xt3 n par j t), .int .i64 (xt4 n j t)], .int .i64 0]) ∧ Below W.heap.size W w' from fun W =>
    meet_ok _ _ _ _ _ _ _ (hc j.val j.isLt) (hc (par j).val (par j).isLt) (xt_ok hb hc par j t0 t1).1 W)
  have x0 : (0 : Int) ≤ (j.val : Int) := by omega
  have x1 : (j.val : Int) < (n.m : Int) := by have := j.isLt; omega
  have y0 : (0 : Int) ≤ ((par j).val : Int) := by omega
  have y1 : ((par j).val : Int) < (n.m : Int) := by have := (par j).isLt; omega
  have e0 : w.cell? ⟨n.bc, n.oc + j.val * 2, none⟩ = some (.int .i64 (n.cO j.val)) := hn.c0 _ j.isLt
  have e1 : w.cell? ⟨n.bc, n.oc + j.val * 2 + 1, none⟩ = some (.int .i64 (n.cP j.val)) := hn.c1 _ j.isLt
  have g0 : w.cell? ⟨n.bc, n.oc + (par j).val * 2, none⟩ = some (.int .i64 (n.cO (par j).val)) := hn.c0 _ (par j).isLt
  have g1 : w.cell? ⟨n.bc, n.oc + (par j).val * 2 + 1, none⟩ = some (.int .i64 (n.cP (par j).val)) := hn.c1 _ (par j).isLt
  have pp : w.cell? ⟨n.bp, n.op + j.val, none⟩ = some (.int .i64 ((par j).val : Int)) := by rw [hn.p _ j.isLt, hp.eq j j0]
  have dd : w.cell? ⟨n.bd, n.od + j.val, none⟩ = some (.int .i64 (n.de j.val)) := hn.d _ j.isLt
  have k0 : w.cell? ⟨bt, 0, none⟩ = some (.slice (some ⟨n.bc, n.oc, none⟩) n.m n.kc) := hT 0 _ rfl
  have k1 : w.cell? ⟨bt, 1, none⟩ = some (.slice (some ⟨n.bp, n.op, none⟩) n.m n.kp) := hT 1 _ rfl
  have k2 : w.cell? ⟨bt, 2, none⟩ = some (.slice (some ⟨n.bd, n.od, none⟩) n.m n.kd) := hT 2 _ rfl
  have k3 : w.cell? ⟨bt, 3, none⟩ = some (.int .i64 n.tu) := hT 3 _ rfl
  generalize par j = q at *
  generalize xt1 n j t = v1 at *
  generalize xt2 n par j t = v2 at *
  generalize xt3 n par j t = v3 at *
  generalize xt4 n j t = v4 at *
  clear hT hn hp hc hb
  go_enter Tryz.func43, Tryz.ntmps43
  go_upto_region 1 with fail
  refine wp_world ?_
  intro V hV
  have HV := Lib.hid (show Below w.heap.size w V by subst hV; exact below_alloc (Below.refl _ _) _)
  have HZ := Lib.hid (show Holds V w.heap.size [.int .i64 0, .int .i64 0, .int .i64 0, .int .i64 0] by subst hV; exact holds_alloc w [.int .i64 0, .int .i64 0, .int .i64 0, .int .i64 0] 74 rfl)
  have FZ := Lib.hid (show ∀ u, V.frozen? ⟨w.heap.size, u, none⟩ = false by subst hV; intro u; exact frozen_new _ _ _ _ rfl)
  clear hV
  have b := HV.out
  have r0 := fun p : Regrown => cell_regrown (below_keep b e0) p.d p.os
  have r1 := fun p : Regrown => cell_regrown (below_keep b e1) p.d p.os
  have r2 := fun p : Regrown => cell_regrown (below_keep b g0) p.d p.os
  have r3 := fun p : Regrown => cell_regrown (below_keep b g1) p.d p.os
  have r4 := fun p : Regrown => cell_regrown (below_keep b pp) p.d p.os
  have r5 := fun p : Regrown => cell_regrown (below_keep b dd) p.d p.os
  have r6 := fun p : Regrown => cell_regrown (below_keep b k0) p.d p.os
  have r7 := fun p : Regrown => cell_regrown (below_keep b k1) p.d p.os
  have r8 := fun p : Regrown => cell_regrown (below_keep b k2) p.d p.os
  have r9 := fun p : Regrown => cell_regrown (below_keep b k3) p.d p.os
  have ri := fun p : Regrown => cell_regrown (below_keep b hi) p.d p.os
  clear e0 e1 g0 g1 pp dd k0 k1 k2 k3 hi b
  refine wp_region_quiet_tail 30 (by kernel_rfl) (by kernel_rfl) ?_
  simp only [List.take_succ_cons, List.take_zero, List.drop_succ_cons, List.drop_zero]
  repeat (go_big_quiet_step (exact Calls.regrown_of (HMe.out _)))
  refine wpQuiet_nil ?_
  intro w6 hw
  have b6 : Below V.heap.size V w6 := by obtain ⟨p, rfl⟩ := hw; exact below_regrown _ _ _
  have Z6 := Lib.hid (HZ.out.keep b6)
  have zw : w.heap.size < V.heap.size := World.block_lt_of_cell? _ _ (HZ.out 0 _ rfl)
  have F6 := Lib.hid (show ∀ u, w6.frozen? ⟨w.heap.size, u, none⟩ = false from fun u => by rw [(bcell b6).2 _ _ zw]; exact FZ.out u)
  have H6 := Lib.hid (below_step HV.out b6)
  have ha := Lib.hid agg_ex
  have hs := Lib.hid (show ∀ w, (sizeOf 74).run Tryz.prog w = .ok [Value.int .i64 v1, .int .i64 v2, .int .i64 v3, .int .i64 v4].length w from size_ex)
  go_wp2_with ((with_reducible refine at_store 74 (.tmp 4) (.tmp 34) ?_); refine wpList_store_whole rfl (.tmp 4) (.tmp 34) 74 rfl w.heap.size 0 [.int .i64 v1, .int .i64 v2, .int .i64 v3, .int .i64 v4] rfl rfl hs.out (fun j hj => Z6.out.some j hj) (fun j _ => F6.out _) (four_one _ _ _ _) ?_; intro w7 hw7)
  have hL2 := run_loadVar_whole (P := Tryz.prog) (w := w7) 74 w.heap.size 0 [.int .i64 v1, .int .i64 v2, .int .i64 v3, .int .i64 v4] ha.out hs.out hw7.here
  exact bodyPost_ret (v := .tuple #[.agg #[.int .i64 v1, .int .i64 v2, .int .i64 v3, .int .i64 v4], .int .i64 0]) (results_cell_tmp 4 5 74 Tryz.results43 w.heap.size 0 _ _ rfl hL2 rfl) rfl ⟨rfl, hw7.below _ _ (Nat.le_refl _) H6.out⟩

set_option maxHeartbeats 8000000 in
set_option maxRecDepth 100000 in
theorem measure_any (n : Nt) (hb : n.Bd) (hc : n.Clk) (par : Fin n.m → Fin n.m) (hp : n.Par par) (j : Fin n.m) (j0 : 0 < j.val) (w : World) (hn : n.In w) :
    Calls Tryz.prog 26 #[.agg n.vs.toArray, .int .i64 (j.val : Int)] w fun y w' => y = .returned (.tuple #[.int .i64 (meaD n par j), .int .i64 (meaR n par j), .int .i64 0]) ∧ Below w.heap.size w w' := by
  have g0 := hb.ga0
  have g1 := hb.ga1
  have o1 := (xt_ok hb hc par j (t := 0) (by omega) (by omega)).2
  have o2 := (xt_ok hb hc par j (t := n.ga) (by omega) (by omega)).2
  have HM := Lib.hid (fun (t : Int) (h : 0 ≤ t ∧ t ≤ 1073741824) (bt bi : Nat) (W : World) (hn : n.In W) (hT : Holds W bt n.vs) (hi : W.cell? ⟨bi, 0, none⟩ = some (.int .i64 (j.val : Int))) => meas1_any n hb hc par hp j j0 bt bi t h.1 h.2 W hn hT hi)
  have HD := Lib.hid (show ∀ W, Calls Tryz.prog 45 #[.agg #[.int .i64 (xt1 n j n.ga), .int .i64 (xt2 n par j n.ga), .int .i64 (xt3 n par j n.ga), .int .i64 (xt4 n j n.ga)]] W fun e w' => e = .returned (.tuple #[.int .i64 (meaD n par j), .int .i64 0]) ∧ Below W.heap.size W w' from fun W => by
    have h := delay_any (xt1 n j n.ga) (xt2 n par j n.ga) (xt3 n par j n.ga) (xt4 n j n.ga) W
    rw [show delV (xt1 n j n.ga) (xt2 n par j n.ga) (xt3 n par j n.ga) (xt4 n j n.ga) = meaD n par j from if_pos o2, show xV (xt1 n j n.ga) (xt2 n par j n.ga) (xt3 n par j n.ga) (xt4 n j n.ga) = 0 from if_pos o2] at h
    exact h)
  have HR := Lib.hid (show ∀ W, Calls Tryz.prog 46 #[.agg #[.int .i64 (xt1 n j 0), .int .i64 (xt2 n par j 0), .int .i64 (xt3 n par j 0), .int .i64 (xt4 n j 0)], .agg #[.int .i64 (xt1 n j n.ga), .int .i64 (xt2 n par j n.ga), .int .i64 (xt3 n par j n.ga), .int .i64 (xt4 n j n.ga)]] W fun e w' => e = .returned (.tuple #[.int .i64 (meaR n par j), .int .i64 0]) ∧ Below W.heap.size W w' from fun W => by
    obtain ⟨-, y0, -, -, k0, k1⟩ := rateK_bd hb
    have hg := gap_bd hb hc j
    obtain ⟨r0, r1⟩ := meaR_bd hb hc par j
    have c1 := hc j.val j.isLt
    have c2 := hc (par j).val (par j).isLt
    obtain ⟨_, _, p1, p2⟩ := c1
    obtain ⟨_, _, p3, p4⟩ := c2
    exact ratio_ok _ _ _ _ _ _ _ _ o1 o2 (by omega) (meaR n par j) 0 (.inl ⟨rfl, by omega, by omega, rfl⟩) W)
  have HN := Lib.hid hn
  clear hn o1 o2 hb hc hp
  generalize meaD n par j = dv at *
  generalize meaR n par j = rv at *
  go_enter Tryz.func26, Tryz.ntmps26
  rw [n.lit]
  go_upto_region 1 with fail
  refine wp_world ?_
  intro V hV
  have M0 := Lib.hid (show Holds V w.heap.size n.vs by subst hV; exact (holds_alloc w n.vs 67 rfl).alloc (by simp) _)
  have i0 : V.cell? ⟨w.heap.size + 1, 0, none⟩ = some (.int .i64 (j.val : Int)) := by subst hV; simp [go_sem]
  have H0 := Lib.hid (show Below w.heap.size w V by subst hV; exact below_alloc (below_alloc (Below.refl _ _) _) _)
  clear hV
  go_wp2_with fail
  refine (HM.out 0 ⟨by omega, by omega⟩ w.heap.size (w.heap.size + 1) _ (HN.out.keep H0.out) M0.out i0).mono ?_
  rintro y w1 ⟨rfl, hb1⟩
  have M1 := Lib.hid (M0.out.keep hb1)
  have i1 := below_keep hb1 i0
  have H1 := Lib.hid (below_step H0.out hb1)
  clear hb1 M0 i0 H0
  go_upto_region 5 with fail
  refine wp_world ?_
  intro V2 hV2
  have l1 : w.heap.size + 1 < w1.heap.size := World.block_lt_of_cell? _ _ i1
  have X2 := Lib.hid (show Holds V2 w1.heap.size [.int .i64 (xt1 n j 0), .int .i64 (xt2 n par j 0), .int .i64 (xt3 n par j 0), .int .i64 (xt4 n j 0)] by subst hV2; exact holds_alloc w1 [.int .i64 (xt1 n j 0), .int .i64 (xt2 n par j 0), .int .i64 (xt3 n par j 0), .int .i64 (xt4 n j 0)] 74 rfl)
  have M2 := Lib.hid (show Holds V2 w.heap.size n.vs by subst hV2; exact M1.out.alloc (by omega) _)
  have i2 : V2.cell? ⟨w.heap.size + 1, 0, none⟩ = some (.int .i64 (j.val : Int)) := by subst hV2; exact cell_al15 i1 _
  have H2 := Lib.hid (show Below w.heap.size w V2 by subst hV2; exact below_alloc H1.out _)
  have m4 : V2.cell? ⟨w.heap.size, 4, none⟩ = some (.int .i64 n.ga) := M2.out 4 _ rfl
  clear hV2 M1 i1 H1 l1
  go_wp2_with fail
  refine (HM.out n.ga ⟨by omega, by omega⟩ w.heap.size (w.heap.size + 1) _ (HN.out.keep H2.out) M2.out i2).mono ?_
  rintro y w3 ⟨rfl, hb3⟩
  have X3 := Lib.hid (X2.out.keep hb3)
  have H3 := Lib.hid (below_step H2.out hb3)
  have l3 : w1.heap.size < w3.heap.size := World.block_lt_of_cell? _ _ (X3.out 0 _ rfl)
  clear hb3 M2 i2 H2 X2 m4 HM HN
  go_upto_region 8 with fail
  refine wp_world ?_
  intro V4 hV4
  have Y4 := Lib.hid (show Holds V4 w3.heap.size [.int .i64 (xt1 n j n.ga), .int .i64 (xt2 n par j n.ga), .int .i64 (xt3 n par j n.ga), .int .i64 (xt4 n j n.ga)] by subst hV4; exact holds_alloc w3 [.int .i64 (xt1 n j n.ga), .int .i64 (xt2 n par j n.ga), .int .i64 (xt3 n par j n.ga), .int .i64 (xt4 n j n.ga)] 74 rfl)
  have X4 := Lib.hid (show Holds V4 w1.heap.size [.int .i64 (xt1 n j 0), .int .i64 (xt2 n par j 0), .int .i64 (xt3 n par j 0), .int .i64 (xt4 n j 0)] by subst hV4; exact X3.out.alloc l3 _)
  have H4 := Lib.hid (show Below w.heap.size w V4 by subst hV4; exact below_alloc H3.out _)
  clear hV4 X3 H3
  have hae := Lib.hid agg_ex
  have hse := Lib.hid size_ex
  go_wp2_with ((with_reducible refine at_load 74 (.tmp 10) ?_); refine wpList_load_whole rfl (.tmp 10) 74 rfl w3.heap.size 0 [.int .i64 (xt1 n j n.ga), .int .i64 (xt2 n par j n.ga), .int .i64 (xt3 n par j n.ga), .int .i64 (xt4 n j n.ga)] rfl hae.out hse.out Y4.out ?_; simp only [Act.put, List.setIfInBounds_toArray, List.set_cons_succ, List.set_cons_zero])
  refine (HD.out _).mono ?_
  rintro y w5 ⟨rfl, hb5⟩
  have Y5 := Lib.hid (Y4.out.keep hb5)
  have X5 := Lib.hid (X4.out.keep hb5)
  have H5 := Lib.hid (below_step H4.out hb5)
  clear hb5 Y4 X4 H4
  go_wp2_with (first | ((with_reducible refine at_load 74 (.tmp 10) ?_); refine wpList_load_whole rfl (.tmp 10) 74 rfl w3.heap.size 0 [.int .i64 (xt1 n j n.ga), .int .i64 (xt2 n par j n.ga), .int .i64 (xt3 n par j n.ga), .int .i64 (xt4 n j n.ga)] rfl hae.out hse.out Y5.out ?_; simp only [Act.put, List.setIfInBounds_toArray, List.set_cons_succ, List.set_cons_zero]) | ((with_reducible refine at_load 74 (.tmp 8) ?_); refine wpList_load_whole rfl (.tmp 8) 74 rfl w1.heap.size 0 [.int .i64 (xt1 n j 0), .int .i64 (xt2 n par j 0), .int .i64 (xt3 n par j 0), .int .i64 (xt4 n j 0)] rfl hae.out hse.out X5.out ?_; simp only [Act.put, List.setIfInBounds_toArray, List.set_cons_succ, List.set_cons_zero]))
  refine (HR.out _).mono ?_
  rintro y w6 ⟨rfl, hb6⟩
  have H6 := Lib.hid (below_step H5.out hb6)
  go_wp2
  refine bodyPost_ret (v := .tuple #[.int .i64 dv, .int .i64 rv, .int .i64 0]) ?_ rfl ⟨rfl, H6.out⟩
  simp [results, Tryz.results26]

end Go.Proofs.YtkencmijghigiaaGreat
