/-
  TimenetMeasures: for every input the law returns true, and its arguments read as before. No conditions.
-/
import Derived.Deep.RegionHeld3
import Derived.Test.YtkencmijghigiaaGreatMAns15
import Derived.Test.YtkencmijghigiaaGreatMBen15
import Derived.Test.YtkencmijghigiaaGreatMOpen15g
import Derived.Test.YtkencmijghigiaaGreatMWks
namespace Go.Proofs.YtkencmijghigiaaGreat
open Go.RowKit Go.Lib Go.Shelf Plain
open Go.ChangeShapes Go.WideShapes Go.ChangeAt

theorem agg_drn15 : ∀ w, (isAgg 31).run Tryz.prog w = .ok true w := fun w => by kernel_rfl
theorem size_drn15 : ∀ w, (sizeOf 31).run Tryz.prog w = .ok 8 w := fun w => by kernel_rfl
def Nt.gn (n : Nt) : Gn := { pc := some ⟨n.bc, n.oc, none⟩, nc := n.m, kc := n.kc, pp := some ⟨n.bp, n.op, none⟩, np := n.m, kp := n.kp, pd := some ⟨n.bd, n.od, none⟩, nd := n.m, kd := n.kd, tu := n.tu, ga := n.ga, st := n.st, iv := n.iv, sy := n.sy, cO := n.cO, cP := n.cP, pa := n.pa, de := n.de }
theorem Nt.gn_vs (n : Nt) : n.gn.vs = n.vs := rfl
theorem Nt.gn_in {n : Nt} {w : World} (h : n.In w) : n.gn.In w :=
  ⟨fun j hj => ⟨n.bc, n.oc, rfl, h.c0 j hj, h.c1 j hj⟩, fun j hj => ⟨n.bp, n.op, rfl, h.p j hj⟩, fun j hj => ⟨n.bd, n.od, rfl, h.d j hj⟩⟩
def three15 (a b c : Gn) : Value := .agg (a.vs ++ b.vs ++ c.vs).toArray
theorem three_at15 (a b c : Gn) (q : Nat) (hq : q < 3) : ∃ g : Gn, (g = a ∨ g = b ∨ g = c) ∧ ∀ W, (Instr.index 35 (three15 a b c) (.int .i64 (q : Int))).run Tryz.prog W = .ok (.agg g.vs.toArray) W := by
  match q, hq with
  | 0, _ => exact ⟨a, .inl rfl, fun W => by kernel_rfl⟩
  | 1, _ => exact ⟨b, .inr (.inl rfl), fun W => by kernel_rfl⟩
  | 2, _ => exact ⟨c, .inr (.inr rfl), fun W => by kernel_rfl⟩
theorem neq_inf15 (O C P : Int) : ∀ W, (binOp .neq 44 (.agg #[.int .i64 O, .int .i64 C, .int .i64 P]) (.agg #[.int .i64 O, .int .i64 C, .int .i64 P])).run Tryz.prog W = .ok (.bool false) W := fun W => by simp [go_sem]

set_option maxHeartbeats 16000000 in
set_option maxRecDepth 100000 in
theorem timenetMeasures_walk (g0 : Gn) (D : Dr) (hb : D.Bd) (m : Int) (hm : (Lit.int .u8 m).wf = true) (x i k : Int) (w : World) (hg : g0.In w) (hin : D.In w) :
    Calls Tryz.prog 3 #[.agg g0.vs.toArray, .agg D.vs.toArray, .int .u8 m, .int .i64 x, .int .i64 i, .int .i64 k] w fun e w' => e = .returned (.bool true) ∧ Below w.heap.size w w' := by
  have hat := Lib.hid (show ∀ w, (isAgg 25).run Tryz.prog w = .ok true w from fun w => by kernel_rfl)
  have hst := Lib.hid (show ∀ w, (sizeOf 25).run Tryz.prog w = .ok 8 w from fun w => by kernel_rfl)
  have hai := Lib.hid agg_inf
  have hsi := Lib.hid size_inf
  have m0 : 0 ≤ m := by
    simp [Lit.wf, IntKind.min, IntKind.max, IntKind.signed, IntKind.bits] at hm
    omega
  have HG := Lib.hid hg
  have HI := Lib.hid hin
  have HB := Lib.hid hb
  clear hg hin hb hm
  go_enter Tryz.func3, Tryz.ntmps3
  rw [D.lit, g0.lit]
  go_wp2_with fail
  refine (works_any _).mono ?_
  rintro y w0 ⟨rfl, hb0⟩
  have HX := Lib.hid (((holds_alloc w g0.vs 25 rfl).alloc (by simp) (.cells D.vs.toArray 31)).keep hb0)
  have HD := Lib.hid (show Holds w0 (w.heap.size + 1) D.vs from (holds_alloc (w.alloc (.cells g0.vs.toArray 25)) D.vs 31 (by simp)).keep hb0)
  have H0 := Lib.hid (below_step (below_alloc (below_alloc (Below.refl _ _) _) _) hb0)
  clear hb0
  go_wp2_with ((with_reducible refine at_load 31 (.tmp 7) ?_); refine wpList_load_whole rfl (.tmp 7) 31 rfl (w.heap.size + 1) 0 D.vs rfl agg_drn15 size_drn15 HD.out ?_; simp only [Act.put, List.setIfInBounds_toArray, List.set_cons_succ, List.set_cons_zero])
  refine (net_any D HB.out _ (HI.out.keep H0.out)).mono ?_
  rintro y w1 ⟨n, par, rfl, hN1, hdn, hb1⟩
  have hm12 : n.m ≤ 12 := hdn.bd.m12
  have X1 := Lib.hid (HX.out.keep hb1)
  have H1 := Lib.hid (below_step H0.out hb1)
  have HN1 := Lib.hid hN1
  clear hb1 hN1 H0 HD HI HB HX hdn
  go_upto_region 4 with ((with_reducible refine at_store 25 (.tmp 13) (.tmp 29) ?_); refine wpList_store_whole rfl (.tmp 13) (.tmp 29) 25 rfl w1.heap.size 0 n.vs rfl rfl hst.out (fun j hj => (holds_alloc w1 zT 25 rfl).some j hj) (fun j _ => frozen_new _ _ _ _ rfl) n.vs_one ?_; intro w2 hw2)
  have l1 : w.heap.size < w1.heap.size := World.block_lt_of_cell? _ _ (X1.out 0 _ rfl)
  have B2 := hw2.below _ _ (Nat.le_refl _) (below_alloc (Below.refl w1.heap.size w1) _)
  have X2 := Lib.hid (X1.out.keep B2)
  have M2 := Lib.hid (show Holds w2 w1.heap.size n.vs from hw2.here)
  have H2 := Lib.hid (hw2.below _ _ H1.out.size (below_alloc H1.out _))
  have N2 := Lib.hid (HN1.out.keep B2)
  have G2 := Lib.hid (HG.out.keep H2.out)
  clear hw2 H1 HN1 X1 HG B2
  have p0 : w2.cell? ⟨w.heap.size, 0, none⟩ = some (.slice g0.pc g0.nc g0.kc) := X2.out 0 _ rfl
  have p1 : w2.cell? ⟨w.heap.size, 1, none⟩ = some (.slice g0.pp g0.np g0.kp) := X2.out 1 _ rfl
  have p2 : w2.cell? ⟨w.heap.size, 2, none⟩ = some (.slice g0.pd g0.nd g0.kd) := X2.out 2 _ rfl
  have p3 : w2.cell? ⟨w.heap.size, 3, none⟩ = some (.int .i64 g0.tu) := X2.out 3 _ rfl
  have p4 : w2.cell? ⟨w.heap.size, 4, none⟩ = some (.int .i64 g0.ga) := X2.out 4 _ rfl
  have p5 : w2.cell? ⟨w.heap.size, 5, none⟩ = some (.int .i64 g0.st) := X2.out 5 _ rfl
  have p6 : w2.cell? ⟨w.heap.size, 6, none⟩ = some (.int .i64 g0.iv) := X2.out 6 _ rfl
  have p7 : w2.cell? ⟨w.heap.size, 7, none⟩ = some (.int .i64 g0.sy) := X2.out 7 _ rfl
  have q0 : w2.cell? ⟨w1.heap.size, 0, none⟩ = some (.slice (some ⟨n.bc, n.oc, none⟩) n.m n.kc) := M2.out 0 _ rfl
  have q1 : w2.cell? ⟨w1.heap.size, 1, none⟩ = some (.slice (some ⟨n.bp, n.op, none⟩) n.m n.kp) := M2.out 1 _ rfl
  have q2 : w2.cell? ⟨w1.heap.size, 2, none⟩ = some (.slice (some ⟨n.bd, n.od, none⟩) n.m n.kd) := M2.out 2 _ rfl
  have q3 : w2.cell? ⟨w1.heap.size, 3, none⟩ = some (.int .i64 n.tu) := M2.out 3 _ rfl
  have q4 : w2.cell? ⟨w1.heap.size, 4, none⟩ = some (.int .i64 n.ga) := M2.out 4 _ rfl
  have q5 : w2.cell? ⟨w1.heap.size, 5, none⟩ = some (.int .i64 n.st) := M2.out 5 _ rfl
  have q6 : w2.cell? ⟨w1.heap.size, 6, none⟩ = some (.int .i64 n.iv) := M2.out 6 _ rfl
  have q7 : w2.cell? ⟨w1.heap.size, 7, none⟩ = some (.int .i64 n.sy) := M2.out 7 _ rfl
  simp only [Act.put]
  go_cut [36, 37] (fun s t wx => ∃ g2 : Gn, s = three15 g0 n.gn g2 ∧ t = .int .i64 0 ∧ g2.In wx ∧ Below w2.heap.size w2 wx)
  case first =>
    have jb := Lib.hid (Below.drew (Below.refl w2.heap.size w2))
    have HK := Lib.hid (fun wx (hB : Below w2.heap.size w2 wx) => (⟨hB, below_keep hB p0, below_keep hB p1, below_keep hB p2, below_keep hB p3, below_keep hB p4, below_keep hB p5, below_keep hB p6, below_keep hB p7, below_keep hB q0, below_keep hB q1, below_keep hB q2, below_keep hB q3, below_keep hB q4, below_keep hB q5, below_keep hB q6, below_keep hB q7⟩ : Below w2.heap.size w2 wx ∧ wx.cell? ⟨w.heap.size, 0, none⟩ = some (.slice g0.pc g0.nc g0.kc) ∧ wx.cell? ⟨w.heap.size, 1, none⟩ = some (.slice g0.pp g0.np g0.kp) ∧ wx.cell? ⟨w.heap.size, 2, none⟩ = some (.slice g0.pd g0.nd g0.kd) ∧ wx.cell? ⟨w.heap.size, 3, none⟩ = some (.int .i64 g0.tu) ∧ wx.cell? ⟨w.heap.size, 4, none⟩ = some (.int .i64 g0.ga) ∧ wx.cell? ⟨w.heap.size, 5, none⟩ = some (.int .i64 g0.st) ∧ wx.cell? ⟨w.heap.size, 6, none⟩ = some (.int .i64 g0.iv) ∧ wx.cell? ⟨w.heap.size, 7, none⟩ = some (.int .i64 g0.sy) ∧ wx.cell? ⟨w1.heap.size, 0, none⟩ = some (.slice (some ⟨n.bc, n.oc, none⟩) n.m n.kc) ∧ wx.cell? ⟨w1.heap.size, 1, none⟩ = some (.slice (some ⟨n.bp, n.op, none⟩) n.m n.kp) ∧ wx.cell? ⟨w1.heap.size, 2, none⟩ = some (.slice (some ⟨n.bd, n.od, none⟩) n.m n.kd) ∧ wx.cell? ⟨w1.heap.size, 3, none⟩ = some (.int .i64 n.tu) ∧ wx.cell? ⟨w1.heap.size, 4, none⟩ = some (.int .i64 n.ga) ∧ wx.cell? ⟨w1.heap.size, 5, none⟩ = some (.int .i64 n.st) ∧ wx.cell? ⟨w1.heap.size, 6, none⟩ = some (.int .i64 n.iv) ∧ wx.cell? ⟨w1.heap.size, 7, none⟩ = some (.int .i64 n.sy)))
    have HBe := Lib.hid (fun W (hW : n.In W) => bent_any n hm12 m x m0 W hW)
    rw [n.lit] at HBe
    have hgl := Lib.hid (fun g : Gn => g.lit)
    go_region_held3 (fun wx => Below w2.heap.size w2 wx ∧ wx.cell? ⟨w.heap.size, 0, none⟩ = some (.slice g0.pc g0.nc g0.kc) ∧ wx.cell? ⟨w.heap.size, 1, none⟩ = some (.slice g0.pp g0.np g0.kp) ∧ wx.cell? ⟨w.heap.size, 2, none⟩ = some (.slice g0.pd g0.nd g0.kd) ∧ wx.cell? ⟨w.heap.size, 3, none⟩ = some (.int .i64 g0.tu) ∧ wx.cell? ⟨w.heap.size, 4, none⟩ = some (.int .i64 g0.ga) ∧ wx.cell? ⟨w.heap.size, 5, none⟩ = some (.int .i64 g0.st) ∧ wx.cell? ⟨w.heap.size, 6, none⟩ = some (.int .i64 g0.iv) ∧ wx.cell? ⟨w.heap.size, 7, none⟩ = some (.int .i64 g0.sy) ∧ wx.cell? ⟨w1.heap.size, 0, none⟩ = some (.slice (some ⟨n.bc, n.oc, none⟩) n.m n.kc) ∧ wx.cell? ⟨w1.heap.size, 1, none⟩ = some (.slice (some ⟨n.bp, n.op, none⟩) n.m n.kp) ∧ wx.cell? ⟨w1.heap.size, 2, none⟩ = some (.slice (some ⟨n.bd, n.od, none⟩) n.m n.kd) ∧ wx.cell? ⟨w1.heap.size, 3, none⟩ = some (.int .i64 n.tu) ∧ wx.cell? ⟨w1.heap.size, 4, none⟩ = some (.int .i64 n.ga) ∧ wx.cell? ⟨w1.heap.size, 5, none⟩ = some (.int .i64 n.st) ∧ wx.cell? ⟨w1.heap.size, 6, none⟩ = some (.int .i64 n.iv) ∧ wx.cell? ⟨w1.heap.size, 7, none⟩ = some (.int .i64 n.sy))
      (first | with_reducible assumption | exact HK.out _ (by (repeat (first | with_reducible exact jb.out | with_reducible exact Below.refl _ _ | with_reducible refine Below.drew ?_))) | fail)
      (first | (go_at_call 6; refine (HBe.out _ (N2.out.keep (by (repeat (first | with_reducible exact jb.out | with_reducible exact Below.refl _ _ | with_reducible refine Below.drew ?_))))).mono ?_; rintro e wz ⟨g2, he, hg2, hb3⟩; rw [g2.lit] at he; subst he; have jb := Lib.hid (show Below w2.heap.size w2 wz from below_step (by (repeat (first | with_reducible exact jb.out | with_reducible exact Below.refl _ _ | with_reducible refine Below.drew ?_))) hb3); have jg := Lib.hid hg2; clear hb3 hg2) | fail)
    all_goals
      go_wp2_with fail
      go_meet
      exact ⟨g2, rfl, rfl, jg.out, jb.out⟩
  case rest =>
    obtain ⟨g2, rfl, rfl, hg2, hB⟩ := hcut
    obtain ⟨w4, hw4⟩ : ∃ W, W = wc := ⟨_, rfl⟩
    subst hw4
    have H4 := Lib.hid (below_step H2.out hB)
    have A0 := Lib.hid (G2.out.keep hB)
    have A1 := Lib.hid (Nt.gn_in (N2.out.keep hB))
    have A2 := Lib.hid hg2
    have HT := Lib.hid (three_at15 g0 n.gn g2)
    generalize three15 g0 n.gn g2 = S at *
    clear hg2 hB H2 G2 N2 X2 M2 p0 p1 p2 p3 p4 p5 p6 p7 q0 q1 q2 q3 q4 q5 q6 q7 l1 m0 hm12
    go_wp2_with fail
    go_loopw [37] (fun p wr => ∃ q : Nat, p = .int .i64 (q : Int) ∧ q ≤ 3 ∧ Hid (Below w4.heap.size w4 wr))
      (fun p _ => 3 - (RowKit.intOf p).toNat)
    case atStart => exact ⟨0, rfl, by omega, Lib.hid (Below.refl _ _)⟩
    case round =>
      obtain ⟨q, rfl, hq, GB⟩ := hrel
      obtain ⟨v, hv⟩ : ∃ v : Int, (q : Int) = v := ⟨_, rfl⟩
      by_cases hlt : q < 3
      · obtain ⟨g, hgg, hix⟩ := HT.out q hlt
        rw [hv] at hix ⊢
        have v1 : v < 3 := by omega
        have v0 : 0 ≤ v := by omega
        have hvw : IntKind.i64.wrap (v + 1) = v + 1 := IntWalk.i64_in _ (by omega)
        have GI := Lib.hid (show g.In w4 by
          rcases hgg with rfl | rfl | rfl
          · exact A0.out
          · exact A1.out
          · exact A2.out)
        clear hgg
        go_upto_region 7 with ((with_reducible refine at_store 25 (.tmp 15) (.tmp 39) ?_); refine wpList_store_whole rfl (.tmp 15) (.tmp 39) 25 rfl wr.heap.size 0 g.vs rfl rfl hst.out (fun j hj => (holds_alloc wr zT 25 rfl).some j hj) (fun j _ => frozen_new _ _ _ _ rfl) g.vs_one ?_; intro w5 hw5)
        obtain ⟨z, hz⟩ : ∃ z, wr.heap.size = z := ⟨_, rfl⟩
        have M5 := Lib.hid (show Holds w5 z g.vs by rw [← hz]; exact hw5.here)
        have H5 := Lib.hid (hw5.below _ _ GB.out.size (below_alloc GB.out _))
        rw [hz]
        clear hw5 hz GB hix
        rcases asks_cases g i k with hA | ⟨ho, hA⟩ | ⟨⟨i1, i2⟩, d, r, hR, hA⟩ | ⟨⟨i1, i2⟩, d, r, a, O, C, P, hR, hR2, hA⟩
        · have HA := Lib.hid hA
          clear hA
          go_wp2_with ((with_reducible refine at_load 25 (.tmp 15) ?_); first | (refine wpList_load_whole rfl (.tmp 15) 25 rfl z 0 g.vs rfl hat.out hst.out M5.out ?_; simp only [Act.put, List.setIfInBounds_toArray, List.set_cons_succ, List.set_cons_zero]) | (refine wpList_load_wanted (by rfl) (.tmp 15) 25 rfl z 0 g.vs rfl hat.out hst.out M5.out ?_; simp only [Act.put, List.setIfInBounds_toArray, List.set_cons_succ, List.set_cons_zero]))
          refine (HA.out.right _ (GI.out.keep H5.out)).mono ?_
          rintro y w6 ⟨rfl, hb6⟩
          have M6 := Lib.hid (M5.out.keep hb6)
          have H6 := Lib.hid (below_step H5.out hb6)
          clear hb6 M5 H5
          go_wp2_with ((with_reducible refine at_load 25 (.tmp 15) ?_); first | (refine wpList_load_whole rfl (.tmp 15) 25 rfl z 0 g.vs rfl hat.out hst.out M6.out ?_; simp only [Act.put, List.setIfInBounds_toArray, List.set_cons_succ, List.set_cons_zero]) | (refine wpList_load_wanted (by rfl) (.tmp 15) 25 rfl z 0 g.vs rfl hat.out hst.out M6.out ?_; simp only [Act.put, List.setIfInBounds_toArray, List.set_cons_succ, List.set_cons_zero]))
          refine (HA.out.check _ (GI.out.keep H6.out)).mono ?_
          rintro y w7 ⟨rfl, hb7⟩
          have M7 := Lib.hid (M6.out.keep hb7)
          have H7 := Lib.hid (below_step H6.out hb7)
          clear hb7 M6 H6
          go_wp2_with ((with_reducible refine at_load 25 (.tmp 15) ?_); first | (refine wpList_load_whole rfl (.tmp 15) 25 rfl z 0 g.vs rfl hat.out hst.out M7.out ?_; simp only [Act.put, List.setIfInBounds_toArray, List.set_cons_succ, List.set_cons_zero]) | (refine wpList_load_wanted (by rfl) (.tmp 15) 25 rfl z 0 g.vs rfl hat.out hst.out M7.out ?_; simp only [Act.put, List.setIfInBounds_toArray, List.set_cons_succ, List.set_cons_zero]))
          refine (HA.out.check _ (GI.out.keep H7.out)).mono ?_
          rintro y w8 ⟨rfl, hb8⟩
          have M8 := Lib.hid (M7.out.keep hb8)
          have H8 := Lib.hid (below_step H7.out hb8)
          clear hb8 M7 H7
          go_wp2_with ((with_reducible refine at_load 25 (.tmp 15) ?_); first | (refine wpList_load_whole rfl (.tmp 15) 25 rfl z 0 g.vs rfl hat.out hst.out M8.out ?_; simp only [Act.put, List.setIfInBounds_toArray, List.set_cons_succ, List.set_cons_zero]) | (refine wpList_load_wanted (by rfl) (.tmp 15) 25 rfl z 0 g.vs rfl hat.out hst.out M8.out ?_; simp only [Act.put, List.setIfInBounds_toArray, List.set_cons_succ, List.set_cons_zero]))
          refine (HA.out.measure _ (GI.out.keep H8.out)).mono ?_
          rintro y w9 ⟨rfl, hb9⟩
          have M9 := Lib.hid (M8.out.keep hb9)
          have H9 := Lib.hid (below_step H8.out hb9)
          clear hb9 M8 H8
          go_wp2_with ((with_reducible refine at_load 25 (.tmp 15) ?_); first | (refine wpList_load_whole rfl (.tmp 15) 25 rfl z 0 g.vs rfl hat.out hst.out M9.out ?_; simp only [Act.put, List.setIfInBounds_toArray, List.set_cons_succ, List.set_cons_zero]) | (refine wpList_load_wanted (by rfl) (.tmp 15) 25 rfl z 0 g.vs rfl hat.out hst.out M9.out ?_; simp only [Act.put, List.setIfInBounds_toArray, List.set_cons_succ, List.set_cons_zero]))
          refine (HA.out.arrival _ (GI.out.keep H9.out)).mono ?_
          rintro y w10 ⟨rfl, hb10⟩
          have M10 := Lib.hid (M9.out.keep hb10)
          have H10 := Lib.hid (below_step H9.out hb10)
          clear hb10 M9 H9
          go_wp2_with ((with_reducible refine at_load 25 (.tmp 15) ?_); first | (refine wpList_load_whole rfl (.tmp 15) 25 rfl z 0 g.vs rfl hat.out hst.out M10.out ?_; simp only [Act.put, List.setIfInBounds_toArray, List.set_cons_succ, List.set_cons_zero]) | (refine wpList_load_wanted (by rfl) (.tmp 15) 25 rfl z 0 g.vs rfl hat.out hst.out M10.out ?_; simp only [Act.put, List.setIfInBounds_toArray, List.set_cons_succ, List.set_cons_zero]))
          refine (HA.out.info _ (GI.out.keep H10.out)).mono ?_
          rintro y w11 ⟨rfl, hb11⟩
          have M11 := Lib.hid (M10.out.keep hb11)
          have H11 := Lib.hid (below_step H10.out hb11)
          clear hb11 M10 H10
          go_upto_region 13 with ((with_reducible refine at_store 44 (.tmp 22) (.tmp 75) ?_); refine wpList_store_whole rfl (.tmp 22) (.tmp 75) 44 rfl w11.heap.size 0 [.int .i64 0, .int .i64 0, .int .i64 0] rfl rfl hsi.out (fun j hj => (holds_alloc w11 [.int .i64 0, .int .i64 0, .int .i64 0] 44 rfl).some j hj) (fun j _ => frozen_new _ _ _ _ rfl) (three_one15 _ _ _) ?_; intro w12 hw12)
          have B12 := hw12.below _ _ (Nat.le_refl _) (below_alloc (Below.refl w11.heap.size w11) _)
          have I12 := Lib.hid (show Holds w12 w11.heap.size [.int .i64 0, .int .i64 0, .int .i64 0] from hw12.here)
          have M12 := Lib.hid (M11.out.keep B12)
          have H12 := Lib.hid (below_step H11.out B12)
          obtain ⟨bi, hbi⟩ : ∃ b, w11.heap.size = b := ⟨_, rfl⟩
          rw [hbi] at I12 ⊢
          clear hw12 B12 M11 H11 hbi
          have nq := neq_inf15 0 0 0
          go_wp2_with ((with_reducible refine at_load 44 (.tmp 22) ?_); first | (refine wpList_load_whole rfl (.tmp 22) 44 rfl bi 0 [.int .i64 0, .int .i64 0, .int .i64 0] rfl hai.out hsi.out I12.out ?_; simp only [Act.put, List.setIfInBounds_toArray, List.set_cons_succ, List.set_cons_zero]) | (refine wpList_load_wanted (by rfl) (.tmp 22) 44 rfl bi 0 [.int .i64 0, .int .i64 0, .int .i64 0] rfl hai.out hsi.out I12.out ?_; simp only [Act.put, List.setIfInBounds_toArray, List.set_cons_succ, List.set_cons_zero]))
          go_roundw
          case rel => exact ⟨q + 1, by rw [show ((q + 1 : Nat) : Int) = v + 1 by omega], by omega, H12⟩
          case measure => simp [RowKit.intOf]; omega
        · have HA := Lib.hid hA
          clear hA
          go_wp2_with ((with_reducible refine at_load 25 (.tmp 15) ?_); first | (refine wpList_load_whole rfl (.tmp 15) 25 rfl z 0 g.vs rfl hat.out hst.out M5.out ?_; simp only [Act.put, List.setIfInBounds_toArray, List.set_cons_succ, List.set_cons_zero]) | (refine wpList_load_wanted (by rfl) (.tmp 15) 25 rfl z 0 g.vs rfl hat.out hst.out M5.out ?_; simp only [Act.put, List.setIfInBounds_toArray, List.set_cons_succ, List.set_cons_zero]))
          refine (HA.out.right _ (GI.out.keep H5.out)).mono ?_
          rintro y w6 ⟨rfl, hb6⟩
          have M6 := Lib.hid (M5.out.keep hb6)
          have H6 := Lib.hid (below_step H5.out hb6)
          clear hb6 M5 H5
          go_wp2_with ((with_reducible refine at_load 25 (.tmp 15) ?_); first | (refine wpList_load_whole rfl (.tmp 15) 25 rfl z 0 g.vs rfl hat.out hst.out M6.out ?_; simp only [Act.put, List.setIfInBounds_toArray, List.set_cons_succ, List.set_cons_zero]) | (refine wpList_load_wanted (by rfl) (.tmp 15) 25 rfl z 0 g.vs rfl hat.out hst.out M6.out ?_; simp only [Act.put, List.setIfInBounds_toArray, List.set_cons_succ, List.set_cons_zero]))
          refine (HA.out.check _ (GI.out.keep H6.out)).mono ?_
          rintro y w7 ⟨rfl, hb7⟩
          have M7 := Lib.hid (M6.out.keep hb7)
          have H7 := Lib.hid (below_step H6.out hb7)
          clear hb7 M6 H6
          go_wp2_with ((with_reducible refine at_load 25 (.tmp 15) ?_); first | (refine wpList_load_whole rfl (.tmp 15) 25 rfl z 0 g.vs rfl hat.out hst.out M7.out ?_; simp only [Act.put, List.setIfInBounds_toArray, List.set_cons_succ, List.set_cons_zero]) | (refine wpList_load_wanted (by rfl) (.tmp 15) 25 rfl z 0 g.vs rfl hat.out hst.out M7.out ?_; simp only [Act.put, List.setIfInBounds_toArray, List.set_cons_succ, List.set_cons_zero]))
          refine (HA.out.measure _ (GI.out.keep H7.out)).mono ?_
          rintro y w8 ⟨rfl, hb8⟩
          have M8 := Lib.hid (M7.out.keep hb8)
          have H8 := Lib.hid (below_step H7.out hb8)
          clear hb8 M7 H7
          go_wp2_with ((with_reducible refine at_load 25 (.tmp 15) ?_); first | (refine wpList_load_whole rfl (.tmp 15) 25 rfl z 0 g.vs rfl hat.out hst.out M8.out ?_; simp only [Act.put, List.setIfInBounds_toArray, List.set_cons_succ, List.set_cons_zero]) | (refine wpList_load_wanted (by rfl) (.tmp 15) 25 rfl z 0 g.vs rfl hat.out hst.out M8.out ?_; simp only [Act.put, List.setIfInBounds_toArray, List.set_cons_succ, List.set_cons_zero]))
          refine (HA.out.arrival _ (GI.out.keep H8.out)).mono ?_
          rintro y w9 ⟨rfl, hb9⟩
          have M9 := Lib.hid (M8.out.keep hb9)
          have H9 := Lib.hid (below_step H8.out hb9)
          clear hb9 M8 H8
          go_wp2_with ((with_reducible refine at_load 25 (.tmp 15) ?_); first | (refine wpList_load_whole rfl (.tmp 15) 25 rfl z 0 g.vs rfl hat.out hst.out M9.out ?_; simp only [Act.put, List.setIfInBounds_toArray, List.set_cons_succ, List.set_cons_zero]) | (refine wpList_load_wanted (by rfl) (.tmp 15) 25 rfl z 0 g.vs rfl hat.out hst.out M9.out ?_; simp only [Act.put, List.setIfInBounds_toArray, List.set_cons_succ, List.set_cons_zero]))
          refine (HA.out.info _ (GI.out.keep H9.out)).mono ?_
          rintro y w10 ⟨rfl, hb10⟩
          have M10 := Lib.hid (M9.out.keep hb10)
          have H10 := Lib.hid (below_step H9.out hb10)
          clear hb10 M9 H9
          go_upto_region 13 with ((with_reducible refine at_store 44 (.tmp 22) (.tmp 75) ?_); refine wpList_store_whole rfl (.tmp 22) (.tmp 75) 44 rfl w10.heap.size 0 [.int .i64 0, .int .i64 0, .int .i64 0] rfl rfl hsi.out (fun j hj => (holds_alloc w10 [.int .i64 0, .int .i64 0, .int .i64 0] 44 rfl).some j hj) (fun j _ => frozen_new _ _ _ _ rfl) (three_one15 _ _ _) ?_; intro w11 hw11)
          have B11 := hw11.below _ _ (Nat.le_refl _) (below_alloc (Below.refl w10.heap.size w10) _)
          have I11 := Lib.hid (show Holds w11 w10.heap.size [.int .i64 0, .int .i64 0, .int .i64 0] from hw11.here)
          have M11 := Lib.hid (M10.out.keep B11)
          have H11 := Lib.hid (below_step H10.out B11)
          obtain ⟨bi, hbi⟩ : ∃ b, w10.heap.size = b := ⟨_, rfl⟩
          rw [hbi] at I11 ⊢
          clear hw11 B11 M10 H10 hbi
          have nq := neq_inf15 0 0 0
          have y0 : w11.cell? ⟨z, 0, none⟩ = some (.slice g.pc g.nc g.kc) := M11.out 0 _ rfl
          by_cases i1 : i < 1
          · go_wp2_with ((with_reducible refine at_load 44 (.tmp 22) ?_); first | (refine wpList_load_whole rfl (.tmp 22) 44 rfl bi 0 [.int .i64 0, .int .i64 0, .int .i64 0] rfl hai.out hsi.out I11.out ?_; simp only [Act.put, List.setIfInBounds_toArray, List.set_cons_succ, List.set_cons_zero]) | (refine wpList_load_wanted (by rfl) (.tmp 22) 44 rfl bi 0 [.int .i64 0, .int .i64 0, .int .i64 0] rfl hai.out hsi.out I11.out ?_; simp only [Act.put, List.setIfInBounds_toArray, List.set_cons_succ, List.set_cons_zero]))
            go_roundw
            case rel => exact ⟨q + 1, by rw [show ((q + 1 : Nat) : Int) = v + 1 by omega], by omega, H11⟩
            case measure => simp [RowKit.intOf]; omega
          · have i2 : (g.nc : Int) ≤ i := by omega
            go_wp2_with ((with_reducible refine at_load 44 (.tmp 22) ?_); first | (refine wpList_load_whole rfl (.tmp 22) 44 rfl bi 0 [.int .i64 0, .int .i64 0, .int .i64 0] rfl hai.out hsi.out I11.out ?_; simp only [Act.put, List.setIfInBounds_toArray, List.set_cons_succ, List.set_cons_zero]) | (refine wpList_load_wanted (by rfl) (.tmp 22) 44 rfl bi 0 [.int .i64 0, .int .i64 0, .int .i64 0] rfl hai.out hsi.out I11.out ?_; simp only [Act.put, List.setIfInBounds_toArray, List.set_cons_succ, List.set_cons_zero]))
            go_roundw
            case rel => exact ⟨q + 1, by rw [show ((q + 1 : Nat) : Int) = v + 1 by omega], by omega, H11⟩
            case measure => simp [RowKit.intOf]; omega
        · have HA := Lib.hid hA
          have HR := Lib.hid hR
          have i1b : ¬ i < 1 := by omega
          have i2b : ¬ (g.nc : Int) ≤ i := by omega
          clear hA hR
          go_wp2_with ((with_reducible refine at_load 25 (.tmp 15) ?_); first | (refine wpList_load_whole rfl (.tmp 15) 25 rfl z 0 g.vs rfl hat.out hst.out M5.out ?_; simp only [Act.put, List.setIfInBounds_toArray, List.set_cons_succ, List.set_cons_zero]) | (refine wpList_load_wanted (by rfl) (.tmp 15) 25 rfl z 0 g.vs rfl hat.out hst.out M5.out ?_; simp only [Act.put, List.setIfInBounds_toArray, List.set_cons_succ, List.set_cons_zero]))
          refine (HA.out.right _ (GI.out.keep H5.out)).mono ?_
          rintro y w6 ⟨rfl, hb6⟩
          have M6 := Lib.hid (M5.out.keep hb6)
          have H6 := Lib.hid (below_step H5.out hb6)
          clear hb6 M5 H5
          go_wp2_with ((with_reducible refine at_load 25 (.tmp 15) ?_); first | (refine wpList_load_whole rfl (.tmp 15) 25 rfl z 0 g.vs rfl hat.out hst.out M6.out ?_; simp only [Act.put, List.setIfInBounds_toArray, List.set_cons_succ, List.set_cons_zero]) | (refine wpList_load_wanted (by rfl) (.tmp 15) 25 rfl z 0 g.vs rfl hat.out hst.out M6.out ?_; simp only [Act.put, List.setIfInBounds_toArray, List.set_cons_succ, List.set_cons_zero]))
          refine (HA.out.check _ (GI.out.keep H6.out)).mono ?_
          rintro y w7 ⟨rfl, hb7⟩
          have M7 := Lib.hid (M6.out.keep hb7)
          have H7 := Lib.hid (below_step H6.out hb7)
          clear hb7 M6 H6
          go_wp2_with ((with_reducible refine at_load 25 (.tmp 15) ?_); first | (refine wpList_load_whole rfl (.tmp 15) 25 rfl z 0 g.vs rfl hat.out hst.out M7.out ?_; simp only [Act.put, List.setIfInBounds_toArray, List.set_cons_succ, List.set_cons_zero]) | (refine wpList_load_wanted (by rfl) (.tmp 15) 25 rfl z 0 g.vs rfl hat.out hst.out M7.out ?_; simp only [Act.put, List.setIfInBounds_toArray, List.set_cons_succ, List.set_cons_zero]))
          refine (HA.out.measure _ (GI.out.keep H7.out)).mono ?_
          rintro y w8 ⟨rfl, hb8⟩
          have M8 := Lib.hid (M7.out.keep hb8)
          have H8 := Lib.hid (below_step H7.out hb8)
          clear hb8 M7 H7
          go_wp2_with ((with_reducible refine at_load 25 (.tmp 15) ?_); first | (refine wpList_load_whole rfl (.tmp 15) 25 rfl z 0 g.vs rfl hat.out hst.out M8.out ?_; simp only [Act.put, List.setIfInBounds_toArray, List.set_cons_succ, List.set_cons_zero]) | (refine wpList_load_wanted (by rfl) (.tmp 15) 25 rfl z 0 g.vs rfl hat.out hst.out M8.out ?_; simp only [Act.put, List.setIfInBounds_toArray, List.set_cons_succ, List.set_cons_zero]))
          refine (HA.out.arrival _ (GI.out.keep H8.out)).mono ?_
          rintro y w9 ⟨rfl, hb9⟩
          have M9 := Lib.hid (M8.out.keep hb9)
          have H9 := Lib.hid (below_step H8.out hb9)
          clear hb9 M8 H8
          go_wp2_with ((with_reducible refine at_load 25 (.tmp 15) ?_); first | (refine wpList_load_whole rfl (.tmp 15) 25 rfl z 0 g.vs rfl hat.out hst.out M9.out ?_; simp only [Act.put, List.setIfInBounds_toArray, List.set_cons_succ, List.set_cons_zero]) | (refine wpList_load_wanted (by rfl) (.tmp 15) 25 rfl z 0 g.vs rfl hat.out hst.out M9.out ?_; simp only [Act.put, List.setIfInBounds_toArray, List.set_cons_succ, List.set_cons_zero]))
          refine (HA.out.info _ (GI.out.keep H9.out)).mono ?_
          rintro y w10 ⟨rfl, hb10⟩
          have M10 := Lib.hid (M9.out.keep hb10)
          have H10 := Lib.hid (below_step H9.out hb10)
          clear hb10 M9 H9
          go_upto_region 13 with ((with_reducible refine at_store 44 (.tmp 22) (.tmp 75) ?_); refine wpList_store_whole rfl (.tmp 22) (.tmp 75) 44 rfl w10.heap.size 0 [.int .i64 0, .int .i64 0, .int .i64 0] rfl rfl hsi.out (fun j hj => (holds_alloc w10 [.int .i64 0, .int .i64 0, .int .i64 0] 44 rfl).some j hj) (fun j _ => frozen_new _ _ _ _ rfl) (three_one15 _ _ _) ?_; intro w11 hw11)
          have B11 := hw11.below _ _ (Nat.le_refl _) (below_alloc (Below.refl w10.heap.size w10) _)
          have I11 := Lib.hid (show Holds w11 w10.heap.size [.int .i64 0, .int .i64 0, .int .i64 0] from hw11.here)
          have M11 := Lib.hid (M10.out.keep B11)
          have H11 := Lib.hid (below_step H10.out B11)
          obtain ⟨bi, hbi⟩ : ∃ b, w10.heap.size = b := ⟨_, rfl⟩
          rw [hbi] at I11 ⊢
          clear hw11 B11 M10 H10 hbi
          have y0 : w11.cell? ⟨z, 0, none⟩ = some (.slice g.pc g.nc g.kc) := M11.out 0 _ rfl
          go_wp2_with ((with_reducible refine at_load 25 (.tmp 15) ?_); first | (refine wpList_load_whole rfl (.tmp 15) 25 rfl z 0 g.vs rfl hat.out hst.out M11.out ?_; simp only [Act.put, List.setIfInBounds_toArray, List.set_cons_succ, List.set_cons_zero]) | (refine wpList_load_wanted (by rfl) (.tmp 15) 25 rfl z 0 g.vs rfl hat.out hst.out M11.out ?_; simp only [Act.put, List.setIfInBounds_toArray, List.set_cons_succ, List.set_cons_zero]))
          refine (HR.out.measure _ (GI.out.keep H11.out)).mono ?_
          rintro y w12 ⟨rfl, hb12⟩
          have M12 := Lib.hid (M11.out.keep hb12)
          have I12 := Lib.hid (I11.out.keep hb12)
          have H12 := Lib.hid (below_step H11.out hb12)
          clear hb12 M11 H11 I11 y0
          go_wp2_with ((with_reducible refine at_load 25 (.tmp 15) ?_); first | (refine wpList_load_whole rfl (.tmp 15) 25 rfl z 0 g.vs rfl hat.out hst.out M12.out ?_; simp only [Act.put, List.setIfInBounds_toArray, List.set_cons_succ, List.set_cons_zero]) | (refine wpList_load_wanted (by rfl) (.tmp 15) 25 rfl z 0 g.vs rfl hat.out hst.out M12.out ?_; simp only [Act.put, List.setIfInBounds_toArray, List.set_cons_succ, List.set_cons_zero]))
          refine (HR.out.numbered _ (GI.out.keep H12.out)).mono ?_
          rintro y w13 ⟨rfl, hb13⟩
          have M13 := Lib.hid (M12.out.keep hb13)
          have I13 := Lib.hid (I12.out.keep hb13)
          have H13 := Lib.hid (below_step H12.out hb13)
          clear hb13 M12 H12 I12
          have nq := neq_inf15 0 0 0
          go_wp2_with ((with_reducible refine at_load 44 (.tmp 22) ?_); first | (refine wpList_load_whole rfl (.tmp 22) 44 rfl bi 0 [.int .i64 0, .int .i64 0, .int .i64 0] rfl hai.out hsi.out I13.out ?_; simp only [Act.put, List.setIfInBounds_toArray, List.set_cons_succ, List.set_cons_zero]) | (refine wpList_load_wanted (by rfl) (.tmp 22) 44 rfl bi 0 [.int .i64 0, .int .i64 0, .int .i64 0] rfl hai.out hsi.out I13.out ?_; simp only [Act.put, List.setIfInBounds_toArray, List.set_cons_succ, List.set_cons_zero]))
          go_roundw
          case rel => exact ⟨q + 1, by rw [show ((q + 1 : Nat) : Int) = v + 1 by omega], by omega, H13⟩
          case measure => simp [RowKit.intOf]; omega
        · have HA := Lib.hid hA
          have HR := Lib.hid hR
          have i1b : ¬ i < 1 := by omega
          have i2b : ¬ (g.nc : Int) ≤ i := by omega
          have HR2 := Lib.hid hR2
          clear hA hR hR2
          go_wp2_with ((with_reducible refine at_load 25 (.tmp 15) ?_); first | (refine wpList_load_whole rfl (.tmp 15) 25 rfl z 0 g.vs rfl hat.out hst.out M5.out ?_; simp only [Act.put, List.setIfInBounds_toArray, List.set_cons_succ, List.set_cons_zero]) | (refine wpList_load_wanted (by rfl) (.tmp 15) 25 rfl z 0 g.vs rfl hat.out hst.out M5.out ?_; simp only [Act.put, List.setIfInBounds_toArray, List.set_cons_succ, List.set_cons_zero]))
          refine (HA.out.right _ (GI.out.keep H5.out)).mono ?_
          rintro y w6 ⟨rfl, hb6⟩
          have M6 := Lib.hid (M5.out.keep hb6)
          have H6 := Lib.hid (below_step H5.out hb6)
          clear hb6 M5 H5
          go_wp2_with ((with_reducible refine at_load 25 (.tmp 15) ?_); first | (refine wpList_load_whole rfl (.tmp 15) 25 rfl z 0 g.vs rfl hat.out hst.out M6.out ?_; simp only [Act.put, List.setIfInBounds_toArray, List.set_cons_succ, List.set_cons_zero]) | (refine wpList_load_wanted (by rfl) (.tmp 15) 25 rfl z 0 g.vs rfl hat.out hst.out M6.out ?_; simp only [Act.put, List.setIfInBounds_toArray, List.set_cons_succ, List.set_cons_zero]))
          refine (HA.out.check _ (GI.out.keep H6.out)).mono ?_
          rintro y w7 ⟨rfl, hb7⟩
          have M7 := Lib.hid (M6.out.keep hb7)
          have H7 := Lib.hid (below_step H6.out hb7)
          clear hb7 M6 H6
          go_wp2_with ((with_reducible refine at_load 25 (.tmp 15) ?_); first | (refine wpList_load_whole rfl (.tmp 15) 25 rfl z 0 g.vs rfl hat.out hst.out M7.out ?_; simp only [Act.put, List.setIfInBounds_toArray, List.set_cons_succ, List.set_cons_zero]) | (refine wpList_load_wanted (by rfl) (.tmp 15) 25 rfl z 0 g.vs rfl hat.out hst.out M7.out ?_; simp only [Act.put, List.setIfInBounds_toArray, List.set_cons_succ, List.set_cons_zero]))
          refine (HA.out.measure _ (GI.out.keep H7.out)).mono ?_
          rintro y w8 ⟨rfl, hb8⟩
          have M8 := Lib.hid (M7.out.keep hb8)
          have H8 := Lib.hid (below_step H7.out hb8)
          clear hb8 M7 H7
          go_wp2_with ((with_reducible refine at_load 25 (.tmp 15) ?_); first | (refine wpList_load_whole rfl (.tmp 15) 25 rfl z 0 g.vs rfl hat.out hst.out M8.out ?_; simp only [Act.put, List.setIfInBounds_toArray, List.set_cons_succ, List.set_cons_zero]) | (refine wpList_load_wanted (by rfl) (.tmp 15) 25 rfl z 0 g.vs rfl hat.out hst.out M8.out ?_; simp only [Act.put, List.setIfInBounds_toArray, List.set_cons_succ, List.set_cons_zero]))
          refine (HA.out.arrival _ (GI.out.keep H8.out)).mono ?_
          rintro y w9 ⟨rfl, hb9⟩
          have M9 := Lib.hid (M8.out.keep hb9)
          have H9 := Lib.hid (below_step H8.out hb9)
          clear hb9 M8 H8
          go_wp2_with ((with_reducible refine at_load 25 (.tmp 15) ?_); first | (refine wpList_load_whole rfl (.tmp 15) 25 rfl z 0 g.vs rfl hat.out hst.out M9.out ?_; simp only [Act.put, List.setIfInBounds_toArray, List.set_cons_succ, List.set_cons_zero]) | (refine wpList_load_wanted (by rfl) (.tmp 15) 25 rfl z 0 g.vs rfl hat.out hst.out M9.out ?_; simp only [Act.put, List.setIfInBounds_toArray, List.set_cons_succ, List.set_cons_zero]))
          refine (HA.out.info _ (GI.out.keep H9.out)).mono ?_
          rintro y w10 ⟨rfl, hb10⟩
          have M10 := Lib.hid (M9.out.keep hb10)
          have H10 := Lib.hid (below_step H9.out hb10)
          clear hb10 M9 H9
          go_upto_region 13 with ((with_reducible refine at_store 44 (.tmp 22) (.tmp 75) ?_); refine wpList_store_whole rfl (.tmp 22) (.tmp 75) 44 rfl w10.heap.size 0 [.int .i64 O, .int .i64 C, .int .i64 P] rfl rfl hsi.out (fun j hj => (holds_alloc w10 [.int .i64 0, .int .i64 0, .int .i64 0] 44 rfl).some j hj) (fun j _ => frozen_new _ _ _ _ rfl) (three_one15 _ _ _) ?_; intro w11 hw11)
          have B11 := hw11.below _ _ (Nat.le_refl _) (below_alloc (Below.refl w10.heap.size w10) _)
          have I11 := Lib.hid (show Holds w11 w10.heap.size [.int .i64 O, .int .i64 C, .int .i64 P] from hw11.here)
          have M11 := Lib.hid (M10.out.keep B11)
          have H11 := Lib.hid (below_step H10.out B11)
          obtain ⟨bi, hbi⟩ : ∃ b, w10.heap.size = b := ⟨_, rfl⟩
          rw [hbi] at I11 ⊢
          clear hw11 B11 M10 H10 hbi
          have y0 : w11.cell? ⟨z, 0, none⟩ = some (.slice g.pc g.nc g.kc) := M11.out 0 _ rfl
          go_wp2_with ((with_reducible refine at_load 25 (.tmp 15) ?_); first | (refine wpList_load_whole rfl (.tmp 15) 25 rfl z 0 g.vs rfl hat.out hst.out M11.out ?_; simp only [Act.put, List.setIfInBounds_toArray, List.set_cons_succ, List.set_cons_zero]) | (refine wpList_load_wanted (by rfl) (.tmp 15) 25 rfl z 0 g.vs rfl hat.out hst.out M11.out ?_; simp only [Act.put, List.setIfInBounds_toArray, List.set_cons_succ, List.set_cons_zero]))
          refine (HR.out.measure _ (GI.out.keep H11.out)).mono ?_
          rintro y w12 ⟨rfl, hb12⟩
          have M12 := Lib.hid (M11.out.keep hb12)
          have I12 := Lib.hid (I11.out.keep hb12)
          have H12 := Lib.hid (below_step H11.out hb12)
          clear hb12 M11 H11 I11 y0
          go_wp2_with ((with_reducible refine at_load 25 (.tmp 15) ?_); first | (refine wpList_load_whole rfl (.tmp 15) 25 rfl z 0 g.vs rfl hat.out hst.out M12.out ?_; simp only [Act.put, List.setIfInBounds_toArray, List.set_cons_succ, List.set_cons_zero]) | (refine wpList_load_wanted (by rfl) (.tmp 15) 25 rfl z 0 g.vs rfl hat.out hst.out M12.out ?_; simp only [Act.put, List.setIfInBounds_toArray, List.set_cons_succ, List.set_cons_zero]))
          refine (HR.out.numbered _ (GI.out.keep H12.out)).mono ?_
          rintro y w13 ⟨rfl, hb13⟩
          have M13 := Lib.hid (M12.out.keep hb13)
          have I13 := Lib.hid (I12.out.keep hb13)
          have H13 := Lib.hid (below_step H12.out hb13)
          clear hb13 M12 H12 I12
          have nq := neq_inf15 O C P
          go_upto_region 25 with fail
          refine wp_region_quiet_below (by kernel_rfl) (by kernel_rfl) ?_
          repeat (first | ((with_reducible refine at_qload 25 (.tmp 15) ?_); refine wpQuiet_load_wanted (by rfl) (.tmp 15) 25 rfl z 0 g.vs rfl hat.out hst.out (holds_regrown M13.out) ?_; simp only [Act.put, List.setIfInBounds_toArray, List.set_cons_succ, List.set_cons_zero]) | ((with_reducible refine at_qload 44 (.tmp 22) ?_); refine wpQuiet_load_wanted (by rfl) (.tmp 22) 44 rfl bi 0 [.int .i64 O, .int .i64 C, .int .i64 P] rfl hai.out hsi.out (holds_regrown I13.out) ?_; simp only [Act.put, List.setIfInBounds_toArray, List.set_cons_succ, List.set_cons_zero]) | go_big_quiet_step (first | with_reducible exact Calls.regrown_of (HR2.out.arrival _ (GI.out.keep (below_step H13.out (below_regrown _ _ _)))) | with_reducible exact Calls.regrown_of (HR2.out.info _ (GI.out.keep (below_step H13.out (below_regrown _ _ _))))))
          refine wpQuiet_nil ?_
          intro w20 hw
          have H20 := Lib.hid (below_step H13.out (show Below w13.heap.size w13 w20 by obtain ⟨p, rfl⟩ := hw; exact below_regrown _ _ _))
          clear hw
          go_wp2
          go_roundw
          case rel => exact ⟨q + 1, by rw [show ((q + 1 : Nat) : Int) = v + 1 by omega], by omega, H20⟩
          case measure => simp [RowKit.intOf]; omega
      · have hq3 : q = 3 := by omega
        subst hq3
        subst hv
        go_wp2
        go_ret
        exact ⟨rfl, below_step H4.out GB.out⟩

set_option maxRecDepth 100000 in
theorem timenetMeasures_lifted (os : Os) (started : os.Started) (H : Type) (enc : TypeId × Value → H) :
    ReturnsInHanded {} Tryz.checked os 3 .any (Rows.timenetMeasuresSpec.pre6 enc Tryz.prog Tryz.f3 [] false) (Rows.timenetMeasuresSpec.post enc Tryz.prog Tryz.f3 false true false false) := by
  refine law_lifted started Tryz.func3 (by kernel_rfl)
    (ChangeSpec.witness6 (enc := enc) (C := Tryz.checked) false ⟨#[], #[.agg #[.slice none 0 0, .slice none 0 0, .slice none 0 0, .int .i64 0, .int .i64 0, .int .i64 0, .int .i64 0, .int .i64 0], .agg #[.slice none 0 0, .slice none 0 0, .slice none 0 0, .int .u32 0, .int .u32 0, .int .u32 0, .int .u32 0, .int .u32 0], .int .u8 0, .int .i64 0, .int .i64 0, .int .i64 0], []⟩ 8 (by kernel_rfl) (by kernel_rfl) (by kernel_rfl) (by kernel_rfl))
    rfl (by kernel_rfl) (by kernel_rfl) (fun ds hd => ?_) ?_
  · rw [Tryz.params3] at hd
    match ds, hd with
    | [_, _, _, _, _, _], _ => exact ⟨rfl, rfl, rfl⟩
  · intro W base args ds p hval hA
    rw [Tryz.params3] at hA hval
    obtain ⟨v0, vs0, d0, ds0, p0, q0, ha0, rfl, rfl, h0, r0⟩ := trodAll_cons hA
    obtain ⟨v1, vs1, d1, ds1, p1, q1, ha1, rfl, rfl, h1, r1⟩ := trodAll_cons r0
    obtain ⟨v2, vs2, d2, ds2, p2, q2, ha2, rfl, rfl, h2, r2⟩ := trodAll_cons r1
    obtain ⟨v3, vs3, d3, ds3, p3, q3, ha3, rfl, rfl, h3, r3⟩ := trodAll_cons r2
    obtain ⟨v4, vs4, d4, ds4, p4, q4, ha4, rfl, rfl, h4, r4⟩ := trodAll_cons r3
    obtain ⟨v5, vs5, d5, ds5, p5, q5, ha5, rfl, rfl, h5, r5⟩ := trodAll_cons r4
    obtain ⟨hz, rfl, rfl⟩ := trodAll_nil r5
    obtain rfl : args = #[v0, v1, v2, v3, v4, v5] := by
      subst hz
      subst ha5
      subst ha4
      subst ha3
      subst ha2
      subst ha1
      cases args; simpa using ha0
    obtain ⟨g, rfl, hg⟩ := open_net15 (hval 0 25 v0 rfl rfl) h0
    obtain ⟨D, rfl, hDin, hDb⟩ := open_draft15 (hval 1 31 v1 rfl rfl) h1
    obtain ⟨x2, rfl, rfl, rfl, w2⟩ := open_int Tryz.underlying5 (hval 2 5 v2 rfl rfl) h2
    obtain ⟨x3, rfl, rfl, rfl, w3⟩ := open_int Tryz.underlying3 (hval 3 3 v3 rfl rfl) h3
    obtain ⟨x4, rfl, rfl, rfl, w4⟩ := open_int Tryz.underlying3 (hval 4 3 v4 rfl rfl) h4
    obtain ⟨x5, rfl, rfl, rfl, w5⟩ := open_int Tryz.underlying3 (hval 5 3 v5 rfl rfl) h5
    exact timenetMeasures_walk g D hDb x2 w2 x3 x4 x5 W hg hDin

theorem timenetMeasures_holds : Rows.TimenetMeasuresSaid :=
  OpenClaim.holds_of_wide 3 Tryz.f3 rfl rfl rfl rfl rfl rfl rfl ⟨rfl, rfl, rfl, rfl, rfl⟩ rfl rfl rfl rfl rfl (by kernel_rfl) Tryz.func3 (by kernel_rfl)
    (of_decide_eq_true (by kernel_rfl)) (by unfold Func.isWrapper; first | (rw [if_pos (by decide +kernel)]; kernel_rfl) | (rw [if_neg (by decide +kernel)]; exact ⟨rfl, rfl⟩))
    (fun os started H enc _ => timenetMeasures_lifted os started H enc)
#print axioms timenetMeasures_holds

end Go.Proofs.YtkencmijghigiaaGreat
