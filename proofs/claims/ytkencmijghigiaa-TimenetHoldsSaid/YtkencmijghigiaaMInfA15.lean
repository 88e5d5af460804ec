/-
  (tree).info's function arrives.
-/
import Derived.Deep.DeepCutAuto
import Derived.Test.YtkencmijghigiaaMInfo15
namespace Go.Proofs.Ytkencmijghigiaa
open Go.RowKit Go.Lib Go.Shelf Plain

theorem new_keep15 (W wz : World) (hb : Below (W.alloc (.cells #[.int .i64 0, .int .i64 0, .int .i64 0] 48)).heap.size (W.alloc (.cells #[.int .i64 0, .int .i64 0, .int .i64 0] 48)) wz) :
    Hid (wz.cell? ⟨W.heap.size, 0, none⟩ = some (.int .i64 0) ∧ wz.cell? ⟨W.heap.size, 1, none⟩ = some (.int .i64 0) ∧ wz.cell? ⟨W.heap.size, 2, none⟩ = some (.int .i64 0) ∧ ∀ o, wz.frozen? ⟨W.heap.size, o, none⟩ = false) :=
  Lib.hid ⟨below_keep hb (by simp [go_sem]), below_keep hb (by simp [go_sem]), below_keep hb (by simp [go_sem]), fun o => ((bcell hb).2 _ _ (by simp [go_sem])).trans (frozen_new _ _ _ _ rfl)⟩

theorem new_keepD15 (W wz : World) (hb : Below (W.alloc (.cells #[.int .i64 0, .int .i64 0, .int .i64 0] 48)).drew.heap.size (W.alloc (.cells #[.int .i64 0, .int .i64 0, .int .i64 0] 48)).drew wz) :
    Hid (wz.cell? ⟨W.heap.size, 0, none⟩ = some (.int .i64 0) ∧ wz.cell? ⟨W.heap.size, 1, none⟩ = some (.int .i64 0) ∧ wz.cell? ⟨W.heap.size, 2, none⟩ = some (.int .i64 0) ∧ ∀ o, wz.frozen? ⟨W.heap.size, o, none⟩ = false) :=
  new_keep15 W wz (below_step (Below.drew (Below.refl _ _)) hb)

theorem set3_15 {V wz : World} {O C P : Int} (hb : Below V.heap.size V wz) (e0 : wz.cell? ⟨V.heap.size, 0, none⟩ = some (.int .i64 0)) (e1 : wz.cell? ⟨V.heap.size, 1, none⟩ = some (.int .i64 0)) (e2 : wz.cell? ⟨V.heap.size, 2, none⟩ = some (.int .i64 0)) (_ : ∀ o, wz.frozen? ⟨V.heap.size, o, none⟩ = false) :
    Below V.heap.size V (((wz.setCell ⟨V.heap.size, 0, none⟩ (.int .i64 O)).setCell ⟨V.heap.size, 1, none⟩ (.int .i64 C)).setCell ⟨V.heap.size, 2, none⟩ (.int .i64 P)) ∧
      Holds (((wz.setCell ⟨V.heap.size, 0, none⟩ (.int .i64 O)).setCell ⟨V.heap.size, 1, none⟩ (.int .i64 C)).setCell ⟨V.heap.size, 2, none⟩ (.int .i64 P)) V.heap.size [.int .i64 O, .int .i64 C, .int .i64 P] := by
  refine ⟨((hb.setCell (Nat.le_refl _) _).setCell (Nat.le_refl _) _).setCell (Nat.le_refl _) _, ?_⟩
  intro i v hi
  match i, hi with
  | 0, hi => cases hi; simp [go_sem, e0]
  | 1, hi => cases hi; simp [go_sem, e1]
  | 2, hi => cases hi; simp [go_sem, e2]

set_option maxHeartbeats 8000000 in
set_option maxRecDepth 100000 in
theorem arrives_more (n : Nt) (j p : Fin n.m) (hp : n.pa j.val = (p.val : Int)) (k O C P d r C' P' : Int) (bt bk ba bl : Nat)
    (HM : ∀ W, n.In W → Calls Try.prog 37 #[.agg n.vs.toArray, .int .i64 (j.val : Int)] W fun y w' => y = .returned (.tuple #[.int .i64 d, .int .i64 r, .int .i64 0]) ∧ Below W.heap.size W w')
    (HP : ∀ W, Calls Try.prog 55 #[.agg #[.int .i64 O, .int .i64 C, .int .i64 P], .int .i64 d, .int .i64 r] W fun y w' => y = .returned (.tuple #[.agg #[.int .i64 O, .int .i64 C', .int .i64 P'], .int .i64 0]) ∧ Below W.heap.size W w')
    (HL : ∀ W, InfE n k bt bk ba bl W → Calls Try.prog 51 #[.int .i64 (p.val : Int), .pointer (some ⟨bt, 0, none⟩), .pointer (some ⟨bk, 0, none⟩), .pointer (some ⟨ba, 0, none⟩)] W fun y w' => y = .returned (.tuple #[.agg #[.int .i64 O, .int .i64 C, .int .i64 P], .int .i64 0]) ∧ Below W.heap.size W w')
    (w : World) (he : InfE n k bt bk ba bl w) :
    Calls Try.prog 54 #[.int .i64 (j.val : Int), .pointer (some ⟨bl, 0, none⟩), .pointer (some ⟨bt, 0, none⟩)] w fun y w' =>
      y = .returned (.tuple #[.agg #[.int .i64 O, .int .i64 C', .int .i64 P'], .int .i64 0]) ∧ Below w.heap.size w w' := by
  have hat := Lib.hid (show ∀ w, (isAgg 62).run Try.prog w = .ok true w from fun w => by kernel_rfl)
  have hst := Lib.hid (show ∀ w, (sizeOf 62).run Try.prog w = .ok n.vs.length w from fun w => by kernel_rfl)
  have hai := Lib.hid agg_inf
  have hsi := Lib.hid (show ∀ w, (sizeOf 48).run Try.prog w = .ok [Value.int .i64 O, .int .i64 C, .int .i64 P].length w from size_inf)
  have hsr := Lib.hid (show ∀ w, (sizeOf 48).run Try.prog w = .ok [Value.int .i64 O, .int .i64 C', .int .i64 P'].length w from size_inf)
  have HM := Lib.hid HM
  have HP := Lib.hid HP
  have HL := Lib.hid HL
  have x0 : (0 : Int) ≤ (j.val : Int) := by omega
  have x1 : (j.val : Int) < (n.m : Int) := by have := j.isLt; omega
  have hE0 := Lib.hid he
  clear he
  go_enter Try.func54, Try.ntmps54
  go_upto_region 1 with fail
  refine wp_world ?_
  intro V hV
  have H0 := Lib.hid (show Below w.heap.size w V by subst hV; exact below_alloc (Below.refl _ _) _)
  have Z0 := Lib.hid (show Holds V w.heap.size [.int .i64 0, .int .i64 0, .int .i64 0] by subst hV; exact holds_alloc w [.int .i64 0, .int .i64 0, .int .i64 0] 48 rfl)
  have F0 := Lib.hid (show ∀ u, V.frozen? ⟨w.heap.size, u, none⟩ = false by subst hV; intro u; exact frozen_new _ _ _ _ rfl)
  clear hV
  have zw : w.heap.size < V.heap.size := World.block_lt_of_cell? _ _ (Z0.out 0 _ rfl)
  have E0 := Lib.hid (hE0.out.keep H0.out)
  have cl := E0.out.l
  have c1 : V.cell? ⟨bt, 1, none⟩ = some (.slice (some ⟨n.bp, n.op, none⟩) n.m n.kp) := E0.out.t 1 _ rfl
  have cp : V.cell? ⟨n.bp, n.op + j.val, none⟩ = some (.int .i64 (p.val : Int)) := by rw [E0.out.hn.p _ j.isLt, hp]
  have HS := Lib.hid (fun wx (hB : Below V.heap.size V wx) => (⟨hB, below_keep hB cl, below_keep hB c1, below_keep hB cp⟩ : Below V.heap.size V wx ∧ wx.cell? ⟨bl, 0, none⟩ = some (.func (.func 51) #[] #[.pointer (some ⟨bt, 0, none⟩), .pointer (some ⟨bk, 0, none⟩), .pointer (some ⟨ba, 0, none⟩)]) ∧ wx.cell? ⟨bt, 1, none⟩ = some (.slice (some ⟨n.bp, n.op, none⟩) n.m n.kp) ∧ wx.cell? ⟨n.bp, n.op + j.val, none⟩ = some (.int .i64 (p.val : Int))))
  have zb : bl < V.heap.size := World.block_lt_of_cell? _ _ cl
  have zt : bt < V.heap.size := World.block_lt_of_cell? _ _ c1
  have zp : n.bp < V.heap.size := World.block_lt_of_cell? _ _ cp
  clear hp
  have jb := Lib.hid (Below.drew (Below.refl V.heap.size V))
  go_cut [6, 7] (fun s6 s7 wx => ∃ b6, s6 = .pointer (some ⟨b6, 0, none⟩) ∧ s7 = .int .i64 0 ∧ Below V.heap.size V wx ∧ Holds wx b6 [.int .i64 O, .int .i64 C, .int .i64 P])
  case first =>
    go_region_held3 (fun wx => Below V.heap.size V wx ∧ wx.cell? ⟨bl, 0, none⟩ = some (.func (.func 51) #[] #[.pointer (some ⟨bt, 0, none⟩), .pointer (some ⟨bk, 0, none⟩), .pointer (some ⟨ba, 0, none⟩)]) ∧ wx.cell? ⟨bt, 1, none⟩ = some (.slice (some ⟨n.bp, n.op, none⟩) n.m n.kp) ∧ wx.cell? ⟨n.bp, n.op + j.val, none⟩ = some (.int .i64 (p.val : Int)))
      (first | assumption | (refine HS.out _ ?_; (repeat (first | with_reducible exact jb.out | with_reducible exact Below.refl _ _ | with_reducible refine Below.drew ?_ | refine Below.setCell ?_ (by first | exact Nat.le_refl _ | omega | (simp; done) | (simp; omega)) _ | refine Below.alloc ?_ (by first | exact Nat.le_refl _ | omega | (simp; done) | (simp; omega)) _)); done) | fail)
      (first | (go_at_call 51; refine (HL.out _ (E0.out.keep (by repeat (first | with_reducible exact jb.out | with_reducible exact Below.refl _ _ | with_reducible refine Below.drew ?_ | refine Below.alloc ?_ (by first | exact Nat.le_refl _ | omega | (simp; done) | (simp; omega)) _)))).mono ?_; rintro e wz ⟨rfl, hb3⟩; (try ((first | (with_reducible have en := new_keepD15 _ _ hb3) | (with_reducible have en := new_keep15 _ _ hb3)); obtain ⟨e0, e1, e2, e3⟩ := en.out; clear en)); have jb := Lib.hid (show Below V.heap.size V wz from below_step (by repeat (first | with_reducible exact jb.out | with_reducible exact Below.refl _ _ | with_reducible refine Below.drew ?_ | refine Below.alloc ?_ (by first | exact Nat.le_refl _ | omega | (simp; done) | (simp; omega)) _)) hb3); have jz : V.heap.size ≤ wz.heap.size := jb.out.size; clear hb3) | fail)
    all_goals
      go_wp2
      go_meet
      refine ⟨_, rfl, rfl, ?_⟩
      first | (with_reducible exact ⟨below_alloc jb.out _, holds_alloc _ _ _ rfl⟩) | (with_reducible exact set3_15 jb.out e0 e1 e2 e3)
  case rest =>
    obtain ⟨b6, rfl, rfl, hB, hX⟩ := hcut
    have H1 := Lib.hid (below_step H0.out hB)
    have Z1 := Lib.hid (Z0.out.keep hB)
    have F1 := Lib.hid (show ∀ u, wc.frozen? ⟨w.heap.size, u, none⟩ = false from fun u => by rw [(bcell hB).2 _ _ zw]; exact F0.out u)
    have X1 := Lib.hid hX
    have E1 := Lib.hid (hE0.out.keep H1.out)
    clear HS HL jb cl c1 cp zb zt zp hB hX Z0 F0 E0 H0 zw
    go_wp2_with ((with_reducible refine at_load 62 (.tmp 2) ?_); refine wpList_load_whole rfl (.tmp 2) 62 rfl bt 0 n.vs rfl hat.out hst.out E1.out.t ?_; simp only [Act.put, List.setIfInBounds_toArray, List.set_cons_succ, List.set_cons_zero])
    refine (HM.out _ E1.out.hn).mono ?_
    rintro y w3 ⟨rfl, hb3⟩
    have l2 : w.heap.size < wc.heap.size := World.block_lt_of_cell? _ _ (Z1.out 0 _ rfl)
    have X3 := Lib.hid (X1.out.keep hb3)
    have Z3 := Lib.hid (Z1.out.keep hb3)
    have F3 := Lib.hid (show ∀ u, w3.frozen? ⟨w.heap.size, u, none⟩ = false from fun u => by rw [(bcell hb3).2 _ _ l2]; exact F1.out u)
    have H3 := Lib.hid (below_step H1.out hb3)
    clear hb3 X1 Z1 F1 H1 E1 l2 HM
    go_wp2_with ((with_reducible refine at_load 48 (.tmp 6) ?_); refine wpList_load_whole rfl (.tmp 6) 48 rfl b6 0 [.int .i64 O, .int .i64 C, .int .i64 P] rfl hai.out hsi.out X3.out ?_; simp only [Act.put, List.setIfInBounds_toArray, List.set_cons_succ, List.set_cons_zero])
    refine (HP.out _).mono ?_
    rintro y w7 ⟨rfl, hb7⟩
    have l6 : w.heap.size < w3.heap.size := World.block_lt_of_cell? _ _ (Z3.out 0 _ rfl)
    have Z7 := Lib.hid (Z3.out.keep hb7)
    have F7 := Lib.hid (show ∀ u, w7.frozen? ⟨w.heap.size, u, none⟩ = false from fun u => by rw [(bcell hb7).2 _ _ l6]; exact F3.out u)
    have H7 := Lib.hid (below_step H3.out hb7)
    clear hb7 Z3 X3 F3 H3 l6
    go_wp2_with ((with_reducible refine at_store 48 (.tmp 4) (.tmp 40) ?_); refine wpList_store_whole rfl (.tmp 4) (.tmp 40) 48 rfl w.heap.size 0 [.int .i64 O, .int .i64 C', .int .i64 P'] rfl rfl hsr.out (fun j hj => Z7.out.some j hj) (fun j _ => F7.out _) (three_one15 _ _ _) ?_; intro w8 hw8)
    have hL2 := run_loadVar_whole (P := Try.prog) (w := w8) 48 w.heap.size 0 [.int .i64 O, .int .i64 C', .int .i64 P'] hai.out hsr.out hw8.here
    exact bodyPost_ret (v := .tuple #[.agg #[.int .i64 O, .int .i64 C', .int .i64 P'], .int .i64 0]) (results_cell_tmp 4 5 48 Try.results54 w.heap.size 0 _ _ rfl hL2 rfl) rfl ⟨rfl, hw8.below _ _ (Nat.le_refl _) H7.out⟩

end Go.Proofs.Ytkencmijghigiaa
