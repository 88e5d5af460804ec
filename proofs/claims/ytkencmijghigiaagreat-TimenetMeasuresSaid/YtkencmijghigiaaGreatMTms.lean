/-
  Texts of this claim laid together: TMea15, TInf15, TLst15.
-/
import Derived.Test.YtkencmijghigiaaGreatMInfs
import Derived.Test.YtkencmijghigiaaGreatMLast15
namespace Go.Proofs.YtkencmijghigiaaGreat
open Go.RowKit Go.Lib Go.Shelf Plain

set_option maxHeartbeats 8000000 in
set_option maxRecDepth 100000 in
theorem tMeasure_any (n : Nt) (hok : netOk n) (hb : n.Bd) (hc : n.Clk) (par : Fin n.m → Fin n.m) (hp : n.Par par) (i : Int) (w : World) (hn : n.In w) (r s e : Int)
    (h : (¬ (0 ≤ i ∧ i < (n.m : Int)) ∧ r = 0 ∧ s = 0 ∧ e = 2) ∨ (i = 0 ∧ r = 0 ∧ s = 0 ∧ e = 2) ∨ (∃ j : Fin n.m, 0 < j.val ∧ i = (j.val : Int) ∧ r = meaD n par j ∧ s = meaR n par j ∧ e = 0)) :
    Calls Tryz.prog 9 #[.agg n.vs.toArray, .int .i64 i] w fun y w' => y = .returned (.tuple #[.int .i64 r, .int .i64 s, .int .i64 e]) ∧ Below w.heap.size w w' := by
  have ha := Lib.hid (show ∀ w, (isAgg 67).run Tryz.prog w = .ok true w from fun w => by kernel_rfl)
  have hs := Lib.hid (show ∀ w, (sizeOf 67).run Tryz.prog w = .ok n.vs.length w from fun w => by kernel_rfl)
  have ha2 := Lib.hid (show ∀ w, (isAgg 25).run Tryz.prog w = .ok true w from fun w => by kernel_rfl)
  have hs2 := Lib.hid (show ∀ w, (sizeOf 25).run Tryz.prog w = .ok n.vs.length w from fun w => by kernel_rfl)
  have hs0 := Lib.hid (show ∀ w, (sizeOf 67).run Tryz.prog w = .ok zT.length w from fun w => by kernel_rfl)
  have hm := hb.m12
  have hm1 := hn.m1
  have HN := Lib.hid hn
  clear hn
  by_cases hr : 0 ≤ i ∧ i < (n.m : Int)
  · have HO := Lib.hid (fun W (hW : n.In W) => open_any n hm i W hW n.vs 0 (.inr (.inr ⟨hok, hr, rfl, rfl⟩)))
    go_enter Tryz.func9, Tryz.ntmps9
    rw [n.lit]
    go_wp2_with ((with_reducible refine at_load 25 (.tmp 2) ?_); refine wpList_load_whole rfl (.tmp 2) 25 rfl w.heap.size 0 n.vs rfl ha2.out hs2.out (holds_alloc w n.vs 25 rfl) ?_; simp only [Act.put, List.setIfInBounds_toArray, List.set_cons_succ, List.set_cons_zero])
    refine (HO.out _ (HN.out.keep (below_alloc (Below.refl _ _) _))).mono ?_
    rintro y w1 ⟨rfl, hb1⟩
    have H1 := Lib.hid (below_step (below_alloc (Below.refl _ _) _) hb1)
    have z1 := H1.out.size
    clear hb1 HO
    go_upto_region 2 with ((with_reducible refine at_store 67 (.tmp 7) (.tmp 12) ?_); refine wpList_store_whole rfl (.tmp 7) (.tmp 12) 67 rfl w1.heap.size 0 n.vs rfl rfl hs.out (zT_new _ rfl) (fun j _ => frozen_new _ _ _ _ rfl) n.vs_one ?_; intro w2 hw2)
    have M2 := Lib.hid (show Holds w2 w1.heap.size n.vs from hw2.here)
    have H2 := Lib.hid (hw2.below _ _ z1 (below_alloc H1.out _))
    have N2 := Lib.hid (HN.out.keep H2.out)
    clear hw2 H1 HN
    rcases h with ⟨h1, _⟩ | ⟨rfl, rfl, rfl, rfl⟩ | ⟨j, j0, rfl, hr1, hr2, rfl⟩
    · exact absurd hr h1
    · go_wp2
      refine bodyPost_ret (v := .tuple #[.int .i64 0, .int .i64 0, .int .i64 2]) ?_ rfl ⟨rfl, H2.out⟩
      simp [results, Tryz.results9]
    · have jz : ¬ (j.val : Int) = 0 := by omega
      have jz2 : ¬ j.val = 0 := by omega
      have jzb : ((j.val : Int) == 0) = false := beq_eq_false_iff_ne.2 jz
      have HM := Lib.hid (show ∀ W, n.In W → Calls Tryz.prog 26 #[.agg n.vs.toArray, .int .i64 (j.val : Int)] W fun y w' => y = .returned (.tuple #[.int .i64 r, .int .i64 s, .int .i64 0]) ∧ Below W.heap.size W w' from fun W hW => by rw [hr1, hr2]; exact measure_any n hb hc par hp j j0 W hW)
      clear hr1 hr2
      go_wp2_with ((with_reducible refine at_load 67 (.tmp 7) ?_); refine wpList_load_whole rfl (.tmp 7) 67 rfl w1.heap.size 0 n.vs rfl ha.out hs.out M2.out ?_; simp only [Act.put, List.setIfInBounds_toArray, List.set_cons_succ, List.set_cons_zero])
      refine (HM.out _ N2.out).mono ?_
      rintro y w3 ⟨rfl, hb3⟩
      have H3 := Lib.hid (below_step H2.out hb3)
      go_wp2
      refine bodyPost_ret (v := .tuple #[.int .i64 r, .int .i64 s, .int .i64 0]) ?_ rfl ⟨rfl, H3.out⟩
      simp [results, Tryz.results9]
  · have HO := Lib.hid (fun W (hW : n.In W) => open_any n hm i W hW zT 2 (.inr (.inl ⟨hok, hr, rfl, rfl⟩)))
    obtain ⟨rfl, rfl, rfl⟩ : r = 0 ∧ s = 0 ∧ e = 2 := by
      rcases h with ⟨_, h2, h3, h4⟩ | ⟨h1, _⟩ | ⟨j, _, h1, _⟩
      · exact ⟨h2, h3, h4⟩
      · exact absurd ⟨by omega, by omega⟩ hr
      · exact absurd ⟨by omega, by have := j.isLt; omega⟩ hr
    clear h hr
    go_enter Tryz.func9, Tryz.ntmps9
    rw [n.lit]
    go_wp2_with ((with_reducible refine at_load 25 (.tmp 2) ?_); refine wpList_load_whole rfl (.tmp 2) 25 rfl w.heap.size 0 n.vs rfl ha2.out hs2.out (holds_alloc w n.vs 25 rfl) ?_; simp only [Act.put, List.setIfInBounds_toArray, List.set_cons_succ, List.set_cons_zero])
    refine (HO.out _ (HN.out.keep (below_alloc (Below.refl _ _) _))).mono ?_
    rintro y w1 ⟨rfl, hb1⟩
    have H1 := Lib.hid (below_step (below_alloc (Below.refl _ _) _) hb1)
    have z1 := H1.out.size
    clear hb1 HO
    go_wp2_with ((with_reducible refine at_store 67 (.tmp 7) (.tmp 12) ?_); refine wpList_store_whole rfl (.tmp 7) (.tmp 12) 67 rfl w1.heap.size 0 zT rfl rfl hs0.out (zT_new _ rfl) (fun j _ => frozen_new _ _ _ _ rfl) zT_one ?_; intro w2 hw2)
    refine bodyPost_ret (v := .tuple #[.int .i64 0, .int .i64 0, .int .i64 2]) ?_ rfl ⟨rfl, hw2.below _ _ z1 (below_alloc H1.out _)⟩
    simp [results, Tryz.results9]

set_option maxHeartbeats 8000000 in
set_option maxRecDepth 100000 in
theorem tArrival_any (n : Nt) (hok : netOk n) (hb : n.Bd) (par : Fin n.m → Fin n.m) (hp : n.Par par) (i k : Int) (w : World) (hn : n.In w) (r e : Int)
    (h : (¬ (0 ≤ i ∧ i < (n.m : Int)) ∧ r = 0 ∧ e = 2) ∨ (∃ j : Fin n.m, i = (j.val : Int) ∧ ArrCase n par j k r e)) :
    Calls Tryz.prog 10 #[.agg n.vs.toArray, .int .i64 i, .int .i64 k] w fun y w' => y = .returned (.tuple #[.int .i64 r, .int .i64 e]) ∧ Below w.heap.size w w' := by
  have ha := Lib.hid (show ∀ w, (isAgg 67).run Tryz.prog w = .ok true w from fun w => by kernel_rfl)
  have hs := Lib.hid (show ∀ w, (sizeOf 67).run Tryz.prog w = .ok n.vs.length w from fun w => by kernel_rfl)
  have ha2 := Lib.hid (show ∀ w, (isAgg 25).run Tryz.prog w = .ok true w from fun w => by kernel_rfl)
  have hs2 := Lib.hid (show ∀ w, (sizeOf 25).run Tryz.prog w = .ok n.vs.length w from fun w => by kernel_rfl)
  have hs0 := Lib.hid (show ∀ w, (sizeOf 67).run Tryz.prog w = .ok zT.length w from fun w => by kernel_rfl)
  have hm := hb.m12
  have hm1 := hn.m1
  have HN := Lib.hid hn
  clear hn
  rcases h with ⟨hr, rfl, rfl⟩ | ⟨j, rfl, hj⟩
  · have HO := Lib.hid (fun W (hW : n.In W) => open_any n hm i W hW zT 2 (.inr (.inl ⟨hok, hr, rfl, rfl⟩)))
    clear hr
    go_enter Tryz.func10, Tryz.ntmps10
    rw [n.lit]
    go_wp2_with ((with_reducible refine at_load 25 (.tmp 3) ?_); refine wpList_load_whole rfl (.tmp 3) 25 rfl w.heap.size 0 n.vs rfl ha2.out hs2.out (holds_alloc w n.vs 25 rfl) ?_; simp only [Act.put, List.setIfInBounds_toArray, List.set_cons_succ, List.set_cons_zero])
    refine (HO.out _ (HN.out.keep (below_alloc (Below.refl _ _) _))).mono ?_
    rintro y w1 ⟨rfl, hb1⟩
    have H1 := Lib.hid (below_step (below_alloc (Below.refl _ _) _) hb1)
    have z1 := H1.out.size
    clear hb1 HO
    go_wp2_with ((with_reducible refine at_store 67 (.tmp 8) (.tmp 14) ?_); refine wpList_store_whole rfl (.tmp 8) (.tmp 14) 67 rfl w1.heap.size 0 zT rfl rfl hs0.out (zT_new _ rfl) (fun j _ => frozen_new _ _ _ _ rfl) zT_one ?_; intro w2 hw2)
    go_ret2
    exact ⟨rfl, hw2.below _ _ z1 (below_alloc H1.out _)⟩
  · have hr : 0 ≤ (j.val : Int) ∧ (j.val : Int) < (n.m : Int) := ⟨by omega, by have := j.isLt; omega⟩
    have HO := Lib.hid (fun W (hW : n.In W) => open_any n hm (j.val : Int) W hW n.vs 0 (.inr (.inr ⟨hok, hr, rfl, rfl⟩)))
    have HA := Lib.hid (fun W (hW : n.In W) => arrival_any n hb par hp j k W hW r e hj)
    clear hj
    go_enter Tryz.func10, Tryz.ntmps10
    rw [n.lit]
    go_wp2_with ((with_reducible refine at_load 25 (.tmp 3) ?_); refine wpList_load_whole rfl (.tmp 3) 25 rfl w.heap.size 0 n.vs rfl ha2.out hs2.out (holds_alloc w n.vs 25 rfl) ?_; simp only [Act.put, List.setIfInBounds_toArray, List.set_cons_succ, List.set_cons_zero])
    refine (HO.out _ (HN.out.keep (below_alloc (Below.refl _ _) _))).mono ?_
    rintro y w1 ⟨rfl, hb1⟩
    have H1 := Lib.hid (below_step (below_alloc (Below.refl _ _) _) hb1)
    have z1 := H1.out.size
    clear hb1 HO
    go_upto_region 2 with ((with_reducible refine at_store 67 (.tmp 8) (.tmp 14) ?_); refine wpList_store_whole rfl (.tmp 8) (.tmp 14) 67 rfl w1.heap.size 0 n.vs rfl rfl hs.out (zT_new _ rfl) (fun j _ => frozen_new _ _ _ _ rfl) n.vs_one ?_; intro w2 hw2)
    have M2 := Lib.hid (show Holds w2 w1.heap.size n.vs from hw2.here)
    have H2 := Lib.hid (hw2.below _ _ z1 (below_alloc H1.out _))
    have N2 := Lib.hid (HN.out.keep H2.out)
    clear hw2 H1 HN
    go_wp2_with ((with_reducible refine at_load 67 (.tmp 8) ?_); refine wpList_load_whole rfl (.tmp 8) 67 rfl w1.heap.size 0 n.vs rfl ha.out hs.out M2.out ?_; simp only [Act.put, List.setIfInBounds_toArray, List.set_cons_succ, List.set_cons_zero])
    refine (HA.out _ N2.out).mono ?_
    rintro y w3 ⟨rfl, hb3⟩
    have H3 := Lib.hid (below_step H2.out hb3)
    go_wp2
    go_ret2
    exact ⟨rfl, H3.out⟩

end Go.Proofs.YtkencmijghigiaaGreat

namespace Go.Proofs.YtkencmijghigiaaGreat
open Go.RowKit Go.Lib Go.Shelf Plain

set_option maxHeartbeats 8000000 in
set_option maxRecDepth 100000 in
theorem tInfo_any (n : Nt) (hok : netOk n) (hb : n.Bd) (hc : n.Clk) (par : Fin n.m → Fin n.m) (hp : n.Par par) (i k : Int) (w : World) (hn : n.In w) (O C P e : Int)
    (h : (¬ (0 ≤ i ∧ i < (n.m : Int)) ∧ (O = 0 ∧ C = 0 ∧ P = 0) ∧ e = 2) ∨ (∃ j : Fin n.m, i = (j.val : Int) ∧ ArrCase n par j k 0 2 ∧ (O = 0 ∧ C = 0 ∧ P = 0) ∧ e = 2) ∨
      (∃ j : Fin n.m, i = (j.val : Int) ∧ (0 < j.val ∧ 0 ≤ k ∧ k ≤ lastK n par j) ∧ (O = orgV n k ∧ C = (arI n par k j).1 ∧ P = (arI n par k j).2) ∧ e = 0)) :
    Calls Tryz.prog 11 #[.agg n.vs.toArray, .int .i64 i, .int .i64 k] w fun y w' => y = .returned (.tuple #[.agg #[.int .i64 O, .int .i64 C, .int .i64 P], .int .i64 e]) ∧ Below w.heap.size w w' := by
  have ha := Lib.hid (show ∀ w, (isAgg 67).run Tryz.prog w = .ok true w from fun w => by kernel_rfl)
  have hs := Lib.hid (show ∀ w, (sizeOf 67).run Tryz.prog w = .ok n.vs.length w from fun w => by kernel_rfl)
  have ha2 := Lib.hid (show ∀ w, (isAgg 25).run Tryz.prog w = .ok true w from fun w => by kernel_rfl)
  have hs2 := Lib.hid (show ∀ w, (sizeOf 25).run Tryz.prog w = .ok n.vs.length w from fun w => by kernel_rfl)
  have hs0 := Lib.hid (show ∀ w, (sizeOf 67).run Tryz.prog w = .ok zT.length w from fun w => by kernel_rfl)
  have hai := Lib.hid agg_inf
  have hsz := Lib.hid (show ∀ w, (sizeOf 44).run Tryz.prog w = .ok [Value.int .i64 0, .int .i64 0, .int .i64 0].length w from size_inf)
  have hsr := Lib.hid (show ∀ w, (sizeOf 44).run Tryz.prog w = .ok [Value.int .i64 O, .int .i64 C, .int .i64 P].length w from size_inf)
  have hm := hb.m12
  have hm1 := hn.m1
  have HN := Lib.hid hn
  clear hn
  rcases h with ⟨hr, ⟨rfl, rfl, rfl⟩, rfl⟩ | ⟨j, rfl, hj, ⟨rfl, rfl, rfl⟩, rfl⟩ | ⟨j, rfl, hj, ⟨h1, h2, h3⟩, rfl⟩
  · have HO := Lib.hid (fun W (hW : n.In W) => open_any n hm i W hW zT 2 (.inr (.inl ⟨hok, hr, rfl, rfl⟩)))
    clear hr
    go_enter Tryz.func11, Tryz.ntmps11
    rw [n.lit]
    go_upto_region 1 with fail
    refine wp_world ?_
    intro V hV
    have HM := Lib.hid (show Holds V w.heap.size n.vs by subst hV; exact (holds_alloc w n.vs 25 rfl).alloc (by simp) _)
    have HZ := Lib.hid (show Holds V (w.heap.size + 1) [.int .i64 0, .int .i64 0, .int .i64 0] by subst hV; exact holds_alloc _ [.int .i64 0, .int .i64 0, .int .i64 0] 44 (by simp))
    have FZ := Lib.hid (show ∀ u, V.frozen? ⟨w.heap.size + 1, u, none⟩ = false by subst hV; intro u; exact frozen_new _ _ _ _ (by simp))
    have HV := Lib.hid (show Below w.heap.size w V by subst hV; exact below_alloc (below_alloc (Below.refl _ _) _) _)
    have zV : w.heap.size + 1 < V.heap.size := World.block_lt_of_cell? _ _ (HZ.out 0 _ rfl)
    clear hV
    go_wp2_with ((with_reducible refine at_load 25 (.tmp 3) ?_); refine wpList_load_whole rfl (.tmp 3) 25 rfl w.heap.size 0 n.vs rfl ha2.out hs2.out HM.out ?_; simp only [Act.put, List.setIfInBounds_toArray, List.set_cons_succ, List.set_cons_zero])
    refine (HO.out _ (HN.out.keep HV.out)).mono ?_
    rintro y w1 ⟨rfl, hb1⟩
    have H1 := Lib.hid (below_step HV.out hb1)
    have Z1 := Lib.hid (HZ.out.keep hb1)
    have F1 := Lib.hid (show ∀ u, w1.frozen? ⟨w.heap.size + 1, u, none⟩ = false from fun u => by rw [(bcell hb1).2 _ _ zV]; exact FZ.out u)
    have z1 := H1.out.size
    have z2 : w.heap.size + 1 < w1.heap.size := World.block_lt_of_cell? _ _ (Z1.out 0 _ rfl)
    clear hb1 HO HM HZ FZ HV zV
    go_upto_region 2 with ((with_reducible refine at_store 67 (.tmp 8) (.tmp 16) ?_); refine wpList_store_whole rfl (.tmp 8) (.tmp 16) 67 rfl w1.heap.size 0 zT rfl rfl hs0.out (zT_new _ rfl) (fun j _ => frozen_new _ _ _ _ rfl) zT_one ?_; intro w2 hw2)
    have B2 := hw2.below _ _ (Nat.le_refl _) (below_alloc (Below.refl w1.heap.size w1) _)
    have H2 := Lib.hid (below_step H1.out B2)
    have Z2 := Lib.hid (Z1.out.keep B2)
    have F2 := Lib.hid (show ∀ u, w2.frozen? ⟨w.heap.size + 1, u, none⟩ = false from fun u => by rw [(bcell B2).2 _ _ z2]; exact F1.out u)
    clear hw2 B2 H1 Z1 F1
    go_wp2_with ((with_reducible refine at_store 44 (.tmp 6) (.tmp 20) ?_); refine wpList_store_whole rfl (.tmp 6) (.tmp 20) 44 rfl (w.heap.size + 1) 0 [.int .i64 0, .int .i64 0, .int .i64 0] rfl rfl hsz.out (fun j hj => Z2.out.some j hj) (fun j _ => F2.out _) (three_one15 _ _ _) ?_; intro w8 hw8)
    have hL2 := run_loadVar_whole (P := Tryz.prog) (w := w8) 44 (w.heap.size + 1) 0 [.int .i64 0, .int .i64 0, .int .i64 0] hai.out hsz.out hw8.here
    exact bodyPost_ret (v := .tuple #[.agg #[.int .i64 0, .int .i64 0, .int .i64 0], .int .i64 2]) (results_cell_tmp 6 7 44 Tryz.results11 (w.heap.size + 1) 0 _ _ rfl hL2 rfl) rfl ⟨rfl, hw8.below _ _ (by omega) H2.out⟩
  all_goals
    have hr : 0 ≤ (j.val : Int) ∧ (j.val : Int) < (n.m : Int) := ⟨by omega, by have := j.isLt; omega⟩
    have HO := Lib.hid (fun W (hW : n.In W) => open_any n hm (j.val : Int) W hW n.vs 0 (.inr (.inr ⟨hok, hr, rfl, rfl⟩)))
    first
    | have HA := Lib.hid (fun W (hW : n.In W) => arrival_any n hb par hp j k W hW 0 2 hj)
    | have HA := Lib.hid (fun W (hW : n.In W) => arrival_any n hb par hp j k W hW (arrV n par j k) 0 (.inr (.inr ⟨hj, rfl, rfl⟩)))
      have HI := Lib.hid (show ∀ W, n.In W → Calls Tryz.prog 28 #[.agg n.vs.toArray, .int .i64 (j.val : Int), .int .i64 k] W fun y w' => y = .returned (.tuple #[.agg #[.int .i64 O, .int .i64 C, .int .i64 P], .int .i64 0]) ∧ Below W.heap.size W w' from fun W hW => by rw [h1, h2, h3]; exact info_any n hb hc par hp k j hj.1 hj.2.1 hj.2.2 W hW)
      clear h1 h2 h3
    clear hj hr
    go_enter Tryz.func11, Tryz.ntmps11
    rw [n.lit]
    go_upto_region 1 with fail
    refine wp_world ?_
    intro V hV
    have HM := Lib.hid (show Holds V w.heap.size n.vs by subst hV; exact (holds_alloc w n.vs 25 rfl).alloc (by simp) _)
    have HZ := Lib.hid (show Holds V (w.heap.size + 1) [.int .i64 0, .int .i64 0, .int .i64 0] by subst hV; exact holds_alloc _ [.int .i64 0, .int .i64 0, .int .i64 0] 44 (by simp))
    have FZ := Lib.hid (show ∀ u, V.frozen? ⟨w.heap.size + 1, u, none⟩ = false by subst hV; intro u; exact frozen_new _ _ _ _ (by simp))
    have HV := Lib.hid (show Below w.heap.size w V by subst hV; exact below_alloc (below_alloc (Below.refl _ _) _) _)
    have zV : w.heap.size + 1 < V.heap.size := World.block_lt_of_cell? _ _ (HZ.out 0 _ rfl)
    clear hV
    go_wp2_with ((with_reducible refine at_load 25 (.tmp 3) ?_); refine wpList_load_whole rfl (.tmp 3) 25 rfl w.heap.size 0 n.vs rfl ha2.out hs2.out HM.out ?_; simp only [Act.put, List.setIfInBounds_toArray, List.set_cons_succ, List.set_cons_zero])
    refine (HO.out _ (HN.out.keep HV.out)).mono ?_
    rintro y w1 ⟨rfl, hb1⟩
    have H1 := Lib.hid (below_step HV.out hb1)
    have Z1 := Lib.hid (HZ.out.keep hb1)
    have F1 := Lib.hid (show ∀ u, w1.frozen? ⟨w.heap.size + 1, u, none⟩ = false from fun u => by rw [(bcell hb1).2 _ _ zV]; exact FZ.out u)
    have z1 := H1.out.size
    have z2 : w.heap.size + 1 < w1.heap.size := World.block_lt_of_cell? _ _ (Z1.out 0 _ rfl)
    clear hb1 HO HM HZ FZ HV zV
    go_upto_region 2 with ((with_reducible refine at_store 67 (.tmp 8) (.tmp 16) ?_); refine wpList_store_whole rfl (.tmp 8) (.tmp 16) 67 rfl w1.heap.size 0 n.vs rfl rfl hs.out (zT_new _ rfl) (fun j _ => frozen_new _ _ _ _ rfl) n.vs_one ?_; intro w2 hw2)
    have M2 := Lib.hid (show Holds w2 w1.heap.size n.vs from hw2.here)
    have B2 := hw2.below _ _ (Nat.le_refl _) (below_alloc (Below.refl w1.heap.size w1) _)
    have H2 := Lib.hid (below_step H1.out B2)
    have Z2 := Lib.hid (Z1.out.keep B2)
    have F2 := Lib.hid (show ∀ u, w2.frozen? ⟨w.heap.size + 1, u, none⟩ = false from fun u => by rw [(bcell B2).2 _ _ z2]; exact F1.out u)
    have N2 := Lib.hid (HN.out.keep H2.out)
    clear hw2 B2 H1 Z1 F1 z1 z2 HN
    go_wp2_with ((with_reducible refine at_load 67 (.tmp 8) ?_); refine wpList_load_whole rfl (.tmp 8) 67 rfl w1.heap.size 0 n.vs rfl ha.out hs.out M2.out ?_; simp only [Act.put, List.setIfInBounds_toArray, List.set_cons_succ, List.set_cons_zero])
    refine (HA.out _ N2.out).mono ?_
    rintro y w3 ⟨rfl, hb3⟩
    have z3 : w.heap.size + 1 < w2.heap.size := World.block_lt_of_cell? _ _ (Z2.out 0 _ rfl)
    have M3 := Lib.hid (M2.out.keep hb3)
    have H3 := Lib.hid (below_step H2.out hb3)
    have Z3 := Lib.hid (Z2.out.keep hb3)
    have F3 := Lib.hid (show ∀ u, w3.frozen? ⟨w.heap.size + 1, u, none⟩ = false from fun u => by rw [(bcell hb3).2 _ _ z3]; exact F2.out u)
    have N3 := Lib.hid (N2.out.keep hb3)
    clear hb3 M2 H2 Z2 F2 N2 z3 HA
  · go_wp2_with ((with_reducible refine at_store 44 (.tmp 6) (.tmp 31) ?_); refine wpList_store_whole rfl (.tmp 6) (.tmp 31) 44 rfl (w.heap.size + 1) 0 [.int .i64 0, .int .i64 0, .int .i64 0] rfl rfl hsz.out (fun j hj => Z3.out.some j hj) (fun j _ => F3.out _) (three_one15 _ _ _) ?_; intro w8 hw8)
    have hL2 := run_loadVar_whole (P := Tryz.prog) (w := w8) 44 (w.heap.size + 1) 0 [.int .i64 0, .int .i64 0, .int .i64 0] hai.out hsz.out hw8.here
    exact bodyPost_ret (v := .tuple #[.agg #[.int .i64 0, .int .i64 0, .int .i64 0], .int .i64 2]) (results_cell_tmp 6 7 44 Tryz.results11 (w.heap.size + 1) 0 _ _ rfl hL2 rfl) rfl ⟨rfl, hw8.below _ _ (by omega) H3.out⟩
  · go_wp2_with ((with_reducible refine at_load 67 (.tmp 8) ?_); refine wpList_load_whole rfl (.tmp 8) 67 rfl w1.heap.size 0 n.vs rfl ha.out hs.out M3.out ?_; simp only [Act.put, List.setIfInBounds_toArray, List.set_cons_succ, List.set_cons_zero])
    refine (HI.out _ N3.out).mono ?_
    rintro y w4 ⟨rfl, hb4⟩
    have z3 : w.heap.size + 1 < w3.heap.size := World.block_lt_of_cell? _ _ (Z3.out 0 _ rfl)
    have H4 := Lib.hid (below_step H3.out hb4)
    have Z4 := Lib.hid (Z3.out.keep hb4)
    have F4 := Lib.hid (show ∀ u, w4.frozen? ⟨w.heap.size + 1, u, none⟩ = false from fun u => by rw [(bcell hb4).2 _ _ z3]; exact F3.out u)
    clear hb4 M3 H3 Z3 F3 N3 z3 HI
    go_wp2_with ((with_reducible refine at_store 44 (.tmp 6) (.tmp 37) ?_); refine wpList_store_whole rfl (.tmp 6) (.tmp 37) 44 rfl (w.heap.size + 1) 0 [.int .i64 O, .int .i64 C, .int .i64 P] rfl rfl hsr.out (fun j hj => Z4.out.some j hj) (fun j _ => F4.out _) (three_one15 _ _ _) ?_; intro w8 hw8)
    have hL2 := run_loadVar_whole (P := Tryz.prog) (w := w8) 44 (w.heap.size + 1) 0 [.int .i64 O, .int .i64 C, .int .i64 P] hai.out hsr.out hw8.here
    exact bodyPost_ret (v := .tuple #[.agg #[.int .i64 O, .int .i64 C, .int .i64 P], .int .i64 0]) (results_cell_tmp 6 7 44 Tryz.results11 (w.heap.size + 1) 0 _ _ rfl hL2 rfl) rfl ⟨rfl, hw8.below _ _ (by omega) H4.out⟩

end Go.Proofs.YtkencmijghigiaaGreat

namespace Go.Proofs.YtkencmijghigiaaGreat
open Go.RowKit Go.Lib Go.Shelf Plain

/-- What Last answers. -/
def LstCase (n : Nt) (par : Fin n.m → Fin n.m) (ls : List (Int × Int)) (i t r e : Int) : Prop :=
  (¬ (0 ≤ i ∧ i < (n.m : Int)) ∧ r = 0 ∧ e = 2) ∨ ((0 ≤ i ∧ i < (n.m : Int)) ∧ 256 < ls.length ∧ r = 0 ∧ e = 3) ∨ ((0 ≤ i ∧ i < (n.m : Int)) ∧ ls.length ≤ 256 ∧ (i = 0 ∨ (0 < i ∧ t < 0) ∨ (0 < i ∧ 0 ≤ t ∧ 1099511627776 < t)) ∧ r = 0 ∧ e = 2) ∨
    (∃ j : Fin n.m, 0 < j.val ∧ i = (j.val : Int) ∧ ls.length ≤ 256 ∧ (0 ≤ t ∧ t ≤ 1099511627776) ∧ LastCase n par ls j t r e)

set_option maxHeartbeats 8000000 in
set_option maxRecDepth 100000 in
theorem tLast_any (n : Nt) (hok : netOk n) (hb : n.Bd) (par : Fin n.m → Fin n.m) (hp : n.Par par) (pa : Option Addr) (cap : Nat) (ls : List (Int × Int)) (hw : ∀ y ∈ ls, WfL y) (i t : Int) (w : World) (hn : n.In w) (hl : ls.length ≤ 256 → LsIn pa ls w) (r e : Int)
    (h : LstCase n par ls i t r e) :
    Calls Tryz.prog 17 #[.agg n.vs.toArray, .slice pa ls.length cap, .int .i64 i, .int .i64 t] w fun y w' => y = .returned (.tuple #[.int .i64 r, .int .i64 e]) ∧ Below w.heap.size w w' := by
  have ha := Lib.hid (show ∀ w, (isAgg 67).run Tryz.prog w = .ok true w from fun w => by kernel_rfl)
  have hs := Lib.hid (show ∀ w, (sizeOf 67).run Tryz.prog w = .ok n.vs.length w from fun w => by kernel_rfl)
  have ha2 := Lib.hid (show ∀ w, (isAgg 25).run Tryz.prog w = .ok true w from fun w => by kernel_rfl)
  have hs2 := Lib.hid (show ∀ w, (sizeOf 25).run Tryz.prog w = .ok n.vs.length w from fun w => by kernel_rfl)
  have hs0 := Lib.hid (show ∀ w, (sizeOf 67).run Tryz.prog w = .ok zT.length w from fun w => by kernel_rfl)
  have hm := hb.m12
  have hm1 := hn.m1
  have HN := Lib.hid hn
  have HL := Lib.hid hl
  clear hn hl
  by_cases hr : 0 ≤ i ∧ i < (n.m : Int)
  · have HO := Lib.hid (fun W (hW : n.In W) => open_any n hm i W hW n.vs 0 (.inr (.inr ⟨hok, hr, rfl, rfl⟩)))
    go_enter Tryz.func17, Tryz.ntmps17
    rw [n.lit]
    go_wp2_with ((with_reducible refine at_load 25 (.tmp 4) ?_); refine wpList_load_whole rfl (.tmp 4) 25 rfl w.heap.size 0 n.vs rfl ha2.out hs2.out (holds_alloc w n.vs 25 rfl) ?_; simp only [Act.put, List.setIfInBounds_toArray, List.set_cons_succ, List.set_cons_zero])
    refine (HO.out _ (HN.out.keep (below_alloc (Below.refl _ _) _))).mono ?_
    rintro y w1 ⟨rfl, hb1⟩
    have H1 := Lib.hid (below_step (below_alloc (Below.refl _ _) _) hb1)
    have z1 := H1.out.size
    clear hb1 HO
    go_upto_region 2 with ((with_reducible refine at_store 67 (.tmp 10) (.tmp 16) ?_); refine wpList_store_whole rfl (.tmp 10) (.tmp 16) 67 rfl w1.heap.size 0 n.vs rfl rfl hs.out (zT_new _ rfl) (fun j _ => frozen_new _ _ _ _ rfl) n.vs_one ?_; intro w2 hw2)
    have M2 := Lib.hid (show Holds w2 w1.heap.size n.vs from hw2.here)
    have H2 := Lib.hid (hw2.below _ _ z1 (below_alloc H1.out _))
    have N2 := Lib.hid (HN.out.keep H2.out)
    clear hw2 H1 HN
    rcases h with ⟨h1, _⟩ | ⟨_, h2, rfl, rfl⟩ | ⟨_, h2, h3, rfl, rfl⟩ | ⟨j, j0, rfl, h2, ht, h3⟩
    · exact absurd hr h1
    · have h2' : (256 : Int) < (ls.length : Int) := by omega
      go_wp2
      go_ret2
      exact ⟨rfl, H2.out⟩
    · have h2' : ¬ (256 : Int) < (ls.length : Int) := by omega
      rcases h3 with rfl | ⟨i0, h4⟩ | ⟨i0, t0, h4⟩
      · go_wp2
        go_ret2
        exact ⟨rfl, H2.out⟩
      all_goals
        have iz : ¬ i = 0 := by omega
        have izb : (i == 0) = false := beq_eq_false_iff_ne.2 iz
        go_wp2
        go_ret2
        exact ⟨rfl, H2.out⟩
    · have h2' : ¬ (256 : Int) < (ls.length : Int) := by omega
      have jz : ¬ (j.val : Int) = 0 := by omega
      have jz2 : ¬ j.val = 0 := by omega
      have jzb : ((j.val : Int) == 0) = false := beq_eq_false_iff_ne.2 jz
      obtain ⟨t0, t1⟩ := ht
      have HLa := Lib.hid (fun W (hW : n.In W) (hX : LsIn pa ls W) => last_any n hb par hp j pa cap ls hw h2 t t0 t1 W hW hX r e h3)
      clear h3
      have L2 := Lib.hid ((HL.out h2).keep H2.out)
      go_wp2_with ((with_reducible refine at_load 67 (.tmp 10) ?_); refine wpList_load_whole rfl (.tmp 10) 67 rfl w1.heap.size 0 n.vs rfl ha.out hs.out M2.out ?_; simp only [Act.put, List.setIfInBounds_toArray, List.set_cons_succ, List.set_cons_zero])
      refine (HLa.out _ N2.out L2.out).mono ?_
      rintro y w3 ⟨rfl, hb3⟩
      have H3 := Lib.hid (below_step H2.out hb3)
      go_wp2
      go_ret2
      exact ⟨rfl, H3.out⟩
  · have HO := Lib.hid (fun W (hW : n.In W) => open_any n hm i W hW zT 2 (.inr (.inl ⟨hok, hr, rfl, rfl⟩)))
    obtain ⟨rfl, rfl⟩ : r = 0 ∧ e = 2 := by
      rcases h with ⟨_, h2, h3⟩ | ⟨h1, _⟩ | ⟨h1, _⟩ | ⟨j, _, h1, _⟩
      · exact ⟨h2, h3⟩
      · exact absurd h1 hr
      · exact absurd h1 hr
      · exact absurd ⟨by omega, by have := j.isLt; omega⟩ hr
    clear h hr
    go_enter Tryz.func17, Tryz.ntmps17
    rw [n.lit]
    go_wp2_with ((with_reducible refine at_load 25 (.tmp 4) ?_); refine wpList_load_whole rfl (.tmp 4) 25 rfl w.heap.size 0 n.vs rfl ha2.out hs2.out (holds_alloc w n.vs 25 rfl) ?_; simp only [Act.put, List.setIfInBounds_toArray, List.set_cons_succ, List.set_cons_zero])
    refine (HO.out _ (HN.out.keep (below_alloc (Below.refl _ _) _))).mono ?_
    rintro y w1 ⟨rfl, hb1⟩
    have H1 := Lib.hid (below_step (below_alloc (Below.refl _ _) _) hb1)
    have z1 := H1.out.size
    clear hb1 HO
    go_wp2_with ((with_reducible refine at_store 67 (.tmp 10) (.tmp 16) ?_); refine wpList_store_whole rfl (.tmp 10) (.tmp 16) 67 rfl w1.heap.size 0 zT rfl rfl hs0.out (zT_new _ rfl) (fun j _ => frozen_new _ _ _ _ rfl) zT_one ?_; intro w2 hw2)
    go_ret2
    exact ⟨rfl, hw2.below _ _ z1 (below_alloc H1.out _)⟩

end Go.Proofs.YtkencmijghigiaaGreat
