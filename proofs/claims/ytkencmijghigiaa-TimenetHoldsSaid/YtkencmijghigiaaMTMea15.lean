/-
  timenet.Measure, Arrival, Info of a valid network.
-/
import Derived.Test.YtkencmijghigiaaMInfB15
namespace Go.Proofs.Ytkencmijghigiaa
open Go.RowKit Go.Lib Go.Shelf Plain

set_option maxHeartbeats 8000000 in
set_option maxRecDepth 100000 in
theorem tMeasure_any (n : Nt) (hok : netOk n) (hb : n.Bd) (hc : n.Clk) (par : Fin n.m → Fin n.m) (hp : n.Par par) (i : Int) (w : World) (hn : n.In w) (r s e : Int)
    (h : (¬ (0 ≤ i ∧ i < (n.m : Int)) ∧ r = 0 ∧ s = 0 ∧ e = 2) ∨ (i = 0 ∧ r = 0 ∧ s = 0 ∧ e = 2) ∨ (∃ j : Fin n.m, 0 < j.val ∧ i = (j.val : Int) ∧ r = meaD n par j ∧ s = meaR n par j ∧ e = 0)) :
    Calls Try.prog 19 #[.agg n.vs.toArray, .int .i64 i] w fun y w' => y = .returned (.tuple #[.int .i64 r, .int .i64 s, .int .i64 e]) ∧ Below w.heap.size w w' := by
  have ha := Lib.hid (show ∀ w, (isAgg 62).run Try.prog w = .ok true w from fun w => by kernel_rfl)
  have hs := Lib.hid (show ∀ w, (sizeOf 62).run Try.prog w = .ok n.vs.length w from fun w => by kernel_rfl)
  have ha2 := Lib.hid (show ∀ w, (isAgg 32).run Try.prog w = .ok true w from fun w => by kernel_rfl)
  have hs2 := Lib.hid (show ∀ w, (sizeOf 32).run Try.prog w = .ok n.vs.length w from fun w => by kernel_rfl)
  have hs0 := Lib.hid (show ∀ w, (sizeOf 62).run Try.prog w = .ok zT.length w from fun w => by kernel_rfl)
  have hm := hb.m12
  have hm1 := hn.m1
  have HN := Lib.hid hn
  clear hn
  by_cases hr : 0 ≤ i ∧ i < (n.m : Int)
  · have HO := Lib.hid (fun W (hW : n.In W) => open_any n hm i W hW n.vs 0 (.inr (.inr ⟨hok, hr, rfl, rfl⟩)))
    go_enter Try.func19, Try.ntmps19
    rw [n.lit]
    go_wp2_with ((with_reducible refine at_load 32 (.tmp 2) ?_); refine wpList_load_whole rfl (.tmp 2) 32 rfl w.heap.size 0 n.vs rfl ha2.out hs2.out (holds_alloc w n.vs 32 rfl) ?_; simp only [Act.put, List.setIfInBounds_toArray, List.set_cons_succ, List.set_cons_zero])
    refine (HO.out _ (HN.out.keep (below_alloc (Below.refl _ _) _))).mono ?_
    rintro y w1 ⟨rfl, hb1⟩
    have H1 := Lib.hid (below_step (below_alloc (Below.refl _ _) _) hb1)
    have z1 := H1.out.size
    clear hb1 HO
    go_upto_region 2 with ((with_reducible refine at_store 62 (.tmp 7) (.tmp 12) ?_); refine wpList_store_whole rfl (.tmp 7) (.tmp 12) 62 rfl w1.heap.size 0 n.vs rfl rfl hs.out (zT_new _ rfl) (fun j _ => frozen_new _ _ _ _ rfl) n.vs_one ?_; intro w2 hw2)
    have M2 := Lib.hid (show Holds w2 w1.heap.size n.vs from hw2.here)
    have H2 := Lib.hid (hw2.below _ _ z1 (below_alloc H1.out _))
    have N2 := Lib.hid (HN.out.keep H2.out)
    clear hw2 H1 HN
    rcases h with ⟨h1, _⟩ | ⟨rfl, rfl, rfl, rfl⟩ | ⟨j, j0, rfl, hr1, hr2, rfl⟩
    · exact absurd hr h1
    · go_wp2
      refine bodyPost_ret (v := .tuple #[.int .i64 0, .int .i64 0, .int .i64 2]) ?_ rfl ⟨rfl, H2.out⟩
      simp [results, Try.results19]
    · have jz : ¬ (j.val : Int) = 0 := by omega
      have jz2 : ¬ j.val = 0 := by omega
      have jzb : ((j.val : Int) == 0) = false := beq_eq_false_iff_ne.2 jz
      have HM := Lib.hid (show ∀ W, n.In W → Calls Try.prog 37 #[.agg n.vs.toArray, .int .i64 (j.val : Int)] W fun y w' => y = .returned (.tuple #[.int .i64 r, .int .i64 s, .int .i64 0]) ∧ Below W.heap.size W w' from fun W hW => by rw [hr1, hr2]; exact measure_any n hb hc par hp j j0 W hW)
      clear hr1 hr2
      go_wp2_with ((with_reducible refine at_load 62 (.tmp 7) ?_); refine wpList_load_whole rfl (.tmp 7) 62 rfl w1.heap.size 0 n.vs rfl ha.out hs.out M2.out ?_; simp only [Act.put, List.setIfInBounds_toArray, List.set_cons_succ, List.set_cons_zero])
      refine (HM.out _ N2.out).mono ?_
      rintro y w3 ⟨rfl, hb3⟩
      have H3 := Lib.hid (below_step H2.out hb3)
      go_wp2
      refine bodyPost_ret (v := .tuple #[.int .i64 r, .int .i64 s, .int .i64 0]) ?_ rfl ⟨rfl, H3.out⟩
      simp [results, Try.results19]
  · have HO := Lib.hid (fun W (hW : n.In W) => open_any n hm i W hW zT 2 (.inr (.inl ⟨hok, hr, rfl, rfl⟩)))
    obtain ⟨rfl, rfl, rfl⟩ : r = 0 ∧ s = 0 ∧ e = 2 := by
      rcases h with ⟨_, h2, h3, h4⟩ | ⟨h1, _⟩ | ⟨j, _, h1, _⟩
      · exact ⟨h2, h3, h4⟩
      · exact absurd ⟨by omega, by omega⟩ hr
      · exact absurd ⟨by omega, by have := j.isLt; omega⟩ hr
    clear h hr
    go_enter Try.func19, Try.ntmps19
    rw [n.lit]
    go_wp2_with ((with_reducible refine at_load 32 (.tmp 2) ?_); refine wpList_load_whole rfl (.tmp 2) 32 rfl w.heap.size 0 n.vs rfl ha2.out hs2.out (holds_alloc w n.vs 32 rfl) ?_; simp only [Act.put, List.setIfInBounds_toArray, List.set_cons_succ, List.set_cons_zero])
    refine (HO.out _ (HN.out.keep (below_alloc (Below.refl _ _) _))).mono ?_
    rintro y w1 ⟨rfl, hb1⟩
    have H1 := Lib.hid (below_step (below_alloc (Below.refl _ _) _) hb1)
    have z1 := H1.out.size
    clear hb1 HO
    go_wp2_with ((with_reducible refine at_store 62 (.tmp 7) (.tmp 12) ?_); refine wpList_store_whole rfl (.tmp 7) (.tmp 12) 62 rfl w1.heap.size 0 zT rfl rfl hs0.out (zT_new _ rfl) (fun j _ => frozen_new _ _ _ _ rfl) zT_one ?_; intro w2 hw2)
    refine bodyPost_ret (v := .tuple #[.int .i64 0, .int .i64 0, .int .i64 2]) ?_ rfl ⟨rfl, hw2.below _ _ z1 (below_alloc H1.out _)⟩
    simp [results, Try.results19]

set_option maxHeartbeats 8000000 in
set_option maxRecDepth 100000 in
theorem tArrival_any (n : Nt) (hok : netOk n) (hb : n.Bd) (par : Fin n.m → Fin n.m) (hp : n.Par par) (i k : Int) (w : World) (hn : n.In w) (r e : Int)
    (h : (¬ (0 ≤ i ∧ i < (n.m : Int)) ∧ r = 0 ∧ e = 2) ∨ (∃ j : Fin n.m, i = (j.val : Int) ∧ ArrCase n par j k r e)) :
    Calls Try.prog 14 #[.agg n.vs.toArray, .int .i64 i, .int .i64 k] w fun y w' => y = .returned (.tuple #[.int .i64 r, .int .i64 e]) ∧ Below w.heap.size w w' := by
  have ha := Lib.hid (show ∀ w, (isAgg 62).run Try.prog w = .ok true w from fun w => by kernel_rfl)
  have hs := Lib.hid (show ∀ w, (sizeOf 62).run Try.prog w = .ok n.vs.length w from fun w => by kernel_rfl)
  have ha2 := Lib.hid (show ∀ w, (isAgg 32).run Try.prog w = .ok true w from fun w => by kernel_rfl)
  have hs2 := Lib.hid (show ∀ w, (sizeOf 32).run Try.prog w = .ok n.vs.length w from fun w => by kernel_rfl)
  have hs0 := Lib.hid (show ∀ w, (sizeOf 62).run Try.prog w = .ok zT.length w from fun w => by kernel_rfl)
  have hm := hb.m12
  have hm1 := hn.m1
  have HN := Lib.hid hn
  clear hn
  rcases h with ⟨hr, rfl, rfl⟩ | ⟨j, rfl, hj⟩
  · have HO := Lib.hid (fun W (hW : n.In W) => open_any n hm i W hW zT 2 (.inr (.inl ⟨hok, hr, rfl, rfl⟩)))
    clear hr
    go_enter Try.func14, Try.ntmps14
    rw [n.lit]
    go_wp2_with ((with_reducible refine at_load 32 (.tmp 3) ?_); refine wpList_load_whole rfl (.tmp 3) 32 rfl w.heap.size 0 n.vs rfl ha2.out hs2.out (holds_alloc w n.vs 32 rfl) ?_; simp only [Act.put, List.setIfInBounds_toArray, List.set_cons_succ, List.set_cons_zero])
    refine (HO.out _ (HN.out.keep (below_alloc (Below.refl _ _) _))).mono ?_
    rintro y w1 ⟨rfl, hb1⟩
    have H1 := Lib.hid (below_step (below_alloc (Below.refl _ _) _) hb1)
    have z1 := H1.out.size
    clear hb1 HO
    go_wp2_with ((with_reducible refine at_store 62 (.tmp 8) (.tmp 14) ?_); refine wpList_store_whole rfl (.tmp 8) (.tmp 14) 62 rfl w1.heap.size 0 zT rfl rfl hs0.out (zT_new _ rfl) (fun j _ => frozen_new _ _ _ _ rfl) zT_one ?_; intro w2 hw2)
    go_ret2
    exact ⟨rfl, hw2.below _ _ z1 (below_alloc H1.out _)⟩
  · have hr : 0 ≤ (j.val : Int) ∧ (j.val : Int) < (n.m : Int) := ⟨by omega, by have := j.isLt; omega⟩
    have HO := Lib.hid (fun W (hW : n.In W) => open_any n hm (j.val : Int) W hW n.vs 0 (.inr (.inr ⟨hok, hr, rfl, rfl⟩)))
    have HA := Lib.hid (fun W (hW : n.In W) => arrival_any n hb par hp j k W hW r e hj)
    clear hj
    go_enter Try.func14, Try.ntmps14
    rw [n.lit]
    go_wp2_with ((with_reducible refine at_load 32 (.tmp 3) ?_); refine wpList_load_whole rfl (.tmp 3) 32 rfl w.heap.size 0 n.vs rfl ha2.out hs2.out (holds_alloc w n.vs 32 rfl) ?_; simp only [Act.put, List.setIfInBounds_toArray, List.set_cons_succ, List.set_cons_zero])
    refine (HO.out _ (HN.out.keep (below_alloc (Below.refl _ _) _))).mono ?_
    rintro y w1 ⟨rfl, hb1⟩
    have H1 := Lib.hid (below_step (below_alloc (Below.refl _ _) _) hb1)
    have z1 := H1.out.size
    clear hb1 HO
    go_upto_region 2 with ((with_reducible refine at_store 62 (.tmp 8) (.tmp 14) ?_); refine wpList_store_whole rfl (.tmp 8) (.tmp 14) 62 rfl w1.heap.size 0 n.vs rfl rfl hs.out (zT_new _ rfl) (fun j _ => frozen_new _ _ _ _ rfl) n.vs_one ?_; intro w2 hw2)
    have M2 := Lib.hid (show Holds w2 w1.heap.size n.vs from hw2.here)
    have H2 := Lib.hid (hw2.below _ _ z1 (below_alloc H1.out _))
    have N2 := Lib.hid (HN.out.keep H2.out)
    clear hw2 H1 HN
    go_wp2_with ((with_reducible refine at_load 62 (.tmp 8) ?_); refine wpList_load_whole rfl (.tmp 8) 62 rfl w1.heap.size 0 n.vs rfl ha.out hs.out M2.out ?_; simp only [Act.put, List.setIfInBounds_toArray, List.set_cons_succ, List.set_cons_zero])
    refine (HA.out _ N2.out).mono ?_
    rintro y w3 ⟨rfl, hb3⟩
    have H3 := Lib.hid (below_step H2.out hb3)
    go_wp2
    go_ret2
    exact ⟨rfl, H3.out⟩

end Go.Proofs.Ytkencmijghigiaa
