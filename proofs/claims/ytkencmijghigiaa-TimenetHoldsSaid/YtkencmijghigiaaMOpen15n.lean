/-
  timenet.open and timenet.Bound. No conditions.
-/
import Derived.Test.YtkencmijghigiaaMChk15
import Derived.Test.YtkencmijghigiaaMBnd15
import Derived.Test.YtkencmijghigiaaMBase
namespace Go.Proofs.Ytkencmijghigiaa
open Go.RowKit Go.Lib Go.Shelf Plain

/-- No network. -/
def zT : List Value := [.slice none 0 0, .slice none 0 0, .slice none 0 0, .int .i64 0, .int .i64 0, .int .i64 0, .int .i64 0, .int .i64 0]
theorem zT_one : ∀ v ∈ zT, v.oneCell' = true := by
  intro v hv
  simp only [zT, List.mem_cons, List.not_mem_nil, or_false] at hv
  rcases hv with rfl | rfl | rfl | rfl | rfl | rfl | rfl | rfl <;> rfl

theorem build_tree (n : Nt) (w : World) : (Instr.build 62 #[(0, .agg n.vs.toArray)]).run Try.prog w = .ok (.agg n.vs.toArray) w := by kernel_rfl

set_option maxHeartbeats 4000000 in
set_option maxRecDepth 100000 in
theorem open_any (n : Nt) (hm : n.m ≤ 12) (i : Int) (w : World) (hn : n.In w) (T : List Value) (e : Int)
    (h : (¬ netOk n ∧ T = zT ∧ e = 250) ∨ (netOk n ∧ ¬ (0 ≤ i ∧ i < (n.m : Int)) ∧ T = zT ∧ e = 2) ∨ (netOk n ∧ (0 ≤ i ∧ i < (n.m : Int)) ∧ T = n.vs ∧ e = 0)) :
    Calls Try.prog 21 #[.agg n.vs.toArray, .int .i64 i] w fun y w' => y = .returned (.tuple #[.agg T.toArray, .int .i64 e]) ∧ Below w.heap.size w w' := by
  have ha := Lib.hid (show ∀ w, (isAgg 62).run Try.prog w = .ok true w from fun w => by kernel_rfl)
  have hs := Lib.hid (show ∀ w, (sizeOf 62).run Try.prog w = .ok n.vs.length w from fun w => by kernel_rfl)
  have hs0 := Lib.hid (show ∀ w, (sizeOf 62).run Try.prog w = .ok zT.length w from fun w => by kernel_rfl)
  have ha2 := Lib.hid (show ∀ w, (isAgg 32).run Try.prog w = .ok true w from fun w => by kernel_rfl)
  have hs2 := Lib.hid (show ∀ w, (sizeOf 32).run Try.prog w = .ok n.vs.length w from fun w => by kernel_rfl)
  have HN := Lib.hid hn
  clear hn
  go_enter Try.func21, Try.ntmps21
  rw [n.lit]
  go_upto_region 1 with fail
  refine wp_world ?_
  intro V hV
  have HM := Lib.hid (show Holds V w.heap.size n.vs by subst hV; exact (holds_alloc w n.vs 32 rfl).alloc (by simp) _)
  have HZ := Lib.hid (show Holds V (w.heap.size + 1) zT by subst hV; exact holds_alloc _ zT 62 (by simp))
  have FZ := Lib.hid (show ∀ u, V.frozen? ⟨w.heap.size + 1, u, none⟩ = false by subst hV; intro u; exact frozen_new _ _ _ _ (by simp))
  have HV := Lib.hid (show Below w.heap.size w V by subst hV; exact below_alloc (below_alloc (Below.refl _ _) _) _)
  have zV : w.heap.size + 1 < V.heap.size := World.block_lt_of_cell? _ _ (HZ.out 0 _ rfl)
  clear hV
  go_wp2_with ((with_reducible refine at_load 32 (.tmp 2) ?_); refine wpList_load_whole rfl (.tmp 2) 32 rfl w.heap.size 0 n.vs rfl ha2.out hs2.out HM.out ?_; simp only [Act.put, List.setIfInBounds_toArray, List.set_cons_succ, List.set_cons_zero])
  refine (chkNet_any n hm _ (HN.out.keep HV.out)).mono ?_
  rintro y w1 ⟨rfl, hb1⟩
  have M1 := Lib.hid (HM.out.keep hb1)
  have Z1 := Lib.hid (HZ.out.keep hb1)
  have F1 := Lib.hid (show ∀ u, w1.frozen? ⟨w.heap.size + 1, u, none⟩ = false from fun u => by rw [(bcell hb1).2 _ _ zV]; exact FZ.out u)
  have H1 := Lib.hid (below_step HV.out hb1)
  have m0 : w1.cell? ⟨w.heap.size, 0, none⟩ = some (.slice (some ⟨n.bc, n.oc, none⟩) n.m n.kc) := M1.out 0 _ rfl
  clear hb1 HM HZ FZ HV
  rcases h with ⟨h1, rfl, rfl⟩ | ⟨h1, h2, rfl, rfl⟩ | ⟨h1, h2, rfl, rfl⟩
  · rw [show chkN n = 250 from if_neg h1]
    go_wp2_with ((with_reducible refine at_store 62 (.tmp 4) (.tmp 11) ?_); refine wpList_store_whole rfl (.tmp 4) (.tmp 11) 62 rfl (w.heap.size + 1) 0 zT rfl rfl hs0.out (fun j hj => Z1.out.some j hj) (fun j _ => F1.out _) zT_one ?_; intro w2 hw2)
    have hL2 := run_loadVar_whole (P := Try.prog) (w := w2) 62 (w.heap.size + 1) 0 zT ha.out hs0.out hw2.here
    exact bodyPost_ret (v := .tuple #[.agg zT.toArray, .int .i64 250]) (results_cell_tmp 4 5 62 Try.results21 (w.heap.size + 1) 0 _ _ rfl hL2 rfl) rfl ⟨rfl, hw2.below _ _ (by omega) H1.out⟩
  · rw [show chkN n = 0 from if_pos h1]
    have hcs : i < 0 ∨ (0 ≤ i ∧ (n.m : Int) ≤ i) := by omega
    rcases hcs with a1 | ⟨a1, a2⟩
    all_goals
      go_wp2_with ((with_reducible refine at_store 62 (.tmp 4) (.tmp 22) ?_); refine wpList_store_whole rfl (.tmp 4) (.tmp 22) 62 rfl (w.heap.size + 1) 0 zT rfl rfl hs0.out (fun j hj => Z1.out.some j hj) (fun j _ => F1.out _) zT_one ?_; intro w2 hw2)
      have hL2 := run_loadVar_whole (P := Try.prog) (w := w2) 62 (w.heap.size + 1) 0 zT ha.out hs0.out hw2.here
      exact bodyPost_ret (v := .tuple #[.agg zT.toArray, .int .i64 2]) (results_cell_tmp 4 5 62 Try.results21 (w.heap.size + 1) 0 _ _ rfl hL2 rfl) rfl ⟨rfl, hw2.below _ _ (by omega) H1.out⟩
  · rw [show chkN n = 0 from if_pos h1]
    obtain ⟨a1, a2⟩ := h2
    go_wp2_with (first | ((with_reducible refine at_op (.build 62 #[(0, .tmp 23)]) ?_); refine wpList_run rfl (run_build (qs := #[(0, .agg n.vs.toArray)]) rfl (by simp only [List.map_toArray, List.map_cons, List.map_nil]; rfl) (build_tree n _)) ?_; simp only [Act.put, List.setIfInBounds_toArray, List.set_cons_succ, List.set_cons_zero]) | ((with_reducible refine at_load 32 (.tmp 2) ?_); refine wpList_load_whole rfl (.tmp 2) 32 rfl w.heap.size 0 n.vs rfl ha2.out hs2.out M1.out ?_; simp only [Act.put, List.setIfInBounds_toArray, List.set_cons_succ, List.set_cons_zero]) | ((with_reducible refine at_store 62 (.tmp 4) (.tmp 24) ?_); refine wpList_store_whole rfl (.tmp 4) (.tmp 24) 62 rfl (w.heap.size + 1) 0 n.vs rfl rfl hs.out (fun j hj => Z1.out.some j hj) (fun j _ => F1.out _) n.vs_one ?_; intro w2 hw2))
    have hL2 := run_loadVar_whole (P := Try.prog) (w := w2) 62 (w.heap.size + 1) 0 n.vs ha.out hs.out hw2.here
    exact bodyPost_ret (v := .tuple #[.agg n.vs.toArray, .int .i64 0]) (results_cell_tmp 4 5 62 Try.results21 (w.heap.size + 1) 0 _ _ rfl hL2 rfl) rfl ⟨rfl, hw2.below _ _ (by omega) H1.out⟩

end Go.Proofs.Ytkencmijghigiaa
