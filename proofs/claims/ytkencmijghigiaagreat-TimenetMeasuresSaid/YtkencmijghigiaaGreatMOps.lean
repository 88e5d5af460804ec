/-
  Texts of this claim laid together: Open15n, TBnd15, Arr15.
-/
import Derived.Test.YtkencmijghigiaaGreatMChk15
import Derived.Test.YtkencmijghigiaaGreatMBnd15
import Derived.Test.YtkencmijghigiaaGreatMBase
namespace Go.Proofs.YtkencmijghigiaaGreat
open Go.RowKit Go.Lib Go.Shelf Plain

/-- No network. -/
def zT : List Value := [.slice none 0 0, .slice none 0 0, .slice none 0 0, .int .i64 0, .int .i64 0, .int .i64 0, .int .i64 0, .int .i64 0]
theorem zT_one : ∀ v ∈ zT, v.oneCell' = true := by
  intro v hv
  simp only [zT, List.mem_cons, List.not_mem_nil, or_false] at hv
  rcases hv with rfl | rfl | rfl | rfl | rfl | rfl | rfl | rfl <;> rfl

theorem build_tree (n : Nt) (w : World) : (Instr.build 67 #[(0, .agg n.vs.toArray)]).run Tryz.prog w = .ok (.agg n.vs.toArray) w := by kernel_rfl

set_option maxHeartbeats 4000000 in
set_option maxRecDepth 100000 in
theorem open_any (n : Nt) (hm : n.m ≤ 12) (i : Int) (w : World) (hn : n.In w) (T : List Value) (e : Int)
    (h : (¬ netOk n ∧ T = zT ∧ e = 250) ∨ (netOk n ∧ ¬ (0 ≤ i ∧ i < (n.m : Int)) ∧ T = zT ∧ e = 2) ∨ (netOk n ∧ (0 ≤ i ∧ i < (n.m : Int)) ∧ T = n.vs ∧ e = 0)) :
    Calls Tryz.prog 25 #[.agg n.vs.toArray, .int .i64 i] w fun y w' => y = .returned (.tuple #[.agg T.toArray, .int .i64 e]) ∧ Below w.heap.size w w' := by
  have ha := Lib.hid (show ∀ w, (isAgg 67).run Tryz.prog w = .ok true w from fun w => by kernel_rfl)
  have hs := Lib.hid (show ∀ w, (sizeOf 67).run Tryz.prog w = .ok n.vs.length w from fun w => by kernel_rfl)
  have hs0 := Lib.hid (show ∀ w, (sizeOf 67).run Tryz.prog w = .ok zT.length w from fun w => by kernel_rfl)
  have ha2 := Lib.hid (show ∀ w, (isAgg 25).run Tryz.prog w = .ok true w from fun w => by kernel_rfl)
  have hs2 := Lib.hid (show ∀ w, (sizeOf 25).run Tryz.prog w = .ok n.vs.length w from fun w => by kernel_rfl)
  have HN := Lib.hid hn
  clear hn
  go_enter Tryz.func25, Tryz.ntmps25
  rw [n.lit]
  go_upto_region 1 with fail
  refine wp_world ?_
  intro V hV
  have HM := Lib.hid (show Holds V w.heap.size n.vs by subst hV; exact (holds_alloc w n.vs 25 rfl).alloc (by simp) _)
  have HZ := Lib.hid (show Holds V (w.heap.size + 1) zT by subst hV; exact holds_alloc _ zT 67 (by simp))
  have FZ := Lib.hid (show ∀ u, V.frozen? ⟨w.heap.size + 1, u, none⟩ = false by subst hV; intro u; exact frozen_new _ _ _ _ (by simp))
  have HV := Lib.hid (show Below w.heap.size w V by subst hV; exact below_alloc (below_alloc (Below.refl _ _) _) _)
  have zV : w.heap.size + 1 < V.heap.size := World.block_lt_of_cell? _ _ (HZ.out 0 _ rfl)
  clear hV
  go_wp2_with ((with_reducible refine at_load 25 (.tmp 2) ?_); refine wpList_load_whole rfl (.tmp 2) 25 rfl w.heap.size 0 n.vs rfl ha2.out hs2.out HM.out ?_; simp only [Act.put, List.setIfInBounds_toArray, List.set_cons_succ, List.set_cons_zero])
  refine (chkNet_any n hm _ (HN.out.keep HV.out)).mono ?_
  rintro y w1 ⟨rfl, hb1⟩
  have M1 := Lib.hid (HM.out.keep hb1)
  have Z1 := Lib.hid (HZ.out.keep hb1)
  have F1 := Lib.hid (show ∀ u, w1.frozen? ⟨w.heap.size + 1, u, none⟩ = false from fun u => by rw [(bcell hb1).2 _ _ zV]; exact FZ.out u)
  have H1 := Lib.hid (below_step HV.out hb1)
  have m0 : w1.cell? ⟨w.heap.size, 0, none⟩ = some (.slice (some ⟨n.bc, n.oc, none⟩) n.m n.kc) := M1.out 0 _ rfl
  clear hb1 HM HZ FZ HV
  rcases h with ⟨h1, rfl, rfl⟩ | ⟨h1, h2, rfl, rfl⟩ | ⟨h1, h2, rfl, rfl⟩
  · rw [show chkN n = 250 from if_neg h1]
    go_wp2_with ((with_reducible refine at_store 67 (.tmp 4) (.tmp 11) ?_); refine wpList_store_whole rfl (.tmp 4) (.tmp 11) 67 rfl (w.heap.size + 1) 0 zT rfl rfl hs0.out (fun j hj => Z1.out.some j hj) (fun j _ => F1.out _) zT_one ?_; intro w2 hw2)
    have hL2 := run_loadVar_whole (P := Tryz.prog) (w := w2) 67 (w.heap.size + 1) 0 zT ha.out hs0.out hw2.here
    exact bodyPost_ret (v := .tuple #[.agg zT.toArray, .int .i64 250]) (results_cell_tmp 4 5 67 Tryz.results25 (w.heap.size + 1) 0 _ _ rfl hL2 rfl) rfl ⟨rfl, hw2.below _ _ (by omega) H1.out⟩
  · rw [show chkN n = 0 from if_pos h1]
    have hcs : i < 0 ∨ (0 ≤ i ∧ (n.m : Int) ≤ i) := by omega
    rcases hcs with a1 | ⟨a1, a2⟩
    all_goals
      go_wp2_with ((with_reducible refine at_store 67 (.tmp 4) (.tmp 22) ?_); refine wpList_store_whole rfl (.tmp 4) (.tmp 22) 67 rfl (w.heap.size + 1) 0 zT rfl rfl hs0.out (fun j hj => Z1.out.some j hj) (fun j _ => F1.out _) zT_one ?_; intro w2 hw2)
      have hL2 := run_loadVar_whole (P := Tryz.prog) (w := w2) 67 (w.heap.size + 1) 0 zT ha.out hs0.out hw2.here
      exact bodyPost_ret (v := .tuple #[.agg zT.toArray, .int .i64 2]) (results_cell_tmp 4 5 67 Tryz.results25 (w.heap.size + 1) 0 _ _ rfl hL2 rfl) rfl ⟨rfl, hw2.below _ _ (by omega) H1.out⟩
  · rw [show chkN n = 0 from if_pos h1]
    obtain ⟨a1, a2⟩ := h2
    go_wp2_with (first | ((with_reducible refine at_op (.build 67 #[(0, .tmp 23)]) ?_); refine wpList_run rfl (run_build (qs := #[(0, .agg n.vs.toArray)]) rfl (by simp only [List.map_toArray, List.map_cons, List.map_nil]; rfl) (build_tree n _)) ?_; simp only [Act.put, List.setIfInBounds_toArray, List.set_cons_succ, List.set_cons_zero]) | ((with_reducible refine at_load 25 (.tmp 2) ?_); refine wpList_load_whole rfl (.tmp 2) 25 rfl w.heap.size 0 n.vs rfl ha2.out hs2.out M1.out ?_; simp only [Act.put, List.setIfInBounds_toArray, List.set_cons_succ, List.set_cons_zero]) | ((with_reducible refine at_store 67 (.tmp 4) (.tmp 24) ?_); refine wpList_store_whole rfl (.tmp 4) (.tmp 24) 67 rfl (w.heap.size + 1) 0 n.vs rfl rfl hs.out (fun j hj => Z1.out.some j hj) (fun j _ => F1.out _) n.vs_one ?_; intro w2 hw2))
    have hL2 := run_loadVar_whole (P := Tryz.prog) (w := w2) 67 (w.heap.size + 1) 0 n.vs ha.out hs.out hw2.here
    exact bodyPost_ret (v := .tuple #[.agg n.vs.toArray, .int .i64 0]) (results_cell_tmp 4 5 67 Tryz.results25 (w.heap.size + 1) 0 _ _ rfl hL2 rfl) rfl ⟨rfl, hw2.below _ _ (by omega) H1.out⟩

end Go.Proofs.YtkencmijghigiaaGreat

namespace Go.Proofs.YtkencmijghigiaaGreat
open Go.RowKit Go.Lib Go.Shelf Plain

theorem span_bd {n : Nt} (hb : n.Bd) {mi : Int} (h0 : 0 ≤ mi) (h1 : mi < 1099511627776 / n.iv) : 0 ≤ (mi + 1) * n.iv ∧ (mi + 1) * n.iv ≤ 1099511627776 := by
  have hv := hb.iv0
  have h2 : (mi + 1) * n.iv ≤ 1099511627776 / n.iv * n.iv := Int.mul_le_mul_of_nonneg_right (by omega) (by omega)
  have h3 := Int.ediv_mul_le 1099511627776 (show n.iv ≠ 0 by omega)
  exact ⟨Int.mul_nonneg (by omega) (by omega), by omega⟩
theorem zT_new (w : World) {b : Nat} (hb : b = w.heap.size) : ∀ j, j < 8 → ((w.alloc (.cells zT.toArray 67)).cell? ⟨b, 0 + j, none⟩).isSome = true := fun j hj => (holds_alloc w zT 67 hb).some j (by rw [show zT.length = 8 from rfl]; exact hj)

set_option maxHeartbeats 8000000 in
set_option maxRecDepth 100000 in
theorem tBound_any (n : Nt) (hok : netOk n) (hb : n.Bd) (par : Fin n.m → Fin n.m) (hp : n.Par par) (i mi : Int) (w : World) (hn : n.In w) (r e : Int)
    (h : (¬ (0 ≤ i ∧ i < (n.m : Int)) ∧ r = 0 ∧ e = 2) ∨ ((0 ≤ i ∧ i < (n.m : Int)) ∧ (mi < 0 ∨ (0 ≤ mi ∧ 1099511627776 / n.iv ≤ mi)) ∧ r = 0 ∧ e = 2) ∨ (i = 0 ∧ (0 ≤ mi ∧ mi < 1099511627776 / n.iv) ∧ r = 0 ∧ e = 0) ∨
      (∃ j : Fin n.m, 0 < j.val ∧ i = (j.val : Int) ∧ (0 ≤ mi ∧ mi < 1099511627776 / n.iv) ∧ r = boundV (errV n par j) ((mi + 1) * n.iv + drV ((mi + 1) * n.iv)) (rhoV n par j) ∧ e = 0)) :
    Calls Tryz.prog 20 #[.agg n.vs.toArray, .int .i64 i, .int .i64 mi] w fun y w' => y = .returned (.tuple #[.int .i64 r, .int .i64 e]) ∧ Below w.heap.size w w' := by
  have ha := Lib.hid (show ∀ w, (isAgg 67).run Tryz.prog w = .ok true w from fun w => by kernel_rfl)
  have hs := Lib.hid (show ∀ w, (sizeOf 67).run Tryz.prog w = .ok n.vs.length w from fun w => by kernel_rfl)
  have ha2 := Lib.hid (show ∀ w, (isAgg 25).run Tryz.prog w = .ok true w from fun w => by kernel_rfl)
  have hs2 := Lib.hid (show ∀ w, (sizeOf 25).run Tryz.prog w = .ok n.vs.length w from fun w => by kernel_rfl)
  have hs0 := Lib.hid (show ∀ w, (sizeOf 67).run Tryz.prog w = .ok zT.length w from fun w => by kernel_rfl)
  have hv0 := hb.iv0
  have hv1 := hb.iv1
  have hm := hb.m12
  have hm1 := hn.m1
  have hq0 : 0 ≤ 1099511627776 / n.iv := Int.ediv_nonneg (by omega) (by omega)
  have htd : Int.tdiv 1099511627776 n.iv = 1099511627776 / n.iv := Int.tdiv_eq_ediv_of_nonneg (by omega)
  have hq1 : 1099511627776 / n.iv ≤ 1099511627776 := Int.ediv_le_self _ (by omega)
  have hwq : wrap64 (1099511627776 / n.iv) = 1099511627776 / n.iv := by
    generalize 1099511627776 / n.iv = q at *
    unfold wrap64
    omega
  have HN := Lib.hid hn
  clear hn
  by_cases hr : 0 ≤ i ∧ i < (n.m : Int)
  · have HO := Lib.hid (fun W (hW : n.In W) => open_any n hm i W hW n.vs 0 (.inr (.inr ⟨hok, hr, rfl, rfl⟩)))
    go_enter Tryz.func20, Tryz.ntmps20
    rw [n.lit]
    go_wp2_with ((with_reducible refine at_load 25 (.tmp 3) ?_); refine wpList_load_whole rfl (.tmp 3) 25 rfl w.heap.size 0 n.vs rfl ha2.out hs2.out (holds_alloc w n.vs 25 rfl) ?_; simp only [Act.put, List.setIfInBounds_toArray, List.set_cons_succ, List.set_cons_zero])
    refine (HO.out _ (HN.out.keep (below_alloc (Below.refl _ _) _))).mono ?_
    rintro y w1 ⟨rfl, hb1⟩
    have H1 := Lib.hid (below_step (below_alloc (Below.refl _ _) _) hb1)
    have z1 := H1.out.size
    clear hb1 HO
    go_upto_region 2 with ((with_reducible refine at_store 67 (.tmp 8) (.tmp 16) ?_); refine wpList_store_whole rfl (.tmp 8) (.tmp 16) 67 rfl w1.heap.size 0 n.vs rfl rfl hs.out (zT_new _ rfl) (fun j _ => frozen_new _ _ _ _ rfl) n.vs_one ?_; intro w2 hw2)
    have M2 := Lib.hid (show Holds w2 w1.heap.size n.vs from hw2.here)
    have H2 := Lib.hid (hw2.below _ _ z1 (below_alloc H1.out _))
    have N2 := Lib.hid (HN.out.keep H2.out)
    have m6 : w2.cell? ⟨w1.heap.size, 6, none⟩ = some (.int .i64 n.iv) := hw2.here 6 _ rfl
    have hvz : ¬ n.iv = 0 := by omega
    clear hw2 H1 HN
    rcases h with ⟨h1, _⟩ | ⟨_, h2, rfl, rfl⟩ | ⟨h1, h2, rfl, rfl⟩ | ⟨j, j0, rfl, h2, hr4, rfl⟩
    · exact absurd hr h1
    · rcases h2 with a1 | ⟨a1, a2⟩
      all_goals
        go_wp2
        go_ret2
        exact ⟨rfl, H2.out⟩
    · subst h1
      obtain ⟨a1, a2⟩ := h2
      go_wp2
      go_ret2
      exact ⟨rfl, H2.out⟩
    · obtain ⟨a1, a2⟩ := h2
      obtain ⟨x0, x1⟩ := span_bd hb a1 a2
      obtain ⟨-, d0, d1⟩ := drV_bd x0 x1
      obtain ⟨e0, e1⟩ := err_bd hb hp j.val j rfl j0
      obtain ⟨q0, q1⟩ := rho_bd hb hp j
      have jm := j.isLt
      have HSB := Lib.hid (show ∀ W, Calls Tryz.prog 40 #[.int .i64 (errV n par j), .int .i64 ((mi + 1) * n.iv + drV ((mi + 1) * n.iv)), .int .i64 (rhoV n par j)] W fun y w' => y = .returned (.tuple #[.int .i64 r, .int .i64 0]) ∧ Below W.heap.size W w' from fun W => by rw [hr4]; exact bound_ok (errV n par j) ((mi + 1) * n.iv + drV ((mi + 1) * n.iv)) (rhoV n par j) ⟨e0, by omega, by omega, by omega, q0, by omega⟩ W)
      have HBn := Lib.hid (fun W (hW : n.In W) => bound_any n hb par hp j.val j rfl j0 W hW)
      have HRj := Lib.hid (fun W (hW : n.In W) => rho_any n hb par hp j W hW)
      have hw1 : IntKind.i64.wrap ((mi + 1) * n.iv + drV ((mi + 1) * n.iv)) = (mi + 1) * n.iv + drV ((mi + 1) * n.iv) := by
        generalize (mi + 1) * n.iv = x at *
        simp [IntKind.wrap, IntKind.signed, IntKind.bits]
        omega
      have j1 : ¬ (j.val : Int) = 0 := by omega
      have j2 : ¬ j.val = 0 := by omega
      clear e0 e1 q0 q1 hr4
      generalize errV n par j = ev at *
      generalize rhoV n par j = rv at *
      have a3 : mi + 1 ≤ 1099511627776 := by omega
      go_wp2_with ((with_reducible refine at_load 67 (.tmp 8) ?_); refine wpList_load_whole rfl (.tmp 8) 67 rfl w1.heap.size 0 n.vs rfl ha.out hs.out M2.out ?_; simp only [Act.put, List.setIfInBounds_toArray, List.set_cons_succ, List.set_cons_zero])
      refine (HBn.out _ N2.out).mono ?_
      rintro y w3 ⟨rfl, hb3⟩
      have M3 := Lib.hid (M2.out.keep hb3)
      have H3 := Lib.hid (below_step H2.out hb3)
      have N3 := Lib.hid (N2.out.keep hb3)
      have k6 : w3.cell? ⟨w1.heap.size, 6, none⟩ = some (.int .i64 n.iv) := M3.out 6 _ rfl
      clear hb3 M2 H2 N2 m6 HBn
      go_upto_region 12 with fail
      obtain ⟨x, hx⟩ : ∃ x, (mi + 1) * n.iv = x := ⟨_, rfl⟩
      simp only [hx] at *
      refine wp_region_quiet_below (by kernel_rfl) (by kernel_rfl) ?_
      repeat (first | ((with_reducible refine at_qload 67 (.tmp 8) ?_); refine wpQuiet_load_whole rfl (.tmp 8) 67 rfl w1.heap.size 0 n.vs rfl ha.out hs.out (holds_regrown M3.out) ?_; simp only [Act.put, List.setIfInBounds_toArray, List.set_cons_succ, List.set_cons_zero]) | go_big_quiet_step (first | with_reducible exact Calls.regrown_of (drift_any _ _) | with_reducible exact Calls.regrown_of (HRj.out _ (N3.out.keep (below_regrown _ _ _))) | with_reducible exact Calls.regrown_of (HSB.out _)))
      refine wpQuiet_nil ?_
      intro w6 hw
      have b6 : Below w3.heap.size w3 w6 := by obtain ⟨p, rfl⟩ := hw; exact below_regrown _ _ _
      have H6 := Lib.hid (below_step H3.out b6)
      go_wp2
      go_ret2
      exact ⟨rfl, H6.out⟩
  · have HO := Lib.hid (fun W (hW : n.In W) => open_any n hm i W hW zT 2 (.inr (.inl ⟨hok, hr, rfl, rfl⟩)))
    obtain ⟨rfl, rfl⟩ : r = 0 ∧ e = 2 := by
      rcases h with ⟨_, h2, h3⟩ | ⟨h1, _⟩ | ⟨h1, _⟩ | ⟨j, _, h1, _⟩
      · exact ⟨h2, h3⟩
      · exact absurd h1 hr
      · exact absurd ⟨by omega, by omega⟩ hr
      · exact absurd ⟨by omega, by have := j.isLt; omega⟩ hr
    clear h hr
    go_enter Tryz.func20, Tryz.ntmps20
    rw [n.lit]
    go_wp2_with ((with_reducible refine at_load 25 (.tmp 3) ?_); refine wpList_load_whole rfl (.tmp 3) 25 rfl w.heap.size 0 n.vs rfl ha2.out hs2.out (holds_alloc w n.vs 25 rfl) ?_; simp only [Act.put, List.setIfInBounds_toArray, List.set_cons_succ, List.set_cons_zero])
    refine (HO.out _ (HN.out.keep (below_alloc (Below.refl _ _) _))).mono ?_
    rintro y w1 ⟨rfl, hb1⟩
    have H1 := Lib.hid (below_step (below_alloc (Below.refl _ _) _) hb1)
    have z1 := H1.out.size
    clear hb1 HO
    go_wp2_with ((with_reducible refine at_store 67 (.tmp 8) (.tmp 16) ?_); refine wpList_store_whole rfl (.tmp 8) (.tmp 16) 67 rfl w1.heap.size 0 zT rfl rfl hs0.out (zT_new _ rfl) (fun j _ => frozen_new _ _ _ _ rfl) zT_one ?_; intro w2 hw2)
    go_ret2
    exact ⟨rfl, hw2.below _ _ z1 (below_alloc H1.out _)⟩

end Go.Proofs.YtkencmijghigiaaGreat

namespace Go.Proofs.YtkencmijghigiaaGreat
open Go.RowKit Go.Lib Go.Shelf Plain

theorem first_bd {n : Nt} (hb : n.Bd) {par : Fin n.m → Fin n.m} (hp : n.Par par) (j : Fin n.m) : -1048576 ≤ firstV n par j ∧ firstV n par j ≤ 4307670208 := by
  have h := stays_bd hb (ups par j)
  have h1 := ups_len hp.lt j
  have h2 := j.isLt
  have h3 := hb.m12
  unfold firstV
  omega
/-- The number of the last sync that arrives by MaxTime. -/
def lastK (n : Nt) (par : Fin n.m → Fin n.m) (j : Fin n.m) : Int := (1099511627776 - firstV n par j) / n.iv
def arrV (n : Nt) (par : Fin n.m → Fin n.m) (j : Fin n.m) (k : Int) : Int := firstV n par j + k * n.iv
theorem arr_bd {n : Nt} (hb : n.Bd) {par : Fin n.m → Fin n.m} (hp : n.Par par) {j : Fin n.m} {k : Int} (h0 : 0 ≤ k) (h1 : k ≤ lastK n par j) : 0 ≤ k * n.iv ∧ k * n.iv ≤ 1099511627776 - firstV n par j ∧ k ≤ 1099512676352 := by
  have hv := hb.iv0
  obtain ⟨f0, f1⟩ := first_bd hb hp j
  have h2 : k * n.iv ≤ lastK n par j * n.iv := Int.mul_le_mul_of_nonneg_right h1 (by omega)
  have h3 : lastK n par j * n.iv ≤ 1099511627776 - firstV n par j := Int.ediv_mul_le _ (by omega)
  have h4 : lastK n par j ≤ 1099511627776 - firstV n par j := Int.ediv_le_self _ (by omega)
  exact ⟨Int.mul_nonneg h0 (by omega), by omega, by omega⟩
/-- What arrival answers. -/
def ArrCase (n : Nt) (par : Fin n.m → Fin n.m) (j : Fin n.m) (k r e : Int) : Prop :=
  ((j.val = 0 ∨ (0 < j.val ∧ k < 0)) ∧ r = 0 ∧ e = 2) ∨ ((0 < j.val ∧ 0 ≤ k ∧ lastK n par j < k) ∧ r = 0 ∧ e = 2) ∨ ((0 < j.val ∧ 0 ≤ k ∧ k ≤ lastK n par j) ∧ r = arrV n par j k ∧ e = 0)

set_option maxHeartbeats 8000000 in
set_option maxRecDepth 100000 in
theorem arrival_any (n : Nt) (hb : n.Bd) (par : Fin n.m → Fin n.m) (hp : n.Par par) (j : Fin n.m) (k : Int) (w : World) (hn : n.In w) (r e : Int) (h : ArrCase n par j k r e) :
    Calls Tryz.prog 27 #[.agg n.vs.toArray, .int .i64 (j.val : Int), .int .i64 k] w fun y w' => y = .returned (.tuple #[.int .i64 r, .int .i64 e]) ∧ Below w.heap.size w w' := by
  have ha := Lib.hid (show ∀ w, (isAgg 67).run Tryz.prog w = .ok true w from fun w => by kernel_rfl)
  have hs := Lib.hid (show ∀ w, (sizeOf 67).run Tryz.prog w = .ok n.vs.length w from fun w => by kernel_rfl)
  have hv0 := hb.iv0
  have hv1 := hb.iv1
  have hvz : ¬ n.iv = 0 := by omega
  obtain ⟨f0, f1⟩ := first_bd hb hp j
  have hK : lastK n par j = (1099511627776 - firstV n par j) / n.iv := rfl
  have hq0 : 0 ≤ lastK n par j := by rw [hK]; exact Int.ediv_nonneg (by omega) (by omega)
  have hq1 : lastK n par j ≤ 1099511627776 - firstV n par j := by rw [hK]; exact Int.ediv_le_self _ (by omega)
  have htd : Int.tdiv (1099511627776 - firstV n par j) n.iv = lastK n par j := by rw [hK]; exact Int.tdiv_eq_ediv_of_nonneg (by omega)
  have hwq : wrap64 (lastK n par j) = lastK n par j := by
    unfold wrap64
    omega
  have hF := Lib.hid (fun W (hW : n.In W) => first_any n hb par hp j W hW)
  have HN := Lib.hid hn
  clear hn
  rcases h with ⟨h1, rfl, rfl⟩ | ⟨⟨j0, k0, h1⟩, rfl, rfl⟩ | ⟨⟨j0, k0, h1⟩, hr, rfl⟩
  · rcases h1 with h1 | ⟨h1, h2⟩
    · have h1' : (j.val : Int) = 0 := by omega
      go_enter Tryz.func27, Tryz.ntmps27
      rw [n.lit]
      go_wp2
      go_ret2
      exact ⟨rfl, below_alloc (Below.refl _ _) _⟩
    · have h1' : ¬ (j.val : Int) = 0 := by omega
      have h1'' : ((j.val : Int) == 0) = false := beq_eq_false_iff_ne.2 h1'
      go_enter Tryz.func27, Tryz.ntmps27
      rw [n.lit]
      go_wp2
      go_ret2
      exact ⟨rfl, below_alloc (Below.refl _ _) _⟩
  · have h1' : ¬ (j.val : Int) = 0 := by omega
    have h1'' : ((j.val : Int) == 0) = false := beq_eq_false_iff_ne.2 h1'
    go_enter Tryz.func27, Tryz.ntmps27
    rw [n.lit]
    go_wp2_with ((with_reducible refine at_load 67 (.tmp 3) ?_); refine wpList_load_whole rfl (.tmp 3) 67 rfl w.heap.size 0 n.vs rfl ha.out hs.out (holds_alloc w n.vs 67 rfl) ?_; simp only [Act.put, List.setIfInBounds_toArray, List.set_cons_succ, List.set_cons_zero])
    refine (hF.out _ (HN.out.keep (below_alloc (Below.refl _ _) _))).mono ?_
    rintro y w1 ⟨rfl, hb1⟩
    have M1 := Lib.hid ((holds_alloc w n.vs 67 rfl).keep hb1)
    have H1 := Lib.hid (below_step (below_alloc (Below.refl _ _) _) hb1)
    have m6 : w1.cell? ⟨w.heap.size, 6, none⟩ = some (.int .i64 n.iv) := M1.out 6 _ rfl
    clear hb1 hF HN
    clear hK htd
    unfold lastK at *
    generalize firstV n par j = f at *
    go_wp2
    go_ret2
    exact ⟨rfl, H1.out⟩
  · have h1' : ¬ (j.val : Int) = 0 := by omega
    have h1'' : ((j.val : Int) == 0) = false := beq_eq_false_iff_ne.2 h1'
    obtain ⟨p0, p1, p2⟩ := arr_bd hb hp k0 h1
    have hr' : r = firstV n par j + k * n.iv := hr
    go_enter Tryz.func27, Tryz.ntmps27
    rw [n.lit]
    go_wp2_with ((with_reducible refine at_load 67 (.tmp 3) ?_); refine wpList_load_whole rfl (.tmp 3) 67 rfl w.heap.size 0 n.vs rfl ha.out hs.out (holds_alloc w n.vs 67 rfl) ?_; simp only [Act.put, List.setIfInBounds_toArray, List.set_cons_succ, List.set_cons_zero])
    refine (hF.out _ (HN.out.keep (below_alloc (Below.refl _ _) _))).mono ?_
    rintro y w1 ⟨rfl, hb1⟩
    have M1 := Lib.hid ((holds_alloc w n.vs 67 rfl).keep hb1)
    have H1 := Lib.hid (below_step (below_alloc (Below.refl _ _) _) hb1)
    have m6 : w1.cell? ⟨w.heap.size, 6, none⟩ = some (.int .i64 n.iv) := M1.out 6 _ rfl
    clear hb1 hF HN hr
    clear hK htd
    unfold lastK at *
    generalize firstV n par j = f at *
    have hsum : f + k * n.iv = r := hr'.symm
    have hr0 : -1048576 ≤ r := by omega
    have hr1 : r ≤ 1099511627776 := by omega
    clear hr'
    go_wp2
    go_ret2
    exact ⟨rfl, H1.out⟩

end Go.Proofs.YtkencmijghigiaaGreat
