/-
  timenet.Bound. No conditions.
-/
import Derived.Test.YtkencmijghigiaaMOpen15n
namespace Go.Proofs.Ytkencmijghigiaa
open Go.RowKit Go.Lib Go.Shelf Plain

theorem span_bd {n : Nt} (hb : n.Bd) {mi : Int} (h0 : 0 ≤ mi) (h1 : mi < 1099511627776 / n.iv) : 0 ≤ (mi + 1) * n.iv ∧ (mi + 1) * n.iv ≤ 1099511627776 := by
  have hv := hb.iv0
  have h2 : (mi + 1) * n.iv ≤ 1099511627776 / n.iv * n.iv := Int.mul_le_mul_of_nonneg_right (by omega) (by omega)
  have h3 := Int.ediv_mul_le 1099511627776 (show n.iv ≠ 0 by omega)
  exact ⟨Int.mul_nonneg (by omega) (by omega), by omega⟩
theorem zT_new (w : World) {b : Nat} (hb : b = w.heap.size) : ∀ j, j < 8 → ((w.alloc (.cells zT.toArray 62)).cell? ⟨b, 0 + j, none⟩).isSome = true := fun j hj => (holds_alloc w zT 62 hb).some j (by rw [show zT.length = 8 from rfl]; exact hj)

set_option maxHeartbeats 8000000 in
set_option maxRecDepth 100000 in
theorem tBound_any (n : Nt) (hok : netOk n) (hb : n.Bd) (par : Fin n.m → Fin n.m) (hp : n.Par par) (i mi : Int) (w : World) (hn : n.In w) (r e : Int)
    (h : (¬ (0 ≤ i ∧ i < (n.m : Int)) ∧ r = 0 ∧ e = 2) ∨ ((0 ≤ i ∧ i < (n.m : Int)) ∧ (mi < 0 ∨ (0 ≤ mi ∧ 1099511627776 / n.iv ≤ mi)) ∧ r = 0 ∧ e = 2) ∨ (i = 0 ∧ (0 ≤ mi ∧ mi < 1099511627776 / n.iv) ∧ r = 0 ∧ e = 0) ∨
      (∃ j : Fin n.m, 0 < j.val ∧ i = (j.val : Int) ∧ (0 ≤ mi ∧ mi < 1099511627776 / n.iv) ∧ r = boundV (errV n par j) ((mi + 1) * n.iv + drV ((mi + 1) * n.iv)) (rhoV n par j) ∧ e = 0)) :
    Calls Try.prog 9 #[.agg n.vs.toArray, .int .i64 i, .int .i64 mi] w fun y w' => y = .returned (.tuple #[.int .i64 r, .int .i64 e]) ∧ Below w.heap.size w w' := by
  have ha := Lib.hid (show ∀ w, (isAgg 62).run Try.prog w = .ok true w from fun w => by kernel_rfl)
  have hs := Lib.hid (show ∀ w, (sizeOf 62).run Try.prog w = .ok n.vs.length w from fun w => by kernel_rfl)
  have ha2 := Lib.hid (show ∀ w, (isAgg 32).run Try.prog w = .ok true w from fun w => by kernel_rfl)
  have hs2 := Lib.hid (show ∀ w, (sizeOf 32).run Try.prog w = .ok n.vs.length w from fun w => by kernel_rfl)
  have hs0 := Lib.hid (show ∀ w, (sizeOf 62).run Try.prog w = .ok zT.length w from fun w => by kernel_rfl)
  have hv0 := hb.iv0
  have hv1 := hb.iv1
  have hm := hb.m12
  have hm1 := hn.m1
  have hq0 : 0 ≤ 1099511627776 / n.iv := Int.ediv_nonneg (by omega) (by omega)
  have htd : Int.tdiv 1099511627776 n.iv = 1099511627776 / n.iv := Int.tdiv_eq_ediv_of_nonneg (by omega)
  have hq1 : 1099511627776 / n.iv ≤ 1099511627776 := Int.ediv_le_self _ (by omega)
  have hwq : wrap64 (1099511627776 / n.iv) = 1099511627776 / n.iv := by
    generalize 1099511627776 / n.iv = q at *
    unfold wrap64
    omega
  have HN := Lib.hid hn
  clear hn
  by_cases hr : 0 ≤ i ∧ i < (n.m : Int)
  · have HO := Lib.hid (fun W (hW : n.In W) => open_any n hm i W hW n.vs 0 (.inr (.inr ⟨hok, hr, rfl, rfl⟩)))
    go_enter Try.func9, Try.ntmps9
    rw [n.lit]
    go_wp2_with ((with_reducible refine at_load 32 (.tmp 3) ?_); refine wpList_load_whole rfl (.tmp 3) 32 rfl w.heap.size 0 n.vs rfl ha2.out hs2.out (holds_alloc w n.vs 32 rfl) ?_; simp only [Act.put, List.setIfInBounds_toArray, List.set_cons_succ, List.set_cons_zero])
    refine (HO.out _ (HN.out.keep (below_alloc (Below.refl _ _) _))).mono ?_
    rintro y w1 ⟨rfl, hb1⟩
    have H1 := Lib.hid (below_step (below_alloc (Below.refl _ _) _) hb1)
    have z1 := H1.out.size
    clear hb1 HO
    go_upto_region 2 with ((with_reducible refine at_store 62 (.tmp 8) (.tmp 16) ?_); refine wpList_store_whole rfl (.tmp 8) (.tmp 16) 62 rfl w1.heap.size 0 n.vs rfl rfl hs.out (zT_new _ rfl) (fun j _ => frozen_new _ _ _ _ rfl) n.vs_one ?_; intro w2 hw2)
    have M2 := Lib.hid (show Holds w2 w1.heap.size n.vs from hw2.here)
    have H2 := Lib.hid (hw2.below _ _ z1 (below_alloc H1.out _))
    have N2 := Lib.hid (HN.out.keep H2.out)
    have m6 : w2.cell? ⟨w1.heap.size, 6, none⟩ = some (.int .i64 n.iv) := hw2.here 6 _ rfl
    have hvz : ¬ n.iv = 0 := by omega
    clear hw2 H1 HN
    rcases h with ⟨h1, _⟩ | ⟨_, h2, rfl, rfl⟩ | ⟨h1, h2, rfl, rfl⟩ | ⟨j, j0, rfl, h2, hr4, rfl⟩
    · exact absurd hr h1
    · rcases h2 with a1 | ⟨a1, a2⟩
      all_goals
        go_wp2
        go_ret2
        exact ⟨rfl, H2.out⟩
    · subst h1
      obtain ⟨a1, a2⟩ := h2
      go_wp2
      go_ret2
      exact ⟨rfl, H2.out⟩
    · obtain ⟨a1, a2⟩ := h2
      obtain ⟨x0, x1⟩ := span_bd hb a1 a2
      obtain ⟨-, d0, d1⟩ := drV_bd x0 x1
      obtain ⟨e0, e1⟩ := err_bd hb hp j.val j rfl j0
      obtain ⟨q0, q1⟩ := rho_bd hb hp j
      have jm := j.isLt
      have HSB := Lib.hid (show ∀ W, Calls Try.prog 23 #[.int .i64 (errV n par j), .int .i64 ((mi + 1) * n.iv + drV ((mi + 1) * n.iv)), .int .i64 (rhoV n par j)] W fun y w' => y = .returned (.tuple #[.int .i64 r, .int .i64 0]) ∧ Below W.heap.size W w' from fun W => by rw [hr4]; exact bound_ok (errV n par j) ((mi + 1) * n.iv + drV ((mi + 1) * n.iv)) (rhoV n par j) ⟨e0, by omega, by omega, by omega, q0, by omega⟩ W)
      have HBn := Lib.hid (fun W (hW : n.In W) => bound_any n hb par hp j.val j rfl j0 W hW)
      have HRj := Lib.hid (fun W (hW : n.In W) => rho_any n hb par hp j W hW)
      have hw1 : IntKind.i64.wrap ((mi + 1) * n.iv + drV ((mi + 1) * n.iv)) = (mi + 1) * n.iv + drV ((mi + 1) * n.iv) := by
        generalize (mi + 1) * n.iv = x at *
        simp [IntKind.wrap, IntKind.signed, IntKind.bits]
        omega
      have j1 : ¬ (j.val : Int) = 0 := by omega
      have j2 : ¬ j.val = 0 := by omega
      clear e0 e1 q0 q1 hr4
      generalize errV n par j = ev at *
      generalize rhoV n par j = rv at *
      have a3 : mi + 1 ≤ 1099511627776 := by omega
      go_wp2_with ((with_reducible refine at_load 62 (.tmp 8) ?_); refine wpList_load_whole rfl (.tmp 8) 62 rfl w1.heap.size 0 n.vs rfl ha.out hs.out M2.out ?_; simp only [Act.put, List.setIfInBounds_toArray, List.set_cons_succ, List.set_cons_zero])
      refine (HBn.out _ N2.out).mono ?_
      rintro y w3 ⟨rfl, hb3⟩
      have M3 := Lib.hid (M2.out.keep hb3)
      have H3 := Lib.hid (below_step H2.out hb3)
      have N3 := Lib.hid (N2.out.keep hb3)
      have k6 : w3.cell? ⟨w1.heap.size, 6, none⟩ = some (.int .i64 n.iv) := M3.out 6 _ rfl
      clear hb3 M2 H2 N2 m6 HBn
      go_upto_region 12 with fail
      obtain ⟨x, hx⟩ : ∃ x, (mi + 1) * n.iv = x := ⟨_, rfl⟩
      simp only [hx] at *
      refine wp_region_quiet_below (by kernel_rfl) (by kernel_rfl) ?_
      repeat (first | ((with_reducible refine at_qload 62 (.tmp 8) ?_); refine wpQuiet_load_whole rfl (.tmp 8) 62 rfl w1.heap.size 0 n.vs rfl ha.out hs.out (holds_regrown M3.out) ?_; simp only [Act.put, List.setIfInBounds_toArray, List.set_cons_succ, List.set_cons_zero]) | go_big_quiet_step (first | with_reducible exact Calls.regrown_of (drift_any _ _) | with_reducible exact Calls.regrown_of (HRj.out _ (N3.out.keep (below_regrown _ _ _))) | with_reducible exact Calls.regrown_of (HSB.out _)))
      refine wpQuiet_nil ?_
      intro w6 hw
      have b6 : Below w3.heap.size w3 w6 := by obtain ⟨p, rfl⟩ := hw; exact below_regrown _ _ _
      have H6 := Lib.hid (below_step H3.out b6)
      go_wp2
      go_ret2
      exact ⟨rfl, H6.out⟩
  · have HO := Lib.hid (fun W (hW : n.In W) => open_any n hm i W hW zT 2 (.inr (.inl ⟨hok, hr, rfl, rfl⟩)))
    obtain ⟨rfl, rfl⟩ : r = 0 ∧ e = 2 := by
      rcases h with ⟨_, h2, h3⟩ | ⟨h1, _⟩ | ⟨h1, _⟩ | ⟨j, _, h1, _⟩
      · exact ⟨h2, h3⟩
      · exact absurd h1 hr
      · exact absurd ⟨by omega, by omega⟩ hr
      · exact absurd ⟨by omega, by have := j.isLt; omega⟩ hr
    clear h hr
    go_enter Try.func9, Try.ntmps9
    rw [n.lit]
    go_wp2_with ((with_reducible refine at_load 32 (.tmp 3) ?_); refine wpList_load_whole rfl (.tmp 3) 32 rfl w.heap.size 0 n.vs rfl ha2.out hs2.out (holds_alloc w n.vs 32 rfl) ?_; simp only [Act.put, List.setIfInBounds_toArray, List.set_cons_succ, List.set_cons_zero])
    refine (HO.out _ (HN.out.keep (below_alloc (Below.refl _ _) _))).mono ?_
    rintro y w1 ⟨rfl, hb1⟩
    have H1 := Lib.hid (below_step (below_alloc (Below.refl _ _) _) hb1)
    have z1 := H1.out.size
    clear hb1 HO
    go_wp2_with ((with_reducible refine at_store 62 (.tmp 8) (.tmp 16) ?_); refine wpList_store_whole rfl (.tmp 8) (.tmp 16) 62 rfl w1.heap.size 0 zT rfl rfl hs0.out (zT_new _ rfl) (fun j _ => frozen_new _ _ _ _ rfl) zT_one ?_; intro w2 hw2)
    go_ret2
    exact ⟨rfl, hw2.below _ _ z1 (below_alloc H1.out _)⟩

end Go.Proofs.Ytkencmijghigiaa
