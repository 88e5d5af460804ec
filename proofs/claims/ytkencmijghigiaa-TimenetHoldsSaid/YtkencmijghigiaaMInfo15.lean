/-
  (tree).info: the information of a sync on its way. No conditions.
-/
import Derived.Deep.RegionHeld3
import Derived.Test.YtkencmijghigiaaMInfP15
import Derived.Test.YtkencmijghigiaaMFace15
import Derived.Test.YtkencmijghigiaaMClk
import Derived.Test.YtkencmijghigiaaMPass5l
import Derived.Test.YtkencmijghigiaaMPass5a
namespace Go.Proofs.Ytkencmijghigiaa
open Go.RowKit Go.Lib Go.Shelf Plain

/-- What the two functions of info hold. -/
structure InfE (n : Nt) (k : Int) (bt bk ba bl : Nat) (w : World) : Prop where
  hn : n.In w
  t : Holds w bt n.vs
  k : w.cell? ⟨bk, 0, none⟩ = some (.int .i64 k)
  a : w.cell? ⟨ba, 0, none⟩ = some (.func (.func 54) #[] #[.pointer (some ⟨bl, 0, none⟩), .pointer (some ⟨bt, 0, none⟩)])
  l : w.cell? ⟨bl, 0, none⟩ = some (.func (.func 51) #[] #[.pointer (some ⟨bt, 0, none⟩), .pointer (some ⟨bk, 0, none⟩), .pointer (some ⟨ba, 0, none⟩)])
theorem InfE.keep {n : Nt} {k : Int} {bt bk ba bl : Nat} {w W : World} (h : InfE n k bt bk ba bl w) (hb : Below w.heap.size w W) : InfE n k bt bk ba bl W :=
  ⟨h.hn.keep hb, h.t.keep hb, below_keep hb h.k, below_keep hb h.a, below_keep hb h.l⟩

theorem agg_inf : ∀ w, (isAgg 48).run Try.prog w = .ok true w := fun w => by kernel_rfl
theorem size_inf : ∀ w, (sizeOf 48).run Try.prog w = .ok 3 w := fun w => by kernel_rfl
theorem three_one15 (a b c : Int) : ∀ v ∈ [Value.int .i64 a, .int .i64 b, .int .i64 c], v.oneCell' = true := by
  intro v hv
  simp only [List.mem_cons, List.not_mem_nil, or_false] at hv
  rcases hv with rfl | rfl | rfl <;> rfl

theorem face_ok (O P t : Int) (h : OkC O P) (ht : Tick t) (w : World) :
    Calls Try.prog 30 #[.agg #[.int .i64 O, .int .i64 P], .int .i64 t] w fun e w' => e = .returned (.tuple #[.int .i64 (locV O P t), .int .i64 0]) ∧ Below w.heap.size w w' := by
  have h0 := face_any O P t w
  rwa [show localV O P t = locV O P t from if_pos ⟨h, ht⟩, show localE O P t = 0 by unfold localE; rw [if_pos h, if_pos ht]] at h0
theorem leave_ok {O C P x : Int} (h : LvOk O C P x) (w : World) :
    Calls Try.prog 53 #[.agg #[.int .i64 O, .int .i64 C, .int .i64 P], .int .i64 x] w fun e w' => e = .returned (.tuple #[.agg #[.int .i64 O, .int .i64 (corV C x P), .int .i64 P], .int .i64 0]) ∧ Below w.heap.size w w' := by
  have h0 := leave_any O C P x w
  obtain ⟨a, b, c⟩ := h
  simpa only [apV, apE, dnV, dnE, if_pos a, if_pos b, if_pos c] using h0
theorem arrive_ok {O C P d r : Int} (h : ArrOk O C P d r) (w : World) :
    Calls Try.prog 55 #[.agg #[.int .i64 O, .int .i64 C, .int .i64 P], .int .i64 d, .int .i64 r] w fun e w' => e = .returned (.tuple #[.agg #[.int .i64 O, .int .i64 (corV C d (P + r)), .int .i64 (P + r)], .int .i64 0]) ∧ Below w.heap.size w w' := by
  have h0 := arrive_any O C P d r w
  obtain ⟨a, b, c⟩ := h
  simpa only [apV, apE, dnV, dnE, if_pos a, if_pos b, if_pos c] using h0
theorem elapsed_ok {O P t d : Int} (h : OkC O P) (hd : ElOk t d) (w : World) :
    Calls Try.prog 52 #[.agg #[.int .i64 O, .int .i64 P], .int .i64 t, .int .i64 d] w fun e w' => e = .returned (.tuple #[.int .i64 (locV O P (t + d) - locV O P t), .int .i64 0]) ∧ Below w.heap.size w w' := by
  have h0 := elapsed_any O P t d w
  rwa [show elV O P t d = locV O P (t + d) - locV O P t from if_pos ⟨h, hd⟩, show elE O P t d = 0 by unfold elE; rw [if_pos h, if_pos hd]] at h0

set_option maxHeartbeats 8000000 in
set_option maxRecDepth 100000 in
theorem leaves_zero (n : Nt) (k : Int) (bt bk ba bl : Nat) (h0 : OkC (n.cO 0) (n.cP 0)) (ht : Tick (n.st + k * n.iv)) (hk : 0 ≤ k * n.iv) (hs : 0 ≤ n.st) (w : World) (he : InfE n k bt bk ba bl w) :
    Calls Try.prog 51 #[.int .i64 0, .pointer (some ⟨bt, 0, none⟩), .pointer (some ⟨bk, 0, none⟩), .pointer (some ⟨ba, 0, none⟩)] w fun y w' =>
      y = .returned (.tuple #[.agg #[.int .i64 (orgV n k), .int .i64 0, .int .i64 0], .int .i64 0]) ∧ Below w.heap.size w w' := by
  have HF := Lib.hid (fun W => face_ok (n.cO 0) (n.cP 0) (n.st + k * n.iv) h0 ht W)
  obtain ⟨t0, t1⟩ := ht
  have w1 : IntKind.i64.wrap (k * n.iv) = k * n.iv := by simp [IntKind.wrap, IntKind.signed, IntKind.bits]; omega
  have w2 : IntKind.i64.wrap (n.st + k * n.iv) = n.st + k * n.iv := by simp [IntKind.wrap, IntKind.signed, IntKind.bits]; omega
  have ho : orgV n k = locV (n.cO 0) (n.cP 0) (n.st + k * n.iv) := rfl
  rw [ho]
  have m1 := he.hn.m1
  have x1 : (0 : Int) < (n.m : Int) := by omega
  have e0 : w.cell? ⟨n.bc, n.oc + 0 * 2, none⟩ = some (.int .i64 (n.cO 0)) := he.hn.c0 _ m1
  have e1 : w.cell? ⟨n.bc, n.oc + 0 * 2 + 1, none⟩ = some (.int .i64 (n.cP 0)) := he.hn.c1 _ m1
  rw [Nat.zero_mul, Nat.add_zero] at e0 e1
  have k0 : w.cell? ⟨bt, 0, none⟩ = some (.slice (some ⟨n.bc, n.oc, none⟩) n.m n.kc) := he.t 0 _ rfl
  have k5 : w.cell? ⟨bt, 5, none⟩ = some (.int .i64 n.st) := he.t 5 _ rfl
  have k6 : w.cell? ⟨bt, 6, none⟩ = some (.int .i64 n.iv) := he.t 6 _ rfl
  have kk := he.k
  generalize locV (n.cO 0) (n.cP 0) (n.st + k * n.iv) = res at *
  clear he ho t0 t1 hk hs h0
  go_enter Try.func51, Try.ntmps51
  go_upto_region 1 with fail
  refine wp_world ?_
  intro V hV
  have HV := Lib.hid (show Below w.heap.size w V by subst hV; exact below_alloc (Below.refl _ _) _)
  have HZ := Lib.hid (show Holds V w.heap.size [.int .i64 0, .int .i64 0, .int .i64 0] by subst hV; exact holds_alloc w [.int .i64 0, .int .i64 0, .int .i64 0] 48 rfl)
  have FZ := Lib.hid (show ∀ u, V.frozen? ⟨w.heap.size, u, none⟩ = false by subst hV; intro u; exact frozen_new _ _ _ _ rfl)
  clear hV
  have b := HV.out
  have v0 := below_keep b e0
  have v1 := below_keep b e1
  have v2 := below_keep b k0
  have v3 := below_keep b k5
  have v4 := below_keep b k6
  have v5 := below_keep b kk
  clear e0 e1 k0 k5 k6 kk b
  have r0 := fun p : Regrown => cell_regrown v0 p.d p.os
  have r1 := fun p : Regrown => cell_regrown v1 p.d p.os
  have r2 := fun p : Regrown => cell_regrown v2 p.d p.os
  have r3 := fun p : Regrown => cell_regrown v3 p.d p.os
  have r4 := fun p : Regrown => cell_regrown v4 p.d p.os
  have r5 := fun p : Regrown => cell_regrown v5 p.d p.os
  go_upto_region 2 with fail
  refine wp_region_quiet_below (by kernel_rfl) (by kernel_rfl) ?_
  repeat (go_big_quiet_step (with_reducible exact Calls.regrown_of (HF.out _)))
  refine wpQuiet_nil ?_
  intro w6 hw
  have b6 : Below V.heap.size V w6 := by obtain ⟨p, rfl⟩ := hw; exact below_regrown _ _ _
  have Z6 := Lib.hid (HZ.out.keep b6)
  have zw : w.heap.size < V.heap.size := World.block_lt_of_cell? _ _ (HZ.out 0 _ rfl)
  have F6 := Lib.hid (show ∀ u, w6.frozen? ⟨w.heap.size, u, none⟩ = false from fun u => by rw [(bcell b6).2 _ _ zw]; exact FZ.out u)
  have H6 := Lib.hid (below_step HV.out b6)
  clear hw b6 r0 r1 r2 r3 r4 r5 v0 v1 v2 v3 v4 v5 HZ FZ HV
  have ha := Lib.hid agg_inf
  have hs := Lib.hid (show ∀ w, (sizeOf 48).run Try.prog w = .ok [Value.int .i64 res, .int .i64 0, .int .i64 0].length w from size_inf)
  go_wp2_with ((with_reducible refine at_store 48 (.tmp 5) (.tmp 35) ?_); refine wpList_store_whole rfl (.tmp 5) (.tmp 35) 48 rfl w.heap.size 0 [.int .i64 res, .int .i64 0, .int .i64 0] rfl rfl hs.out (fun j hj => Z6.out.some j hj) (fun j _ => F6.out _) (three_one15 _ _ _) ?_; intro w7 hw7)
  have hL2 := run_loadVar_whole (P := Try.prog) (w := w7) 48 w.heap.size 0 [.int .i64 res, .int .i64 0, .int .i64 0] ha.out hs.out hw7.here
  exact bodyPost_ret (v := .tuple #[.agg #[.int .i64 res, .int .i64 0, .int .i64 0], .int .i64 0]) (results_cell_tmp 5 6 48 Try.results51 w.heap.size 0 _ _ rfl hL2 rfl) rfl ⟨rfl, hw7.below _ _ (Nat.le_refl _) H6.out⟩

set_option maxHeartbeats 8000000 in
set_option maxRecDepth 100000 in
theorem leaves_more (n : Nt) (j : Fin n.m) (j0 : 0 < j.val) (k A O C P x C' : Int) (bt bk ba bl : Nat)
    (HA : ∀ W, n.In W → Calls Try.prog 32 #[.agg n.vs.toArray, .int .i64 (j.val : Int), .int .i64 k] W fun y w' => y = .returned (.tuple #[.int .i64 A, .int .i64 0]) ∧ Below W.heap.size W w')
    (HE : ∀ W, Calls Try.prog 52 #[.agg #[.int .i64 (n.cO j.val), .int .i64 (n.cP j.val)], .int .i64 A, .int .i64 n.sy] W fun y w' => y = .returned (.tuple #[.int .i64 x, .int .i64 0]) ∧ Below W.heap.size W w')
    (HL : ∀ W, Calls Try.prog 53 #[.agg #[.int .i64 O, .int .i64 C, .int .i64 P], .int .i64 x] W fun y w' => y = .returned (.tuple #[.agg #[.int .i64 O, .int .i64 C', .int .i64 P], .int .i64 0]) ∧ Below W.heap.size W w')
    (HR : ∀ W, InfE n k bt bk ba bl W → Calls Try.prog 54 #[.int .i64 (j.val : Int), .pointer (some ⟨bl, 0, none⟩), .pointer (some ⟨bt, 0, none⟩)] W fun y w' => y = .returned (.tuple #[.agg #[.int .i64 O, .int .i64 C, .int .i64 P], .int .i64 0]) ∧ Below W.heap.size W w')
    (w : World) (he : InfE n k bt bk ba bl w) :
    Calls Try.prog 51 #[.int .i64 (j.val : Int), .pointer (some ⟨bt, 0, none⟩), .pointer (some ⟨bk, 0, none⟩), .pointer (some ⟨ba, 0, none⟩)] w fun y w' =>
      y = .returned (.tuple #[.agg #[.int .i64 O, .int .i64 C', .int .i64 P], .int .i64 0]) ∧ Below w.heap.size w w' := by
  have hat := Lib.hid (show ∀ w, (isAgg 62).run Try.prog w = .ok true w from fun w => by kernel_rfl)
  have hst := Lib.hid (show ∀ w, (sizeOf 62).run Try.prog w = .ok n.vs.length w from fun w => by kernel_rfl)
  have hai := Lib.hid agg_inf
  have hsi := Lib.hid (show ∀ w, (sizeOf 48).run Try.prog w = .ok [Value.int .i64 O, .int .i64 C, .int .i64 P].length w from size_inf)
  have hsr := Lib.hid (show ∀ w, (sizeOf 48).run Try.prog w = .ok [Value.int .i64 O, .int .i64 C', .int .i64 P].length w from size_inf)
  have HA := Lib.hid HA
  have HE := Lib.hid HE
  have HL := Lib.hid HL
  have HR := Lib.hid HR
  have jz : ¬ (j.val : Int) = 0 := by omega
  have jzb : ((j.val : Int) == 0) = false := beq_eq_false_iff_ne.2 jz
  have x0 : (0 : Int) ≤ (j.val : Int) := by omega
  have x1 : (j.val : Int) < (n.m : Int) := by have := j.isLt; omega
  have hE0 := Lib.hid he
  clear he
  go_enter Try.func51, Try.ntmps51
  go_upto_region 1 with fail
  refine wp_world ?_
  intro V hV
  have H0 := Lib.hid (show Below w.heap.size w V by subst hV; exact below_alloc (Below.refl _ _) _)
  have Z0 := Lib.hid (show Holds V w.heap.size [.int .i64 0, .int .i64 0, .int .i64 0] by subst hV; exact holds_alloc w [.int .i64 0, .int .i64 0, .int .i64 0] 48 rfl)
  have F0 := Lib.hid (show ∀ u, V.frozen? ⟨w.heap.size, u, none⟩ = false by subst hV; intro u; exact frozen_new _ _ _ _ rfl)
  clear hV
  have E0 := Lib.hid (hE0.out.keep H0.out)
  have ca := E0.out.a
  go_wp2_with fail
  refine (HR.out _ E0.out).mono ?_
  rintro y w1 ⟨rfl, hb1⟩
  have zw : w.heap.size < V.heap.size := World.block_lt_of_cell? _ _ (Z0.out 0 _ rfl)
  have H1 := Lib.hid (below_step H0.out hb1)
  have Z1 := Lib.hid (Z0.out.keep hb1)
  have F1 := Lib.hid (show ∀ u, w1.frozen? ⟨w.heap.size, u, none⟩ = false from fun u => by rw [(bcell hb1).2 _ _ zw]; exact F0.out u)
  have l1 : w.heap.size < w1.heap.size := World.block_lt_of_cell? _ _ (Z1.out 0 _ rfl)
  clear hb1 zw H0 Z0 F0 E0 ca HR
  go_upto_region 5 with fail
  refine wp_world ?_
  intro V2 hV2
  have B2 : Below w1.heap.size w1 V2 := by subst hV2; exact below_alloc (Below.refl _ _) _
  have X2 := Lib.hid (show Holds V2 w1.heap.size [.int .i64 O, .int .i64 C, .int .i64 P] by subst hV2; exact holds_alloc w1 [.int .i64 O, .int .i64 C, .int .i64 P] 48 rfl)
  have Z2 := Lib.hid (Z1.out.keep B2)
  have F2 := Lib.hid (show ∀ u, V2.frozen? ⟨w.heap.size, u, none⟩ = false from fun u => by rw [(bcell B2).2 _ _ l1]; exact F1.out u)
  have H2 := Lib.hid (below_step H1.out B2)
  have E2 := Lib.hid (hE0.out.keep H2.out)
  have kk := E2.out.k
  clear hV2 H1 Z1 F1 B2 l1
  go_wp2_with ((with_reducible refine at_load 62 (.tmp 1) ?_); refine wpList_load_whole rfl (.tmp 1) 62 rfl bt 0 n.vs rfl hat.out hst.out E2.out.t ?_; simp only [Act.put, List.setIfInBounds_toArray, List.set_cons_succ, List.set_cons_zero])
  refine (HA.out _ E2.out.hn).mono ?_
  rintro y w3 ⟨rfl, hb3⟩
  have l2 : w.heap.size < V2.heap.size := World.block_lt_of_cell? _ _ (Z2.out 0 _ rfl)
  have X3 := Lib.hid (X2.out.keep hb3)
  have Z3 := Lib.hid (Z2.out.keep hb3)
  have F3 := Lib.hid (show ∀ u, w3.frozen? ⟨w.heap.size, u, none⟩ = false from fun u => by rw [(bcell hb3).2 _ _ l2]; exact F2.out u)
  have H3 := Lib.hid (below_step H2.out hb3)
  have E3 := Lib.hid (hE0.out.keep H3.out)
  have e0 : w3.cell? ⟨n.bc, n.oc + j.val * 2, none⟩ = some (.int .i64 (n.cO j.val)) := E3.out.hn.c0 _ j.isLt
  have e1 : w3.cell? ⟨n.bc, n.oc + j.val * 2 + 1, none⟩ = some (.int .i64 (n.cP j.val)) := E3.out.hn.c1 _ j.isLt
  have k0 : w3.cell? ⟨bt, 0, none⟩ = some (.slice (some ⟨n.bc, n.oc, none⟩) n.m n.kc) := E3.out.t 0 _ rfl
  have k7 : w3.cell? ⟨bt, 7, none⟩ = some (.int .i64 n.sy) := E3.out.t 7 _ rfl
  have r0 := fun p : Regrown => cell_regrown e0 p.d p.os
  have r1 := fun p : Regrown => cell_regrown e1 p.d p.os
  have r2 := fun p : Regrown => cell_regrown k0 p.d p.os
  have r3 := fun p : Regrown => cell_regrown k7 p.d p.os
  clear hb3 X2 Z2 F2 H2 E2 kk l2 HA
  go_upto_region 10 with fail
  refine wp_region_quiet_below (by kernel_rfl) (by kernel_rfl) ?_
  repeat (go_big_quiet_step (with_reducible exact Calls.regrown_of (HE.out _)))
  refine wpQuiet_nil ?_
  intro w6 hw
  have b6 : Below w3.heap.size w3 w6 := by obtain ⟨p, rfl⟩ := hw; exact below_regrown _ _ _
  have l3 : w.heap.size < w3.heap.size := World.block_lt_of_cell? _ _ (Z3.out 0 _ rfl)
  have Z6 := Lib.hid (Z3.out.keep b6)
  have X6 := Lib.hid (X3.out.keep b6)
  have F6 := Lib.hid (show ∀ u, w6.frozen? ⟨w.heap.size, u, none⟩ = false from fun u => by rw [(bcell b6).2 _ _ l3]; exact F3.out u)
  have H6 := Lib.hid (below_step H3.out b6)
  clear hw b6 r0 r1 r2 r3 e0 e1 k0 k7 X3 Z3 F3 H3 E3 l3 HE
  go_wp2_with ((with_reducible refine at_load 48 (.tmp 9) ?_); refine wpList_load_whole rfl (.tmp 9) 48 rfl w1.heap.size 0 [.int .i64 O, .int .i64 C, .int .i64 P] rfl hai.out hsi.out X6.out ?_; simp only [Act.put, List.setIfInBounds_toArray, List.set_cons_succ, List.set_cons_zero])
  refine (HL.out _).mono ?_
  rintro y w7 ⟨rfl, hb7⟩
  have l6 : w.heap.size < w6.heap.size := World.block_lt_of_cell? _ _ (Z6.out 0 _ rfl)
  have Z7 := Lib.hid (Z6.out.keep hb7)
  have F7 := Lib.hid (show ∀ u, w7.frozen? ⟨w.heap.size, u, none⟩ = false from fun u => by rw [(bcell hb7).2 _ _ l6]; exact F6.out u)
  have H7 := Lib.hid (below_step H6.out hb7)
  clear hb7 Z6 X6 F6 H6 l6
  go_wp2_with ((with_reducible refine at_store 48 (.tmp 5) (.tmp 79) ?_); refine wpList_store_whole rfl (.tmp 5) (.tmp 79) 48 rfl w.heap.size 0 [.int .i64 O, .int .i64 C', .int .i64 P] rfl rfl hsr.out (fun j hj => Z7.out.some j hj) (fun j _ => F7.out _) (three_one15 _ _ _) ?_; intro w8 hw8)
  have hL2 := run_loadVar_whole (P := Try.prog) (w := w8) 48 w.heap.size 0 [.int .i64 O, .int .i64 C', .int .i64 P] hai.out hsr.out hw8.here
  exact bodyPost_ret (v := .tuple #[.agg #[.int .i64 O, .int .i64 C', .int .i64 P], .int .i64 0]) (results_cell_tmp 5 6 48 Try.results51 w.heap.size 0 _ _ rfl hL2 rfl) rfl ⟨rfl, hw8.below _ _ (Nat.le_refl _) H7.out⟩

end Go.Proofs.Ytkencmijghigiaa
