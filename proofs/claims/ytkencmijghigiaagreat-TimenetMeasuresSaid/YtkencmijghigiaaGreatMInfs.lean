/-
  Texts of this claim laid together: Face15, Info15, InfA15, InfB15.
-/
import Derived.Deep.RegionHeld3
import Derived.Deep.DeepCutAuto
import Derived.Test.YtkencmijghigiaaGreatMBase
import Derived.Test.YtkencmijghigiaaGreatMClk
import Derived.Test.YtkencmijghigiaaGreatMInfP15
import Derived.Test.YtkencmijghigiaaGreatMPat
import Derived.Test.YtkencmijghigiaaGreatMPau
namespace Go.Proofs.YtkencmijghigiaaGreat
open Go.RowKit Go.Lib Plain

theorem face_any (O P t : Int) (w : World) :
    Calls Tryz.prog 36 #[.agg #[.int .i64 O, .int .i64 P], .int .i64 t] w fun e w' => e = .returned (.tuple #[.int .i64 (localV O P t), .int .i64 (localE O P t)]) ∧ Below w.heap.size w w' := by
  go_enter Tryz.func36, Tryz.ntmps36
  go_wp2_with fail
  refine (local_any O P t _).mono ?_
  rintro y w1 ⟨rfl, hb1⟩
  go_wp2
  go_ret2
  exact ⟨rfl, below_step (below_alloc (Below.refl _ _) _) hb1⟩

end Go.Proofs.YtkencmijghigiaaGreat

namespace Go.Proofs.YtkencmijghigiaaGreat
open Go.RowKit Go.Lib Go.Shelf Plain

/-- What the two functions of info hold. -/
structure InfE (n : Nt) (k : Int) (bt bk ba bl : Nat) (w : World) : Prop where
  hn : n.In w
  t : Holds w bt n.vs
  k : w.cell? ⟨bk, 0, none⟩ = some (.int .i64 k)
  a : w.cell? ⟨ba, 0, none⟩ = some (.func (.func 51) #[] #[.pointer (some ⟨bl, 0, none⟩), .pointer (some ⟨bt, 0, none⟩)])
  l : w.cell? ⟨bl, 0, none⟩ = some (.func (.func 48) #[] #[.pointer (some ⟨bt, 0, none⟩), .pointer (some ⟨bk, 0, none⟩), .pointer (some ⟨ba, 0, none⟩)])
theorem InfE.keep {n : Nt} {k : Int} {bt bk ba bl : Nat} {w W : World} (h : InfE n k bt bk ba bl w) (hb : Below w.heap.size w W) : InfE n k bt bk ba bl W :=
  ⟨h.hn.keep hb, h.t.keep hb, below_keep hb h.k, below_keep hb h.a, below_keep hb h.l⟩

theorem agg_inf : ∀ w, (isAgg 44).run Tryz.prog w = .ok true w := fun w => by kernel_rfl
theorem size_inf : ∀ w, (sizeOf 44).run Tryz.prog w = .ok 3 w := fun w => by kernel_rfl
theorem three_one15 (a b c : Int) : ∀ v ∈ [Value.int .i64 a, .int .i64 b, .int .i64 c], v.oneCell' = true := by
  intro v hv
  simp only [List.mem_cons, List.not_mem_nil, or_false] at hv
  rcases hv with rfl | rfl | rfl <;> rfl

theorem face_ok (O P t : Int) (h : OkC O P) (ht : Tick t) (w : World) :
    Calls Tryz.prog 36 #[.agg #[.int .i64 O, .int .i64 P], .int .i64 t] w fun e w' => e = .returned (.tuple #[.int .i64 (locV O P t), .int .i64 0]) ∧ Below w.heap.size w w' := by
  have h0 := face_any O P t w
  rwa [show localV O P t = locV O P t from if_pos ⟨h, ht⟩, show localE O P t = 0 by unfold localE; rw [if_pos h, if_pos ht]] at h0
theorem leave_ok {O C P x : Int} (h : LvOk O C P x) (w : World) :
    Calls Tryz.prog 50 #[.agg #[.int .i64 O, .int .i64 C, .int .i64 P], .int .i64 x] w fun e w' => e = .returned (.tuple #[.agg #[.int .i64 O, .int .i64 (corV C x P), .int .i64 P], .int .i64 0]) ∧ Below w.heap.size w w' := by
  have h0 := leave_any O C P x w
  obtain ⟨a, b, c⟩ := h
  simpa only [apV, apE, dnV, dnE, if_pos a, if_pos b, if_pos c] using h0
theorem arrive_ok {O C P d r : Int} (h : ArrOk O C P d r) (w : World) :
    Calls Tryz.prog 52 #[.agg #[.int .i64 O, .int .i64 C, .int .i64 P], .int .i64 d, .int .i64 r] w fun e w' => e = .returned (.tuple #[.agg #[.int .i64 O, .int .i64 (corV C d (P + r)), .int .i64 (P + r)], .int .i64 0]) ∧ Below w.heap.size w w' := by
  have h0 := arrive_any O C P d r w
  obtain ⟨a, b, c⟩ := h
  simpa only [apV, apE, dnV, dnE, if_pos a, if_pos b, if_pos c] using h0
theorem elapsed_ok {O P t d : Int} (h : OkC O P) (hd : ElOk t d) (w : World) :
    Calls Tryz.prog 49 #[.agg #[.int .i64 O, .int .i64 P], .int .i64 t, .int .i64 d] w fun e w' => e = .returned (.tuple #[.int .i64 (locV O P (t + d) - locV O P t), .int .i64 0]) ∧ Below w.heap.size w w' := by
  have h0 := elapsed_any O P t d w
  rwa [show elV O P t d = locV O P (t + d) - locV O P t from if_pos ⟨h, hd⟩, show elE O P t d = 0 by unfold elE; rw [if_pos h, if_pos hd]] at h0

set_option maxHeartbeats 8000000 in
set_option maxRecDepth 100000 in
theorem leaves_zero (n : Nt) (k : Int) (bt bk ba bl : Nat) (h0 : OkC (n.cO 0) (n.cP 0)) (ht : Tick (n.st + k * n.iv)) (hk : 0 ≤ k * n.iv) (hs : 0 ≤ n.st) (w : World) (he : InfE n k bt bk ba bl w) :
    Calls Tryz.prog 48 #[.int .i64 0, .pointer (some ⟨bt, 0, none⟩), .pointer (some ⟨bk, 0, none⟩), .pointer (some ⟨ba, 0, none⟩)] w fun y w' =>
      y = .returned (.tuple #[.agg #[.int .i64 (orgV n k), .int .i64 0, .int .i64 0], .int .i64 0]) ∧ Below w.heap.size w w' := by
  have HF := Lib.hid (fun W => face_ok (n.cO 0) (n.cP 0) (n.st + k * n.iv) h0 ht W)
  obtain ⟨t0, t1⟩ := ht
  have w1 : IntKind.i64.wrap (k * n.iv) = k * n.iv := by simp [IntKind.wrap, IntKind.signed, IntKind.bits]; omega
  have w2 : IntKind.i64.wrap (n.st + k * n.iv) = n.st + k * n.iv := by simp [IntKind.wrap, IntKind.signed, IntKind.bits]; omega
  have ho : orgV n k = locV (n.cO 0) (n.cP 0) (n.st + k * n.iv) := rfl
  rw [ho]
  have m1 := he.hn.m1
  have x1 : (0 : Int) < (n.m : Int) := by omega
  have e0 : w.cell? ⟨n.bc, n.oc + 0 * 2, none⟩ = some (.int .i64 (n.cO 0)) := he.hn.c0 _ m1
  have e1 : w.cell? ⟨n.bc, n.oc + 0 * 2 + 1, none⟩ = some (.int .i64 (n.cP 0)) := he.hn.c1 _ m1
  rw [Nat.zero_mul, Nat.add_zero] at e0 e1
  have k0 : w.cell? ⟨bt, 0, none⟩ = some (.slice (some ⟨n.bc, n.oc, none⟩) n.m n.kc) := he.t 0 _ rfl
  have k5 : w.cell? ⟨bt, 5, none⟩ = some (.int .i64 n.st) := he.t 5 _ rfl
  have k6 : w.cell? ⟨bt, 6, none⟩ = some (.int .i64 n.iv) := he.t 6 _ rfl
  have kk := he.k
  generalize locV (n.cO 0) (n.cP 0) (n.st + k * n.iv) = res at *
  clear he ho t0 t1 hk hs h0
  go_enter Tryz.func48, Tryz.ntmps48
  go_upto_region 1 with fail
  refine wp_world ?_
  intro V hV
  have HV := Lib.hid (show Below w.heap.size w V by subst hV; exact below_alloc (Below.refl _ _) _)
  have HZ := Lib.hid (show Holds V w.heap.size [.int .i64 0, .int .i64 0, .int .i64 0] by subst hV; exact holds_alloc w [.int .i64 0, .int .i64 0, .int .i64 0] 44 rfl)
  have FZ := Lib.hid (show ∀ u, V.frozen? ⟨w.heap.size, u, none⟩ = false by subst hV; intro u; exact frozen_new _ _ _ _ rfl)
  clear hV
  have b := HV.out
  have v0 := below_keep b e0
  have v1 := below_keep b e1
  have v2 := below_keep b k0
  have v3 := below_keep b k5
  have v4 := below_keep b k6
  have v5 := below_keep b kk
  clear e0 e1 k0 k5 k6 kk b
  have r0 := fun p : Regrown => cell_regrown v0 p.d p.os
  have r1 := fun p : Regrown => cell_regrown v1 p.d p.os
  have r2 := fun p : Regrown => cell_regrown v2 p.d p.os
  have r3 := fun p : Regrown => cell_regrown v3 p.d p.os
  have r4 := fun p : Regrown => cell_regrown v4 p.d p.os
  have r5 := fun p : Regrown => cell_regrown v5 p.d p.os
  go_upto_region 2 with fail
  refine wp_region_quiet_below (by kernel_rfl) (by kernel_rfl) ?_
  repeat (go_big_quiet_step (with_reducible exact Calls.regrown_of (HF.out _)))
  refine wpQuiet_nil ?_
  intro w6 hw
  have b6 : Below V.heap.size V w6 := by obtain ⟨p, rfl⟩ := hw; exact below_regrown _ _ _
  have Z6 := Lib.hid (HZ.out.keep b6)
  have zw : w.heap.size < V.heap.size := World.block_lt_of_cell? _ _ (HZ.out 0 _ rfl)
  have F6 := Lib.hid (show ∀ u, w6.frozen? ⟨w.heap.size, u, none⟩ = false from fun u => by rw [(bcell b6).2 _ _ zw]; exact FZ.out u)
  have H6 := Lib.hid (below_step HV.out b6)
  clear hw b6 r0 r1 r2 r3 r4 r5 v0 v1 v2 v3 v4 v5 HZ FZ HV
  have ha := Lib.hid agg_inf
  have hs := Lib.hid (show ∀ w, (sizeOf 44).run Tryz.prog w = .ok [Value.int .i64 res, .int .i64 0, .int .i64 0].length w from size_inf)
  go_wp2_with ((with_reducible refine at_store 44 (.tmp 5) (.tmp 35) ?_); refine wpList_store_whole rfl (.tmp 5) (.tmp 35) 44 rfl w.heap.size 0 [.int .i64 res, .int .i64 0, .int .i64 0] rfl rfl hs.out (fun j hj => Z6.out.some j hj) (fun j _ => F6.out _) (three_one15 _ _ _) ?_; intro w7 hw7)
  have hL2 := run_loadVar_whole (P := Tryz.prog) (w := w7) 44 w.heap.size 0 [.int .i64 res, .int .i64 0, .int .i64 0] ha.out hs.out hw7.here
  exact bodyPost_ret (v := .tuple #[.agg #[.int .i64 res, .int .i64 0, .int .i64 0], .int .i64 0]) (results_cell_tmp 5 6 44 Tryz.results48 w.heap.size 0 _ _ rfl hL2 rfl) rfl ⟨rfl, hw7.below _ _ (Nat.le_refl _) H6.out⟩

set_option maxHeartbeats 8000000 in
set_option maxRecDepth 100000 in
theorem leaves_more (n : Nt) (j : Fin n.m) (j0 : 0 < j.val) (k A O C P x C' : Int) (bt bk ba bl : Nat)
    (HA : ∀ W, n.In W → Calls Tryz.prog 27 #[.agg n.vs.toArray, .int .i64 (j.val : Int), .int .i64 k] W fun y w' => y = .returned (.tuple #[.int .i64 A, .int .i64 0]) ∧ Below W.heap.size W w')
    (HE : ∀ W, Calls Tryz.prog 49 #[.agg #[.int .i64 (n.cO j.val), .int .i64 (n.cP j.val)], .int .i64 A, .int .i64 n.sy] W fun y w' => y = .returned (.tuple #[.int .i64 x, .int .i64 0]) ∧ Below W.heap.size W w')
    (HL : ∀ W, Calls Tryz.prog 50 #[.agg #[.int .i64 O, .int .i64 C, .int .i64 P], .int .i64 x] W fun y w' => y = .returned (.tuple #[.agg #[.int .i64 O, .int .i64 C', .int .i64 P], .int .i64 0]) ∧ Below W.heap.size W w')
    (HR : ∀ W, InfE n k bt bk ba bl W → Calls Tryz.prog 51 #[.int .i64 (j.val : Int), .pointer (some ⟨bl, 0, none⟩), .pointer (some ⟨bt, 0, none⟩)] W fun y w' => y = .returned (.tuple #[.agg #[.int .i64 O, .int .i64 C, .int .i64 P], .int .i64 0]) ∧ Below W.heap.size W w')
    (w : World) (he : InfE n k bt bk ba bl w) :
    Calls Tryz.prog 48 #[.int .i64 (j.val : Int), .pointer (some ⟨bt, 0, none⟩), .pointer (some ⟨bk, 0, none⟩), .pointer (some ⟨ba, 0, none⟩)] w fun y w' =>
      y = .returned (.tuple #[.agg #[.int .i64 O, .int .i64 C', .int .i64 P], .int .i64 0]) ∧ Below w.heap.size w w' := by
  have hat := Lib.hid (show ∀ w, (isAgg 67).run Tryz.prog w = .ok true w from fun w => by kernel_rfl)
  have hst := Lib.hid (show ∀ w, (sizeOf 67).run Tryz.prog w = .ok n.vs.length w from fun w => by kernel_rfl)
  have hai := Lib.hid agg_inf
  have hsi := Lib.hid (show ∀ w, (sizeOf 44).run Tryz.prog w = .ok [Value.int .i64 O, .int .i64 C, .int .i64 P].length w from size_inf)
  have hsr := Lib.hid (show ∀ w, (sizeOf 44).run Tryz.prog w = .ok [Value.int .i64 O, .int .i64 C', .int .i64 P].length w from size_inf)
  have HA := Lib.hid HA
  have HE := Lib.hid HE
  have HL := Lib.hid HL
  have HR := Lib.hid HR
  have jz : ¬ (j.val : Int) = 0 := by omega
  have jzb : ((j.val : Int) == 0) = false := beq_eq_false_iff_ne.2 jz
  have x0 : (0 : Int) ≤ (j.val : Int) := by omega
  have x1 : (j.val : Int) < (n.m : Int) := by have := j.isLt; omega
  have hE0 := Lib.hid he
  clear he
  go_enter Tryz.func48, Tryz.ntmps48
  go_upto_region 1 with fail
  refine wp_world ?_
  intro V hV
  have H0 := Lib.hid (show Below w.heap.size w V by subst hV; exact below_alloc (Below.refl _ _) _)
  have Z0 := Lib.hid (show Holds V w.heap.size [.int .i64 0, .int .i64 0, .int .i64 0] by subst hV; exact holds_alloc w [.int .i64 0, .int .i64 0, .int .i64 0] 44 rfl)
  have F0 := Lib.hid (show ∀ u, V.frozen? ⟨w.heap.size, u, none⟩ = false by subst hV; intro u; exact frozen_new _ _ _ _ rfl)
  clear hV
  have E0 := Lib.hid (hE0.out.keep H0.out)
  have ca := E0.out.a
  go_wp2_with fail
  refine (HR.out _ E0.out).mono ?_
  rintro y w1 ⟨rfl, hb1⟩
  have zw : w.heap.size < V.heap.size := World.block_lt_of_cell? _ _ (Z0.out 0 _ rfl)
  have H1 := Lib.hid (below_step H0.out hb1)
  have Z1 := Lib.hid (Z0.out.keep hb1)
  have F1 := Lib.hid (show ∀ u, w1.frozen? ⟨w.heap.size, u, none⟩ = false from fun u => by rw [(bcell hb1).2 _ _ zw]; exact F0.out u)
  have l1 : w.heap.size < w1.heap.size := World.block_lt_of_cell? _ _ (Z1.out 0 _ rfl)
  clear hb1 zw H0 Z0 F0 E0 ca HR
  go_upto_region 5 with fail
  refine wp_world ?_
  intro V2 hV2
  have B2 : Below w1.heap.size w1 V2 := by subst hV2; exact below_alloc (Below.refl _ _) _
  have X2 := Lib.hid (show Holds V2 w1.heap.size [.int .i64 O, .int .i64 C, .int .i64 P] by subst hV2; exact holds_alloc w1 [.int .i64 O, .int .i64 C, .int .i64 P] 44 rfl)
  have Z2 := Lib.hid (Z1.out.keep B2)
  have F2 := Lib.hid (show ∀ u, V2.frozen? ⟨w.heap.size, u, none⟩ = false from fun u => by rw [(bcell B2).2 _ _ l1]; exact F1.out u)
  have H2 := Lib.hid (below_step H1.out B2)
  have E2 := Lib.hid (hE0.out.keep H2.out)
  have kk := E2.out.k
  clear hV2 H1 Z1 F1 B2 l1
  go_wp2_with ((with_reducible refine at_load 67 (.tmp 1) ?_); refine wpList_load_whole rfl (.tmp 1) 67 rfl bt 0 n.vs rfl hat.out hst.out E2.out.t ?_; simp only [Act.put, List.setIfInBounds_toArray, List.set_cons_succ, List.set_cons_zero])
  refine (HA.out _ E2.out.hn).mono ?_
  rintro y w3 ⟨rfl, hb3⟩
  have l2 : w.heap.size < V2.heap.size := World.block_lt_of_cell? _ _ (Z2.out 0 _ rfl)
  have X3 := Lib.hid (X2.out.keep hb3)
  have Z3 := Lib.hid (Z2.out.keep hb3)
  have F3 := Lib.hid (show ∀ u, w3.frozen? ⟨w.heap.size, u, none⟩ = false from fun u => by rw [(bcell hb3).2 _ _ l2]; exact F2.out u)
  have H3 := Lib.hid (below_step H2.out hb3)
  have E3 := Lib.hid (hE0.out.keep H3.out)
  have e0 : w3.cell? ⟨n.bc, n.oc + j.val * 2, none⟩ = some (.int .i64 (n.cO j.val)) := E3.out.hn.c0 _ j.isLt
  have e1 : w3.cell? ⟨n.bc, n.oc + j.val * 2 + 1, none⟩ = some (.int .i64 (n.cP j.val)) := E3.out.hn.c1 _ j.isLt
  have k0 : w3.cell? ⟨bt, 0, none⟩ = some (.slice (some ⟨n.bc, n.oc, none⟩) n.m n.kc) := E3.out.t 0 _ rfl
  have k7 : w3.cell? ⟨bt, 7, none⟩ = some (.int .i64 n.sy) := E3.out.t 7 _ rfl
  have r0 := fun p : Regrown => cell_regrown e0 p.d p.os
  have r1 := fun p : Regrown => cell_regrown e1 p.d p.os
  have r2 := fun p : Regrown => cell_regrown k0 p.d p.os
  have r3 := fun p : Regrown => cell_regrown k7 p.d p.os
  clear hb3 X2 Z2 F2 H2 E2 kk l2 HA
  go_upto_region 10 with fail
  refine wp_region_quiet_below (by kernel_rfl) (by kernel_rfl) ?_
  repeat (go_big_quiet_step (with_reducible exact Calls.regrown_of (HE.out _)))
  refine wpQuiet_nil ?_
  intro w6 hw
  have b6 : Below w3.heap.size w3 w6 := by obtain ⟨p, rfl⟩ := hw; exact below_regrown _ _ _
  have l3 : w.heap.size < w3.heap.size := World.block_lt_of_cell? _ _ (Z3.out 0 _ rfl)
  have Z6 := Lib.hid (Z3.out.keep b6)
  have X6 := Lib.hid (X3.out.keep b6)
  have F6 := Lib.hid (show ∀ u, w6.frozen? ⟨w.heap.size, u, none⟩ = false from fun u => by rw [(bcell b6).2 _ _ l3]; exact F3.out u)
  have H6 := Lib.hid (below_step H3.out b6)
  clear hw b6 r0 r1 r2 r3 e0 e1 k0 k7 X3 Z3 F3 H3 E3 l3 HE
  go_wp2_with ((with_reducible refine at_load 44 (.tmp 9) ?_); refine wpList_load_whole rfl (.tmp 9) 44 rfl w1.heap.size 0 [.int .i64 O, .int .i64 C, .int .i64 P] rfl hai.out hsi.out X6.out ?_; simp only [Act.put, List.setIfInBounds_toArray, List.set_cons_succ, List.set_cons_zero])
  refine (HL.out _).mono ?_
  rintro y w7 ⟨rfl, hb7⟩
  have l6 : w.heap.size < w6.heap.size := World.block_lt_of_cell? _ _ (Z6.out 0 _ rfl)
  have Z7 := Lib.hid (Z6.out.keep hb7)
  have F7 := Lib.hid (show ∀ u, w7.frozen? ⟨w.heap.size, u, none⟩ = false from fun u => by rw [(bcell hb7).2 _ _ l6]; exact F6.out u)
  have H7 := Lib.hid (below_step H6.out hb7)
  clear hb7 Z6 X6 F6 H6 l6
  go_wp2_with ((with_reducible refine at_store 44 (.tmp 5) (.tmp 79) ?_); refine wpList_store_whole rfl (.tmp 5) (.tmp 79) 44 rfl w.heap.size 0 [.int .i64 O, .int .i64 C', .int .i64 P] rfl rfl hsr.out (fun j hj => Z7.out.some j hj) (fun j _ => F7.out _) (three_one15 _ _ _) ?_; intro w8 hw8)
  have hL2 := run_loadVar_whole (P := Tryz.prog) (w := w8) 44 w.heap.size 0 [.int .i64 O, .int .i64 C', .int .i64 P] hai.out hsr.out hw8.here
  exact bodyPost_ret (v := .tuple #[.agg #[.int .i64 O, .int .i64 C', .int .i64 P], .int .i64 0]) (results_cell_tmp 5 6 44 Tryz.results48 w.heap.size 0 _ _ rfl hL2 rfl) rfl ⟨rfl, hw8.below _ _ (Nat.le_refl _) H7.out⟩

end Go.Proofs.YtkencmijghigiaaGreat

namespace Go.Proofs.YtkencmijghigiaaGreat
open Go.RowKit Go.Lib Go.Shelf Plain

theorem new_keep15 (W wz : World) (hb : Below (W.alloc (.cells #[.int .i64 0, .int .i64 0, .int .i64 0] 44)).heap.size (W.alloc (.cells #[.int .i64 0, .int .i64 0, .int .i64 0] 44)) wz) :
    Hid (wz.cell? ⟨W.heap.size, 0, none⟩ = some (.int .i64 0) ∧ wz.cell? ⟨W.heap.size, 1, none⟩ = some (.int .i64 0) ∧ wz.cell? ⟨W.heap.size, 2, none⟩ = some (.int .i64 0) ∧ ∀ o, wz.frozen? ⟨W.heap.size, o, none⟩ = false) :=
  Lib.hid ⟨below_keep hb (by simp [go_sem]), below_keep hb (by simp [go_sem]), below_keep hb (by simp [go_sem]), fun o => ((bcell hb).2 _ _ (by simp [go_sem])).trans (frozen_new _ _ _ _ rfl)⟩

theorem new_keepD15 (W wz : World) (hb : Below (W.alloc (.cells #[.int .i64 0, .int .i64 0, .int .i64 0] 44)).drew.heap.size (W.alloc (.cells #[.int .i64 0, .int .i64 0, .int .i64 0] 44)).drew wz) :
    Hid (wz.cell? ⟨W.heap.size, 0, none⟩ = some (.int .i64 0) ∧ wz.cell? ⟨W.heap.size, 1, none⟩ = some (.int .i64 0) ∧ wz.cell? ⟨W.heap.size, 2, none⟩ = some (.int .i64 0) ∧ ∀ o, wz.frozen? ⟨W.heap.size, o, none⟩ = false) :=
  new_keep15 W wz (below_step (Below.drew (Below.refl _ _)) hb)

theorem set3_15 {V wz : World} {O C P : Int} (hb : Below V.heap.size V wz) (e0 : wz.cell? ⟨V.heap.size, 0, none⟩ = some (.int .i64 0)) (e1 : wz.cell? ⟨V.heap.size, 1, none⟩ = some (.int .i64 0)) (e2 : wz.cell? ⟨V.heap.size, 2, none⟩ = some (.int .i64 0)) (_ : ∀ o, wz.frozen? ⟨V.heap.size, o, none⟩ = false) :
    Below V.heap.size V (((wz.setCell ⟨V.heap.size, 0, none⟩ (.int .i64 O)).setCell ⟨V.heap.size, 1, none⟩ (.int .i64 C)).setCell ⟨V.heap.size, 2, none⟩ (.int .i64 P)) ∧
      Holds (((wz.setCell ⟨V.heap.size, 0, none⟩ (.int .i64 O)).setCell ⟨V.heap.size, 1, none⟩ (.int .i64 C)).setCell ⟨V.heap.size, 2, none⟩ (.int .i64 P)) V.heap.size [.int .i64 O, .int .i64 C, .int .i64 P] := by
  refine ⟨((hb.setCell (Nat.le_refl _) _).setCell (Nat.le_refl _) _).setCell (Nat.le_refl _) _, ?_⟩
  intro i v hi
  match i, hi with
  | 0, hi => cases hi; simp [go_sem, e0]
  | 1, hi => cases hi; simp [go_sem, e1]
  | 2, hi => cases hi; simp [go_sem, e2]

set_option maxHeartbeats 8000000 in
set_option maxRecDepth 100000 in
theorem arrives_more (n : Nt) (j p : Fin n.m) (hp : n.pa j.val = (p.val : Int)) (k O C P d r C' P' : Int) (bt bk ba bl : Nat)
    (HM : ∀ W, n.In W → Calls Tryz.prog 26 #[.agg n.vs.toArray, .int .i64 (j.val : Int)] W fun y w' => y = .returned (.tuple #[.int .i64 d, .int .i64 r, .int .i64 0]) ∧ Below W.heap.size W w')
    (HP : ∀ W, Calls Tryz.prog 52 #[.agg #[.int .i64 O, .int .i64 C, .int .i64 P], .int .i64 d, .int .i64 r] W fun y w' => y = .returned (.tuple #[.agg #[.int .i64 O, .int .i64 C', .int .i64 P'], .int .i64 0]) ∧ Below W.heap.size W w')
    (HL : ∀ W, InfE n k bt bk ba bl W → Calls Tryz.prog 48 #[.int .i64 (p.val : Int), .pointer (some ⟨bt, 0, none⟩), .pointer (some ⟨bk, 0, none⟩), .pointer (some ⟨ba, 0, none⟩)] W fun y w' => y = .returned (.tuple #[.agg #[.int .i64 O, .int .i64 C, .int .i64 P], .int .i64 0]) ∧ Below W.heap.size W w')
    (w : World) (he : InfE n k bt bk ba bl w) :
    Calls Tryz.prog 51 #[.int .i64 (j.val : Int), .pointer (some ⟨bl, 0, none⟩), .pointer (some ⟨bt, 0, none⟩)] w fun y w' =>
      y = .returned (.tuple #[.agg #[.int .i64 O, .int .i64 C', .int .i64 P'], .int .i64 0]) ∧ Below w.heap.size w w' := by
  have hat := Lib.hid (show ∀ w, (isAgg 67).run Tryz.prog w = .ok true w from fun w => by kernel_rfl)
  have hst := Lib.hid (show ∀ w, (sizeOf 67).run Tryz.prog w = .ok n.vs.length w from fun w => by kernel_rfl)
  have hai := Lib.hid agg_inf
  have hsi := Lib.hid (show ∀ w, (sizeOf 44).run Tryz.prog w = .ok [Value.int .i64 O, .int .i64 C, .int .i64 P].length w from size_inf)
  have hsr := Lib.hid (show ∀ w, (sizeOf 44).run Tryz.prog w = .ok [Value.int .i64 O, .int .i64 C', .int .i64 P'].length w from size_inf)
  have HM := Lib.hid HM
  have HP := Lib.hid HP
  have HL := Lib.hid HL
  have x0 : (0 : Int) ≤ (j.val : Int) := by omega
  have x1 : (j.val : Int) < (n.m : Int) := by have := j.isLt; omega
  have hE0 := Lib.hid he
  clear he
  go_enter Tryz.func51, Tryz.ntmps51
  go_upto_region 1 with fail
  refine wp_world ?_
  intro V hV
  have H0 := Lib.hid (show Below w.heap.size w V by subst hV; exact below_alloc (Below.refl _ _) _)
  have Z0 := Lib.hid (show Holds V w.heap.size [.int .i64 0, .int .i64 0, .int .i64 0] by subst hV; exact holds_alloc w [.int .i64 0, .int .i64 0, .int .i64 0] 44 rfl)
  have F0 := Lib.hid (show ∀ u, V.frozen? ⟨w.heap.size, u, none⟩ = false by subst hV; intro u; exact frozen_new _ _ _ _ rfl)
  clear hV
  have zw : w.heap.size < V.heap.size := World.block_lt_of_cell? _ _ (Z0.out 0 _ rfl)
  have E0 := Lib.hid (hE0.out.keep H0.out)
  have cl := E0.out.l
  have c1 : V.cell? ⟨bt, 1, none⟩ = some (.slice (some ⟨n.bp, n.op, none⟩) n.m n.kp) := E0.out.t 1 _ rfl
  have cp : V.cell? ⟨n.bp, n.op + j.val, none⟩ = some (.int .i64 (p.val : Int)) := by rw [E0.out.hn.p _ j.isLt, hp]
  have HS := Lib.hid (fun wx (hB : Below V.heap.size V wx) => (⟨hB, below_keep hB cl, below_keep hB c1, below_keep hB cp⟩ : Below V.heap.size V wx ∧ wx.cell? ⟨bl, 0, none⟩ = some (.func (.func 48) #[] #[.pointer (some ⟨bt, 0, none⟩), .pointer (some ⟨bk, 0, none⟩), .pointer (some ⟨ba, 0, none⟩)]) ∧ wx.cell? ⟨bt, 1, none⟩ = some (.slice (some ⟨n.bp, n.op, none⟩) n.m n.kp) ∧ wx.cell? ⟨n.bp, n.op + j.val, none⟩ = some (.int .i64 (p.val : Int))))
  have zb : bl < V.heap.size := World.block_lt_of_cell? _ _ cl
  have zt : bt < V.heap.size := World.block_lt_of_cell? _ _ c1
  have zp : n.bp < V.heap.size := World.block_lt_of_cell? _ _ cp
  clear hp
  have jb := Lib.hid (Below.drew (Below.refl V.heap.size V))
  go_cut [6, 7] (fun s6 s7 wx => ∃ b6, s6 = .pointer (some ⟨b6, 0, none⟩) ∧ s7 = .int .i64 0 ∧ Below V.heap.size V wx ∧ Holds wx b6 [.int .i64 O, .int .i64 C, .int .i64 P])
  case first =>
    go_region_held3 (fun wx => Below V.heap.size V wx ∧ wx.cell? ⟨bl, 0, none⟩ = some (.func (.func 48) #[] #[.pointer (some ⟨bt, 0, none⟩), .pointer (some ⟨bk, 0, none⟩), .pointer (some ⟨ba, 0, none⟩)]) ∧ wx.cell? ⟨bt, 1, none⟩ = some (.slice (some ⟨n.bp, n.op, none⟩) n.m n.kp) ∧ wx.cell? ⟨n.bp, n.op + j.val, none⟩ = some (.int .i64 (p.val : Int)))
      (first | assumption | (refine HS.out _ ?_; (repeat (first | with_reducible exact jb.out | with_reducible exact Below.refl _ _ | with_reducible refine Below.drew ?_ | refine Below.setCell ?_ (by first | exact Nat.le_refl _ | omega | (simp; done) | (simp; omega)) _ | refine Below.alloc ?_ (by first | exact Nat.le_refl _ | omega | (simp; done) | (simp; omega)) _)); done) | fail)
      (first | (go_at_call 48; refine (HL.out _ (E0.out.keep (by repeat (first | with_reducible exact jb.out | with_reducible exact Below.refl _ _ | with_reducible refine Below.drew ?_ | refine Below.alloc ?_ (by first | exact Nat.le_refl _ | omega | (simp; done) | (simp; omega)) _)))).mono ?_; rintro e wz ⟨rfl, hb3⟩; (try ((first | (with_reducible have en := new_keepD15 _ _ hb3) | (with_reducible have en := new_keep15 _ _ hb3)); obtain ⟨e0, e1, e2, e3⟩ := en.out; clear en)); have jb := Lib.hid (show Below V.heap.size V wz from below_step (by repeat (first | with_reducible exact jb.out | with_reducible exact Below.refl _ _ | with_reducible refine Below.drew ?_ | refine Below.alloc ?_ (by first | exact Nat.le_refl _ | omega | (simp; done) | (simp; omega)) _)) hb3); have jz : V.heap.size ≤ wz.heap.size := jb.out.size; clear hb3) | fail)
    all_goals
      go_wp2
      go_meet
      refine ⟨_, rfl, rfl, ?_⟩
      first | (with_reducible exact ⟨below_alloc jb.out _, holds_alloc _ _ _ rfl⟩) | (with_reducible exact set3_15 jb.out e0 e1 e2 e3)
  case rest =>
    obtain ⟨b6, rfl, rfl, hB, hX⟩ := hcut
    have H1 := Lib.hid (below_step H0.out hB)
    have Z1 := Lib.hid (Z0.out.keep hB)
    have F1 := Lib.hid (show ∀ u, wc.frozen? ⟨w.heap.size, u, none⟩ = false from fun u => by rw [(bcell hB).2 _ _ zw]; exact F0.out u)
    have X1 := Lib.hid hX
    have E1 := Lib.hid (hE0.out.keep H1.out)
    clear HS HL jb cl c1 cp zb zt zp hB hX Z0 F0 E0 H0 zw
    go_wp2_with ((with_reducible refine at_load 67 (.tmp 2) ?_); refine wpList_load_whole rfl (.tmp 2) 67 rfl bt 0 n.vs rfl hat.out hst.out E1.out.t ?_; simp only [Act.put, List.setIfInBounds_toArray, List.set_cons_succ, List.set_cons_zero])
    refine (HM.out _ E1.out.hn).mono ?_
    rintro y w3 ⟨rfl, hb3⟩
    have l2 : w.heap.size < wc.heap.size := World.block_lt_of_cell? _ _ (Z1.out 0 _ rfl)
    have X3 := Lib.hid (X1.out.keep hb3)
    have Z3 := Lib.hid (Z1.out.keep hb3)
    have F3 := Lib.hid (show ∀ u, w3.frozen? ⟨w.heap.size, u, none⟩ = false from fun u => by rw [(bcell hb3).2 _ _ l2]; exact F1.out u)
    have H3 := Lib.hid (below_step H1.out hb3)
    clear hb3 X1 Z1 F1 H1 E1 l2 HM
    go_wp2_with ((with_reducible refine at_load 44 (.tmp 6) ?_); refine wpList_load_whole rfl (.tmp 6) 44 rfl b6 0 [.int .i64 O, .int .i64 C, .int .i64 P] rfl hai.out hsi.out X3.out ?_; simp only [Act.put, List.setIfInBounds_toArray, List.set_cons_succ, List.set_cons_zero])
    refine (HP.out _).mono ?_
    rintro y w7 ⟨rfl, hb7⟩
    have l6 : w.heap.size < w3.heap.size := World.block_lt_of_cell? _ _ (Z3.out 0 _ rfl)
    have Z7 := Lib.hid (Z3.out.keep hb7)
    have F7 := Lib.hid (show ∀ u, w7.frozen? ⟨w.heap.size, u, none⟩ = false from fun u => by rw [(bcell hb7).2 _ _ l6]; exact F3.out u)
    have H7 := Lib.hid (below_step H3.out hb7)
    clear hb7 Z3 X3 F3 H3 l6
    go_wp2_with ((with_reducible refine at_store 44 (.tmp 4) (.tmp 40) ?_); refine wpList_store_whole rfl (.tmp 4) (.tmp 40) 44 rfl w.heap.size 0 [.int .i64 O, .int .i64 C', .int .i64 P'] rfl rfl hsr.out (fun j hj => Z7.out.some j hj) (fun j _ => F7.out _) (three_one15 _ _ _) ?_; intro w8 hw8)
    have hL2 := run_loadVar_whole (P := Tryz.prog) (w := w8) 44 w.heap.size 0 [.int .i64 O, .int .i64 C', .int .i64 P'] hai.out hsr.out hw8.here
    exact bodyPost_ret (v := .tuple #[.agg #[.int .i64 O, .int .i64 C', .int .i64 P'], .int .i64 0]) (results_cell_tmp 4 5 44 Tryz.results51 w.heap.size 0 _ _ rfl hL2 rfl) rfl ⟨rfl, hw8.below _ _ (Nat.le_refl _) H7.out⟩

end Go.Proofs.YtkencmijghigiaaGreat

namespace Go.Proofs.YtkencmijghigiaaGreat
open Go.RowKit Go.Lib Go.Shelf Plain

theorem arrives_any (n : Nt) (hb : n.Bd) (hc : n.Clk) (par : Fin n.m → Fin n.m) (hp : n.Par par) (k : Int) (k0 : 0 ≤ k) (bt bk ba bl : Nat) : ∀ (v : Nat) (i : Fin n.m), i.val = v → 0 < i.val → k ≤ lastK n par i → ∀ (w : World), InfE n k bt bk ba bl w →
    Calls Tryz.prog 51 #[.int .i64 (i.val : Int), .pointer (some ⟨bl, 0, none⟩), .pointer (some ⟨bt, 0, none⟩)] w fun y w' =>
      y = .returned (.tuple #[.agg #[.int .i64 (orgV n k), .int .i64 (arI n par k i).1, .int .i64 (arI n par k i).2], .int .i64 0]) ∧ Below w.heap.size w w' := by
  intro v
  induction v using Nat.strongRecOn with
  | ind v ih =>
    intro i hv h0 k1 w he
    have hl := hp.lt i h0
    have hst := arI_step hp k h0
    have hok := (arI_ok hb hc hp h0 k0 k1).1
    obtain ⟨r0, r1⟩ := meaR_bd hb hc par i
    obtain ⟨e0, e1⟩ := meaD_bd hb hc par i
    obtain ⟨t0, t1⟩ := db_bd hb i.isLt
    have d0 := hb.de0 i.val i.isLt
    have d1 := hb.de1 i.val i.isLt
    obtain ⟨-, -, -, -, q0, q1⟩ := rateK_bd hb
    obtain ⟨_, _, b3, b4⟩ := hc i.val i.isLt
    obtain ⟨_, _, b5, b6⟩ := hc (par i).val (par i).isLt
    have hlv := lvI_ok hb hc hp h0 k0 k1
    have hArr : ArrOk (orgV n k) (lvI n par k (par i)).1 (lvI n par k (par i)).2 (meaD n par i) (meaR n par i) := by
      rw [hst] at hok
      exact ⟨hlv, ⟨⟨by omega, by omega⟩, ⟨by omega, by omega⟩⟩, hok⟩
    rw [hst]
    refine arrives_more n i (par i) (hp.eq i h0) k (orgV n k) (lvI n par k (par i)).1 (lvI n par k (par i)).2 (meaD n par i) (meaR n par i) _ _ bt bk ba bl
      (fun W hW => measure_any n hb hc par hp i h0 W hW) (fun W => arrive_ok hArr W) (fun W hW => ?_) w he
    by_cases hz : (par i).val = 0
    · have hor := org_bd hb hc hp h0 k0 k1
      have ha := arr_bd hb hp k0 k1
      have h3 := hb.st0
      have h4 := hb.ga0
      have h5 := hb.tu0
      have hL := leaves_zero n k bt bk ba bl (hc 0 (by omega)) hor.1 ha.1 (by omega) W hW
      rw [show ((par i).val : Int) = 0 by omega, show lvI n par k (par i) = (0, 0) by unfold lvI lvQ; rw [if_pos hz]]
      exact hL
    · have k2 := lastK_par hb hp h0 k0 k1
      have hq : 0 < (par i).val := by omega
      have hIH := fun W hW => ih (par i).val (by omega) (par i) rfl hq k2 W hW
      have hap := (arI_ok hb hc hp hq k0 k2).1
      obtain ⟨x0, x1⟩ := el_bd hb hc par k (par i)
      have hlq : lvI n par k (par i) = (corV (arI n par k (par i)).1 (elN n par k (par i)) (arI n par k (par i)).2, (arI n par k (par i)).2) := by unfold lvI lvQ; rw [if_neg hz]
      rw [hlq] at hlv ⊢
      exact leaves_more n (par i) hq k (arrV n par (par i) k) (orgV n k) (arI n par k (par i)).1 (arI n par k (par i)).2 (elN n par k (par i)) _ bt bk ba bl
        (fun W hW => arrival_any n hb par hp (par i) k W hW _ _ (.inr (.inr ⟨⟨hq, k0, k2⟩, rfl, rfl⟩)))
        (fun W => elapsed_ok (hc (par i).val (par i).isLt) (stay_ok hb hp h0 k0 k1 hq) W)
        (fun W => leave_ok ⟨hap, ⟨x0, by omega⟩, hlv⟩ W)
        hIH W hW

set_option maxHeartbeats 8000000 in
set_option maxRecDepth 100000 in
theorem info_any (n : Nt) (hb : n.Bd) (hc : n.Clk) (par : Fin n.m → Fin n.m) (hp : n.Par par) (k : Int) (i : Fin n.m) (h0 : 0 < i.val) (k0 : 0 ≤ k) (k1 : k ≤ lastK n par i) (w : World) (hn : n.In w) :
    Calls Tryz.prog 28 #[.agg n.vs.toArray, .int .i64 (i.val : Int), .int .i64 k] w fun y w' =>
      y = .returned (.tuple #[.agg #[.int .i64 (orgV n k), .int .i64 (arI n par k i).1, .int .i64 (arI n par k i).2], .int .i64 0]) ∧ Below w.heap.size w w' := by
  have hA := Lib.hid (fun bt bk ba bl W (hW : InfE n k bt bk ba bl W) => arrives_any n hb hc par hp k k0 bt bk ba bl i.val i rfl h0 k1 W hW)
  have hN := Lib.hid hn
  clear hn
  generalize (arI n par k i).1 = C at *
  generalize (arI n par k i).2 = P at *
  generalize orgV n k = O at *
  have hai := Lib.hid agg_inf
  have hsr := Lib.hid (show ∀ w, (sizeOf 44).run Tryz.prog w = .ok [Value.int .i64 O, .int .i64 C, .int .i64 P].length w from size_inf)
  go_enter Tryz.func28, Tryz.ntmps28
  rw [n.lit]
  go_upto_region 4 with fail
  refine wp_world ?_
  intro V hV
  have H0 := Lib.hid (show Below w.heap.size w V by subst hV; exact below_alloc (below_alloc (below_alloc (below_alloc (below_alloc (Below.refl _ _) _) _) _) _) _)
  have E0 := Lib.hid (show InfE n k w.heap.size (w.heap.size + 1) (w.heap.size + 1 + 1 + 1) (w.heap.size + 1 + 1 + 1 + 1) V from
    ⟨hN.out.keep H0.out, by subst hV; exact ((((holds_alloc w n.vs 67 rfl).alloc (by simp) _).alloc (by simp; omega) _).alloc (by simp; omega) _).alloc (by simp; omega) _, by subst hV; simp [go_sem], by subst hV; simp [go_sem], by subst hV; simp [go_sem]⟩)
  have Z0 := Lib.hid (show Holds V (w.heap.size + 1 + 1) [.int .i64 0, .int .i64 0, .int .i64 0] by subst hV; exact ((holds_alloc _ [.int .i64 0, .int .i64 0, .int .i64 0] 44 (by simp)).alloc (by simp) _).alloc (by simp) _)
  have F0 := Lib.hid (show ∀ u, V.frozen? ⟨w.heap.size + 1 + 1, u, none⟩ = false by subst hV; intro u; simp [go_sem])
  clear hV
  have ca := E0.out.a
  go_wp2_with fail
  refine (hA.out _ _ _ _ _ E0.out).mono ?_
  rintro y w7 ⟨rfl, hb7⟩
  have zw : w.heap.size + 1 + 1 < V.heap.size := World.block_lt_of_cell? _ _ (Z0.out 0 _ rfl)
  have Z7 := Lib.hid (Z0.out.keep hb7)
  have F7 := Lib.hid (show ∀ u, w7.frozen? ⟨w.heap.size + 1 + 1, u, none⟩ = false from fun u => by rw [(bcell hb7).2 _ _ zw]; exact F0.out u)
  have H7 := Lib.hid (below_step H0.out hb7)
  clear hb7 Z0 F0 H0 E0 ca zw
  go_wp2_with ((with_reducible refine at_store 44 (.tmp 6) (.tmp 15) ?_); refine wpList_store_whole rfl (.tmp 6) (.tmp 15) 44 rfl (w.heap.size + 1 + 1) 0 [.int .i64 O, .int .i64 C, .int .i64 P] rfl rfl hsr.out (fun j hj => Z7.out.some j hj) (fun j _ => F7.out _) (three_one15 _ _ _) ?_; intro w8 hw8)
  have hL2 := run_loadVar_whole (P := Tryz.prog) (w := w8) 44 (w.heap.size + 1 + 1) 0 [.int .i64 O, .int .i64 C, .int .i64 P] hai.out hsr.out hw8.here
  exact bodyPost_ret (v := .tuple #[.agg #[.int .i64 O, .int .i64 C, .int .i64 P], .int .i64 0]) (results_cell_tmp 6 7 44 Tryz.results28 (w.heap.size + 1 + 1) 0 _ _ rfl hL2 rfl) rfl ⟨rfl, hw8.below _ _ (by omega) H7.out⟩

end Go.Proofs.YtkencmijghigiaaGreat
