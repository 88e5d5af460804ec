/-
  The reference's Info. No conditions.
-/
import Derived.Test.YtkencmijghigiaaGreatMRMe15
import Derived.Test.YtkencmijghigiaaGreatMRfA15
import Derived.Test.YtkencmijghigiaaGreatMPassRef3
namespace Go.Proofs.YtkencmijghigiaaGreat
open Go.RowKit Go.Lib Go.Shelf Plain

theorem rLeave_ok {O C P x : Int} (h : LvOk O C P x) (w : World) :
    Calls Tryz.prog 33 #[.agg #[.int .i64 O, .int .i64 C, .int .i64 P], .int .i64 x] w fun e w' => e = .returned (.tuple #[.agg #[.int .i64 O, .int .i64 (corV C x P), .int .i64 P], .int .i64 0]) ∧ Below w.heap.size w w' := by
  have h0 := rLeave_any O C P x w
  obtain ⟨a, b, c⟩ := h
  simpa only [apV, apE, dnV, dnE, if_pos a, if_pos b, if_pos c] using h0
theorem rArrive_ok {O C P d r : Int} (h : ArrOk O C P d r) (w : World) :
    Calls Tryz.prog 34 #[.agg #[.int .i64 O, .int .i64 C, .int .i64 P], .int .i64 d, .int .i64 r] w fun e w' => e = .returned (.tuple #[.agg #[.int .i64 O, .int .i64 (corV C d (P + r)), .int .i64 (P + r)], .int .i64 0]) ∧ Below w.heap.size w w' := by
  have h0 := rArrive_any O C P d r w
  obtain ⟨a, b, c⟩ := h
  simpa only [apV, apE, dnV, dnE, if_pos a, if_pos b, if_pos c] using h0

/-- Past the world V the information that is put together lies in block b. -/
structure RI (V : World) (b : Nat) (O C P : Int) (wx : World) : Prop where
  h : Below V.heap.size V wx
  z : V.heap.size ≤ b
  X : Holds wx b [.int .i64 O, .int .i64 C, .int .i64 P]
  F : ∀ u, wx.frozen? ⟨b, u, none⟩ = false
theorem RI.keep {V wx W : World} {b : Nat} {O C P : Int} (r : RI V b O C P wx) (hb : Below wx.heap.size wx W) : RI V b O C P W :=
  ⟨below_step r.h hb, r.z, r.X.keep hb, fun u => by rw [(bcell hb).2 _ _ (World.block_lt_of_cell? _ _ (r.X 0 _ rfl))]; exact r.F u⟩
theorem ri_new {V wx : World} {O C P : Int} (h : Below V.heap.size V wx) : RI V wx.heap.size O C P (wx.alloc (.cells #[.int .i64 O, .int .i64 C, .int .i64 P] 44)) :=
  ⟨below_alloc h _, h.size, holds_alloc wx [.int .i64 O, .int .i64 C, .int .i64 P] 44 rfl, fun _ => frozen_new _ _ _ _ rfl⟩
theorem ri_set {V wz : World} {O C P : Int} (hb : Below V.heap.size V wz) (e0 : wz.cell? ⟨V.heap.size, 0, none⟩ = some (.int .i64 0)) (e1 : wz.cell? ⟨V.heap.size, 1, none⟩ = some (.int .i64 0)) (e2 : wz.cell? ⟨V.heap.size, 2, none⟩ = some (.int .i64 0)) (e3 : ∀ o, wz.frozen? ⟨V.heap.size, o, none⟩ = false) :
    RI V V.heap.size O C P (((wz.setCell ⟨V.heap.size, 0, none⟩ (.int .i64 O)).setCell ⟨V.heap.size, 1, none⟩ (.int .i64 C)).setCell ⟨V.heap.size, 2, none⟩ (.int .i64 P)) :=
  ⟨(set3_15 hb e0 e1 e2 e3).1, Nat.le_refl _, (set3_15 hb e0 e1 e2 e3).2, fun u => by simp [go_sem, e3]⟩

theorem ri_set2 {V wz : World} {b : Nat} {O C P O' C' P' : Int} (r : RI V b O C P wz) :
    RI V b O' C' P' (((wz.setCell ⟨b, 0, none⟩ (.int .i64 O')).setCell ⟨b, 1, none⟩ (.int .i64 C')).setCell ⟨b, 2, none⟩ (.int .i64 P')) := by
  have e0 : wz.cell? ⟨b, 0, none⟩ = some (.int .i64 O) := r.X 0 _ rfl
  have e1 : wz.cell? ⟨b, 1, none⟩ = some (.int .i64 C) := r.X 1 _ rfl
  have e2 : wz.cell? ⟨b, 2, none⟩ = some (.int .i64 P) := r.X 2 _ rfl
  have ef := r.F
  refine ⟨((r.h.setCell r.z _).setCell r.z _).setCell r.z _, r.z, ?_, fun u => by simp [go_sem, ef]⟩
  intro i v hi
  match i, hi with
  | 0, hi => cases hi; simp [go_sem, e0]
  | 1, hi => cases hi; simp [go_sem, e1]
  | 2, hi => cases hi; simp [go_sem, e2]

set_option maxHeartbeats 16000000 in
set_option maxRecDepth 100000 in
theorem rInf_zero (n : Nt) (i : Fin n.m) (hpe : n.pa i.val = 0) (k O C P d r C' P' : Int) (m0 : 0 < n.m) (hk : 0 ≤ k * n.iv) (hk1 : k * n.iv ≤ 1099511627776) (hs : 0 ≤ n.st) (hs1 : n.st ≤ 4294967296) (hC : C = 0) (hP : P = 0)
    (HA : ∀ W, Calls Tryz.prog 32 #[.agg #[.int .i64 (n.cO 0), .int .i64 (n.cP 0)], .int .i64 (n.st + k * n.iv)] W fun e w' => e = .returned (.int .i64 O) ∧ Below W.heap.size W w')
    (HMe : ∀ W, n.In W → Calls Tryz.prog 12 #[.agg n.vs.toArray, .int .i64 (i.val : Int)] W fun y w' => y = .returned (.tuple #[.int .i64 d, .int .i64 r]) ∧ Below W.heap.size W w')
    (HP : ∀ W, Calls Tryz.prog 34 #[.agg #[.int .i64 O, .int .i64 C, .int .i64 P], .int .i64 d, .int .i64 r] W fun y w' => y = .returned (.tuple #[.agg #[.int .i64 O, .int .i64 C', .int .i64 P'], .int .i64 0]) ∧ Below W.heap.size W w')
    (w : World) (hn : n.In w) :
    Calls Tryz.prog 15 #[.agg n.vs.toArray, .int .i64 (i.val : Int), .int .i64 k] w fun y w' => y = .returned (.agg #[.int .i64 O, .int .i64 C', .int .i64 P']) ∧ Below w.heap.size w w' := by
  have hat := Lib.hid (show ∀ w, (isAgg 25).run Tryz.prog w = .ok true w from fun w => by kernel_rfl)
  have hst := Lib.hid (show ∀ w, (sizeOf 25).run Tryz.prog w = .ok n.vs.length w from fun w => by kernel_rfl)
  have hai := Lib.hid agg_inf
  have hsi := Lib.hid (show ∀ w, (sizeOf 44).run Tryz.prog w = .ok [Value.int .i64 O, .int .i64 C, .int .i64 P].length w from size_inf)
  have hsz := Lib.hid (show ∀ w, (sizeOf 44).run Tryz.prog w = .ok [Value.int .i64 O, .int .i64 C', .int .i64 P'].length w from size_inf)
  have hw1 : IntKind.i64.wrap (k * n.iv) = k * n.iv := IntWalk.i64_in _ (by omega)
  have hw2 : IntKind.i64.wrap (n.st + k * n.iv) = n.st + k * n.iv := IntWalk.i64_in _ (by omega)
  have HA := Lib.hid HA
  have HMe := Lib.hid HMe
  have HP := Lib.hid HP
  have x0 : (0 : Int) ≤ (i.val : Int) := by omega
  have x1 : (i.val : Int) < (n.m : Int) := by have := i.isLt; omega
  have x2 : (0 : Int) < (n.m : Int) := by omega
  have e0 : w.cell? ⟨n.bc, n.oc, none⟩ = some (.int .i64 (n.cO 0)) := by simpa using hn.c0 0 m0
  have e1 : w.cell? ⟨n.bc, n.oc + 1, none⟩ = some (.int .i64 (n.cP 0)) := by simpa using hn.c1 0 m0
  have pp : w.cell? ⟨n.bp, n.op + i.val, none⟩ = some (.int .i64 0) := by rw [hn.p _ i.isLt, hpe]
  have HN := Lib.hid hn
  clear hn hpe
  subst hC hP
  go_enter Tryz.func15, Tryz.ntmps15
  rw [n.lit]
  go_upto_region 1 with fail
  refine wp_world ?_
  intro V hV
  have HM := Lib.hid (show Holds V w.heap.size n.vs by subst hV; exact (holds_alloc w n.vs 25 rfl).alloc (by simp) _)
  have HZ := Lib.hid (show Holds V (w.heap.size + 1) [.int .i64 0, .int .i64 0, .int .i64 0] by subst hV; exact holds_alloc _ [.int .i64 0, .int .i64 0, .int .i64 0] 44 (by simp))
  have FZ := Lib.hid (show ∀ u, V.frozen? ⟨w.heap.size + 1, u, none⟩ = false by subst hV; intro u; exact frozen_new _ _ _ _ (by simp))
  have HV := Lib.hid (show Below w.heap.size w V by subst hV; exact below_alloc (below_alloc (Below.refl _ _) _) _)
  have zV : w.heap.size + 1 < V.heap.size := World.block_lt_of_cell? _ _ (HZ.out 0 _ rfl)
  clear hV
  have NV := Lib.hid (HN.out.keep HV.out)
  have q0 : V.cell? ⟨w.heap.size, 0, none⟩ = some (.slice (some ⟨n.bc, n.oc, none⟩) n.m n.kc) := HM.out 0 _ rfl
  have q1 : V.cell? ⟨w.heap.size, 1, none⟩ = some (.slice (some ⟨n.bp, n.op, none⟩) n.m n.kp) := HM.out 1 _ rfl
  have q5 : V.cell? ⟨w.heap.size, 5, none⟩ = some (.int .i64 n.st) := HM.out 5 _ rfl
  have q6 : V.cell? ⟨w.heap.size, 6, none⟩ = some (.int .i64 n.iv) := HM.out 6 _ rfl
  have e0 := below_keep HV.out e0
  have e1 := below_keep HV.out e1
  have pp := below_keep HV.out pp
  go_upto_region 2 with fail
  go_cut [8] (fun s wx => ∃ b : Nat, s = .pointer (some ⟨b, 0, none⟩) ∧ RI V b O 0 0 wx)
  case first =>
    have jb := Lib.hid (Below.drew (Below.refl V.heap.size V))
    have HK := Lib.hid (fun wx (hB : Below V.heap.size V wx) => (⟨hB, below_keep hB q0, below_keep hB e0, below_keep hB e1, below_keep hB q5, below_keep hB q6⟩ : Below V.heap.size V wx ∧ wx.cell? ⟨w.heap.size, 0, none⟩ = some (.slice (some ⟨n.bc, n.oc, none⟩) n.m n.kc) ∧ wx.cell? ⟨n.bc, n.oc, none⟩ = some (.int .i64 (n.cO 0)) ∧ wx.cell? ⟨n.bc, n.oc + 1, none⟩ = some (.int .i64 (n.cP 0)) ∧ wx.cell? ⟨w.heap.size, 5, none⟩ = some (.int .i64 n.st) ∧ wx.cell? ⟨w.heap.size, 6, none⟩ = some (.int .i64 n.iv)))
    have z0 := World.block_lt_of_cell? _ _ q0; have z1 := World.block_lt_of_cell? _ _ e0; have z2 := World.block_lt_of_cell? _ _ e1; have z3 := World.block_lt_of_cell? _ _ q5; have z4 := World.block_lt_of_cell? _ _ q6
    go_region_held3 (fun wx => Below V.heap.size V wx ∧ wx.cell? ⟨w.heap.size, 0, none⟩ = some (.slice (some ⟨n.bc, n.oc, none⟩) n.m n.kc) ∧ wx.cell? ⟨n.bc, n.oc, none⟩ = some (.int .i64 (n.cO 0)) ∧ wx.cell? ⟨n.bc, n.oc + 1, none⟩ = some (.int .i64 (n.cP 0)) ∧ wx.cell? ⟨w.heap.size, 5, none⟩ = some (.int .i64 n.st) ∧ wx.cell? ⟨w.heap.size, 6, none⟩ = some (.int .i64 n.iv))
      (first | assumption | (refine HK.out _ ?_; (repeat (first | with_reducible exact jb.out | with_reducible exact Below.refl _ _ | with_reducible refine Below.drew ?_ | refine Below.setCell ?_ (by first | exact Nat.le_refl _ | omega | (simp; done) | (simp; omega)) _ | refine Below.alloc ?_ (by first | exact Nat.le_refl _ | omega | (simp; done) | (simp; omega)) _)); done) | fail)
      (first | (go_at_call 32; refine (HA.out _).mono ?_; rintro e wz ⟨rfl, hb3⟩; (try ((first | (with_reducible have en := new_keepD15 _ _ hb3) | (with_reducible have en := new_keep15 _ _ hb3)); obtain ⟨e0, e1, e2, e3⟩ := en.out; clear en)); have jb := Lib.hid (show Below V.heap.size V wz from below_step (by (repeat (first | with_reducible exact jb.out | with_reducible exact Below.refl _ _ | with_reducible refine Below.drew ?_ | refine Below.setCell ?_ (by first | exact Nat.le_refl _ | omega | (simp; done) | (simp; omega)) _ | refine Below.alloc ?_ (by first | exact Nat.le_refl _ | omega | (simp; done) | (simp; omega)) _))) hb3); have jz : V.heap.size ≤ wz.heap.size := jb.out.size; clear hb3) | fail)
    all_goals
      go_wp2_with fail
      go_meet
      refine ⟨_, rfl, ?_⟩
      first | (with_reducible exact ri_new jb.out) | (with_reducible exact ri_set jb.out e0 e1 e2 e3)
  case rest =>
    obtain ⟨b, rfl, hR⟩ := hcut
    obtain ⟨V2, hV2⟩ : ∃ W, W = wc := ⟨_, rfl⟩
    subst hV2
    have R2 := Lib.hid hR
    clear hR
    clear e0 e1 pp q0 q1 q5 q6 HA hw1 hw2 hk hk1 hs hs1
    go_wp2_with ((with_reducible refine at_load 25 (.tmp 3) ?_); refine wpList_load_whole rfl (.tmp 3) 25 rfl w.heap.size 0 n.vs rfl hat.out hst.out (HM.out.keep R2.out.h) ?_; simp only [Act.put, List.setIfInBounds_toArray, List.set_cons_succ, List.set_cons_zero])
    refine (HMe.out _ (NV.out.keep R2.out.h)).mono ?_
    rintro y w9 ⟨rfl, hb9⟩
    have R9 := Lib.hid (R2.out.keep hb9)
    clear hb9 R2 HMe
    go_wp2_with ((with_reducible refine at_load 44 (.tmp 8) ?_); refine wpList_load_whole rfl (.tmp 8) 44 rfl b 0 [.int .i64 O, .int .i64 0, .int .i64 0] rfl hai.out hsi.out R9.out.X ?_; simp only [Act.put, List.setIfInBounds_toArray, List.set_cons_succ, List.set_cons_zero])
    refine (HP.out _).mono ?_
    rintro y w10 ⟨rfl, hb10⟩
    have RX := Lib.hid (R9.out.keep hb10)
    clear hb10 R9 HP
    go_upto_region 9 with ((with_reducible refine at_store 44 (.tmp 8) (.tmp 71) ?_); refine wpList_store_whole rfl (.tmp 8) (.tmp 71) 44 rfl b 0 [.int .i64 O, .int .i64 C', .int .i64 P'] rfl rfl hsz.out (fun j hj => RX.out.X.some j hj) (fun j _ => RX.out.F _) (three_one15 _ _ _) ?_; intro w11 hw11)
    have B11 := hw11.below _ _ RX.out.z RX.out.h
    have X11 := Lib.hid (show Holds w11 b [.int .i64 O, .int .i64 C', .int .i64 P'] from hw11.here)
    have Z11 := Lib.hid (HZ.out.keep B11)
    have F11 := Lib.hid (show ∀ u, w11.frozen? ⟨w.heap.size + 1, u, none⟩ = false from fun u => by rw [(bcell B11).2 _ _ zV]; exact FZ.out u)
    have H11 := Lib.hid (below_step HV.out B11)
    clear hw11 B11 RX HZ FZ HV
    go_wp2_with (first | ((with_reducible refine at_load 44 (.tmp 8) ?_); refine wpList_load_whole rfl (.tmp 8) 44 rfl b 0 [.int .i64 O, .int .i64 C', .int .i64 P'] rfl hai.out hsz.out X11.out ?_; simp only [Act.put, List.setIfInBounds_toArray, List.set_cons_succ, List.set_cons_zero]) | ((with_reducible refine at_store 44 (.tmp 6) (.tmp 73) ?_); refine wpList_store_whole rfl (.tmp 6) (.tmp 73) 44 rfl (w.heap.size + 1) 0 [.int .i64 O, .int .i64 C', .int .i64 P'] rfl rfl hsz.out (fun j hj => Z11.out.some j hj) (fun j _ => F11.out _) (three_one15 _ _ _) ?_; intro w12 hw12))
    have hL2 := run_loadVar_whole (P := Tryz.prog) (w := w12) 44 (w.heap.size + 1) 0 [.int .i64 O, .int .i64 C', .int .i64 P'] hai.out hsz.out hw12.here
    exact bodyPost_ret (v := .agg #[.int .i64 O, .int .i64 C', .int .i64 P']) (results_cell 6 44 Tryz.results15 (w.heap.size + 1) 0 _ rfl hL2) rfl ⟨rfl, hw12.below _ _ (by omega) H11.out⟩

set_option maxHeartbeats 16000000 in
set_option maxRecDepth 100000 in
theorem rInf_more (n : Nt) (i : Fin n.m) (p : Fin n.m) (hpe : n.pa i.val = (p.val : Int)) (hp0 : 0 < p.val) (k O C P d r C' P' : Int) (m0 : 0 < n.m) (hk : 0 ≤ k * n.iv) (hk1 : k * n.iv ≤ 1099511627776) (hs : 0 ≤ n.st) (hs1 : n.st ≤ 4294967296) (A E : Int) (C0 : Int) (hE : locV (n.cO p.val) (n.cP p.val) (A + n.sy) - locV (n.cO p.val) (n.cP p.val) A = E) (hE0 : 0 ≤ E) (hE1 : E ≤ 1048800) (hA : 0 ≤ A) (hA1 : A + n.sy ≤ 1099511627776) (hy : 0 ≤ n.sy)
    (HAr : ∀ W, n.In W → Calls Tryz.prog 14 #[.agg n.vs.toArray, .int .i64 (p.val : Int), .int .i64 k] W fun e w' => e = .returned (.int .i64 A) ∧ Below W.heap.size W w')
    (HT1 : ∀ W, Calls Tryz.prog 32 #[.agg #[.int .i64 (n.cO p.val), .int .i64 (n.cP p.val)], .int .i64 (A + n.sy)] W fun e w' => e = .returned (.int .i64 (locV (n.cO p.val) (n.cP p.val) (A + n.sy))) ∧ Below W.heap.size W w')
    (HT2 : ∀ W, Calls Tryz.prog 32 #[.agg #[.int .i64 (n.cO p.val), .int .i64 (n.cP p.val)], .int .i64 A] W fun e w' => e = .returned (.int .i64 (locV (n.cO p.val) (n.cP p.val) A)) ∧ Below W.heap.size W w')
    (HI : ∀ W, n.In W → Calls Tryz.prog 15 #[.agg n.vs.toArray, .int .i64 (p.val : Int), .int .i64 k] W fun e w' => e = .returned (.agg #[.int .i64 O, .int .i64 C0, .int .i64 P]) ∧ Below W.heap.size W w')
    (HL : ∀ W, Calls Tryz.prog 33 #[.agg #[.int .i64 O, .int .i64 C0, .int .i64 P], .int .i64 E] W fun e w' => e = .returned (.tuple #[.agg #[.int .i64 O, .int .i64 C, .int .i64 P], .int .i64 0]) ∧ Below W.heap.size W w')
    (HA : ∀ W, Calls Tryz.prog 32 #[.agg #[.int .i64 (n.cO 0), .int .i64 (n.cP 0)], .int .i64 (n.st + k * n.iv)] W fun e w' => e = .returned (.int .i64 O) ∧ Below W.heap.size W w')
    (HMe : ∀ W, n.In W → Calls Tryz.prog 12 #[.agg n.vs.toArray, .int .i64 (i.val : Int)] W fun y w' => y = .returned (.tuple #[.int .i64 d, .int .i64 r]) ∧ Below W.heap.size W w')
    (HP : ∀ W, Calls Tryz.prog 34 #[.agg #[.int .i64 O, .int .i64 C, .int .i64 P], .int .i64 d, .int .i64 r] W fun y w' => y = .returned (.tuple #[.agg #[.int .i64 O, .int .i64 C', .int .i64 P'], .int .i64 0]) ∧ Below W.heap.size W w')
    (w : World) (hn : n.In w) :
    Calls Tryz.prog 15 #[.agg n.vs.toArray, .int .i64 (i.val : Int), .int .i64 k] w fun y w' => y = .returned (.agg #[.int .i64 O, .int .i64 C', .int .i64 P']) ∧ Below w.heap.size w w' := by
  have hat := Lib.hid (show ∀ w, (isAgg 25).run Tryz.prog w = .ok true w from fun w => by kernel_rfl)
  have hst := Lib.hid (show ∀ w, (sizeOf 25).run Tryz.prog w = .ok n.vs.length w from fun w => by kernel_rfl)
  have hai := Lib.hid agg_inf
  have hsi := Lib.hid (show ∀ w, (sizeOf 44).run Tryz.prog w = .ok [Value.int .i64 O, .int .i64 C, .int .i64 P].length w from size_inf)
  have hsz := Lib.hid (show ∀ w, (sizeOf 44).run Tryz.prog w = .ok [Value.int .i64 O, .int .i64 C', .int .i64 P'].length w from size_inf)
  have hw1 : IntKind.i64.wrap (k * n.iv) = k * n.iv := IntWalk.i64_in _ (by omega)
  have hw2 : IntKind.i64.wrap (n.st + k * n.iv) = n.st + k * n.iv := IntWalk.i64_in _ (by omega)
  have hw3 : IntKind.i64.wrap (A + n.sy) = A + n.sy := IntWalk.i64_in _ (by omega)
  have hw4 : IntKind.i64.wrap (locV (n.cO p.val) (n.cP p.val) (A + n.sy) - locV (n.cO p.val) (n.cP p.val) A) = E := by
    rw [hE]
    exact IntWalk.i64_in _ (by omega)
  have HA := Lib.hid HA
  have HMe := Lib.hid HMe
  have HP := Lib.hid HP
  have HAr := Lib.hid HAr
  have HT1 := Lib.hid HT1
  have HT2 := Lib.hid HT2
  have HI := Lib.hid HI
  have HL := Lib.hid HL
  have x0 : (0 : Int) ≤ (i.val : Int) := by omega
  have x1 : (i.val : Int) < (n.m : Int) := by have := i.isLt; omega
  have x2 : (0 : Int) < (n.m : Int) := by omega
  have y0 : (0 : Int) ≤ (p.val : Int) := by omega
  have y1 : (p.val : Int) < (n.m : Int) := by have := p.isLt; omega
  have y2 : ¬ (p.val : Int) = 0 := by omega
  have f0 : w.cell? ⟨n.bc, n.oc + p.val * 2, none⟩ = some (.int .i64 (n.cO p.val)) := hn.c0 _ p.isLt
  have f1 : w.cell? ⟨n.bc, n.oc + p.val * 2 + 1, none⟩ = some (.int .i64 (n.cP p.val)) := hn.c1 _ p.isLt
  have e0 : w.cell? ⟨n.bc, n.oc, none⟩ = some (.int .i64 (n.cO 0)) := by simpa using hn.c0 0 m0
  have e1 : w.cell? ⟨n.bc, n.oc + 1, none⟩ = some (.int .i64 (n.cP 0)) := by simpa using hn.c1 0 m0
  have pp : w.cell? ⟨n.bp, n.op + i.val, none⟩ = some (.int .i64 (p.val : Int)) := by rw [hn.p _ i.isLt, hpe]
  have HN := Lib.hid hn
  clear hn hpe
  generalize locV (n.cO p.val) (n.cP p.val) (A + n.sy) = T1 at *
  generalize locV (n.cO p.val) (n.cP p.val) A = T2 at *
  clear hE
  go_enter Tryz.func15, Tryz.ntmps15
  rw [n.lit]
  go_upto_region 1 with fail
  refine wp_world ?_
  intro V hV
  have HM := Lib.hid (show Holds V w.heap.size n.vs by subst hV; exact (holds_alloc w n.vs 25 rfl).alloc (by simp) _)
  have HZ := Lib.hid (show Holds V (w.heap.size + 1) [.int .i64 0, .int .i64 0, .int .i64 0] by subst hV; exact holds_alloc _ [.int .i64 0, .int .i64 0, .int .i64 0] 44 (by simp))
  have FZ := Lib.hid (show ∀ u, V.frozen? ⟨w.heap.size + 1, u, none⟩ = false by subst hV; intro u; exact frozen_new _ _ _ _ (by simp))
  have HV := Lib.hid (show Below w.heap.size w V by subst hV; exact below_alloc (below_alloc (Below.refl _ _) _) _)
  have zV : w.heap.size + 1 < V.heap.size := World.block_lt_of_cell? _ _ (HZ.out 0 _ rfl)
  clear hV
  have NV := Lib.hid (HN.out.keep HV.out)
  have q0 : V.cell? ⟨w.heap.size, 0, none⟩ = some (.slice (some ⟨n.bc, n.oc, none⟩) n.m n.kc) := HM.out 0 _ rfl
  have q1 : V.cell? ⟨w.heap.size, 1, none⟩ = some (.slice (some ⟨n.bp, n.op, none⟩) n.m n.kp) := HM.out 1 _ rfl
  have q5 : V.cell? ⟨w.heap.size, 5, none⟩ = some (.int .i64 n.st) := HM.out 5 _ rfl
  have q6 : V.cell? ⟨w.heap.size, 6, none⟩ = some (.int .i64 n.iv) := HM.out 6 _ rfl
  have e0 := below_keep HV.out e0
  have e1 := below_keep HV.out e1
  have pp := below_keep HV.out pp
  have f0 := below_keep HV.out f0
  have f1 := below_keep HV.out f1
  have q7 : V.cell? ⟨w.heap.size, 7, none⟩ = some (.int .i64 n.sy) := HM.out 7 _ rfl
  go_upto_region 2 with fail
  go_cut [8] (fun s wx => ∃ b : Nat, s = .pointer (some ⟨b, 0, none⟩) ∧ RI V b O 0 0 wx)
  case first =>
    have jb := Lib.hid (Below.drew (Below.refl V.heap.size V))
    have HK := Lib.hid (fun wx (hB : Below V.heap.size V wx) => (⟨hB, below_keep hB q0, below_keep hB e0, below_keep hB e1, below_keep hB q5, below_keep hB q6⟩ : Below V.heap.size V wx ∧ wx.cell? ⟨w.heap.size, 0, none⟩ = some (.slice (some ⟨n.bc, n.oc, none⟩) n.m n.kc) ∧ wx.cell? ⟨n.bc, n.oc, none⟩ = some (.int .i64 (n.cO 0)) ∧ wx.cell? ⟨n.bc, n.oc + 1, none⟩ = some (.int .i64 (n.cP 0)) ∧ wx.cell? ⟨w.heap.size, 5, none⟩ = some (.int .i64 n.st) ∧ wx.cell? ⟨w.heap.size, 6, none⟩ = some (.int .i64 n.iv)))
    have z0 := World.block_lt_of_cell? _ _ q0; have z1 := World.block_lt_of_cell? _ _ e0; have z2 := World.block_lt_of_cell? _ _ e1; have z3 := World.block_lt_of_cell? _ _ q5; have z4 := World.block_lt_of_cell? _ _ q6
    go_region_held3 (fun wx => Below V.heap.size V wx ∧ wx.cell? ⟨w.heap.size, 0, none⟩ = some (.slice (some ⟨n.bc, n.oc, none⟩) n.m n.kc) ∧ wx.cell? ⟨n.bc, n.oc, none⟩ = some (.int .i64 (n.cO 0)) ∧ wx.cell? ⟨n.bc, n.oc + 1, none⟩ = some (.int .i64 (n.cP 0)) ∧ wx.cell? ⟨w.heap.size, 5, none⟩ = some (.int .i64 n.st) ∧ wx.cell? ⟨w.heap.size, 6, none⟩ = some (.int .i64 n.iv))
      (first | assumption | (refine HK.out _ ?_; (repeat (first | with_reducible exact jb.out | with_reducible exact Below.refl _ _ | with_reducible refine Below.drew ?_ | refine Below.setCell ?_ (by first | exact Nat.le_refl _ | omega | (simp; done) | (simp; omega)) _ | refine Below.alloc ?_ (by first | exact Nat.le_refl _ | omega | (simp; done) | (simp; omega)) _)); done) | fail)
      (first | (go_at_call 32; refine (HA.out _).mono ?_; rintro e wz ⟨rfl, hb3⟩; (try ((first | (with_reducible have en := new_keepD15 _ _ hb3) | (with_reducible have en := new_keep15 _ _ hb3)); obtain ⟨e0, e1, e2, e3⟩ := en.out; clear en)); have jb := Lib.hid (show Below V.heap.size V wz from below_step (by (repeat (first | with_reducible exact jb.out | with_reducible exact Below.refl _ _ | with_reducible refine Below.drew ?_ | refine Below.setCell ?_ (by first | exact Nat.le_refl _ | omega | (simp; done) | (simp; omega)) _ | refine Below.alloc ?_ (by first | exact Nat.le_refl _ | omega | (simp; done) | (simp; omega)) _))) hb3); have jz : V.heap.size ≤ wz.heap.size := jb.out.size; clear hb3) | fail)
    all_goals
      go_wp2_with fail
      go_meet
      refine ⟨_, rfl, ?_⟩
      first | (with_reducible exact ri_new jb.out) | (with_reducible exact ri_set jb.out e0 e1 e2 e3)
  case rest =>
    obtain ⟨b, rfl, hR⟩ := hcut
    obtain ⟨V2, hV2⟩ : ∃ W, W = wc := ⟨_, rfl⟩
    subst hV2
    have R2 := Lib.hid hR
    clear hR
    have q0 := below_keep R2.out.h q0
    have f0 := below_keep R2.out.h f0
    have f1 := below_keep R2.out.h f1
    clear e0 e1 pp q1 q5 q6 HA hw1 hw2 hk hk1 hs hs1
    go_wp2_with ((with_reducible refine at_load 25 (.tmp 3) ?_); refine wpList_load_whole rfl (.tmp 3) 25 rfl w.heap.size 0 n.vs rfl hat.out hst.out (HM.out.keep R2.out.h) ?_; simp only [Act.put, List.setIfInBounds_toArray, List.set_cons_succ, List.set_cons_zero])
    refine (HAr.out _ (NV.out.keep R2.out.h)).mono ?_
    rintro y w3 ⟨rfl, hb3⟩
    have R3 := Lib.hid (R2.out.keep hb3)
    have q0 := below_keep hb3 q0
    have f0 := below_keep hb3 f0
    have f1 := below_keep hb3 f1
    clear hb3 R2
    go_upto_region 6 with fail
    obtain ⟨gb, hgb⟩ : ∃ x, w3.heap.size = x := ⟨_, rfl⟩
    have hbg : b < gb := by rw [← hgb]; exact World.block_lt_of_cell? _ _ (R3.out.X 0 _ rfl)
    rw [hgb]
    refine wp_world ?_
    intro V6 hV6
    have jg0 : V6.cell? ⟨gb, 0, none⟩ = some (.int .i64 (n.cO p.val)) := by subst hV6; rw [← hgb]; simp [go_sem]
    have jg1 : V6.cell? ⟨gb, 1, none⟩ = some (.int .i64 (n.cP p.val)) := by subst hV6; rw [← hgb]; simp [go_sem]
    have jr := Lib.hid (show RI V b O 0 0 V6 by subst hV6; exact R3.out.keep (below_alloc (Below.refl _ _) _))
    have jb := Lib.hid jr.out.h
    clear hV6 R3 q0 f0 f1 hgb
    have hne : ¬ gb = b := by omega
    have hVb := jr.out.z
    have s0 : V.cell? ⟨w.heap.size, 0, none⟩ = some (.slice (some ⟨n.bc, n.oc, none⟩) n.m n.kc) := HM.out 0 _ rfl
    have s1 : V.cell? ⟨w.heap.size, 1, none⟩ = some (.slice (some ⟨n.bp, n.op, none⟩) n.m n.kp) := HM.out 1 _ rfl
    have s2 : V.cell? ⟨w.heap.size, 2, none⟩ = some (.slice (some ⟨n.bd, n.od, none⟩) n.m n.kd) := HM.out 2 _ rfl
    have s3 : V.cell? ⟨w.heap.size, 3, none⟩ = some (.int .i64 n.tu) := HM.out 3 _ rfl
    have s4 : V.cell? ⟨w.heap.size, 4, none⟩ = some (.int .i64 n.ga) := HM.out 4 _ rfl
    have s5 : V.cell? ⟨w.heap.size, 5, none⟩ = some (.int .i64 n.st) := HM.out 5 _ rfl
    have s6 : V.cell? ⟨w.heap.size, 6, none⟩ = some (.int .i64 n.iv) := HM.out 6 _ rfl
    have s7 : V.cell? ⟨w.heap.size, 7, none⟩ = some (.int .i64 n.sy) := HM.out 7 _ rfl
    have HK := Lib.hid (fun wx (hB : Below V.heap.size V wx) (h0 : wx.cell? ⟨gb, 0, none⟩ = some (.int .i64 (n.cO p.val))) (h1 : wx.cell? ⟨gb, 1, none⟩ = some (.int .i64 (n.cP p.val))) => (⟨hB, below_keep hB s0, below_keep hB s1, below_keep hB s2, below_keep hB s3, below_keep hB s4, below_keep hB s5, below_keep hB s6, below_keep hB s7, h0, h1⟩ : Below V.heap.size V wx ∧ wx.cell? ⟨w.heap.size, 0, none⟩ = some (.slice (some ⟨n.bc, n.oc, none⟩) n.m n.kc) ∧ wx.cell? ⟨w.heap.size, 1, none⟩ = some (.slice (some ⟨n.bp, n.op, none⟩) n.m n.kp) ∧ wx.cell? ⟨w.heap.size, 2, none⟩ = some (.slice (some ⟨n.bd, n.od, none⟩) n.m n.kd) ∧ wx.cell? ⟨w.heap.size, 3, none⟩ = some (.int .i64 n.tu) ∧ wx.cell? ⟨w.heap.size, 4, none⟩ = some (.int .i64 n.ga) ∧ wx.cell? ⟨w.heap.size, 5, none⟩ = some (.int .i64 n.st) ∧ wx.cell? ⟨w.heap.size, 6, none⟩ = some (.int .i64 n.iv) ∧ wx.cell? ⟨w.heap.size, 7, none⟩ = some (.int .i64 n.sy) ∧ wx.cell? ⟨gb, 0, none⟩ = some (.int .i64 (n.cO p.val)) ∧ wx.cell? ⟨gb, 1, none⟩ = some (.int .i64 (n.cP p.val))))
    clear s0 s1 s2 s3 s4 s5 s6 s7 q7
    have HI := Lib.hid (fun W (h : n.In W) => HI.out W h)
    rw [n.lit] at HI
    go_cut [8] (fun s wx => s = .pointer (some ⟨b, 0, none⟩) ∧ RI V b O C P wx)
    case first =>
      go_region_held3 (fun wx => Below V.heap.size V wx ∧ wx.cell? ⟨w.heap.size, 0, none⟩ = some (.slice (some ⟨n.bc, n.oc, none⟩) n.m n.kc) ∧ wx.cell? ⟨w.heap.size, 1, none⟩ = some (.slice (some ⟨n.bp, n.op, none⟩) n.m n.kp) ∧ wx.cell? ⟨w.heap.size, 2, none⟩ = some (.slice (some ⟨n.bd, n.od, none⟩) n.m n.kd) ∧ wx.cell? ⟨w.heap.size, 3, none⟩ = some (.int .i64 n.tu) ∧ wx.cell? ⟨w.heap.size, 4, none⟩ = some (.int .i64 n.ga) ∧ wx.cell? ⟨w.heap.size, 5, none⟩ = some (.int .i64 n.st) ∧ wx.cell? ⟨w.heap.size, 6, none⟩ = some (.int .i64 n.iv) ∧ wx.cell? ⟨w.heap.size, 7, none⟩ = some (.int .i64 n.sy) ∧ wx.cell? ⟨gb, 0, none⟩ = some (.int .i64 (n.cO p.val)) ∧ wx.cell? ⟨gb, 1, none⟩ = some (.int .i64 (n.cP p.val)))
        (first | with_reducible assumption | exact HK.out _ (by (repeat (first | with_reducible exact jb.out | with_reducible refine Below.drew ?_ | refine Below.setCell ?_ (by omega) _))) (by first | with_reducible assumption | simp [go_sem, *]) (by first | with_reducible assumption | simp [go_sem, *]) | fail)
        (first | (go_at_call 15; refine (HI.out _ (NV.out.keep (by (repeat (first | with_reducible exact jb.out | with_reducible refine Below.drew ?_ | refine Below.setCell ?_ (by omega) _))))).mono ?_; rintro e wz ⟨rfl, hb3⟩; have jb := Lib.hid (show Below V.heap.size V wz from below_step (by (repeat (first | with_reducible exact jb.out | with_reducible refine Below.drew ?_ | refine Below.setCell ?_ (by omega) _))) hb3); have jg0 : wz.cell? ⟨gb, 0, none⟩ = some (.int .i64 (n.cO p.val)) := below_keep hb3 (by first | with_reducible assumption | simp [go_sem, *]); have jg1 : wz.cell? ⟨gb, 1, none⟩ = some (.int .i64 (n.cP p.val)) := below_keep hb3 (by first | with_reducible assumption | simp [go_sem, *]); have jr := Lib.hid (show RI V b O 0 0 wz from RI.keep (by first | with_reducible exact jr.out | with_reducible exact jr.out.keep (Below.drew (Below.refl _ _))) hb3); have x0 : wz.cell? ⟨b, 0, none⟩ = some (.int .i64 O) := jr.out.X 0 _ rfl; have x1 : wz.cell? ⟨b, 1, none⟩ = some (.int .i64 0) := jr.out.X 1 _ rfl; have x2 : wz.cell? ⟨b, 2, none⟩ = some (.int .i64 0) := jr.out.X 2 _ rfl; have xf : ∀ u, wz.frozen? ⟨b, u, none⟩ = false := jr.out.F; clear hb3) | (go_at_call 32; (first | (with_reducible refine (HT1.out _).mono ?_) | (with_reducible refine (HT2.out _).mono ?_)); rintro e wz ⟨rfl, hb3⟩; have jb := Lib.hid (show Below V.heap.size V wz from below_step (by (repeat (first | with_reducible exact jb.out | with_reducible refine Below.drew ?_ | refine Below.setCell ?_ (by omega) _))) hb3); have jg0 : wz.cell? ⟨gb, 0, none⟩ = some (.int .i64 (n.cO p.val)) := below_keep hb3 (by first | with_reducible assumption | simp [go_sem, *]); have jg1 : wz.cell? ⟨gb, 1, none⟩ = some (.int .i64 (n.cP p.val)) := below_keep hb3 (by first | with_reducible assumption | simp [go_sem, *]); have jr := Lib.hid (show RI V b O 0 0 wz from RI.keep (by first | with_reducible exact jr.out | with_reducible exact jr.out.keep (Below.drew (Below.refl _ _))) hb3); have x0 : wz.cell? ⟨b, 0, none⟩ = some (.int .i64 O) := jr.out.X 0 _ rfl; have x1 : wz.cell? ⟨b, 1, none⟩ = some (.int .i64 0) := jr.out.X 1 _ rfl; have x2 : wz.cell? ⟨b, 2, none⟩ = some (.int .i64 0) := jr.out.X 2 _ rfl; have xf : ∀ u, wz.frozen? ⟨b, u, none⟩ = false := jr.out.F; clear hb3) | (go_at_call 33; refine (HL.out _).mono ?_; rintro e wz ⟨rfl, hb3⟩; have jb := Lib.hid (show Below V.heap.size V wz from below_step (by (repeat (first | with_reducible exact jb.out | with_reducible refine Below.drew ?_ | refine Below.setCell ?_ (by omega) _))) hb3); have jg0 : wz.cell? ⟨gb, 0, none⟩ = some (.int .i64 (n.cO p.val)) := below_keep hb3 (by first | with_reducible assumption | simp [go_sem, *]); have jg1 : wz.cell? ⟨gb, 1, none⟩ = some (.int .i64 (n.cP p.val)) := below_keep hb3 (by first | with_reducible assumption | simp [go_sem, *]); have jr := Lib.hid (show RI V b O 0 0 wz from RI.keep (by first | with_reducible exact jr.out | with_reducible exact jr.out.keep (Below.drew (Below.refl _ _))) hb3); have x0 : wz.cell? ⟨b, 0, none⟩ = some (.int .i64 O) := jr.out.X 0 _ rfl; have x1 : wz.cell? ⟨b, 1, none⟩ = some (.int .i64 0) := jr.out.X 1 _ rfl; have x2 : wz.cell? ⟨b, 2, none⟩ = some (.int .i64 0) := jr.out.X 2 _ rfl; have xf : ∀ u, wz.frozen? ⟨b, u, none⟩ = false := jr.out.F; clear hb3) | fail)
      all_goals
        go_wp2_with fail
        go_meet
        exact ⟨rfl, ri_set2 jr.out⟩
    case rest =>
      obtain ⟨rfl, hR⟩ := hcut
      obtain ⟨w8, hw8⟩ : ∃ W, W = wc := ⟨_, rfl⟩
      subst hw8
      have R8 := Lib.hid hR
      clear hR HK HI HT1 HT2 HL hVb hne jr jb jg0 jg1
      go_wp2_with ((with_reducible refine at_load 25 (.tmp 3) ?_); refine wpList_load_whole rfl (.tmp 3) 25 rfl w.heap.size 0 n.vs rfl hat.out hst.out (HM.out.keep R8.out.h) ?_; simp only [Act.put, List.setIfInBounds_toArray, List.set_cons_succ, List.set_cons_zero])
      refine (HMe.out _ (NV.out.keep R8.out.h)).mono ?_
      rintro y w9 ⟨rfl, hb9⟩
      have R9 := Lib.hid (R8.out.keep hb9)
      clear hb9 R8 HMe
      go_wp2_with ((with_reducible refine at_load 44 (.tmp 8) ?_); refine wpList_load_whole rfl (.tmp 8) 44 rfl b 0 [.int .i64 O, .int .i64 C, .int .i64 P] rfl hai.out hsi.out R9.out.X ?_; simp only [Act.put, List.setIfInBounds_toArray, List.set_cons_succ, List.set_cons_zero])
      refine (HP.out _).mono ?_
      rintro y w10 ⟨rfl, hb10⟩
      have RX := Lib.hid (R9.out.keep hb10)
      clear hb10 R9 HP
      go_upto_region 9 with ((with_reducible refine at_store 44 (.tmp 8) (.tmp 71) ?_); refine wpList_store_whole rfl (.tmp 8) (.tmp 71) 44 rfl b 0 [.int .i64 O, .int .i64 C', .int .i64 P'] rfl rfl hsz.out (fun j hj => RX.out.X.some j hj) (fun j _ => RX.out.F _) (three_one15 _ _ _) ?_; intro w11 hw11)
      have B11 := hw11.below _ _ RX.out.z RX.out.h
      have X11 := Lib.hid (show Holds w11 b [.int .i64 O, .int .i64 C', .int .i64 P'] from hw11.here)
      have Z11 := Lib.hid (HZ.out.keep B11)
      have F11 := Lib.hid (show ∀ u, w11.frozen? ⟨w.heap.size + 1, u, none⟩ = false from fun u => by rw [(bcell B11).2 _ _ zV]; exact FZ.out u)
      have H11 := Lib.hid (below_step HV.out B11)
      clear hw11 B11 RX HZ FZ HV
      go_wp2_with (first | ((with_reducible refine at_load 44 (.tmp 8) ?_); refine wpList_load_whole rfl (.tmp 8) 44 rfl b 0 [.int .i64 O, .int .i64 C', .int .i64 P'] rfl hai.out hsz.out X11.out ?_; simp only [Act.put, List.setIfInBounds_toArray, List.set_cons_succ, List.set_cons_zero]) | ((with_reducible refine at_store 44 (.tmp 6) (.tmp 73) ?_); refine wpList_store_whole rfl (.tmp 6) (.tmp 73) 44 rfl (w.heap.size + 1) 0 [.int .i64 O, .int .i64 C', .int .i64 P'] rfl rfl hsz.out (fun j hj => Z11.out.some j hj) (fun j _ => F11.out _) (three_one15 _ _ _) ?_; intro w12 hw12))
      have hL2 := run_loadVar_whole (P := Tryz.prog) (w := w12) 44 (w.heap.size + 1) 0 [.int .i64 O, .int .i64 C', .int .i64 P'] hai.out hsz.out hw12.here
      exact bodyPost_ret (v := .agg #[.int .i64 O, .int .i64 C', .int .i64 P']) (results_cell 6 44 Tryz.results15 (w.heap.size + 1) 0 _ rfl hL2) rfl ⟨rfl, hw12.below _ _ (by omega) H11.out⟩

theorem refInfo_any (n : Nt) (hb : n.Bd) (hc : n.Clk) (par : Fin n.m → Fin n.m) (hp : n.Par par) (k : Int) (k0 : 0 ≤ k) : ∀ (v : Nat) (i : Fin n.m), i.val = v → 0 < i.val → k ≤ lastK n par i → ∀ (w : World), n.In w →
    Calls Tryz.prog 15 #[.agg n.vs.toArray, .int .i64 (i.val : Int), .int .i64 k] w fun y w' => y = .returned (.agg #[.int .i64 (orgV n k), .int .i64 (arI n par k i).1, .int .i64 (arI n par k i).2]) ∧ Below w.heap.size w w' := by
  intro v
  induction v using Nat.strongRecOn with
  | ind v ih =>
    intro i hv h0 k1 w hn
    have hl := hp.lt i h0
    have hst := arI_step hp k h0
    have hok := (arI_ok hb hc hp h0 k0 k1).1
    obtain ⟨r0, r1⟩ := meaR_bd hb hc par i
    obtain ⟨e0, e1⟩ := meaD_bd hb hc par i
    obtain ⟨t0, t1⟩ := db_bd hb i.isLt
    have d0 := hb.de0 i.val i.isLt
    have d1 := hb.de1 i.val i.isLt
    obtain ⟨-, -, -, -, q0, q1⟩ := rateK_bd hb
    obtain ⟨_, _, b3, b4⟩ := hc i.val i.isLt
    obtain ⟨_, _, b5, b6⟩ := hc (par i).val (par i).isLt
    have hlv := lvI_ok hb hc hp h0 k0 k1
    have hArr : ArrOk (orgV n k) (lvI n par k (par i)).1 (lvI n par k (par i)).2 (meaD n par i) (meaR n par i) := by
      rw [hst] at hok
      exact ⟨hlv, ⟨⟨by omega, by omega⟩, ⟨by omega, by omega⟩⟩, hok⟩
    rw [hst]
    have m0 : 0 < n.m := by omega
    obtain ⟨ht, -⟩ := org_bd hb hc hp h0 k0 k1
    have hkv := arr_bd hb hp k0 k1
    have htt := arr_tick hb hp h0 k0 k1
    have s0 := hb.st0
    have s1 := hb.st1
    have ga0 := hb.ga0
    have tu0 := hb.tu0
    have hA := fun W => clkAt_any (n.cO 0) (n.cP 0) (n.st + k * n.iv) (hc 0 m0) ht W
    have hM := fun W hW => refMeas_any n hb hc par hp i h0 W hW
    have hP := fun W => rArrive_ok hArr W
    obtain ⟨⟨u0, u1⟩, u2⟩ := htt
    by_cases hz : (par i).val = 0
    · refine rInf_zero n i (by rw [hp.eq i h0, hz]; rfl) k (orgV n k) (lvI n par k (par i)).1 (lvI n par k (par i)).2 (meaD n par i) (meaR n par i) _ _ m0 hkv.1 (by omega) (by omega) (by omega) ?_ ?_ hA hM hP w hn
      · unfold lvI lvQ; rw [if_pos hz]
      · unfold lvI lvQ; rw [if_pos hz]
    · have k2 := lastK_par hb hp h0 k0 k1
      have hq : 0 < (par i).val := by omega
      have hIH := fun W hW => ih (par i).val (by omega) (par i) rfl hq k2 W hW
      have hap := (arI_ok hb hc hp hq k0 k2).1
      obtain ⟨x0, x1⟩ := el_bd hb hc par k (par i)
      obtain ⟨⟨v0, v1⟩, v2, v3⟩ := stay_ok hb hp h0 k0 k1 hq
      have hlq : lvI n par k (par i) = (corV (arI n par k (par i)).1 (elN n par k (par i)) (arI n par k (par i)).2, (arI n par k (par i)).2) := by unfold lvI lvQ; rw [if_neg hz]
      have sy0 := hb.sy0
      have hkm : k * n.iv ≤ 1099511627776 := by omega
      rw [hlq] at hlv hP ⊢
      exact rInf_more n i (par i) (hp.eq i h0) hq k (orgV n k) _ _ (meaD n par i) (meaR n par i) _ _ m0 hkv.1 hkm (by omega) (by omega) (arrV n par (par i) k) (elN n par k (par i)) (arI n par k (par i)).1 rfl x0 x1 v0 v3.2 sy0
        (fun W hW => arrRef_any n hb par hp k k0 hkm (par i).val (par i) rfl hq W hW)
        (fun W => clkAt_any _ _ _ (hc (par i).val (par i).isLt) v3 W)
        (fun W => clkAt_any _ _ _ (hc (par i).val (par i).isLt) ⟨v0, v1⟩ W)
        hIH (fun W => rLeave_ok ⟨hap, ⟨x0, by omega⟩, hlv⟩ W) hA hM hP w hn

end Go.Proofs.YtkencmijghigiaaGreat
