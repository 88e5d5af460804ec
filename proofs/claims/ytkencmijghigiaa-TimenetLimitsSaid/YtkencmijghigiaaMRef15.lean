/-
  The reference's bounds: gain, Rho, Arrives, Bound. No conditions.
-/
import Derived.Test.YtkencmijghigiaaMBnd15
import Derived.Test.YtkencmijghigiaaMClk
import Derived.Test.YtkencmijghigiaaMRft
import Derived.Test.YtkencmijghigiaaMRfu
namespace Go.Proofs.Ytkencmijghigiaa
open Go.RowKit Go.Lib Go.Shelf Plain

theorem toBelow {P : Program} {f : Nat} {args : Array Value} {v : Value} {w : World} (h : Calls P f args w fun e w' => e = .returned v ∧ w = w') : Calls P f args w fun e w' => e = .returned v ∧ Below w.heap.size w w' :=
  h.mono fun _ _ ⟨h1, h2⟩ => ⟨h1, h2 ▸ Below.refl _ _⟩

theorem drRef15 {x : Int} (h0 : 0 ≤ x) (h1 : x ≤ 1099511627776) (w : World) :
    Calls Try.prog 47 #[.int .i64 200000, .int .i64 x] w fun e w' => e = .returned (.int .i64 (drV x)) ∧ Below w.heap.size w w' := by
  rw [(drV_bd h0 h1).1]
  exact toBelow (driftRef_any 200000 x (by omega) (by omega) h0 h1 w)
theorem gainRef_any {x : Int} (h0 : 0 ≤ x) (h1 : x ≤ 1099511627776) (w : World) :
    Calls Try.prog 28 #[.int .i64 x] w fun e w' => e = .returned (.int .i64 (x + drV x)) ∧ Below w.heap.size w w' := by
  obtain ⟨-, d0, d1⟩ := drV_bd h0 h1
  have HD := Lib.hid (fun W => drRef15 h0 h1 W)
  generalize drV x = d at *
  go_enter Try.func28, Try.ntmps28
  go_wp2_with fail
  refine (HD.out _).mono ?_
  rintro y w1 ⟨rfl, hb1⟩
  go_wp2
  go_ret
  exact ⟨rfl, hb1⟩

theorem rhoV_zero {n : Nt} {par : Fin n.m → Fin n.m} {i : Fin n.m} (h : i.val = 0) : rhoV n par i = 0 := by
  unfold rhoV
  rw [ups_zero h]
  simp
theorem rhoV_step {n : Nt} {par : Fin n.m → Fin n.m} (hp : n.Par par) {i : Fin n.m} (h : 0 < i.val) : rhoV n par i = rhoV n par (par i) + rateK n := by
  unfold rhoV
  rw [ups_pos hp.lt i h, Int.natCast_add, Int.add_mul]
  simp

set_option maxHeartbeats 8000000 in
set_option maxRecDepth 100000 in
theorem rhoRef_any (n : Nt) (hb : n.Bd) (par : Fin n.m → Fin n.m) (hp : n.Par par) : ∀ (k : Nat) (i : Fin n.m), i.val = k → ∀ (w : World), n.In w →
    Calls Try.prog 29 #[.agg n.vs.toArray, .int .i64 (i.val : Int)] w fun e w' => e = .returned (.int .i64 (rhoV n par i)) ∧ Below w.heap.size w w' := by
  intro k
  induction k using Nat.strongRecOn with
  | ind k ih =>
    intro i hk w hn
    by_cases hz : i.val = 0
    · rw [rhoV_zero hz]
      have hzi : (i.val : Int) = 0 := by omega
      rw [hzi]
      go_enter Try.func29, Try.ntmps29
      rw [n.lit]
      go_wp2
      go_ret
      exact ⟨rfl, below_alloc (Below.refl _ _) _⟩
    · have h0 : 0 < i.val := by omega
      have ha := Lib.hid (show ∀ w, (isAgg 32).run Try.prog w = .ok true w from fun w => by kernel_rfl)
      have hs := Lib.hid (show ∀ w, (sizeOf 32).run Try.prog w = .ok n.vs.length w from fun w => by kernel_rfl)
      have hl := hp.lt i h0
      obtain ⟨p, hpp⟩ : ∃ p, par i = p := ⟨_, rfl⟩
      have g0 := hb.ga0
      have g1 := hb.ga1
      obtain ⟨-, y0, y1, ek, k0, k1⟩ := rateK_bd hb
      obtain ⟨-, d0, d1⟩ := drV_bd (x := n.ga) (by omega) (by omega)
      obtain ⟨q0, q1⟩ := rho_bd hb hp p
      have IH := Lib.hid (show ∀ W, n.In W → Calls Try.prog 29 #[.agg n.vs.toArray, .int .i64 (p.val : Int)] W fun e w' => e = .returned (.int .i64 (rhoV n par p)) ∧ Below W.heap.size W w' from fun W h => by
        subst hpp
        exact ih (par i).val (by omega) (par i) rfl W h)
      have HD := Lib.hid (fun W => drRef15 (x := n.ga) (by omega) (by omega) W)
      have HK := Lib.hid (show ∀ W, Calls Try.prog 48 #[.int .i64 (n.ga - drV n.ga)] W fun e w' => e = .returned (.int .i64 (rateK n)) ∧ Below W.heap.size W w' from fun W => by
        rw [ek]
        exact toBelow (ratioBoundRef_any (n.ga - drV n.ga) ⟨by omega, by omega⟩ W))
      have hst : rhoV n par i = rhoV n par p + rateK n := by rw [rhoV_step hp h0, hpp]
      have hpe : n.pa i.val = (p.val : Int) := by rw [hp.eq i h0, hpp]
      have hw1 : IntKind.i64.wrap (n.ga - drV n.ga) = n.ga - drV n.ga := by simp [IntKind.wrap, IntKind.signed, IntKind.bits]; omega
      have hw2 : IntKind.i64.wrap (rhoV n par p + rateK n) = rhoV n par p + rateK n := by simp [IntKind.wrap, IntKind.signed, IntKind.bits]; omega
      rw [hst]
      clear hst hpp hl ih ek hk
      generalize rhoV n par p = rp at *
      generalize rateK n = rk at *
      generalize drV n.ga = dv at *
      have hi := i.isLt
      have cp : w.cell? ⟨n.bp, n.op + i.val, none⟩ = some (.int .i64 (p.val : Int)) := by rw [hn.p i.val hi, hpe]
      have i0 : (0 : Int) ≤ (i.val : Int) := by omega
      have i1 : (i.val : Int) < (n.m : Int) := by omega
      have iz : ¬ (i.val : Int) = 0 := by omega
      have izb : ((i.val : Int) == 0) = false := beq_eq_false_iff_ne.2 iz
      have HN := Lib.hid hn
      clear hn
      go_enter Try.func29, Try.ntmps29
      rw [n.lit]
      go_upto_region 3 with fail
      refine wp_world ?_
      intro V hV
      have HM := Lib.hid (show Holds V w.heap.size n.vs by subst hV; exact holds_alloc w n.vs 32 rfl)
      have HV := Lib.hid (show Below w.heap.size w V by subst hV; exact below_alloc (Below.refl _ _) _)
      clear hV
      have m1 : V.cell? ⟨w.heap.size, 1, none⟩ = some (.slice (some ⟨n.bp, n.op, none⟩) n.m n.kp) := HM.out 1 _ rfl
      have m4 : V.cell? ⟨w.heap.size, 4, none⟩ = some (.int .i64 n.ga) := HM.out 4 _ rfl
      have vp := below_keep HV.out cp
      have NV := Lib.hid (HN.out.keep HV.out)
      have r1 := fun p : Regrown => cell_regrown m1 p.d p.os
      have r4 := fun p : Regrown => cell_regrown m4 p.d p.os
      have rp' := fun p : Regrown => cell_regrown vp p.d p.os
      refine wp_region_quiet_below (by kernel_rfl) (by kernel_rfl) ?_
      repeat (first | ((with_reducible refine at_qload 32 (.tmp 2) ?_); refine wpQuiet_load_whole rfl (.tmp 2) 32 rfl w.heap.size 0 n.vs rfl ha.out hs.out (holds_regrown HM.out) ?_; simp only [Act.put, List.setIfInBounds_toArray, List.set_cons_succ, List.set_cons_zero]) | go_big_quiet_step (first | with_reducible exact Calls.regrown_of (HD.out _) | with_reducible exact Calls.regrown_of (HK.out _) | with_reducible exact Calls.regrown_of (IH.out _ (NV.out.keep (below_regrown _ _ _)))))
      refine wpQuiet_nil ?_
      intro w6 hw
      have b6 : Below V.heap.size V w6 := by obtain ⟨p, rfl⟩ := hw; exact below_regrown _ _ _
      have H6 := Lib.hid (below_step HV.out b6)
      go_wp2
      go_ret
      exact ⟨rfl, H6.out⟩

set_option maxHeartbeats 8000000 in
set_option maxRecDepth 100000 in
theorem arrivesRef_any (n : Nt) (hb : n.Bd) (par : Fin n.m → Fin n.m) (hp : n.Par par) : ∀ (k : Nat) (i : Fin n.m), i.val = k → 0 < i.val → ∀ (w : World), n.In w →
    Calls Try.prog 27 #[.agg n.vs.toArray, .int .i64 (i.val : Int)] w fun e w' => e = .returned (.int .i64 (errV n par i)) ∧ Below w.heap.size w w' := by
  intro k
  induction k using Nat.strongRecOn with
  | ind k ih =>
    intro i hk h0 w hn
    have ha := Lib.hid (show ∀ w, (isAgg 32).run Try.prog w = .ok true w from fun w => by kernel_rfl)
    have hs := Lib.hid (show ∀ w, (sizeOf 32).run Try.prog w = .ok n.vs.length w from fun w => by kernel_rfl)
    have hl := hp.lt i h0
    obtain ⟨p, hpp⟩ : ∃ p, par i = p := ⟨_, rfl⟩
    have IH := Lib.hid (show p.val ≠ 0 → ∀ W, n.In W → Calls Try.prog 27 #[.agg n.vs.toArray, .int .i64 (p.val : Int)] W fun e w' => e = .returned (.int .i64 (errV n par p)) ∧ Below W.heap.size W w' from fun hz W h => by
      subst hpp
      exact ih (par i).val (by omega) (par i) rfl (by omega) W h)
    have hsy1 := hb.sy1
    have hsy0 := hb.sy0
    have HD := Lib.hid (fun W => gainRef_any (x := n.sy) hsy0 (by omega) W)
    have HRi := Lib.hid (fun W (h : n.In W) => rhoRef_any n hb par hp i.val i rfl W h)
    have HRp := Lib.hid (fun W (h : n.In W) => rhoRef_any n hb par hp p.val p rfl W h)
    have HDB := Lib.hid (show ∀ W, Calls Try.prog 46 #[.int .i64 200000, .int .i64 (n.de i.val), .int .i64 n.tu] W fun e w' => e = .returned (.int .i64 (dbV 200000 (n.de i.val) n.tu)) ∧ Below W.heap.size W w' from fun W => toBelow (delayBoundRef_any 200000 (n.de i.val) n.tu (db_ok hb i.isLt) W))
    obtain ⟨s0, s1⟩ := stay_bd hb
    obtain ⟨t0, t1⟩ := db_bd hb i.isLt
    obtain ⟨r0, r1⟩ := rho_bd hb hp i
    obtain ⟨q0, q1⟩ := rho_bd hb hp p
    have d0 := hb.de0 i.val i.isLt
    have d1 := hb.de1 i.val i.isLt
    have hse : 0 ≤ sentV n par (errV n par p) i ∧ sentV n par (errV n par p) i ≤ 40000 := by
      unfold sentV
      rw [hpp]
      by_cases hz : p.val = 0
      · rw [if_pos hz]; omega
      · rw [if_neg hz]
        obtain ⟨e0, e1⟩ := err_bd hb hp p.val p rfl (by omega)
        obtain ⟨b0, b1⟩ := bound_le e0 e1 s0 s1 q0 q1
        have := p.isLt; have := hb.m12
        omega
    have HPB := Lib.hid (show ∀ W, Calls Try.prog 45 #[.int .i64 (sentV n par (errV n par p) i), .int .i64 (dbV 200000 (n.de i.val) n.tu), .int .i64 (n.de i.val), .int .i64 (rhoV n par i)] W fun e w' => e = .returned (.int .i64 (pbV (sentV n par (errV n par p) i) (dbV 200000 (n.de i.val) n.tu) (n.de i.val) (rhoV n par i))) ∧ Below W.heap.size W w' from fun W => toBelow (rBound_any _ _ _ _ ⟨⟨hse.1, by omega⟩, ⟨t0, by omega⟩, ⟨d0, by omega⟩, ⟨r0, by omega⟩⟩ W))
    have HSB := Lib.hid (show p.val ≠ 0 → ∀ W, Calls Try.prog 26 #[.int .i64 (errV n par p), .int .i64 (n.sy + drV n.sy), .int .i64 (rhoV n par p)] W fun y w' => y = .returned (.int .i64 (sentV n par (errV n par p) i)) ∧ Below W.heap.size W w' from fun hz W => by
      obtain ⟨e0, e1⟩ := err_bd hb hp p.val p rfl (by omega)
      have hm := p.isLt; have hm' := hb.m12
      rw [show sentV n par (errV n par p) i = boundV (errV n par p) (n.sy + drV n.sy) (rhoV n par p) by unfold sentV; rw [hpp, if_neg hz]]
      exact toBelow (boundRef_any (errV n par p) (n.sy + drV n.sy) (rhoV n par p) ⟨e0, by omega, s0, by omega, q0, by omega⟩ W))
    have hst : errV n par i = pbV (sentV n par (errV n par p) i) (dbV 200000 (n.de i.val) n.tu) (n.de i.val) (rhoV n par i) := by rw [errV_step hp h0, hpp]
    have hz0 : p.val = 0 → sentV n par (errV n par p) i = 0 := fun hz => by unfold sentV; rw [hpp, if_pos hz]
    have hpe : n.pa i.val = (p.val : Int) := by rw [hp.eq i h0, hpp]
    rw [hst]
    clear hst hpp hl ih hse t0 t1 r0 r1 q0 q1 hb hp hk s0 s1
    generalize pbV (sentV n par (errV n par p) i) (dbV 200000 (n.de i.val) n.tu) (n.de i.val) (rhoV n par i) = res at *
    generalize sentV n par (errV n par p) i = sv at *
    generalize errV n par p = ev at *
    generalize rhoV n par i = ri at *
    generalize rhoV n par p = rp at *
    generalize dbV 200000 (n.de i.val) n.tu = tv at *
    generalize n.sy + drV n.sy = dv at *
    have hi := i.isLt
    have cp : w.cell? ⟨n.bp, n.op + i.val, none⟩ = some (.int .i64 (p.val : Int)) := by rw [hn.p i.val hi, hpe]
    have cd : w.cell? ⟨n.bd, n.od + i.val, none⟩ = some (.int .i64 (n.de i.val)) := hn.d i.val hi
    have i0 : (0 : Int) ≤ (i.val : Int) := by omega
    have i1 : (i.val : Int) < (n.m : Int) := by omega
    have HN := Lib.hid hn
    clear hn
    go_enter Try.func27, Try.ntmps27
    rw [n.lit]
    go_upto_region 1 with fail
    refine wp_world ?_
    intro V hV
    have HM := Lib.hid (show Holds V w.heap.size n.vs by subst hV; exact holds_alloc w n.vs 32 rfl)
    have HV := Lib.hid (show Below w.heap.size w V by subst hV; exact below_alloc (Below.refl _ _) _)
    clear hV
    have m1 : V.cell? ⟨w.heap.size, 1, none⟩ = some (.slice (some ⟨n.bp, n.op, none⟩) n.m n.kp) := HM.out 1 _ rfl
    have vp := below_keep HV.out cp
    go_upto_region 2 with fail
    go_cut [6] (fun s6 wx => s6 = .int .i64 0 ∧ wx = V)
    case first =>
      go_wp2
      go_meet
      exact ⟨rfl, rfl⟩
    case rest =>
    obtain ⟨rfl, hwc⟩ := hcut
    rw [hwc]
    clear hwc wc
    rename_i K' hK'
    refine hK' _ _ ?_
    clear hK' K'
    apply wp_seq_k
    intro K1 hK1
    go_cut [5, 6] (fun s5 s6 wx => s5 = .int .i64 (p.val : Int) ∧ s6 = .int .i64 sv ∧ Holds wx w.heap.size n.vs ∧ Below w.heap.size w wx)
    case first =>
      by_cases hz : p.val = 0
      · have hzi : (p.val : Int) = 0 := by omega
        rw [hzi]
        go_wp2
        go_meet
        exact ⟨by rw [hzi], by rw [hz0 hz], HM.out, HV.out⟩
      · have hzi : ¬ (p.val : Int) = 0 := by omega
        have m7 : V.cell? ⟨w.heap.size, 7, none⟩ = some (.int .i64 n.sy) := HM.out 7 _ rfl
        have NV := Lib.hid (HN.out.keep HV.out)
        have r7 := fun p : Regrown => cell_regrown m7 p.d p.os
        go_upto_region 4 with fail
        refine wp_region_quiet_below (by kernel_rfl) (by kernel_rfl) ?_
        repeat (first | ((with_reducible refine at_qload 32 (.tmp 2) ?_); refine wpQuiet_load_whole rfl (.tmp 2) 32 rfl w.heap.size 0 n.vs rfl ha.out hs.out (holds_regrown HM.out) ?_; simp only [Act.put, List.setIfInBounds_toArray, List.set_cons_succ, List.set_cons_zero]) | go_big_quiet_step (first | with_reducible exact Calls.regrown_of (HD.out _) | with_reducible exact Calls.regrown_of (HRp.out _ (NV.out.keep (below_regrown _ _ _))) | with_reducible exact Calls.regrown_of (IH.out hz _ (NV.out.keep (below_regrown _ _ _))) | with_reducible exact Calls.regrown_of (HSB.out hz _)))
        refine wpQuiet_nil ?_
        intro w6 hw
        have b6 : Below V.heap.size V w6 := by obtain ⟨p, rfl⟩ := hw; exact below_regrown _ _ _
        have M6 := Lib.hid (HM.out.keep b6)
        have H6 := Lib.hid (below_step HV.out b6)
        clear hw b6 r7 m7
        go_wp2
        go_meet
        exact ⟨rfl, rfl, M6.out, H6.out⟩
    case rest =>
      obtain ⟨rfl, rfl, hM, hB⟩ := hcut
      have M5 := Lib.hid hM
      have H5 := Lib.hid hB
      have N5 := Lib.hid (HN.out.keep hB)
      have v2 : wc.cell? ⟨w.heap.size, 2, none⟩ = some (.slice (some ⟨n.bd, n.od, none⟩) n.m n.kd) := hM 2 _ rfl
      have v3 : wc.cell? ⟨w.heap.size, 3, none⟩ = some (.int .i64 n.tu) := hM 3 _ rfl
      have vd := below_keep hB cd
      clear hM hB HM HV IH HSB HRp HD hz0
      refine hK1 _ _ ?_
      clear hK1 K1
      have r2 := fun p : Regrown => cell_regrown v2 p.d p.os
      have r3 := fun p : Regrown => cell_regrown v3 p.d p.os
      have rd := fun p : Regrown => cell_regrown vd p.d p.os
      go_upto_region 5 with fail
      refine wp_region_quiet_below (by kernel_rfl) (by kernel_rfl) ?_
      repeat (first | ((with_reducible refine at_qload 32 (.tmp 2) ?_); refine wpQuiet_load_whole rfl (.tmp 2) 32 rfl w.heap.size 0 n.vs rfl ha.out hs.out (holds_regrown M5.out) ?_; simp only [Act.put, List.setIfInBounds_toArray, List.set_cons_succ, List.set_cons_zero]) | go_big_quiet_step (first | with_reducible exact Calls.regrown_of (HDB.out _) | with_reducible exact Calls.regrown_of (HRi.out _ (N5.out.keep (below_regrown _ _ _))) | with_reducible exact Calls.regrown_of (HPB.out _)))
      refine wpQuiet_nil ?_
      intro w7 hw
      have b7 : Below wc.heap.size wc w7 := by obtain ⟨p, rfl⟩ := hw; exact below_regrown _ _ _
      have H7 := Lib.hid (below_step H5.out b7)
      go_wp2
      go_ret
      exact ⟨rfl, H7.out⟩

set_option maxHeartbeats 8000000 in
set_option maxRecDepth 100000 in
theorem bound15Ref_any (n : Nt) (hb : n.Bd) (par : Fin n.m → Fin n.m) (hp : n.Par par) (j : Fin n.m) (j0 : 0 < j.val) (mi : Int) (a1 : 0 ≤ mi) (a2 : (mi + 1) * n.iv ≤ 1099511627776) (w : World) (hn : n.In w) :
    Calls Try.prog 10 #[.agg n.vs.toArray, .int .i64 (j.val : Int), .int .i64 mi] w fun y w' => y = .returned (.int .i64 (boundV (errV n par j) ((mi + 1) * n.iv + drV ((mi + 1) * n.iv)) (rhoV n par j))) ∧ Below w.heap.size w w' := by
  have ha := Lib.hid (show ∀ w, (isAgg 32).run Try.prog w = .ok true w from fun w => by kernel_rfl)
  have hs := Lib.hid (show ∀ w, (sizeOf 32).run Try.prog w = .ok n.vs.length w from fun w => by kernel_rfl)
  have hv0 := hb.iv0
  have hv1 := hb.iv1
  have x0 : 0 ≤ (mi + 1) * n.iv := Int.mul_nonneg (by omega) (by omega)
  have hmi : mi + 1 ≤ 1099511627776 := by
    have : (mi + 1) * 1 ≤ (mi + 1) * n.iv := Int.mul_le_mul_of_nonneg_left hv0 (by omega)
    omega
  obtain ⟨-, d0, d1⟩ := drV_bd x0 a2
  obtain ⟨e0, e1⟩ := err_bd hb hp j.val j rfl j0
  obtain ⟨q0, q1⟩ := rho_bd hb hp j
  have jm := j.isLt
  have hm := hb.m12
  have HG := Lib.hid (fun W => gainRef_any x0 a2 W)
  have HSB := Lib.hid (show ∀ W, Calls Try.prog 26 #[.int .i64 (errV n par j), .int .i64 ((mi + 1) * n.iv + drV ((mi + 1) * n.iv)), .int .i64 (rhoV n par j)] W fun y w' => y = .returned (.int .i64 (boundV (errV n par j) ((mi + 1) * n.iv + drV ((mi + 1) * n.iv)) (rhoV n par j))) ∧ Below W.heap.size W w' from fun W => toBelow (boundRef_any _ _ _ ⟨e0, by omega, by omega, by omega, q0, by omega⟩ W))
  have HA := Lib.hid (fun W (hW : n.In W) => arrivesRef_any n hb par hp j.val j rfl j0 W hW)
  have HR := Lib.hid (fun W (hW : n.In W) => rhoRef_any n hb par hp j.val j rfl W hW)
  generalize boundV (errV n par j) ((mi + 1) * n.iv + drV ((mi + 1) * n.iv)) (rhoV n par j) = res at *
  generalize errV n par j = ev at *
  generalize rhoV n par j = rv at *
  have hwx : IntKind.i64.wrap ((mi + 1) * n.iv) = (mi + 1) * n.iv := by
    generalize (mi + 1) * n.iv = x at *
    simp [IntKind.wrap, IntKind.signed, IntKind.bits]
    omega
  have hwm : IntKind.i64.wrap (mi + 1) = mi + 1 := by
    simp [IntKind.wrap, IntKind.signed, IntKind.bits]
    omega
  have HN := Lib.hid hn
  clear hn e0 e1 q0 q1
  go_enter Try.func10, Try.ntmps10
  rw [n.lit]
  go_upto_region 1 with fail
  refine wp_world ?_
  intro V hV
  have HM := Lib.hid (show Holds V w.heap.size n.vs by subst hV; exact holds_alloc w n.vs 32 rfl)
  have HV := Lib.hid (show Below w.heap.size w V by subst hV; exact below_alloc (Below.refl _ _) _)
  clear hV
  have NV := Lib.hid (HN.out.keep HV.out)
  have m6 : V.cell? ⟨w.heap.size, 6, none⟩ = some (.int .i64 n.iv) := HM.out 6 _ rfl
  have r6 := fun p : Regrown => cell_regrown m6 p.d p.os
  refine wp_region_quiet_below (by kernel_rfl) (by kernel_rfl) ?_
  repeat (first | ((with_reducible refine at_qload 32 (.tmp 3) ?_); refine wpQuiet_load_whole rfl (.tmp 3) 32 rfl w.heap.size 0 n.vs rfl ha.out hs.out (holds_regrown HM.out) ?_; simp only [Act.put, List.setIfInBounds_toArray, List.set_cons_succ, List.set_cons_zero]) | go_big_quiet_step (first | with_reducible exact Calls.regrown_of (HG.out _) | with_reducible exact Calls.regrown_of (HA.out _ (NV.out.keep (below_regrown _ _ _))) | with_reducible exact Calls.regrown_of (HR.out _ (NV.out.keep (below_regrown _ _ _))) | with_reducible exact Calls.regrown_of (HSB.out _)))
  refine wpQuiet_nil ?_
  intro w6 hw
  have b6 : Below V.heap.size V w6 := by obtain ⟨p, rfl⟩ := hw; exact below_regrown _ _ _
  have H6 := Lib.hid (below_step HV.out b6)
  go_wp2
  go_ret
  exact ⟨rfl, H6.out⟩

end Go.Proofs.Ytkencmijghigiaa
