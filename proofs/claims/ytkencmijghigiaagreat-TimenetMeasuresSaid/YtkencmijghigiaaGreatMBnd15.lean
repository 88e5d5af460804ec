/-
  (tree).bound: the bound of the error at a node. No conditions.
-/
import Derived.Test.YtkencmijghigiaaGreatMRhs
import Derived.Test.YtkencmijghigiaaGreatMSrv
import Derived.Test.YtkencmijghigiaaGreatMPat
import Derived.Test.YtkencmijghigiaaGreatMBase
namespace Go.Proofs.YtkencmijghigiaaGreat
open Go.RowKit Go.Lib Go.Shelf Plain

theorem sp_ok {d u : Int} (h : Spn 0 d u) : SpOk (dbz d u) 3 := (dbz_iff d u).2 h
theorem dbound_n {n : Nt} (hb : n.Bd) {j : Nat} (hj : j < n.m) (W : World) : Calls Tryz.prog 68 #[.int .i64 200000, .int .i64 (n.de j), .int .i64 n.tu] W fun e w' => e = .returned (.tuple #[.int .i64 (dbV 200000 (n.de j) n.tu), .int .i64 0]) ∧ Below W.heap.size W w' := by
  have h := db_ok hb hj
  have hc := delayBound_any 200000 (n.de j) n.tu W
  rw [show dblV 200000 (n.de j) n.tu = dbV 200000 (n.de j) n.tu from if_pos h, show dblE 200000 (n.de j) n.tu = 0 from if_pos h] at hc
  exact hc
theorem pbound_n {e t d r : Int} (h : PbOk e t d r) (W : World) : Calls Tryz.prog 69 #[.int .i64 e, .int .i64 t, .int .i64 d, .int .i64 r] W fun y w' => y = .returned (.tuple #[.int .i64 (pbV e t d r), .int .i64 0]) ∧ Below W.heap.size W w' := by
  have hc := pBound_any e t d r W
  rw [show pblV e t d r = pbV e t d r from if_pos h, show pblE e t d r = 0 from if_pos h] at hc
  exact hc

set_option maxHeartbeats 8000000 in
set_option maxRecDepth 100000 in
theorem bound_any (n : Nt) (hb : n.Bd) (par : Fin n.m → Fin n.m) (hp : n.Par par) : ∀ (k : Nat) (i : Fin n.m), i.val = k → 0 < i.val → ∀ (w : World), n.In w →
    Calls Tryz.prog 39 #[.agg n.vs.toArray, .int .i64 (i.val : Int)] w fun e w' => e = .returned (.tuple #[.int .i64 (errV n par i), .int .i64 0]) ∧ Below w.heap.size w w' := by
  intro k
  induction k using Nat.strongRecOn with
  | ind k ih =>
    intro i hk h0 w hn
    have ha := Lib.hid (show ∀ w, (isAgg 67).run Tryz.prog w = .ok true w from fun w => by kernel_rfl)
    have hs := Lib.hid (show ∀ w, (sizeOf 67).run Tryz.prog w = .ok n.vs.length w from fun w => by kernel_rfl)
    have hl := hp.lt i h0
    obtain ⟨p, hpp⟩ : ∃ p, par i = p := ⟨_, rfl⟩
    have IH := Lib.hid (show p.val ≠ 0 → ∀ W, n.In W → Calls Tryz.prog 39 #[.agg n.vs.toArray, .int .i64 (p.val : Int)] W fun e w' => e = .returned (.tuple #[.int .i64 (errV n par p), .int .i64 0]) ∧ Below W.heap.size W w' from fun hz W h => by
      subst hpp
      exact ih (par i).val (by omega) (par i) rfl (by omega) W h)
    have HD := Lib.hid (fun W => drift_any n.sy W)
    have HRi := Lib.hid (fun W (h : n.In W) => rho_any n hb par hp i W h)
    have HRp := Lib.hid (fun W (h : n.In W) => rho_any n hb par hp p W h)
    have HDB := Lib.hid (fun W => dbound_n hb i.isLt W)
    obtain ⟨s0, s1⟩ := stay_bd hb
    obtain ⟨t0, t1⟩ := db_bd hb i.isLt
    obtain ⟨r0, r1⟩ := rho_bd hb hp i
    obtain ⟨q0, q1⟩ := rho_bd hb hp p
    have d0 := hb.de0 i.val i.isLt
    have d1 := hb.de1 i.val i.isLt
    have hse : 0 ≤ sentV n par (errV n par p) i ∧ sentV n par (errV n par p) i ≤ 40000 := by
      unfold sentV
      rw [hpp]
      by_cases hz : p.val = 0
      · rw [if_pos hz]; omega
      · rw [if_neg hz]
        obtain ⟨e0, e1⟩ := err_bd hb hp p.val p rfl (by omega)
        obtain ⟨b0, b1⟩ := bound_le e0 e1 s0 s1 q0 q1
        have := p.isLt; have := hb.m12
        omega
    have HPB := Lib.hid (fun W => pbound_n (e := sentV n par (errV n par p) i) (t := dbV 200000 (n.de i.val) n.tu) (d := n.de i.val) (r := rhoV n par i) ⟨⟨hse.1, by omega⟩, ⟨t0, by omega⟩, ⟨d0, by omega⟩, ⟨r0, by omega⟩⟩ W)
    have HSB := Lib.hid (show p.val ≠ 0 → ∀ W, Calls Tryz.prog 40 #[.int .i64 (errV n par p), .int .i64 (n.sy + drV n.sy), .int .i64 (rhoV n par p)] W fun y w' => y = .returned (.tuple #[.int .i64 (sentV n par (errV n par p) i), .int .i64 0]) ∧ Below W.heap.size W w' from fun hz W => by
      obtain ⟨e0, e1⟩ := err_bd hb hp p.val p rfl (by omega)
      have hm := p.isLt; have hm' := hb.m12
      have hc := bound_ok (errV n par p) (n.sy + drV n.sy) (rhoV n par p) ⟨e0, by omega, s0, by omega, q0, by omega⟩ W
      rw [show sentV n par (errV n par p) i = boundV (errV n par p) (n.sy + drV n.sy) (rhoV n par p) by unfold sentV; rw [hpp, if_neg hz]]
      exact hc)
    have hst : errV n par i = pbV (sentV n par (errV n par p) i) (dbV 200000 (n.de i.val) n.tu) (n.de i.val) (rhoV n par i) := by rw [errV_step hp h0, hpp]
    have hz0 : p.val = 0 → sentV n par (errV n par p) i = 0 := fun hz => by unfold sentV; rw [hpp, if_pos hz]
    have hpe : n.pa i.val = (p.val : Int) := by rw [hp.eq i h0, hpp]
    have hsy1 := hb.sy1
    have hsy0 := hb.sy0
    obtain ⟨-, dr0, dr1⟩ := drV_bd (x := n.sy) hsy0 (by omega)
    rw [hst]
    clear hst hpp hl ih hse t0 t1 r0 r1 q0 q1 hb hp hk s0 s1
    generalize pbV (sentV n par (errV n par p) i) (dbV 200000 (n.de i.val) n.tu) (n.de i.val) (rhoV n par i) = res at *
    generalize sentV n par (errV n par p) i = sv at *
    generalize errV n par p = ev at *
    generalize rhoV n par i = ri at *
    generalize rhoV n par p = rp at *
    generalize dbV 200000 (n.de i.val) n.tu = tv at *
    generalize drV n.sy = dv at *
    have hi := i.isLt
    have cp : w.cell? ⟨n.bp, n.op + i.val, none⟩ = some (.int .i64 (p.val : Int)) := by rw [hn.p i.val hi, hpe]
    have cd : w.cell? ⟨n.bd, n.od + i.val, none⟩ = some (.int .i64 (n.de i.val)) := hn.d i.val hi
    have lp := hn.lp
    have ld := hn.ld
    have i0 : (0 : Int) ≤ (i.val : Int) := by omega
    have i1 : (i.val : Int) < (n.m : Int) := by omega
    have HN := Lib.hid hn
    clear hn
    go_enter Tryz.func39, Tryz.ntmps39
    rw [n.lit]
    go_upto_region 1 with fail
    refine wp_world ?_
    intro V hV
    have HM := Lib.hid (show Holds V w.heap.size n.vs by subst hV; exact holds_alloc w n.vs 67 rfl)
    have HV := Lib.hid (show Below w.heap.size w V by subst hV; exact below_alloc (Below.refl _ _) _)
    clear hV
    go_cut [6] (fun s6 wx => s6 = .int .i64 0 ∧ wx = V)
    case first =>
      go_wp2
      go_meet
      exact ⟨rfl, rfl⟩
    case rest =>
      obtain ⟨rfl, hwc⟩ := hcut
      rw [hwc]
      clear hwc wc
      rename_i K' hK'
      refine hK' _ _ ?_
      clear hK' K'
      apply wp_seq_k
      intro K1 hK1
      go_cut [6] (fun s6 wx => s6 = .int .i64 sv ∧ Holds wx w.heap.size n.vs ∧ Below w.heap.size w wx)
      case first =>
        have m1 : V.cell? ⟨w.heap.size, 1, none⟩ = some (.slice (some ⟨n.bp, n.op, none⟩) n.m n.kp) := HM.out 1 _ rfl
        have vp := below_keep HV.out cp
        by_cases hz : p.val = 0
        · have hzi : (p.val : Int) = 0 := by omega
          rw [hzi] at vp
          go_wp2
          go_meet
          exact ⟨by rw [hz0 hz], HM.out, HV.out⟩
        · have hzi : ¬ (p.val : Int) = 0 := by omega
          go_wp2_with ((with_reducible refine at_load 67 (.tmp 2) ?_); refine wpList_load_whole rfl (.tmp 2) 67 rfl w.heap.size 0 n.vs rfl ha.out hs.out HM.out ?_; simp only [Act.put, List.setIfInBounds_toArray, List.set_cons_succ, List.set_cons_zero])
          refine (IH.out hz _ (HN.out.keep HV.out)).mono ?_
          rintro y w5 ⟨rfl, hb5⟩
          have M5 := Lib.hid (HM.out.keep hb5)
          have H5 := Lib.hid (below_step HV.out hb5)
          have N5 := Lib.hid (HN.out.keep H5.out)
          have m7 : w5.cell? ⟨w.heap.size, 7, none⟩ = some (.int .i64 n.sy) := M5.out 7 _ rfl
          clear hb5 HM HV m1 vp
          have hw1 : IntKind.i64.wrap (n.sy + dv) = n.sy + dv := by simp [IntKind.wrap, IntKind.signed, IntKind.bits]; omega
          have r7 := fun p : Regrown => cell_regrown m7 p.d p.os
          go_upto_region 7 with fail
          refine wp_region_quiet_below (by kernel_rfl) (by kernel_rfl) ?_
          repeat (first | ((with_reducible refine at_qload 67 (.tmp 2) ?_); refine wpQuiet_load_whole rfl (.tmp 2) 67 rfl w.heap.size 0 n.vs rfl ha.out hs.out (holds_regrown M5.out) ?_; simp only [Act.put, List.setIfInBounds_toArray, List.set_cons_succ, List.set_cons_zero]) | go_big_quiet_step (first | with_reducible exact Calls.regrown_of (HD.out _) | with_reducible exact Calls.regrown_of (HRp.out _ (N5.out.keep (below_regrown _ _ _))) | with_reducible exact Calls.regrown_of (HSB.out hz _)))
          refine wpQuiet_nil ?_
          intro w6 hw
          have b6 : Below w5.heap.size w5 w6 := by obtain ⟨p, rfl⟩ := hw; exact below_regrown _ _ _
          have M6 := Lib.hid (M5.out.keep b6)
          have H6 := Lib.hid (below_step H5.out b6)
          clear hw b6 r7 m7
          go_wp2
          go_meet
          exact ⟨rfl, M6.out, H6.out⟩
      case rest =>
        obtain ⟨rfl, hM, hB⟩ := hcut
        have M5 := Lib.hid hM
        have H5 := Lib.hid hB
        have N5 := Lib.hid (HN.out.keep hB)
        have v2 : wc.cell? ⟨w.heap.size, 2, none⟩ = some (.slice (some ⟨n.bd, n.od, none⟩) n.m n.kd) := hM 2 _ rfl
        have v3 : wc.cell? ⟨w.heap.size, 3, none⟩ = some (.int .i64 n.tu) := hM 3 _ rfl
        have vd := below_keep hB cd
        clear hM hB HM HV IH HSB HRp HD hz0
        refine hK1 _ _ ?_
        clear hK1 K1
        have r2 := fun p : Regrown => cell_regrown v2 p.d p.os
        have r3 := fun p : Regrown => cell_regrown v3 p.d p.os
        have rd := fun p : Regrown => cell_regrown vd p.d p.os
        go_upto_region 10 with fail
        refine wp_region_quiet_below (by kernel_rfl) (by kernel_rfl) ?_
        repeat (go_big_quiet_step (with_reducible exact Calls.regrown_of (HDB.out _)))
        refine wpQuiet_nil ?_
        intro w6 hw
        have b6 : Below wc.heap.size wc w6 := by obtain ⟨p, rfl⟩ := hw; exact below_regrown _ _ _
        have M6 := Lib.hid (M5.out.keep b6)
        have N6 := Lib.hid (N5.out.keep b6)
        have H6 := Lib.hid (below_step H5.out b6)
        have x2 := below_keep b6 v2
        have xd := below_keep b6 vd
        clear hw b6 r2 r3 rd v2 v3 vd M5 N5 H5 HDB
        go_upto_region 13 with fail
        have r2 := fun p : Regrown => cell_regrown x2 p.d p.os
        have rd := fun p : Regrown => cell_regrown xd p.d p.os
        refine wp_region_quiet_below (by kernel_rfl) (by kernel_rfl) ?_
        repeat (first | ((with_reducible refine at_qload 67 (.tmp 2) ?_); refine wpQuiet_load_whole rfl (.tmp 2) 67 rfl w.heap.size 0 n.vs rfl ha.out hs.out (holds_regrown M6.out) ?_; simp only [Act.put, List.setIfInBounds_toArray, List.set_cons_succ, List.set_cons_zero]) | go_big_quiet_step (first | with_reducible exact Calls.regrown_of (HRi.out _ (N6.out.keep (below_regrown _ _ _))) | with_reducible exact Calls.regrown_of (HPB.out _)))
        refine wpQuiet_nil ?_
        intro w7 hw
        have b7 : Below w6.heap.size w6 w7 := by obtain ⟨p, rfl⟩ := hw; exact below_regrown _ _ _
        have H7 := Lib.hid (below_step H6.out b7)
        go_wp2
        go_ret2
        exact ⟨rfl, H7.out⟩

end Go.Proofs.YtkencmijghigiaaGreat
