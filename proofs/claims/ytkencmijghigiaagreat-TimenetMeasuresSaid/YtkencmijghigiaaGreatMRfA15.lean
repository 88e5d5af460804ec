/-
  The reference's Arrival, Numbered and Right. No conditions.
-/
import Derived.Lib.QuietBelow
import Derived.BigQuiet
import Derived.IntWalk
import Derived.Test.YtkencmijghigiaaGreatMTms
import Derived.Test.YtkencmijghigiaaGreatMRfs
namespace Go.Proofs.YtkencmijghigiaaGreat
open Go.RowKit Go.Lib Go.Shelf Plain

theorem in15_any (n l t : Int) (w : World) : Calls Tryz.prog 23 #[.int .i64 n, .int .i64 l, .int .i64 t] w fun e w' => e = .returned (.bool (decide (l ≤ n ∧ n ≤ t))) ∧ w = w' := by
  by_cases h1 : l ≤ n
  · by_cases h2 : n ≤ t
    · rw [decide_eq_true (show l ≤ n ∧ n ≤ t from ⟨h1, h2⟩)]
      go_enter Tryz.func23, Tryz.ntmps23
      go_wp2
      go_ret
      exact ⟨rfl, rfl⟩
    · rw [decide_eq_false (show ¬ (l ≤ n ∧ n ≤ t) from fun h => h2 h.2)]
      go_enter Tryz.func23, Tryz.ntmps23
      go_wp2
      go_ret
      exact ⟨rfl, rfl⟩
  · rw [decide_eq_false (show ¬ (l ≤ n ∧ n ≤ t) from fun h => h1 h.1)]
    go_enter Tryz.func23, Tryz.ntmps23
    go_wp2
    go_ret
    exact ⟨rfl, rfl⟩

set_option maxHeartbeats 8000000 in
set_option maxRecDepth 100000 in
theorem arrRef_any (n : Nt) (hb : n.Bd) (par : Fin n.m → Fin n.m) (hp : n.Par par) (k : Int) (k0 : 0 ≤ k) (k1 : k * n.iv ≤ 1099511627776) : ∀ (v : Nat) (i : Fin n.m), i.val = v → 0 < i.val → ∀ (w : World), n.In w →
    Calls Tryz.prog 14 #[.agg n.vs.toArray, .int .i64 (i.val : Int), .int .i64 k] w fun e w' => e = .returned (.int .i64 (arrV n par i k)) ∧ Below w.heap.size w w' := by
  intro v
  induction v using Nat.strongRecOn with
  | ind v ih =>
    intro i hv h0 w hn
    have ha := Lib.hid (show ∀ w, (isAgg 25).run Tryz.prog w = .ok true w from fun w => by kernel_rfl)
    have hs := Lib.hid (show ∀ w, (sizeOf 25).run Tryz.prog w = .ok n.vs.length w from fun w => by kernel_rfl)
    have hl := hp.lt i h0
    obtain ⟨p, hpp⟩ : ∃ p, par i = p := ⟨_, rfl⟩
    have hfs := firstV_step hp h0
    rw [hpp] at hfs
    obtain ⟨f0, f1⟩ := first_bd hb hp i
    obtain ⟨g0, g1⟩ := first_bd hb hp p
    have hv0 := hb.iv0
    have hv1 := hb.iv1
    have hst0 := hb.st0
    have hst1 := hb.st1
    have hga := hb.ga0
    have htu := hb.tu0
    have hsy0 := hb.sy0
    have hsy1 := hb.sy1
    have d0 := hb.de0 i.val i.isLt
    have d1 := hb.de1 i.val i.isLt
    have hm0 : 0 ≤ k * n.iv := Int.mul_nonneg k0 (by omega)
    have IH := Lib.hid (show p.val ≠ 0 → ∀ W, n.In W → Calls Tryz.prog 14 #[.agg n.vs.toArray, .int .i64 (p.val : Int), .int .i64 k] W fun e w' => e = .returned (.int .i64 (firstV n par p + k * n.iv)) ∧ Below W.heap.size W w' from fun hz W h => by
      subst hpp
      exact ih (par i).val (by omega) (par i) rfl (by omega) W h)
    have hz0 : p.val = 0 → firstV n par i = n.st + n.de i.val := fun hz => by rw [hfs, firstV_zero hz]; omega
    have hpe : n.pa i.val = (p.val : Int) := by rw [hp.eq i h0, hpp]
    have hi := i.isLt
    have cp : w.cell? ⟨n.bp, n.op + i.val, none⟩ = some (.int .i64 (p.val : Int)) := by rw [hn.p i.val hi, hpe]
    have cd : w.cell? ⟨n.bd, n.od + i.val, none⟩ = some (.int .i64 (n.de i.val)) := hn.d i.val hi
    have i0 : (0 : Int) ≤ (i.val : Int) := by omega
    have i1 : (i.val : Int) < (n.m : Int) := by omega
    have HN := Lib.hid hn
    unfold arrV
    clear hn ih hpp hl hv hb hp hpe
    have hwk : IntKind.i64.wrap (k * n.iv) = k * n.iv := IntWalk.i64_in _ (by omega)
    go_enter Tryz.func14, Tryz.ntmps14
    rw [n.lit]
    go_upto_region 1 with fail
    refine wp_world ?_
    intro V hV
    have HM := Lib.hid (show Holds V w.heap.size n.vs by subst hV; exact holds_alloc w n.vs 25 rfl)
    have HV := Lib.hid (show Below w.heap.size w V by subst hV; exact below_alloc (Below.refl _ _) _)
    clear hV
    have m1 : V.cell? ⟨w.heap.size, 1, none⟩ = some (.slice (some ⟨n.bp, n.op, none⟩) n.m n.kp) := HM.out 1 _ rfl
    have m2 : V.cell? ⟨w.heap.size, 2, none⟩ = some (.slice (some ⟨n.bd, n.od, none⟩) n.m n.kd) := HM.out 2 _ rfl
    have m5 : V.cell? ⟨w.heap.size, 5, none⟩ = some (.int .i64 n.st) := HM.out 5 _ rfl
    have m6 : V.cell? ⟨w.heap.size, 6, none⟩ = some (.int .i64 n.iv) := HM.out 6 _ rfl
    have m7 : V.cell? ⟨w.heap.size, 7, none⟩ = some (.int .i64 n.sy) := HM.out 7 _ rfl
    have vp := below_keep HV.out cp
    have vd := below_keep HV.out cd
    have NV := Lib.hid (HN.out.keep HV.out)
    clear cp cd HN
    have r1 := fun p : Regrown => cell_regrown m1 p.d p.os
    have r2 := fun p : Regrown => cell_regrown m2 p.d p.os
    have r5 := fun p : Regrown => cell_regrown m5 p.d p.os
    have r6 := fun p : Regrown => cell_regrown m6 p.d p.os
    have r7 := fun p : Regrown => cell_regrown m7 p.d p.os
    have rp := fun p : Regrown => cell_regrown vp p.d p.os
    have rd := fun p : Regrown => cell_regrown vd p.d p.os
    by_cases hz : p.val = 0
    · have hzb : ((p.val : Int) == 0) = true := by rw [hz]; rfl
      have hres := Lib.hid (show firstV n par i + k * n.iv = n.st + k * n.iv + n.de i.val by have := hz0 hz; omega)
      have hw2 : IntKind.i64.wrap (n.st + k * n.iv) = n.st + k * n.iv := IntWalk.i64_in _ (by omega)
      have hw3 : IntKind.i64.wrap (n.st + k * n.iv + n.de i.val) = n.st + k * n.iv + n.de i.val := IntWalk.i64_in _ (by omega)
      clear hz IH hz0
      go_upto_region 2 with fail
      refine wp_region_quiet_below (by kernel_rfl) (by kernel_rfl) ?_
      repeat (go_big_quiet_step (fail))
      refine wpQuiet_nil ?_
      intro w6 hw
      have b6 : Below V.heap.size V w6 := by obtain ⟨p, rfl⟩ := hw; exact below_regrown _ _ _
      have H6 := Lib.hid (below_step HV.out b6)
      go_wp2
      go_ret
      exact ⟨by rw [hres.out]; rfl, H6.out⟩
    · have hzb : ((p.val : Int) == 0) = false := beq_eq_false_iff_ne.2 (by omega)
      have IH' := Lib.hid (IH.out hz)
      have hw2 : IntKind.i64.wrap (firstV n par p + k * n.iv + n.sy) = firstV n par p + k * n.iv + n.sy := IntWalk.i64_in _ (by omega)
      have hw3 : IntKind.i64.wrap (firstV n par p + k * n.iv + n.sy + n.de i.val) = firstV n par p + k * n.iv + n.sy + n.de i.val := IntWalk.i64_in _ (by omega)
      have hres := Lib.hid (show firstV n par i + k * n.iv = firstV n par p + k * n.iv + n.sy + n.de i.val by omega)
      clear hz IH hz0 hfs
      generalize firstV n par p = fp at *
      go_upto_region 3 with fail
      refine wp_region_quiet_below (by kernel_rfl) (by kernel_rfl) ?_
      repeat (first | ((with_reducible refine at_qload 25 (.tmp 3) ?_); refine wpQuiet_load_whole rfl (.tmp 3) 25 rfl w.heap.size 0 n.vs rfl ha.out hs.out (holds_regrown HM.out) ?_; simp only [Act.put, List.setIfInBounds_toArray, List.set_cons_succ, List.set_cons_zero]) | go_big_quiet_step (first | with_reducible exact Calls.regrown_of (IH'.out _ (NV.out.keep (below_regrown _ _ _)))))
      refine wpQuiet_nil ?_
      intro w6 hw
      have b6 : Below V.heap.size V w6 := by obtain ⟨p, rfl⟩ := hw; exact below_regrown _ _ _
      have H6 := Lib.hid (below_step HV.out b6)
      go_wp2
      go_ret
      exact ⟨by rw [hres.out]; rfl, H6.out⟩

/-- A sync that has a number. -/
theorem numb_iff {n : Nt} (hb : n.Bd) {par : Fin n.m → Fin n.m} (hp : n.Par par) {i : Fin n.m} (h0 : 0 < i.val) {k : Int} : (k ≤ 1099511627776 / n.iv → (arrV n par i k ≤ 1099511627776 ↔ k ≤ lastK n par i)) ∧ (1099511627776 / n.iv < k → ¬ k ≤ lastK n par i) := by
  have hv := hb.iv0
  have hf := (firstV_ge hb hp i.val i rfl).2 h0
  have hst := hb.st0
  have hga := hb.ga0
  have htu := hb.tu0
  have hle : lastK n par i ≤ 1099511627776 / n.iv := Int.ediv_le_ediv (by omega) (by omega)
  refine ⟨fun _ => ?_, fun h => by omega⟩
  unfold lastK arrV
  rw [Int.le_ediv_iff_mul_le (by omega)]
  omega

set_option maxHeartbeats 8000000 in
set_option maxRecDepth 100000 in
theorem numbered_any (n : Nt) (hb : n.Bd) (par : Fin n.m → Fin n.m) (hp : n.Par par) (i : Fin n.m) (h0 : 0 < i.val) (k : Int) (w : World) (hn : n.In w) :
    Calls Tryz.prog 13 #[.agg n.vs.toArray, .int .i64 (i.val : Int), .int .i64 k] w fun e w' => e = .returned (.bool (decide (0 ≤ k ∧ k ≤ lastK n par i))) ∧ Below w.heap.size w w' := by
  have ha := Lib.hid (show ∀ w, (isAgg 25).run Tryz.prog w = .ok true w from fun w => by kernel_rfl)
  have hs := Lib.hid (show ∀ w, (sizeOf 25).run Tryz.prog w = .ok n.vs.length w from fun w => by kernel_rfl)
  have hv0 := hb.iv0
  have hv1 := hb.iv1
  have hvz : ¬ n.iv = 0 := by omega
  have htd : Int.tdiv 1099511627776 n.iv = 1099511627776 / n.iv := Int.tdiv_eq_ediv_of_nonneg (by omega)
  have hq0 : 0 ≤ 1099511627776 / n.iv := Int.ediv_nonneg (by omega) (by omega)
  have hq1 : 1099511627776 / n.iv ≤ 1099511627776 := Int.ediv_le_self _ (by omega)
  obtain ⟨q, hq⟩ : ∃ q, 1099511627776 / n.iv = q := ⟨_, rfl⟩
  have hqm : q * n.iv ≤ 1099511627776 := by rw [← hq]; exact Int.ediv_mul_le _ (by omega)
  have HN := Lib.hid hn
  have M1 := Lib.hid (holds_alloc w n.vs 25 rfl)
  clear hn
  by_cases k0 : 0 ≤ k
  · obtain ⟨n1, n2⟩ := numb_iff (k := k) hb hp h0
    rw [hq] at n1 n2 htd hq0 hq1
    by_cases kq : k ≤ q
    · have hkm : k * n.iv ≤ 1099511627776 := Int.le_trans (Int.mul_le_mul_of_nonneg_right kq (by omega)) hqm
      have HA := Lib.hid (fun W hW => arrRef_any n hb par hp k k0 hkm i.val i rfl h0 W hW)
      have n1 := n1 kq
      have N1 := Lib.hid n1
      clear n1 n2 hb hp
      generalize arrV n par i k = av at *
      go_enter Tryz.func13, Tryz.ntmps13
      rw [n.lit]
      go_wp2_with (refine wpList_load_wanted (by rfl) (.tmp 3) 25 rfl w.heap.size 0 n.vs rfl ha.out hs.out M1.out ?_)
      refine (HA.out _ (HN.out.keep (below_alloc (Below.refl _ _) _))).mono ?_
      rintro y w1 ⟨rfl, hb1⟩
      have H1 := Lib.hid (below_step (below_alloc (Below.refl _ _) _) hb1)
      go_wp2
      go_ret
      exact ⟨by simp [k0], H1.out⟩
    · rw [decide_eq_false (show ¬ (0 ≤ k ∧ k ≤ lastK n par i) from fun h => n2 (by omega) h.2)]
      clear n1 n2 hb hp
      go_enter Tryz.func13, Tryz.ntmps13
      rw [n.lit]
      go_wp2
      go_ret
      exact ⟨rfl, below_alloc (Below.refl _ _) _⟩
  · rw [decide_eq_false (show ¬ (0 ≤ k ∧ k ≤ lastK n par i) from fun h => k0 h.1)]
    clear hb hp
    go_enter Tryz.func13, Tryz.ntmps13
    rw [n.lit]
    go_wp2
    go_ret
    exact ⟨rfl, below_alloc (Below.refl _ _) _⟩

end Go.Proofs.YtkencmijghigiaaGreat
