/-
  timenet.Check of a network whose slices have one length. No conditions.
-/
import Derived.Test.YtkencmijghigiaaGreatMRhs
namespace Go.Proofs.YtkencmijghigiaaGreat
open Go.RowKit Go.Lib Go.Shelf Plain

/-- One node is valid. -/
def nodeOk (n : Nt) (j : Nat) : Prop := OkC (n.cO j) (n.cP j) ∧ (j = 0 → n.pa 0 = -1 ∧ n.de 0 = 0) ∧ (0 < j → (0 ≤ n.pa j ∧ n.pa j < (j : Int)) ∧ (0 ≤ n.de j ∧ n.de j ≤ 10000))
/-- The numbers are valid. -/
def numsOk (n : Nt) : Prop := (0 ≤ n.tu ∧ n.tu ≤ 1048576 ∧ 10000 ≤ n.ga ∧ n.ga ≤ 1073741824) ∧ (n.ga + 20000 + n.tu ≤ n.st ∧ n.st ≤ 4294967296) ∧ (1 ≤ n.iv ∧ n.iv ≤ 4294967296 ∧ 0 ≤ n.sy ∧ n.sy ≤ 1048576)
/-- .. all of it. -/
def netOk (n : Nt) : Prop := (∀ j, j < n.m → nodeOk n j) ∧ numsOk n
instance (n : Nt) (j : Nat) : Decidable (nodeOk n j) := by unfold nodeOk; infer_instance
instance (n : Nt) : Decidable (numsOk n) := inferInstanceAs (Decidable (_ ∧ _))
instance (n : Nt) : Decidable (netOk n) := inferInstanceAs (Decidable (_ ∧ _))
def chkN (n : Nt) : Int := if netOk n then 0 else 250
theorem chkN_node {n : Nt} {j : Nat} (hj : j < n.m) (h : ¬ nodeOk n j) : chkN n = 250 := if_neg fun x => h (x.1 j hj)
theorem chkN_nums {n : Nt} (h : ¬ numsOk n) : chkN n = 250 := if_neg fun x => h x.2

set_option maxHeartbeats 8000000 in
set_option maxRecDepth 100000 in
theorem chkNet_any (n : Nt) (hm : n.m ≤ 12) (w : World) (hn : n.In w) :
    Calls Tryz.prog 8 #[.agg n.vs.toArray] w fun e w' => e = .returned (.int .i64 (chkN n)) ∧ Below w.heap.size w w' := by
  obtain ⟨cN, hcN⟩ : ∃ c, chkN n = c := ⟨_, rfl⟩
  rw [hcN]
  have hm1 := hn.m1
  have i0 : ¬ (n.m : Int) < 1 := by omega
  have i1 : ¬ (12 : Int) < (n.m : Int) := by omega
  have lp := hn.lp
  have ld := hn.ld
  have lc := hn.lc
  have HN := Lib.hid hn
  clear hn
  go_enter Tryz.func8, Tryz.ntmps8
  rw [n.lit]
  go_upto_region 1 with fail
  refine wp_world ?_
  intro V hV
  have HM := Lib.hid (show Holds V w.heap.size n.vs by subst hV; exact holds_alloc w n.vs 25 rfl)
  have HV := Lib.hid (show Below w.heap.size w V by subst hV; exact below_alloc (Below.refl _ _) _)
  clear hV
  have k0 : V.cell? ⟨w.heap.size, 0, none⟩ = some (.slice (some ⟨n.bc, n.oc, none⟩) n.m n.kc) := HM.out 0 _ rfl
  have k1 : V.cell? ⟨w.heap.size, 1, none⟩ = some (.slice (some ⟨n.bp, n.op, none⟩) n.m n.kp) := HM.out 1 _ rfl
  have k2 : V.cell? ⟨w.heap.size, 2, none⟩ = some (.slice (some ⟨n.bd, n.od, none⟩) n.m n.kd) := HM.out 2 _ rfl
  go_wp2
  clear k0 k1 k2
  go_loopw [32] (fun i wr => ∃ k : Nat, k ≤ n.m ∧ i = .int .i64 (k : Int) ∧ (∀ j, j < k → nodeOk n j) ∧ Holds wr w.heap.size n.vs ∧ Below w.heap.size w wr) (fun i _ => n.m - (RowKit.intOf i).toNat)
  case atStart => exact ⟨0, by omega, rfl, fun j hj => by omega, HM.out, HV.out⟩
  case round =>
    obtain ⟨k, hk, rfl, hA, hM, hB⟩ := hrel
    have HA := Lib.hid hA
    have HM2 := Lib.hid hM
    have HB2 := Lib.hid hB
    have NR := Lib.hid (HN.out.keep hB)
    have z1 := hB.size
    have z0 : w.heap.size < wr.heap.size := World.block_lt_of_cell? _ _ (hM 0 _ rfl)
    clear hA hM hB HM HV
    by_cases hlt : k < n.m
    · rcases Nat.eq_zero_or_pos k with rfl | hpos
      · have e0 : wr.cell? ⟨n.bc, n.oc, none⟩ = some (.int .i64 (n.cO 0)) := by simpa using NR.out.c0 0 hlt
        have e1 : wr.cell? ⟨n.bc, n.oc + 1, none⟩ = some (.int .i64 (n.cP 0)) := by simpa using NR.out.c1 0 hlt
        have x1 : (0 : Int) < (n.m : Int) := by omega
        have x2 : 0 < n.m := hlt
        go_wp2_with fail
        refine (clkCheck_any _ _ _).mono ?_
        rintro y w2 ⟨rfl, hb2⟩
        have M2 := Lib.hid ((HM2.out.alloc z0 _).keep hb2)
        have B2 := Lib.hid (below_step (below_alloc HB2.out _) hb2)
        have N2 := Lib.hid (HN.out.keep B2.out)
        clear hb2 HM2 HB2 NR e0 e1
        have m1 : w2.cell? ⟨w.heap.size, 1, none⟩ = some (.slice (some ⟨n.bp, n.op, none⟩) n.m n.kp) := M2.out 1 _ rfl
        have m2 : w2.cell? ⟨w.heap.size, 2, none⟩ = some (.slice (some ⟨n.bd, n.od, none⟩) n.m n.kd) := M2.out 2 _ rfl
        by_cases hc : OkC (n.cO 0) (n.cP 0)
        · rw [show clkV (n.cO 0) (n.cP 0) = 0 from if_pos hc]
          by_cases hpa : n.pa 0 = -1
          · have vp : w2.cell? ⟨n.bp, n.op, none⟩ = some (.int .i64 (-1)) := by rw [← hpa]; simpa using N2.out.p 0 hlt
            by_cases hde : n.de 0 = 0
            · have vd : w2.cell? ⟨n.bd, n.od, none⟩ = some (.int .i64 0) := by rw [← hde]; simpa using N2.out.d 0 hlt
              go_wp2
              go_roundw
              case rel =>
                refine ⟨1, by omega, by go_num, fun j hj => ?_, M2.out, B2.out⟩
                obtain rfl : j = 0 := by omega
                exact ⟨hc, fun _ => ⟨hpa, hde⟩, fun h => by omega⟩
              case measure => simp [RowKit.intOf]; omega
            · have vd : w2.cell? ⟨n.bd, n.od, none⟩ = some (.int .i64 (n.de 0)) := by simpa using N2.out.d 0 hlt
              go_wp2
              go_ret
              exact ⟨ret_int (a := 250) (by rw [← hcN, chkN_node hlt (fun h => hde (h.2.1 rfl).2)]), B2.out⟩
          · have vp : w2.cell? ⟨n.bp, n.op, none⟩ = some (.int .i64 (n.pa 0)) := by simpa using N2.out.p 0 hlt
            go_wp2
            go_ret
            exact ⟨ret_int (a := 250) (by rw [← hcN, chkN_node hlt (fun h => hpa (h.2.1 rfl).1)]), B2.out⟩
        · rw [show clkV (n.cO 0) (n.cP 0) = 190 from if_neg hc]
          go_wp2
          go_ret
          exact ⟨ret_int (a := 250) (by rw [← hcN, chkN_node hlt (fun h => hc h.1)]), B2.out⟩
      · have e0 : wr.cell? ⟨n.bc, n.oc + k * 2, none⟩ = some (.int .i64 (n.cO k)) := NR.out.c0 k hlt
        have e1 : wr.cell? ⟨n.bc, n.oc + k * 2 + 1, none⟩ = some (.int .i64 (n.cP k)) := NR.out.c1 k hlt
        have x0 : (0 : Int) ≤ (k : Int) := by omega
        have x1 : (k : Int) < (n.m : Int) := by omega
        have x2 : ¬ (k : Int) = 0 := by omega
        have x3 : ¬ k = 0 := by omega
        go_wp2_with fail
        refine (clkCheck_any _ _ _).mono ?_
        rintro y w2 ⟨rfl, hb2⟩
        have M2 := Lib.hid ((HM2.out.alloc z0 _).keep hb2)
        have B2 := Lib.hid (below_step (below_alloc HB2.out _) hb2)
        have N2 := Lib.hid (HN.out.keep B2.out)
        clear hb2 HM2 HB2 NR e0 e1
        have m1 : w2.cell? ⟨w.heap.size, 1, none⟩ = some (.slice (some ⟨n.bp, n.op, none⟩) n.m n.kp) := M2.out 1 _ rfl
        have m2 : w2.cell? ⟨w.heap.size, 2, none⟩ = some (.slice (some ⟨n.bd, n.od, none⟩) n.m n.kd) := M2.out 2 _ rfl
        have vp : w2.cell? ⟨n.bp, n.op + k, none⟩ = some (.int .i64 (n.pa k)) := N2.out.p k hlt
        have vd : w2.cell? ⟨n.bd, n.od + k, none⟩ = some (.int .i64 (n.de k)) := N2.out.d k hlt
        by_cases hc : OkC (n.cO k) (n.cP k)
        · rw [show clkV (n.cO k) (n.cP k) = 0 from if_pos hc]
          by_cases hq : (0 ≤ n.pa k ∧ n.pa k < (k : Int)) ∧ (0 ≤ n.de k ∧ n.de k ≤ 10000)
          · obtain ⟨⟨q0, q1⟩, q2, q3⟩ := hq
            go_wp2
            go_roundw
            case rel =>
              refine ⟨k + 1, by omega, by go_num, fun j hj => ?_, M2.out, B2.out⟩
              by_cases hjk : j < k
              · exact HA.out j hjk
              · obtain rfl : j = k := by omega
                exact ⟨hc, fun h => by omega, fun _ => ⟨⟨q0, q1⟩, q2, q3⟩⟩
            case measure => simp [RowKit.intOf]; omega
          · have hbad : chkN n = 250 := chkN_node hlt (fun h => hq (h.2.2 hpos))
            obtain rfl : cN = 250 := by rw [← hcN, hbad]
            have hcs : n.pa k < 0 ∨ (0 ≤ n.pa k ∧ (k : Int) ≤ n.pa k) ∨ (0 ≤ n.pa k ∧ n.pa k < (k : Int) ∧ n.de k < 0) ∨ (0 ≤ n.pa k ∧ n.pa k < (k : Int) ∧ 0 ≤ n.de k ∧ 10000 < n.de k) := by omega
            clear hq
            rcases hcs with q0 | ⟨q0, q1⟩ | ⟨q0, q1, q2⟩ | ⟨q0, q1, q2, q3⟩
            all_goals
              go_wp2
              go_ret
              exact ⟨rfl, B2.out⟩
        · rw [show clkV (n.cO k) (n.cP k) = 190 from if_neg hc]
          go_wp2
          go_ret
          exact ⟨ret_int (a := 250) (by rw [← hcN, chkN_node hlt (fun h => hc h.1)]), B2.out⟩
    · obtain rfl : k = n.m := by omega
      have m3 : wr.cell? ⟨w.heap.size, 3, none⟩ = some (.int .i64 n.tu) := HM2.out 3 _ rfl
      have m4 : wr.cell? ⟨w.heap.size, 4, none⟩ = some (.int .i64 n.ga) := HM2.out 4 _ rfl
      have m5 : wr.cell? ⟨w.heap.size, 5, none⟩ = some (.int .i64 n.st) := HM2.out 5 _ rfl
      have m6 : wr.cell? ⟨w.heap.size, 6, none⟩ = some (.int .i64 n.iv) := HM2.out 6 _ rfl
      have m7 : wr.cell? ⟨w.heap.size, 7, none⟩ = some (.int .i64 n.sy) := HM2.out 7 _ rfl
      by_cases hA : 0 ≤ n.tu ∧ n.tu ≤ 1048576 ∧ 10000 ≤ n.ga ∧ n.ga ≤ 1073741824
      · by_cases hB : n.ga + 20000 + n.tu ≤ n.st ∧ n.st ≤ 4294967296
        · by_cases hC : 1 ≤ n.iv ∧ n.iv ≤ 4294967296 ∧ 0 ≤ n.sy ∧ n.sy ≤ 1048576
          · have hok : chkN n = 0 := if_pos ⟨HA.out, hA, hB, hC⟩
            obtain rfl : cN = 0 := by rw [← hcN, hok]
            obtain ⟨a1, a2, a3, a4⟩ := hA
            obtain ⟨b1, b2⟩ := hB
            obtain ⟨c1, c2, c3, c4⟩ := hC
            go_wp2
            go_ret
            exact ⟨rfl, HB2.out⟩
          · obtain rfl : cN = 250 := by rw [← hcN, chkN_nums (fun h => hC h.2.2)]
            obtain ⟨a1, a2, a3, a4⟩ := hA
            obtain ⟨b1, b2⟩ := hB
            have hcs : n.iv < 1 ∨ (1 ≤ n.iv ∧ 4294967296 < n.iv) ∨ (1 ≤ n.iv ∧ n.iv ≤ 4294967296 ∧ n.sy < 0) ∨ (1 ≤ n.iv ∧ n.iv ≤ 4294967296 ∧ 0 ≤ n.sy ∧ 1048576 < n.sy) := by omega
            clear hC
            rcases hcs with c1 | ⟨c1, c2⟩ | ⟨c1, c2, c3⟩ | ⟨c1, c2, c3, c4⟩
            all_goals
              go_wp2
              go_ret
              exact ⟨rfl, HB2.out⟩
        · obtain rfl : cN = 250 := by rw [← hcN, chkN_nums (fun h => hB h.2.1)]
          obtain ⟨a1, a2, a3, a4⟩ := hA
          have hcs : n.st < n.ga + 20000 + n.tu ∨ (n.ga + 20000 + n.tu ≤ n.st ∧ 4294967296 < n.st) := by omega
          clear hB
          rcases hcs with b1 | ⟨b1, b2⟩
          all_goals
            go_wp2
            go_ret
            exact ⟨rfl, HB2.out⟩
      · obtain rfl : cN = 250 := by rw [← hcN, chkN_nums (fun h => hA h.1)]
        have hcs : n.tu < 0 ∨ (0 ≤ n.tu ∧ 1048576 < n.tu) ∨ (0 ≤ n.tu ∧ n.tu ≤ 1048576 ∧ n.ga < 10000) ∨ (0 ≤ n.tu ∧ n.tu ≤ 1048576 ∧ 10000 ≤ n.ga ∧ 1073741824 < n.ga) := by omega
        clear hA
        rcases hcs with a1 | ⟨a1, a2⟩ | ⟨a1, a2, a3⟩ | ⟨a1, a2, a3, a4⟩
        all_goals
          go_wp2
          go_ret
          exact ⟨rfl, HB2.out⟩

end Go.Proofs.YtkencmijghigiaaGreat
