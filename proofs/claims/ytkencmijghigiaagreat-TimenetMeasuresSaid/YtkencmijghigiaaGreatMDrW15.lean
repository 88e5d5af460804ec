/-
  (isochronref15.Draft).Net: the walk.
-/
import Derived.BigQuiet
import Derived.Test.YtkencmijghigiaaGreatMDrs
namespace Go.Proofs.YtkencmijghigiaaGreat
open Go.RowKit Go.Lib Go.Shelf Plain

theorem agg_drf15 : ∀ w, (isAgg 58).run Tryz.prog w = .ok true w := fun w => by kernel_rfl
theorem size_drf15 : ∀ w, (sizeOf 58).run Tryz.prog w = .ok 2 w := fun w => by kernel_rfl
theorem two_one15 (a b : Int) : ∀ v ∈ [Value.int .i64 a, .int .i64 b], v.oneCell' = true := by
  intro v hv
  simp only [List.mem_cons, List.not_mem_nil, or_false] at hv
  rcases hv with rfl | rfl <;> rfl
theorem noagg_clks15 : ∀ w, (isAgg 22).run Tryz.prog w = .ok false w := fun w => by kernel_rfl

set_option maxHeartbeats 16000000 in
set_option maxRecDepth 100000 in
theorem net_walk (D : Dr) (hb : D.Bd) (w : World) (hn : D.In w) :
    Calls Tryz.prog 5 #[.agg D.vs.toArray] w fun e w' => ∃ v0 v1 v2 : Value,
      e = .returned (.agg #[v0, v1, v2, .int .i64 (dTu D), .int .i64 (dGa D), .int .i64 (dSt D), .int .i64 (dIv D), .int .i64 (dSy D)]) ∧
      w'.ownsRow (w.heap.size + 3) 61 2 v0 (dM D) (dClks D (dM D)) ∧ w'.ownsRow (w.heap.size + 3) 3 1 v1 (dM D) (dPars D (dM D)) ∧ w'.ownsRow (w.heap.size + 3) 3 1 v2 (dM D) (dDels D (dM D)) ∧ Below w.heap.size w w' := by
  obtain ⟨tu0, tu1, ga0, ga1, la0, la1, iv0, iv1, sy0, sy1, hq, hd⟩ := hb
  have HN := Lib.hid hn
  have HQ := Lib.hid hq
  have HDe := Lib.hid hd
  clear hn hq hd
  go_enter Tryz.func5, Tryz.ntmps5
  rw [D.lit]
  go_upto_region 3 with fail
  refine wp_world ?_
  intro V hV
  have zV : V.heap.size = w.heap.size + 3 := by subst hV; simp
  have hap : Apt (.slice none 0 0) (.slice none 0 0) := fun g h => by cases h
  have HV := Lib.hid (show NetInv D w V w.heap.size (.slice none 0 0) (.slice none 0 0) (.slice none 0 0) 0 0 0 by
    subst hV
    exact ⟨World.ownsRow_nil _ _ _ _, World.ownsRow_nil _ _ _ _, World.ownsRow_nil _ _ _ _, hap, hap, hap, ((holds_alloc w D.vs 31 rfl).alloc (by simp) _).alloc (by simp; omega) _,
      (holds_alloc _ zT 25 (by simp)).alloc (by simp) _, fun x => by simp [go_sem], holds_alloc _ (nVs D (.slice none 0 0) (.slice none 0 0) (.slice none 0 0)) 25 (by simp), fun x => by simp [go_sem],
      below_alloc (below_alloc (below_alloc (Below.refl _ _) _) _) _, rfl, by simp⟩)
  clear hV hap
  have hm1 : 1 ≤ dM D := by unfold dM; omega
  have hm12 : dM D ≤ 12 := by unfold dM; omega
  go_wp2
  go_loopw [4] (fun p wr => ∃ (i : Nat) (v0 v1 v2 : Value), p = .int .i64 (i : Int) ∧ i ≤ dM D ∧ Hid (NetInv D w wr w.heap.size v0 v1 v2 i i i))
    (fun p _ => 12 - (RowKit.intOf p).toNat)
  case atStart =>
    exact ⟨0, .slice none 0 0, .slice none 0 0, .slice none 0 0, rfl, Nat.zero_le _, HV⟩
  case round =>
    obtain ⟨i, v0, v1, v2, rfl, hi, GI⟩ := hrel
    clear HV
    have e0 : wr.cell? ⟨w.heap.size, 0, none⟩ = some (.slice D.pc D.nc D.kc) := GI.out.gd 0 _ rfl
    have e1 : wr.cell? ⟨w.heap.size, 1, none⟩ = some (.slice D.pp D.np D.kp) := GI.out.gd 1 _ rfl
    have e2 : wr.cell? ⟨w.heap.size, 2, none⟩ = some (.slice D.pd D.nd D.kd) := GI.out.gd 2 _ rfl
    have zr := GI.out.zr
    obtain ⟨x, hx⟩ : ∃ x : Int, (i : Int) = x := ⟨_, rfl⟩
    have hxn : x.toNat = i := by omega
    have hx0 : 0 ≤ x := by omega
    rw [hx]
    by_cases hlt : i < dM D
    · have h12 : x < 12 := by omega
      have hc : i = 0 ∨ (0 < i ∧ i < D.nc) := by unfold dM at hlt; omega
      have cond : x = 0 ∨ (¬ x = 0 ∧ x < (D.nc : Int)) := by omega
      have lz : w.heap.size < wr.heap.size := by omega
      have HX := Lib.hid hx
      have HXN := Lib.hid hxn
      have HLT := Lib.hid hlt
      have HI := Lib.hid hi
      have hi12 : i < 12 := by omega
      clear hx hxn hlt hi hc
      go_upto_region 4 with fail
      go_cut [51] (fun s51 wx => s51 = .bool true ∧ wx = wr)
      case first =>
        rcases cond with c1 | ⟨c1, c2⟩
        · have cb : (x == 0) = true := by rw [c1]; rfl
          clear c1
          go_wp2
          go_meet
          exact ⟨rfl, rfl⟩
        · go_wp2
          go_meet
          exact ⟨rfl, rfl⟩
      case rest =>
        clear cond
        obtain ⟨rfl, hwc⟩ := hcut
        rw [hwc]
        clear hwc wc
        rename_i K' hK'
        refine hK' _ _ ?_
        clear hK' K'
        go_upto_region 6 with fail
        go_cut [5] (fun s5 wx => s5 = .pointer (some ⟨wr.heap.size, 0, none⟩) ∧ wx = wr.alloc (.cells #[.int .i64 0, .int .i32 0] 58))
        case first =>
          go_wp2
          go_meet
          exact ⟨rfl, rfl⟩
        case rest =>
        obtain ⟨rfl, hwc⟩ := hcut
        rw [hwc]
        clear hwc wc
        rename_i K' hK'
        refine hK' _ _ ?_
        clear hK' K'
        apply wp_seq_k
        intro K1 hK1
        go_cut [] (fun wx => wx = wr.alloc (.cells #[.int .i64 (dCa D i), .int .i32 (dCb D i)] 58))
        case first =>
          by_cases hnc : i < D.nc
          · have n1 : x < (D.nc : Int) := by have := HX.out; omega
            obtain ⟨b, o, hp, h1, h2⟩ := (HN.out.keep GI.out.gb).c i hnc
            rw [← HXN.out] at h1 h2
            rw [hp] at e0
            clear hp
            have lb : b < wr.heap.size := World.block_lt_of_cell? _ _ h1
            have d1 : dCa D i = D.cA x.toNat := by rw [HXN.out]; exact if_pos hnc
            have d2 : dCb D i = D.cB x.toNat := by rw [HXN.out]; exact if_pos hnc
            clear hnc
            go_wp2
            go_meet
            rw [d1, d2]
          · have n1 : ¬ x < (D.nc : Int) := by have := HX.out; omega
            have d1 : dCa D i = 0 := if_neg hnc
            have d2 : dCb D i = 0 := if_neg hnc
            clear hnc
            go_wp2
            go_meet
            rw [d1, d2]
        case rest =>
        rw [hcut]
        clear hcut wc
        refine hK1 _ _ ?_
        clear hK1 K1
        go_upto_region 9 with fail
        go_cut [6, 7] (fun s6 s7 wx => s6 = .int .i64 (-1) ∧ s7 = .int .i64 0 ∧ wx = wr.alloc (.cells #[.int .i64 (dCa D i), .int .i32 (dCb D i)] 58))
        case first =>
          go_wp2
          go_meet
          exact ⟨rfl, rfl, rfl⟩
        case rest =>
        obtain ⟨rfl, rfl, hwc⟩ := hcut
        rw [hwc]
        clear hwc wc
        rename_i K' hK'
        refine hK' _ _ ?_
        clear hK' K'
        apply wp_seq_k
        intro K1 hK1
        go_cut [6, 7] (fun s6 s7 wx => s6 = .int .i64 (dPa D i) ∧ s7 = .int .i64 (dDe D i) ∧ wx = wr.alloc (.cells #[.int .i64 (dCa D i), .int .i32 (dCb D i)] 58))
        case first =>
          have EX := HX.out
          have zc : i = 0 ∨ 0 < i := by omega
          rcases zc with z | z
          · have zi : ¬ (0 : Int) < x := by omega
            have d1 : dPa D i = -1 := if_pos z
            have d2 : dDe D i = 0 := if_pos z
            clear EX z
            go_wp2
            go_meet
            exact ⟨by rw [d1], by rw [d2], rfl⟩
          · have zi : (0 : Int) < x := by omega
            have zz : ¬ x = 0 := by omega
            have w1 : wrap64 (x - 1) = x - 1 := by unfold wrap64; omega
            by_cases hnp : i < D.np <;> by_cases hnd : i < D.nd
            · have n1 : x < (D.np : Int) := by omega
              obtain ⟨b, o, hp, h1⟩ := (HN.out.keep GI.out.gb).p i hnp
              obtain ⟨q0, q1⟩ := HQ.out i hnp
              have d1 : dPa D i = D.q x.toNat % x := by rw [HXN.out, ← EX]; exact (if_neg (by omega)).trans (if_pos hnp)
              rw [← HXN.out] at h1 q0 q1
              rw [hp] at e1
              clear hp
              have lb : b < wr.heap.size := World.block_lt_of_cell? _ _ h1
              have n2 : x < (D.nd : Int) := by omega
              obtain ⟨b', o', hp', h1'⟩ := (HN.out.keep GI.out.gb).d i hnd
              obtain ⟨r0, r1⟩ := HDe.out i hnd
              have d2 : dDe D i = D.d x.toNat % 10001 := by rw [HXN.out]; exact (if_neg (by omega)).trans (if_pos hnd)
              rw [← HXN.out] at h1' r0 r1
              rw [hp'] at e2
              clear hp'
              have lb' : b' < wr.heap.size := World.block_lt_of_cell? _ _ h1'
              clear EX z hnp hnd
              go_wp2
              go_meet
              exact ⟨by rw [d1], by rw [d2], rfl⟩
            · have n1 : x < (D.np : Int) := by omega
              obtain ⟨b, o, hp, h1⟩ := (HN.out.keep GI.out.gb).p i hnp
              obtain ⟨q0, q1⟩ := HQ.out i hnp
              have d1 : dPa D i = D.q x.toNat % x := by rw [HXN.out, ← EX]; exact (if_neg (by omega)).trans (if_pos hnp)
              rw [← HXN.out] at h1 q0 q1
              rw [hp] at e1
              clear hp
              have lb : b < wr.heap.size := World.block_lt_of_cell? _ _ h1
              have n2 : ¬ x < (D.nd : Int) := by omega
              have d2 : dDe D i = 0 := (if_neg (by omega)).trans (if_neg hnd)
              clear EX z hnp hnd
              go_wp2
              go_meet
              exact ⟨by rw [d1], by rw [d2], rfl⟩
            · have n1 : ¬ x < (D.np : Int) := by omega
              have d1 : dPa D i = x - 1 := by rw [← EX]; exact (if_neg (by omega)).trans (if_neg hnp)
              have n2 : x < (D.nd : Int) := by omega
              obtain ⟨b', o', hp', h1'⟩ := (HN.out.keep GI.out.gb).d i hnd
              obtain ⟨r0, r1⟩ := HDe.out i hnd
              have d2 : dDe D i = D.d x.toNat % 10001 := by rw [HXN.out]; exact (if_neg (by omega)).trans (if_pos hnd)
              rw [← HXN.out] at h1' r0 r1
              rw [hp'] at e2
              clear hp'
              have lb' : b' < wr.heap.size := World.block_lt_of_cell? _ _ h1'
              clear EX z hnp hnd
              go_wp2
              go_meet
              exact ⟨by rw [d1], by rw [d2], rfl⟩
            · have n1 : ¬ x < (D.np : Int) := by omega
              have d1 : dPa D i = x - 1 := by rw [← EX]; exact (if_neg (by omega)).trans (if_neg hnp)
              have n2 : ¬ x < (D.nd : Int) := by omega
              have d2 : dDe D i = 0 := (if_neg (by omega)).trans (if_neg hnd)
              clear EX z hnp hnd
              go_wp2
              go_meet
              exact ⟨by rw [d1], by rw [d2], rfl⟩
        case rest =>
        obtain ⟨rfl, rfl, hwc⟩ := hcut
        rw [hwc]
        clear hwc wc e1 e2 e0
        refine hK1 _ _ ?_
        clear hK1 K1
        go_upto_region 16 with fail
        refine wp_world ?_
        intro W1 hW1
        have G1 := Lib.hid (GI.out.keep (show Below wr.heap.size wr W1 by subst hW1; exact below_alloc (Below.refl _ _) _))
        have x0 : W1.cell? ⟨w.heap.size + 1 + 1, 0, none⟩ = some v0 := G1.out.gx 0 _ rfl
        have c0 : Holds W1 wr.heap.size [.int .i64 (dCa D i), .int .i32 (dCb D i)] := by subst hW1; exact holds_alloc wr [.int .i64 (dCa D i), .int .i32 (dCb D i)] 58 rfl
        have lw : wr.heap.size < W1.heap.size := by subst hW1; simp
        have hrl := fun k e => (GI.out.o0.lt k e).2
        clear hW1 GI
        go_cut [] (fun wx => ∃ v', Hid (NetInv D w wx w.heap.size v' v1 v2 (i + 1) i i))
        case first =>
          obtain ⟨i0, hi0, hz0, hz1, hz2⟩ := info_parts infoClk15
          refine wp_region_flag 3 (by kernel_rfl) (by kernel_rfl) (fun w' => w'.cell? ⟨w.heap.size + 1 + 1, 0, none⟩ = some v0 ∧ Holds w' wr.heap.size [.int .i64 (dCa D i), .int .i32 (dCb D i)]) ⟨x0, c0⟩ ?_
          simp only [List.take_succ_cons, List.take_zero, List.drop_succ_cons, List.drop_zero]
          go_big_quiet_step ((intros; rfl))
          refine wpQuiet_load_one rfl (.tmp 94) 22 rfl ⟨w.heap.size + 1 + 1, 0, none⟩ v0 rfl noagg_clks15 (fun w h => h.1) ?_
          simp only [Act.put, List.setIfInBounds_toArray, List.set_cons_succ, List.set_cons_zero]
          refine wpQuiet_load_whole rfl (.tmp 5) 58 rfl wr.heap.size 0 [.int .i64 (dCa D i), .int .i32 (dCb D i)] rfl agg_drf15 size_drf15 (fun w h => h.2) ?_
          simp only [Act.put, List.setIfInBounds_toArray, List.set_cons_succ, List.set_cons_zero]
          refine wpQuiet_nil ?_
          change tailG _ _ _ _ _ W1.drew
          simp only [tailG]
          refine wp_of_call15 (f := 21) (args := #[.agg #[.int .i64 (dCa D i), .int .i32 (dCb D i)]]) (by simp [go_sem]) (clockDraft_any _ _ _) ?_
          intro w2 hb2
          have B2 : Below W1.heap.size W1 w2 := Below.trans (Below.drew (Below.refl _ _)) hb2
          have G2 := G1.out.keep B2
          have x2 := below_keep B2 x0
          have d2 := c0.keep B2
          have l2 : wr.heap.size < w2.heap.size := Nat.lt_of_lt_of_le lw B2.size
          refine ⟨fun _ => ⟨x2, d2⟩, ?_⟩
          simp only [Act.put, List.setIfInBounds_toArray, List.set_cons_succ, List.set_cons_zero]
          refine wp_of_run (v := .slice (some ⟨w2.heap.size, 0, none⟩) 1 1) (w' := w2.alloc (.cells #[.int .i64 (dCO D i), .int .i64 (dCP D i)] 61)) (by simp [execOp, go_sem, dCO, dCP]) ?_
          have G3 := G2.keep (below_alloc (Below.refl w2.heap.size w2) (.cells #[.int .i64 (dCO D i), .int .i64 (dCP D i)] 61))
          have x3 : (w2.alloc (.cells #[.int .i64 (dCO D i), .int .i64 (dCP D i)] 61)).cell? ⟨w.heap.size + 1 + 1, 0, none⟩ = some v0 := G3.gx 0 _ rfl
          have d3 := d2.alloc l2 (.cells #[.int .i64 (dCO D i), .int .i64 (dCP D i)] 61)
          refine ⟨fun _ => ⟨x3, d3⟩, ?_⟩
          simp only [Act.put, List.setIfInBounds_toArray, List.set_cons_succ, List.set_cons_zero]
          refine wp_append_at15 (.tmp 95) (.tmp 98) 22 rfl (w.heap.size + 3) 61 i0 _ 2 16 Tryz.underlying22 hi0 hz0 hz1 hz2 rfl (by omega) v0 i (dClks D i) rfl G3.o0 ⟨w2.heap.size, 0, none⟩ 1 1 [.int .i64 (dCO D i), .int .i64 (dCP D i)] rfl rfl
            (fun j u hj => by rw [add_off]; exact holds_alloc w2 [.int .i64 (dCO D i), .int .i64 (dCP D i)] 61 rfl j u hj) (two_one15 _ _) (by unfold maxLen; omega) (by omega) (by have := G3.zr; omega) ?_
          intro v' w4 hown hgrow hat
          obtain ⟨g', cap', rfl⟩ := own_form15 hown (by omega)
          have hrow : v0.ownBlock ≠ some wr.heap.size := fun e => by have := hrl _ e; omega
          have x4 : w4.cell? ⟨w.heap.size + 1 + 1, 0, none⟩ = some v0 := hgrow.cell x3 (fun e => absurd (show w.heap.size + 3 ≤ w.heap.size + 1 + 1 from (G3.o0.lt _ e.symm).1) (by omega))
          have d4 : Holds w4 wr.heap.size [.int .i64 (dCa D i), .int .i32 (dCb D i)] := grown_holds d3 hgrow (fun e => hrow e.symm)
          have f4 : w4.frozen? ⟨w.heap.size + 1 + 1, 0, none⟩ = false := grown_frozen G3.fx (by have := G3.zr; omega) hgrow (fun e => absurd (show w.heap.size + 3 ≤ w.heap.size + 1 + 1 from (G3.o0.lt _ e.symm).1) (by omega)) 0
          refine ⟨fun _ => ⟨x4, d4⟩, ?_⟩
          simp only [Act.put, List.setIfInBounds_toArray, List.set_cons_succ, List.set_cons_zero]
          refine wp_of_run (v := .pointer (some ⟨w.heap.size + 1 + 1, 0, none⟩)) (w' := w4) (by simp [execOp, go_sem]) ⟨fun _ => ⟨x4, d4⟩, ?_⟩
          simp only [Act.put, List.setIfInBounds_toArray, List.set_cons_succ, List.set_cons_zero]
          refine wp_of_skip (w' := w4.setCell ⟨w.heap.size + 1 + 1, 0, none⟩ (.slice (some ⟨g', 0, none⟩) (i + 1) cap')) (by simp [execOp, go_sem, x4, f4]) ⟨fun h => absurd rfl h, ?_⟩
          refine NoPanic.normal ?_
          simp only [Act.put]
          have G5 := Lib.hid (G3.app0 hown hgrow hat)
          clear x0 x2 x3 x4 d2 d3 d4 f4 hown hgrow hat G3 G2 B2 hb2
          go_wp2
          go_meet
          exact ⟨_, G5⟩
        case rest =>
        obtain ⟨v0', G2⟩ := hcut
        clear G1 x0 c0 lw hrl
        obtain ⟨j0, hj0, hk0, hk1, hk2⟩ := info_parts infoInt15
        rename_i K' hK'
        refine hK' _ _ ?_
        clear hK' K'
        have y1 : wc.cell? ⟨w.heap.size + 1 + 1, 1, none⟩ = some v1 := G2.out.gx 1 _ rfl
        have m1 := G2.out.zr
        have T1 := G2.out.keep (below_alloc (Below.refl wc.heap.size wc) (.cells #[.int .i64 (dPa D i)] 3))
        have hT1 := Lib.hid T1
        clear T1
        have n1 : w.heap.size + 1 + 1 < wc.heap.size := by omega
        go_upto_region 18 with (at_builtin; refine wpList_append_own_at _ rfl (.tmp 102) (.tmp 104) 23 rfl (w.heap.size + 3) 3 j0 _ 1 8 Tryz.underlying23 hj0 hk0 hk1 hk2 rfl (by omega) v1 i (dPars D i) rfl hT1.out.o1 ⟨wc.heap.size, 0, none⟩ 1 1 [.int .i64 (dPa D i)] rfl rfl (cell_one_new _ _ _) (one_one15 _) (by unfold maxLen; omega) (by omega) (by simp; omega) ?_; intro v' w4 hown hgrow _ hat; obtain ⟨g', cap', rfl⟩ := own_form15 hown (by omega); have x4 : w4.cell? ⟨w.heap.size + 1 + 1, 1, none⟩ = some v1 := hgrow.cell ((World.cell?_alloc_lt _ _ _ n1).trans y1) (fun e => absurd (show w.heap.size + 3 ≤ w.heap.size + 1 + 1 from (hT1.out.o1.lt _ e.symm).1) (by omega)); have f4 : w4.frozen? ⟨w.heap.size + 1 + 1, 1, none⟩ = false := grown_frozen hT1.out.fx (by simp; omega) hgrow (fun e => absurd (show w.heap.size + 3 ≤ w.heap.size + 1 + 1 from (hT1.out.o1.lt _ e.symm).1) (by omega)) 1; have G3 := Lib.hid (hT1.out.app1 hown hgrow hat); clear hown hgrow hat)
        refine wp_world ?_
        intro wd hwd
        rw [← hwd] at G3
        clear hwd x4 f4 hT1 y1 m1 n1 G2
        have y2 : wd.cell? ⟨w.heap.size + 1 + 1, 2, none⟩ = some v2 := G3.out.gx 2 _ rfl
        have m2 := G3.out.zr
        have T2 := G3.out.keep (below_alloc (Below.refl wd.heap.size wd) (.cells #[.int .i64 (dDe D i)] 3))
        have hT2 := Lib.hid T2
        clear T2
        have n2 : w.heap.size + 1 + 1 < wd.heap.size := by omega
        go_wp2_with (at_builtin; refine wpList_append_own_at _ rfl (.tmp 108) (.tmp 110) 23 rfl (w.heap.size + 3) 3 j0 _ 1 8 Tryz.underlying23 hj0 hk0 hk1 hk2 rfl (by omega) v2 i (dDels D i) rfl hT2.out.o2 ⟨wd.heap.size, 0, none⟩ 1 1 [.int .i64 (dDe D i)] rfl rfl (cell_one_new _ _ _) (one_one15 _) (by unfold maxLen; omega) (by omega) (by simp; omega) ?_; intro v' w5 hown hgrow _ hat; obtain ⟨g2', cap2', rfl⟩ := own_form15 hown (by omega); have x5 : w5.cell? ⟨w.heap.size + 1 + 1, 2, none⟩ = some v2 := hgrow.cell ((World.cell?_alloc_lt _ _ _ n2).trans y2) (fun e => absurd (show w.heap.size + 3 ≤ w.heap.size + 1 + 1 from (hT2.out.o2.lt _ e.symm).1) (by omega)); have f5 : w5.frozen? ⟨w.heap.size + 1 + 1, 2, none⟩ = false := grown_frozen hT2.out.fx (by simp; omega) hgrow (fun e => absurd (show w.heap.size + 3 ≤ w.heap.size + 1 + 1 from (hT2.out.o2.lt _ e.symm).1) (by omega)) 2; have G4 := Lib.hid (hT2.out.app2 hown hgrow hat); clear hown hgrow hat)
        go_roundw
        case rel => exact ⟨i + 1, _, _, _, by rw [← HX.out]; simp, HLT.out, G4⟩
        case measure =>
          have := HX.out
          simp [RowKit.intOf]
          omega
    · have hxm : i = dM D := by omega
      subst hxm
      have hc : ¬ x < 12 ∨ (x < 12 ∧ ¬ x = 0 ∧ ¬ x < (D.nc : Int)) := by unfold dM at hx hm1; omega
      have HX := Lib.hid hx
      clear hx hxn hlt hi
      have ha := Lib.hid (show ∀ w, (isAgg 25).run Tryz.prog w = .ok true w from fun w => by kernel_rfl)
      have hs := Lib.hid (show ∀ w, (sizeOf 25).run Tryz.prog w = .ok (nVs D v0 v1 v2).length w from fun w => by kernel_rfl)
      obtain ⟨g0, c0, rfl⟩ := own_form15 GI.out.o0 (by omega)
      obtain ⟨g1, c1, rfl⟩ := own_form15 GI.out.o1 (by omega)
      obtain ⟨g2, c2, rfl⟩ := own_form15 GI.out.o2 (by omega)
      rcases hc with c3 | ⟨c3, c4, c5⟩
      all_goals
        go_wp2_with (first | ((with_reducible refine at_load 25 (.tmp 3) ?_); refine wpList_load_whole rfl (.tmp 3) 25 rfl (w.heap.size + 1 + 1) 0 (nVs D (.slice (some ⟨g0, 0, none⟩) (dM D) c0) (.slice (some ⟨g1, 0, none⟩) (dM D) c1) (.slice (some ⟨g2, 0, none⟩) (dM D) c2)) rfl ha.out hs.out GI.out.gx ?_; simp only [Act.put, List.setIfInBounds_toArray, List.set_cons_succ, List.set_cons_zero]) | ((with_reducible refine at_store 25 (.tmp 2) (.tmp 113) ?_); refine wpList_store_whole_eq15 rfl (.tmp 2) (.tmp 113) 25 rfl (w.heap.size + 1) 0 (nVs D (.slice (some ⟨g0, 0, none⟩) (dM D) c0) (.slice (some ⟨g1, 0, none⟩) (dM D) c1) (.slice (some ⟨g2, 0, none⟩) (dM D) c2)) rfl rfl hs.out (fun j hj => GI.out.gr.some j hj) (fun j _ => GI.out.fr _) (nVs_one D rfl rfl rfl) ?_; intro hw8))
        have hL2 := run_loadVar_whole (P := Tryz.prog) 25 (w.heap.size + 1) 0 (nVs D (.slice (some ⟨g0, 0, none⟩) (dM D) c0) (.slice (some ⟨g1, 0, none⟩) (dM D) c1) (.slice (some ⟨g2, 0, none⟩) (dM D) c2)) ha.out hs.out hw8.here
        exact bodyPost_ret (v := .agg (nVs D (.slice (some ⟨g0, 0, none⟩) (dM D) c0) (.slice (some ⟨g1, 0, none⟩) (dM D) c1) (.slice (some ⟨g2, 0, none⟩) (dM D) c2)).toArray) (results_cell 2 25 Tryz.results5 (w.heap.size + 1) 0 _ rfl hL2) rfl
          ⟨_, _, _, rfl, ownsRow_setCells15 (by omega) _ _ _ GI.out.o0, ownsRow_setCells15 (by omega) _ _ _ GI.out.o1, ownsRow_setCells15 (by omega) _ _ _ GI.out.o2, hw8.below _ _ (by omega) GI.out.gb⟩

end Go.Proofs.YtkencmijghigiaaGreat
