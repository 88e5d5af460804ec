/-
  The reference's Right. No conditions.
-/
import Derived.Test.YtkencmijghigiaaGreatMRfA15
import Derived.Test.YtkencmijghigiaaGreatMGen15
namespace Go.Proofs.YtkencmijghigiaaGreat
open Go.RowKit Go.Lib Go.Shelf Plain

/-- The first node's limb and those of the numbers, as the reference asks. -/
theorem ok_none {n : Nt} (h : ¬ netOk n) : decide (netOk n) = false := decide_eq_false h

set_option maxHeartbeats 16000000 in
set_option maxRecDepth 100000 in
theorem rightNt_any (n : Nt) (hm12 : n.m ≤ 12) (w : World) (hn : n.In w) (r : Bool) (hr : r = decide (netOk n)) :
    Calls Tryz.prog 7 #[.agg n.vs.toArray] w fun e w' => e = .returned (.bool r) ∧ Below w.heap.size w w' := by
  have hm1 := hn.m1
  have HN := Lib.hid hn
  have HR := Lib.hid hr
  have q1 : ¬ (n.m : Int) < 1 := by omega
  have q2 : ¬ (12 : Int) < (n.m : Int) := by omega
  have q3 : (0 : Int) < (n.m : Int) := by omega
  have p0 : w.cell? ⟨n.bp, n.op + 0, none⟩ = some (.int .i64 (n.pa 0)) := hn.p 0 hm1
  have d0 : w.cell? ⟨n.bd, n.od + 0, none⟩ = some (.int .i64 (n.de 0)) := hn.d 0 hm1
  rw [Nat.add_zero] at p0 d0
  have lp := hn.lp
  have ld := hn.ld
  have HC := Lib.hid (fun (O P : Int) W => clkRight_any O P W)
  have HI := Lib.hid (fun (a l t : Int) W => in15_any a l t W)
  clear hn hr
  by_cases c1 : n.pa 0 = -1
  · by_cases c2 : n.de 0 = 0
    · have c1b : n.pa 0 = -1 := c1
      rw [c1] at p0
      rw [c2] at d0
      have C0 := Lib.hid (And.intro c1 c2)
      clear c1 c2 c1b
      go_enter Tryz.func7, Tryz.ntmps7
      rw [n.lit]
      go_upto_region 1 with fail
      refine wp_world ?_
      intro V hV
      have HM := Lib.hid (show Holds V w.heap.size n.vs by subst hV; exact holds_alloc w n.vs 25 rfl)
      have HV := Lib.hid (show Below w.heap.size w V by subst hV; exact below_alloc (Below.refl _ _) _)
      clear hV
      have m0 : V.cell? ⟨w.heap.size, 0, none⟩ = some (.slice (some ⟨n.bc, n.oc, none⟩) n.m n.kc) := HM.out 0 _ rfl
      have m1 : V.cell? ⟨w.heap.size, 1, none⟩ = some (.slice (some ⟨n.bp, n.op, none⟩) n.m n.kp) := HM.out 1 _ rfl
      have m2 : V.cell? ⟨w.heap.size, 2, none⟩ = some (.slice (some ⟨n.bd, n.od, none⟩) n.m n.kd) := HM.out 2 _ rfl
      have p0' := below_keep HV.out p0
      have d0' := below_keep HV.out d0
      go_wp2
      clear m0 m1 m2 p0' d0' p0 d0
      go_loopw [4] (fun p wr => ∃ i : Nat, p = .int .i64 (i : Int) ∧ i ≤ n.m ∧ Hid (∀ j, j < i → nodeOk n j) ∧ Hid (Holds wr w.heap.size n.vs) ∧ Hid (Below w.heap.size w wr))
        (fun p _ => n.m - (RowKit.intOf p).toNat)
      case atStart => exact ⟨0, rfl, by omega, Lib.hid (fun j hj => absurd hj (by omega)), HM, HV⟩
      case round =>
        obtain ⟨i, rfl, hi, HO, GM, GB⟩ := hrel
        clear HM HV
        obtain ⟨x, hx⟩ : ∃ x : Int, (i : Int) = x := ⟨_, rfl⟩
        have hxn : x.toNat = i := by omega
        have hx0 : 0 ≤ x := by omega
        rw [hx]
        have m0 : wr.cell? ⟨w.heap.size, 0, none⟩ = some (.slice (some ⟨n.bc, n.oc, none⟩) n.m n.kc) := GM.out 0 _ rfl
        have m1 : wr.cell? ⟨w.heap.size, 1, none⟩ = some (.slice (some ⟨n.bp, n.op, none⟩) n.m n.kp) := GM.out 1 _ rfl
        have m2 : wr.cell? ⟨w.heap.size, 2, none⟩ = some (.slice (some ⟨n.bd, n.od, none⟩) n.m n.kd) := GM.out 2 _ rfl
        by_cases hlt : i < n.m
        · have x1 : x < (n.m : Int) := by omega
          have NN := HN.out.keep GB.out
          have e0 : wr.cell? ⟨n.bc, n.oc + x.toNat * 2, none⟩ = some (.int .i64 (n.cO i)) := by rw [hxn]; exact NN.c0 i hlt
          have e1 : wr.cell? ⟨n.bc, n.oc + x.toNat * 2 + 1, none⟩ = some (.int .i64 (n.cP i)) := by rw [hxn]; exact NN.c1 i hlt
          have e2 : wr.cell? ⟨n.bp, n.op + x.toNat, none⟩ = some (.int .i64 (n.pa i)) := by rw [hxn]; exact NN.p i hlt
          have e3 : wr.cell? ⟨n.bd, n.od + x.toNat, none⟩ = some (.int .i64 (n.de i)) := by rw [hxn]; exact NN.d i hlt
          have HX := Lib.hid hx
          clear NN
          have bad : ¬ nodeOk n i → r = false := fun h => by rw [HR.out]; exact decide_eq_false fun k => h (k.1 i hlt)
          have BAD := Lib.hid bad
          clear bad
          by_cases ok : OkC (n.cO i) (n.cP i)
          · have hok : okC (n.cO i) (n.cP i) = true := decide_eq_true ok
            by_cases z : i = 0
            · have zi : ¬ (0 : Int) < x := by omega
              have good : nodeOk n i := ⟨ok, fun _ => ⟨C0.out.1, C0.out.2⟩, fun h => absurd h (by omega)⟩
              have HO' := Lib.hid (show ∀ j, j < i + 1 → nodeOk n j from fun j hj => by
                rcases Nat.lt_or_eq_of_le (Nat.le_of_lt_succ hj) with h | h
                · exact HO.out j h
                · rw [h]; exact good)
              clear z ok good hx hxn hlt
              go_wp2_with fail
              refine (HC.out _ _ _).mono ?_
              rw [hok]
              rintro y w1 ⟨rfl, hb1⟩
              have GM1 := Lib.hid (GM.out.keep hb1)
              have GB1 := Lib.hid (below_step GB.out hb1)
              clear hb1
              go_wp2
              go_roundw
              case rel => exact ⟨i + 1, by rw [← HX.out]; simp, by have := HX.out; omega, HO', GM1, GB1⟩
              case measure =>
                have := HX.out
                simp [RowKit.intOf]
                omega
            · have zi : (0 : Int) < x := by omega
              have hw1 : wrap64 (x - 1) = x - 1 := by unfold wrap64; omega
              by_cases pk : 0 ≤ n.pa i ∧ n.pa i ≤ x - 1
              · have hpk : decide (0 ≤ n.pa i ∧ n.pa i ≤ x - 1) = true := decide_eq_true pk
                by_cases dk : 0 ≤ n.de i ∧ n.de i ≤ 10000
                · have hdk : decide (0 ≤ n.de i ∧ n.de i ≤ 10000) = true := decide_eq_true dk
                  have good : nodeOk n i := ⟨ok, fun h => absurd h (by omega), fun _ => ⟨⟨pk.1, by omega⟩, dk⟩⟩
                  have HO' := Lib.hid (show ∀ j, j < i + 1 → nodeOk n j from fun j hj => by
                    rcases Nat.lt_or_eq_of_le (Nat.le_of_lt_succ hj) with h | h
                    · exact HO.out j h
                    · rw [h]; exact good)
                  clear z ok good hx hxn hlt pk dk
                  go_wp2_with fail
                  refine (HC.out _ _ _).mono ?_
                  rw [hok]
                  rintro y w1 ⟨rfl, hb1⟩
                  have GM1 := Lib.hid (GM.out.keep hb1)
                  have GB1 := Lib.hid (below_step GB.out hb1)
                  have f1 := below_keep hb1 m1
                  have f2 := below_keep hb1 m2
                  have f3 := below_keep hb1 e2
                  have f4 := below_keep hb1 e3
                  clear hb1 m0 m1 m2 e0 e1 e2 e3
                  go_wp2_with fail
                  refine (HI.out _ _ _ _).mono ?_
                  rw [hpk]
                  rintro y w2 ⟨rfl, rfl⟩
                  go_wp2_with fail
                  refine (HI.out _ _ _ _).mono ?_
                  rw [hdk]
                  rintro y w2 ⟨rfl, rfl⟩
                  go_wp2
                  go_roundw
                  case rel => exact ⟨i + 1, by rw [← HX.out]; simp, by have := HX.out; omega, HO', GM1, GB1⟩
                  case measure =>
                    have := HX.out
                    simp [RowKit.intOf]
                    omega
                · have hdk : decide (0 ≤ n.de i ∧ n.de i ≤ 10000) = false := decide_eq_false dk
                  obtain rfl := BAD.out fun h => dk (h.2.2 (by omega)).2
                  clear z ok hx hxn hlt pk dk
                  go_wp2_with fail
                  refine (HC.out _ _ _).mono ?_
                  rw [hok]
                  rintro y w1 ⟨rfl, hb1⟩
                  have GB1 := Lib.hid (below_step GB.out hb1)
                  have f1 := below_keep hb1 m1
                  have f2 := below_keep hb1 m2
                  have f3 := below_keep hb1 e2
                  have f4 := below_keep hb1 e3
                  clear hb1 m0 m1 m2 e0 e1 e2 e3
                  go_wp2_with fail
                  refine (HI.out _ _ _ _).mono ?_
                  rw [hpk]
                  rintro y w2 ⟨rfl, rfl⟩
                  go_wp2_with fail
                  refine (HI.out _ _ _ _).mono ?_
                  rw [hdk]
                  rintro y w2 ⟨rfl, rfl⟩
                  go_wp2
                  go_ret
                  exact ⟨rfl, GB1.out⟩
              · have hpk : decide (0 ≤ n.pa i ∧ n.pa i ≤ x - 1) = false := decide_eq_false pk
                obtain rfl := BAD.out fun h => pk (by have := (h.2.2 (by omega)).1; omega)
                clear z ok hx hxn hlt pk
                go_wp2_with fail
                refine (HC.out _ _ _).mono ?_
                rw [hok]
                rintro y w1 ⟨rfl, hb1⟩
                have GB1 := Lib.hid (below_step GB.out hb1)
                have f1 := below_keep hb1 m1
                have f3 := below_keep hb1 e2
                clear hb1 m0 m1 m2 e0 e1 e2 e3
                go_wp2_with fail
                refine (HI.out _ _ _ _).mono ?_
                rw [hpk]
                rintro y w2 ⟨rfl, rfl⟩
                go_wp2
                go_ret
                exact ⟨rfl, GB1.out⟩
          · have hok : okC (n.cO i) (n.cP i) = false := decide_eq_false ok
            obtain rfl := BAD.out fun h => ok h.1
            clear ok hx hxn hlt
            go_wp2_with fail
            refine (HC.out _ _ _).mono ?_
            rw [hok]
            rintro y w1 ⟨rfl, hb1⟩
            have GB1 := Lib.hid (below_step GB.out hb1)
            go_wp2
            go_ret
            exact ⟨rfl, GB1.out⟩
        · have hxm : ¬ x < (n.m : Int) := by omega
          have hie : i = n.m := by omega
          have HO' := Lib.hid (show ∀ j, j < n.m → nodeOk n j from hie ▸ HO.out)
          have hnum : r = decide (numsOk n) := by rw [HR.out]; exact decide_eq_decide.2 ⟨fun h => h.2, fun h => ⟨HO'.out, h⟩⟩
          have m3 : wr.cell? ⟨w.heap.size, 3, none⟩ = some (.int .i64 n.tu) := GM.out 3 _ rfl
          have m4 : wr.cell? ⟨w.heap.size, 4, none⟩ = some (.int .i64 n.ga) := GM.out 4 _ rfl
          have m5 : wr.cell? ⟨w.heap.size, 5, none⟩ = some (.int .i64 n.st) := GM.out 5 _ rfl
          have m6 : wr.cell? ⟨w.heap.size, 6, none⟩ = some (.int .i64 n.iv) := GM.out 6 _ rfl
          have m7 : wr.cell? ⟨w.heap.size, 7, none⟩ = some (.int .i64 n.sy) := GM.out 7 _ rfl
          have BAD := Lib.hid (show ¬ numsOk n → r = false from fun h => by rw [hnum]; exact decide_eq_false h)
          have NUM := Lib.hid hnum
          clear hx hxn hi hie hlt HO HO' hnum m0 m1 m2
          by_cases b1 : 0 ≤ n.tu ∧ n.tu ≤ 1048576
          · have hb1 := decide_eq_true b1
            by_cases b2 : 10000 ≤ n.ga ∧ n.ga ≤ 1073741824
            · have hb2 := decide_eq_true b2
              by_cases b3 : 1 ≤ n.iv ∧ n.iv ≤ 4294967296
              · have hb3 := decide_eq_true b3
                by_cases b4 : 0 ≤ n.sy ∧ n.sy ≤ 1048576
                · have hb4 := decide_eq_true b4
                  have hfin : decide (n.ga + 20000 + n.tu ≤ n.st ∧ n.st ≤ 4294967296) = r := by
                    rw [NUM.out]
                    exact decide_eq_decide.2 ⟨fun h => ⟨⟨b1.1, b1.2, b2⟩, h, ⟨b3.1, b3.2, b4⟩⟩, fun h => h.2.1⟩
                  go_wp2_with fail
                  refine (HI.out _ _ _ _).mono ?_
                  rw [hb1]
                  rintro y w2 ⟨rfl, rfl⟩
                  go_wp2_with fail
                  refine (HI.out _ _ _ _).mono ?_
                  rw [hb2]
                  rintro y w2 ⟨rfl, rfl⟩
                  go_wp2_with fail
                  refine (HI.out _ _ _ _).mono ?_
                  rw [hb3]
                  rintro y w2 ⟨rfl, rfl⟩
                  go_wp2_with fail
                  refine (HI.out _ _ _ _).mono ?_
                  rw [hb4]
                  rintro y w2 ⟨rfl, rfl⟩
                  go_wp2_with fail
                  refine (HI.out _ _ _ _).mono ?_
                  rw [hfin]
                  rintro y w2 ⟨rfl, rfl⟩
                  go_wp2
                  go_ret
                  exact ⟨rfl, GB.out⟩
                · have hb4 := decide_eq_false b4
                  obtain rfl := BAD.out fun h => b4 h.2.2.2.2
                  go_wp2_with fail
                  refine (HI.out _ _ _ _).mono ?_
                  rw [hb1]
                  rintro y w2 ⟨rfl, rfl⟩
                  go_wp2_with fail
                  refine (HI.out _ _ _ _).mono ?_
                  rw [hb2]
                  rintro y w2 ⟨rfl, rfl⟩
                  go_wp2_with fail
                  refine (HI.out _ _ _ _).mono ?_
                  rw [hb3]
                  rintro y w2 ⟨rfl, rfl⟩
                  go_wp2_with fail
                  refine (HI.out _ _ _ _).mono ?_
                  rw [hb4]
                  rintro y w2 ⟨rfl, rfl⟩
                  go_wp2
                  go_ret
                  exact ⟨rfl, GB.out⟩
              · have hb3 := decide_eq_false b3
                obtain rfl := BAD.out fun h => b3 ⟨h.2.2.1, h.2.2.2.1⟩
                go_wp2_with fail
                refine (HI.out _ _ _ _).mono ?_
                rw [hb1]
                rintro y w2 ⟨rfl, rfl⟩
                go_wp2_with fail
                refine (HI.out _ _ _ _).mono ?_
                rw [hb2]
                rintro y w2 ⟨rfl, rfl⟩
                go_wp2_with fail
                refine (HI.out _ _ _ _).mono ?_
                rw [hb3]
                rintro y w2 ⟨rfl, rfl⟩
                go_wp2
                go_ret
                exact ⟨rfl, GB.out⟩
            · have hb2 := decide_eq_false b2
              obtain rfl := BAD.out fun h => b2 h.1.2.2
              go_wp2_with fail
              refine (HI.out _ _ _ _).mono ?_
              rw [hb1]
              rintro y w2 ⟨rfl, rfl⟩
              go_wp2_with fail
              refine (HI.out _ _ _ _).mono ?_
              rw [hb2]
              rintro y w2 ⟨rfl, rfl⟩
              go_wp2
              go_ret
              exact ⟨rfl, GB.out⟩
          · have hb1 := decide_eq_false b1
            obtain rfl := BAD.out fun h => b1 ⟨h.1.1, h.1.2.1⟩
            go_wp2_with fail
            refine (HI.out _ _ _ _).mono ?_
            rw [hb1]
            rintro y w2 ⟨rfl, rfl⟩
            go_wp2
            go_ret
            exact ⟨rfl, GB.out⟩
    · have hbad : r = false := by rw [HR.out]; exact decide_eq_false fun k => c2 ((k.1 0 hm1).2.1 rfl).2
      subst hbad
      rw [c1] at p0
      clear c1
      go_enter Tryz.func7, Tryz.ntmps7
      rw [n.lit]
      go_wp2
      go_ret
      exact ⟨rfl, below_alloc (Below.refl _ _) _⟩
  · have hbad : r = false := by rw [HR.out]; exact decide_eq_false fun k => c1 ((k.1 0 hm1).2.1 rfl).1
    subst hbad
    go_enter Tryz.func7, Tryz.ntmps7
    rw [n.lit]
    go_wp2
    go_ret
    exact ⟨rfl, below_alloc (Below.refl _ _) _⟩

set_option maxHeartbeats 8000000 in
set_option maxRecDepth 100000 in
theorem rightGen_any (g : Gn) (w : World) (hg : g.In w) : Calls Tryz.prog 7 #[.agg g.vs.toArray] w fun e w' => e = .returned (.bool (decide (gOk g))) ∧ Below w.heap.size w w' := by
  by_cases hs : g.Shp
  · obtain ⟨e, hn⟩ := Gn.nt_of hg hs
    rw [e]
    exact rightNt_any g.nt hs.1.2 w hn _ (decide_eq_decide.2 ⟨fun h => h.2, fun h => ⟨hs, h⟩⟩)
  · rw [show decide (gOk g) = false from decide_eq_false fun h => hs h.1]
    have hc : (g.nc : Int) < 1 ∨ (¬ (g.nc : Int) < 1 ∧ (12 : Int) < (g.nc : Int)) ∨ ((¬ (g.nc : Int) < 1 ∧ ¬ (12 : Int) < (g.nc : Int)) ∧ ¬ (g.np : Int) = (g.nc : Int)) ∨ ((¬ (g.nc : Int) < 1 ∧ ¬ (12 : Int) < (g.nc : Int)) ∧ g.np = g.nc ∧ ¬ (g.nd : Int) = (g.nc : Int)) := by
      unfold Gn.Shp at hs
      omega
    clear hs hg
    rcases hc with h1 | ⟨h0, h1⟩ | ⟨⟨h0, h1⟩, h2⟩ | ⟨⟨h0, h1⟩, h2, h3⟩
    all_goals
      go_enter Tryz.func7, Tryz.ntmps7
      rw [g.lit]
      go_wp2
      go_ret
      exact ⟨rfl, below_alloc (Below.refl _ _) _⟩

end Go.Proofs.YtkencmijghigiaaGreat
