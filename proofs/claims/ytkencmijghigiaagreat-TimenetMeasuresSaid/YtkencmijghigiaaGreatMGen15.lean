/-
  Networks of any shape: where they lie; Check, and what is answered for those that are not valid. No conditions.
-/
import Derived.Test.YtkencmijghigiaaGreatMTms
namespace Go.Proofs.YtkencmijghigiaaGreat
open Go.RowKit Go.Lib Go.Shelf Plain

/-- A network: its slices, where they lie, its numbers. -/
structure Gn where
  pc : Option Addr
  nc : Nat
  kc : Nat
  pp : Option Addr
  np : Nat
  kp : Nat
  pd : Option Addr
  nd : Nat
  kd : Nat
  tu : Int
  ga : Int
  st : Int
  iv : Int
  sy : Int
  cO : Nat → Int
  cP : Nat → Int
  pa : Nat → Int
  de : Nat → Int
def Gn.vs (g : Gn) : List Value := [.slice g.pc g.nc g.kc, .slice g.pp g.np g.kp, .slice g.pd g.nd g.kd, .int .i64 g.tu, .int .i64 g.ga, .int .i64 g.st, .int .i64 g.iv, .int .i64 g.sy]
theorem Gn.lit (g : Gn) : g.vs.toArray = #[.slice g.pc g.nc g.kc, .slice g.pp g.np g.kp, .slice g.pd g.nd g.kd, .int .i64 g.tu, .int .i64 g.ga, .int .i64 g.st, .int .i64 g.iv, .int .i64 g.sy] := rfl
theorem Gn.vs_one (g : Gn) : ∀ v ∈ g.vs, v.oneCell' = true := by
  intro v hv
  simp only [Gn.vs, List.mem_cons, List.not_mem_nil, or_false] at hv
  rcases hv with rfl | rfl | rfl | rfl | rfl | rfl | rfl | rfl <;> rfl
structure Gn.In (g : Gn) (w : World) : Prop where
  c : ∀ j, j < g.nc → ∃ b o, g.pc = some ⟨b, o, none⟩ ∧ w.cell? ⟨b, o + j * 2, none⟩ = some (.int .i64 (g.cO j)) ∧ w.cell? ⟨b, o + j * 2 + 1, none⟩ = some (.int .i64 (g.cP j))
  p : ∀ j, j < g.np → ∃ b o, g.pp = some ⟨b, o, none⟩ ∧ w.cell? ⟨b, o + j, none⟩ = some (.int .i64 (g.pa j))
  d : ∀ j, j < g.nd → ∃ b o, g.pd = some ⟨b, o, none⟩ ∧ w.cell? ⟨b, o + j, none⟩ = some (.int .i64 (g.de j))
theorem Gn.In.keep {g : Gn} {w W : World} (h : g.In w) (hb : Below w.heap.size w W) : g.In W where
  c j hj := let ⟨b, o, h1, h2, h3⟩ := h.c j hj; ⟨b, o, h1, below_keep hb h2, below_keep hb h3⟩
  p j hj := let ⟨b, o, h1, h2⟩ := h.p j hj; ⟨b, o, h1, below_keep hb h2⟩
  d j hj := let ⟨b, o, h1, h2⟩ := h.d j hj; ⟨b, o, h1, below_keep hb h2⟩
def Gn.nt (g : Gn) : Nt := { bc := (g.pc.getD ⟨0, 0, none⟩).block, oc := (g.pc.getD ⟨0, 0, none⟩).off, kc := g.kc, bp := (g.pp.getD ⟨0, 0, none⟩).block, op := (g.pp.getD ⟨0, 0, none⟩).off, kp := g.kp, bd := (g.pd.getD ⟨0, 0, none⟩).block, od := (g.pd.getD ⟨0, 0, none⟩).off, kd := g.kd, m := g.nc, tu := g.tu, ga := g.ga, st := g.st, iv := g.iv, sy := g.sy, cO := g.cO, cP := g.cP, pa := g.pa, de := g.de }
/-- The three slices are alike, and neither too short nor too long. -/
def Gn.Shp (g : Gn) : Prop := (1 ≤ g.nc ∧ g.nc ≤ 12) ∧ g.np = g.nc ∧ g.nd = g.nc
instance (g : Gn) : Decidable g.Shp := inferInstanceAs (Decidable (_ ∧ _))
theorem Gn.nt_of {g : Gn} {w : World} (h : g.In w) (hs : g.Shp) : g.vs = g.nt.vs ∧ g.nt.In w := by
  obtain ⟨⟨m1, m12⟩, e1, e2⟩ := hs
  obtain ⟨bc, oc, hc, -, -⟩ := h.c 0 (by omega)
  obtain ⟨bp, op, hp, -⟩ := h.p 0 (by omega)
  obtain ⟨bd, od, hd, -⟩ := h.d 0 (by omega)
  refine ⟨by simp [Gn.vs, Nt.vs, Gn.nt, hc, hp, hd, e1, e2], ⟨m1, fun j hj => ?_, fun j hj => ?_, fun j hj => ?_, fun j hj => ?_⟩⟩
  · obtain ⟨b, o, e, k0, _⟩ := h.c j hj
    simpa [Gn.nt, e] using k0
  · obtain ⟨b, o, e, _, k1⟩ := h.c j hj
    simpa [Gn.nt, e] using k1
  · obtain ⟨b, o, e, k0⟩ := h.p j (by rw [e1]; exact hj)
    simpa [Gn.nt, e] using k0
  · obtain ⟨b, o, e, k0⟩ := h.d j (by rw [e2]; exact hj)
    simpa [Gn.nt, e] using k0
/-- A valid network. -/
def gOk (g : Gn) : Prop := g.Shp ∧ netOk g.nt
instance (g : Gn) : Decidable (gOk g) := inferInstanceAs (Decidable (_ ∧ _))
def chkG (g : Gn) : Int := if gOk g then 0 else 250

set_option maxHeartbeats 8000000 in
set_option maxRecDepth 100000 in
theorem chkGen_any (g : Gn) (w : World) (hg : g.In w) : Calls Tryz.prog 8 #[.agg g.vs.toArray] w fun e w' => e = .returned (.int .i64 (chkG g)) ∧ Below w.heap.size w w' := by
  by_cases hs : g.Shp
  · obtain ⟨e, hn⟩ := Gn.nt_of hg hs
    rw [e]
    have h := chkNet_any g.nt hs.1.2 w hn
    rw [show chkG g = chkN g.nt by unfold chkG chkN gOk; simp [hs]]
    exact h
  · rw [show chkG g = 250 from if_neg fun h => hs h.1]
    have hc : (g.nc : Int) < 1 ∨ (¬ (g.nc : Int) < 1 ∧ (12 : Int) < (g.nc : Int)) ∨ ((¬ (g.nc : Int) < 1 ∧ ¬ (12 : Int) < (g.nc : Int)) ∧ ¬ (g.np : Int) = (g.nc : Int)) ∨ ((¬ (g.nc : Int) < 1 ∧ ¬ (12 : Int) < (g.nc : Int)) ∧ g.np = g.nc ∧ ¬ (g.nd : Int) = (g.nc : Int)) := by
      unfold Gn.Shp at hs
      omega
    clear hs hg
    rcases hc with h1 | ⟨h0, h1⟩ | ⟨⟨h0, h1⟩, h2⟩ | ⟨⟨h0, h1⟩, h2, h3⟩
    all_goals
      go_enter Tryz.func8, Tryz.ntmps8
      rw [g.lit]
      go_wp2
      go_ret
      exact ⟨rfl, below_alloc (Below.refl _ _) _⟩

set_option maxHeartbeats 8000000 in
set_option maxRecDepth 100000 in
theorem openBad_any (g : Gn) (i : Int) (w : World) (hg : g.In w) (h : ¬ gOk g) :
    Calls Tryz.prog 25 #[.agg g.vs.toArray, .int .i64 i] w fun y w' => y = .returned (.tuple #[.agg zT.toArray, .int .i64 250]) ∧ Below w.heap.size w w' := by
  have ha := Lib.hid (show ∀ w, (isAgg 67).run Tryz.prog w = .ok true w from fun w => by kernel_rfl)
  have hs0 := Lib.hid (show ∀ w, (sizeOf 67).run Tryz.prog w = .ok zT.length w from fun w => by kernel_rfl)
  have ha2 := Lib.hid (show ∀ w, (isAgg 25).run Tryz.prog w = .ok true w from fun w => by kernel_rfl)
  have hs2 := Lib.hid (show ∀ w, (sizeOf 25).run Tryz.prog w = .ok g.vs.length w from fun w => by kernel_rfl)
  have HC := Lib.hid (fun W (hW : g.In W) => chkGen_any g W hW)
  rw [show chkG g = 250 from if_neg h] at HC
  have HN := Lib.hid hg
  clear hg h
  go_enter Tryz.func25, Tryz.ntmps25
  rw [g.lit]
  go_upto_region 1 with fail
  refine wp_world ?_
  intro V hV
  have HM := Lib.hid (show Holds V w.heap.size g.vs by subst hV; exact (holds_alloc w g.vs 25 rfl).alloc (by simp) _)
  have HZ := Lib.hid (show Holds V (w.heap.size + 1) zT by subst hV; exact holds_alloc _ zT 67 (by simp))
  have FZ := Lib.hid (show ∀ u, V.frozen? ⟨w.heap.size + 1, u, none⟩ = false by subst hV; intro u; exact frozen_new _ _ _ _ (by simp))
  have HV := Lib.hid (show Below w.heap.size w V by subst hV; exact below_alloc (below_alloc (Below.refl _ _) _) _)
  have zV : w.heap.size + 1 < V.heap.size := World.block_lt_of_cell? _ _ (HZ.out 0 _ rfl)
  clear hV
  go_wp2_with ((with_reducible refine at_load 25 (.tmp 2) ?_); refine wpList_load_whole rfl (.tmp 2) 25 rfl w.heap.size 0 g.vs rfl ha2.out hs2.out HM.out ?_; simp only [Act.put, List.setIfInBounds_toArray, List.set_cons_succ, List.set_cons_zero])
  refine (HC.out _ (HN.out.keep HV.out)).mono ?_
  rintro y w1 ⟨rfl, hb1⟩
  have Z1 := Lib.hid (HZ.out.keep hb1)
  have F1 := Lib.hid (show ∀ u, w1.frozen? ⟨w.heap.size + 1, u, none⟩ = false from fun u => by rw [(bcell hb1).2 _ _ zV]; exact FZ.out u)
  have H1 := Lib.hid (below_step HV.out hb1)
  clear hb1 HM HZ FZ HV
  go_wp2_with ((with_reducible refine at_store 67 (.tmp 4) (.tmp 11) ?_); refine wpList_store_whole rfl (.tmp 4) (.tmp 11) 67 rfl (w.heap.size + 1) 0 zT rfl rfl hs0.out (fun j hj => Z1.out.some j hj) (fun j _ => F1.out _) zT_one ?_; intro w2 hw2)
  have hL2 := run_loadVar_whole (P := Tryz.prog) (w := w2) 67 (w.heap.size + 1) 0 zT ha.out hs0.out hw2.here
  exact bodyPost_ret (v := .tuple #[.agg zT.toArray, .int .i64 250]) (results_cell_tmp 4 5 67 Tryz.results25 (w.heap.size + 1) 0 _ _ rfl hL2 rfl) rfl ⟨rfl, hw2.below _ _ (by omega) H1.out⟩

set_option maxHeartbeats 8000000 in
set_option maxRecDepth 100000 in
theorem measBad_any (g : Gn) (i : Int) (w : World) (hg : g.In w) (h : ¬ gOk g) :
    Calls Tryz.prog 9 #[.agg g.vs.toArray, .int .i64 i] w fun y w' => y = .returned (.tuple #[.int .i64 0, .int .i64 0, .int .i64 250]) ∧ Below w.heap.size w w' := by
  have hs0 := Lib.hid (show ∀ w, (sizeOf 67).run Tryz.prog w = .ok zT.length w from fun w => by kernel_rfl)
  have ha2 := Lib.hid (show ∀ w, (isAgg 25).run Tryz.prog w = .ok true w from fun w => by kernel_rfl)
  have hs2 := Lib.hid (show ∀ w, (sizeOf 25).run Tryz.prog w = .ok g.vs.length w from fun w => by kernel_rfl)
  have HO := Lib.hid (fun W (hW : g.In W) => openBad_any g i W hW h)
  have HN := Lib.hid hg
  clear hg h
  go_enter Tryz.func9, Tryz.ntmps9
  rw [g.lit]
  go_wp2_with ((with_reducible refine at_load 25 (.tmp 2) ?_); refine wpList_load_whole rfl (.tmp 2) 25 rfl w.heap.size 0 g.vs rfl ha2.out hs2.out (holds_alloc w g.vs 25 rfl) ?_; simp only [Act.put, List.setIfInBounds_toArray, List.set_cons_succ, List.set_cons_zero])
  refine (HO.out _ (HN.out.keep (below_alloc (Below.refl _ _) _))).mono ?_
  rintro y w1 ⟨rfl, hb1⟩
  have H1 := Lib.hid (below_step (below_alloc (Below.refl _ _) _) hb1)
  have z1 := H1.out.size
  clear hb1 HO
  go_wp2_with ((with_reducible refine at_store 67 (.tmp 7) (.tmp 12) ?_); refine wpList_store_whole rfl (.tmp 7) (.tmp 12) 67 rfl w1.heap.size 0 zT rfl rfl hs0.out (zT_new _ rfl) (fun j _ => frozen_new _ _ _ _ rfl) zT_one ?_; intro w2 hw2)
  refine bodyPost_ret (v := .tuple #[.int .i64 0, .int .i64 0, .int .i64 250]) ?_ rfl ⟨rfl, hw2.below _ _ z1 (below_alloc H1.out _)⟩
  simp [results, Tryz.results9]

set_option maxHeartbeats 8000000 in
set_option maxRecDepth 100000 in
theorem arrBad_any (g : Gn) (i k : Int) (w : World) (hg : g.In w) (h : ¬ gOk g) :
    Calls Tryz.prog 10 #[.agg g.vs.toArray, .int .i64 i, .int .i64 k] w fun y w' => y = .returned (.tuple #[.int .i64 0, .int .i64 250]) ∧ Below w.heap.size w w' := by
  have hs0 := Lib.hid (show ∀ w, (sizeOf 67).run Tryz.prog w = .ok zT.length w from fun w => by kernel_rfl)
  have ha2 := Lib.hid (show ∀ w, (isAgg 25).run Tryz.prog w = .ok true w from fun w => by kernel_rfl)
  have hs2 := Lib.hid (show ∀ w, (sizeOf 25).run Tryz.prog w = .ok g.vs.length w from fun w => by kernel_rfl)
  have HO := Lib.hid (fun W (hW : g.In W) => openBad_any g i W hW h)
  have HN := Lib.hid hg
  clear hg h
  go_enter Tryz.func10, Tryz.ntmps10
  rw [g.lit]
  go_wp2_with ((with_reducible refine at_load 25 (.tmp 3) ?_); refine wpList_load_whole rfl (.tmp 3) 25 rfl w.heap.size 0 g.vs rfl ha2.out hs2.out (holds_alloc w g.vs 25 rfl) ?_; simp only [Act.put, List.setIfInBounds_toArray, List.set_cons_succ, List.set_cons_zero])
  refine (HO.out _ (HN.out.keep (below_alloc (Below.refl _ _) _))).mono ?_
  rintro y w1 ⟨rfl, hb1⟩
  have H1 := Lib.hid (below_step (below_alloc (Below.refl _ _) _) hb1)
  have z1 := H1.out.size
  clear hb1 HO
  go_wp2_with ((with_reducible refine at_store 67 (.tmp 8) (.tmp 14) ?_); refine wpList_store_whole rfl (.tmp 8) (.tmp 14) 67 rfl w1.heap.size 0 zT rfl rfl hs0.out (zT_new _ rfl) (fun j _ => frozen_new _ _ _ _ rfl) zT_one ?_; intro w2 hw2)
  go_ret2
  exact ⟨rfl, hw2.below _ _ z1 (below_alloc H1.out _)⟩

set_option maxHeartbeats 8000000 in
set_option maxRecDepth 100000 in
theorem infBad_any (g : Gn) (i k : Int) (w : World) (hg : g.In w) (h : ¬ gOk g) :
    Calls Tryz.prog 11 #[.agg g.vs.toArray, .int .i64 i, .int .i64 k] w fun y w' => y = .returned (.tuple #[.agg #[.int .i64 0, .int .i64 0, .int .i64 0], .int .i64 250]) ∧ Below w.heap.size w w' := by
  have hs0 := Lib.hid (show ∀ w, (sizeOf 67).run Tryz.prog w = .ok zT.length w from fun w => by kernel_rfl)
  have ha2 := Lib.hid (show ∀ w, (isAgg 25).run Tryz.prog w = .ok true w from fun w => by kernel_rfl)
  have hs2 := Lib.hid (show ∀ w, (sizeOf 25).run Tryz.prog w = .ok g.vs.length w from fun w => by kernel_rfl)
  have hai := Lib.hid agg_inf
  have hsz := Lib.hid (show ∀ w, (sizeOf 44).run Tryz.prog w = .ok [Value.int .i64 0, .int .i64 0, .int .i64 0].length w from size_inf)
  have HO := Lib.hid (fun W (hW : g.In W) => openBad_any g i W hW h)
  have HN := Lib.hid hg
  clear hg h
  go_enter Tryz.func11, Tryz.ntmps11
  rw [g.lit]
  go_upto_region 1 with fail
  refine wp_world ?_
  intro V hV
  have HM := Lib.hid (show Holds V w.heap.size g.vs by subst hV; exact (holds_alloc w g.vs 25 rfl).alloc (by simp) _)
  have HZ := Lib.hid (show Holds V (w.heap.size + 1) [.int .i64 0, .int .i64 0, .int .i64 0] by subst hV; exact holds_alloc _ [.int .i64 0, .int .i64 0, .int .i64 0] 44 (by simp))
  have FZ := Lib.hid (show ∀ u, V.frozen? ⟨w.heap.size + 1, u, none⟩ = false by subst hV; intro u; exact frozen_new _ _ _ _ (by simp))
  have HV := Lib.hid (show Below w.heap.size w V by subst hV; exact below_alloc (below_alloc (Below.refl _ _) _) _)
  have zV : w.heap.size + 1 < V.heap.size := World.block_lt_of_cell? _ _ (HZ.out 0 _ rfl)
  clear hV
  go_wp2_with ((with_reducible refine at_load 25 (.tmp 3) ?_); refine wpList_load_whole rfl (.tmp 3) 25 rfl w.heap.size 0 g.vs rfl ha2.out hs2.out HM.out ?_; simp only [Act.put, List.setIfInBounds_toArray, List.set_cons_succ, List.set_cons_zero])
  refine (HO.out _ (HN.out.keep HV.out)).mono ?_
  rintro y w1 ⟨rfl, hb1⟩
  have H1 := Lib.hid (below_step HV.out hb1)
  have Z1 := Lib.hid (HZ.out.keep hb1)
  have F1 := Lib.hid (show ∀ u, w1.frozen? ⟨w.heap.size + 1, u, none⟩ = false from fun u => by rw [(bcell hb1).2 _ _ zV]; exact FZ.out u)
  have z1 := H1.out.size
  have z2 : w.heap.size + 1 < w1.heap.size := World.block_lt_of_cell? _ _ (Z1.out 0 _ rfl)
  clear hb1 HO HM HZ FZ HV zV
  go_upto_region 2 with ((with_reducible refine at_store 67 (.tmp 8) (.tmp 16) ?_); refine wpList_store_whole rfl (.tmp 8) (.tmp 16) 67 rfl w1.heap.size 0 zT rfl rfl hs0.out (zT_new _ rfl) (fun j _ => frozen_new _ _ _ _ rfl) zT_one ?_; intro w2 hw2)
  have B2 := hw2.below _ _ (Nat.le_refl _) (below_alloc (Below.refl w1.heap.size w1) _)
  have H2 := Lib.hid (below_step H1.out B2)
  have Z2 := Lib.hid (Z1.out.keep B2)
  have F2 := Lib.hid (show ∀ u, w2.frozen? ⟨w.heap.size + 1, u, none⟩ = false from fun u => by rw [(bcell B2).2 _ _ z2]; exact F1.out u)
  clear hw2 B2 H1 Z1 F1
  go_wp2_with ((with_reducible refine at_store 44 (.tmp 6) (.tmp 20) ?_); refine wpList_store_whole rfl (.tmp 6) (.tmp 20) 44 rfl (w.heap.size + 1) 0 [.int .i64 0, .int .i64 0, .int .i64 0] rfl rfl hsz.out (fun j hj => Z2.out.some j hj) (fun j _ => F2.out _) (three_one15 _ _ _) ?_; intro w8 hw8)
  have hL2 := run_loadVar_whole (P := Tryz.prog) (w := w8) 44 (w.heap.size + 1) 0 [.int .i64 0, .int .i64 0, .int .i64 0] hai.out hsz.out hw8.here
  exact bodyPost_ret (v := .tuple #[.agg #[.int .i64 0, .int .i64 0, .int .i64 0], .int .i64 250]) (results_cell_tmp 6 7 44 Tryz.results11 (w.heap.size + 1) 0 _ _ rfl hL2 rfl) rfl ⟨rfl, hw8.below _ _ (by omega) H2.out⟩

end Go.Proofs.YtkencmijghigiaaGreat
