/-
  topo.reach. No conditions.
-/
import Derived.Test.YtjhpbemnklpefaaMTpK
import Derived.Test.YtjhpbemnklpefaaMRow
namespace Go.Proofs.Ytjhpbemnklpefaa
open Go.RowKit Go.Lib Plain

theorem made_bool (n k : Nat) (h : k < n) : (madeCells (Value.bool false).cells (n * 1)).toList[k]? = some (.bool false) := by
  have e : k % 1 = 0 := Nat.mod_one k
  simp [madeCells, Value.cells, h, e]
theorem infoBool' : ((Try.prog).info? 4).map (fun i => (i.zero, i.size, i.bytes)) = some (some (.bool false), 1, 1) := by kernel_rfl
def z24 : List Value := List.replicate 24 (.bool false)

theorem z24_at (i : Nat) (hi : i < 24) : z24[i]? = some (.bool false) := by
  unfold z24
  rw [List.getElem?_replicate, if_pos hi]

/-- Which nodes are reached, as the row has it. -/
structure RS (g : Tg) (w : World) (tb rb : Nat) (r : Nat → Bool) (W : World) : Prop where
  c : ∀ k, k < g.T.n → W.cell? ⟨rb, k, none⟩ = some (.bool (r k))
  f : ∀ x, W.frozen? ⟨rb, x, none⟩ = false
  t : TAt g tb W
  z : ∀ i, i < 24 → W.cell? ⟨tb + 1, i, none⟩ = some (.bool false)
  b : Below w.heap.size w W
  lt : rb < W.heap.size
  h1 : tb + 1 < rb
  h2 : w.heap.size ≤ tb
section
variable {g : Tg} {w : World} {tb rb : Nat} {r : Nat → Bool} {W W' : World}
theorem RS.keep (h : RS g w tb rb r W) (hb : Below W.heap.size W W') : RS g w tb rb r W' :=
  ⟨fun k hk => below_keep hb (h.c k hk), fun x => by rw [hb.frozen (p := ⟨rb, x, none⟩) h.lt]; exact h.f x, h.t.keep hb, fun i hi => below_keep hb (h.z i hi), below_step h.b hb, Nat.lt_of_lt_of_le h.lt hb.size, h.h1, h.h2⟩
theorem RS.set (h : RS g w tb rb r W) (hg : g.In w) {k : Nat} (hk : k < g.T.n) : RS g w tb rb (upd r k true) (W.setCell ⟨rb, k, none⟩ (.bool true)) := by
  have hb' : Below w.heap.size w (W.setCell ⟨rb, k, none⟩ (.bool true)) := h.b.setCell (p := ⟨rb, k, none⟩) (by show w.heap.size ≤ rb; have := h.h1; have := h.h2; omega) _
  have hne : tb ≠ rb := by have := h.h1; omega
  have hne1 : tb + 1 ≠ rb := by have := h.h1; omega
  refine ⟨fun j hj => ?_, fun x => by rw [World.frozen?_setCell]; exact h.f x, ⟨?_, ?_, ?_, hg.keep hb'⟩, fun i hi => ?_, hb', by simpa [World.setCell] using h.lt, h.h1, h.h2⟩
  · by_cases e : j = k
    · subst e
      rw [upd_same]
      exact World.cell?_setCell_same _ _ _ (h.c j hj)
    · rw [upd_ne _ _ e, World.cell?_setCell_other (h := by intro x; injection x with _ x _; omega)]
      exact h.c j hj
  · rw [World.cell?_setCell_far _ _ _ _ (Ne.symm hne)]; exact h.t.c0
  · rw [World.cell?_setCell_far _ _ _ _ (Ne.symm hne)]; exact h.t.c1
  · rw [World.cell?_setCell_far _ _ _ _ (Ne.symm hne)]; exact h.t.c2
  · rw [World.cell?_setCell_far _ _ _ _ (Ne.symm hne1)]; exact h.z i hi
theorem RS.eq (h : RS g w tb rb r W) {r' : Nat → Bool} (e : r = r') : RS g w tb rb r' W := e ▸ h
end
theorem stepR_no {r : Nat → Bool} {l : Lk} (h : (r l.a != r l.b) = false) : stepR r l = r := by
  unfold stepR
  rw [if_neg (by rw [h]; exact Bool.false_ne_true)]
theorem stepR_yes {r : Nat → Bool} {l : Lk} (h : (r l.a != r l.b) = true) : stepR r l = upd (upd r l.a true) l.b true := by
  unfold stepR
  rw [if_pos h]
theorem upd_comm2 (r : Nat → Bool) (a b : Nat) : upd (upd r a true) b true = upd (upd r b true) a true := by
  funext k
  unfold upd
  split <;> split <;> rfl

set_option maxHeartbeats 8000000 in
set_option maxRecDepth 100000 in
theorem reach_any (g : Tg) (hk : OkT g.T) (w : World) (hg : g.In w) :
    Calls Try.prog 41 #[.agg #[.int .i64 (g.T.n : Int), .slice (some ⟨g.bs, g.os, none⟩) g.T.n g.ks, .slice (some ⟨g.bl, g.ol, none⟩) g.T.ls.length g.kl], .int .i64 0, .agg z24.toArray] w fun e w' => e = .returned (.slice (some ⟨w.heap.size + 1 + 1, 0, none⟩) g.T.n g.T.n) ∧ (∀ k, k < g.T.n → w'.cell? ⟨w.heap.size + 1 + 1, k, none⟩ = some (.bool true)) ∧ Below w.heap.size w w' := by
  have HG := Lib.hid hg
  have l24 := hk.l24
  have n2 := hk.n2
  have n12 := hk.n12
  clear hg
  obtain ⟨i0, hi0, hz0, hz1, hz2⟩ := info_parts infoBool'
  go_enter Try.func41, Try.ntmps41
  obtain ⟨V0, hV0⟩ : ∃ V0, V0 = ((w.alloc (.cells #[.int .i64 (g.T.n : Int), .slice (some ⟨g.bs, g.os, none⟩) g.T.n g.ks, .slice (some ⟨g.bl, g.ol, none⟩) g.T.ls.length g.kl] 29)).alloc (.cells z24.toArray 59)) := ⟨_, rfl⟩
  have z0 : V0.heap.size = w.heap.size + 1 + 1 := by subst hV0; simp
  have B0 := Lib.hid (show Below w.heap.size w V0 by subst hV0; exact below_alloc (below_alloc (Below.refl _ _) _) _)
  have T0 := Lib.hid (show TAt g w.heap.size V0 by subst hV0; exact (TAt.new HG.out 29).keep (below_alloc (Below.refl _ _) _))
  have Z0 := Lib.hid (show ∀ i, i < 24 → V0.cell? ⟨w.heap.size + 1, i, none⟩ = some (.bool false) by
    subst hV0
    intro i hi
    have := holds_alloc (w.alloc (.cells #[.int .i64 (g.T.n : Int), .slice (some ⟨g.bs, g.os, none⟩) g.T.n g.ks, .slice (some ⟨g.bl, g.ol, none⟩) g.T.ls.length g.kl] 29)) z24 59 (b := w.heap.size + 1) (by simp) i (.bool false) (z24_at i hi)
    rwa [Nat.zero_add] at this)
  have c0 := T0.out.c0
  rw [hV0] at c0
  have H0 := Lib.hid hV0
  clear hV0
  go_upto_region 2 with (at_make; rw [← H0.out]; refine wpList_make_full _ rfl _ _ 26 rfl V0.heap.size 4 i0 _ 1 Try.underlying26 hi0 hz0 hz1 _ _ _ _ g.T.n rfl rfl rfl rfl (by rw [hz2]; omega) (by unfold maxLen; omega) (Nat.le_refl _) ?_; intro V hown hgrow)
  have hr : RS g w w.heap.size (w.heap.size + 1 + 1) (fun _ => false) V := by
    have hb : Below V0.heap.size V0 V := ⟨hgrow.os, hgrow.tape, hgrow.output, hgrow.size, fun k hk => hgrow.block k hk (by simp)⟩
    refine ⟨fun k hk => ?_, fun x => ?_, T0.out.keep hb, fun i hi => below_keep hb (Z0.out i hi), below_step B0.out hb, ?_, by omega, Nat.le_refl _⟩
    · rw [← z0, hown.cellAt k (by omega)]
      exact made_bool _ _ hk
    · rw [← z0]
      exact hown.frozenAt x
    · rw [← z0]
      exact (hown.lt _ rfl).2
  have HR := Lib.hid hr
  have k0 := HR.out.c 0 (by omega)
  have kf := HR.out.f
  have c0' := HR.out.t.c0
  have n2' : (0 : Int) < (g.T.n : Int) := by omega
  clear hown hgrow hr c0 H0 B0 T0 Z0 hi0 hz0 hz1 hz2
  go_wp2
  have HR1 := Lib.hid ((HR.out.set HG.out (k := 0) (by omega)).eq (show upd (fun _ => false) 0 true = rch g.T 0 by
    funext k
    unfold upd rch
    by_cases e : k = 0
    · rw [if_pos e, decide_eq_true e]
    · rw [if_neg e, decide_eq_false e]))
  clear HR k0 kf c0'
  go_loopw [18] (fun p wr => ∃ i : Nat, p = .int .i64 (i : Int) ∧ i ≤ g.T.n ∧ Hid (RS g w w.heap.size (w.heap.size + 1 + 1) (rch g.T i) wr)) (fun p _ => g.T.n - (RowKit.intOf p).toNat)
  case atStart => exact ⟨0, rfl, by omega, HR1⟩
  case round =>
    clear HR1
    obtain ⟨i, rfl, hi, GR⟩ := hrel
    by_cases hlt : i < g.T.n
    · have hlt1 : (i : Int) < (g.T.n : Int) := by omega
      have c2 := GR.out.t.c2
      go_wp2
      go_loopw [23] (fun p wx => ∃ j : Nat, p = .int .i64 (j : Int) ∧ j ≤ g.T.ls.length ∧ Hid (RS g w w.heap.size (w.heap.size + 1 + 1) (roundR (g.T.ls.take j) (rch g.T i)) wx)) (fun p _ => g.T.ls.length - (RowKit.intOf p).toNat)
      case atStart => exact ⟨0, rfl, by omega, GR⟩
      case round =>
        clear GR c2
        obtain ⟨j, rfl, hj, GX⟩ := hrel
        rename_i wx _
        by_cases hjl : j < g.T.ls.length
        · have hj1 : (j : Int) < (g.T.ls.length : Int) := by omega
          have hj24 : (j : Int) < 24 := by omega
          have k0 := GX.out.t.i.a j hjl; have k1 := GX.out.t.i.b j hjl; have k2 := GX.out.t.i.p j hjl; have k3 := GX.out.t.i.d j hjl
          have oa := (hk.ok j hjl).a; have ob := (hk.ok j hjl).b; have on := (hk.ok j hjl).ne
          have hS : roundR (g.T.ls.take (j + 1)) (rch g.T i) = stepR (roundR (g.T.ls.take j) (rch g.T i)) (g.T.lk j) := roundR_take_succ hjl
          have HS := Lib.hid hS
          clear hS
          obtain ⟨r, hr⟩ : ∃ r, roundR (g.T.ls.take j) (rch g.T i) = r := ⟨_, rfl⟩
          rw [hr] at HS GX
          clear hr
          obtain ⟨l, hl⟩ : ∃ l, g.T.lk j = l := ⟨_, rfl⟩
          rw [hl] at HS k0 k1 k2 k3 oa ob on
          clear hl
          go_upto_region 8 with fail
          obtain ⟨W, hW⟩ : ∃ W, W = wr.alloc (.cells #[.int .i64 (l.a : Int), .int .i64 (l.b : Int), .int .i64 (l.per : Int), .int .i64 (l.dly : Int)] 50) := ⟨_, rfl⟩
          have GW := Lib.hid (show RS g w w.heap.size (w.heap.size + 1 + 1) r W by rw [hW]; exact GX.out.keep (below_alloc (Below.refl _ _) _))
          have d0 : W.cell? ⟨wr.heap.size, 0, none⟩ = some (.int .i64 (l.a : Int)) := by rw [hW]; simp [go_sem]
          have d1 : W.cell? ⟨wr.heap.size, 1, none⟩ = some (.int .i64 (l.b : Int)) := by rw [hW]; simp [go_sem]
          rw [← hW]
          clear hW k0 k1 k2 k3 GX
          have e0 := GW.out.z j (by omega)
          have e1 := GW.out.c l.a oa
          have e2 := GW.out.c l.b ob
          have oa' : (l.a : Int) < (g.T.n : Int) := by omega
          have ob' : (l.b : Int) < (g.T.n : Int) := by omega
          have g0 := fun p : Regrown => cell_regrown e0 p.d p.os
          have g1 := fun p : Regrown => cell_regrown e1 p.d p.os
          have g2 := fun p : Regrown => cell_regrown e2 p.d p.os
          have g3 := fun p : Regrown => cell_regrown d0 p.d p.os
          have g4 := fun p : Regrown => cell_regrown d1 p.d p.os
          refine wp_region_quiet_below (by kernel_rfl) (by kernel_rfl) ?_
          repeat (go_big_quiet_step (fail))
          refine wpQuiet_nil ?_
          rintro W6 ⟨pr, hpr⟩
          have G6 := Lib.hid (GW.out.keep (show Below W.heap.size W W6 by rw [hpr]; exact below_regrown W pr.d pr.os))
          have d0 : W6.cell? ⟨wr.heap.size, 0, none⟩ = some (.int .i64 (l.a : Int)) := by rw [hpr]; exact g3 pr
          have d1 : W6.cell? ⟨wr.heap.size, 1, none⟩ = some (.int .i64 (l.b : Int)) := by rw [hpr]; exact g4 pr
          clear hpr g0 g1 g2 g3 g4 e0 e1 e2 GW
          generalize hbb : (!r l.a == r l.b) = bb
          cases bb with
          | false =>
            have hd2 : (r l.a != r l.b) = false := hbb
            clear hbb
            go_wp2
            go_roundw
            case rel => exact ⟨j + 1, by rw [Int.natCast_add]; rfl, by omega, Lib.hid (by rw [HS.out, stepR_no hd2]; exact G6.out)⟩
            case measure =>
              simp [RowKit.intOf]
              omega
          | true =>
            have hd2 : (r l.a != r l.b) = true := hbb
            have hd3 := Lib.hid hd2
            clear hbb hd2
            have e1 := G6.out.c l.a oa
            have e2 := G6.out.c l.b ob
            have ef := G6.out.f
            have hne : wr.heap.size ≠ w.heap.size + 1 + 1 := fun e => by
              rw [e] at d0
              have := G6.out.c 0 (by omega)
              rw [this] at d0
              cases d0
            have la := World.block_lt_of_cell? _ _ e1
            have e12 : (W6.setCell ⟨w.heap.size + 1 + 1, l.a, none⟩ (.bool true)).cell? ⟨w.heap.size + 1 + 1, l.b, none⟩ = some (.bool (r l.b)) := (World.cell?_setCell_other _ _ _ _ (by intro x; injection x with _ x _; omega)).trans e2
            have e21 : (W6.setCell ⟨w.heap.size + 1 + 1, l.b, none⟩ (.bool true)).cell? ⟨w.heap.size + 1 + 1, l.a, none⟩ = some (.bool (r l.a)) := (World.cell?_setCell_other _ _ _ _ (by intro x; injection x with _ x _; omega)).trans e1
            have S1 := Lib.hid (((G6.out.set HG.out oa).set HG.out ob).keep (Below.drew (Below.refl _ _)))
            go_wp2_with fail
            go_region
            all_goals
              go_wp2
              go_roundw
            case rel => exact ⟨j + 1, by rw [Int.natCast_add]; rfl, by omega, Lib.hid (by rw [HS.out, stepR_yes hd3.out]; exact S1.out)⟩
            case measure =>
              simp [RowKit.intOf]
              omega
        · have hj1 : ¬ (j : Int) < (g.T.ls.length : Int) := by omega
          have hje : j = g.T.ls.length := by omega
          have hE : roundR (g.T.ls.take j) (rch g.T i) = rch g.T (i + 1) := by rw [hje, List.take_length]; rfl
          rw [hE] at GX
          clear hE hje hjl hj
          go_wp2
          go_roundw
          case rel => exact ⟨i + 1, by rw [Int.natCast_add]; rfl, by omega, GX⟩
          case measure =>
            simp [RowKit.intOf]
            omega
    · have hlt1 : ¬ (i : Int) < (g.T.n : Int) := by omega
      obtain rfl : i = g.T.n := by omega
      have hc := Lib.hid (show ∀ k, k < g.T.n → wr.cell? ⟨w.heap.size + 1 + 1, k, none⟩ = some (.bool true) from fun k hk' => by
        rw [GR.out.c k hk', hk.con k hk'])
      go_wp2
      go_ret
      exact ⟨rfl, hc.out, GR.out.b⟩

end Go.Proofs.Ytjhpbemnklpefaa
