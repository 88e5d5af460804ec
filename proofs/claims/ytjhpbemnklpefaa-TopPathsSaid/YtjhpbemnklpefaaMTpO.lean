/-
  path.open, path.between at a valid topology. No conditions.
-/
import Derived.Deep.CutRange
import Derived.Deep.DeepCutAuto
import Derived.Test.YtjhpbemnklpefaaMAB
import Derived.Test.YtjhpbemnklpefaaMRow
namespace Go.Proofs.Ytjhpbemnklpefaa
open Go.RowKit Go.Lib Plain

def zS : List Value := [.int .i64 0, .slice none 0 0, .slice none 0 0] ++ List.replicate 96 (.int .i64 0)
theorem zS_len : zS.length = 99 := rfl
theorem sFn_zero (g : Tg) : sFn g (fun _ => 0) (fun _ => 0) = g.vs ++ List.replicate 96 (.int .i64 0) := rfl

def upto (f : Nat → Nat) (p : Nat) : Nat → Nat := fun q => if q < p then f q else 0
theorem upto_succ (f : Nat → Nat) (p : Nat) : upd (upto f p) p (f p) = upto f (p + 1) := by
  funext q
  unfold upd upto
  by_cases e : q = p
  · subst e
    rw [if_pos rfl, if_pos (by omega)]
  · rw [if_neg e]
    by_cases h : q < p
    · rw [if_pos h, if_pos (by omega)]
    · rw [if_neg h, if_neg (by omega)]
theorem upto_zero (f : Nat → Nat) : upto f 0 = fun _ => 0 := by
  funext q
  unfold upto
  rw [if_neg (Nat.not_lt_zero q)]
theorem lk_out {T : Tp} {i : Nat} (h : T.ls.length ≤ i) : T.lk i = ⟨0, 0, 0, 0⟩ := by
  unfold Tp.lk
  rw [List.getD_eq_getElem?_getD, List.getElem?_eq_none h]
  rfl
theorem upto_fr (T : Tp) : upto T.fr T.pn = T.fr := by
  funext q
  unfold upto
  by_cases h : q < T.pn
  · rw [if_pos h]
  · rw [if_neg h]
    unfold Tp.pn at h
    unfold Tp.fr
    rw [lk_out (by omega)]
    split <;> rfl
theorem upto_to (T : Tp) : upto T.to T.pn = T.to := by
  funext q
  unfold upto
  by_cases h : q < T.pn
  · rw [if_pos h]
  · rw [if_neg h]
    unfold Tp.pn at h
    unfold Tp.to
    rw [lk_out (by omega)]
    split <;> rfl

/-- What holds while the ports are filled in. -/
structure OS (g : Tg) (w : World) (sb : Nat) (p : Nat) (W : World) : Prop where
  s : Holds W sb (sFn g (upto g.T.fr p) (upto g.T.to p))
  f : ∀ x, W.frozen? ⟨sb, x, none⟩ = false
  t : TAt g w.heap.size W
  r : Holds W (w.heap.size + 1) zS
  rf : ∀ x, W.frozen? ⟨w.heap.size + 1, x, none⟩ = false
  b : Below w.heap.size w W
  h1 : w.heap.size + 1 < sb
  lt : sb < W.heap.size
section
variable {g : Tg} {w : World} {sb p : Nat} {W W' : World}
theorem OS.keep (h : OS g w sb p W) (hb : Below W.heap.size W W') : OS g w sb p W' :=
  ⟨h.s.keep hb, fun x => by rw [hb.frozen (p := ⟨sb, x, none⟩) h.lt]; exact h.f x, h.t.keep hb, h.r.keep hb, fun x => by rw [hb.frozen (p := ⟨w.heap.size + 1, x, none⟩) (Nat.lt_trans h.h1 h.lt)]; exact h.rf x, below_step h.b hb, h.h1, Nat.lt_of_lt_of_le h.lt hb.size⟩
theorem OS.put (h : OS g w sb p W) (hg : g.In w) (hp : p < 48) (hb : Below (W.setCell ⟨sb, 3 + p, none⟩ (.int .i64 (g.T.fr p : Int))).heap.size (W.setCell ⟨sb, 3 + p, none⟩ (.int .i64 (g.T.fr p : Int))) W') :
    OS g w sb (p + 1) (W'.setCell ⟨sb, 51 + p, none⟩ (.int .i64 (g.T.to p : Int))) := by
  have h1 := h.h1
  have hz : sb < W'.heap.size := Nat.lt_of_lt_of_le (by simpa [World.setCell] using h.lt) hb.size
  have b1 : Below w.heap.size w (W.setCell ⟨sb, 3 + p, none⟩ (.int .i64 (g.T.fr p : Int))) := h.b.setCell (p := ⟨sb, 3 + p, none⟩) (by show w.heap.size ≤ sb; omega) _
  have b2 : Below w.heap.size w (W'.setCell ⟨sb, 51 + p, none⟩ (.int .i64 (g.T.to p : Int))) := (below_step b1 hb).setCell (p := ⟨sb, 51 + p, none⟩) (by show w.heap.size ≤ sb; omega) _
  have far : ∀ b o v, b ≠ sb → W.cell? ⟨b, o, none⟩ = some v → (W'.setCell ⟨sb, 51 + p, none⟩ (.int .i64 (g.T.to p : Int))).cell? ⟨b, o, none⟩ = some v := fun b o v hne hv => by
    rw [World.cell?_setCell_far _ _ _ _ (Ne.symm hne)]
    exact below_keep hb (by rw [World.cell?_setCell_far _ _ _ _ (Ne.symm hne)]; exact hv)
  refine ⟨?_, fun x => ?_, ⟨far _ _ _ (by omega) h.t.c0, far _ _ _ (by omega) h.t.c1, far _ _ _ (by omega) h.t.c2, hg.keep b2⟩, fun j v hj => far _ _ _ (by omega) (h.r j v hj), fun x => ?_, b2, h1, by simpa [World.setCell] using hz⟩
  · have e1 := h.s.set (3 + p) (.int .i64 (g.T.fr p : Int))
    rw [sFn_setF g _ _ p _ hp, upto_succ] at e1
    have e2 := (e1.keep hb).set (51 + p) (.int .i64 (g.T.to p : Int))
    rw [sFn_setT g _ _ p, upto_succ] at e2
    exact e2
  · rw [World.frozen?_setCell, hb.frozen (p := ⟨sb, x, none⟩) (by show sb < _; simpa [World.setCell] using h.lt), World.frozen?_setCell]
    exact h.f x
  · rw [World.frozen?_setCell, hb.frozen (p := ⟨w.heap.size + 1, x, none⟩) (by show w.heap.size + 1 < _; simpa [World.setCell] using Nat.lt_trans h1 h.lt), World.frozen?_setCell]
    exact h.rf x
end

set_option maxHeartbeats 16000000 in
set_option maxRecDepth 100000 in
theorem open_any (g : Tg) (hk : OkT g.T) (w : World) (hg : g.In w) :
    Calls Try.prog 28 #[.agg #[.int .i64 (g.T.n : Int), .slice (some ⟨g.bs, g.os, none⟩) g.T.n g.ks, .slice (some ⟨g.bl, g.ol, none⟩) g.T.ls.length g.kl]] w fun e w' => e = .returned (.tuple #[.agg (Sv g).toArray, .int .i64 0]) ∧ Below w.heap.size w w' := by
  have HG := Lib.hid hg
  have l24 := hk.l24
  have HC := Lib.hid (fun W hW => check_any g hk W hW)
  have HF := Lib.hid (fun p hp W hW => from_any g hk p hp W hW)
  have HT := Lib.hid (fun p hp W hW => to_any g hk p hp W hW)
  have HP := Lib.hid (fun f t W => ports_any g f t l24 W)
  clear hg
  go_enter Try.func28, Try.ntmps28
  go_upto_region 1 with fail
  refine wp_world ?_
  intro V hV
  have zV : V.heap.size = w.heap.size + 2 := by subst hV; simp
  have HV := Lib.hid (show Below w.heap.size w V by subst hV; exact below_alloc (below_alloc (Below.refl _ _) _) _)
  have TV := Lib.hid (show TAt g w.heap.size V by subst hV; exact (TAt.new HG.out 29).keep (below_alloc (Below.refl _ _) _))
  have RV := Lib.hid (show Holds V (w.heap.size + 1) zS by subst hV; exact holds_alloc _ zS 55 (by simp))
  have RF := Lib.hid (show ∀ x, V.frozen? ⟨w.heap.size + 1, x, none⟩ = false by subst hV; exact fun x => frozen_new _ _ _ _ (by simp))
  clear hV
  have c0 := TV.out.c0; have c1 := TV.out.c1; have c2 := TV.out.c2
  go_wp2_with fail
  refine (HC.out _ TV.out.i).mono ?_
  rintro e w1 ⟨rfl, hb1⟩
  have B1 := Lib.hid (below_step HV.out hb1)
  have T1 := Lib.hid (TV.out.keep hb1)
  have R1 := Lib.hid (RV.out.keep hb1)
  have F1 := Lib.hid (show ∀ x, w1.frozen? ⟨w.heap.size + 1, x, none⟩ = false from fun x => by rw [hb1.frozen (p := ⟨w.heap.size + 1, x, none⟩) (by show w.heap.size + 1 < _; omega)]; exact RF.out x)
  have z1 := hb1.size
  have c0 := T1.out.c0; have c1 := T1.out.c1; have c2 := T1.out.c2
  clear hb1 HV TV RV RF HC
  go_upto_region 5 with ((with_reducible refine at_store 55 (.tmp 5) (.tmp 14) ?_); refine wpList_store_whole rfl (.tmp 5) (.tmp 14) 55 rfl w1.heap.size 0 (sFn g (fun _ => 0) (fun _ => 0)) rfl rfl (size55 g _ _) (fun j hj => by rw [sFn_len] at hj; exact (holds_alloc w1 zS 55 rfl).some j (by rw [zS_len]; exact hj)) (fun j _ => frozen_new _ _ _ _ rfl) (sFn_one g _ _) ?_; intro W2 hw2)
  obtain ⟨sb, hsb⟩ : ∃ sb, sb = w1.heap.size := ⟨_, rfl⟩
  have HS := Lib.hid (show OS g w sb 0 W2 from by
    have hz : W2.heap.size = w1.heap.size + 1 := by rw [hw2.size]; simp
    have hb : Below w1.heap.size w1 W2 := hw2.below _ _ (Nat.le_refl _) (below_alloc (Below.refl _ _) _)
    refine ⟨?_, fun x => ?_, T1.out.keep hb, R1.out.keep hb, fun x => ?_, below_step B1.out hb, by omega, by omega⟩
    · rw [upto_zero, upto_zero, hsb]
      exact hw2.here
    · rw [hsb, hw2.frozen]
      exact frozen_new _ _ _ _ rfl
    · rw [hb.frozen (p := ⟨w.heap.size + 1, x, none⟩) (by show w.heap.size + 1 < _; omega)]
      exact F1.out x)
  rw [← hsb]
  clear hw2 hsb B1 T1 R1 F1 z1 c0 c1 c2
  simp only [Act.put, List.setIfInBounds_toArray, List.set_cons_succ, List.set_cons_zero]
  go_wp2_with ((with_reducible refine at_load 55 (.tmp 5) ?_); refine wpList_load_whole rfl (.tmp 5) 55 rfl sb 0 (sFn g (upto g.T.fr 0) (upto g.T.to 0)) rfl agg55 (size55 g _ _) HS.out.s ?_; simp only [Act.put, List.setIfInBounds_toArray, List.set_cons_succ, List.set_cons_zero])
  refine (HP.out _ _ _).mono ?_
  rintro e W3 ⟨rfl, hb3⟩
  have HS3 := Lib.hid (HS.out.keep hb3)
  clear hb3 HS HP
  generalize (sFn g (upto g.T.fr 0) (upto g.T.to 0)).toArray = A99
  generalize Value.agg (((Try.zeroCells55.setIfInBounds 0 (Value.int IntKind.i64 (g.T.n : Int))).setIfInBounds 1 (Value.slice (some ⟨g.bs, g.os, none⟩) g.T.n g.ks)).setIfInBounds 2 (Value.slice (some ⟨g.bl, g.ol, none⟩) g.T.ls.length g.kl)) = A14
  have hpn : g.T.pn ≤ 48 := by unfold Tp.pn; omega
  go_wp2
  go_loopw [17] (fun q wr => ∃ p : Nat, q = .int .i64 (p : Int) ∧ p ≤ g.T.pn ∧ Hid (OS g w sb p wr)) (fun q _ => g.T.pn - (RowKit.intOf q).toNat)
  case atStart => exact ⟨0, rfl, by omega, HS3⟩
  case round =>
    clear HS3
    obtain ⟨p, rfl, hp, GS⟩ := hrel
    by_cases hlt : p < g.T.pn
    · have hlt1 : (p : Int) < (g.T.pn : Int) := by omega
      have p48 : p < 48 := by omega
      have p48' : (p : Int) < 48 := by omega
      have c0 := GS.out.t.c0; have c1 := GS.out.t.c1; have c2 := GS.out.t.c2
      have HF1 := Lib.hid (fun W hW => HF.out p hlt W hW)
      have HT1 := Lib.hid (fun W hW => HT.out p hlt W hW)
      go_wp2_with fail
      refine (HF1.out _ GS.out.t.i).mono ?_
      rintro e w3 ⟨rfl, hb3⟩
      have G3 := Lib.hid (GS.out.keep hb3)
      have k3 : w3.cell? ⟨sb, 3 + p, none⟩ = some (.int .i64 (upto g.T.fr p p : Int)) := by
        have := G3.out.s (3 + p) _ (sFn_fr g _ _ p p48)
        rwa [Nat.zero_add] at this
      have kf := G3.out.f
      have c0 := G3.out.t.c0; have c1 := G3.out.t.c1; have c2 := G3.out.t.c2
      have hne : w.heap.size ≠ sb := by have := G3.out.h1; omega
      clear hb3 GS HF1
      generalize (upto g.T.fr p p : Int) = xx at *
      go_wp2_with fail
      refine (HT1.out _ (HG.out.keep (show Below w.heap.size w (w3.setCell ⟨sb, 3 + p, none⟩ (.int .i64 (g.T.fr p : Int))) from G3.out.b.setCell (p := ⟨sb, 3 + p, none⟩) (by show w.heap.size ≤ sb; have := G3.out.h1; omega) _))).mono ?_
      rintro e w4 ⟨rfl, hb4⟩
      have G4 := Lib.hid (G3.out.put HG.out p48 hb4)
      have k4 : w4.cell? ⟨sb, 51 + p, none⟩ = some (.int .i64 (upto g.T.to p p : Int)) := below_keep hb4 (by
        have := G3.out.s (51 + p) _ (sFn_to g _ _ p p48)
        rw [Nat.zero_add] at this
        rw [World.cell?_setCell_other _ _ _ _ (by intro x; injection x with _ x _; omega)]
        exact this)
      have kf4 : ∀ x, w4.frozen? ⟨sb, x, none⟩ = false := fun x => by
        rw [hb4.frozen (p := ⟨sb, x, none⟩) (by show sb < _; simpa [World.setCell] using G3.out.lt), World.frozen?_setCell]
        exact G3.out.f x
      clear hb4 G3 k3 kf HT1 c0 c1 c2
      generalize (upto g.T.to p p : Int) = yy at *
      go_wp2
      go_roundw
      case rel => exact ⟨p + 1, by rw [Int.natCast_add]; rfl, by omega, G4⟩
      case measure =>
        simp [RowKit.intOf]
        omega
    · have hlt1 : ¬ (p : Int) < (g.T.pn : Int) := by omega
      obtain rfl : p = g.T.pn := by omega
      have hSv : sFn g (upto g.T.fr g.T.pn) (upto g.T.to g.T.pn) = Sv g := by rw [upto_fr, upto_to]; rfl
      have h1 := GS.out.h1
      have hsv := GS.out.s
      rw [hSv] at hsv
      have HSV := Lib.hid hsv
      have hln : (Sv g).length = 99 := sFn_len g _ _
      clear hsv hSv hp
      go_wp2_with (first | ((with_reducible refine at_load 55 (.tmp 5) ?_); refine wpList_load_whole rfl (.tmp 5) 55 rfl sb 0 (Sv g) rfl agg55 (size55 g _ _) HSV.out ?_; simp only [Act.put, List.setIfInBounds_toArray, List.set_cons_succ, List.set_cons_zero]) | ((with_reducible refine at_store 55 (.tmp 2) (.tmp 39) ?_); refine wpList_store_whole rfl (.tmp 2) (.tmp 39) 55 rfl (w.heap.size + 1) 0 (Sv g) rfl rfl (size55 g _ _) (fun j hj => by rw [hln] at hj; exact GS.out.r.some j (by rw [zS_len]; exact hj)) (fun j _ => GS.out.rf _) (sFn_one g _ _) ?_; intro W6 hw6; simp only [Act.put, List.setIfInBounds_toArray, List.set_cons_succ, List.set_cons_zero]))
      have B6 := Lib.hid (hw6.below _ _ (by omega) GS.out.b)
      have H6 := Lib.hid (show Holds W6 (w.heap.size + 1) (Sv g) from hw6.here)
      clear hw6
      refine bodyPost_ret ?_ rfl ⟨rfl, B6.out⟩
      exact results_cell_tmp 2 3 55 Try.results28 (w.heap.size + 1) 0 _ _ rfl (run_loadVar_whole 55 (w.heap.size + 1) 0 (Sv g) agg55 (size55 g _ _) H6.out) rfl

set_option maxHeartbeats 16000000 in
set_option maxRecDepth 100000 in
theorem between_any (g : Tg) (hk : OkT g.T) (a b : Nat) (ha : a < g.T.n) (hb : b < g.T.n) (hab : a ≠ b) (w : World) (hg : g.In w) :
    Calls Try.prog 12 #[.agg #[.int .i64 (g.T.n : Int), .slice (some ⟨g.bs, g.os, none⟩) g.T.n g.ks, .slice (some ⟨g.bl, g.ol, none⟩) g.T.ls.length g.kl], .int .i64 (a : Int), .int .i64 (b : Int)] w fun e w' => e = .returned (.tuple #[.agg (Sv g).toArray, .int .i64 0]) ∧ Below w.heap.size w w' := by
  have HG := Lib.hid hg
  have HO := Lib.hid (fun W hW => open_any g hk W hW)
  have hln : (Sv g).length = 99 := sFn_len g _ _
  have x1 : ¬ (a : Int) < 0 := by omega
  have x2 : ¬ (a : Int) ≥ (g.T.n : Int) := by omega
  have x3 : ¬ (b : Int) < 0 := by omega
  have x4 : ¬ (b : Int) ≥ (g.T.n : Int) := by omega
  have x5 : ¬ (a : Int) = (b : Int) := by omega
  have x6 : ((a : Int) == (b : Int)) = false := beq_eq_false_iff_ne.2 x5
  clear hg
  go_enter Try.func12, Try.ntmps12
  go_upto_region 1 with fail
  refine wp_world ?_
  intro V hV
  have zV : V.heap.size = w.heap.size + 2 := by subst hV; simp
  have HV := Lib.hid (show Below w.heap.size w V by subst hV; exact below_alloc (below_alloc (Below.refl _ _) _) _)
  have TV := Lib.hid (show TAt g w.heap.size V by subst hV; exact (TAt.new HG.out 29).keep (below_alloc (Below.refl _ _) _))
  have RV := Lib.hid (show Holds V (w.heap.size + 1) zS by subst hV; exact holds_alloc _ zS 55 (by simp))
  have RF := Lib.hid (show ∀ x, V.frozen? ⟨w.heap.size + 1, x, none⟩ = false by subst hV; exact fun x => frozen_new _ _ _ _ (by simp))
  clear hV
  have c0 := TV.out.c0; have c1 := TV.out.c1; have c2 := TV.out.c2
  go_wp2_with fail
  refine (HO.out _ TV.out.i).mono ?_
  rintro e w1 ⟨rfl, hb1⟩
  have B1 := Lib.hid (below_step HV.out hb1)
  have R1 := Lib.hid (RV.out.keep hb1)
  have F1 := Lib.hid (show ∀ x, w1.frozen? ⟨w.heap.size + 1, x, none⟩ = false from fun x => by rw [hb1.frozen (p := ⟨w.heap.size + 1, x, none⟩) (by show w.heap.size + 1 < _; omega)]; exact RF.out x)
  have z1 := hb1.size
  clear hb1 HV TV RV RF HO c0 c1 c2
  go_upto_region 2 with ((with_reducible refine at_store 55 (.tmp 8) (.tmp 13) ?_); refine wpList_store_whole rfl (.tmp 8) (.tmp 13) 55 rfl w1.heap.size 0 (Sv g) rfl rfl (size55 g _ _) (fun j hj => by rw [hln] at hj; exact (holds_alloc w1 zS 55 rfl).some j (by rw [zS_len]; exact hj)) (fun j _ => frozen_new _ _ _ _ rfl) (sFn_one g _ _) ?_; intro W2 hw2; simp only [Act.put, List.setIfInBounds_toArray, List.set_cons_succ, List.set_cons_zero])
  have b2 : Below w1.heap.size w1 W2 := hw2.below _ _ (Nat.le_refl _) (below_alloc (Below.refl _ _) _)
  have S2 := Lib.hid (show Holds W2 w1.heap.size (Sv g) from hw2.here)
  have B2 := Lib.hid (below_step B1.out b2)
  have R2 := Lib.hid (R1.out.keep b2)
  have F2 := Lib.hid (show ∀ x, W2.frozen? ⟨w.heap.size + 1, x, none⟩ = false from fun x => by rw [b2.frozen (p := ⟨w.heap.size + 1, x, none⟩) (by show w.heap.size + 1 < _; omega)]; exact F1.out x)
  have k0 : W2.cell? ⟨w1.heap.size, 0, none⟩ = some (.int .i64 (g.T.n : Int)) := S2.out 0 _ rfl
  clear hw2 b2 B1 R1 F1
  go_wp2_with (first | ((with_reducible refine at_load 55 (.tmp 8) ?_); refine wpList_load_whole rfl (.tmp 8) 55 rfl w1.heap.size 0 (Sv g) rfl agg55 (size55 g _ _) S2.out ?_; simp only [Act.put, List.setIfInBounds_toArray, List.set_cons_succ, List.set_cons_zero]) | ((with_reducible refine at_store 55 (.tmp 6) (.tmp 45) ?_); refine wpList_store_whole rfl (.tmp 6) (.tmp 45) 55 rfl (w.heap.size + 1) 0 (Sv g) rfl rfl (size55 g _ _) (fun j hj => by rw [hln] at hj; exact R2.out.some j (by rw [zS_len]; exact hj)) (fun j _ => F2.out _) (sFn_one g _ _) ?_; intro W6 hw6; simp only [Act.put, List.setIfInBounds_toArray, List.set_cons_succ, List.set_cons_zero]))
  have B6 := Lib.hid (hw6.below _ _ (by omega) B2.out)
  have H6 := Lib.hid (show Holds W6 (w.heap.size + 1) (Sv g) from hw6.here)
  clear hw6
  refine bodyPost_ret ?_ rfl ⟨rfl, B6.out⟩
  exact results_cell_tmp 6 7 55 Try.results12 (w.heap.size + 1) 0 _ _ rfl (run_loadVar_whole 55 (w.heap.size + 1) 0 (Sv g) agg55 (size55 g _ _) H6.out) rfl

end Go.Proofs.Ytjhpbemnklpefaa
