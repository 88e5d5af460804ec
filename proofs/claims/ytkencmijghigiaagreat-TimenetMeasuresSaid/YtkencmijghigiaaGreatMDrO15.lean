/-
  (isochronref15.Draft).Net: what comes out is a valid network.
-/
import Derived.Laws.OwnMore
import Derived.Test.YtkencmijghigiaaGreatMDrW15
namespace Go.Proofs.YtkencmijghigiaaGreat
open Go.RowKit Go.Lib Go.Shelf Plain

theorem dClks_len (D : Dr) : ∀ i, (dClks D i).length = i * 2
  | 0 => rfl
  | i + 1 => by rw [dClks_snoc, List.length_append, dClks_len D i]; simp; omega
theorem dClks_at (D : Dr) : ∀ i j, j < i → (dClks D i)[j * 2]? = some (.int .i64 (dCO D j)) ∧ (dClks D i)[j * 2 + 1]? = some (.int .i64 (dCP D j))
  | 0, _, h => by omega
  | i + 1, j, h => by
    rw [dClks_snoc]
    have hl := dClks_len D i
    by_cases e : j = i
    · subst e
      rw [List.getElem?_append_right (by omega), List.getElem?_append_right (by omega), hl, show j * 2 - j * 2 = 0 by omega, show j * 2 + 1 - j * 2 = 1 by omega]
      exact ⟨rfl, rfl⟩
    · rw [List.getElem?_append_left (by omega), List.getElem?_append_left (by omega)]
      exact dClks_at D i j (by omega)
theorem dPars_at (D : Dr) (i j : Nat) (h : j < i) : (dPars D i)[j]? = some (.int .i64 (dPa D j)) := by
  unfold dPars
  rw [List.getElem?_map, List.getElem?_range h]
  rfl
theorem dDels_at (D : Dr) (i j : Nat) (h : j < i) : (dDels D i)[j]? = some (.int .i64 (dDe D j)) := by
  unfold dDels
  rw [List.getElem?_map, List.getElem?_range h]
  rfl

/-- A draft's network: valid, and of small numbers. -/
structure DrNet (n : Nt) (par : Fin n.m → Fin n.m) : Prop where
  ok : netOk n
  bd : n.Bd
  clk : n.Clk
  par : n.Par par
  iv : n.iv ≤ 4194304
  ga : n.ga ≤ 1058575
  st : n.st ≤ 3175726

theorem pa_bd (D : Dr) {j : Nat} (h : 0 < j) : 0 ≤ dPa D j ∧ dPa D j < (j : Int) := by
  unfold dPa
  rw [if_neg (by omega)]
  split
  · exact ⟨Int.emod_nonneg _ (by omega), Int.emod_lt_of_pos _ (by omega)⟩
  · omega
theorem de_bd (D : Dr) (hb : D.Bd) (j : Nat) : 0 ≤ dDe D j ∧ dDe D j ≤ 10000 := by
  unfold dDe
  split
  · omega
  · split
    · have := hb.d j (by assumption)
      omega
    · omega
theorem nums_bd (D : Dr) (hb : D.Bd) : (0 ≤ dTu D ∧ dTu D ≤ 1048576) ∧ (10000 ≤ dGa D ∧ dGa D ≤ 1058575) ∧ (dGa D + 20000 + dTu D ≤ dSt D ∧ dSt D ≤ 3175726) ∧ (1 ≤ dIv D ∧ dIv D ≤ 4194304) ∧ (0 ≤ dSy D ∧ dSy D ≤ 1048576) := by
  obtain ⟨tu0, tu1, ga0, ga1, la0, la1, iv0, iv1, sy0, sy1, -, -⟩ := hb
  unfold dTu dGa dSt dIv dSy dGa dTu
  omega

set_option maxRecDepth 100000 in
theorem net_any (D : Dr) (hb : D.Bd) (w : World) (hn : D.In w) :
    Calls Tryz.prog 5 #[.agg D.vs.toArray] w fun e w' => ∃ (n : Nt) (par : Fin n.m → Fin n.m), e = .returned (.agg n.vs.toArray) ∧ n.In w' ∧ DrNet n par ∧ Below w.heap.size w w' := by
  refine (net_walk D hb w hn).mono ?_
  rintro e w' ⟨v0, v1, v2, rfl, o0, o1, o2, hB⟩
  have hm : 1 ≤ dM D := by unfold dM; omega
  have hm12 : dM D ≤ 12 := by unfold dM; omega
  obtain ⟨g0, c0, rfl⟩ := own_form15 o0 (by omega)
  obtain ⟨g1, c1, rfl⟩ := own_form15 o1 (by omega)
  obtain ⟨g2, c2, rfl⟩ := own_form15 o2 (by omega)
  obtain ⟨⟨t0, t1⟩, ⟨a0, a1⟩, ⟨s0, s1⟩, ⟨i0, i1⟩, ⟨y0, y1⟩⟩ := nums_bd D hb
  let n : Nt := { bc := g0, oc := 0, kc := c0, bp := g1, op := 0, kp := c1, bd := g2, od := 0, kd := c2, m := dM D, tu := dTu D, ga := dGa D, st := dSt D, iv := dIv D, sy := dSy D, cO := dCO D, cP := dCP D, pa := dPa D, de := dDe D }
  have hpar : ∀ i : Fin (dM D), (if 0 < i.val then (dPa D i.val).toNat else 0) < dM D := fun i => by
    split
    · have := pa_bd D (j := i.val) (by assumption)
      have := i.isLt
      omega
    · omega
  refine ⟨n, fun i => ⟨if 0 < i.val then (dPa D i.val).toNat else 0, hpar i⟩, rfl, ?_, ?_, hB⟩
  · refine ⟨hm, ?_, ?_, ?_, ?_⟩
    · intro j hj
      have hj' : j < dM D := hj
      have := o0.cellAt (j * 2) (by omega)
      rw [(dClks_at D _ j hj').1] at this
      show w'.cell? ⟨g0, 0 + j * 2, none⟩ = _
      rw [Nat.zero_add]
      exact this
    · intro j hj
      have hj' : j < dM D := hj
      have := o0.cellAt (j * 2 + 1) (by omega)
      rw [(dClks_at D _ j hj').2] at this
      show w'.cell? ⟨g0, 0 + j * 2 + 1, none⟩ = _
      rw [Nat.zero_add]
      exact this
    · intro j hj
      have hj' : j < dM D := hj
      have := o1.cellAt j (by omega)
      rw [dPars_at D _ j hj'] at this
      show w'.cell? ⟨g1, 0 + j, none⟩ = _
      rw [Nat.zero_add]
      exact this
    · intro j hj
      have hj' : j < dM D := hj
      have := o2.cellAt j (by omega)
      rw [dDels_at D _ j hj'] at this
      show w'.cell? ⟨g2, 0 + j, none⟩ = _
      rw [Nat.zero_add]
      exact this
  · refine ⟨⟨?_, ?_⟩, ?_, ?_, ⟨?_, ?_⟩, i1, a1, s1⟩
    · intro j _
      refine ⟨clockDraft_ok _ _, fun h => ?_, fun h => ⟨pa_bd D h, de_bd D hb j⟩⟩
      subst h
      exact ⟨(rfl : dPa D 0 = -1), (rfl : dDe D 0 = 0)⟩
    · exact ⟨⟨t0, t1, a0, by show dGa D ≤ _; omega⟩, ⟨s0, by show dSt D ≤ _; omega⟩, ⟨i0, by show dIv D ≤ _; omega, y0, y1⟩⟩
    · exact ⟨hm12, t0, t1, a0, by show dGa D ≤ _; omega, s0, by show dSt D ≤ _; omega, i0, by show dIv D ≤ _; omega, y0, y1, fun j _ => (de_bd D hb j).1, fun j _ => (de_bd D hb j).2⟩
    · intro j _
      exact clockDraft_ok _ _
    · intro i h
      have hp := pa_bd D h
      show dPa D i.val = (((if 0 < i.val then (dPa D i.val).toNat else 0) : Nat) : Int)
      rw [if_pos h]
      omega
    · intro i h
      have hp := pa_bd D h
      show (if 0 < i.val then (dPa D i.val).toNat else 0) < i.val
      rw [if_pos h]
      omega

end Go.Proofs.YtkencmijghigiaaGreat
