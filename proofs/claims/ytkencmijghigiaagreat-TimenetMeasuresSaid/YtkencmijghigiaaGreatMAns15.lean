/-
  What the law asks of a network, and what is answered. No conditions.
-/
import Derived.Test.YtkencmijghigiaaGreatMRIn15
import Derived.Test.YtkencmijghigiaaGreatMRgt15
import Derived.Test.YtkencmijghigiaaGreatMTms
namespace Go.Proofs.YtkencmijghigiaaGreat
open Go.RowKit Go.Lib Go.Shelf Plain

theorem ok_parts {n : Nt} (h : netOk n) (m1 : 1 ≤ n.m) (m12 : n.m ≤ 12) : n.Bd ∧ n.Clk ∧ ∃ par : Fin n.m → Fin n.m, n.Par par := by
  obtain ⟨hn, ⟨t0, t1, a0, a1⟩, ⟨s0, s1⟩, i0, i1, y0, y1⟩ := h
  have hde : ∀ j, j < n.m → 0 ≤ n.de j ∧ n.de j ≤ 10000 := fun j hj => by
    obtain ⟨_, h0, h1⟩ := hn j hj
    rcases Nat.eq_zero_or_pos j with rfl | hp
    · have := (h0 rfl).2; omega
    · exact (h1 hp).2
  have hpar : ∀ i : Fin n.m, (if 0 < i.val then (n.pa i.val).toNat else 0) < n.m := fun i => by
    split
    · have := (hn i.val i.isLt).2.2 (by assumption)
      have := i.isLt
      omega
    · omega
  refine ⟨⟨m12, t0, t1, a0, a1, s0, s1, i0, i1, y0, y1, fun j hj => (hde j hj).1, fun j hj => (hde j hj).2⟩, fun j hj => (hn j hj).1, fun i => ⟨if 0 < i.val then (n.pa i.val).toNat else 0, hpar i⟩, ?_⟩
  constructor
  · intro i h
    have := (hn i.val i.isLt).2.2 h
    show n.pa i.val = (((if 0 < i.val then (n.pa i.val).toNat else 0) : Nat) : Int)
    rw [if_pos h]
    omega
  · intro i h
    have := (hn i.val i.isLt).2.2 h
    show (if 0 < i.val then (n.pa i.val).toNat else 0) < i.val
    rw [if_pos h]
    omega

/-- The questions at network g, node i, sync k, with their answers. -/
structure Asks (g : Gn) (i k : Int) (b : Bool) (c d r e a f O C P h : Int) : Prop where
  right : ∀ W, g.In W → Calls Tryz.prog 7 #[.agg g.vs.toArray] W fun y w' => y = .returned (.bool b) ∧ Below W.heap.size W w'
  check : ∀ W, g.In W → Calls Tryz.prog 8 #[.agg g.vs.toArray] W fun y w' => y = .returned (.int .i64 c) ∧ Below W.heap.size W w'
  measure : ∀ W, g.In W → Calls Tryz.prog 9 #[.agg g.vs.toArray, .int .i64 i] W fun y w' => y = .returned (.tuple #[.int .i64 d, .int .i64 r, .int .i64 e]) ∧ Below W.heap.size W w'
  arrival : ∀ W, g.In W → Calls Tryz.prog 10 #[.agg g.vs.toArray, .int .i64 i, .int .i64 k] W fun y w' => y = .returned (.tuple #[.int .i64 a, .int .i64 f]) ∧ Below W.heap.size W w'
  info : ∀ W, g.In W → Calls Tryz.prog 11 #[.agg g.vs.toArray, .int .i64 i, .int .i64 k] W fun y w' => y = .returned (.tuple #[.agg #[.int .i64 O, .int .i64 C, .int .i64 P], .int .i64 h]) ∧ Below W.heap.size W w'
structure Refs (g : Gn) (i k : Int) (d r : Int) (q : Bool) : Prop where
  measure : ∀ W, g.In W → Calls Tryz.prog 12 #[.agg g.vs.toArray, .int .i64 i] W fun y w' => y = .returned (.tuple #[.int .i64 d, .int .i64 r]) ∧ Below W.heap.size W w'
  numbered : ∀ W, g.In W → Calls Tryz.prog 13 #[.agg g.vs.toArray, .int .i64 i, .int .i64 k] W fun y w' => y = .returned (.bool q) ∧ Below W.heap.size W w'
structure Refs2 (g : Gn) (i k : Int) (a O C P : Int) : Prop where
  arrival : ∀ W, g.In W → Calls Tryz.prog 14 #[.agg g.vs.toArray, .int .i64 i, .int .i64 k] W fun y w' => y = .returned (.int .i64 a) ∧ Below W.heap.size W w'
  info : ∀ W, g.In W → Calls Tryz.prog 15 #[.agg g.vs.toArray, .int .i64 i, .int .i64 k] W fun y w' => y = .returned (.agg #[.int .i64 O, .int .i64 C, .int .i64 P]) ∧ Below W.heap.size W w'

theorem asks_cases (g : Gn) (i k : Int) : Asks g i k false 250 0 0 250 0 250 0 0 0 250 ∨
    ((i < 1 ∨ (g.nc : Int) ≤ i) ∧ Asks g i k true 0 0 0 2 0 2 0 0 0 2) ∨
    ((1 ≤ i ∧ i < (g.nc : Int)) ∧ ∃ d r, Refs g i k d r false ∧ Asks g i k true 0 d r 0 0 2 0 0 0 2) ∨
    ((1 ≤ i ∧ i < (g.nc : Int)) ∧ ∃ d r a O C P, Refs g i k d r true ∧ Refs2 g i k a O C P ∧ Asks g i k true 0 d r 0 a 0 O C P 0) := by
  by_cases hk : gOk g
  · obtain ⟨hs, hok⟩ := hk
    have hm1 : 1 ≤ g.nt.m := hs.1.1
    have hm12 : g.nt.m ≤ 12 := hs.1.2
    have ev : ∀ W, g.In W → g.vs = g.nt.vs ∧ g.nt.In W := fun W hW => Gn.nt_of hW hs
    obtain ⟨hb, hc, par, hp⟩ := ok_parts hok hm1 hm12
    have R : ∀ W, g.In W → Calls Tryz.prog 7 #[.agg g.vs.toArray] W fun y w' => y = .returned (.bool true) ∧ Below W.heap.size W w' := fun W hW => by
      have h := rightGen_any g W hW
      rwa [show decide (gOk g) = true from decide_eq_true ⟨hs, hok⟩] at h
    have K : ∀ W, g.In W → Calls Tryz.prog 8 #[.agg g.vs.toArray] W fun y w' => y = .returned (.int .i64 0) ∧ Below W.heap.size W w' := fun W hW => by
      have h := chkGen_any g W hW
      rwa [show chkG g = 0 from if_pos ⟨hs, hok⟩] at h
    have em : (g.nc : Int) = (g.nt.m : Int) := rfl
    by_cases hi : 1 ≤ i ∧ i < (g.nc : Int)
    · obtain ⟨i1, i2⟩ := hi
      obtain ⟨j, hj⟩ : ∃ j : Fin g.nt.m, i = (j.val : Int) := ⟨⟨i.toNat, by omega⟩, by show i = (i.toNat : Int); omega⟩
      have j0 : 0 < j.val := by omega
      have RM : ∀ W, g.In W → Calls Tryz.prog 12 #[.agg g.vs.toArray, .int .i64 i] W fun y w' => y = .returned (.tuple #[.int .i64 (meaD g.nt par j), .int .i64 (meaR g.nt par j)]) ∧ Below W.heap.size W w' := fun W hW => by
        rw [(ev W hW).1, hj]
        exact refMeas_any g.nt hb hc par hp j j0 W (ev W hW).2
      have RN : ∀ W, g.In W → Calls Tryz.prog 13 #[.agg g.vs.toArray, .int .i64 i, .int .i64 k] W fun y w' => y = .returned (.bool (decide (0 ≤ k ∧ k ≤ lastK g.nt par j))) ∧ Below W.heap.size W w' := fun W hW => by
        rw [(ev W hW).1, hj]
        exact numbered_any g.nt hb par hp j j0 k W (ev W hW).2
      have M : ∀ W, g.In W → Calls Tryz.prog 9 #[.agg g.vs.toArray, .int .i64 i] W fun y w' => y = .returned (.tuple #[.int .i64 (meaD g.nt par j), .int .i64 (meaR g.nt par j), .int .i64 0]) ∧ Below W.heap.size W w' := fun W hW => by
        rw [(ev W hW).1]
        exact tMeasure_any g.nt hok hb hc par hp i W (ev W hW).2 _ _ _ (.inr (.inr ⟨j, j0, hj, rfl, rfl, rfl⟩))
      by_cases hq : 0 ≤ k ∧ k ≤ lastK g.nt par j
      · obtain ⟨k0, k1⟩ := hq
        have hkm : k * g.nt.iv ≤ 1099511627776 := by
          have h1 := arr_bd hb hp k0 k1
          have h2 := arr_tick hb hp j0 k0 k1
          obtain ⟨⟨h3, h4⟩, h5⟩ := h2
          have := hb.st0
          have := hb.ga0
          have := hb.tu0
          omega
        rw [show decide (0 ≤ k ∧ k ≤ lastK g.nt par j) = true from decide_eq_true ⟨k0, k1⟩] at RN
        refine .inr (.inr (.inr ⟨⟨i1, i2⟩, _, _, arrV g.nt par j k, orgV g.nt k, (arI g.nt par k j).1, (arI g.nt par k j).2, ⟨RM, RN⟩, ⟨fun W hW => ?_, fun W hW => ?_⟩, R, K, M, fun W hW => ?_, fun W hW => ?_⟩))
        · rw [(ev W hW).1, hj]
          exact arrRef_any g.nt hb par hp k k0 hkm j.val j rfl j0 W (ev W hW).2
        · rw [(ev W hW).1, hj]
          exact refInfo_any g.nt hb hc par hp k k0 j.val j rfl j0 k1 W (ev W hW).2
        · rw [(ev W hW).1]
          exact tArrival_any g.nt hok hb par hp i k W (ev W hW).2 _ _ (.inr ⟨j, hj, .inr (.inr ⟨⟨j0, k0, k1⟩, rfl, rfl⟩)⟩)
        · rw [(ev W hW).1]
          exact tInfo_any g.nt hok hb hc par hp i k W (ev W hW).2 _ _ _ _ (.inr (.inr ⟨j, hj, ⟨j0, k0, k1⟩, ⟨rfl, rfl, rfl⟩, rfl⟩))
      · rw [show decide (0 ≤ k ∧ k ≤ lastK g.nt par j) = false from decide_eq_false hq] at RN
        have hA : ArrCase g.nt par j k 0 2 := by
          by_cases k0 : k < 0
          · exact .inl ⟨.inr ⟨j0, k0⟩, rfl, rfl⟩
          · exact .inr (.inl ⟨⟨j0, by omega, by omega⟩, rfl, rfl⟩)
        refine .inr (.inr (.inl ⟨⟨i1, i2⟩, _, _, ⟨RM, RN⟩, R, K, M, fun W hW => ?_, fun W hW => ?_⟩))
        · rw [(ev W hW).1]
          exact tArrival_any g.nt hok hb par hp i k W (ev W hW).2 _ _ (.inr ⟨j, hj, hA⟩)
        · rw [(ev W hW).1]
          exact tInfo_any g.nt hok hb hc par hp i k W (ev W hW).2 _ _ _ _ (.inr (.inl ⟨j, hj, hA, ⟨rfl, rfl, rfl⟩, rfl⟩))
    · have hout : i < 1 ∨ (g.nc : Int) ≤ i := by omega
      have hcs : (¬ (0 ≤ i ∧ i < (g.nt.m : Int))) ∨ i = 0 := by omega
      refine .inr (.inl ⟨hout, R, K, fun W hW => ?_, fun W hW => ?_, fun W hW => ?_⟩)
      · rw [(ev W hW).1]
        refine tMeasure_any g.nt hok hb hc par hp i W (ev W hW).2 _ _ _ ?_
        rcases hcs with h | h
        · exact .inl ⟨h, rfl, rfl, rfl⟩
        · exact .inr (.inl ⟨h, rfl, rfl, rfl⟩)
      · rw [(ev W hW).1]
        refine tArrival_any g.nt hok hb par hp i k W (ev W hW).2 _ _ ?_
        rcases hcs with h | h
        · exact .inl ⟨h, rfl, rfl⟩
        · exact .inr ⟨⟨0, by omega⟩, h, .inl ⟨.inl rfl, rfl, rfl⟩⟩
      · rw [(ev W hW).1]
        refine tInfo_any g.nt hok hb hc par hp i k W (ev W hW).2 _ _ _ _ ?_
        rcases hcs with h | h
        · exact .inl ⟨h, ⟨rfl, rfl, rfl⟩, rfl⟩
        · exact .inr (.inl ⟨⟨0, by omega⟩, h, .inl ⟨.inl rfl, rfl, rfl⟩, ⟨rfl, rfl, rfl⟩, rfl⟩)
  · refine .inl ⟨fun W hW => ?_, fun W hW => ?_, fun W hW => measBad_any g i W hW hk, fun W hW => arrBad_any g i k W hW hk, fun W hW => infBad_any g i k W hW hk⟩
    · have h := rightGen_any g W hW
      rwa [show decide (gOk g) = false from decide_eq_false hk] at h
    · have h := chkGen_any g W hW
      rwa [show chkG g = 250 from if_neg hk] at h

end Go.Proofs.YtkencmijghigiaaGreat
