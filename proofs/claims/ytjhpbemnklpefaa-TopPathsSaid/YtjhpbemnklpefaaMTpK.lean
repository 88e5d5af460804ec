/-
  topo.sound's four questions about a link. No conditions.
-/
import Derived.Deep.CutRange
import Derived.Deep.DeepCutAuto
import Derived.Test.YtjhpbemnklpefaaMTpN
import Derived.Test.YtjhpbemnklpefaaMBase
namespace Go.Proofs.Ytjhpbemnklpefaa
open Go.RowKit Go.Lib Plain

/-- A topology in a block of its own. -/
structure TAt (g : Tg) (tb : Nat) (w : World) : Prop where
  c0 : w.cell? ⟨tb, 0, none⟩ = some (.int .i64 (g.T.n : Int))
  c1 : w.cell? ⟨tb, 1, none⟩ = some (.slice (some ⟨g.bs, g.os, none⟩) g.T.n g.ks)
  c2 : w.cell? ⟨tb, 2, none⟩ = some (.slice (some ⟨g.bl, g.ol, none⟩) g.T.ls.length g.kl)
  i : g.In w
theorem TAt.keep {g : Tg} {tb : Nat} {w W : World} (h : TAt g tb w) (hb : Below w.heap.size w W) : TAt g tb W := ⟨below_keep hb h.c0, below_keep hb h.c1, below_keep hb h.c2, h.i.keep hb⟩
theorem TAt.new {g : Tg} {w : World} (h : g.In w) (t : TypeId) : TAt g w.heap.size (w.alloc (.cells #[.int .i64 (g.T.n : Int), .slice (some ⟨g.bs, g.os, none⟩) g.T.n g.ks, .slice (some ⟨g.bl, g.ol, none⟩) g.T.ls.length g.kl] t)) :=
  ⟨by simp [go_sem], by simp [go_sem], by simp [go_sem], h.keep (below_alloc (Below.refl _ _) _)⟩

section
variable (g : Tg) (hk : OkT g.T) (tb : Nat)
include hk

set_option maxHeartbeats 4000000 in
set_option maxRecDepth 100000 in
theorem sound1_any (i : Nat) (hi : i < g.T.ls.length) (w : World) (ht : TAt g tb w) :
    Calls Try.prog 64 #[.int .i64 (i : Int), .pointer (some ⟨tb, 0, none⟩)] w fun e w' => e = .returned (.bool true) ∧ Below w.heap.size w w' := by
  have ok := hk.ok i hi
  have o1 := ok.a; have o2 := ok.b; have o3 := ok.ne
  have h3 : ¬ ((g.T.lk i).a : Int) = ((g.T.lk i).b : Int) := by omega
  have k0 := ht.i.a i hi; have k1 := ht.i.b i hi; have k2 := ht.i.p i hi; have k3 := ht.i.d i hi
  have c0 := ht.c0; have c1 := ht.c1; have c2 := ht.c2
  have hlt : (i : Int) < (g.T.ls.length : Int) := by omega
  have HN := Lib.hid (fun x hx W => node_any g.T.n (.slice (some ⟨g.bs, g.os, none⟩) g.T.n g.ks) (.slice (some ⟨g.bl, g.ol, none⟩) g.T.ls.length g.kl) rfl rfl x hx W)
  have lt := World.block_lt_of_cell? _ _ c0
  clear ht
  go_enter Try.func64, Try.ntmps64
  go_wp2_with fail
  refine (HN.out _ o1 _).mono ?_
  rintro e w1 ⟨rfl, hb1⟩
  have B1 := Lib.hid (below_step (below_alloc (Below.refl _ w) _) hb1)
  have d0 : w1.cell? ⟨w.heap.size, 0, none⟩ = some (.int .i64 ((g.T.lk i).a : Int)) := below_keep hb1 (by simp [go_sem])
  have d1 : w1.cell? ⟨w.heap.size, 1, none⟩ = some (.int .i64 ((g.T.lk i).b : Int)) := below_keep hb1 (by simp [go_sem])
  have c0 := below_keep B1.out c0; have c1 := below_keep B1.out c1; have c2 := below_keep B1.out c2
  clear hb1 k0 k1 k2 k3
  go_wp2_with fail
  refine (HN.out _ o2 _).mono ?_
  rintro e w2 ⟨rfl, hb2⟩
  have B2 := Lib.hid (below_step B1.out hb2)
  have d0 := below_keep hb2 d0; have d1 := below_keep hb2 d1
  clear hb2
  go_wp2
  go_ret
  exact ⟨ret_bool (bne_iff_ne.2 h3), B2.out⟩

set_option maxHeartbeats 4000000 in
set_option maxRecDepth 100000 in
theorem sound2_any (i : Nat) (hi : i < g.T.ls.length) (w : World) (ht : TAt g tb w) :
    Calls Try.prog 66 #[.int .i64 (i : Int), .pointer (some ⟨tb, 0, none⟩)] w fun e w' => e = .returned (.bool true) ∧ Below w.heap.size w w' := by
  have ok := hk.ok i hi
  have o1 := ok.a; have o2 := ok.b; have o3 := ok.st
  have k0 := ht.i.a i hi; have k1 := ht.i.b i hi; have k2 := ht.i.p i hi; have k3 := ht.i.d i hi
  have c0 := ht.c0; have c1 := ht.c1; have c2 := ht.c2
  have s1 := ht.i.s _ o1; have s2 := ht.i.s _ o2
  unfold Tp.st at s1 s2
  have hlt : (i : Int) < (g.T.ls.length : Int) := by omega
  have o1' : ((g.T.lk i).a : Int) < (g.T.n : Int) := by omega
  have o2' : ((g.T.lk i).b : Int) < (g.T.n : Int) := by omega
  have lt := World.block_lt_of_cell? _ _ c0; have ls := World.block_lt_of_cell? _ _ s1
  clear ht
  by_cases ha : g.T.br ≤ (g.T.lk i).a
  · have hb : ¬ g.T.br ≤ (g.T.lk i).b := fun h => o3 ⟨ha, h⟩
    rw [decide_eq_true ha] at s1
    rw [decide_eq_false hb] at s2
    clear ok o3
    go_enter Try.func66, Try.ntmps66
    go_wp2
    go_ret
    exact ⟨rfl, below_alloc (Below.refl _ _) _⟩
  · rw [decide_eq_false ha] at s1
    clear ok o3 s2
    go_enter Try.func66, Try.ntmps66
    go_wp2
    go_ret
    exact ⟨rfl, below_alloc (Below.refl _ _) _⟩

set_option maxHeartbeats 4000000 in
set_option maxRecDepth 100000 in
theorem sound4_any (i : Nat) (hi : i < g.T.ls.length) (w : World) (ht : TAt g tb w) :
    Calls Try.prog 68 #[.int .i64 (i : Int), .pointer (some ⟨tb, 0, none⟩)] w fun e w' => e = .returned (.bool true) ∧ Below w.heap.size w w' := by
  have ok := hk.ok i hi
  have o1 := ok.p1; have o2 := ok.p2; have o3 := ok.d
  have q1 : ((g.T.lk i).per : Int) ≥ 1 := by omega
  have q2 : ((g.T.lk i).per : Int) ≤ 1000 := by omega
  have q3 : ((g.T.lk i).dly : Int) ≥ 0 := by omega
  have q4 : ((g.T.lk i).dly : Int) ≤ 10000 := by omega
  have k0 := ht.i.a i hi; have k1 := ht.i.b i hi; have k2 := ht.i.p i hi; have k3 := ht.i.d i hi
  have c0 := ht.c0; have c1 := ht.c1; have c2 := ht.c2
  have hlt : (i : Int) < (g.T.ls.length : Int) := by omega
  have lt := World.block_lt_of_cell? _ _ c0
  clear ht ok
  go_enter Try.func68, Try.ntmps68
  go_wp2
  go_ret
  exact ⟨rfl, below_alloc (Below.refl _ _) _⟩

set_option maxHeartbeats 8000000 in
set_option maxRecDepth 100000 in
theorem sound3_any (i : Nat) (hi : i < g.T.ls.length) (w : World) (ht : TAt g tb w) :
    Calls Try.prog 67 #[.int .i64 (i : Int), .pointer (some ⟨tb, 0, none⟩)] w fun e w' => e = .returned (.bool true) ∧ Below w.heap.size w w' := by
  have NJ := Lib.hid (fun j hj => hk.nj i j hj hi)
  have l24 := hk.l24
  have HT := Lib.hid ht
  have k0 := ht.i.a i hi; have k1 := ht.i.b i hi; have k2 := ht.i.p i hi; have k3 := ht.i.d i hi
  have c0 := ht.c0; have c1 := ht.c1; have c2 := ht.c2
  have hlt : (i : Int) < (g.T.ls.length : Int) := by omega
  have hle : (i : Int) ≤ (g.T.ls.length : Int) := by omega
  have lt := World.block_lt_of_cell? _ _ c0
  have hkl := ht.i.k
  have hik : i ≤ g.kl := by omega
  have hik' : (i : Int) ≤ (g.kl : Int) := by omega
  clear ht
  go_enter Try.func67, Try.ntmps67
  go_upto_region 2 with fail
  refine wp_world ?_
  intro V hV
  have HV := Lib.hid (show Below w.heap.size w V by subst hV; exact below_alloc (Below.refl _ _) _)
  have d0 : V.cell? ⟨w.heap.size, 0, none⟩ = some (.int .i64 ((g.T.lk i).a : Int)) := by subst hV; simp [go_sem]
  have d1 : V.cell? ⟨w.heap.size, 1, none⟩ = some (.int .i64 ((g.T.lk i).b : Int)) := by subst hV; simp [go_sem]
  have c2 := below_keep HV.out c2
  clear hV k0 k1 k2 k3 c0 c1
  go_wp2
  generalize Value.agg #[.int .i64 ((g.T.lk i).a : Int), .int .i64 ((g.T.lk i).b : Int), .int .i64 ((g.T.lk i).per : Int), .int .i64 ((g.T.lk i).dly : Int)] = A11
  go_loopw [17] (fun p wr => ∃ j : Nat, p = .int .i64 (j : Int) ∧ j ≤ i ∧ Hid (Below V.heap.size V wr)) (fun p _ => i - (RowKit.intOf p).toNat)
  case atStart => exact ⟨0, rfl, by omega, Lib.hid (Below.refl _ _)⟩
  case round =>
    obtain ⟨j, rfl, hj, GB⟩ := hrel
    have d0 := below_keep GB.out d0; have d1 := below_keep GB.out d1; have c2 := below_keep GB.out c2
    by_cases hji : j < i
    · have hlt2 : (j : Int) < (i : Int) := by omega
      have hI := (HT.out.i.keep HV.out).keep GB.out
      have k0 := hI.a j (by omega); have k1 := hI.b j (by omega); have k2 := hI.p j (by omega); have k3 := hI.d j (by omega)
      have nj := NJ.out j hji
      unfold Jn at nj
      have lt0 := World.block_lt_of_cell? _ _ d0
      clear hI
      have B2 := Lib.hid (below_alloc GB.out (.cells #[.int .i64 ((g.T.lk j).a : Int), .int .i64 ((g.T.lk j).b : Int), .int .i64 ((g.T.lk j).per : Int), .int .i64 ((g.T.lk j).dly : Int)] 50))
      by_cases e1 : (g.T.lk i).a = (g.T.lk j).a
      · have e2 : ¬ (g.T.lk i).b = (g.T.lk j).b := fun h => nj (.inl ⟨e1.symm, h.symm⟩)
        have f1 : ((g.T.lk i).a : Int) = ((g.T.lk j).a : Int) := by omega
        have f2 : ¬ ((g.T.lk i).b : Int) = ((g.T.lk j).b : Int) := by omega
        by_cases e3 : (g.T.lk i).a = (g.T.lk j).b
        · exact absurd (e1.symm.trans e3) (hk.ok j (by omega)).ne
        · have f4 : ¬ ((g.T.lk i).a : Int) = ((g.T.lk j).b : Int) := by omega
          clear nj e1 e2 e3
          go_wp2
          go_roundw
          case rel => exact ⟨j + 1, by rw [Int.natCast_add]; rfl, by omega, B2⟩
          case measure =>
            simp [RowKit.intOf]
            omega
      · have f1 : ¬ ((g.T.lk i).a : Int) = ((g.T.lk j).a : Int) := by omega
        by_cases e3 : (g.T.lk i).a = (g.T.lk j).b
        · have f3 : ¬ ((g.T.lk i).b : Int) = ((g.T.lk j).a : Int) := fun h => nj (.inr ⟨by omega, by omega⟩)
          have f4 : ((g.T.lk i).a : Int) = ((g.T.lk j).b : Int) := by omega
          clear nj e1 e3
          go_wp2
          go_roundw
          case rel => exact ⟨j + 1, by rw [Int.natCast_add]; rfl, by omega, B2⟩
          case measure =>
            simp [RowKit.intOf]
            omega
        · have f4 : ¬ ((g.T.lk i).a : Int) = ((g.T.lk j).b : Int) := by omega
          clear nj e1 e3
          go_wp2
          go_roundw
          case rel => exact ⟨j + 1, by rw [Int.natCast_add]; rfl, by omega, B2⟩
          case measure =>
            simp [RowKit.intOf]
            omega
    · have hlt2 : ¬ (j : Int) < (i : Int) := by omega
      have hB := below_step HV.out GB.out
      have HB := Lib.hid hB
      clear hB GB
      go_wp2
      go_ret
      exact ⟨rfl, HB.out⟩
end

end Go.Proofs.Ytjhpbemnklpefaa
