/-
  Texts of this claim laid together: TpAb, TpAc.
-/
import Derived.Sort.WalkA
import Derived.Shelf.RegionOpenPlain
import Derived.Sort.WalkB2
import Derived.Sort.WalkB12
import Derived.Test.YtjhpbemnklpefaaMTpAa
namespace Go.Proofs.Ytjhpbemnklpefaa
open Go.RowKit Go.Lib Plain

/-- The row of routes, in some order. -/
structure SR (g : Tg) (w : World) (q n : Nat) (f : Nat → Rt) (W : World) : Prop where
  c : ∀ i, i < n → W.cell? ⟨q, i, none⟩ = some (f i).v
  z : ∀ x, W.frozen? ⟨q, x, none⟩ = false
  r : ∀ i, i < n → (f i).In W ∧ (f i).b ≠ q ∧ CostOk g.T (f i).xs
  b : Below w.heap.size w W
  lt : q < W.heap.size
  h : w.heap.size ≤ q
def Same (n : Nat) (f f' : Nat → Rt) : Prop := (∀ k, k < n → ∃ j, j < n ∧ f' k = f j) ∧ (∀ k, k < n → ∃ j, j < n ∧ f k = f' j)
theorem Same.refl (n : Nat) (f : Nat → Rt) : Same n f f := ⟨fun k h => ⟨k, h, rfl⟩, fun k h => ⟨k, h, rfl⟩⟩
theorem Same.trans {n : Nat} {f g h : Nat → Rt} (a : Same n f g) (b : Same n g h) : Same n f h :=
  ⟨fun k hk => by
    obtain ⟨j, hj, e⟩ := b.1 k hk
    obtain ⟨i, hi, e2⟩ := a.1 j hj
    exact ⟨i, hi, e.trans e2⟩, fun k hk => by
    obtain ⟨j, hj, e⟩ := a.2 k hk
    obtain ⟨i, hi, e2⟩ := b.2 j hj
    exact ⟨i, hi, e.trans e2⟩⟩
def swF (f : Nat → Rt) (i j : Nat) : Nat → Rt := fun k => if k = j then f i else if k = i then f j else f k
theorem Same.sw {n : Nat} (f : Nat → Rt) {i j : Nat} (hi : i < n) (hj : j < n) : Same n f (swF f i j) := by
  refine ⟨fun k hk => ?_, fun k hk => ?_⟩
  · unfold swF
    split
    · exact ⟨i, hi, rfl⟩
    · split
      · exact ⟨j, hj, rfl⟩
      · exact ⟨k, hk, rfl⟩
  · by_cases e1 : k = i
    · refine ⟨j, hj, ?_⟩
      unfold swF
      rw [if_pos rfl, e1]
    · by_cases e2 : k = j
      · refine ⟨i, hi, ?_⟩
        unfold swF
        subst e2
        rw [if_neg (Ne.symm e1), if_pos rfl]
      · refine ⟨k, hk, ?_⟩
        unfold swF
        rw [if_neg e2, if_neg e1]
section
variable {g : Tg} {w : World} {q n : Nat} {f : Nat → Rt} {W W' : World}
theorem SR.keep (h : SR g w q n f W) (hb : Below W.heap.size W W') : SR g w q n f W' :=
  ⟨fun i hi => below_keep hb (h.c i hi), fun x => by rw [hb.frozen (p := ⟨q, x, none⟩) h.lt]; exact h.z x, fun i hi => ⟨(h.r i hi).1.keep hb, (h.r i hi).2⟩, below_step h.b hb, Nat.lt_of_lt_of_le h.lt hb.size, h.h⟩
theorem SR.sw (h : SR g w q n f W) {i j : Nat} (hi : i < n) (hj : j < n) : SR g w q n (swF f i j) ((W.setCell ⟨q, i, none⟩ (f j).v).setCell ⟨q, j, none⟩ (f i).v).drew := by
  have far : ∀ b o, b ≠ q → ((W.setCell ⟨q, i, none⟩ (f j).v).setCell ⟨q, j, none⟩ (f i).v).cell? ⟨b, o, none⟩ = W.cell? ⟨b, o, none⟩ := fun b o hne => by
    rw [World.cell?_setCell_far _ _ _ _ (Ne.symm hne), World.cell?_setCell_far _ _ _ _ (Ne.symm hne)]
  have c1 : ∀ k, k < n → ((W.setCell ⟨q, i, none⟩ (f j).v)).cell? ⟨q, k, none⟩ = some (if k = i then f j else f k).v := fun k hk => by
    by_cases e : k = i
    · subst e
      rw [if_pos rfl]
      exact World.cell?_setCell_same _ _ _ (h.c k hk)
    · rw [if_neg e, World.cell?_setCell_other (h := by intro x; injection x with _ x _; omega)]
      exact h.c k hk
  refine (show SR g w q n (swF f i j) ((W.setCell ⟨q, i, none⟩ (f j).v).setCell ⟨q, j, none⟩ (f i).v) from ⟨fun k hk => ?_, fun x => by rw [World.frozen?_setCell, World.frozen?_setCell]; exact h.z x, fun k hk => ?_, ?_, by simpa [World.setCell] using h.lt, h.h⟩).keep (Below.drew (Below.refl _ _))
  · unfold swF
    by_cases e : k = j
    · subst e
      rw [if_pos rfl]
      exact World.cell?_setCell_same _ _ _ (c1 k hk)
    · rw [if_neg e, World.cell?_setCell_other (h := by intro x; injection x with _ x _; omega)]
      exact c1 k hk
  · obtain ⟨m, hm, e⟩ := (Same.sw f hi hj).1 k hk
    rw [e]
    exact ⟨fun x hx => by rw [far _ _ (h.r m hm).2.1]; exact (h.r m hm).1 x hx, (h.r m hm).2⟩
  · exact (h.b.setCell (p := ⟨q, i, none⟩) h.h _).setCell (p := ⟨q, j, none⟩) h.h _
/-- Behind the first store the second place still holds something. -/
theorem SR.c2 (h : SR g w q n f W) {i j : Nat} (hj : j < n) (hi : i < n) (v : Value) : ∃ u, (W.setCell ⟨q, i, none⟩ v).cell? ⟨q, j, none⟩ = some u := by
  by_cases e : j = i
  · subst e
    exact ⟨_, World.cell?_setCell_same _ _ _ (h.c j hj)⟩
  · exact ⟨_, (World.cell?_setCell_other W ⟨q, i, none⟩ ⟨q, j, none⟩ v (by intro x; injection x with _ x _; omega)).trans (h.c j hj)⟩
end
def SQ (g : Tg) (w : World) (q n : Nat) (f : Nat → Rt) (e : Ending) (W' : World) : Prop := e = .returned (.tuple #[]) ∧ ∃ f', Same n f f' ∧ SR g w q n f' W'
theorem cmp_any (g : Tg) (hk : OkT g.T) (w : World) (hg : g.In w) (q n : Nat) (f : Nat → Rt) (W : World) (h : SR g w q n f W) (i j : Nat) (hi : i < n) (hj : j < n) :
    Calls Try.prog 16 #[.agg (Sv g).toArray, .slice (some ⟨(f i).b, (f i).o, none⟩) (f i).xs.length (f i).k, .slice (some ⟨(f j).b, (f j).o, none⟩) (f j).xs.length (f j).k] W fun e w' => e = .returned (.int .i64 (cmpR g.T (f i).xs (f j).xs)) ∧ Below W.heap.size W w' :=
  compare_any g hk (f i) (f j) (h.r i hi).2.2 (h.r j hj).2.2 W (hg.keep h.b) (h.r i hi).1 (h.r j hj).1

set_option maxHeartbeats 16000000 in
set_option maxRecDepth 100000 in
theorem insertion_any (g : Tg) (hk : OkT g.T) (w : World) (hg : g.In w) (q n cap : Nat) (hn : n ≤ 110075314176) (f : Nat → Rt) (W : World) (hS : SR g w q n f W) (a b : Nat) (hb : b ≤ n) (ha : a ≤ n) :
    Calls Try.prog 81 #[.slice (some ⟨q, 0, none⟩) n cap, .int .i64 (a : Int), .int .i64 (b : Int), .func (.func 16) #[.agg (Sv g).toArray] #[]] W (SQ g w q n f) := by
  have HC := Lib.hid (fun f W h i j hi hj => cmp_any g hk w hg q n f W h i j hi hj)
  have S0 := Lib.hid hS
  clear hS hg
  generalize Value.agg (Sv g).toArray = S at *
  have hw0 : wrap64 ((a : Int) + 1) = (a : Int) + 1 := by unfold wrap64; omega
  go_enter Try.func81, Try.ntmps81
  go_wp2
  go_loopw [8] (fun p wr => ∃ (i : Nat) (f1 : Nat → Rt), p = .int .i64 (i : Int) ∧ a < i ∧ Hid (Same n f f1 ∧ SR g w q n f1 wr)) (fun p _ => n - (RowKit.intOf p).toNat)
  case atStart => exact ⟨a + 1, f, by rw [Int.natCast_add]; rfl, by omega, Lib.hid ⟨Same.refl _ _, S0.out⟩⟩
  case round =>
    clear S0
    obtain ⟨i, f1, rfl, hai, S1⟩ := hrel
    by_cases hlt : i < b
    · have hltz : (i : Int) < (b : Int) := by omega
      go_wp2
      go_loopw [9] (fun p wx => ∃ (j : Nat) (f2 : Nat → Rt), p = .int .i64 (j : Int) ∧ j ≤ i ∧ Hid (Same n f f2 ∧ SR g w q n f2 wx)) (fun p _ => (RowKit.intOf p).toNat)
      case atStart => exact ⟨i, f1, rfl, Nat.le_refl _, S1⟩
      case round =>
        clear S1
        obtain ⟨j, f2, rfl, hji, S2⟩ := hrel
        by_cases hja : a < j
        · obtain ⟨jp, rfl⟩ : ∃ jp, j = jp + 1 := ⟨j - 1, by omega⟩
          have hjz : ((jp + 1 : Nat) : Int) - 1 = (jp : Int) := by omega
          have hjw : wrap64 (jp : Int) = (jp : Int) := by unfold wrap64; omega
          have hja' : ((jp + 1 : Nat) : Int) > (a : Int) := by omega
          have hjn : ((jp + 1 : Nat) : Int) < (n : Int) := by omega
          have hjn' : (jp : Int) < (n : Int) := by omega
          have HJ := Lib.hid (show jp + 1 ≤ i ∧ jp + 1 < n ∧ jp < n by omega)
          obtain ⟨P, hP⟩ : ∃ P, P = jp + 1 := ⟨_, rfl⟩
          have HP := Lib.hid hP
          rw [← hP] at hjz hja' hjn hji hja HJ ⊢
          clear hP
          have ca := S2.out.2.c P HJ.out.2.1
          have cb := S2.out.2.c jp HJ.out.2.2
          change wr.cell? ⟨q, P, none⟩ = some (.slice (some ⟨(f2 P).b, (f2 P).o, none⟩) (f2 P).xs.length (f2 P).k) at ca
          change wr.cell? ⟨q, jp, none⟩ = some (.slice (some ⟨(f2 jp).b, (f2 jp).o, none⟩) (f2 jp).xs.length (f2 jp).k) at cb
          have HC2 := Lib.hid (fun d os => HC.out f2 (Go.Sort.grow (redrawn wr d) os) (S2.out.2.keep (below_regrown wr d os)) P jp HJ.out.2.1 HJ.out.2.2)
          have r0 := fun p : Regrown => cell_regrown ca p.d p.os
          have r1 := fun p : Regrown => cell_regrown cb p.d p.os
          obtain ⟨c, hc⟩ : ∃ c, cmpR g.T (f2 P).xs (f2 jp).xs = c := ⟨_, rfl⟩
          rw [hc] at HC2
          clear hc
          go_upto_region 4 with fail
          refine wp_region_quiet_below (by kernel_rfl) (by kernel_rfl) ?_
          repeat (go_big_quiet_step (with_reducible exact Calls.regrown_of (HC2.out _ _)))
          refine wpQuiet_nil ?_
          rintro W6 ⟨pr, hpr⟩
          have B6 : Below wr.heap.size wr W6 := by rw [hpr]; exact below_regrown wr pr.d pr.os
          have S6 := Lib.hid (And.intro S2.out.1 (S2.out.2.keep B6))
          clear hpr r0 r1 ca cb HC2 B6 S2
          by_cases hc0 : c < 0
          · have ca := S6.out.2.c P HJ.out.2.1
            have cb := S6.out.2.c jp HJ.out.2.2
            have cz := S6.out.2.z
            obtain ⟨u, cc⟩ := S6.out.2.c2 HJ.out.2.2 HJ.out.2.1 (f2 jp).v
            have S7 := Lib.hid (show Same n f (swF f2 P jp) ∧ SR g w q n (swF f2 P jp) ((W6.setCell ⟨q, P, none⟩ (f2 jp).v).setCell ⟨q, jp, none⟩ (f2 P).v).drew from ⟨S6.out.1.trans (Same.sw f2 HJ.out.2.1 HJ.out.2.2), S6.out.2.sw HJ.out.2.1 HJ.out.2.2⟩)
            have fa := cz P
            have fb := cz jp
            unfold Rt.v at ca cb cc S7
            clear cz S6
            go_upto_region 6 with fail
            have mixed : Try.prog.follows .mixedOrders = true := by kernel_rfl
            go_big_region_o
            clear ca cb cc fa fb
            generalize ((W6.setCell ⟨q, P, none⟩ (.slice (some ⟨(f2 jp).b, (f2 jp).o, none⟩) (f2 jp).xs.length (f2 jp).k)).setCell ⟨q, jp, none⟩ (.slice (some ⟨(f2 P).b, (f2 P).o, none⟩) (f2 P).xs.length (f2 P).k)).drew = W7 at S7 ⊢
            go_wp2
            go_roundw
            case rel => exact ⟨jp, swF f2 P jp, rfl, by have := HP.out; omega, S7⟩
            case measure =>
              have := HP.out
              simp [RowKit.intOf]
              omega
          · have hi1 : wrap64 ((i : Int) + 1) = (i : Int) + 1 := by unfold wrap64; omega
            go_wp2
            go_roundw
            case rel => exact ⟨i + 1, f2, by rw [Int.natCast_add]; rfl, by omega, S6⟩
            case measure =>
              simp [RowKit.intOf]
              omega
        · have hja' : ¬ (j : Int) > (a : Int) := by omega
          have hi1 : wrap64 ((i : Int) + 1) = (i : Int) + 1 := by unfold wrap64; omega
          go_upto_region 4 with fail
          refine wp_region_quiet_below (by kernel_rfl) (by kernel_rfl) ?_
          repeat (go_big_quiet_step (fail))
          refine wpQuiet_nil ?_
          rintro W6 ⟨pr, hpr⟩
          have B6 : Below wr.heap.size wr W6 := by rw [hpr]; exact below_regrown wr pr.d pr.os
          have S6 := Lib.hid (And.intro S2.out.1 (S2.out.2.keep B6))
          clear hpr B6 S2
          go_wp2
          go_roundw
          case rel => exact ⟨i + 1, f2, by rw [Int.natCast_add]; rfl, by omega, S6⟩
          case measure =>
            simp [RowKit.intOf]
            omega
    · have hltz : ¬ (i : Int) < (b : Int) := by omega
      go_wp2
      go_end0
      exact ⟨rfl, f1, S1.out⟩

end Go.Proofs.Ytjhpbemnklpefaa

namespace Go.Proofs.Ytjhpbemnklpefaa
open Go.RowKit Go.Lib Plain

set_option maxHeartbeats 16000000 in
set_option maxRecDepth 100000 in
theorem reverse_any (g : Tg) (w : World) (q n cap : Nat) (hn : n ≤ 110075314176) (f : Nat → Rt) (W : World) (hS : SR g w q n f W) (S : Value) (a b : Nat) (hb : b ≤ n) (ha : a ≤ n) :
    Calls Try.prog 85 #[.slice (some ⟨q, 0, none⟩) n cap, .int .i64 (a : Int), .int .i64 (b : Int), .func (.func 16) #[S] #[]] W (SQ g w q n f) := by
  have S0 := Lib.hid hS
  clear hS
  have hw0 : wrap64 ((b : Int) - 1) = (b : Int) - 1 := by unfold wrap64; omega
  have mixed : Try.prog.follows .mixedOrders = true := by kernel_rfl
  go_enter Try.func85, Try.ntmps85
  go_wp2
  go_loopw [8, 9] (fun s8 s9 wr => ∃ (i : Nat) (jz : Int) (f1 : Nat → Rt), s8 = .int .i64 (i : Int) ∧ s9 = .int .i64 jz ∧ jz < (n : Int) ∧ -2 ≤ jz ∧ i ≤ n + 1 ∧ Hid (Same n f f1 ∧ SR g w q n f1 wr)) (fun s8 s9 _ => (RowKit.intOf s9 - RowKit.intOf s8).toNat)
  case atStart => exact ⟨a, (b : Int) - 1, f, rfl, rfl, by omega, by omega, by omega, Lib.hid ⟨Same.refl _ _, S0.out⟩⟩
  case round =>
    clear S0
    obtain ⟨i, jz, f1, rfl, rfl, hjn, hj2, hin, S1⟩ := hrel
    by_cases hlt : (i : Int) < jz
    · obtain ⟨j, rfl⟩ : ∃ j : Nat, jz = (j : Int) := ⟨jz.toNat, by omega⟩
      have HJ := Lib.hid (show i < n ∧ j < n by omega)
      have hi' : (i : Int) < (n : Int) := by omega
      have ca := S1.out.2.c i HJ.out.1
      have cb := S1.out.2.c j HJ.out.2
      have cz := S1.out.2.z
      obtain ⟨u, cc⟩ := S1.out.2.c2 HJ.out.2 HJ.out.1 (f1 j).v
      have S7 := Lib.hid (show Same n f (swF f1 i j) ∧ SR g w q n (swF f1 i j) ((wr.setCell ⟨q, i, none⟩ (f1 j).v).setCell ⟨q, j, none⟩ (f1 i).v).drew from ⟨S1.out.1.trans (Same.sw f1 HJ.out.1 HJ.out.2), S1.out.2.sw HJ.out.1 HJ.out.2⟩)
      have fa := cz i
      have fb := cz j
      unfold Rt.v at ca cb cc S7
      clear cz S1
      go_upto_region 3 with fail
      go_big_region_o
      clear ca cb cc fa fb
      generalize ((wr.setCell ⟨q, i, none⟩ (.slice (some ⟨(f1 j).b, (f1 j).o, none⟩) (f1 j).xs.length (f1 j).k)).setCell ⟨q, j, none⟩ (.slice (some ⟨(f1 i).b, (f1 i).o, none⟩) (f1 i).xs.length (f1 i).k)).drew = W7 at S7 ⊢
      have hw1 : wrap64 ((i : Int) + 1) = (i : Int) + 1 := by unfold wrap64; omega
      have hw2 : wrap64 ((j : Int) - 1) = (j : Int) - 1 := by unfold wrap64; omega
      go_wp2
      go_roundw
      case rel => exact ⟨i + 1, (j : Int) - 1, swF f1 i j, by rw [Int.natCast_add]; rfl, rfl, by omega, by omega, by omega, S7⟩
      case measure =>
        simp [RowKit.intOf]
        omega
    · go_wp2
      go_end0
      exact ⟨rfl, f1, S1.out⟩

end Go.Proofs.Ytjhpbemnklpefaa
