/-
  Sorting the routes: the row in whatever order; what a test and an exchange want. No conditions.
-/
import Derived.Test.YtjhpbemnklpefaaMTpAe
namespace Go.Proofs.Ytjhpbemnklpefaa
open Go.RowKit Go.Lib Plain

/-- The row of routes, in whatever order. -/
def SS (g : Tg) (w : World) (q n : Nat) (f : Nat → Rt) (W : World) : Prop := ∃ f', Same n f f' ∧ SR g w q n f' W
/-- What the sorting functions leave. -/
def SP (g : Tg) (w : World) (q n : Nat) (f : Nat → Rt) (e : Ending) (W' : World) : Prop := e = .returned (.tuple #[]) ∧ SS g w q n f W'
/-- What stands fast: the topology, the search's value. -/
def SX (g : Tg) (w : World) (S : Value) : Prop := OkT g.T ∧ g.In w ∧ S = .agg (Sv g).toArray
section
variable {g : Tg} {w : World} {q n : Nat} {f : Nat → Rt} {W W' : World}
theorem SS.keep (h : SS g w q n f W) (hb : Below W.heap.size W W') : SS g w q n f W' := by
  obtain ⟨f', h1, h2⟩ := h
  exact ⟨f', h1, h2.keep hb⟩
theorem SS.sub {f1 : Nat → Rt} (h1 : Same n f f1) (h : SS g w q n f1 W) : SS g w q n f W := by
  obtain ⟨f', h2, h3⟩ := h
  exact ⟨f', h1.trans h2, h3⟩
theorem SS.pair {S : Value} (h : SS g w q n f W) (hx : SX g w S) {P J : Nat} (hP : P < n) (hJ : J < n) :
    ∃ (b1 o1 l1 k1 b2 o2 l2 k2 : Nat) (z : Int), W.cell? ⟨q, P, none⟩ = some (.slice (some ⟨b1, o1, none⟩) l1 k1) ∧ W.cell? ⟨q, J, none⟩ = some (.slice (some ⟨b2, o2, none⟩) l2 k2) ∧
      Hid (∀ d os, Calls Try.prog 16 #[S, .slice (some ⟨b1, o1, none⟩) l1 k1, .slice (some ⟨b2, o2, none⟩) l2 k2] (Go.Sort.grow (redrawn W d) os) fun e w' => e = .returned (.int .i64 z) ∧ Below (Go.Sort.grow (redrawn W d) os).heap.size (Go.Sort.grow (redrawn W d) os) w') := by
  obtain ⟨hk, hg, rfl⟩ := hx
  obtain ⟨f', _, h2⟩ := h
  exact ⟨_, _, _, _, _, _, _, _, cmpR g.T (f' P).xs (f' J).xs, h2.c P hP, h2.c J hJ, Lib.hid fun d os => cmp_any g hk w hg q n f' _ (h2.keep (below_regrown W d os)) P J hP hJ⟩
theorem SS.exch (h : SS g w q n f W) {P J : Nat} (hP : P < n) (hJ : J < n) :
    ∃ (b1 o1 l1 k1 b2 o2 l2 k2 : Nat) (u : Value), W.cell? ⟨q, P, none⟩ = some (.slice (some ⟨b1, o1, none⟩) l1 k1) ∧ W.cell? ⟨q, J, none⟩ = some (.slice (some ⟨b2, o2, none⟩) l2 k2) ∧
      W.frozen? ⟨q, P, none⟩ = false ∧ W.frozen? ⟨q, J, none⟩ = false ∧ (W.setCell ⟨q, P, none⟩ (.slice (some ⟨b2, o2, none⟩) l2 k2)).cell? ⟨q, J, none⟩ = some u ∧
      Hid (SS g w q n f ((W.setCell ⟨q, P, none⟩ (.slice (some ⟨b2, o2, none⟩) l2 k2)).setCell ⟨q, J, none⟩ (.slice (some ⟨b1, o1, none⟩) l1 k1)).drew) := by
  obtain ⟨f', h1, h2⟩ := h
  obtain ⟨u, hu⟩ := h2.c2 hJ hP (f' J).v
  exact ⟨_, _, _, _, _, _, _, _, u, h2.c P hP, h2.c J hJ, h2.z P, h2.z J, hu, Lib.hid ⟨_, h1.trans (Same.sw f' hP hJ), h2.sw hP hJ⟩⟩
end
theorem lt_int {a b : Nat} (h : a < b) : (a : Int) < (b : Int) := Int.ofNat_lt.2 h
/-- A number so small that nothing wraps: hidden from 'omega', which stands still where 'wrap64' is an atom. -/
def Sm (x : Nat) : Prop := x ≤ 500000000000
theorem smA : ∀ x : Nat, Sm x → wrap64 (x : Int) = (x : Int) := fun x h => by unfold Sm at h; unfold wrap64; omega
theorem smB : ∀ x : Nat, Sm x → wrap64 ((x : Int) - 1) = (x : Int) - 1 := fun x h => by unfold Sm at h; unfold wrap64; omega
theorem smC : ∀ x : Nat, Sm x → wrap64 ((x : Int) + 1) = ((x + 1 : Nat) : Int) := fun x h => by unfold Sm at h; unfold wrap64; omega
theorem smD : ∀ x : Nat, Sm x → 1 ≤ x → wrap64 ((x : Int) - 1) = ((x - 1 : Nat) : Int) := fun x h h1 => by unfold Sm at h; unfold wrap64; omega
theorem sm {x n : Nat} (hn : n ≤ 110075314176) (h : x ≤ 3 * n + 100) : Sm x := by unfold Sm; omega
theorem sml {x n : Nat} (hn : n ≤ 110075314176) (h : x ≤ n) : Sm x := sm hn (by omega)
theorem smk {x n : Nat} (hn : n ≤ 110075314176) (h : x < 100) : Sm x := sm hn (by omega)

end Go.Proofs.Ytjhpbemnklpefaa
