/-
  A topology in memory; small functions over it. No conditions.
-/
import Derived.Test.YtjhpbemnklpefaaMBase
import Derived.Test.YtjhpbemnklpefaaMTpP
namespace Go.Proofs.Ytjhpbemnklpefaa
open Go.RowKit Go.Lib Plain

/-- A topology and where its slices lie. -/
structure Tg where
  T : Tp
  bs : Nat
  os : Nat
  ks : Nat
  bl : Nat
  ol : Nat
  kl : Nat
def Tg.vs (g : Tg) : List Value := [.int .i64 (g.T.n : Int), .slice (some ⟨g.bs, g.os, none⟩) g.T.n g.ks, .slice (some ⟨g.bl, g.ol, none⟩) g.T.ls.length g.kl]
theorem Tg.lit (g : Tg) : g.vs.toArray = #[.int .i64 (g.T.n : Int), .slice (some ⟨g.bs, g.os, none⟩) g.T.n g.ks, .slice (some ⟨g.bl, g.ol, none⟩) g.T.ls.length g.kl] := rfl
theorem Tg.vs_one (g : Tg) : ∀ v ∈ g.vs, v.oneCell' = true := by
  intro v hv
  simp only [Tg.vs, List.mem_cons, List.not_mem_nil, or_false] at hv
  rcases hv with rfl | rfl | rfl <;> rfl
structure Tg.In (g : Tg) (w : World) : Prop where
  s : ∀ k, k < g.T.n → w.cell? ⟨g.bs, g.os + k, none⟩ = some (.bool (g.T.st k))
  a : ∀ i, i < g.T.ls.length → w.cell? ⟨g.bl, g.ol + i * 4, none⟩ = some (.int .i64 ((g.T.lk i).a : Int))
  b : ∀ i, i < g.T.ls.length → w.cell? ⟨g.bl, g.ol + i * 4 + 1, none⟩ = some (.int .i64 ((g.T.lk i).b : Int))
  p : ∀ i, i < g.T.ls.length → w.cell? ⟨g.bl, g.ol + i * 4 + 2, none⟩ = some (.int .i64 ((g.T.lk i).per : Int))
  d : ∀ i, i < g.T.ls.length → w.cell? ⟨g.bl, g.ol + i * 4 + 3, none⟩ = some (.int .i64 ((g.T.lk i).dly : Int))
  k : g.T.ls.length ≤ g.kl
theorem Tg.In.keep {g : Tg} {w W : World} (h : g.In w) (hb : Below w.heap.size w W) : g.In W :=
  ⟨fun k hk => below_keep hb (h.s k hk), fun i hi => below_keep hb (h.a i hi), fun i hi => below_keep hb (h.b i hi), fun i hi => below_keep hb (h.p i hi), fun i hi => below_keep hb (h.d i hi), h.k⟩

set_option maxHeartbeats 2000000 in
set_option maxRecDepth 100000 in
theorem node16_any (n : Nat) (v1 v2 : Value) (h1 : v1.oneCell' = true) (h2 : v2.oneCell' = true) (x : Nat) (w : World) :
    Calls Try.prog 57 #[.agg #[.int .i64 (n : Int), v1, v2], .int .i64 (x : Int)] w fun e w' => e = .returned (.bool (decide (x < n))) ∧ Below w.heap.size w w' := by
  by_cases hx : x < n
  · have hx' : (x : Int) < (n : Int) := by omega
    rw [decide_eq_true hx]
    go_enter Try.func57, Try.ntmps57
    go_wp2
    go_ret
    exact ⟨rfl, below_alloc (Below.refl _ _) _⟩
  · have hx' : ¬ (x : Int) < (n : Int) := by omega
    rw [decide_eq_false hx]
    go_enter Try.func57, Try.ntmps57
    go_wp2
    go_ret
    exact ⟨rfl, below_alloc (Below.refl _ _) _⟩

set_option maxHeartbeats 2000000 in
set_option maxRecDepth 100000 in
theorem node_any (n : Nat) (v1 v2 : Value) (h1 : v1.oneCell' = true) (h2 : v2.oneCell' = true) (x : Nat) (hx : x < n) (w : World) :
    Calls Try.prog 65 #[.agg #[.int .i64 (n : Int), v1, v2], .int .i64 (x : Int)] w fun e w' => e = .returned (.bool true) ∧ Below w.heap.size w w' := by
  have hx' : (x : Int) < (n : Int) := by omega
  go_enter Try.func65, Try.ntmps65
  go_wp2
  go_ret
  exact ⟨rfl, below_alloc (Below.refl _ _) _⟩

/-- A row of small numbers. -/
structure U8 where
  p : Option Addr
  n : Nat
  k : Nat
  f : Nat → Nat
structure U8.In (u : U8) (w : World) : Prop where
  c : ∀ j, j < u.n → ∃ b o, u.p = some ⟨b, o, none⟩ ∧ w.cell? ⟨b, o + j, none⟩ = some (.int .u8 (u.f j : Int))
  z : ∀ j, u.n ≤ j → u.f j = 0
  l : ∀ j, u.f j ≤ 255
theorem U8.In.keep {u : U8} {w W : World} (h : u.In w) (hb : Below w.heap.size w W) : u.In W where
  c j hj := let ⟨b, o, h1, h2⟩ := h.c j hj; ⟨b, o, h1, below_keep hb h2⟩
  z := h.z
  l := h.l
def U8.v (u : U8) : Value := .slice u.p u.n u.k

set_option maxHeartbeats 2000000 in
set_option maxRecDepth 100000 in
theorem pick_any (u : U8) (j : Nat) (w : World) (hu : u.In w) :
    Calls Try.prog 11 #[.slice u.p u.n u.k, .int .i64 (j : Int)] w fun e w' => e = .returned (.int .i64 (u.f j : Int)) ∧ w' = w := by
  by_cases hj : j < u.n
  · obtain ⟨b, o, hp, hc⟩ := hu.c j hj
    have hl := hu.l j
    have h1 : (j : Int) < (u.n : Int) := by omega
    rw [hp]
    go_enter Try.func11, Try.ntmps11
    go_wp2
    go_ret
    exact ⟨rfl, rfl⟩
  · have h1 : ¬ (j : Int) < (u.n : Int) := by omega
    rw [hu.z j (by omega)]
    go_enter Try.func11, Try.ntmps11
    go_wp2
    go_ret
    exact ⟨rfl, rfl⟩

def Lk.vs (l : Lk) : List Value := [.int .i64 (l.a : Int), .int .i64 (l.b : Int), .int .i64 (l.per : Int), .int .i64 (l.dly : Int)]

set_option maxHeartbeats 4000000 in
set_option maxRecDepth 100000 in
theorem joins_any (la lb lp ld a b : Nat) (w : World) :
    Calls Try.prog 27 #[.agg #[.int .i64 (la : Int), .int .i64 (lb : Int), .int .i64 (lp : Int), .int .i64 (ld : Int)], .int .i64 (a : Int), .int .i64 (b : Int)] w fun e w' => e = .returned (.bool (decide (Jn ⟨la, lb, lp, ld⟩ a b))) ∧ Below w.heap.size w w' := by
  unfold Jn
  dsimp only
  go_enter Try.func27, Try.ntmps27
  by_cases h1 : la = a
  · by_cases h2 : lb = b
    · subst h1 h2
      go_wp2
      go_ret
      exact ⟨ret_bool (by simp), below_alloc (Below.refl _ _) _⟩
    · have h2' : ¬ (lb : Int) = (b : Int) := by omega
      subst h1
      by_cases h3 : la = b
      · subst h3
        go_wp2
        go_ret
        exact ⟨ret_bool (by simp; omega), below_alloc (Below.refl _ _) _⟩
      · have h3' : ¬ (la : Int) = (b : Int) := by omega
        go_wp2
        go_ret
        exact ⟨ret_bool (by simp; omega), below_alloc (Below.refl _ _) _⟩
  · have h1' : ¬ (la : Int) = (a : Int) := by omega
    by_cases h3 : la = b
    · subst h3
      by_cases h4 : lb = a
      · subst h4
        go_wp2
        go_ret
        exact ⟨ret_bool (by simp), below_alloc (Below.refl _ _) _⟩
      · have h4' : ¬ (lb : Int) = (a : Int) := by omega
        go_wp2
        go_ret
        exact ⟨ret_bool (by simp; omega), below_alloc (Below.refl _ _) _⟩
    · have h3' : ¬ (la : Int) = (b : Int) := by omega
      go_wp2
      go_ret
      exact ⟨ret_bool (by simp [h1, h3]), below_alloc (Below.refl _ _) _⟩

end Go.Proofs.Ytjhpbemnklpefaa
