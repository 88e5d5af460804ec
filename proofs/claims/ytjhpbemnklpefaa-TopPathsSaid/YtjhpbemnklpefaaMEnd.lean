/-
  Texts of this claim laid together: TpBe, TpBf, TpBg.
-/
import Derived.Deep.QuietTactic
import Derived.BigQuiet
import Derived.Test.YtjhpbemnklpefaaMPl
import Derived.Test.YtjhpbemnklpefaaMStr
import Derived.Test.YtjhpbemnklpefaaMLst
import Derived.Test.YtjhpbemnklpefaaMTpT
namespace Go.Proofs.Ytjhpbemnklpefaa.Plain

def dT : Tp := ⟨4, 2, [⟨2, 0, 1, 0⟩, ⟨2, 1, 1, 0⟩, ⟨0, 3, 2, 0⟩, ⟨1, 3, 2, 0⟩]⟩
theorem below4 {P : Nat → Prop} (h0 : P 0) (h1 : P 1) (h2 : P 2) (h3 : P 3) : ∀ i, i < 4 → P i
  | 0, _ => h0
  | 1, _ => h1
  | 2, _ => h2
  | 3, _ => h3
  | n + 4, h => absurd h (by omega)
theorem dT_ok : OkT dT where
  n2 := by decide
  n12 := by decide
  brn := by decide
  l24 := by decide
  ok := below4 ⟨by decide, by decide, by decide, by decide, by decide, by decide, by decide⟩ ⟨by decide, by decide, by decide, by decide, by decide, by decide, by decide⟩ ⟨by decide, by decide, by decide, by decide, by decide, by decide, by decide⟩ ⟨by decide, by decide, by decide, by decide, by decide, by decide, by decide⟩
  nj := fun i j hj hi => by
    change i < 4 at hi
    have h : ∀ i, i < 4 → ∀ j, j < i → ¬ Jn (dT.lk j) (dT.lk i).a (dT.lk i).b := by decide
    exact h i hi j hj
  deg := fun k h1 h2 => by
    change 2 ≤ k at h1
    change k < 4 at h2
    have h : ∀ k, k < 4 → 2 ≤ k → 1 ≤ degL dT.ls k ∧ degL dT.ls k ≤ 2 := by decide
    exact h k h2 h1
  con := by
    have h : ∀ k, k < 4 → rch dT 4 k = true := by decide
    exact h
theorem dT_routes : routesP dT 2 3 = [[0, 4], [2, 6]] := by decide +kernel
theorem dT_apart : AP dT [0, 4] [2, 6] := by
  intro i j hi hj
  change i < 2 at hi
  change j < 2 at hj
  have h : ∀ i, i < 2 → ∀ j, j < 2 → [0, 4].getD i 0 / 2 ≠ [2, 6].getD j 0 / 2 ∧ (i + 1 < 2 → j + 1 < 2 → dT.to ([0, 4].getD i 0) ≠ dT.to ([2, 6].getD j 0)) := by decide
  exact h i hi j hj
theorem dT_two {xs : List Nat} (h : xs ∈ routesP dT 2 3) : xs.length = 2 := by
  rw [dT_routes] at h
  simp only [List.mem_cons, List.not_mem_nil, or_false] at h
  rcases h with rfl | rfl <;> rfl
theorem dT_pair : ¬ ∀ xs ∈ routesP dT 2 3, ∀ ys ∈ routesP dT 2 3, ¬ AP dT xs ys := fun h =>
  h [0, 4] (by rw [dT_routes]; simp) [2, 6] (by rw [dT_routes]; simp) dT_apart
/-- A route between different nodes has a port. -/
theorem PW.pos {T : Tp} {a b : Nat} {r : List Nat} (h : PW T a r b) (hab : a ≠ b) : 1 ≤ r.length := by
  cases r with
  | nil => exact absurd h.lst hab
  | cons p r => simp

end Go.Proofs.Ytjhpbemnklpefaa.Plain

namespace Go.Proofs.Ytjhpbemnklpefaa
open Go.RowKit Go.Lib Plain

/-- Two routes. -/
def R2 (r s : Rt) (j : Nat) : Rt := if j = 0 then r else s
theorem RR.of_mem {g : Tg} {a b : Nat} {r : Rt} {w : World} (hk : OkT g.T) (ha : a < g.T.n) (hab : a ≠ b) (hg : g.In w) (hm : r.xs ∈ routesP g.T a b) (hr : r.In w) : RR g a b r w :=
  ⟨hk, ha, routesP_pw hm, (routesP_pw hm).pos hab, hg, hr⟩
theorem SI.two {g : Tg} {a b : Nat} {r s : Rt} {q : Nat} {w : World} (hb : b < g.T.n) (sa : g.T.st a = true) (sb : g.T.st b = true) (ne : a ≠ b) (hr : RR g a b r w) (hs : RR g a b s w)
    (k0 : w.cell? ⟨q, 0, none⟩ = some r.v) (k1 : w.cell? ⟨q, 1, none⟩ = some s.v) (ap : AP g.T r.xs s.xs) : SI g a b (R2 r s) 2 q w :=
  ⟨hr.ok, hr.an, hb, sa, sb, ne, by decide, by decide, fun j hj => by
    match j, hj with
    | 0, _ => exact ⟨hr, k0⟩
    | 1, _ => exact ⟨hs, k1⟩, fun _ => ap⟩
theorem SI.one {g : Tg} {a b : Nat} {r : Rt} {q : Nat} {w : World} (hb : b < g.T.n) (sa : g.T.st a = true) (sb : g.T.st b = true) (ne : a ≠ b) (hr : RR g a b r w)
    (k0 : w.cell? ⟨q, 0, none⟩ = some r.v) : SI g a b (fun _ => r) 1 q w :=
  ⟨hr.ok, hr.an, hb, sa, sb, ne, by decide, by decide, fun j hj => by
    match j, hj with
    | 0, _ => exact ⟨hr, k0⟩, fun h => absurd h (by decide)⟩

set_option maxHeartbeats 8000000 in
set_option maxRecDepth 100000 in
theorem diamond_any (w : World) : Calls Try.prog 4 #[] w (TrB w) := by
  go_enter Try.func4, Try.ntmps4
  go_upto_region 2 with fail
  refine wp_world ?_
  intro V hV
  have BV := Lib.hid (show Below w.heap.size w V by subst hV; exact below_alloc (below_alloc (below_alloc (Below.refl _ _) _) _) _)
  have hT : ∃ g : Tg, g.T = dT ∧ TAt g (w.heap.size + 1 + 1) V := by
    refine ⟨⟨dT, w.heap.size, 0, 4, w.heap.size + 1, 0, 4⟩, rfl, ?_⟩
    subst hV
    refine ⟨by simp [go_sem]; rfl, by simp [go_sem]; rfl, by simp [go_sem]; rfl, ⟨?_, ?_, ?_, ?_, ?_, Nat.le_refl 4⟩⟩
    · exact below4 (by simp [go_sem]; rfl) (by simp [go_sem]; rfl) (by simp [go_sem]; rfl) (by simp [go_sem]; rfl)
    · exact below4 (by simp [go_sem]; rfl) (by simp [go_sem]; rfl) (by simp [go_sem]; rfl) (by simp [go_sem]; rfl)
    · exact below4 (by simp [go_sem]; rfl) (by simp [go_sem]; rfl) (by simp [go_sem]; rfl) (by simp [go_sem]; rfl)
    · exact below4 (by simp [go_sem]; rfl) (by simp [go_sem]; rfl) (by simp [go_sem]; rfl) (by simp [go_sem]; rfl)
    · exact below4 (by simp [go_sem]; rfl) (by simp [go_sem]; rfl) (by simp [go_sem]; rfl) (by simp [go_sem]; rfl)
  clear hV
  obtain ⟨g, hg, TV⟩ := hT
  have hk : OkT g.T := by rw [hg]; exact dT_ok
  have ha : 2 < g.T.n := by rw [hg]; decide
  have hb : 3 < g.T.n := by rw [hg]; decide
  have sa : g.T.st 2 = true := by rw [hg]; decide
  have sb : g.T.st 3 = true := by rw [hg]; decide
  have HP := Lib.hid (show ∀ W, g.In W → Calls Try.prog 7 #[.agg #[.int .i64 (g.T.n : Int), .slice (some ⟨g.bs, g.os, none⟩) g.T.n g.ks, .slice (some ⟨g.bl, g.ol, none⟩) g.T.ls.length g.kl], .int .i64 2, .int .i64 3] W (PairQ g 2 3 W) from
    fun W hW => pair_any g hk 2 3 ha hb (by decide) W hW)
  have c0 := TV.c0; have c1 := TV.c1; have c2 := TV.c2
  have TVH := Lib.hid TV
  have HK := Lib.hid (And.intro hk (And.intro ha (And.intro hb (And.intro sa sb))))
  have HG := Lib.hid hg
  clear TV hk ha hb sa sb hg
  go_wp2_with fail
  refine (HP.out V TVH.out.i).mono ?_
  rintro e w1 ⟨hor, hb1⟩
  have T1 := TVH.out.keep hb1
  have B1 := Lib.hid (below_step BV.out hb1)
  have t1 := World.block_lt_of_cell? _ _ T1.c0
  clear hb1 c0 c1 c2 TVH BV HP
  rcases hor with ⟨r, s, rfl, mr, ms, ap, Hr, Hs⟩ | ⟨rfl, h⟩
  · have lr : r.xs.length = 2 := dT_two (by rw [← HG.out]; exact mr)
    have ls : s.xs.length = 2 := dT_two (by rw [← HG.out]; exact ms)
    have HRR := Lib.hid (And.intro (RR.of_mem HK.out.1 HK.out.2.1 (by decide) T1.i mr Hr) (And.intro (RR.of_mem HK.out.1 HK.out.2.1 (by decide) T1.i ms Hs) ap))
    clear mr ms ap Hr Hs
    have T1H := Lib.hid T1
    clear T1
    rw [show r.v = .slice (some ⟨r.b, r.o, none⟩) 2 r.k by unfold Rt.v; rw [lr], show s.v = .slice (some ⟨s.b, s.o, none⟩) 2 s.k by unfold Rt.v; rw [ls]]
    go_upto_region 4 with fail
    refine wp_world ?_
    intro W hW
    have bW := Lib.hid (show Below w1.heap.size w1 W by subst hW; exact below_alloc (below_alloc (Below.refl _ _) _) _)
    have SW := Lib.hid (show SC 2 3 w1.heap.size 2 2 (w1.heap.size + 1) W by subst hW; exact SC.new _ 35 (by simp [go_sem]))
    have k0 : W.cell? ⟨w1.heap.size, 0, none⟩ = some r.v := by subst hW; unfold Rt.v; rw [lr]; simp [go_sem]
    have k1 : W.cell? ⟨w1.heap.size, 1, none⟩ = some s.v := by subst hW; unfold Rt.v; rw [ls]; simp [go_sem]
    clear hW
    have TW := T1H.out.keep bW.out
    have BW := Lib.hid (below_step B1.out bW.out)
    have HI := Lib.hid (SI.two HK.out.2.2.1 HK.out.2.2.2.1 HK.out.2.2.2.2 (by decide) (HRR.out.1.keep bW.out) (HRR.out.2.1.keep bW.out) k0 k1 HRR.out.2.2)
    have HC := Lib.hid (sCheck_any g 2 3 (R2 r s) 2 w1.heap.size 2 W HI.out)
    have c0 := TW.c0; have c1 := TW.c1; have c2 := TW.c2
    clear k0 k1 HI HRR bW B1 T1H TW HK HG lr ls
    go_wp2_with (refine wpList_load_wanted (by rfl) (.tmp 5) 35 rfl (w1.heap.size + 1) 0 (sVs 2 3 w1.heap.size 2 2) rfl agg35 size35 SW.out.holds ?_; simp only [Act.put, List.setIfInBounds_toArray, List.set_cons_succ, List.set_cons_zero])
    rw [sVs_lit]
    refine HC.out.mono ?_
    rintro e w2 ⟨rfl, hb2⟩
    have B2 := Lib.hid (below_step BW.out hb2)
    clear hb2 c0 c1 c2 HC SW BW
    go_wp2
    go_ret
    exact ⟨rfl, B2.out⟩
  · exact absurd (by rw [← HG.out]; exact h) dT_pair

end Go.Proofs.Ytjhpbemnklpefaa

namespace Go.Proofs.Ytjhpbemnklpefaa
open Go.RowKit Go.Lib Plain

theorem rem_nat (x n : Nat) : ∃ a : Nat, a = x % n ∧ Int.tmod (x : Int) (n : Int) = (a : Int) ∧ (x : Int) % (n : Int) = (a : Int) :=
  ⟨x % n, rfl, by rw [Int.tmod_eq_emod_of_nonneg (by omega)]; exact (Int.natCast_emod x n).symm, (Int.natCast_emod x n).symm⟩
theorem wrap_u8 {x : Nat} (h : x ≤ 255) : wrap64 (x : Int) = (x : Int) := by unfold wrap64; omega
theorem Dg.okD (D : Dg) : D.df.Ok := ⟨by show 1 ≤ 1 + _; omega, by show 1 + D.B % 6 ≤ 6; omega, by show 2 ≤ 2 + _; omega, by show 2 + D.S % 5 ≤ 6; omega⟩

/-- A stream's cells. -/
def sWs (a b : Nat) (v : Value) : List Value := [.int .i64 1, .int .i64 (a : Int), .int .i64 (b : Int), .int .i64 7, .int .i64 84, .int .i64 1, .int .i64 0, .int .i64 0, .int .i64 1, v]
theorem int_set {W : World} {s : Nat} {p : Option Addr} {n c : Nat} {v : Value} {x : Int} {b m : Nat} (h9 : W.cell? ⟨s, 9, none⟩ = some (.slice p n c)) (h : W.cell? ⟨b, m, none⟩ = some (.int .i64 x)) :
    (W.setCell ⟨s, 9, none⟩ v).cell? ⟨b, m, none⟩ = some (.int .i64 x) := by
  rw [World.cell?_setCell_other (h := by intro e; injection e with e1 e2 _; subst e1; subst e2; rw [h] at h9; cases h9)]
  exact h
/-- The stream's block. -/
structure StB (a b s : Nat) (p : Option Addr) (n c : Nat) (V W : World) : Prop where
  hs : s = V.heap.size
  lt : s < W.heap.size
  B : Below V.heap.size V W
  H : Holds W s (sWs a b (.slice p n c))
  z : W.frozen? ⟨s, 9, none⟩ = false
theorem StB.new (a b : Nat) (V : World) : StB a b V.heap.size none 0 0 V (V.alloc (.cells (sWs a b (.slice none 0 0)).toArray 35)) :=
  ⟨rfl, by simp [go_sem], below_alloc (Below.refl _ _) _, holds_alloc V _ 35 rfl, frozen_new _ _ _ _ rfl⟩
theorem StB.keep {a b s : Nat} {p : Option Addr} {n c : Nat} {V W W' : World} (h : StB a b s p n c V W) (hb : Below W.heap.size W W') : StB a b s p n c V W' :=
  ⟨h.hs, Nat.lt_of_lt_of_le h.lt hb.size, below_step h.B hb, h.H.keep hb, ((bcell hb).2 _ _ h.lt).trans h.z⟩
theorem StB.put {a b s : Nat} {p : Option Addr} {n c : Nat} {V W : World} (h : StB a b s p n c V W) (cs : Array Value) (p' : Option Addr) (n' c' : Nat) :
    StB a b s p' n' c' V ((W.setCell ⟨s, 9, none⟩ (.slice p' n' c')).alloc (.cells cs 37)) :=
  have hl : s < (W.setCell ⟨s, 9, none⟩ (.slice p' n' c')).heap.size := by simpa [go_sem] using h.lt
  have k : StB a b s p' n' c' V (W.setCell ⟨s, 9, none⟩ (.slice p' n' c')) := ⟨h.hs, hl, h.B.setCell (p := ⟨s, 9, none⟩) (by rw [h.hs]; exact Nat.le_refl _) _, h.H.set 9 _, by rw [World.frozen?_setCell]; exact h.z⟩
  k.keep (below_alloc (Below.refl _ _) _)
theorem StB.int {a b s : Nat} {p : Option Addr} {n c : Nat} {V W : World} (h : StB a b s p n c V W) (cs : Array Value) (v : Value) {q m : Nat} {x : Int} (hx : W.cell? ⟨q, m, none⟩ = some (.int .i64 x)) :
    ((W.setCell ⟨s, 9, none⟩ v).alloc (.cells cs 37)).cell? ⟨q, m, none⟩ = some (.int .i64 x) :=
  below_keep (below_alloc (Below.refl _ _) _) (int_set (h.H 9 _ rfl) hx)
theorem StB.rt {a b s : Nat} {p : Option Addr} {n c : Nat} {V W : World} (h : StB a b s p n c V W) (cs : Array Value) (v : Value) {r : Rt} (hr : r.In W) : r.In ((W.setCell ⟨s, 9, none⟩ v).alloc (.cells cs 37)) :=
  fun i hi => h.int cs v (hr i hi)
theorem StB.row {s : Nat} {W : World} (cs : Array Value) (v u : Value) {j : Nat} (hj : cs[j]? = some u) : ((W.setCell ⟨s, 9, none⟩ v).alloc (.cells cs 37)).cell? ⟨W.heap.size, j, none⟩ = some u := by
  simp [go_sem, hj]
theorem StB.sc {a b s q n c : Nat} {V W : World} (h : StB a b s (some ⟨q, 0, none⟩) n c V W) : SC a b q n c s W := SC.of h.H
theorem StB.c9 {a b s : Nat} {p : Option Addr} {n c : Nat} {V W : World} (h : StB a b s p n c V W) : W.cell? ⟨s, 9, none⟩ = some (.slice p n c) := h.H 9 _ rfl

/-- How often the link is used, the node is passed. -/
def hitS (R : Nat → Rt) (c : Nat) : Nat → Nat
  | 0 => 0
  | j + 1 => hitS R c j + cntN (fun i => decide ((R j).xs.getD i 0 / 2 = c)) (R j).xs.length
def metS (T : Tp) (a b : Nat) (R : Nat → Rt) (c : Nat) : Nat → Nat
  | 0 => 0
  | j + 1 => metS T a b R c j + cntN (fun i => decide (nx T a (R j).xs i = c ∧ nx T a (R j).xs i ≠ a ∧ nx T a (R j).xs i ≠ b)) ((R j).xs.length + 1)

theorem hitS_le {R : Nat → Rt} (h : ∀ j, (R j).xs.length ≤ 8) (c : Nat) : ∀ j, hitS R c j ≤ 8 * j
  | 0 => Nat.le_refl _
  | j + 1 => by
    have := hitS_le h c j
    have h1 := Nat.le_trans (cntN_le (fun i => decide ((R j).xs.getD i 0 / 2 = c)) (R j).xs.length) (h j)
    show hitS R c j + _ ≤ 8 * (j + 1)
    omega
theorem metS_le {T : Tp} {a b : Nat} {R : Nat → Rt} (h : ∀ j, (R j).xs.length ≤ 8) (c : Nat) : ∀ j, metS T a b R c j ≤ 9 * j
  | 0 => Nat.le_refl _
  | j + 1 => by
    have := metS_le (T := T) (a := a) (b := b) h c j
    have h1 := Nat.le_trans (cntN_le (fun i => decide (nx T a (R j).xs i = c ∧ nx T a (R j).xs i ≠ a ∧ nx T a (R j).xs i ≠ b)) ((R j).xs.length + 1)) (Nat.succ_le_succ (h j))
    show metS T a b R c j + _ ≤ 9 * (j + 1)
    omega
theorem cnt_yes {f : Nat → Bool} {i : Nat} (h : f i = true) : cntN f (i + 1) = cntN f i + 1 := by
  show cntN f i + (if f i then 1 else 0) = _
  rw [h]
  rfl
theorem cnt_no {f : Nat → Bool} {i : Nat} (h : f i = false) : cntN f (i + 1) = cntN f i := by
  show cntN f i + (if f i then 1 else 0) = _
  rw [h]
  rfl
theorem ne_tt {a b : Nat} (h : ¬ a = b) : ((a : Int) != (b : Int)) = true := by show (!((a : Int) == (b : Int))) = true; rw [eq_ff h]; rfl
theorem ne_ff {a b : Nat} (h : a = b) : ((a : Int) != (b : Int)) = false := by show (!((a : Int) == (b : Int))) = false; rw [eq_tt h]; rfl

set_option maxHeartbeats 8000000 in
set_option maxRecDepth 100000 in
theorem topPaths_walk (D : Dg) (hB : D.B ≤ 255) (hS : D.S ≤ 255) (x y z : Nat) (h1 : x ≤ 255) (h2 : y ≤ 255) (h3 : z ≤ 255) (w : World) (hin : D.In w) :
    Calls Try.prog 3 #[.agg D.vs.toArray, .int .u8 (x : Int), .int .u8 (y : Int), .int .u8 (z : Int)] w (TrB w) := by
  have HS := Lib.hid (fun W (hW : Below w.heap.size w W) => topo_walk D W (hin.keep hW) hB hS)
  have HDi := Lib.hid diamond_any
  have hv : D.vs.length = 6 := rfl
  have HW := Lib.hid (And.intro (wrap_u8 h1) (And.intro (wrap_u8 h2) (wrap_u8 h3)))
  clear hB hS hin h1 h2 h3
  go_enter Try.func3, Try.ntmps3
  go_upto_region 1 with fail
  refine wp_world ?_
  intro V hV
  have BV := Lib.hid (show Below w.heap.size w V by subst hV; exact below_alloc (Below.refl _ _) _)
  have HV := Lib.hid (show Holds V w.heap.size D.vs by subst hV; exact holds_alloc w D.vs 24 rfl)
  clear hV
  go_wp2_with fail
  refine (HDi.out V).mono ?_
  rintro e w1 ⟨rfl, hb1⟩
  have B1 := Lib.hid (below_step BV.out hb1)
  have H1 := Lib.hid (HV.out.keep hb1)
  clear hb1 BV HV HDi
  go_wp2_with ((with_reducible refine at_load 24 (.tmp 4) ?_); refine wpList_load_whole rfl (.tmp 4) 24 rfl w.heap.size 0 D.vs rfl agg24 size24 H1.out ?_; simp only [Act.put, List.setIfInBounds_toArray, List.set_cons_succ, List.set_cons_zero])
  refine (HS.out w1 B1.out).mono ?_
  rintro e w2 ⟨g, k, rfl, hgT, hgI, hb2⟩
  have B2 := Lib.hid (below_step B1.out hb2)
  have hk : OkT g.T := by rw [hgT]; exact t5_ok D.okD _
  have hgI := Lib.hid hgI
  clear hb2 B1 H1 HS hgT hv
  rw [Tg.lit]
  go_upto_region 4 with fail
  refine wp_world ?_
  intro V hV
  have BV := Lib.hid (show Below w.heap.size w V by subst hV; exact below_alloc B2.out _)
  have TV := Lib.hid (show TAt g w2.heap.size V by subst hV; exact TAt.new hgI.out 29)
  have t0 : w2.heap.size < V.heap.size := by subst hV; simp [go_sem]
  clear hV B2 hgI
  obtain ⟨a, ea, ra, ra'⟩ := rem_nat x g.T.n
  obtain ⟨b, eb, rb, rb'⟩ := rem_nat y g.T.n
  have ha : a < g.T.n := by rw [ea]; exact Nat.mod_lt _ (by have := hk.n2; omega)
  have hb : b < g.T.n := by rw [eb]; exact Nat.mod_lt _ (by have := hk.n2; omega)
  have n0 : ¬ (g.T.n : Int) = 0 := by have := hk.n2; omega
  have HK := Lib.hid (And.intro hk (And.intro ha hb))
  clear hk ea eb ha hb
  obtain ⟨t, ht⟩ : ∃ t, t = w2.heap.size := ⟨_, rfl⟩
  rw [← ht] at TV t0 ⊢
  clear ht
  have c0 := TV.out.c0
  have x0 := HW.out.1; have y0 := HW.out.2.1
  have wA := smA
  have sa : Sm a := smk (n := 0) (Nat.zero_le _) (Nat.lt_of_lt_of_le HK.out.2.1 (Nat.le_trans HK.out.1.n12 (by decide)))
  have sb : Sm b := smk (n := 0) (Nat.zero_le _) (Nat.lt_of_lt_of_le HK.out.2.2 (Nat.le_trans HK.out.1.n12 (by decide)))
  go_upto_region 4 with fail
  go_quiet (fail)
  obtain ⟨V1, hV1⟩ : ∃ V1, V1 = V.drewN nq := ⟨_, rfl⟩
  rw [← hV1]
  have dV := Lib.hid (show Below V.heap.size V V1 by rw [hV1]; exact below_drewN' (Below.refl _ _) _)
  have B3 := Lib.hid (below_step BV.out dV.out)
  have TV := Lib.hid (TV.out.keep dV.out)
  have t0 := Nat.lt_of_lt_of_le t0 dV.out.size
  clear hV1 dV BV c0 n0 ra ra' rb rb' x0 y0

  have c1 := TV.out.c1
  have s0 := TV.out.i.s a HK.out.2.1
  have s1 := TV.out.i.s b HK.out.2.2
  have a1 : (a : Int) < (g.T.n : Int) := lt_int HK.out.2.1
  have b1 : (b : Int) < (g.T.n : Int) := lt_int HK.out.2.2
  by_cases hab : a = b
  · have hz := eq_tt hab
    have hz' : (a : Int) = (b : Int) := by rw [hab]
    go_wp2
    go_ret
    exact ⟨rfl, B3.out⟩
  have hz := eq_ff hab
  have hz' : ¬ (a : Int) = (b : Int) := fun h => hab (Int.ofNat.inj h)
  cases hsa : g.T.st a
  · rw [hsa] at s0
    go_wp2
    go_ret
    exact ⟨rfl, B3.out⟩
  cases hsb : g.T.st b
  · rw [hsa] at s0
    rw [hsb] at s1
    go_wp2
    go_ret
    exact ⟨rfl, B3.out⟩
  rw [hsa] at s0
  rw [hsb] at s1
  have HS := Lib.hid (And.intro hsa (And.intro hsb hab))
  clear hsa hsb hab
  go_upto_region 7 with fail
  clear s0 s1 a1 b1 hz hz' c1
  go_upto_region 8 with fail
  refine wp_world ?_
  intro V2 hV2
  have S2 := Lib.hid (show StB a b V1.heap.size none 0 0 V1 V2 by subst hV2; exact StB.new a b V1)
  clear hV2
  obtain ⟨s, hs⟩ : ∃ s, s = V1.heap.size := ⟨_, rfl⟩
  rw [← hs] at S2 t0 ⊢
  clear hs
  have T2 := TV.out.keep S2.out.B
  have HL := Lib.hid (Least_any g HK.out.1 a b HK.out.2.1 HK.out.2.2 HS.out.2.2 V2 T2.i)
  have HP := Lib.hid (fun W hW => pair_any g HK.out.1 a b HK.out.2.1 HK.out.2.2 HS.out.2.2 W hW)
  have c0 := T2.c0; have c1 := T2.c1; have c2 := T2.c2
  clear T2
  go_wp2_with fail
  refine HL.out.mono ?_
  rintro e w3 hor
  have h23 : Below V2.heap.size V2 w3 := by rcases hor with ⟨_, _, _, _, h⟩ | ⟨_, _, h⟩ <;> exact h
  have S3 := Lib.hid (S2.out.keep h23)
  have T3 := TV.out.keep S3.out.B
  have T3H := Lib.hid T3
  clear h23 S2 c0 c1 c2 HL
  have c0 := T3.c0; have c1 := T3.c1; have c2 := T3.c2
  clear T3
  rcases hor with ⟨r, rfl, hl, Hr, -⟩ | ⟨rfl, hl, -⟩
  · have hpr := Lib.hid (least_some HK.out.1 hl)
    have Hr := Lib.hid Hr
    clear hl
    rw [show r.v = .slice (some ⟨r.b, r.o, none⟩) r.xs.length r.k from rfl]
    go_wp2_with fail
    refine (HP.out w3 T3H.out.i).mono ?_
    rintro e w4 ⟨hor, hb4⟩
    have S4 := Lib.hid (S3.out.keep hb4)
    have T4 := TV.out.keep S4.out.B
    have Hr4 := Lib.hid (Hr.out.keep hb4)
    clear hb4 S3 T3H c0 c1 c2 HP Hr
    have c0 := T4.c0; have c1 := T4.c1; have c2 := T4.c2
    clear T4
    have z9 := S4.out.z; have c9 := S4.out.c9; have l9 := S4.out.lt
    rcases hor with ⟨u, v, rfl, mu, mv, ap, Hu, Hv⟩ | ⟨rfl, -⟩
    · rw [show u.v = .slice (some ⟨u.b, u.o, none⟩) u.xs.length u.k from rfl, show v.v = .slice (some ⟨v.b, v.o, none⟩) v.xs.length v.k from rfl]
      have HM := Lib.hid (And.intro mu (And.intro mv ap))
      have Hu := Lib.hid Hu
      have Hv := Lib.hid Hv
      clear mu mv ap
      go_upto_region 12 with fail
      refine wp_world ?_
      intro W5 hW5
      have S5 := Lib.hid (show StB a b s (some ⟨w4.heap.size, 0, none⟩) 1 1 V1 W5 by rw [hW5]; exact S4.out.put _ _ _ _)
      have k0 : W5.cell? ⟨w4.heap.size, 0, none⟩ = some r.v := by rw [hW5]; exact StB.row _ _ _ rfl
      have ri : r.In W5 := by rw [hW5]; exact S4.out.rt _ _ Hr4.out
      have Hu5 := Lib.hid (show u.In W5 by rw [hW5]; exact S4.out.rt _ _ Hu.out)
      have Hv5 := Lib.hid (show v.In W5 by rw [hW5]; exact S4.out.rt _ _ Hv.out)
      clear hW5 c0 c1 c2 c9 z9 l9 Hu Hv
      have T5 := TV.out.keep S5.out.B
      have HC := Lib.hid (sCheck_any g a b (fun _ => r) 1 w4.heap.size 1 W5 (SI.one HK.out.2.2 HS.out.1 HS.out.2.1 HS.out.2.2 ⟨HK.out.1, HK.out.2.1, hpr.out.1, hpr.out.2, T5.i, ri⟩ k0))
      have c0 := T5.c0; have c1 := T5.c1; have c2 := T5.c2
      clear T5 ri k0 Hr4 S4 hpr
      go_wp2_with ((with_reducible refine at_load 35 (.tmp 12) ?_); refine wpList_load_whole rfl (.tmp 12) 35 rfl s 0 (sVs a b w4.heap.size 1 1) rfl agg35 size35 S5.out.sc.holds ?_; simp only [Act.put, List.setIfInBounds_toArray, List.set_cons_succ, List.set_cons_zero])
      rw [sVs_lit]
      refine HC.out.mono ?_
      rintro e w6 ⟨rfl, hb6⟩
      have S6 := Lib.hid (S5.out.keep hb6)
      have Hu6 := Lib.hid (Hu5.out.keep hb6)
      have Hv6 := Lib.hid (Hv5.out.keep hb6)
      clear hb6 c0 c1 c2 HC S5 Hu5 Hv5
      have T6 := TV.out.keep S6.out.B
      have c0 := T6.c0; have c1 := T6.c1; have c2 := T6.c2
      clear T6
      have z9 := S6.out.z; have c9 := S6.out.c9; have l9 := S6.out.lt
      go_upto_region 19 with fail
      refine wp_world ?_
      intro W7 hW7
      have S7 := Lib.hid (show StB a b s (some ⟨w6.heap.size, 0, none⟩) 2 2 V1 W7 by rw [hW7]; exact S6.out.put _ _ _ _)
      have k0 : W7.cell? ⟨w6.heap.size, 0, none⟩ = some u.v := by rw [hW7]; exact StB.row _ _ _ rfl
      have k1 : W7.cell? ⟨w6.heap.size, 1, none⟩ = some v.v := by rw [hW7]; exact StB.row _ _ _ rfl
      have ru : u.In W7 := by rw [hW7]; exact S6.out.rt _ _ Hu6.out
      have rv : v.In W7 := by rw [hW7]; exact S6.out.rt _ _ Hv6.out
      clear hW7 c0 c1 c2 c9 z9 l9 Hu6 Hv6
      have T7 := TV.out.keep S7.out.B
      have SI7 := Lib.hid (SI.two HK.out.2.2 HS.out.1 HS.out.2.1 HS.out.2.2 (RR.of_mem HK.out.1 HK.out.2.1 HS.out.2.2 T7.i HM.out.1 ru) (RR.of_mem HK.out.1 HK.out.2.1 HS.out.2.2 T7.i HM.out.2.1 rv) k0 k1 HM.out.2.2)
      have HC := Lib.hid (sCheck_any g a b (R2 u v) 2 w6.heap.size 2 W7 SI7.out)
      have c0 := T7.c0; have c1 := T7.c1; have c2 := T7.c2
      clear T7 ru rv k0 k1 S6
      go_wp2_with ((with_reducible refine at_load 35 (.tmp 12) ?_); refine wpList_load_whole rfl (.tmp 12) 35 rfl s 0 (sVs a b w6.heap.size 2 2) rfl agg35 size35 S7.out.sc.holds ?_; simp only [Act.put, List.setIfInBounds_toArray, List.set_cons_succ, List.set_cons_zero])
      rw [sVs_lit]
      refine HC.out.mono ?_
      rintro e w8 ⟨rfl, hb8⟩
      have S8 := Lib.hid (S7.out.keep hb8)
      have SI8 := Lib.hid (SI7.out.keep hb8)
      clear hb8 c0 c1 c2 HC S7 SI7
      have T8 := TV.out.keep S8.out.B
      have c0 := T8.c0; have c1 := T8.c1; have c2 := T8.c2
      clear T8
      have c9 := S8.out.c9
      have pwu := routesP_pw HM.out.1
      have pwv := routesP_pw HM.out.2.1
      have L1 : 1 ≤ g.T.ls.length := by
        have h := (pwu.pt 0 (pwu.pos HS.out.2.2)).1
        unfold Tp.pn at h
        omega
      have h24 := HK.out.1.l24
      have n12 := HK.out.1.n12
      have n2 := HK.out.1.n2
      have L0 : ¬ (g.T.ls.length : Int) = 0 := by omega
      have n0 : ¬ (g.T.n : Int) = 0 := by omega
      obtain ⟨cut, ec, rc, rc'⟩ := rem_nat z g.T.ls.length
      obtain ⟨gone, eg, rg, rg'⟩ := rem_nat z g.T.n
      have sc : Sm cut := smk (n := 0) (Nat.zero_le _) (by rw [ec]; exact Nat.lt_of_lt_of_le (Nat.mod_lt _ L1) (Nat.le_trans h24 (by decide)))
      have sg : Sm gone := smk (n := 0) (Nat.zero_le _) (by rw [eg]; exact Nat.lt_of_lt_of_le (Nat.mod_lt _ (by omega)) (Nat.le_trans n12 (by decide)))
      have z0 := HW.out.2.2
      have hlen : ∀ j, (R2 u v j).xs.length ≤ 8 := fun j => by unfold R2; split <;> first | exact pwu.le | exact pwv.le
      have HH := Lib.hid (And.intro (show hitS (R2 u v) cut 2 ≤ 1 from by
          show 0 + _ + _ ≤ 1
          rw [Nat.zero_add]
          exact hit_one HM.out.2.2 pwu pwv) (show metS g.T a b (R2 u v) gone 2 ≤ 1 from by
          show 0 + _ + _ ≤ 1
          rw [Nat.zero_add]
          exact met_one HM.out.2.2 pwu pwv))
      have HB := Lib.hid (And.intro hlen (fun j (hj : j < 2) => And.intro (Nat.le_trans (hitS_le hlen cut j) (show 8 * j ≤ 8 by omega)) (Nat.le_trans (metS_le (T := g.T) (a := a) (b := b) hlen gone j) (show 9 * j ≤ 9 by omega))))
      clear ec eg h24 n12 n2 L1 pwu pwv HM hlen
      go_upto_region 25 with fail
      clear c9 z0 rc rc' rg rg' L0 n0 c0 c1 c2 sc sg
      go_loopw [20, 21, 123] (fun p20 p21 p wr => ∃ j hh mm : Nat, p = .int .i64 (j : Int) ∧ p20 = .int .i64 (hh : Int) ∧ p21 = .int .i64 (mm : Int) ∧ j ≤ 2 ∧ Hid (hh = hitS (R2 u v) cut j ∧ mm = metS g.T a b (R2 u v) gone j) ∧ Hid (Below w8.heap.size w8 wr)) (fun _ _ p _ => 2 - (RowKit.intOf p).toNat)
      case atStart => exact ⟨0, 0, 0, rfl, rfl, rfl, Nat.zero_le _, Lib.hid ⟨rfl, rfl⟩, Lib.hid (Below.refl _ _)⟩
      case round =>
        obtain ⟨j, hh, mm, rfl, rfl, rfl, hj, HN, H9⟩ := hrel
        by_cases hlt : j < 2
        · have cj : (j : Int) < 2 := by omega
          have S9 := Lib.hid (S8.out.keep H9.out)
          have hrj := SI8.out.rr j hlt
          have hbj := HB.out.2 j hlt
          have h8 := HB.out.1 j
          rw [← HN.out.1, ← HN.out.2] at hbj
          have hsucc := Lib.hid (show hitS (R2 u v) cut (j + 1) = hh + cntN (fun i => decide ((R2 u v j).f i / 2 = cut)) (R2 u v j).xs.length ∧ metS g.T a b (R2 u v) gone (j + 1) = mm + cntN (fun i => decide (nx g.T a (R2 u v j).xs i = gone ∧ nx g.T a (R2 u v j).xs i ≠ a ∧ nx g.T a (R2 u v j).xs i ≠ b)) ((R2 u v j).xs.length + 1) by
            rw [HN.out.1, HN.out.2]
            exact ⟨rfl, rfl⟩)
          obtain ⟨rr, hrr⟩ : ∃ rr, rr = R2 u v j := ⟨_, rfl⟩
          rw [← hrr] at hrj h8 hsucc
          clear hrr
          have HRR := Lib.hid (hrj.1.keep H9.out)
          have k0 := below_keep H9.out hrj.2
          have HNd := Lib.hid (rNodes_any g a b rr wr HRR.out)
          have HL := Lib.hid (And.intro hlt (And.intro hbj h8))
          have wj := Lib.hid (smC j (smk (n := 0) (Nat.zero_le _) (Nat.lt_trans hlt (by decide))))
          have T9 := TV.out.keep S9.out.B
          have c0 := T9.c0; have c1 := T9.c1; have c2 := T9.c2
          clear T9 hrj hbj h8 hj hlt
          change wr.cell? ⟨w6.heap.size, j, none⟩ = some (.slice (some ⟨rr.b, rr.o, none⟩) rr.xs.length rr.k) at k0
          go_wp2_with fail
          refine HNd.out.mono ?_
          rintro e w9 ⟨nq, ncap, rfl, -, hcell, hb9⟩
          have Hc := Lib.hid hcell
          have HRi := Lib.hid (HRR.out.ri.keep hb9)
          have B9 := Lib.hid (below_step H9.out hb9)
          clear hcell hb9 c0 c1 c2 k0 HNd S9
          obtain ⟨N1, hN1⟩ : ∃ N1, N1 = rr.xs.length + 1 := ⟨_, rfl⟩
          rw [← hN1]
          have HN1 := Lib.hid hN1
          clear hN1
          go_wp2
          go_loopw [20, 137] (fun p20 p wx => ∃ i h2 : Nat, p = .int .i64 (i : Int) ∧ p20 = .int .i64 (h2 : Int) ∧ i ≤ rr.xs.length ∧ Hid (h2 = hh + cntN (fun i => decide (rr.f i / 2 = cut)) i) ∧ wx = w9) (fun _ p _ => rr.xs.length - (RowKit.intOf p).toNat)
          case atStart => exact ⟨0, hh, rfl, rfl, Nat.zero_le _, Lib.hid rfl, rfl⟩
          case round =>
            obtain ⟨i, h2, rfl, rfl, hi, H2, hwx⟩ := hrel
            subst hwx
            by_cases hil : i < rr.xs.length
            · have c2 : (i : Int) < (rr.xs.length : Int) := lt_int hil
              have k0 := HRi.out i hil
              have hp := HRR.out.pw.costOk.pt i hil
              change rr.f i < g.T.pn at hp
              have HI := Lib.hid hil
              have hb2 : h2 < 90 := by
                have h1 := H2.out
                have h3 := cntN_le (fun i => decide (rr.f i / 2 = cut)) i
                have h4 := HL.out.2.1.1
                have h5 := HL.out.2.2
                omega
              have w1 := Lib.hid (smC i (smk (n := 0) (Nat.zero_le _) (Nat.lt_of_lt_of_le hil (Nat.le_trans HL.out.2.2 (by decide)))))
              have w2 := Lib.hid (smC h2 (smk (n := 0) (Nat.zero_le _) (Nat.lt_of_lt_of_le hb2 (by decide))))
              have hy := Lib.hid (fun (h : rr.f i / 2 = cut) => show h2 + 1 = hh + cntN (fun i => decide (rr.f i / 2 = cut)) (i + 1) from by rw [cnt_yes (decide_eq_true h), ← Nat.add_assoc, ← H2.out])
              have hn := Lib.hid (fun (h : ¬ rr.f i / 2 = cut) => show h2 = hh + cntN (fun i => decide (rr.f i / 2 = cut)) (i + 1) from by rw [cnt_no (decide_eq_false h), ← H2.out])
              obtain ⟨P, hP⟩ : ∃ P, P = rr.f i := ⟨_, rfl⟩
              rw [← hP] at k0 hp hy hn
              obtain ⟨ph, e1, e2, sp, bP, hP48, hph⟩ := half48 hp HRR.out.ok.l24
              rw [hph] at hy hn
              clear hil hi hp hP hP48 hph hb2
              by_cases hc : ph = cut
              · have q1 := eq_tt hc
                have q2 : (ph : Int) = (cut : Int) := by rw [hc]
                have hy := Lib.hid (hy.out hc)
                clear hn hc
                go_wp2
                go_roundw
                case rel => exact ⟨i + 1, h2 + 1, by first | rw [w1.out] | rfl, by first | rw [w2.out] | rfl, HI.out, Lib.hid hy.out, by first | rfl | trivial⟩
                case measure => (first | (rw [w1.out]; exact measU HI.out) | exact measU HI.out)
              · have q1 := eq_ff hc
                have q2 : ¬ (ph : Int) = (cut : Int) := fun h => hc (Int.ofNat.inj h)
                have hn := Lib.hid (hn.out hc)
                clear hy hc
                go_wp2
                go_roundw
                case rel => exact ⟨i + 1, h2, by first | rw [w1.out] | rfl, rfl, HI.out, Lib.hid hn.out, by first | rfl | trivial⟩
                case measure => (first | (rw [w1.out]; exact measU HI.out) | exact measU HI.out)
            · have c2 : ¬ (i : Int) < (rr.xs.length : Int) := fun h => hil (Int.ofNat_lt.1 h)
              have HE2 := Lib.hid (show h2 = hitS (R2 u v) cut (j + 1) by
                have hz : i = rr.xs.length := by omega
                rw [hsucc.out.1, ← hz]
                exact H2.out)
              clear hil hi H2
              go_wp2
              go_loopw [21, 150] (fun p21 p wy => ∃ k m2 : Nat, p = .int .i64 (k : Int) ∧ p21 = .int .i64 (m2 : Int) ∧ k ≤ N1 ∧ Hid (m2 = mm + cntN (fun i => decide (nx g.T a rr.xs i = gone ∧ nx g.T a rr.xs i ≠ a ∧ nx g.T a rr.xs i ≠ b)) k) ∧ wy = wr) (fun _ p _ => N1 - (RowKit.intOf p).toNat)
              case atStart => exact ⟨0, mm, rfl, rfl, Nat.zero_le _, Lib.hid rfl, rfl⟩
              case round =>
                obtain ⟨k, m2, rfl, rfl, hi, H3, hwy⟩ := hrel
                subst hwy
                by_cases hil : k < N1
                · have c2 : (k : Int) < (N1 : Int) := lt_int hil
                  have k0 := Hc.out k (by have := HN1.out; omega)
                  have HI := Lib.hid hil
                  have hb2 : m2 < 90 ∧ k < 90 := by
                    have h1 := H3.out
                    have h3 := cntN_le (fun i => decide (nx g.T a rr.xs i = gone ∧ nx g.T a rr.xs i ≠ a ∧ nx g.T a rr.xs i ≠ b)) k
                    have h4 := HL.out.2.1.2
                    have h5 := HL.out.2.2
                    have h6 := HN1.out
                    omega
                  have w1 := Lib.hid (smC k (smk (n := 0) (Nat.zero_le _) (Nat.lt_trans hb2.2 (by decide))))
                  have w2 := Lib.hid (smC m2 (smk (n := 0) (Nat.zero_le _) (Nat.lt_trans hb2.1 (by decide))))
                  have hy := Lib.hid (fun (h : nx g.T a rr.xs k = gone ∧ nx g.T a rr.xs k ≠ a ∧ nx g.T a rr.xs k ≠ b) => show m2 + 1 = mm + cntN (fun i => decide (nx g.T a rr.xs i = gone ∧ nx g.T a rr.xs i ≠ a ∧ nx g.T a rr.xs i ≠ b)) (k + 1) from by rw [cnt_yes (decide_eq_true h), ← Nat.add_assoc, ← H3.out])
                  have hn := Lib.hid (fun (h : ¬ (nx g.T a rr.xs k = gone ∧ nx g.T a rr.xs k ≠ a ∧ nx g.T a rr.xs k ≠ b)) => show m2 = mm + cntN (fun i => decide (nx g.T a rr.xs i = gone ∧ nx g.T a rr.xs i ≠ a ∧ nx g.T a rr.xs i ≠ b)) (k + 1) from by rw [cnt_no (decide_eq_false h), ← H3.out])
                  obtain ⟨X, hX⟩ : ∃ X, X = nx g.T a rr.xs k := ⟨_, rfl⟩
                  rw [← hX] at k0 hy hn
                  clear hil hi hX hb2
                  by_cases d1 : X = gone
                  · by_cases d2 : X = a
                    · have q1 := eq_tt d1
                      have q2 := ne_ff d2
                      have q3 := eq_tt d2
                      have hn := Lib.hid (hn.out (fun h => h.2.1 d2))
                      clear hy d1 d2
                      go_wp2
                      go_roundw
                      case rel => exact ⟨k + 1, m2, by first | rw [w1.out] | rfl, rfl, HI.out, Lib.hid hn.out, by first | rfl | trivial⟩
                      case measure => (first | (rw [w1.out]; exact measU HI.out) | exact measU HI.out)
                    · by_cases d3 : X = b
                      · have q1 := eq_tt d1
                        have q2 := ne_tt d2
                        have q3 := eq_ff d2
                        have q4 := ne_ff d3
                        have q5 := eq_tt d3
                        have hn := Lib.hid (hn.out (fun h => h.2.2 d3))
                        clear hy d1 d2 d3
                        go_wp2
                        go_roundw
                        case rel => exact ⟨k + 1, m2, by first | rw [w1.out] | rfl, rfl, HI.out, Lib.hid hn.out, by first | rfl | trivial⟩
                        case measure => (first | (rw [w1.out]; exact measU HI.out) | exact measU HI.out)
                      · have q1 := eq_tt d1
                        have q2 := ne_tt d2
                        have q3 := eq_ff d2
                        have q4 := ne_tt d3
                        have q5 := eq_ff d3
                        have hy := Lib.hid (hy.out ⟨d1, d2, d3⟩)
                        clear hn d1 d2 d3
                        go_wp2
                        go_roundw
                        case rel => exact ⟨k + 1, m2 + 1, by first | rw [w1.out] | rfl, by first | rw [w2.out] | rfl, HI.out, Lib.hid hy.out, by first | rfl | trivial⟩
                        case measure => (first | (rw [w1.out]; exact measU HI.out) | exact measU HI.out)
                  · have q1 := eq_ff d1
                    have hn := Lib.hid (hn.out (fun h => d1 h.1))
                    clear hy d1
                    go_wp2
                    go_roundw
                    case rel => exact ⟨k + 1, m2, by first | rw [w1.out] | rfl, rfl, HI.out, Lib.hid hn.out, by first | rfl | trivial⟩
                    case measure => (first | (rw [w1.out]; exact measU HI.out) | exact measU HI.out)
                · have c2 : ¬ (k : Int) < (N1 : Int) := fun h => hil (Int.ofNat_lt.1 h)
                  have HE3 := Lib.hid (show m2 = metS g.T a b (R2 u v) gone (j + 1) by
                    have hz : k = N1 := by omega
                    rw [hsucc.out.2, ← HN1.out, ← hz]
                    exact H3.out)
                  clear hil hi H3
                  go_wp2
                  go_roundw
                  case rel => exact ⟨j + 1, h2, m2, by first | rw [wj.out] | rfl, rfl, rfl, HL.out.1, Lib.hid ⟨HE2.out, HE3.out⟩, Lib.hid B9.out⟩
                  case measure => (first | (rw [wj.out]; exact measU HL.out.1) | exact measU HL.out.1)
        · have cj : ¬ (j : Int) < 2 := by omega
          have hz : j = 2 := by omega
          have h1 : (hh : Int) ≤ 1 := by
            have h := HH.out.1
            rw [← hz, ← HN.out.1] at h
            omega
          have h2 : (mm : Int) ≤ 1 := by
            have h := HH.out.2
            rw [← hz, ← HN.out.2] at h
            omega
          have B9 := Lib.hid (below_step (below_step B3.out S8.out.B) H9.out)
          clear hj hlt hz
          go_wp2
          go_ret
          exact ⟨rfl, B9.out⟩
    · go_upto_region 12 with fail
      refine wp_world ?_
      intro W5 hW5
      have S5 := Lib.hid (show StB a b s (some ⟨w4.heap.size, 0, none⟩) 1 1 V1 W5 by rw [hW5]; exact S4.out.put _ _ _ _)
      have k0 : W5.cell? ⟨w4.heap.size, 0, none⟩ = some r.v := by rw [hW5]; exact StB.row _ _ _ rfl
      have ri : r.In W5 := by rw [hW5]; exact S4.out.rt _ _ Hr4.out
      clear hW5 c0 c1 c2 c9 z9 l9
      have T5 := TV.out.keep S5.out.B
      have HC := Lib.hid (sCheck_any g a b (fun _ => r) 1 w4.heap.size 1 W5 (SI.one HK.out.2.2 HS.out.1 HS.out.2.1 HS.out.2.2 ⟨HK.out.1, HK.out.2.1, hpr.out.1, hpr.out.2, T5.i, ri⟩ k0))
      have c0 := T5.c0; have c1 := T5.c1; have c2 := T5.c2
      clear T5 ri k0 Hr4 S4
      go_wp2_with ((with_reducible refine at_load 35 (.tmp 12) ?_); refine wpList_load_whole rfl (.tmp 12) 35 rfl s 0 (sVs a b w4.heap.size 1 1) rfl agg35 size35 S5.out.sc.holds ?_; simp only [Act.put, List.setIfInBounds_toArray, List.set_cons_succ, List.set_cons_zero])
      rw [sVs_lit]
      refine HC.out.mono ?_
      rintro e w6 ⟨rfl, hb6⟩
      have B6 := Lib.hid (below_step (below_step B3.out S5.out.B) hb6)
      clear hb6 c0 c1 c2 HC S5
      go_wp2
      go_ret
      exact ⟨rfl, B6.out⟩
  · have hn := Lib.hid (fun xs (hx : xs ∈ routesP g.T a b) => least_none HK.out.1 hl (routesP_pw hx) ((routesP_pw hx).pos HS.out.2.2))
    clear hl
    go_wp2_with fail
    refine (HP.out w3 T3H.out.i).mono ?_
    rintro e w4 ⟨hor, hb4⟩
    have B4 := Lib.hid (below_step (below_step B3.out S3.out.B) hb4)
    clear hb4 S3 T3H c0 c1 c2 HP
    rcases hor with ⟨u, v, rfl, mu, -⟩ | ⟨rfl, -⟩
    · exact (hn.out _ mu).elim
    · go_wp2
      go_ret
      exact ⟨rfl, B4.out⟩

end Go.Proofs.Ytjhpbemnklpefaa
