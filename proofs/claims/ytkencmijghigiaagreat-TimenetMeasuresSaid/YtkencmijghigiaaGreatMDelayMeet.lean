/-
  The walks of delay.Meet and of its reference.
-/
import Derived.Deep.RegionHeld3
import Derived.Deep.DeepCutAuto
import Derived.Test.YtkencmijghigiaaGreatMDelayBnd
namespace Go.Proofs.YtkencmijghigiaaGreat
open Go.RowKit Go.Lib Plain

/-- The durations of Meet. -/
def mtz (t d u : Int) (k : Nat) : Int := [t, d, d, u].getD k 0
theorem mtz_iff (t d u : Int) : SpOk (mtz t d u) 4 ↔ Spn t d u := by
  have e : sumTo (mtz t d u) 4 = 0 + t + d + d + u := rfl
  unfold SpOk Spn
  rw [e]
  constructor
  · rintro ⟨h, k⟩
    exact ⟨h 0 (by decide), h 1 (by decide), h 3 (by decide), by omega⟩
  · rintro ⟨h0, h1, h2, k⟩
    refine ⟨fun j hj => ?_, by omega⟩
    match j, hj with
    | 0, _ => exact h0
    | 1, _ => exact h1
    | 2, _ => exact h1
    | 3, _ => exact h2

/-- Meet's closures. -/
theorem meet1_any (O P : Int) (bl : Nat) (w : World) (h0 : w.cell? ⟨bl, 0, none⟩ = some (.int .i64 O)) (h1 : w.cell? ⟨bl, 1, none⟩ = some (.int .i64 P)) :
    Calls Tryz.prog 74 #[.pointer (some ⟨bl, 0, none⟩)] w fun e w' => e = .returned (.int .i64 (clkV O P)) ∧ Below w.heap.size w w' := by
  go_enter Tryz.func74, Tryz.ntmps74
  go_wp2_with fail
  refine (clkCheck_any O P _).mono ?_
  rintro e w1 ⟨rfl, hb1⟩
  go_wp2
  go_ret
  exact ⟨rfl, hb1⟩
theorem meet2_any (O P : Int) (bl : Nat) (w : World) (h0 : w.cell? ⟨bl, 0, none⟩ = some (.int .i64 O)) (h1 : w.cell? ⟨bl, 1, none⟩ = some (.int .i64 P)) :
    Calls Tryz.prog 75 #[.pointer (some ⟨bl, 0, none⟩)] w fun e w' => e = .returned (.int .i64 (clkV O P)) ∧ Below w.heap.size w w' := by
  go_enter Tryz.func75, Tryz.ntmps75
  go_wp2_with fail
  refine (clkCheck_any O P _).mono ?_
  rintro e w1 ⟨rfl, hb1⟩
  go_wp2
  go_ret
  exact ⟨rfl, hb1⟩

/-- What Meet answers. -/
def mtE (O P O' P' t d u : Int) : Int := if OkC O P then if OkC O' P' then if Spn t d u then 0 else 2 else 190 else 190
def MtOk (O P O' P' t d u : Int) : Prop := OkC O P ∧ OkC O' P' ∧ Spn t d u
instance (O P O' P' t d u : Int) : Decidable (MtOk O P O' P' t d u) := inferInstanceAs (Decidable (_ ∧ _))
def mt1 (O P O' P' t d u : Int) : Int := if MtOk O P O' P' t d u then locV O P t else 0
def mt2 (O P O' P' t d u : Int) : Int := if MtOk O P O' P' t d u then locV O' P' (t + d) else 0
def mt3 (O P O' P' t d u : Int) : Int := if MtOk O P O' P' t d u then locV O' P' (t + d + u) else 0
def mt4 (O P O' P' t d u : Int) : Int := if MtOk O P O' P' t d u then locV O P (t + 2 * d + u) else 0

/-- What the loop of Meet keeps: the method values, the times, the stamps that are read; the result's cells. -/
structure MeetSt (fs : Nat → Value) (ts vs : Nat → Int) (B R n : Nat) (w : World) (k : Nat) (W : World) : Prop where
  f : ∀ j, j < 4 → W.cell? ⟨B, j, none⟩ = some (fs j)
  t : ∀ j, j < 4 → W.cell? ⟨B + 1, j, none⟩ = some (.int .i64 (ts j))
  s : ∀ j, j < 4 → W.cell? ⟨B + 2, j, none⟩ = some (.int .i64 (if j < k then vs j else 0))
  sz : ∀ o, W.frozen? ⟨B + 2, o, none⟩ = false
  m : ∀ j, j < 4 → W.cell? ⟨R, j, none⟩ = some (.int .i64 0)
  mz : ∀ o, W.frozen? ⟨R, o, none⟩ = false
  below : Below n w W

theorem MeetSt.keep {fs : Nat → Value} {ts vs : Nat → Int} {B R n k : Nat} {w W W' : World} (h : MeetSt fs ts vs B R n w k W) (hb : Below W.heap.size W W') (hn : n ≤ W.heap.size) : MeetSt fs ts vs B R n w k W' :=
  ⟨fun j hj => below_keep hb (h.f j hj), fun j hj => below_keep hb (h.t j hj), fun j hj => below_keep hb (h.s j hj),
    fun o => (hb.frozen (p := ⟨B + 2, o, none⟩) (show B + 2 < _ from World.block_lt_of_cell? W ⟨B + 2, 0, none⟩ (h.s 0 (by decide)))).trans (h.sz o),
    fun j hj => below_keep hb (h.m j hj), fun o => (hb.frozen (p := ⟨R, o, none⟩) (show R < _ from World.block_lt_of_cell? W ⟨R, 0, none⟩ (h.m 0 (by decide)))).trans (h.mz o), h.below.trans (hb.mono hn)⟩

theorem MeetSt.put {fs : Nat → Value} {ts vs : Nat → Int} {B R n k : Nat} {w W : World} (h : MeetSt fs ts vs B R n w k W) (hk : k < 4) (hR : R < B) (hn : n ≤ B) : MeetSt fs ts vs B R n w (k + 1) (W.setCell ⟨B + 2, k, none⟩ (.int .i64 (vs k))) := by
  refine ⟨fun j hj => ?_, fun j hj => ?_, fun j hj => ?_, fun o => ?_, fun j hj => ?_, fun o => ?_, h.below.setCell (by show n ≤ B + 2; omega) _⟩
  · rw [World.cell?_setCell_far _ _ _ _ (by show B + 2 ≠ B; omega)]; exact h.f j hj
  · rw [World.cell?_setCell_far _ _ _ _ (by show B + 2 ≠ B + 1; omega)]; exact h.t j hj
  · by_cases e : j = k
    · subst e
      rw [World.cell?_setCell_same (h := h.s j hj), if_pos (by omega)]
    · rw [World.cell?_setCell_other (h := by intro x; injection x with _ x _; exact e x.symm), h.s j hj]
      congr 2
      by_cases l : j < k
      · rw [if_pos l, if_pos (by omega)]
      · rw [if_neg l, if_neg (by omega)]
  · rw [World.frozen?_setCell]; exact h.sz o
  · rw [World.cell?_setCell_far _ _ _ _ (by show B + 2 ≠ R; omega)]; exact h.m j hj
  · rw [World.frozen?_setCell]; exact h.mz o

/-- The clock that is read for stamp j, and when. -/
def mtO (O O' : Int) (j : Nat) : Int := [O, O', O', O].getD j 0
def mtT (t d u : Int) (j : Nat) : Int := [t, t + d, t + d + u, t + 2 * d + u].getD j 0
def mtF (O P O' P' : Int) (j : Nat) : Value := .func (.func 77) #[.agg #[.int .i64 (mtO O O' j), .int .i64 (mtO P P' j)]] #[]
def mtV (O P O' P' t d u : Int) (j : Nat) : Int := locV (mtO O O' j) (mtO P P' j) (mtT t d u j)
theorem mt_ok {O P O' P' t d u : Int} (h : OkC O P) (h' : OkC O' P') (hs : Spn t d u) (j : Nat) (hj : j < 4) : OkC (mtO O O' j) (mtO P P' j) ∧ Tick (mtT t d u j) := by
  obtain ⟨⟨t0, t1⟩, ⟨d0, d1⟩, ⟨u0, u1⟩, ht⟩ := hs
  match j, hj with
  | 0, _ => exact ⟨h, t0, t1⟩
  | 1, _ => exact ⟨h', show 0 ≤ t + d by omega, show t + d ≤ _ by omega⟩
  | 2, _ => exact ⟨h', show 0 ≤ t + d + u by omega, show t + d + u ≤ _ by omega⟩
  | 3, _ => exact ⟨h, show 0 ≤ t + 2 * d + u by omega, ht⟩

set_option maxHeartbeats 4000000 in
set_option maxRecDepth 100000 in
theorem meet_err (O P O' P' t d u k e1 e2 e3 : Int) (h1 : clkV O P = e1) (h2 : clkV O' P' = e2) (h3 : (if SpOk (mtz t d u) 4 then (0 : Int) else 2) = e3) (hk : firstE e1 e2 e3 = k) (kz : k ≠ 0) (w : World) :
    Calls Tryz.prog 44 #[.agg #[.int .i64 O, .int .i64 P], .agg #[.int .i64 O', .int .i64 P'], .int .i64 t, .int .i64 d, .int .i64 u] w
      fun e w' => e = .returned (.tuple #[.agg #[.int .i64 0, .int .i64 0, .int .i64 0, .int .i64 0], .int .i64 k]) ∧ Below w.heap.size w w' := by
  have E1 := Lib.hid h1
  have E2 := Lib.hid h2
  have E3 := Lib.hid h3
  have EK := Lib.hid hk
  have q : (k == 0) = false := beq_eq_false_iff_ne.2 kz
  clear h1 h2 h3 hk kz
  go_enter Tryz.func44, Tryz.ntmps44
  go_wp2_with fail
  refine (spans_any _ 4 _).mono ?_
  rintro e w1 ⟨rfl, hb1, q3⟩
  have x0 : w1.cell? ⟨w.heap.size, 0, none⟩ = some (.int .i64 O) := below_keep hb1 (by simp [go_sem])
  have x1 : w1.cell? ⟨w.heap.size, 1, none⟩ = some (.int .i64 P) := below_keep hb1 (by simp [go_sem])
  have y0 : w1.cell? ⟨w.heap.size + 1, 0, none⟩ = some (.int .i64 O') := below_keep hb1 (by simp [go_sem])
  have y1 : w1.cell? ⟨w.heap.size + 1, 1, none⟩ = some (.int .i64 P') := below_keep hb1 (by simp [go_sem])
  have g0 : w1.cell? ⟨w.heap.size + 2, 0, none⟩ = some (.int .i64 0) := below_keep hb1 (by simp [go_sem])
  have g1 : w1.cell? ⟨w.heap.size + 2, 1, none⟩ = some (.int .i64 0) := below_keep hb1 (by simp [go_sem])
  have g2 : w1.cell? ⟨w.heap.size + 2, 2, none⟩ = some (.int .i64 0) := below_keep hb1 (by simp [go_sem])
  have g3 : w1.cell? ⟨w.heap.size + 2, 3, none⟩ = some (.int .i64 0) := below_keep hb1 (by simp [go_sem])
  have g6 : ∀ o, w1.frozen? ⟨w.heap.size + 2, o, none⟩ = false := fun o => by rw [(bcell hb1).2 _ _ (by simp)]; simp [go_sem]
  have z0 : w1.cell? ⟨w.heap.size + 3, 0, none⟩ = some (.int .i64 t) := below_keep hb1 (by simp [go_sem])
  have z1 : w1.cell? ⟨w.heap.size + 3, 1, none⟩ = some (.int .i64 d) := below_keep hb1 (by simp [go_sem])
  have z2 : w1.cell? ⟨w.heap.size + 3, 2, none⟩ = some (.int .i64 d) := below_keep hb1 (by simp [go_sem])
  have z3 : w1.cell? ⟨w.heap.size + 3, 3, none⟩ = some (.int .i64 u) := below_keep hb1 (by simp [go_sem])
  have HA := Lib.hid (fun W (hB : Below w1.heap.size w1 W) => meet1_any O P _ W (below_keep hB x0) (below_keep hB x1))
  have HB := Lib.hid (fun W (hB : Below w1.heap.size w1 W) => meet2_any O' P' _ W (below_keep hB y0) (below_keep hB y1))
  have HS := Lib.hid (fun W (hB : Below w1.heap.size w1 W) => spans1_any (mtz t d u) 4 _ _ (by omega) W (below_keep hB q3) (fun k hk => by
    match k, hk with
    | 0, _ => exact below_keep hB z0
    | 1, _ => exact below_keep hB z1
    | 2, _ => exact below_keep hB z2
    | 3, _ => exact below_keep hB z3))
  have hz : w.heap.size + 3 < w1.heap.size := World.block_lt_of_cell? _ _ z0
  have hz2 : w.heap.size + 2 < w1.heap.size := by omega
  have hz1 : w.heap.size + 1 < w1.heap.size := by omega
  have hz0 : w.heap.size < w1.heap.size := by omega
  have H1 := Lib.hid (below_step (below_alloc (below_alloc (below_alloc (below_alloc (Below.refl _ _) _) _) _) _) hb1)
  clear hb1 q3 z0 z1 z2 z3 hz
  rw [E1.out] at HA
  rw [E2.out] at HB
  rw [E3.out] at HS
  go_wp2_with fail
  refine (first_meet _ _ _ _ _ _ _ _ (by simp [go_sem]) (by simp [go_sem]) (by simp [go_sem])
    (Lib.hid fun W hB => HA.out W (below_step (below_alloc (Below.refl _ _) _) hB)) (Lib.hid fun W hB => HB.out W (below_step (below_alloc (Below.refl _ _) _) hB)) (Lib.hid fun W hB => HS.out W (below_step (below_alloc (Below.refl _ _) _) hB))).mono ?_
  rw [EK.out]
  rintro e w2 ⟨rfl, hb2⟩
  have x0' : w2.cell? ⟨w.heap.size, 0, none⟩ = some (.int .i64 O) := below_keep hb2 (by rw [World.cell?_alloc_lt _ _ _ hz0]; exact x0)
  have x1' : w2.cell? ⟨w.heap.size, 1, none⟩ = some (.int .i64 P) := below_keep hb2 (by rw [World.cell?_alloc_lt _ _ _ hz0]; exact x1)
  have y0' : w2.cell? ⟨w.heap.size + 1, 0, none⟩ = some (.int .i64 O') := below_keep hb2 (by rw [World.cell?_alloc_lt _ _ _ hz1]; exact y0)
  have y1' : w2.cell? ⟨w.heap.size + 1, 1, none⟩ = some (.int .i64 P') := below_keep hb2 (by rw [World.cell?_alloc_lt _ _ _ hz1]; exact y1)
  have k0 : w2.cell? ⟨w.heap.size + 2, 0, none⟩ = some (.int .i64 0) := below_keep hb2 (by rw [World.cell?_alloc_lt _ _ _ hz2]; exact g0)
  have k1 : w2.cell? ⟨w.heap.size + 2, 1, none⟩ = some (.int .i64 0) := below_keep hb2 (by rw [World.cell?_alloc_lt _ _ _ hz2]; exact g1)
  have k2 : w2.cell? ⟨w.heap.size + 2, 2, none⟩ = some (.int .i64 0) := below_keep hb2 (by rw [World.cell?_alloc_lt _ _ _ hz2]; exact g2)
  have k3 : w2.cell? ⟨w.heap.size + 2, 3, none⟩ = some (.int .i64 0) := below_keep hb2 (by rw [World.cell?_alloc_lt _ _ _ hz2]; exact g3)
  have k6 : ∀ o, w2.frozen? ⟨w.heap.size + 2, o, none⟩ = false := fun o => by rw [(bcell hb2).2 _ _ (by simp; omega), World.frozen?_alloc_old _ _ _ (by simp; omega)]; exact g6 o
  have v2 : w.heap.size + 2 < w2.heap.size := World.block_lt_of_cell? _ _ k0
  have H2 := Lib.hid (below_step (below_alloc H1.out _) hb2)
  clear hb2 x0 x1 y0 y1 g0 g1 g2 g3 g6 hz0 hz1 hz2 HA HB HS H1
  clear x0' x1' y0' y1' E1 E2 E3 EK
  go_wp2
  refine bodyPost_ret (v := .tuple #[.agg #[.int .i64 0, .int .i64 0, .int .i64 0, .int .i64 0], .int .i64 k]) (by simp [results, Tryz.results44, go_sem, *]) rfl ⟨rfl, ?_⟩
  have hb4 := H2.out
  exact (((hb4.setCell (by simp; omega) _).setCell (by simp; omega) _).setCell (by simp; omega) _).setCell (by simp; omega) _

set_option maxHeartbeats 4000000 in
set_option maxRecDepth 100000 in
theorem meet_ok (O P O' P' t d u : Int) (h : OkC O P) (h' : OkC O' P') (hs : Spn t d u) (w : World) :
    Calls Tryz.prog 44 #[.agg #[.int .i64 O, .int .i64 P], .agg #[.int .i64 O', .int .i64 P'], .int .i64 t, .int .i64 d, .int .i64 u] w
      fun e w' => e = .returned (.tuple #[.agg #[.int .i64 (locV O P t), .int .i64 (locV O' P' (t + d)), .int .i64 (locV O' P' (t + d + u)), .int .i64 (locV O P (t + 2 * d + u))], .int .i64 0]) ∧ Below w.heap.size w w' := by
  have E1 : Hid (clkV O P = 0) := if_pos h
  have E2 : Hid (clkV O' P' = 0) := if_pos h'
  have E3 : Hid ((if SpOk (mtz t d u) 4 then (0 : Int) else 2) = 0) := if_pos ((mtz_iff t d u).2 hs)
  have EK : Hid (firstE 0 0 0 = 0) := rfl
  have HOK := Lib.hid (fun j hj => mt_ok h h' hs j hj)
  obtain ⟨⟨t0, t1⟩, ⟨d0, d1⟩, ⟨u0, u1⟩, ht⟩ := hs
  clear h h'
  go_enter Tryz.func44, Tryz.ntmps44
  go_wp2_with fail
  refine (spans_any _ 4 _).mono ?_
  rintro e w1 ⟨rfl, hb1, q3⟩
  have x0 : w1.cell? ⟨w.heap.size, 0, none⟩ = some (.int .i64 O) := below_keep hb1 (by simp [go_sem])
  have x1 : w1.cell? ⟨w.heap.size, 1, none⟩ = some (.int .i64 P) := below_keep hb1 (by simp [go_sem])
  have y0 : w1.cell? ⟨w.heap.size + 1, 0, none⟩ = some (.int .i64 O') := below_keep hb1 (by simp [go_sem])
  have y1 : w1.cell? ⟨w.heap.size + 1, 1, none⟩ = some (.int .i64 P') := below_keep hb1 (by simp [go_sem])
  have g0 : w1.cell? ⟨w.heap.size + 2, 0, none⟩ = some (.int .i64 0) := below_keep hb1 (by simp [go_sem])
  have g1 : w1.cell? ⟨w.heap.size + 2, 1, none⟩ = some (.int .i64 0) := below_keep hb1 (by simp [go_sem])
  have g2 : w1.cell? ⟨w.heap.size + 2, 2, none⟩ = some (.int .i64 0) := below_keep hb1 (by simp [go_sem])
  have g3 : w1.cell? ⟨w.heap.size + 2, 3, none⟩ = some (.int .i64 0) := below_keep hb1 (by simp [go_sem])
  have g6 : ∀ o, w1.frozen? ⟨w.heap.size + 2, o, none⟩ = false := fun o => by rw [(bcell hb1).2 _ _ (by simp)]; simp [go_sem]
  have z0 : w1.cell? ⟨w.heap.size + 3, 0, none⟩ = some (.int .i64 t) := below_keep hb1 (by simp [go_sem])
  have z1 : w1.cell? ⟨w.heap.size + 3, 1, none⟩ = some (.int .i64 d) := below_keep hb1 (by simp [go_sem])
  have z2 : w1.cell? ⟨w.heap.size + 3, 2, none⟩ = some (.int .i64 d) := below_keep hb1 (by simp [go_sem])
  have z3 : w1.cell? ⟨w.heap.size + 3, 3, none⟩ = some (.int .i64 u) := below_keep hb1 (by simp [go_sem])
  have HA := Lib.hid (fun W (hB : Below w1.heap.size w1 W) => meet1_any O P _ W (below_keep hB x0) (below_keep hB x1))
  have HB := Lib.hid (fun W (hB : Below w1.heap.size w1 W) => meet2_any O' P' _ W (below_keep hB y0) (below_keep hB y1))
  have HS := Lib.hid (fun W (hB : Below w1.heap.size w1 W) => spans1_any (mtz t d u) 4 _ _ (by omega) W (below_keep hB q3) (fun k hk => by
    match k, hk with
    | 0, _ => exact below_keep hB z0
    | 1, _ => exact below_keep hB z1
    | 2, _ => exact below_keep hB z2
    | 3, _ => exact below_keep hB z3))
  have hz : w.heap.size + 3 < w1.heap.size := World.block_lt_of_cell? _ _ z0
  have hz2 : w.heap.size + 2 < w1.heap.size := by omega
  have hz1 : w.heap.size + 1 < w1.heap.size := by omega
  have hz0 : w.heap.size < w1.heap.size := by omega
  have H1 := Lib.hid (below_step (below_alloc (below_alloc (below_alloc (below_alloc (Below.refl _ _) _) _) _) _) hb1)
  clear hb1 q3 z0 z1 z2 z3 hz
  rw [E1.out] at HA
  rw [E2.out] at HB
  rw [E3.out] at HS
  go_wp2_with fail
  refine (first_meet _ _ _ _ _ _ _ _ (by simp [go_sem]) (by simp [go_sem]) (by simp [go_sem])
    (Lib.hid fun W hB => HA.out W (below_step (below_alloc (Below.refl _ _) _) hB)) (Lib.hid fun W hB => HB.out W (below_step (below_alloc (Below.refl _ _) _) hB)) (Lib.hid fun W hB => HS.out W (below_step (below_alloc (Below.refl _ _) _) hB))).mono ?_
  rw [EK.out]
  rintro e w2 ⟨rfl, hb2⟩
  have x0' : w2.cell? ⟨w.heap.size, 0, none⟩ = some (.int .i64 O) := below_keep hb2 (by rw [World.cell?_alloc_lt _ _ _ hz0]; exact x0)
  have x1' : w2.cell? ⟨w.heap.size, 1, none⟩ = some (.int .i64 P) := below_keep hb2 (by rw [World.cell?_alloc_lt _ _ _ hz0]; exact x1)
  have y0' : w2.cell? ⟨w.heap.size + 1, 0, none⟩ = some (.int .i64 O') := below_keep hb2 (by rw [World.cell?_alloc_lt _ _ _ hz1]; exact y0)
  have y1' : w2.cell? ⟨w.heap.size + 1, 1, none⟩ = some (.int .i64 P') := below_keep hb2 (by rw [World.cell?_alloc_lt _ _ _ hz1]; exact y1)
  have k0 : w2.cell? ⟨w.heap.size + 2, 0, none⟩ = some (.int .i64 0) := below_keep hb2 (by rw [World.cell?_alloc_lt _ _ _ hz2]; exact g0)
  have k1 : w2.cell? ⟨w.heap.size + 2, 1, none⟩ = some (.int .i64 0) := below_keep hb2 (by rw [World.cell?_alloc_lt _ _ _ hz2]; exact g1)
  have k2 : w2.cell? ⟨w.heap.size + 2, 2, none⟩ = some (.int .i64 0) := below_keep hb2 (by rw [World.cell?_alloc_lt _ _ _ hz2]; exact g2)
  have k3 : w2.cell? ⟨w.heap.size + 2, 3, none⟩ = some (.int .i64 0) := below_keep hb2 (by rw [World.cell?_alloc_lt _ _ _ hz2]; exact g3)
  have k6 : ∀ o, w2.frozen? ⟨w.heap.size + 2, o, none⟩ = false := fun o => by rw [(bcell hb2).2 _ _ (by simp; omega), World.frozen?_alloc_old _ _ _ (by simp; omega)]; exact g6 o
  have v2 : w.heap.size + 2 < w2.heap.size := World.block_lt_of_cell? _ _ k0
  have H2 := Lib.hid (below_step (below_alloc H1.out _) hb2)
  clear hb2 x0 x1 y0 y1 g0 g1 g2 g3 g6 hz0 hz1 hz2 HA HB HS H1
  clear E1 E2 E3 EK
  go_upto_region 4 with fail
  go_cut [13, 14] (fun s13 s14 wx => ∃ b13 b14 : Nat, s13 = .pointer (some ⟨b13, 0, none⟩) ∧ s14 = .pointer (some ⟨b14, 0, none⟩) ∧ wx.cell? ⟨b13, 0, none⟩ = some (.int .i64 O) ∧ wx.cell? ⟨b13, 1, none⟩ = some (.int .i64 P) ∧
      wx.cell? ⟨b14, 0, none⟩ = some (.int .i64 O') ∧ wx.cell? ⟨b14, 1, none⟩ = some (.int .i64 P') ∧
      wx.cell? ⟨w.heap.size + 2, 0, none⟩ = some (.int .i64 0) ∧ wx.cell? ⟨w.heap.size + 2, 1, none⟩ = some (.int .i64 0) ∧ wx.cell? ⟨w.heap.size + 2, 2, none⟩ = some (.int .i64 0) ∧ wx.cell? ⟨w.heap.size + 2, 3, none⟩ = some (.int .i64 0) ∧ (∀ o, wx.frozen? ⟨w.heap.size + 2, o, none⟩ = false) ∧ Below w.heap.size w wx)
  case first =>
    have z0 : w.heap.size < w2.heap.size := by omega
    have z1 : w.heap.size + 1 < w2.heap.size := by omega
    go_region_held3 (fun w' => Below w2.heap.size w2 w' ∧ w'.cell? ⟨w.heap.size, 0, none⟩ = some (.int .i64 O) ∧ w'.cell? ⟨w.heap.size, 1, none⟩ = some (.int .i64 P) ∧ w'.cell? ⟨w.heap.size + 1, 0, none⟩ = some (.int .i64 O') ∧ w'.cell? ⟨w.heap.size + 1, 1, none⟩ = some (.int .i64 P'))
      (first | assumption | (have HK := Lib.hid (fun wx (hB : Below w2.heap.size w2 wx) => (⟨hB, below_keep hB x0', below_keep hB x1', below_keep hB y0', below_keep hB y1'⟩ :
      Below w2.heap.size w2 wx ∧ wx.cell? ⟨w.heap.size, 0, none⟩ = some (.int .i64 O) ∧ wx.cell? ⟨w.heap.size, 1, none⟩ = some (.int .i64 P) ∧ wx.cell? ⟨w.heap.size + 1, 0, none⟩ = some (.int .i64 O') ∧ wx.cell? ⟨w.heap.size + 1, 1, none⟩ = some (.int .i64 P'))); refine HK.out _ ?_; repeat (first | exact Below.refl _ _ | refine Below.drew ?_ | refine Below.setCell ?_ (by first | exact Nat.le_refl _ | omega | (simp; done) | (simp; omega)) _ | refine Below.alloc ?_ (by first | exact Nat.le_refl _ | omega | (simp; done) | (simp; omega)) _)) | fail)
      (fail)
    all_goals go_wp2_with fail
    all_goals go_meet
    all_goals
      obtain ⟨hB, _⟩ := ‹Below w2.heap.size _ _ ∧ _›
      exact ⟨_, _, rfl, rfl, by simp [go_sem, *], by simp [go_sem, *], by simp [go_sem, *], by simp [go_sem, *], below_keep hB k0, below_keep hB k1, below_keep hB k2, below_keep hB k3, fun o => ((bcell hB).2 _ _ v2).trans (k6 o), below_step H2.out hB⟩
  case rest =>
    obtain ⟨b13, b14, rfl, rfl, c0, c1, c2, c3, m0, m1, m2, m3, m6, hB⟩ := hcut
    have HB := Lib.hid hB
    clear hB x0' x1' y0' y1' k0 k1 k2 k3 k6 v2 H2
    obtain ⟨wA, rfl⟩ : ∃ x, x = wc := ⟨_, rfl⟩
    have hB0 : w.heap.size + 2 < wA.heap.size := World.block_lt_of_cell? _ _ m0
    go_upto_region 8 with fail
    go_cut [15, 16, 17, 62] (fun s15 s16 s17 s62 wx => s62 = .int .i64 0 ∧ s15 = .pointer (some ⟨wA.heap.size, 0, none⟩) ∧ s16 = .pointer (some ⟨wA.heap.size + 1, 0, none⟩) ∧ s17 = .pointer (some ⟨wA.heap.size + 2, 0, none⟩) ∧
        Hid (MeetSt (mtF O P O' P') (mtT t d u) (mtV O P O' P' t d u) wA.heap.size (w.heap.size + 2) w.heap.size w 0 wx))
    case first =>
      go_wp2
      go_meet
      refine ⟨rfl, rfl, rfl, rfl, Lib.hid ⟨?_, ?_, ?_, ?_, ?_, ?_, below_alloc (below_alloc (below_alloc HB.out _) _) _⟩⟩
      · intro j hj
        match j, hj with
        | 0, _ => simp [go_sem]; rfl
        | 1, _ => simp [go_sem]; rfl
        | 2, _ => simp [go_sem]; rfl
        | 3, _ => simp [go_sem]; rfl
      · intro j hj
        match j, hj with
        | 0, _ => simp [go_sem]; rfl
        | 1, _ => simp [go_sem]; rfl
        | 2, _ => simp [go_sem]; rfl
        | 3, _ => simp [go_sem]; rfl
      · intro j hj
        rw [if_neg (by omega)]
        match j, hj with
        | 0, _ => simp [go_sem]
        | 1, _ => simp [go_sem]
        | 2, _ => simp [go_sem]
        | 3, _ => simp [go_sem]
      · intro o
        simp [go_sem]
      · intro j hj
        rw [World.cell?_alloc_lt _ _ _ (by simp; omega), World.cell?_alloc_lt _ _ _ (by simp; omega), World.cell?_alloc_lt _ _ _ hB0]
        match j, hj with
        | 0, _ => exact m0
        | 1, _ => exact m1
        | 2, _ => exact m2
        | 3, _ => exact m3
      · intro o
        rw [World.frozen?_alloc_old _ _ _ (by simp; omega), World.frozen?_alloc_old _ _ _ (by simp; omega), World.frozen?_alloc_old _ _ _ (Nat.ne_of_lt hB0)]
        exact m6 o
    case rest =>
      obtain ⟨rfl, rfl, rfl, rfl, HM⟩ := hcut
      clear HB c0 c1 c2 c3 m0 m1 m2 m3 m6
      go_wp2
      go_loopw [62] (fun i wr => ∃ k : Nat, k ≤ 4 ∧ i = .int .i64 k ∧ Hid (MeetSt (mtF O P O' P') (mtT t d u) (mtV O P O' P' t d u) wA.heap.size (w.heap.size + 2) w.heap.size w k wr)) (fun i _ => 4 - (RowKit.intOf i).toNat)
      case atStart => exact ⟨0, by omega, rfl, HM⟩
      case round =>
        clear HM
        obtain ⟨k, hk, rfl, HK⟩ := hrel
        by_cases hlt : k < 4
        · have f0 : wr.cell? ⟨wA.heap.size, k, none⟩ = some (.func (.func 77) #[.agg #[.int .i64 (mtO O O' k), .int .i64 (mtO P P' k)]] #[]) := HK.out.f k hlt
          have f1 := HK.out.t k hlt
          have HO := Lib.hid (HOK.out k hlt).1
          have HT := Lib.hid (HOK.out k hlt).2
          have r0 := fun p : Regrown => cell_regrown f0 p.d p.os
          have r1 := fun p : Regrown => cell_regrown f1 p.d p.os
          have r2 := fun p : Regrown => cell_regrown (HK.out.s k hlt) p.d p.os
          go_wp2
          refine wp_region_quiet_tail 9 (by kernel_rfl) (by kernel_rfl) ?_
          simp only [List.take_succ_cons, List.take_zero, List.drop_succ_cons, List.drop_zero]
          repeat (go_big_quiet_step (exact Calls.regrown_of (read_any _ _ _ HO.out HT.out _)))
          refine wpQuiet_nil ?_
          intro w6 hw
          have H6 := Lib.hid (HK.out.keep (show Below wr.heap.size wr w6 by obtain ⟨p, rfl⟩ := hw; exact below_regrown _ _ _) HK.out.below.size)
          clear hw r0 r1 r2 f0 f1 HK
          have s6 := H6.out.s k hlt
          have s7 := H6.out.sz k
          go_wp2
          go_roundw
          case rel => exact ⟨k + 1, by omega, by go_num, Lib.hid (H6.out.put hlt hB0 (by omega))⟩
          case measure => simp [RowKit.intOf]; omega
        · obtain rfl : k = 4 := by omega
          have s0 : wr.cell? ⟨wA.heap.size + 2, 0, none⟩ = some (.int .i64 (locV O P t)) := HK.out.s 0 (by decide)
          have s1 : wr.cell? ⟨wA.heap.size + 2, 1, none⟩ = some (.int .i64 (locV O' P' (t + d))) := HK.out.s 1 (by decide)
          have s2 : wr.cell? ⟨wA.heap.size + 2, 2, none⟩ = some (.int .i64 (locV O' P' (t + d + u))) := HK.out.s 2 (by decide)
          have s3 : wr.cell? ⟨wA.heap.size + 2, 3, none⟩ = some (.int .i64 (locV O P (t + 2 * d + u))) := HK.out.s 3 (by decide)
          have m0 := HK.out.m 0 (by decide)
          have m1 := HK.out.m 1 (by decide)
          have m2 := HK.out.m 2 (by decide)
          have m3 := HK.out.m 3 (by decide)
          have m6 := HK.out.mz
          go_wp2
          refine bodyPost_ret (v := .tuple #[.agg #[.int .i64 (locV O P t), .int .i64 (locV O' P' (t + d)), .int .i64 (locV O' P' (t + d + u)), .int .i64 (locV O P (t + 2 * d + u))], .int .i64 0]) (by simp [results, Tryz.results44, go_sem, *]) rfl ⟨rfl, ?_⟩
          have hb4 := HK.out.below
          exact (((hb4.setCell (by simp; omega) _).setCell (by simp; omega) _).setCell (by simp; omega) _).setCell (by simp; omega) _

/-- delay.Meet -/
theorem meet_any (O P O' P' t d u : Int) (w : World) :
    Calls Tryz.prog 44 #[.agg #[.int .i64 O, .int .i64 P], .agg #[.int .i64 O', .int .i64 P'], .int .i64 t, .int .i64 d, .int .i64 u] w
      fun e w' => e = .returned (.tuple #[.agg #[.int .i64 (mt1 O P O' P' t d u), .int .i64 (mt2 O P O' P' t d u), .int .i64 (mt3 O P O' P' t d u), .int .i64 (mt4 O P O' P' t d u)], .int .i64 (mtE O P O' P' t d u)]) ∧ Below w.heap.size w w' := by
  by_cases h : MtOk O P O' P' t d u
  · rw [show mt1 O P O' P' t d u = locV O P t from if_pos h, show mt2 O P O' P' t d u = locV O' P' (t + d) from if_pos h, show mt3 O P O' P' t d u = locV O' P' (t + d + u) from if_pos h, show mt4 O P O' P' t d u = locV O P (t + 2 * d + u) from if_pos h,
      show mtE O P O' P' t d u = 0 by unfold mtE; rw [if_pos h.1, if_pos h.2.1, if_pos h.2.2]]
    exact meet_ok O P O' P' t d u h.1 h.2.1 h.2.2 w
  · rw [show mt1 O P O' P' t d u = 0 from if_neg h, show mt2 O P O' P' t d u = 0 from if_neg h, show mt3 O P O' P' t d u = 0 from if_neg h, show mt4 O P O' P' t d u = 0 from if_neg h]
    by_cases h1 : OkC O P
    · by_cases h2 : OkC O' P'
      · have h3 : ¬ Spn t d u := fun x => h ⟨h1, h2, x⟩
        rw [show mtE O P O' P' t d u = 2 by unfold mtE; rw [if_pos h1, if_pos h2, if_neg h3]]
        exact meet_err O P O' P' t d u 2 0 0 2 (if_pos h1) (if_pos h2) (if_neg (fun x => h3 ((mtz_iff t d u).1 x))) rfl (by decide) w
      · rw [show mtE O P O' P' t d u = 190 by unfold mtE; rw [if_pos h1, if_neg h2]]
        exact meet_err O P O' P' t d u 190 0 190 _ (if_pos h1) (if_neg h2) rfl (firstE_5 _) (by decide) w
    · rw [show mtE O P O' P' t d u = 190 from if_neg h1]
      exact meet_err O P O' P' t d u 190 190 _ _ (if_neg h1) rfl rfl (firstE_4 _ _) (by decide) w

end Go.Proofs.YtkencmijghigiaaGreat
