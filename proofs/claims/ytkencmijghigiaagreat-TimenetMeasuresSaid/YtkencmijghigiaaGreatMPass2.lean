/-
  The walks of package pass: what changed information is.
-/
import Derived.Test.YtkencmijghigiaaGreatMPass
namespace Go.Proofs.YtkencmijghigiaaGreat
open Go.RowKit Go.Lib Plain

/-- What advance leaves: new blocks, and the correction. -/
def AdvPost (b : Nat) (v : Int) (w : World) (e : Ending) (w' : World) : Prop := e = .returned (.tuple #[]) ∧ ∃ w1, Below w.heap.size w w1 ∧ w' = w1.setCell ⟨b, 1, none⟩ (.int .i64 v)

set_option maxHeartbeats 1000000 in
/-- pass.changed.advance -/
theorem advance_any (O C P x : Int) (b : Nat) (hC : Stamp C) (hx : Stamp x) (hP1 : -16777216 ≤ P) (hP2 : P ≤ 16777216) (w : World) (_h0 : w.cell? ⟨b, 0, none⟩ = some (.int .i64 O)) (h1 : w.cell? ⟨b, 1, none⟩ = some (.int .i64 C)) (h2 : w.cell? ⟨b, 2, none⟩ = some (.int .i64 P)) (hf : ∀ o, w.frozen? ⟨b, o, none⟩ = false) :
    Calls Tryz.prog 88 #[.pointer (some ⟨b, 0, none⟩), .int .i64 x] w (AdvPost b (corV C x P) w) := by
  obtain ⟨c1, c2⟩ := hC
  obtain ⟨x1, x2⟩ := hx
  obtain ⟨s1, s2⟩ := part_bd (x := x) (p := P) (by omega) (by omega) hP1 hP2
  unfold corV
  go_enter Tryz.func88, Tryz.ntmps88
  go_wp2_with fail
  refine (part_any x P (by omega) (by omega) hP1 hP2 _).mono ?_
  rintro e w1 ⟨rfl, hb⟩
  have g1 := below_keep hb h1
  have g6 : ∀ o, w1.frozen? ⟨b, o, none⟩ = false := fun o => ((bcell hb).2 _ _ (World.block_lt_of_cell? _ _ h1)).trans (hf o)
  have HB := Lib.hid hb
  clear hb _h0 h1 h2 hf
  go_wp2
  go_end0
  exact ⟨rfl, w1, HB.out, rfl⟩

/-- What done answers. -/
def dnV (O C P v : Int) : Int := if OkI O C P then v else 0
def dnE (O C P : Int) : Int := if OkI O C P then 0 else 6

set_option maxHeartbeats 1000000 in
/-- pass.changed.done -/
theorem done_same (O C P : Int) (b : Nat) (w : World) (h0 : w.cell? ⟨b, 0, none⟩ = some (.int .i64 O)) (h1 : w.cell? ⟨b, 1, none⟩ = some (.int .i64 C)) (h2 : w.cell? ⟨b, 2, none⟩ = some (.int .i64 P)) :
    Calls Tryz.prog 89 #[.pointer (some ⟨b, 0, none⟩), .agg #[.int .i64 O, .int .i64 C, .int .i64 P]] w
      fun e w' => e = .returned (.tuple #[.agg #[.int .i64 O, .int .i64 C, .int .i64 P], .int .i64 0]) ∧ Below w.heap.size w w' := by
  have hb0 : b < w.heap.size := World.block_lt_of_cell? _ _ h0
  go_enter Tryz.func89, Tryz.ntmps89
  go_wp2
  refine wp_world ?_
  intro W hW
  have x0 : W.cell? ⟨b, 0, none⟩ = some (.int .i64 O) := by subst hW; rw [World.cell?_alloc_lt _ _ _ (by simp; omega), World.cell?_alloc_lt _ _ _ hb0]; exact h0
  have x1 : W.cell? ⟨b, 1, none⟩ = some (.int .i64 C) := by subst hW; rw [World.cell?_alloc_lt _ _ _ (by simp; omega), World.cell?_alloc_lt _ _ _ hb0]; exact h1
  have x2 : W.cell? ⟨b, 2, none⟩ = some (.int .i64 P) := by subst hW; rw [World.cell?_alloc_lt _ _ _ (by simp; omega), World.cell?_alloc_lt _ _ _ hb0]; exact h2
  have y0 : W.cell? ⟨w.heap.size, 0, none⟩ = some (.int .i64 O) := by subst hW; simp [go_sem]
  have y1 : W.cell? ⟨w.heap.size, 1, none⟩ = some (.int .i64 C) := by subst hW; simp [go_sem]
  have y2 : W.cell? ⟨w.heap.size, 2, none⟩ = some (.int .i64 P) := by subst hW; simp [go_sem]
  have k0 : W.cell? ⟨w.heap.size + 1, 0, none⟩ = some (.int .i64 0) := by subst hW; simp [go_sem]
  have k1 : W.cell? ⟨w.heap.size + 1, 1, none⟩ = some (.int .i64 0) := by subst hW; simp [go_sem]
  have k2 : W.cell? ⟨w.heap.size + 1, 2, none⟩ = some (.int .i64 0) := by subst hW; simp [go_sem]
  have k6 : ∀ o, W.frozen? ⟨w.heap.size + 1, o, none⟩ = false := fun o => by subst hW; simp [go_sem]
  have HB := Lib.hid (show Below w.heap.size w W by subst hW; exact below_alloc (below_alloc (Below.refl _ _) _) _)
  clear hW h0 h1 h2
  go_quiet (fail)
  go_wp2
  refine bodyPost_ret (v := .tuple #[.agg #[.int .i64 O, .int .i64 C, .int .i64 P], .int .i64 0]) (by simp [results, Tryz.results89, go_sem, *]) rfl ⟨rfl, ?_⟩
  have hb4 := below_drewN' HB.out
  exact (((hb4 _).setCell (by simp) _).setCell (by simp) _).setCell (by simp) _

set_option maxHeartbeats 1000000 in
theorem done_ok (O C P O' C' P' : Int) (h : OkI O C P) (e : ¬ (O = O' ∧ C = C' ∧ P = P')) (b : Nat) (w : World) (h0 : w.cell? ⟨b, 0, none⟩ = some (.int .i64 O)) (h1 : w.cell? ⟨b, 1, none⟩ = some (.int .i64 C)) (h2 : w.cell? ⟨b, 2, none⟩ = some (.int .i64 P)) :
    Calls Tryz.prog 89 #[.pointer (some ⟨b, 0, none⟩), .agg #[.int .i64 O', .int .i64 C', .int .i64 P']] w
      fun e w' => e = .returned (.tuple #[.agg #[.int .i64 O, .int .i64 C, .int .i64 P], .int .i64 0]) ∧ Below w.heap.size w w' := by
  have hb0 : b < w.heap.size := World.block_lt_of_cell? _ _ h0
  have k : infV O C P = 0 := if_pos h
  have K := Lib.hid k
  clear k h
  have hne : (O == O') = false ∨ ((O == O') = true ∧ (C == C') = false) ∨ ((O == O') = true ∧ (C == C') = true ∧ (P == P') = false) := by
    by_cases a : O = O'
    · by_cases c : C = C'
      · exact .inr (.inr ⟨beq_iff_eq.2 a, beq_iff_eq.2 c, beq_eq_false_iff_ne.2 (fun x => e ⟨a, c, x⟩)⟩)
      · exact .inr (.inl ⟨beq_iff_eq.2 a, beq_eq_false_iff_ne.2 c⟩)
    · exact .inl (beq_eq_false_iff_ne.2 a)
  clear e
  rcases hne with n1 | ⟨n1, n2⟩ | ⟨n1, n2, n3⟩
  all_goals
    go_enter Tryz.func89, Tryz.ntmps89
    go_wp2
    refine wp_world ?_
    intro W hW
    have x0 : W.cell? ⟨b, 0, none⟩ = some (.int .i64 O) := by subst hW; rw [World.cell?_alloc_lt _ _ _ (by simp; omega), World.cell?_alloc_lt _ _ _ hb0]; exact h0
    have x1 : W.cell? ⟨b, 1, none⟩ = some (.int .i64 C) := by subst hW; rw [World.cell?_alloc_lt _ _ _ (by simp; omega), World.cell?_alloc_lt _ _ _ hb0]; exact h1
    have x2 : W.cell? ⟨b, 2, none⟩ = some (.int .i64 P) := by subst hW; rw [World.cell?_alloc_lt _ _ _ (by simp; omega), World.cell?_alloc_lt _ _ _ hb0]; exact h2
    have y0 : W.cell? ⟨w.heap.size, 0, none⟩ = some (.int .i64 O') := by subst hW; simp [go_sem]
    have y1 : W.cell? ⟨w.heap.size, 1, none⟩ = some (.int .i64 C') := by subst hW; simp [go_sem]
    have y2 : W.cell? ⟨w.heap.size, 2, none⟩ = some (.int .i64 P') := by subst hW; simp [go_sem]
    have k0 : W.cell? ⟨w.heap.size + 1, 0, none⟩ = some (.int .i64 0) := by subst hW; simp [go_sem]
    have k1 : W.cell? ⟨w.heap.size + 1, 1, none⟩ = some (.int .i64 0) := by subst hW; simp [go_sem]
    have k2 : W.cell? ⟨w.heap.size + 1, 2, none⟩ = some (.int .i64 0) := by subst hW; simp [go_sem]
    have k6 : ∀ o, W.frozen? ⟨w.heap.size + 1, o, none⟩ = false := fun o => by subst hW; simp [go_sem]
    have HB := Lib.hid (show Below w.heap.size w W by subst hW; exact below_alloc (below_alloc (Below.refl _ _) _) _)
    clear hW h0 h1 h2
    go_quiet (fail)
    go_wp2_with fail
    refine (pCheck_any O C P _).mono ?_
    rw [K.out]
    rintro e w1 ⟨rfl, hb⟩
    have hb' : Below W.heap.size W w1 := ⟨hb.os, hb.tape, hb.output, hb.size, hb.block⟩
    have z0 := below_keep hb' x0
    have z1 := below_keep hb' x1
    have z2 := below_keep hb' x2
    have m0 := below_keep hb' k0
    have m1 := below_keep hb' k1
    have m2 := below_keep hb' k2
    have m6 : ∀ o, w1.frozen? ⟨w.heap.size + 1, o, none⟩ = false := fun o => ((bcell hb').2 _ _ (World.block_lt_of_cell? W ⟨w.heap.size + 1, 0, none⟩ k0)).trans (k6 o)
    have H1 := Lib.hid (below_step HB.out hb')
    have hne1 : ¬ b = w.heap.size + 1 := by omega
    have hne2 : ¬ w.heap.size + 1 = b := by omega
    clear hb hb' x0 x1 x2 y0 y1 y2 k0 k1 k2 k6
    go_wp2
    refine bodyPost_ret (v := .tuple #[.agg #[.int .i64 O, .int .i64 C, .int .i64 P], .int .i64 0]) (by simp [results, Tryz.results89, go_sem, *]) rfl ⟨rfl, ?_⟩
    have hb4 := H1.out
    exact ((hb4.setCell (by simp) _).setCell (by simp) _).setCell (by simp) _

set_option maxHeartbeats 1000000 in
theorem done_bad (O C P O' C' P' : Int) (h : ¬ OkI O C P) (e : ¬ (O = O' ∧ C = C' ∧ P = P')) (b : Nat) (w : World) (h0 : w.cell? ⟨b, 0, none⟩ = some (.int .i64 O)) (h1 : w.cell? ⟨b, 1, none⟩ = some (.int .i64 C)) (h2 : w.cell? ⟨b, 2, none⟩ = some (.int .i64 P)) :
    Calls Tryz.prog 89 #[.pointer (some ⟨b, 0, none⟩), .agg #[.int .i64 O', .int .i64 C', .int .i64 P']] w
      fun e w' => e = .returned (.tuple #[.agg #[.int .i64 0, .int .i64 0, .int .i64 0], .int .i64 6]) ∧ Below w.heap.size w w' := by
  have hb0 : b < w.heap.size := World.block_lt_of_cell? _ _ h0
  have k : infV O C P = 240 := if_neg h
  have K := Lib.hid k
  clear k h
  have hne : (O == O') = false ∨ ((O == O') = true ∧ (C == C') = false) ∨ ((O == O') = true ∧ (C == C') = true ∧ (P == P') = false) := by
    by_cases a : O = O'
    · by_cases c : C = C'
      · exact .inr (.inr ⟨beq_iff_eq.2 a, beq_iff_eq.2 c, beq_eq_false_iff_ne.2 (fun x => e ⟨a, c, x⟩)⟩)
      · exact .inr (.inl ⟨beq_iff_eq.2 a, beq_eq_false_iff_ne.2 c⟩)
    · exact .inl (beq_eq_false_iff_ne.2 a)
  clear e
  rcases hne with n1 | ⟨n1, n2⟩ | ⟨n1, n2, n3⟩
  all_goals
    go_enter Tryz.func89, Tryz.ntmps89
    go_wp2
    refine wp_world ?_
    intro W hW
    have x0 : W.cell? ⟨b, 0, none⟩ = some (.int .i64 O) := by subst hW; rw [World.cell?_alloc_lt _ _ _ (by simp; omega), World.cell?_alloc_lt _ _ _ hb0]; exact h0
    have x1 : W.cell? ⟨b, 1, none⟩ = some (.int .i64 C) := by subst hW; rw [World.cell?_alloc_lt _ _ _ (by simp; omega), World.cell?_alloc_lt _ _ _ hb0]; exact h1
    have x2 : W.cell? ⟨b, 2, none⟩ = some (.int .i64 P) := by subst hW; rw [World.cell?_alloc_lt _ _ _ (by simp; omega), World.cell?_alloc_lt _ _ _ hb0]; exact h2
    have y0 : W.cell? ⟨w.heap.size, 0, none⟩ = some (.int .i64 O') := by subst hW; simp [go_sem]
    have y1 : W.cell? ⟨w.heap.size, 1, none⟩ = some (.int .i64 C') := by subst hW; simp [go_sem]
    have y2 : W.cell? ⟨w.heap.size, 2, none⟩ = some (.int .i64 P') := by subst hW; simp [go_sem]
    have k0 : W.cell? ⟨w.heap.size + 1, 0, none⟩ = some (.int .i64 0) := by subst hW; simp [go_sem]
    have k1 : W.cell? ⟨w.heap.size + 1, 1, none⟩ = some (.int .i64 0) := by subst hW; simp [go_sem]
    have k2 : W.cell? ⟨w.heap.size + 1, 2, none⟩ = some (.int .i64 0) := by subst hW; simp [go_sem]
    have k6 : ∀ o, W.frozen? ⟨w.heap.size + 1, o, none⟩ = false := fun o => by subst hW; simp [go_sem]
    have HB := Lib.hid (show Below w.heap.size w W by subst hW; exact below_alloc (below_alloc (Below.refl _ _) _) _)
    clear hW h0 h1 h2
    go_quiet (fail)
    go_wp2_with fail
    refine (pCheck_any O C P _).mono ?_
    rw [K.out]
    rintro e w1 ⟨rfl, hb⟩
    have hb' : Below W.heap.size W w1 := ⟨hb.os, hb.tape, hb.output, hb.size, hb.block⟩
    have z0 := below_keep hb' x0
    have z1 := below_keep hb' x1
    have z2 := below_keep hb' x2
    have m0 := below_keep hb' k0
    have m1 := below_keep hb' k1
    have m2 := below_keep hb' k2
    have m6 : ∀ o, w1.frozen? ⟨w.heap.size + 1, o, none⟩ = false := fun o => ((bcell hb').2 _ _ (World.block_lt_of_cell? W ⟨w.heap.size + 1, 0, none⟩ k0)).trans (k6 o)
    have H1 := Lib.hid (below_step HB.out hb')
    have hne1 : ¬ b = w.heap.size + 1 := by omega
    have hne2 : ¬ w.heap.size + 1 = b := by omega
    clear hb hb' x0 x1 x2 y0 y1 y2 k0 k1 k2 k6
    go_wp2
    refine bodyPost_ret (v := .tuple #[.agg #[.int .i64 0, .int .i64 0, .int .i64 0], .int .i64 6]) (by simp [results, Tryz.results89, go_sem, *]) rfl ⟨rfl, ?_⟩
    have hb4 := H1.out
    exact ((hb4.setCell (by simp) _).setCell (by simp) _).setCell (by simp) _

theorem done_any (O C P O' C' P' : Int) (h : OkI O' C' P') (b : Nat) (w : World) (h0 : w.cell? ⟨b, 0, none⟩ = some (.int .i64 O)) (h1 : w.cell? ⟨b, 1, none⟩ = some (.int .i64 C)) (h2 : w.cell? ⟨b, 2, none⟩ = some (.int .i64 P)) :
    Calls Tryz.prog 89 #[.pointer (some ⟨b, 0, none⟩), .agg #[.int .i64 O', .int .i64 C', .int .i64 P']] w
      fun e w' => e = .returned (.tuple #[.agg #[.int .i64 (dnV O C P O), .int .i64 (dnV O C P C), .int .i64 (dnV O C P P)], .int .i64 (dnE O C P)]) ∧ Below w.heap.size w w' := by
  by_cases k : OkI O C P
  · rw [show dnV O C P O = O from if_pos k, show dnV O C P C = C from if_pos k, show dnV O C P P = P from if_pos k, show dnE O C P = 0 from if_pos k]
    by_cases e : O = O' ∧ C = C' ∧ P = P'
    · obtain ⟨rfl, rfl, rfl⟩ := e
      exact done_same O C P b w h0 h1 h2
    · exact done_ok O C P O' C' P' k e b w h0 h1 h2
  · rw [show dnV O C P O = 0 from if_neg k, show dnV O C P C = 0 from if_neg k, show dnV O C P P = 0 from if_neg k, show dnE O C P = 6 from if_neg k]
    exact done_bad O C P O' C' P' k (fun ⟨a, b, c⟩ => k (by rw [a, b, c]; exact h)) b w h0 h1 h2

end Go.Proofs.YtkencmijghigiaaGreat
