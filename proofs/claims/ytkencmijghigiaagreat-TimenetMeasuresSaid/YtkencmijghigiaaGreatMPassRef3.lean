/-
  The walks of the reference of package pass: Arrive, Leave, Set.
-/
import Derived.Test.YtkencmijghigiaaGreatMPassRef2
namespace Go.Proofs.YtkencmijghigiaaGreat
open Go.RowKit Go.Lib Plain

set_option maxHeartbeats 4000000 in
set_option maxRecDepth 100000 in
theorem rArrive_bad (O C P d r : Int) (w : World) (h : ¬ OkI O C P) :
    Calls Tryz.prog 34 #[.agg #[.int .i64 O, .int .i64 C, .int .i64 P], .int .i64 d, .int .i64 r] w fun e w' => e = .returned (.tuple #[.agg #[.int .i64 0, .int .i64 0, .int .i64 0], .int .i64 240]) ∧ Below w.heap.size w w' := by
  have k := Lib.hid (show okI O C P = false from decide_eq_false h)
  clear h
  go_enter Tryz.func34, Tryz.ntmps34
  go_wp2_with fail
  refine (rRight_any O C P _).mono ?_
  rw [k.out]
  rintro e w1 ⟨rfl, hb1⟩
  have c1 : w1.cell? ⟨w.heap.size, 0, none⟩ = some (.int .i64 O) := below_keep hb1 (by simp [go_sem])
  have c2 : w1.cell? ⟨w.heap.size, 1, none⟩ = some (.int .i64 C) := below_keep hb1 (by simp [go_sem])
  have c3 : w1.cell? ⟨w.heap.size, 2, none⟩ = some (.int .i64 P) := below_keep hb1 (by simp [go_sem])
  have c4 : w1.cell? ⟨w.heap.size + 1, 0, none⟩ = some (.int .i64 0) := below_keep hb1 (by simp [go_sem])
  have c5 : w1.cell? ⟨w.heap.size + 1, 1, none⟩ = some (.int .i64 0) := below_keep hb1 (by simp [go_sem])
  have c6 : w1.cell? ⟨w.heap.size + 1, 2, none⟩ = some (.int .i64 0) := below_keep hb1 (by simp [go_sem])
  have c7 : ∀ o, w1.frozen? ⟨w.heap.size + 1, o, none⟩ = false := fun o => by rw [(bcell hb1).2 _ _ (by first | (simp; done) | (simp; omega))]; simp [go_sem]
  have c8 : ∀ o, w1.frozen? ⟨w.heap.size, o, none⟩ = false := fun o => by rw [(bcell hb1).2 _ _ (by first | (simp; done) | (simp; omega))]; simp [go_sem]
  have H1 := Lib.hid (below_step (below_alloc (below_alloc (Below.refl _ _) _) _) hb1)
  clear hb1
  go_wp2
  refine bodyPost_ret (v := .tuple #[.agg #[.int .i64 0, .int .i64 0, .int .i64 0], .int .i64 240]) (by simp [results, Tryz.results34, go_sem, *]) rfl ⟨rfl, ?_⟩
  have hb4 := H1.out
  exact ((hb4.setCell (by simp) _).setCell (by simp) _).setCell (by simp) _

set_option maxHeartbeats 4000000 in
set_option maxRecDepth 100000 in
theorem rArrive_no (O C P d r : Int) (w : World) (h : OkI O C P) (k0 : ¬ (Stamp d ∧ Ratio r)) :
    Calls Tryz.prog 34 #[.agg #[.int .i64 O, .int .i64 C, .int .i64 P], .int .i64 d, .int .i64 r] w fun e w' => e = .returned (.tuple #[.agg #[.int .i64 0, .int .i64 0, .int .i64 0], .int .i64 2]) ∧ Below w.heap.size w w' := by
  have k := Lib.hid (show okI O C P = true from decide_eq_true h)
  clear h
  have hc : sB d = false ∨ (sB d = true ∧ rB r = false) := by
    by_cases a : Stamp d
    · exact .inr ⟨decide_eq_true a, decide_eq_false (fun b => k0 ⟨a, b⟩)⟩
    · exact .inl (decide_eq_false a)
  clear k0
  rcases hc with q1 | ⟨q1, q2⟩
  all_goals
    go_enter Tryz.func34, Tryz.ntmps34
    go_wp2_with fail
    refine (rRight_any O C P _).mono ?_
    rw [k.out]
    rintro e w1 ⟨rfl, hb1⟩
    have c1 : w1.cell? ⟨w.heap.size, 0, none⟩ = some (.int .i64 O) := below_keep hb1 (by simp [go_sem])
    have c2 : w1.cell? ⟨w.heap.size, 1, none⟩ = some (.int .i64 C) := below_keep hb1 (by simp [go_sem])
    have c3 : w1.cell? ⟨w.heap.size, 2, none⟩ = some (.int .i64 P) := below_keep hb1 (by simp [go_sem])
    have c4 : w1.cell? ⟨w.heap.size + 1, 0, none⟩ = some (.int .i64 0) := below_keep hb1 (by simp [go_sem])
    have c5 : w1.cell? ⟨w.heap.size + 1, 1, none⟩ = some (.int .i64 0) := below_keep hb1 (by simp [go_sem])
    have c6 : w1.cell? ⟨w.heap.size + 1, 2, none⟩ = some (.int .i64 0) := below_keep hb1 (by simp [go_sem])
    have c7 : ∀ o, w1.frozen? ⟨w.heap.size + 1, o, none⟩ = false := fun o => by rw [(bcell hb1).2 _ _ (by first | (simp; done) | (simp; omega))]; simp [go_sem]
    have c8 : ∀ o, w1.frozen? ⟨w.heap.size, o, none⟩ = false := fun o => by rw [(bcell hb1).2 _ _ (by first | (simp; done) | (simp; omega))]; simp [go_sem]
    have H1 := Lib.hid (below_step (below_alloc (below_alloc (Below.refl _ _) _) _) hb1)
    clear hb1
    go_wp2_with (first | (go_at_call 58; refine (rstamp_any _ _).mono ?_; rintro e w' ⟨rfl, rfl⟩) | (go_at_call 59; refine (rratio_any _ _).mono ?_; rintro e w' ⟨rfl, rfl⟩))
    refine bodyPost_ret (v := .tuple #[.agg #[.int .i64 0, .int .i64 0, .int .i64 0], .int .i64 2]) (by simp [results, Tryz.results34, go_sem, *]) rfl ⟨rfl, ?_⟩
    have hb4 := H1.out
    exact ((hb4.setCell (by simp) _).setCell (by simp) _).setCell (by simp) _

set_option maxHeartbeats 4000000 in
set_option maxRecDepth 100000 in
theorem rArrive_go (O C P d r : Int) (w : World) (h : OkI O C P) (k0 : (Stamp d ∧ Ratio r)) :
    Calls Tryz.prog 34 #[.agg #[.int .i64 O, .int .i64 C, .int .i64 P], .int .i64 d, .int .i64 r] w fun e w' => e = .returned (.tuple #[.agg #[.int .i64 (dnV O (corV C d (P + r)) (P + r) O), .int .i64 (dnV O (corV C d (P + r)) (P + r) (corV C d (P + r))), .int .i64 (dnV O (corV C d (P + r)) (P + r) (P + r))], .int .i64 (dnE O (corV C d (P + r)) (P + r))]) ∧ Below w.heap.size w w' := by
  have k := Lib.hid (show okI O C P = true from decide_eq_true h)
  obtain ⟨⟨o1, o2⟩, ⟨c1, c2⟩, ⟨p1, p2⟩⟩ := h
  have q1 : sB d = true := decide_eq_true k0.1
  have q2 : rB r = true := decide_eq_true k0.2
  obtain ⟨⟨x1, x2⟩, ⟨r1, r2⟩⟩ := k0
  obtain ⟨s1, s2⟩ := part_bd (x := d) (p := (P + r)) (by omega) (by omega) (by omega) (by omega)
  have e1 : IntKind.i64.wrap (C + d) = C + d := IntWalk.i64_in _ (by omega)
  have e2 : IntKind.i64.wrap (C + d + share d (P + r)) = C + d + share d (P + r) := IntWalk.i64_in _ (by omega)
  have ec : Hid (C + d + share d (P + r) = corV C d (P + r)) := by show _ = _; unfold corV; omega
  go_enter Tryz.func34, Tryz.ntmps34
  go_wp2_with fail
  refine (rRight_any O C P _).mono ?_
  rw [k.out]
  rintro e w1 ⟨rfl, hb1⟩
  have c1 : w1.cell? ⟨w.heap.size, 0, none⟩ = some (.int .i64 O) := below_keep hb1 (by simp [go_sem])
  have c2 : w1.cell? ⟨w.heap.size, 1, none⟩ = some (.int .i64 C) := below_keep hb1 (by simp [go_sem])
  have c3 : w1.cell? ⟨w.heap.size, 2, none⟩ = some (.int .i64 P) := below_keep hb1 (by simp [go_sem])
  have c4 : w1.cell? ⟨w.heap.size + 1, 0, none⟩ = some (.int .i64 0) := below_keep hb1 (by simp [go_sem])
  have c5 : w1.cell? ⟨w.heap.size + 1, 1, none⟩ = some (.int .i64 0) := below_keep hb1 (by simp [go_sem])
  have c6 : w1.cell? ⟨w.heap.size + 1, 2, none⟩ = some (.int .i64 0) := below_keep hb1 (by simp [go_sem])
  have c7 : ∀ o, w1.frozen? ⟨w.heap.size + 1, o, none⟩ = false := fun o => by rw [(bcell hb1).2 _ _ (by first | (simp; done) | (simp; omega))]; simp [go_sem]
  have c8 : ∀ o, w1.frozen? ⟨w.heap.size, o, none⟩ = false := fun o => by rw [(bcell hb1).2 _ _ (by first | (simp; done) | (simp; omega))]; simp [go_sem]
  have H1 := Lib.hid (below_step (below_alloc (below_alloc (Below.refl _ _) _) _) hb1)
  clear hb1
  go_wp2_with (first | (go_at_call 58; refine (rstamp_any _ _).mono ?_; rintro e w' ⟨rfl, rfl⟩) | (go_at_call 59; refine (rratio_any _ _).mono ?_; rintro e w' ⟨rfl, rfl⟩))
  refine wp_world ?_
  intro W hW
  have c9 : W.cell? ⟨w.heap.size, 0, none⟩ = some (.int .i64 O) := by subst hW; simp [go_sem, *]
  have c10 : W.cell? ⟨w.heap.size, 1, none⟩ = some (.int .i64 C) := by subst hW; simp [go_sem, *]
  have c11 : W.cell? ⟨w.heap.size, 2, none⟩ = some (.int .i64 (P + r)) := by subst hW; simp [go_sem, *]
  have c12 : W.cell? ⟨w.heap.size + 1, 0, none⟩ = some (.int .i64 0) := by subst hW; simp [go_sem, *]
  have c13 : W.cell? ⟨w.heap.size + 1, 1, none⟩ = some (.int .i64 0) := by subst hW; simp [go_sem, *]
  have c14 : W.cell? ⟨w.heap.size + 1, 2, none⟩ = some (.int .i64 0) := by subst hW; simp [go_sem, *]
  have fg : ∀ o, W.frozen? ⟨w.heap.size + 1, o, none⟩ = false := fun o => by subst hW; simp [go_sem, *]
  have fi : ∀ o, W.frozen? ⟨w.heap.size, o, none⟩ = false := fun o => by subst hW; simp [go_sem, *]
  have HW := Lib.hid (show Below w.heap.size w W by subst hW; first | exact H1.out | exact (H1.out).setCell (by simp) _)
  clear hW c1 c2 c3 c4 c5 c6 c7 c8 H1
  have r0 := fun p : Regrown => cell_regrown c10 p.d p.os
  have r1 := fun p : Regrown => cell_regrown c11 p.d p.os
  refine wp_region_quiet_tail 10 (by kernel_rfl) (by kernel_rfl) ?_
  simp only [List.take_succ_cons, List.take_zero, List.drop_succ_cons, List.drop_zero]
  repeat (go_big_quiet_step (exact Calls.regrown_of ((partRef_any d (P + r) (by omega) (by omega) (by omega) (by omega) _).mono fun _ _ ⟨x, y⟩ => ⟨x, y ▸ Below.refl _ _⟩)))
  refine wpQuiet_nil ?_
  intro w6 hw
  have hb : Below W.heap.size W w6 := by obtain ⟨p, rfl⟩ := hw; exact below_regrown _ _ _
  have di0 := below_keep hb c9
  have di1 := below_keep hb c10
  have di2 := below_keep hb c11
  have dg0 := below_keep hb c12
  have dg1 := below_keep hb c13
  have dg2 := below_keep hb c14
  have dfg : ∀ o, w6.frozen? ⟨w.heap.size + 1, o, none⟩ = false := fun o => ((bcell hb).2 _ _ (World.block_lt_of_cell? W ⟨w.heap.size + 1, 0, none⟩ c12)).trans (fg o)
  have dfi : ∀ o, w6.frozen? ⟨w.heap.size, o, none⟩ = false := fun o => ((bcell hb).2 _ _ (World.block_lt_of_cell? W ⟨w.heap.size, 0, none⟩ c9)).trans (fi o)
  have H6 := Lib.hid (below_step HW.out hb)
  have zz : w.heap.size + 1 < w6.heap.size := World.block_lt_of_cell? _ _ dg0
  clear hw hb r0 r1 fg fi HW c9 c10 c11 c12 c13 c14
  go_wp2_with fail
  refine (end_any _ _ _ _).mono ?_
  rw [ec.out, end_dn, end_dn, end_dn, end_de]
  rintro e w7 ⟨rfl, hb⟩
  have t0 : w7.cell? ⟨w.heap.size + 1, 0, none⟩ = some (.int .i64 0) := below_keep hb (by simp [go_sem, *])
  have t1 : w7.cell? ⟨w.heap.size + 1, 1, none⟩ = some (.int .i64 0) := below_keep hb (by simp [go_sem, *])
  have t2 : w7.cell? ⟨w.heap.size + 1, 2, none⟩ = some (.int .i64 0) := below_keep hb (by simp [go_sem, *])
  have t6 : ∀ o, w7.frozen? ⟨w.heap.size + 1, o, none⟩ = false := fun o => by rw [(bcell hb).2 _ _ (by simp; omega)]; simp [go_sem, *]
  have H7 := Lib.hid (below_step (H6.out.setCell (by simp) _) hb)
  clear hb di0 di1 di2 dg0 dg1 dg2 dfg dfi H6 zz
  go_wp2
  refine bodyPost_ret (v := .tuple #[.agg #[.int .i64 (dnV O (corV C d (P + r)) (P + r) O), .int .i64 (dnV O (corV C d (P + r)) (P + r) (corV C d (P + r))), .int .i64 (dnV O (corV C d (P + r)) (P + r) (P + r))], .int .i64 (dnE O (corV C d (P + r)) (P + r))]) (by simp [results, Tryz.results34, go_sem, *]) rfl ⟨rfl, ?_⟩
  have hb4 := H7.out
  exact ((hb4.setCell (by simp) _).setCell (by simp) _).setCell (by simp) _

theorem rArrive_any (O C P d r : Int) (w : World) :
    Calls Tryz.prog 34 #[.agg #[.int .i64 O, .int .i64 C, .int .i64 P], .int .i64 d, .int .i64 r] w fun e w' => e = .returned (.tuple #[.agg #[.int .i64 (apV (OkI O C P) (Stamp d ∧ Ratio r) (dnV O (corV C d (P + r)) (P + r) O)), .int .i64 (apV (OkI O C P) (Stamp d ∧ Ratio r) (dnV O (corV C d (P + r)) (P + r) (corV C d (P + r)))), .int .i64 (apV (OkI O C P) (Stamp d ∧ Ratio r) (dnV O (corV C d (P + r)) (P + r) (P + r)))], .int .i64 (apE (OkI O C P) (Stamp d ∧ Ratio r) (dnE O (corV C d (P + r)) (P + r)))]) ∧ Below w.heap.size w w' := by
  unfold apV apE
  by_cases h : OkI O C P
  · rw [if_pos h, if_pos h, if_pos h, if_pos h]
    by_cases k : (Stamp d ∧ Ratio r)
    · rw [if_pos k, if_pos k, if_pos k, if_pos k]; exact rArrive_go O C P d r w h k
    · rw [if_neg k, if_neg k, if_neg k, if_neg k]; exact rArrive_no O C P d r w h k
  · rw [if_neg h, if_neg h, if_neg h, if_neg h]; exact rArrive_bad O C P d r w h

end Go.Proofs.YtkencmijghigiaaGreat
