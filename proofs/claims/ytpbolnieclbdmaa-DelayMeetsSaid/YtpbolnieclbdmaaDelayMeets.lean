/-
  DelayMeets: for every input the law returns true, and its arguments read as before. No conditions.
-/
import Derived.Test.YtpbolnieclbdmaaDelayWorks
import Derived.Test.YtpbolnieclbdmaaDelayRef
import Derived.Test.YtpbolnieclbdmaaDelayMeetRef
import Derived.Test.YtpbolnieclbdmaaOpen12
import Derived.Lib.QuietBelow
import Derived.BigQuiet
namespace Go.Proofs.Ytpbolnieclbdmaa
open Go.RowKit Go.Lib Plain
open Go.ChangeShapes Go.WideShapes Go.ChangeAt

theorem ctrip_0 : ∀ (x0 x1 x2 x3 x4 x5 x6 x7 x8 x9 x10 x11 : Value) (w : World), (Instr.index 42 (.agg #[x0, x1, x2, x3, x4, x5, x6, x7, x8, x9, x10, x11]) (.int .i64 0)).run Try.prog w = .ok (.agg #[x0, x1, x2, x3]) w := fun _ _ _ _ _ _ _ _ _ _ _ _ _ => by kernel_rfl
theorem ctrip_1 : ∀ (x0 x1 x2 x3 x4 x5 x6 x7 x8 x9 x10 x11 : Value) (w : World), (Instr.index 42 (.agg #[x0, x1, x2, x3, x4, x5, x6, x7, x8, x9, x10, x11]) (.int .i64 1)).run Try.prog w = .ok (.agg #[x4, x5, x6, x7]) w := fun _ _ _ _ _ _ _ _ _ _ _ _ _ => by kernel_rfl
theorem ctrip_2 : ∀ (x0 x1 x2 x3 x4 x5 x6 x7 x8 x9 x10 x11 : Value) (w : World), (Instr.index 42 (.agg #[x0, x1, x2, x3, x4, x5, x6, x7, x8, x9, x10, x11]) (.int .i64 2)).run Try.prog w = .ok (.agg #[x8, x9, x10, x11]) w := fun _ _ _ _ _ _ _ _ _ _ _ _ _ => by kernel_rfl
theorem ctrip_any (x0 x1 x2 x3 x4 x5 x6 x7 x8 x9 x10 x11 : Int) (k : Nat) (hk : k < 3) : ∃ p q r s : Int, ∀ W, (Instr.index 42 (.agg #[.int .i64 x0, .int .i64 x1, .int .i64 x2, .int .i64 x3, .int .i64 x4, .int .i64 x5, .int .i64 x6, .int .i64 x7, .int .i64 x8, .int .i64 x9, .int .i64 x10, .int .i64 x11]) (.int .i64 (k : Int))).run Try.prog W = .ok (.agg #[.int .i64 p, .int .i64 q, .int .i64 r, .int .i64 s]) W := by
  rcases (show k = 0 ∨ k = 1 ∨ k = 2 by omega) with rfl | rfl | rfl
  · exact ⟨_, _, _, _, fun W => ctrip_0 _ _ _ _ _ _ _ _ _ _ _ _ W⟩
  · exact ⟨_, _, _, _, fun W => ctrip_1 _ _ _ _ _ _ _ _ _ _ _ _ W⟩
  · exact ⟨_, _, _, _, fun W => ctrip_2 _ _ _ _ _ _ _ _ _ _ _ _ W⟩

set_option maxHeartbeats 4000000 in
set_option maxRecDepth 100000 in
theorem delayMeets_walk (O P O' P' a b a' b' t d u : Int) (w : World) : Calls Try.prog 5 #[.agg #[.int .i64 O, .int .i64 P, .int .i64 O', .int .i64 P'], .agg #[.int .i64 a, .int .i32 b, .int .i64 a', .int .i32 b'], .int .i64 t, .int .i64 d, .int .i64 u] w fun y w' => y = .returned (.bool true) ∧ Below w.heap.size w w' := by
  go_enter Try.func5, Try.ntmps5
  go_wp2_with fail
  refine (works_any _).mono ?_
  rintro e w1 ⟨rfl, hb1⟩
  have c1 : w1.cell? ⟨w.heap.size, 0, none⟩ = some (.int .i64 O) := below_keep hb1 (by simp [go_sem])
  have c2 : w1.cell? ⟨w.heap.size, 1, none⟩ = some (.int .i64 P) := below_keep hb1 (by simp [go_sem])
  have c3 : w1.cell? ⟨w.heap.size, 2, none⟩ = some (.int .i64 O') := below_keep hb1 (by simp [go_sem])
  have c4 : w1.cell? ⟨w.heap.size, 3, none⟩ = some (.int .i64 P') := below_keep hb1 (by simp [go_sem])
  have c5 : w1.cell? ⟨w.heap.size + 1, 0, none⟩ = some (.int .i64 a) := below_keep hb1 (by simp [go_sem])
  have c6 : w1.cell? ⟨w.heap.size + 1, 1, none⟩ = some (.int .i32 b) := below_keep hb1 (by simp [go_sem])
  have c7 : w1.cell? ⟨w.heap.size + 1, 2, none⟩ = some (.int .i64 a') := below_keep hb1 (by simp [go_sem])
  have c8 : w1.cell? ⟨w.heap.size + 1, 3, none⟩ = some (.int .i32 b') := below_keep hb1 (by simp [go_sem])
  have H1 := Lib.hid (below_step (below_alloc (below_alloc (Below.refl _ _) _) _) hb1)
  clear hb1
  go_wp2
  have r0 := fun p : Regrown => cell_regrown c1 p.d p.os
  have r1 := fun p : Regrown => cell_regrown c2 p.d p.os
  have r2 := fun p : Regrown => cell_regrown c3 p.d p.os
  have r3 := fun p : Regrown => cell_regrown c4 p.d p.os
  have r4 := fun p : Regrown => cell_regrown c5 p.d p.os
  have r5 := fun p : Regrown => cell_regrown c6 p.d p.os
  have r6 := fun p : Regrown => cell_regrown c7 p.d p.os
  have r7 := fun p : Regrown => cell_regrown c8 p.d p.os
  refine wp_region_quiet_below (by kernel_rfl) (by kernel_rfl) ?_
  repeat (go_big_quiet_step (first | with_reducible exact Calls.regrown_of (clockDraft_any a b _) | with_reducible exact Calls.regrown_of (clockDraft_any a' b' _)))
  refine wpQuiet_nil ?_
  intro wq hw
  have HQ := Lib.hid (below_step H1.out (show Below w1.heap.size w1 wq by obtain ⟨p, rfl⟩ := hw; exact below_regrown _ _ _))
  clear hw r0 r1 r2 r3 r4 r5 r6 r7 c1 c2 c3 c4 c5 c6 c7 c8 H1
  go_wp2
  generalize a.tmod 1099511627777 = dO
  generalize b.tmod 200001 = dP
  generalize a'.tmod 1099511627777 = dO'
  generalize b'.tmod 200001 = dP'
  go_loopw [34] (fun i wr => ∃ k : Nat, k ≤ 3 ∧ i = .int .i64 k ∧ Below w.heap.size w wr) (fun i _ => 3 - (RowKit.intOf i).toNat)
  case atStart => exact ⟨0, by omega, rfl, HQ.out⟩
  case round =>
    clear HQ
    obtain ⟨k, hk, rfl, hB⟩ := hrel
    have HB := Lib.hid hB
    clear hB
    by_cases hlt : k < 3
    · obtain ⟨p, q, r, s, hi⟩ := ctrip_any O P O' P' dO dP dO' dP' dO dP O' P' k hlt
      by_cases h : OkC p q
      · by_cases h' : OkC r s
        · by_cases h'' : Spn t d u
          · have m1 : Hid (mt1 p q r s t d u = locV p q t) := if_pos ⟨h, h', h''⟩
            have m2 : Hid (mt2 p q r s t d u = locV r s (t + d)) := if_pos ⟨h, h', h''⟩
            have m3 : Hid (mt3 p q r s t d u = locV r s (t + d + u)) := if_pos ⟨h, h', h''⟩
            have m4 : Hid (mt4 p q r s t d u = locV p q (t + 2 * d + u)) := if_pos ⟨h, h', h''⟩
            have m5 : Hid (mtE p q r s t d u = 0) := by show mtE p q r s t d u = 0; unfold mtE; rw [if_pos h, if_pos h', if_pos h'']
            have c1 : okC p q = true := decide_eq_true h
            have c2 : okC r s = true := decide_eq_true h'
            have c3 : spB t d u = true := decide_eq_true h''
            have HC := Lib.hid h
            have HC' := Lib.hid h'
            have HS := Lib.hid h''
            clear h h' h''
            go_wp2_with fail
            refine (meet_any p q r s t d u _).mono ?_
            rw [m1.out, m2.out, m3.out, m4.out, m5.out]
            rintro e w2 ⟨rfl, hb2⟩
            have c11 : w2.cell? ⟨wr.heap.size, 0, none⟩ = some (.int .i64 p) := below_keep hb2 (by simp [go_sem])
            have c12 : w2.cell? ⟨wr.heap.size, 1, none⟩ = some (.int .i64 q) := below_keep hb2 (by simp [go_sem])
            have c13 : w2.cell? ⟨wr.heap.size, 2, none⟩ = some (.int .i64 r) := below_keep hb2 (by simp [go_sem])
            have c14 : w2.cell? ⟨wr.heap.size, 3, none⟩ = some (.int .i64 s) := below_keep hb2 (by simp [go_sem])
            have H2 := Lib.hid (below_step (below_alloc (HB.out) _) hb2)
            clear hb2 HB
            have hz15 : wr.heap.size < w2.heap.size := World.block_lt_of_cell? _ _ c11
            have hz15_1 : wr.heap.size < w2.heap.size + 1 := by omega
            have HG := Lib.hid (show w.heap.size ≤ w2.heap.size from H2.out.size)
            go_wp2_with fail
            refine (clkRight_any p q _).mono ?_
            rintro e w3 ⟨rfl, hb3⟩
            have c16 : w3.cell? ⟨wr.heap.size, 0, none⟩ = some (.int .i64 p) := below_keep hb3 (by rw [World.cell?_alloc_lt _ _ _ (by first | exact World.block_lt_of_cell? _ _ c11 | (have := World.block_lt_of_cell? _ _ c11; simp; omega)), World.cell?_alloc_lt _ _ _ (by first | exact World.block_lt_of_cell? _ _ c11 | (have := World.block_lt_of_cell? _ _ c11; simp; omega))]; exact c11)
            have c17 : w3.cell? ⟨wr.heap.size, 1, none⟩ = some (.int .i64 q) := below_keep hb3 (by rw [World.cell?_alloc_lt _ _ _ (by first | exact World.block_lt_of_cell? _ _ c12 | (have := World.block_lt_of_cell? _ _ c12; simp; omega)), World.cell?_alloc_lt _ _ _ (by first | exact World.block_lt_of_cell? _ _ c12 | (have := World.block_lt_of_cell? _ _ c12; simp; omega))]; exact c12)
            have c18 : w3.cell? ⟨wr.heap.size, 2, none⟩ = some (.int .i64 r) := below_keep hb3 (by rw [World.cell?_alloc_lt _ _ _ (by first | exact World.block_lt_of_cell? _ _ c13 | (have := World.block_lt_of_cell? _ _ c13; simp; omega)), World.cell?_alloc_lt _ _ _ (by first | exact World.block_lt_of_cell? _ _ c13 | (have := World.block_lt_of_cell? _ _ c13; simp; omega))]; exact c13)
            have c19 : w3.cell? ⟨wr.heap.size, 3, none⟩ = some (.int .i64 s) := below_keep hb3 (by rw [World.cell?_alloc_lt _ _ _ (by first | exact World.block_lt_of_cell? _ _ c14 | (have := World.block_lt_of_cell? _ _ c14; simp; omega)), World.cell?_alloc_lt _ _ _ (by first | exact World.block_lt_of_cell? _ _ c14 | (have := World.block_lt_of_cell? _ _ c14; simp; omega))]; exact c14)
            have c20 : w3.cell? ⟨w2.heap.size, 0, none⟩ = some (.int .i64 (locV p q t)) := below_keep hb3 (by simp [go_sem])
            have c21 : w3.cell? ⟨w2.heap.size, 1, none⟩ = some (.int .i64 (locV r s (t + d))) := below_keep hb3 (by simp [go_sem])
            have c22 : w3.cell? ⟨w2.heap.size, 2, none⟩ = some (.int .i64 (locV r s (t + d + u))) := below_keep hb3 (by simp [go_sem])
            have c23 : w3.cell? ⟨w2.heap.size, 3, none⟩ = some (.int .i64 (locV p q (t + 2 * d + u))) := below_keep hb3 (by simp [go_sem])
            have c24 : w3.cell? ⟨w2.heap.size + 1, 0, none⟩ = some (.int .i64 0) := below_keep hb3 (by simp [go_sem])
            have c25 : w3.cell? ⟨w2.heap.size + 1, 1, none⟩ = some (.int .i64 0) := below_keep hb3 (by simp [go_sem])
            have c26 : w3.cell? ⟨w2.heap.size + 1, 2, none⟩ = some (.int .i64 0) := below_keep hb3 (by simp [go_sem])
            have c27 : w3.cell? ⟨w2.heap.size + 1, 3, none⟩ = some (.int .i64 0) := below_keep hb3 (by simp [go_sem])
            have c28 : ∀ o, w3.frozen? ⟨w2.heap.size + 1, o, none⟩ = false := fun o => by rw [(bcell hb3).2 _ _ (by simp)]; simp [go_sem]
            have H3 := Lib.hid (below_step (below_alloc (below_alloc (H2.out) _) _) hb3)
            clear hb3 c11 c12 c13 c14 H2 hz15 hz15_1
            go_wp2_with fail
            refine (clkRight_any r s _).mono ?_
            rintro e w4 ⟨rfl, hb4⟩
            have c29 : w4.cell? ⟨wr.heap.size, 0, none⟩ = some (.int .i64 p) := below_keep hb4 (c16)
            have c30 : w4.cell? ⟨wr.heap.size, 1, none⟩ = some (.int .i64 q) := below_keep hb4 (c17)
            have c31 : w4.cell? ⟨wr.heap.size, 2, none⟩ = some (.int .i64 r) := below_keep hb4 (c18)
            have c32 : w4.cell? ⟨wr.heap.size, 3, none⟩ = some (.int .i64 s) := below_keep hb4 (c19)
            have c33 : w4.cell? ⟨w2.heap.size, 0, none⟩ = some (.int .i64 (locV p q t)) := below_keep hb4 (c20)
            have c34 : w4.cell? ⟨w2.heap.size, 1, none⟩ = some (.int .i64 (locV r s (t + d))) := below_keep hb4 (c21)
            have c35 : w4.cell? ⟨w2.heap.size, 2, none⟩ = some (.int .i64 (locV r s (t + d + u))) := below_keep hb4 (c22)
            have c36 : w4.cell? ⟨w2.heap.size, 3, none⟩ = some (.int .i64 (locV p q (t + 2 * d + u))) := below_keep hb4 (c23)
            have c37 : w4.cell? ⟨w2.heap.size + 1, 0, none⟩ = some (.int .i64 0) := below_keep hb4 (c24)
            have c38 : w4.cell? ⟨w2.heap.size + 1, 1, none⟩ = some (.int .i64 0) := below_keep hb4 (c25)
            have c39 : w4.cell? ⟨w2.heap.size + 1, 2, none⟩ = some (.int .i64 0) := below_keep hb4 (c26)
            have c40 : w4.cell? ⟨w2.heap.size + 1, 3, none⟩ = some (.int .i64 0) := below_keep hb4 (c27)
            have c41 : ∀ o, w4.frozen? ⟨w2.heap.size + 1, o, none⟩ = false := fun o => ((bcell hb4).2 _ _ (World.block_lt_of_cell? _ _ c24)).trans (c28 o)
            have H4 := Lib.hid (below_step (H3.out) hb4)
            clear hb4 c16 c17 c18 c19 c20 c21 c22 c23 c24 c25 c26 c27 c28 H3
            go_wp2_with fail
            refine (timed_any t d u _).mono ?_
            rintro e w' ⟨rfl, rfl⟩
            go_wp2_with fail
            refine (meetRef_any p q r s t d u HC.out HC'.out HS.out _).mono ?_
            rintro e w5 ⟨rfl, hb5⟩
            have c42 : w5.cell? ⟨wr.heap.size, 0, none⟩ = some (.int .i64 p) := below_keep hb5 (c29)
            have c43 : w5.cell? ⟨wr.heap.size, 1, none⟩ = some (.int .i64 q) := below_keep hb5 (c30)
            have c44 : w5.cell? ⟨wr.heap.size, 2, none⟩ = some (.int .i64 r) := below_keep hb5 (c31)
            have c45 : w5.cell? ⟨wr.heap.size, 3, none⟩ = some (.int .i64 s) := below_keep hb5 (c32)
            have c46 : w5.cell? ⟨w2.heap.size, 0, none⟩ = some (.int .i64 (locV p q t)) := below_keep hb5 (c33)
            have c47 : w5.cell? ⟨w2.heap.size, 1, none⟩ = some (.int .i64 (locV r s (t + d))) := below_keep hb5 (c34)
            have c48 : w5.cell? ⟨w2.heap.size, 2, none⟩ = some (.int .i64 (locV r s (t + d + u))) := below_keep hb5 (c35)
            have c49 : w5.cell? ⟨w2.heap.size, 3, none⟩ = some (.int .i64 (locV p q (t + 2 * d + u))) := below_keep hb5 (c36)
            have c50 : w5.cell? ⟨w2.heap.size + 1, 0, none⟩ = some (.int .i64 0) := below_keep hb5 (c37)
            have c51 : w5.cell? ⟨w2.heap.size + 1, 1, none⟩ = some (.int .i64 0) := below_keep hb5 (c38)
            have c52 : w5.cell? ⟨w2.heap.size + 1, 2, none⟩ = some (.int .i64 0) := below_keep hb5 (c39)
            have c53 : w5.cell? ⟨w2.heap.size + 1, 3, none⟩ = some (.int .i64 0) := below_keep hb5 (c40)
            have c54 : ∀ o, w5.frozen? ⟨w2.heap.size + 1, o, none⟩ = false := fun o => ((bcell hb5).2 _ _ (World.block_lt_of_cell? _ _ c37)).trans (c41 o)
            have H5 := Lib.hid (below_step (H4.out) hb5)
            clear hb5 c29 c30 c31 c32 c33 c34 c35 c36 c37 c38 c39 c40 c41 H4
            have hg : w.heap.size ≤ w2.heap.size + 1 := by have := HG.out; omega
            go_wp2
            go_roundw
            case rel => exact ⟨k + 1, by omega, by go_num, ((((H5.out).setCell hg _).setCell hg _).setCell hg _).setCell hg _⟩
            case measure => simp [RowKit.intOf]; omega
          · have m1 : Hid (mt1 p q r s t d u = 0) := if_neg (fun x => h'' x.2.2)
            have m2 : Hid (mt2 p q r s t d u = 0) := if_neg (fun x => h'' x.2.2)
            have m3 : Hid (mt3 p q r s t d u = 0) := if_neg (fun x => h'' x.2.2)
            have m4 : Hid (mt4 p q r s t d u = 0) := if_neg (fun x => h'' x.2.2)
            have m5 : Hid (mtE p q r s t d u = 2) := by show mtE p q r s t d u = 2; unfold mtE; rw [if_pos h, if_pos h', if_neg h'']
            have c1 : okC p q = true := decide_eq_true h
            have c2 : okC r s = true := decide_eq_true h'
            have c3 : spB t d u = false := decide_eq_false h''
            clear h h' h''
            go_wp2_with fail
            refine (meet_any p q r s t d u _).mono ?_
            rw [m1.out, m2.out, m3.out, m4.out, m5.out]
            rintro e w2 ⟨rfl, hb2⟩
            have c11 : w2.cell? ⟨wr.heap.size, 0, none⟩ = some (.int .i64 p) := below_keep hb2 (by simp [go_sem])
            have c12 : w2.cell? ⟨wr.heap.size, 1, none⟩ = some (.int .i64 q) := below_keep hb2 (by simp [go_sem])
            have c13 : w2.cell? ⟨wr.heap.size, 2, none⟩ = some (.int .i64 r) := below_keep hb2 (by simp [go_sem])
            have c14 : w2.cell? ⟨wr.heap.size, 3, none⟩ = some (.int .i64 s) := below_keep hb2 (by simp [go_sem])
            have H2 := Lib.hid (below_step (below_alloc (HB.out) _) hb2)
            clear hb2 HB
            have hz15 : wr.heap.size < w2.heap.size := World.block_lt_of_cell? _ _ c11
            have hz15_1 : wr.heap.size < w2.heap.size + 1 := by omega
            go_wp2_with fail
            refine (clkRight_any p q _).mono ?_
            rintro e w3 ⟨rfl, hb3⟩
            have c16 : w3.cell? ⟨wr.heap.size, 0, none⟩ = some (.int .i64 p) := below_keep hb3 (by rw [World.cell?_alloc_lt _ _ _ (by first | exact World.block_lt_of_cell? _ _ c11 | (have := World.block_lt_of_cell? _ _ c11; simp; omega)), World.cell?_alloc_lt _ _ _ (by first | exact World.block_lt_of_cell? _ _ c11 | (have := World.block_lt_of_cell? _ _ c11; simp; omega))]; exact c11)
            have c17 : w3.cell? ⟨wr.heap.size, 1, none⟩ = some (.int .i64 q) := below_keep hb3 (by rw [World.cell?_alloc_lt _ _ _ (by first | exact World.block_lt_of_cell? _ _ c12 | (have := World.block_lt_of_cell? _ _ c12; simp; omega)), World.cell?_alloc_lt _ _ _ (by first | exact World.block_lt_of_cell? _ _ c12 | (have := World.block_lt_of_cell? _ _ c12; simp; omega))]; exact c12)
            have c18 : w3.cell? ⟨wr.heap.size, 2, none⟩ = some (.int .i64 r) := below_keep hb3 (by rw [World.cell?_alloc_lt _ _ _ (by first | exact World.block_lt_of_cell? _ _ c13 | (have := World.block_lt_of_cell? _ _ c13; simp; omega)), World.cell?_alloc_lt _ _ _ (by first | exact World.block_lt_of_cell? _ _ c13 | (have := World.block_lt_of_cell? _ _ c13; simp; omega))]; exact c13)
            have c19 : w3.cell? ⟨wr.heap.size, 3, none⟩ = some (.int .i64 s) := below_keep hb3 (by rw [World.cell?_alloc_lt _ _ _ (by first | exact World.block_lt_of_cell? _ _ c14 | (have := World.block_lt_of_cell? _ _ c14; simp; omega)), World.cell?_alloc_lt _ _ _ (by first | exact World.block_lt_of_cell? _ _ c14 | (have := World.block_lt_of_cell? _ _ c14; simp; omega))]; exact c14)
            have c20 : w3.cell? ⟨w2.heap.size, 0, none⟩ = some (.int .i64 (0)) := below_keep hb3 (by simp [go_sem])
            have c21 : w3.cell? ⟨w2.heap.size, 1, none⟩ = some (.int .i64 (0)) := below_keep hb3 (by simp [go_sem])
            have c22 : w3.cell? ⟨w2.heap.size, 2, none⟩ = some (.int .i64 (0)) := below_keep hb3 (by simp [go_sem])
            have c23 : w3.cell? ⟨w2.heap.size, 3, none⟩ = some (.int .i64 (0)) := below_keep hb3 (by simp [go_sem])
            have c24 : w3.cell? ⟨w2.heap.size + 1, 0, none⟩ = some (.int .i64 0) := below_keep hb3 (by simp [go_sem])
            have c25 : w3.cell? ⟨w2.heap.size + 1, 1, none⟩ = some (.int .i64 0) := below_keep hb3 (by simp [go_sem])
            have c26 : w3.cell? ⟨w2.heap.size + 1, 2, none⟩ = some (.int .i64 0) := below_keep hb3 (by simp [go_sem])
            have c27 : w3.cell? ⟨w2.heap.size + 1, 3, none⟩ = some (.int .i64 0) := below_keep hb3 (by simp [go_sem])
            have c28 : ∀ o, w3.frozen? ⟨w2.heap.size + 1, o, none⟩ = false := fun o => by rw [(bcell hb3).2 _ _ (by simp)]; simp [go_sem]
            have H3 := Lib.hid (below_step (below_alloc (below_alloc (H2.out) _) _) hb3)
            clear hb3 c11 c12 c13 c14 H2 hz15 hz15_1
            go_wp2_with fail
            refine (clkRight_any r s _).mono ?_
            rintro e w4 ⟨rfl, hb4⟩
            have c29 : w4.cell? ⟨wr.heap.size, 0, none⟩ = some (.int .i64 p) := below_keep hb4 (c16)
            have c30 : w4.cell? ⟨wr.heap.size, 1, none⟩ = some (.int .i64 q) := below_keep hb4 (c17)
            have c31 : w4.cell? ⟨wr.heap.size, 2, none⟩ = some (.int .i64 r) := below_keep hb4 (c18)
            have c32 : w4.cell? ⟨wr.heap.size, 3, none⟩ = some (.int .i64 s) := below_keep hb4 (c19)
            have c33 : w4.cell? ⟨w2.heap.size, 0, none⟩ = some (.int .i64 (0)) := below_keep hb4 (c20)
            have c34 : w4.cell? ⟨w2.heap.size, 1, none⟩ = some (.int .i64 (0)) := below_keep hb4 (c21)
            have c35 : w4.cell? ⟨w2.heap.size, 2, none⟩ = some (.int .i64 (0)) := below_keep hb4 (c22)
            have c36 : w4.cell? ⟨w2.heap.size, 3, none⟩ = some (.int .i64 (0)) := below_keep hb4 (c23)
            have c37 : w4.cell? ⟨w2.heap.size + 1, 0, none⟩ = some (.int .i64 0) := below_keep hb4 (c24)
            have c38 : w4.cell? ⟨w2.heap.size + 1, 1, none⟩ = some (.int .i64 0) := below_keep hb4 (c25)
            have c39 : w4.cell? ⟨w2.heap.size + 1, 2, none⟩ = some (.int .i64 0) := below_keep hb4 (c26)
            have c40 : w4.cell? ⟨w2.heap.size + 1, 3, none⟩ = some (.int .i64 0) := below_keep hb4 (c27)
            have c41 : ∀ o, w4.frozen? ⟨w2.heap.size + 1, o, none⟩ = false := fun o => ((bcell hb4).2 _ _ (World.block_lt_of_cell? _ _ c24)).trans (c28 o)
            have H4 := Lib.hid (below_step (H3.out) hb4)
            clear hb4 c16 c17 c18 c19 c20 c21 c22 c23 c24 c25 c26 c27 c28 H3
            go_wp2_with fail
            refine (timed_any t d u _).mono ?_
            rintro e w' ⟨rfl, rfl⟩
            go_wp2
            go_roundw
            case rel => exact ⟨k + 1, by omega, by go_num, H4.out⟩
            case measure => simp [RowKit.intOf]; omega
        · have m1 : Hid (mt1 p q r s t d u = 0) := if_neg (fun x => h' x.2.1)
          have m2 : Hid (mt2 p q r s t d u = 0) := if_neg (fun x => h' x.2.1)
          have m3 : Hid (mt3 p q r s t d u = 0) := if_neg (fun x => h' x.2.1)
          have m4 : Hid (mt4 p q r s t d u = 0) := if_neg (fun x => h' x.2.1)
          have m5 : Hid (mtE p q r s t d u = 190) := by show mtE p q r s t d u = 190; unfold mtE; rw [if_pos h, if_neg h']
          have c1 : okC p q = true := decide_eq_true h
          have c2 : okC r s = false := decide_eq_false h'
          clear h h'
          go_wp2_with fail
          refine (meet_any p q r s t d u _).mono ?_
          rw [m1.out, m2.out, m3.out, m4.out, m5.out]
          rintro e w2 ⟨rfl, hb2⟩
          have c11 : w2.cell? ⟨wr.heap.size, 0, none⟩ = some (.int .i64 p) := below_keep hb2 (by simp [go_sem])
          have c12 : w2.cell? ⟨wr.heap.size, 1, none⟩ = some (.int .i64 q) := below_keep hb2 (by simp [go_sem])
          have c13 : w2.cell? ⟨wr.heap.size, 2, none⟩ = some (.int .i64 r) := below_keep hb2 (by simp [go_sem])
          have c14 : w2.cell? ⟨wr.heap.size, 3, none⟩ = some (.int .i64 s) := below_keep hb2 (by simp [go_sem])
          have H2 := Lib.hid (below_step (below_alloc (HB.out) _) hb2)
          clear hb2 HB
          have hz15 : wr.heap.size < w2.heap.size := World.block_lt_of_cell? _ _ c11
          have hz15_1 : wr.heap.size < w2.heap.size + 1 := by omega
          go_wp2_with fail
          refine (clkRight_any p q _).mono ?_
          rintro e w3 ⟨rfl, hb3⟩
          have c16 : w3.cell? ⟨wr.heap.size, 0, none⟩ = some (.int .i64 p) := below_keep hb3 (by rw [World.cell?_alloc_lt _ _ _ (by first | exact World.block_lt_of_cell? _ _ c11 | (have := World.block_lt_of_cell? _ _ c11; simp; omega)), World.cell?_alloc_lt _ _ _ (by first | exact World.block_lt_of_cell? _ _ c11 | (have := World.block_lt_of_cell? _ _ c11; simp; omega))]; exact c11)
          have c17 : w3.cell? ⟨wr.heap.size, 1, none⟩ = some (.int .i64 q) := below_keep hb3 (by rw [World.cell?_alloc_lt _ _ _ (by first | exact World.block_lt_of_cell? _ _ c12 | (have := World.block_lt_of_cell? _ _ c12; simp; omega)), World.cell?_alloc_lt _ _ _ (by first | exact World.block_lt_of_cell? _ _ c12 | (have := World.block_lt_of_cell? _ _ c12; simp; omega))]; exact c12)
          have c18 : w3.cell? ⟨wr.heap.size, 2, none⟩ = some (.int .i64 r) := below_keep hb3 (by rw [World.cell?_alloc_lt _ _ _ (by first | exact World.block_lt_of_cell? _ _ c13 | (have := World.block_lt_of_cell? _ _ c13; simp; omega)), World.cell?_alloc_lt _ _ _ (by first | exact World.block_lt_of_cell? _ _ c13 | (have := World.block_lt_of_cell? _ _ c13; simp; omega))]; exact c13)
          have c19 : w3.cell? ⟨wr.heap.size, 3, none⟩ = some (.int .i64 s) := below_keep hb3 (by rw [World.cell?_alloc_lt _ _ _ (by first | exact World.block_lt_of_cell? _ _ c14 | (have := World.block_lt_of_cell? _ _ c14; simp; omega)), World.cell?_alloc_lt _ _ _ (by first | exact World.block_lt_of_cell? _ _ c14 | (have := World.block_lt_of_cell? _ _ c14; simp; omega))]; exact c14)
          have c20 : w3.cell? ⟨w2.heap.size, 0, none⟩ = some (.int .i64 (0)) := below_keep hb3 (by simp [go_sem])
          have c21 : w3.cell? ⟨w2.heap.size, 1, none⟩ = some (.int .i64 (0)) := below_keep hb3 (by simp [go_sem])
          have c22 : w3.cell? ⟨w2.heap.size, 2, none⟩ = some (.int .i64 (0)) := below_keep hb3 (by simp [go_sem])
          have c23 : w3.cell? ⟨w2.heap.size, 3, none⟩ = some (.int .i64 (0)) := below_keep hb3 (by simp [go_sem])
          have c24 : w3.cell? ⟨w2.heap.size + 1, 0, none⟩ = some (.int .i64 0) := below_keep hb3 (by simp [go_sem])
          have c25 : w3.cell? ⟨w2.heap.size + 1, 1, none⟩ = some (.int .i64 0) := below_keep hb3 (by simp [go_sem])
          have c26 : w3.cell? ⟨w2.heap.size + 1, 2, none⟩ = some (.int .i64 0) := below_keep hb3 (by simp [go_sem])
          have c27 : w3.cell? ⟨w2.heap.size + 1, 3, none⟩ = some (.int .i64 0) := below_keep hb3 (by simp [go_sem])
          have c28 : ∀ o, w3.frozen? ⟨w2.heap.size + 1, o, none⟩ = false := fun o => by rw [(bcell hb3).2 _ _ (by simp)]; simp [go_sem]
          have H3 := Lib.hid (below_step (below_alloc (below_alloc (H2.out) _) _) hb3)
          clear hb3 c11 c12 c13 c14 H2 hz15 hz15_1
          go_wp2_with fail
          refine (clkRight_any r s _).mono ?_
          rintro e w4 ⟨rfl, hb4⟩
          have c29 : w4.cell? ⟨wr.heap.size, 0, none⟩ = some (.int .i64 p) := below_keep hb4 (c16)
          have c30 : w4.cell? ⟨wr.heap.size, 1, none⟩ = some (.int .i64 q) := below_keep hb4 (c17)
          have c31 : w4.cell? ⟨wr.heap.size, 2, none⟩ = some (.int .i64 r) := below_keep hb4 (c18)
          have c32 : w4.cell? ⟨wr.heap.size, 3, none⟩ = some (.int .i64 s) := below_keep hb4 (c19)
          have c33 : w4.cell? ⟨w2.heap.size, 0, none⟩ = some (.int .i64 (0)) := below_keep hb4 (c20)
          have c34 : w4.cell? ⟨w2.heap.size, 1, none⟩ = some (.int .i64 (0)) := below_keep hb4 (c21)
          have c35 : w4.cell? ⟨w2.heap.size, 2, none⟩ = some (.int .i64 (0)) := below_keep hb4 (c22)
          have c36 : w4.cell? ⟨w2.heap.size, 3, none⟩ = some (.int .i64 (0)) := below_keep hb4 (c23)
          have c37 : w4.cell? ⟨w2.heap.size + 1, 0, none⟩ = some (.int .i64 0) := below_keep hb4 (c24)
          have c38 : w4.cell? ⟨w2.heap.size + 1, 1, none⟩ = some (.int .i64 0) := below_keep hb4 (c25)
          have c39 : w4.cell? ⟨w2.heap.size + 1, 2, none⟩ = some (.int .i64 0) := below_keep hb4 (c26)
          have c40 : w4.cell? ⟨w2.heap.size + 1, 3, none⟩ = some (.int .i64 0) := below_keep hb4 (c27)
          have c41 : ∀ o, w4.frozen? ⟨w2.heap.size + 1, o, none⟩ = false := fun o => ((bcell hb4).2 _ _ (World.block_lt_of_cell? _ _ c24)).trans (c28 o)
          have H4 := Lib.hid (below_step (H3.out) hb4)
          clear hb4 c16 c17 c18 c19 c20 c21 c22 c23 c24 c25 c26 c27 c28 H3
          go_wp2
          go_roundw
          case rel => exact ⟨k + 1, by omega, by go_num, H4.out⟩
          case measure => simp [RowKit.intOf]; omega
      · have m1 : Hid (mt1 p q r s t d u = 0) := if_neg (fun x => h x.1)
        have m2 : Hid (mt2 p q r s t d u = 0) := if_neg (fun x => h x.1)
        have m3 : Hid (mt3 p q r s t d u = 0) := if_neg (fun x => h x.1)
        have m4 : Hid (mt4 p q r s t d u = 0) := if_neg (fun x => h x.1)
        have m5 : Hid (mtE p q r s t d u = 190) := if_neg h
        have c1 : okC p q = false := decide_eq_false h
        clear h
        go_wp2_with fail
        refine (meet_any p q r s t d u _).mono ?_
        rw [m1.out, m2.out, m3.out, m4.out, m5.out]
        rintro e w2 ⟨rfl, hb2⟩
        have c11 : w2.cell? ⟨wr.heap.size, 0, none⟩ = some (.int .i64 p) := below_keep hb2 (by simp [go_sem])
        have c12 : w2.cell? ⟨wr.heap.size, 1, none⟩ = some (.int .i64 q) := below_keep hb2 (by simp [go_sem])
        have c13 : w2.cell? ⟨wr.heap.size, 2, none⟩ = some (.int .i64 r) := below_keep hb2 (by simp [go_sem])
        have c14 : w2.cell? ⟨wr.heap.size, 3, none⟩ = some (.int .i64 s) := below_keep hb2 (by simp [go_sem])
        have H2 := Lib.hid (below_step (below_alloc (HB.out) _) hb2)
        clear hb2 HB
        have hz15 : wr.heap.size < w2.heap.size := World.block_lt_of_cell? _ _ c11
        have hz15_1 : wr.heap.size < w2.heap.size + 1 := by omega
        go_wp2_with fail
        refine (clkRight_any p q _).mono ?_
        rintro e w3 ⟨rfl, hb3⟩
        have c16 : w3.cell? ⟨wr.heap.size, 0, none⟩ = some (.int .i64 p) := below_keep hb3 (by rw [World.cell?_alloc_lt _ _ _ (by first | exact World.block_lt_of_cell? _ _ c11 | (have := World.block_lt_of_cell? _ _ c11; simp; omega)), World.cell?_alloc_lt _ _ _ (by first | exact World.block_lt_of_cell? _ _ c11 | (have := World.block_lt_of_cell? _ _ c11; simp; omega))]; exact c11)
        have c17 : w3.cell? ⟨wr.heap.size, 1, none⟩ = some (.int .i64 q) := below_keep hb3 (by rw [World.cell?_alloc_lt _ _ _ (by first | exact World.block_lt_of_cell? _ _ c12 | (have := World.block_lt_of_cell? _ _ c12; simp; omega)), World.cell?_alloc_lt _ _ _ (by first | exact World.block_lt_of_cell? _ _ c12 | (have := World.block_lt_of_cell? _ _ c12; simp; omega))]; exact c12)
        have c18 : w3.cell? ⟨wr.heap.size, 2, none⟩ = some (.int .i64 r) := below_keep hb3 (by rw [World.cell?_alloc_lt _ _ _ (by first | exact World.block_lt_of_cell? _ _ c13 | (have := World.block_lt_of_cell? _ _ c13; simp; omega)), World.cell?_alloc_lt _ _ _ (by first | exact World.block_lt_of_cell? _ _ c13 | (have := World.block_lt_of_cell? _ _ c13; simp; omega))]; exact c13)
        have c19 : w3.cell? ⟨wr.heap.size, 3, none⟩ = some (.int .i64 s) := below_keep hb3 (by rw [World.cell?_alloc_lt _ _ _ (by first | exact World.block_lt_of_cell? _ _ c14 | (have := World.block_lt_of_cell? _ _ c14; simp; omega)), World.cell?_alloc_lt _ _ _ (by first | exact World.block_lt_of_cell? _ _ c14 | (have := World.block_lt_of_cell? _ _ c14; simp; omega))]; exact c14)
        have c20 : w3.cell? ⟨w2.heap.size, 0, none⟩ = some (.int .i64 (0)) := below_keep hb3 (by simp [go_sem])
        have c21 : w3.cell? ⟨w2.heap.size, 1, none⟩ = some (.int .i64 (0)) := below_keep hb3 (by simp [go_sem])
        have c22 : w3.cell? ⟨w2.heap.size, 2, none⟩ = some (.int .i64 (0)) := below_keep hb3 (by simp [go_sem])
        have c23 : w3.cell? ⟨w2.heap.size, 3, none⟩ = some (.int .i64 (0)) := below_keep hb3 (by simp [go_sem])
        have c24 : w3.cell? ⟨w2.heap.size + 1, 0, none⟩ = some (.int .i64 0) := below_keep hb3 (by simp [go_sem])
        have c25 : w3.cell? ⟨w2.heap.size + 1, 1, none⟩ = some (.int .i64 0) := below_keep hb3 (by simp [go_sem])
        have c26 : w3.cell? ⟨w2.heap.size + 1, 2, none⟩ = some (.int .i64 0) := below_keep hb3 (by simp [go_sem])
        have c27 : w3.cell? ⟨w2.heap.size + 1, 3, none⟩ = some (.int .i64 0) := below_keep hb3 (by simp [go_sem])
        have c28 : ∀ o, w3.frozen? ⟨w2.heap.size + 1, o, none⟩ = false := fun o => by rw [(bcell hb3).2 _ _ (by simp)]; simp [go_sem]
        have H3 := Lib.hid (below_step (below_alloc (below_alloc (H2.out) _) _) hb3)
        clear hb3 c11 c12 c13 c14 H2 hz15 hz15_1
        go_wp2
        go_roundw
        case rel => exact ⟨k + 1, by omega, by go_num, H3.out⟩
        case measure => simp [RowKit.intOf]; omega
    · go_wp2
      go_ret
      exact ⟨rfl, HB.out⟩

set_option maxRecDepth 100000 in
theorem delayMeets_lifted (os : Os) (started : os.Started) (H : Type) (enc : TypeId × Value → H) :
    ReturnsInHanded {} Try.checked os 5 .any (Rows.delayMeetsSpec.pre6 enc Try.prog Try.f5 [] false) (Rows.delayMeetsSpec.post enc Try.prog Try.f5 false true false false) := by
  refine law_lifted started Try.func5 (by kernel_rfl)
    (ChangeSpec.witness6 (enc := enc) (C := Try.checked) false ⟨#[], #[.agg #[.int .i64 0, .int .i64 0, .int .i64 0, .int .i64 0], .agg #[.int .i64 0, .int .i32 0, .int .i64 0, .int .i32 0], .int .i64 0, .int .i64 0, .int .i64 0], []⟩ 8 (by kernel_rfl) (by kernel_rfl) (by kernel_rfl) (by kernel_rfl))
    rfl (by kernel_rfl) (by kernel_rfl) (fun ds hd => ?_) ?_
  · rw [Try.params5] at hd
    match ds, hd with
    | [_, _, _, _, _], _ => exact ⟨rfl, rfl, rfl⟩
  · intro W base args ds p hval hA
    rw [Try.params5] at hA hval
    obtain ⟨v0, vs0, d0, ds0, p0, q0, ha0, rfl, rfl, h0, r0⟩ := trodAll_cons hA
    obtain ⟨v1, vs1, d1, ds1, p1, q1, ha1, rfl, rfl, h1, r1⟩ := trodAll_cons r0
    obtain ⟨v2, vs2, d2, ds2, p2, q2, ha2, rfl, rfl, h2, r2⟩ := trodAll_cons r1
    obtain ⟨v3, vs3, d3, ds3, p3, q3, ha3, rfl, rfl, h3, r3⟩ := trodAll_cons r2
    obtain ⟨v4, vs4, d4, ds4, p4, q4, ha4, rfl, rfl, h4, r4⟩ := trodAll_cons r3
    obtain ⟨hz, rfl, rfl⟩ := trodAll_nil r4
    obtain rfl : args = #[v0, v1, v2, v3, v4] := by
      subst hz
      subst ha4
      subst ha3
      subst ha2
      subst ha1
      cases args; simpa using ha0
    obtain ⟨x0_0, x0_1, x0_2, x0_3, rfl⟩ := open_clocks2 (hval 0 37 v0 rfl rfl) h0
    obtain ⟨x1_0, x1_1, x1_2, x1_3, rfl⟩ := open_draft09s (hval 1 40 v1 rfl rfl) h1
    obtain ⟨x2, rfl, rfl, rfl, w2⟩ := open_int Try.underlying3 (hval 2 3 v2 rfl rfl) h2
    obtain ⟨x3, rfl, rfl, rfl, w3⟩ := open_int Try.underlying3 (hval 3 3 v3 rfl rfl) h3
    obtain ⟨x4, rfl, rfl, rfl, w4⟩ := open_int Try.underlying3 (hval 4 3 v4 rfl rfl) h4
    exact delayMeets_walk x0_0 x0_1 x0_2 x0_3 x1_0 x1_1 x1_2 x1_3 x2 x3 x4 W

theorem delayMeets_holds : Rows.DelayMeetsSaid :=
  OpenClaim.holds_of_wide 5 Try.f5 rfl rfl rfl rfl rfl rfl rfl ⟨rfl, rfl, rfl, rfl, rfl⟩ rfl rfl rfl rfl rfl (by kernel_rfl) Try.func5 (by kernel_rfl)
    (of_decide_eq_true (by kernel_rfl)) (by unfold Func.isWrapper; first | (rw [if_pos (by decide +kernel)]; kernel_rfl) | (rw [if_neg (by decide +kernel)]; exact ⟨rfl, rfl⟩))
    (fun os started H enc _ => delayMeets_lifted os started H enc)
#print axioms delayMeets_holds

end Go.Proofs.Ytpbolnieclbdmaa
