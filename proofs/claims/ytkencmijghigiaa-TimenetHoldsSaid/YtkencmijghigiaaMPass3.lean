/-
  The walks of pass.apply at its four callers.
-/
import Derived.Test.YtkencmijghigiaaMPass2
namespace Go.Proofs.Ytkencmijghigiaa
open Go.RowKit Go.Lib Plain

set_option maxHeartbeats 2000000 in
set_option maxRecDepth 100000 in
theorem apArrive_bad (O C P : Int) (al : Bool) (c0 c1 c2 : Nat) (w : World) (h : ¬ OkI O C P) :
    Calls Try.prog 80 #[.agg #[.int .i64 O, .int .i64 C, .int .i64 P], .bool al, .func (.func 85) #[] #[.pointer (some ⟨c0, 0, none⟩), .pointer (some ⟨c1, 0, none⟩), .pointer (some ⟨c2, 0, none⟩)]] w fun e w' => e = .returned (.tuple #[.agg #[.int .i64 0, .int .i64 0, .int .i64 0], .int .i64 240]) ∧ Below w.heap.size w w' := by
  have k := Lib.hid (show infV O C P = 240 from if_neg h)
  clear h
  go_enter Try.func80, Try.ntmps80
  go_wp2_with fail
  refine (pCheck_any O C P _).mono ?_
  rw [k.out]
  rintro e w1 ⟨rfl, hb1⟩
  have c1 : w1.cell? ⟨w.heap.size + 1, 0, none⟩ = some (.int .i64 0) := below_keep hb1 (by simp [go_sem])
  have c2 : w1.cell? ⟨w.heap.size + 1, 1, none⟩ = some (.int .i64 0) := below_keep hb1 (by simp [go_sem])
  have c3 : w1.cell? ⟨w.heap.size + 1, 2, none⟩ = some (.int .i64 0) := below_keep hb1 (by simp [go_sem])
  have c4 : ∀ o, w1.frozen? ⟨w.heap.size + 1, o, none⟩ = false := fun o => by rw [(bcell hb1).2 _ _ (by first | (simp; done) | (simp; omega))]; simp [go_sem]
  have c5 : w1.cell? ⟨w.heap.size + 2, 0, none⟩ = some (.int .i64 0) := below_keep hb1 (by simp [go_sem])
  have c6 : w1.cell? ⟨w.heap.size + 2, 1, none⟩ = some (.int .i64 0) := below_keep hb1 (by simp [go_sem])
  have c7 : w1.cell? ⟨w.heap.size + 2, 2, none⟩ = some (.int .i64 0) := below_keep hb1 (by simp [go_sem])
  have H1 := Lib.hid (below_step (below_alloc (below_alloc (below_alloc (Below.refl _ _) _) _) _) hb1)
  clear hb1
  go_wp2
  refine bodyPost_ret (v := .tuple #[.agg #[.int .i64 0, .int .i64 0, .int .i64 0], .int .i64 240]) (by simp [results, Try.results80, go_sem, *]) rfl ⟨rfl, ?_⟩
  have hb4 := H1.out
  exact ((hb4.setCell (by simp) _).setCell (by simp) _).setCell (by simp) _

set_option maxHeartbeats 2000000 in
set_option maxRecDepth 100000 in
theorem apArrive_no (O C P : Int) (c0 c1 c2 : Nat) (w : World) (h : OkI O C P) :
    Calls Try.prog 80 #[.agg #[.int .i64 O, .int .i64 C, .int .i64 P], .bool false, .func (.func 85) #[] #[.pointer (some ⟨c0, 0, none⟩), .pointer (some ⟨c1, 0, none⟩), .pointer (some ⟨c2, 0, none⟩)]] w fun e w' => e = .returned (.tuple #[.agg #[.int .i64 0, .int .i64 0, .int .i64 0], .int .i64 2]) ∧ Below w.heap.size w w' := by
  have k := Lib.hid (show infV O C P = 0 from if_pos h)
  clear h
  go_enter Try.func80, Try.ntmps80
  go_wp2_with fail
  refine (pCheck_any O C P _).mono ?_
  rw [k.out]
  rintro e w1 ⟨rfl, hb1⟩
  have c1 : w1.cell? ⟨w.heap.size + 1, 0, none⟩ = some (.int .i64 0) := below_keep hb1 (by simp [go_sem])
  have c2 : w1.cell? ⟨w.heap.size + 1, 1, none⟩ = some (.int .i64 0) := below_keep hb1 (by simp [go_sem])
  have c3 : w1.cell? ⟨w.heap.size + 1, 2, none⟩ = some (.int .i64 0) := below_keep hb1 (by simp [go_sem])
  have c4 : ∀ o, w1.frozen? ⟨w.heap.size + 1, o, none⟩ = false := fun o => by rw [(bcell hb1).2 _ _ (by first | (simp; done) | (simp; omega))]; simp [go_sem]
  have c5 : w1.cell? ⟨w.heap.size + 2, 0, none⟩ = some (.int .i64 0) := below_keep hb1 (by simp [go_sem])
  have c6 : w1.cell? ⟨w.heap.size + 2, 1, none⟩ = some (.int .i64 0) := below_keep hb1 (by simp [go_sem])
  have c7 : w1.cell? ⟨w.heap.size + 2, 2, none⟩ = some (.int .i64 0) := below_keep hb1 (by simp [go_sem])
  have H1 := Lib.hid (below_step (below_alloc (below_alloc (below_alloc (Below.refl _ _) _) _) _) hb1)
  clear hb1
  go_wp2
  refine bodyPost_ret (v := .tuple #[.agg #[.int .i64 0, .int .i64 0, .int .i64 0], .int .i64 2]) (by simp [results, Try.results80, go_sem, *]) rfl ⟨rfl, ?_⟩
  have hb4 := H1.out
  exact ((hb4.setCell (by simp) _).setCell (by simp) _).setCell (by simp) _

set_option maxHeartbeats 2000000 in
set_option maxRecDepth 100000 in
theorem apArrive_go (O C P r0 r1 r2 re : Int) (c0 c1 c2 : Nat) (w : World) (h : OkI O C P) (HS : Hid (∀ W, Below w.heap.size w W → Calls Try.prog 85 #[.pointer (some ⟨c0, 0, none⟩), .pointer (some ⟨c1, 0, none⟩), .pointer (some ⟨c2, 0, none⟩)] W fun e W' => e = .returned (.tuple #[.agg #[.int .i64 r0, .int .i64 r1, .int .i64 r2], .int .i64 re]) ∧ Below W.heap.size W W')) :
    Calls Try.prog 80 #[.agg #[.int .i64 O, .int .i64 C, .int .i64 P], .bool true, .func (.func 85) #[] #[.pointer (some ⟨c0, 0, none⟩), .pointer (some ⟨c1, 0, none⟩), .pointer (some ⟨c2, 0, none⟩)]] w fun e w' => e = .returned (.tuple #[.agg #[.int .i64 r0, .int .i64 r1, .int .i64 r2], .int .i64 re]) ∧ Below w.heap.size w w' := by
  have k := Lib.hid (show infV O C P = 0 from if_pos h)
  clear h
  go_enter Try.func80, Try.ntmps80
  go_wp2_with fail
  refine (pCheck_any O C P _).mono ?_
  rw [k.out]
  rintro e w1 ⟨rfl, hb1⟩
  have c1 : w1.cell? ⟨w.heap.size + 1, 0, none⟩ = some (.int .i64 0) := below_keep hb1 (by simp [go_sem])
  have c2 : w1.cell? ⟨w.heap.size + 1, 1, none⟩ = some (.int .i64 0) := below_keep hb1 (by simp [go_sem])
  have c3 : w1.cell? ⟨w.heap.size + 1, 2, none⟩ = some (.int .i64 0) := below_keep hb1 (by simp [go_sem])
  have c4 : ∀ o, w1.frozen? ⟨w.heap.size + 1, o, none⟩ = false := fun o => by rw [(bcell hb1).2 _ _ (by first | (simp; done) | (simp; omega))]; simp [go_sem]
  have H1 := Lib.hid (below_step (below_alloc (below_alloc (below_alloc (Below.refl _ _) _) _) _) hb1)
  clear hb1
  go_wp2_with fail
  refine (HS.out _ H1.out).mono ?_
  rintro e w2 ⟨rfl, hb2⟩
  have c5 : w2.cell? ⟨w.heap.size + 1, 0, none⟩ = some (.int .i64 0) := below_keep hb2 (c1)
  have c6 : w2.cell? ⟨w.heap.size + 1, 1, none⟩ = some (.int .i64 0) := below_keep hb2 (c2)
  have c7 : w2.cell? ⟨w.heap.size + 1, 2, none⟩ = some (.int .i64 0) := below_keep hb2 (c3)
  have c8 : ∀ o, w2.frozen? ⟨w.heap.size + 1, o, none⟩ = false := fun o => ((bcell hb2).2 _ _ (World.block_lt_of_cell? _ _ c1)).trans (c4 o)
  have H2 := Lib.hid (below_step (H1.out) hb2)
  clear hb2 c1 c2 c3 c4 H1
  go_wp2
  refine bodyPost_ret (v := .tuple #[.agg #[.int .i64 r0, .int .i64 r1, .int .i64 r2], .int .i64 re]) (by simp [results, Try.results80, go_sem, *]) rfl ⟨rfl, ?_⟩
  have hb4 := H2.out
  exact ((hb4.setCell (by simp) _).setCell (by simp) _).setCell (by simp) _

set_option maxHeartbeats 2000000 in
set_option maxRecDepth 100000 in
theorem apLeave_bad (O C P : Int) (al : Bool) (c0 c1 : Nat) (w : World) (h : ¬ OkI O C P) :
    Calls Try.prog 80 #[.agg #[.int .i64 O, .int .i64 C, .int .i64 P], .bool al, .func (.func 81) #[] #[.pointer (some ⟨c0, 0, none⟩), .pointer (some ⟨c1, 0, none⟩)]] w fun e w' => e = .returned (.tuple #[.agg #[.int .i64 0, .int .i64 0, .int .i64 0], .int .i64 240]) ∧ Below w.heap.size w w' := by
  have k := Lib.hid (show infV O C P = 240 from if_neg h)
  clear h
  go_enter Try.func80, Try.ntmps80
  go_wp2_with fail
  refine (pCheck_any O C P _).mono ?_
  rw [k.out]
  rintro e w1 ⟨rfl, hb1⟩
  have c1 : w1.cell? ⟨w.heap.size + 1, 0, none⟩ = some (.int .i64 0) := below_keep hb1 (by simp [go_sem])
  have c2 : w1.cell? ⟨w.heap.size + 1, 1, none⟩ = some (.int .i64 0) := below_keep hb1 (by simp [go_sem])
  have c3 : w1.cell? ⟨w.heap.size + 1, 2, none⟩ = some (.int .i64 0) := below_keep hb1 (by simp [go_sem])
  have c4 : ∀ o, w1.frozen? ⟨w.heap.size + 1, o, none⟩ = false := fun o => by rw [(bcell hb1).2 _ _ (by first | (simp; done) | (simp; omega))]; simp [go_sem]
  have c5 : w1.cell? ⟨w.heap.size + 2, 0, none⟩ = some (.int .i64 0) := below_keep hb1 (by simp [go_sem])
  have c6 : w1.cell? ⟨w.heap.size + 2, 1, none⟩ = some (.int .i64 0) := below_keep hb1 (by simp [go_sem])
  have c7 : w1.cell? ⟨w.heap.size + 2, 2, none⟩ = some (.int .i64 0) := below_keep hb1 (by simp [go_sem])
  have H1 := Lib.hid (below_step (below_alloc (below_alloc (below_alloc (Below.refl _ _) _) _) _) hb1)
  clear hb1
  go_wp2
  refine bodyPost_ret (v := .tuple #[.agg #[.int .i64 0, .int .i64 0, .int .i64 0], .int .i64 240]) (by simp [results, Try.results80, go_sem, *]) rfl ⟨rfl, ?_⟩
  have hb4 := H1.out
  exact ((hb4.setCell (by simp) _).setCell (by simp) _).setCell (by simp) _

set_option maxHeartbeats 2000000 in
set_option maxRecDepth 100000 in
theorem apLeave_no (O C P : Int) (c0 c1 : Nat) (w : World) (h : OkI O C P) :
    Calls Try.prog 80 #[.agg #[.int .i64 O, .int .i64 C, .int .i64 P], .bool false, .func (.func 81) #[] #[.pointer (some ⟨c0, 0, none⟩), .pointer (some ⟨c1, 0, none⟩)]] w fun e w' => e = .returned (.tuple #[.agg #[.int .i64 0, .int .i64 0, .int .i64 0], .int .i64 2]) ∧ Below w.heap.size w w' := by
  have k := Lib.hid (show infV O C P = 0 from if_pos h)
  clear h
  go_enter Try.func80, Try.ntmps80
  go_wp2_with fail
  refine (pCheck_any O C P _).mono ?_
  rw [k.out]
  rintro e w1 ⟨rfl, hb1⟩
  have c1 : w1.cell? ⟨w.heap.size + 1, 0, none⟩ = some (.int .i64 0) := below_keep hb1 (by simp [go_sem])
  have c2 : w1.cell? ⟨w.heap.size + 1, 1, none⟩ = some (.int .i64 0) := below_keep hb1 (by simp [go_sem])
  have c3 : w1.cell? ⟨w.heap.size + 1, 2, none⟩ = some (.int .i64 0) := below_keep hb1 (by simp [go_sem])
  have c4 : ∀ o, w1.frozen? ⟨w.heap.size + 1, o, none⟩ = false := fun o => by rw [(bcell hb1).2 _ _ (by first | (simp; done) | (simp; omega))]; simp [go_sem]
  have c5 : w1.cell? ⟨w.heap.size + 2, 0, none⟩ = some (.int .i64 0) := below_keep hb1 (by simp [go_sem])
  have c6 : w1.cell? ⟨w.heap.size + 2, 1, none⟩ = some (.int .i64 0) := below_keep hb1 (by simp [go_sem])
  have c7 : w1.cell? ⟨w.heap.size + 2, 2, none⟩ = some (.int .i64 0) := below_keep hb1 (by simp [go_sem])
  have H1 := Lib.hid (below_step (below_alloc (below_alloc (below_alloc (Below.refl _ _) _) _) _) hb1)
  clear hb1
  go_wp2
  refine bodyPost_ret (v := .tuple #[.agg #[.int .i64 0, .int .i64 0, .int .i64 0], .int .i64 2]) (by simp [results, Try.results80, go_sem, *]) rfl ⟨rfl, ?_⟩
  have hb4 := H1.out
  exact ((hb4.setCell (by simp) _).setCell (by simp) _).setCell (by simp) _

set_option maxHeartbeats 2000000 in
set_option maxRecDepth 100000 in
theorem apLeave_go (O C P r0 r1 r2 re : Int) (c0 c1 : Nat) (w : World) (h : OkI O C P) (HS : Hid (∀ W, Below w.heap.size w W → Calls Try.prog 81 #[.pointer (some ⟨c0, 0, none⟩), .pointer (some ⟨c1, 0, none⟩)] W fun e W' => e = .returned (.tuple #[.agg #[.int .i64 r0, .int .i64 r1, .int .i64 r2], .int .i64 re]) ∧ Below W.heap.size W W')) :
    Calls Try.prog 80 #[.agg #[.int .i64 O, .int .i64 C, .int .i64 P], .bool true, .func (.func 81) #[] #[.pointer (some ⟨c0, 0, none⟩), .pointer (some ⟨c1, 0, none⟩)]] w fun e w' => e = .returned (.tuple #[.agg #[.int .i64 r0, .int .i64 r1, .int .i64 r2], .int .i64 re]) ∧ Below w.heap.size w w' := by
  have k := Lib.hid (show infV O C P = 0 from if_pos h)
  clear h
  go_enter Try.func80, Try.ntmps80
  go_wp2_with fail
  refine (pCheck_any O C P _).mono ?_
  rw [k.out]
  rintro e w1 ⟨rfl, hb1⟩
  have c1 : w1.cell? ⟨w.heap.size + 1, 0, none⟩ = some (.int .i64 0) := below_keep hb1 (by simp [go_sem])
  have c2 : w1.cell? ⟨w.heap.size + 1, 1, none⟩ = some (.int .i64 0) := below_keep hb1 (by simp [go_sem])
  have c3 : w1.cell? ⟨w.heap.size + 1, 2, none⟩ = some (.int .i64 0) := below_keep hb1 (by simp [go_sem])
  have c4 : ∀ o, w1.frozen? ⟨w.heap.size + 1, o, none⟩ = false := fun o => by rw [(bcell hb1).2 _ _ (by first | (simp; done) | (simp; omega))]; simp [go_sem]
  have H1 := Lib.hid (below_step (below_alloc (below_alloc (below_alloc (Below.refl _ _) _) _) _) hb1)
  clear hb1
  go_wp2_with fail
  refine (HS.out _ H1.out).mono ?_
  rintro e w2 ⟨rfl, hb2⟩
  have c5 : w2.cell? ⟨w.heap.size + 1, 0, none⟩ = some (.int .i64 0) := below_keep hb2 (c1)
  have c6 : w2.cell? ⟨w.heap.size + 1, 1, none⟩ = some (.int .i64 0) := below_keep hb2 (c2)
  have c7 : w2.cell? ⟨w.heap.size + 1, 2, none⟩ = some (.int .i64 0) := below_keep hb2 (c3)
  have c8 : ∀ o, w2.frozen? ⟨w.heap.size + 1, o, none⟩ = false := fun o => ((bcell hb2).2 _ _ (World.block_lt_of_cell? _ _ c1)).trans (c4 o)
  have H2 := Lib.hid (below_step (H1.out) hb2)
  clear hb2 c1 c2 c3 c4 H1
  go_wp2
  refine bodyPost_ret (v := .tuple #[.agg #[.int .i64 r0, .int .i64 r1, .int .i64 r2], .int .i64 re]) (by simp [results, Try.results80, go_sem, *]) rfl ⟨rfl, ?_⟩
  have hb4 := H2.out
  exact ((hb4.setCell (by simp) _).setCell (by simp) _).setCell (by simp) _

set_option maxHeartbeats 2000000 in
set_option maxRecDepth 100000 in
theorem apSet_bad (O C P : Int) (al : Bool) (c0 c1 : Nat) (w : World) (h : ¬ OkI O C P) :
    Calls Try.prog 56 #[.agg #[.int .i64 O, .int .i64 C, .int .i64 P], .bool al, .func (.func 59) #[] #[.pointer (some ⟨c0, 0, none⟩), .pointer (some ⟨c1, 0, none⟩)]] w fun e w' => e = .returned (.tuple #[.agg #[.int .i64 0, .int .i64 0, .int .i64 0], .int .i64 240]) ∧ Below w.heap.size w w' := by
  have k := Lib.hid (show infV O C P = 240 from if_neg h)
  clear h
  go_enter Try.func56, Try.ntmps56
  go_wp2_with fail
  refine (pCheck_any O C P _).mono ?_
  rw [k.out]
  rintro e w1 ⟨rfl, hb1⟩
  have c1 : w1.cell? ⟨w.heap.size + 1, 0, none⟩ = some (.int .i64 0) := below_keep hb1 (by simp [go_sem])
  have c2 : w1.cell? ⟨w.heap.size + 1, 1, none⟩ = some (.int .i64 0) := below_keep hb1 (by simp [go_sem])
  have c3 : w1.cell? ⟨w.heap.size + 1, 2, none⟩ = some (.int .i64 0) := below_keep hb1 (by simp [go_sem])
  have c4 : ∀ o, w1.frozen? ⟨w.heap.size + 1, o, none⟩ = false := fun o => by rw [(bcell hb1).2 _ _ (by first | (simp; done) | (simp; omega))]; simp [go_sem]
  have c5 : w1.cell? ⟨w.heap.size + 2, 0, none⟩ = some (.int .i64 0) := below_keep hb1 (by simp [go_sem])
  have c6 : w1.cell? ⟨w.heap.size + 2, 1, none⟩ = some (.int .i64 0) := below_keep hb1 (by simp [go_sem])
  have c7 : w1.cell? ⟨w.heap.size + 2, 2, none⟩ = some (.int .i64 0) := below_keep hb1 (by simp [go_sem])
  have H1 := Lib.hid (below_step (below_alloc (below_alloc (below_alloc (Below.refl _ _) _) _) _) hb1)
  clear hb1
  go_wp2
  refine bodyPost_ret (v := .tuple #[.agg #[.int .i64 0, .int .i64 0, .int .i64 0], .int .i64 240]) (by simp [results, Try.results56, go_sem, *]) rfl ⟨rfl, ?_⟩
  have hb4 := H1.out
  exact ((hb4.setCell (by simp) _).setCell (by simp) _).setCell (by simp) _

set_option maxHeartbeats 2000000 in
set_option maxRecDepth 100000 in
theorem apSet_no (O C P : Int) (c0 c1 : Nat) (w : World) (h : OkI O C P) :
    Calls Try.prog 56 #[.agg #[.int .i64 O, .int .i64 C, .int .i64 P], .bool false, .func (.func 59) #[] #[.pointer (some ⟨c0, 0, none⟩), .pointer (some ⟨c1, 0, none⟩)]] w fun e w' => e = .returned (.tuple #[.agg #[.int .i64 0, .int .i64 0, .int .i64 0], .int .i64 2]) ∧ Below w.heap.size w w' := by
  have k := Lib.hid (show infV O C P = 0 from if_pos h)
  clear h
  go_enter Try.func56, Try.ntmps56
  go_wp2_with fail
  refine (pCheck_any O C P _).mono ?_
  rw [k.out]
  rintro e w1 ⟨rfl, hb1⟩
  have c1 : w1.cell? ⟨w.heap.size + 1, 0, none⟩ = some (.int .i64 0) := below_keep hb1 (by simp [go_sem])
  have c2 : w1.cell? ⟨w.heap.size + 1, 1, none⟩ = some (.int .i64 0) := below_keep hb1 (by simp [go_sem])
  have c3 : w1.cell? ⟨w.heap.size + 1, 2, none⟩ = some (.int .i64 0) := below_keep hb1 (by simp [go_sem])
  have c4 : ∀ o, w1.frozen? ⟨w.heap.size + 1, o, none⟩ = false := fun o => by rw [(bcell hb1).2 _ _ (by first | (simp; done) | (simp; omega))]; simp [go_sem]
  have c5 : w1.cell? ⟨w.heap.size + 2, 0, none⟩ = some (.int .i64 0) := below_keep hb1 (by simp [go_sem])
  have c6 : w1.cell? ⟨w.heap.size + 2, 1, none⟩ = some (.int .i64 0) := below_keep hb1 (by simp [go_sem])
  have c7 : w1.cell? ⟨w.heap.size + 2, 2, none⟩ = some (.int .i64 0) := below_keep hb1 (by simp [go_sem])
  have H1 := Lib.hid (below_step (below_alloc (below_alloc (below_alloc (Below.refl _ _) _) _) _) hb1)
  clear hb1
  go_wp2
  refine bodyPost_ret (v := .tuple #[.agg #[.int .i64 0, .int .i64 0, .int .i64 0], .int .i64 2]) (by simp [results, Try.results56, go_sem, *]) rfl ⟨rfl, ?_⟩
  have hb4 := H1.out
  exact ((hb4.setCell (by simp) _).setCell (by simp) _).setCell (by simp) _

set_option maxHeartbeats 2000000 in
set_option maxRecDepth 100000 in
theorem apSet_go (O C P r0 r1 r2 re : Int) (c0 c1 : Nat) (w : World) (h : OkI O C P) (HS : Hid (∀ W, Below w.heap.size w W → Calls Try.prog 59 #[.pointer (some ⟨c0, 0, none⟩), .pointer (some ⟨c1, 0, none⟩)] W fun e W' => e = .returned (.tuple #[.agg #[.int .i64 r0, .int .i64 r1, .int .i64 r2], .int .i64 re]) ∧ Below W.heap.size W W')) :
    Calls Try.prog 56 #[.agg #[.int .i64 O, .int .i64 C, .int .i64 P], .bool true, .func (.func 59) #[] #[.pointer (some ⟨c0, 0, none⟩), .pointer (some ⟨c1, 0, none⟩)]] w fun e w' => e = .returned (.tuple #[.agg #[.int .i64 r0, .int .i64 r1, .int .i64 r2], .int .i64 re]) ∧ Below w.heap.size w w' := by
  have k := Lib.hid (show infV O C P = 0 from if_pos h)
  clear h
  go_enter Try.func56, Try.ntmps56
  go_wp2_with fail
  refine (pCheck_any O C P _).mono ?_
  rw [k.out]
  rintro e w1 ⟨rfl, hb1⟩
  have c1 : w1.cell? ⟨w.heap.size + 1, 0, none⟩ = some (.int .i64 0) := below_keep hb1 (by simp [go_sem])
  have c2 : w1.cell? ⟨w.heap.size + 1, 1, none⟩ = some (.int .i64 0) := below_keep hb1 (by simp [go_sem])
  have c3 : w1.cell? ⟨w.heap.size + 1, 2, none⟩ = some (.int .i64 0) := below_keep hb1 (by simp [go_sem])
  have c4 : ∀ o, w1.frozen? ⟨w.heap.size + 1, o, none⟩ = false := fun o => by rw [(bcell hb1).2 _ _ (by first | (simp; done) | (simp; omega))]; simp [go_sem]
  have H1 := Lib.hid (below_step (below_alloc (below_alloc (below_alloc (Below.refl _ _) _) _) _) hb1)
  clear hb1
  go_wp2_with fail
  refine (HS.out _ H1.out).mono ?_
  rintro e w2 ⟨rfl, hb2⟩
  have c5 : w2.cell? ⟨w.heap.size + 1, 0, none⟩ = some (.int .i64 0) := below_keep hb2 (c1)
  have c6 : w2.cell? ⟨w.heap.size + 1, 1, none⟩ = some (.int .i64 0) := below_keep hb2 (c2)
  have c7 : w2.cell? ⟨w.heap.size + 1, 2, none⟩ = some (.int .i64 0) := below_keep hb2 (c3)
  have c8 : ∀ o, w2.frozen? ⟨w.heap.size + 1, o, none⟩ = false := fun o => ((bcell hb2).2 _ _ (World.block_lt_of_cell? _ _ c1)).trans (c4 o)
  have H2 := Lib.hid (below_step (H1.out) hb2)
  clear hb2 c1 c2 c3 c4 H1
  go_wp2
  refine bodyPost_ret (v := .tuple #[.agg #[.int .i64 r0, .int .i64 r1, .int .i64 r2], .int .i64 re]) (by simp [results, Try.results56, go_sem, *]) rfl ⟨rfl, ?_⟩
  have hb4 := H2.out
  exact ((hb4.setCell (by simp) _).setCell (by simp) _).setCell (by simp) _

end Go.Proofs.Ytkencmijghigiaa
