/-
  Texts of this claim laid together: Pass3, Pass4.
-/
import Derived.Test.YtkencmijghigiaaGreatMPass2
import Derived.Test.YtkencmijghigiaaGreatMSrv
namespace Go.Proofs.YtkencmijghigiaaGreat
open Go.RowKit Go.Lib Plain

set_option maxHeartbeats 2000000 in
set_option maxRecDepth 100000 in
theorem apArrive_bad (O C P : Int) (al : Bool) (c0 c1 c2 : Nat) (w : World) (h : ¬ OkI O C P) :
    Calls Tryz.prog 86 #[.agg #[.int .i64 O, .int .i64 C, .int .i64 P], .bool al, .func (.func 91) #[] #[.pointer (some ⟨c0, 0, none⟩), .pointer (some ⟨c1, 0, none⟩), .pointer (some ⟨c2, 0, none⟩)]] w fun e w' => e = .returned (.tuple #[.agg #[.int .i64 0, .int .i64 0, .int .i64 0], .int .i64 240]) ∧ Below w.heap.size w w' := by
  have k := Lib.hid (show infV O C P = 240 from if_neg h)
  clear h
  go_enter Tryz.func86, Tryz.ntmps86
  go_wp2_with fail
  refine (pCheck_any O C P _).mono ?_
  rw [k.out]
  rintro e w1 ⟨rfl, hb1⟩
  have c1 : w1.cell? ⟨w.heap.size + 1, 0, none⟩ = some (.int .i64 0) := below_keep hb1 (by simp [go_sem])
  have c2 : w1.cell? ⟨w.heap.size + 1, 1, none⟩ = some (.int .i64 0) := below_keep hb1 (by simp [go_sem])
  have c3 : w1.cell? ⟨w.heap.size + 1, 2, none⟩ = some (.int .i64 0) := below_keep hb1 (by simp [go_sem])
  have c4 : ∀ o, w1.frozen? ⟨w.heap.size + 1, o, none⟩ = false := fun o => by rw [(bcell hb1).2 _ _ (by first | (simp; done) | (simp; omega))]; simp [go_sem]
  have c5 : w1.cell? ⟨w.heap.size + 2, 0, none⟩ = some (.int .i64 0) := below_keep hb1 (by simp [go_sem])
  have c6 : w1.cell? ⟨w.heap.size + 2, 1, none⟩ = some (.int .i64 0) := below_keep hb1 (by simp [go_sem])
  have c7 : w1.cell? ⟨w.heap.size + 2, 2, none⟩ = some (.int .i64 0) := below_keep hb1 (by simp [go_sem])
  have H1 := Lib.hid (below_step (below_alloc (below_alloc (below_alloc (Below.refl _ _) _) _) _) hb1)
  clear hb1
  go_wp2
  refine bodyPost_ret (v := .tuple #[.agg #[.int .i64 0, .int .i64 0, .int .i64 0], .int .i64 240]) (by simp [results, Tryz.results86, go_sem, *]) rfl ⟨rfl, ?_⟩
  have hb4 := H1.out
  exact ((hb4.setCell (by simp) _).setCell (by simp) _).setCell (by simp) _

set_option maxHeartbeats 2000000 in
set_option maxRecDepth 100000 in
theorem apArrive_no (O C P : Int) (c0 c1 c2 : Nat) (w : World) (h : OkI O C P) :
    Calls Tryz.prog 86 #[.agg #[.int .i64 O, .int .i64 C, .int .i64 P], .bool false, .func (.func 91) #[] #[.pointer (some ⟨c0, 0, none⟩), .pointer (some ⟨c1, 0, none⟩), .pointer (some ⟨c2, 0, none⟩)]] w fun e w' => e = .returned (.tuple #[.agg #[.int .i64 0, .int .i64 0, .int .i64 0], .int .i64 2]) ∧ Below w.heap.size w w' := by
  have k := Lib.hid (show infV O C P = 0 from if_pos h)
  clear h
  go_enter Tryz.func86, Tryz.ntmps86
  go_wp2_with fail
  refine (pCheck_any O C P _).mono ?_
  rw [k.out]
  rintro e w1 ⟨rfl, hb1⟩
  have c1 : w1.cell? ⟨w.heap.size + 1, 0, none⟩ = some (.int .i64 0) := below_keep hb1 (by simp [go_sem])
  have c2 : w1.cell? ⟨w.heap.size + 1, 1, none⟩ = some (.int .i64 0) := below_keep hb1 (by simp [go_sem])
  have c3 : w1.cell? ⟨w.heap.size + 1, 2, none⟩ = some (.int .i64 0) := below_keep hb1 (by simp [go_sem])
  have c4 : ∀ o, w1.frozen? ⟨w.heap.size + 1, o, none⟩ = false := fun o => by rw [(bcell hb1).2 _ _ (by first | (simp; done) | (simp; omega))]; simp [go_sem]
  have c5 : w1.cell? ⟨w.heap.size + 2, 0, none⟩ = some (.int .i64 0) := below_keep hb1 (by simp [go_sem])
  have c6 : w1.cell? ⟨w.heap.size + 2, 1, none⟩ = some (.int .i64 0) := below_keep hb1 (by simp [go_sem])
  have c7 : w1.cell? ⟨w.heap.size + 2, 2, none⟩ = some (.int .i64 0) := below_keep hb1 (by simp [go_sem])
  have H1 := Lib.hid (below_step (below_alloc (below_alloc (below_alloc (Below.refl _ _) _) _) _) hb1)
  clear hb1
  go_wp2
  refine bodyPost_ret (v := .tuple #[.agg #[.int .i64 0, .int .i64 0, .int .i64 0], .int .i64 2]) (by simp [results, Tryz.results86, go_sem, *]) rfl ⟨rfl, ?_⟩
  have hb4 := H1.out
  exact ((hb4.setCell (by simp) _).setCell (by simp) _).setCell (by simp) _

set_option maxHeartbeats 2000000 in
set_option maxRecDepth 100000 in
theorem apArrive_go (O C P r0 r1 r2 re : Int) (c0 c1 c2 : Nat) (w : World) (h : OkI O C P) (HS : Hid (∀ W, Below w.heap.size w W → Calls Tryz.prog 91 #[.pointer (some ⟨c0, 0, none⟩), .pointer (some ⟨c1, 0, none⟩), .pointer (some ⟨c2, 0, none⟩)] W fun e W' => e = .returned (.tuple #[.agg #[.int .i64 r0, .int .i64 r1, .int .i64 r2], .int .i64 re]) ∧ Below W.heap.size W W')) :
    Calls Tryz.prog 86 #[.agg #[.int .i64 O, .int .i64 C, .int .i64 P], .bool true, .func (.func 91) #[] #[.pointer (some ⟨c0, 0, none⟩), .pointer (some ⟨c1, 0, none⟩), .pointer (some ⟨c2, 0, none⟩)]] w fun e w' => e = .returned (.tuple #[.agg #[.int .i64 r0, .int .i64 r1, .int .i64 r2], .int .i64 re]) ∧ Below w.heap.size w w' := by
  have k := Lib.hid (show infV O C P = 0 from if_pos h)
  clear h
  go_enter Tryz.func86, Tryz.ntmps86
  go_wp2_with fail
  refine (pCheck_any O C P _).mono ?_
  rw [k.out]
  rintro e w1 ⟨rfl, hb1⟩
  have c1 : w1.cell? ⟨w.heap.size + 1, 0, none⟩ = some (.int .i64 0) := below_keep hb1 (by simp [go_sem])
  have c2 : w1.cell? ⟨w.heap.size + 1, 1, none⟩ = some (.int .i64 0) := below_keep hb1 (by simp [go_sem])
  have c3 : w1.cell? ⟨w.heap.size + 1, 2, none⟩ = some (.int .i64 0) := below_keep hb1 (by simp [go_sem])
  have c4 : ∀ o, w1.frozen? ⟨w.heap.size + 1, o, none⟩ = false := fun o => by rw [(bcell hb1).2 _ _ (by first | (simp; done) | (simp; omega))]; simp [go_sem]
  have H1 := Lib.hid (below_step (below_alloc (below_alloc (below_alloc (Below.refl _ _) _) _) _) hb1)
  clear hb1
  go_wp2_with fail
  refine (HS.out _ H1.out).mono ?_
  rintro e w2 ⟨rfl, hb2⟩
  have c5 : w2.cell? ⟨w.heap.size + 1, 0, none⟩ = some (.int .i64 0) := below_keep hb2 (c1)
  have c6 : w2.cell? ⟨w.heap.size + 1, 1, none⟩ = some (.int .i64 0) := below_keep hb2 (c2)
  have c7 : w2.cell? ⟨w.heap.size + 1, 2, none⟩ = some (.int .i64 0) := below_keep hb2 (c3)
  have c8 : ∀ o, w2.frozen? ⟨w.heap.size + 1, o, none⟩ = false := fun o => ((bcell hb2).2 _ _ (World.block_lt_of_cell? _ _ c1)).trans (c4 o)
  have H2 := Lib.hid (below_step (H1.out) hb2)
  clear hb2 c1 c2 c3 c4 H1
  go_wp2
  refine bodyPost_ret (v := .tuple #[.agg #[.int .i64 r0, .int .i64 r1, .int .i64 r2], .int .i64 re]) (by simp [results, Tryz.results86, go_sem, *]) rfl ⟨rfl, ?_⟩
  have hb4 := H2.out
  exact ((hb4.setCell (by simp) _).setCell (by simp) _).setCell (by simp) _

set_option maxHeartbeats 2000000 in
set_option maxRecDepth 100000 in
theorem apLeave_bad (O C P : Int) (al : Bool) (c0 c1 : Nat) (w : World) (h : ¬ OkI O C P) :
    Calls Tryz.prog 86 #[.agg #[.int .i64 O, .int .i64 C, .int .i64 P], .bool al, .func (.func 87) #[] #[.pointer (some ⟨c0, 0, none⟩), .pointer (some ⟨c1, 0, none⟩)]] w fun e w' => e = .returned (.tuple #[.agg #[.int .i64 0, .int .i64 0, .int .i64 0], .int .i64 240]) ∧ Below w.heap.size w w' := by
  have k := Lib.hid (show infV O C P = 240 from if_neg h)
  clear h
  go_enter Tryz.func86, Tryz.ntmps86
  go_wp2_with fail
  refine (pCheck_any O C P _).mono ?_
  rw [k.out]
  rintro e w1 ⟨rfl, hb1⟩
  have c1 : w1.cell? ⟨w.heap.size + 1, 0, none⟩ = some (.int .i64 0) := below_keep hb1 (by simp [go_sem])
  have c2 : w1.cell? ⟨w.heap.size + 1, 1, none⟩ = some (.int .i64 0) := below_keep hb1 (by simp [go_sem])
  have c3 : w1.cell? ⟨w.heap.size + 1, 2, none⟩ = some (.int .i64 0) := below_keep hb1 (by simp [go_sem])
  have c4 : ∀ o, w1.frozen? ⟨w.heap.size + 1, o, none⟩ = false := fun o => by rw [(bcell hb1).2 _ _ (by first | (simp; done) | (simp; omega))]; simp [go_sem]
  have c5 : w1.cell? ⟨w.heap.size + 2, 0, none⟩ = some (.int .i64 0) := below_keep hb1 (by simp [go_sem])
  have c6 : w1.cell? ⟨w.heap.size + 2, 1, none⟩ = some (.int .i64 0) := below_keep hb1 (by simp [go_sem])
  have c7 : w1.cell? ⟨w.heap.size + 2, 2, none⟩ = some (.int .i64 0) := below_keep hb1 (by simp [go_sem])
  have H1 := Lib.hid (below_step (below_alloc (below_alloc (below_alloc (Below.refl _ _) _) _) _) hb1)
  clear hb1
  go_wp2
  refine bodyPost_ret (v := .tuple #[.agg #[.int .i64 0, .int .i64 0, .int .i64 0], .int .i64 240]) (by simp [results, Tryz.results86, go_sem, *]) rfl ⟨rfl, ?_⟩
  have hb4 := H1.out
  exact ((hb4.setCell (by simp) _).setCell (by simp) _).setCell (by simp) _

set_option maxHeartbeats 2000000 in
set_option maxRecDepth 100000 in
theorem apLeave_no (O C P : Int) (c0 c1 : Nat) (w : World) (h : OkI O C P) :
    Calls Tryz.prog 86 #[.agg #[.int .i64 O, .int .i64 C, .int .i64 P], .bool false, .func (.func 87) #[] #[.pointer (some ⟨c0, 0, none⟩), .pointer (some ⟨c1, 0, none⟩)]] w fun e w' => e = .returned (.tuple #[.agg #[.int .i64 0, .int .i64 0, .int .i64 0], .int .i64 2]) ∧ Below w.heap.size w w' := by
  have k := Lib.hid (show infV O C P = 0 from if_pos h)
  clear h
  go_enter Tryz.func86, Tryz.ntmps86
  go_wp2_with fail
  refine (pCheck_any O C P _).mono ?_
  rw [k.out]
  rintro e w1 ⟨rfl, hb1⟩
  have c1 : w1.cell? ⟨w.heap.size + 1, 0, none⟩ = some (.int .i64 0) := below_keep hb1 (by simp [go_sem])
  have c2 : w1.cell? ⟨w.heap.size + 1, 1, none⟩ = some (.int .i64 0) := below_keep hb1 (by simp [go_sem])
  have c3 : w1.cell? ⟨w.heap.size + 1, 2, none⟩ = some (.int .i64 0) := below_keep hb1 (by simp [go_sem])
  have c4 : ∀ o, w1.frozen? ⟨w.heap.size + 1, o, none⟩ = false := fun o => by rw [(bcell hb1).2 _ _ (by first | (simp; done) | (simp; omega))]; simp [go_sem]
  have c5 : w1.cell? ⟨w.heap.size + 2, 0, none⟩ = some (.int .i64 0) := below_keep hb1 (by simp [go_sem])
  have c6 : w1.cell? ⟨w.heap.size + 2, 1, none⟩ = some (.int .i64 0) := below_keep hb1 (by simp [go_sem])
  have c7 : w1.cell? ⟨w.heap.size + 2, 2, none⟩ = some (.int .i64 0) := below_keep hb1 (by simp [go_sem])
  have H1 := Lib.hid (below_step (below_alloc (below_alloc (below_alloc (Below.refl _ _) _) _) _) hb1)
  clear hb1
  go_wp2
  refine bodyPost_ret (v := .tuple #[.agg #[.int .i64 0, .int .i64 0, .int .i64 0], .int .i64 2]) (by simp [results, Tryz.results86, go_sem, *]) rfl ⟨rfl, ?_⟩
  have hb4 := H1.out
  exact ((hb4.setCell (by simp) _).setCell (by simp) _).setCell (by simp) _

set_option maxHeartbeats 2000000 in
set_option maxRecDepth 100000 in
theorem apLeave_go (O C P r0 r1 r2 re : Int) (c0 c1 : Nat) (w : World) (h : OkI O C P) (HS : Hid (∀ W, Below w.heap.size w W → Calls Tryz.prog 87 #[.pointer (some ⟨c0, 0, none⟩), .pointer (some ⟨c1, 0, none⟩)] W fun e W' => e = .returned (.tuple #[.agg #[.int .i64 r0, .int .i64 r1, .int .i64 r2], .int .i64 re]) ∧ Below W.heap.size W W')) :
    Calls Tryz.prog 86 #[.agg #[.int .i64 O, .int .i64 C, .int .i64 P], .bool true, .func (.func 87) #[] #[.pointer (some ⟨c0, 0, none⟩), .pointer (some ⟨c1, 0, none⟩)]] w fun e w' => e = .returned (.tuple #[.agg #[.int .i64 r0, .int .i64 r1, .int .i64 r2], .int .i64 re]) ∧ Below w.heap.size w w' := by
  have k := Lib.hid (show infV O C P = 0 from if_pos h)
  clear h
  go_enter Tryz.func86, Tryz.ntmps86
  go_wp2_with fail
  refine (pCheck_any O C P _).mono ?_
  rw [k.out]
  rintro e w1 ⟨rfl, hb1⟩
  have c1 : w1.cell? ⟨w.heap.size + 1, 0, none⟩ = some (.int .i64 0) := below_keep hb1 (by simp [go_sem])
  have c2 : w1.cell? ⟨w.heap.size + 1, 1, none⟩ = some (.int .i64 0) := below_keep hb1 (by simp [go_sem])
  have c3 : w1.cell? ⟨w.heap.size + 1, 2, none⟩ = some (.int .i64 0) := below_keep hb1 (by simp [go_sem])
  have c4 : ∀ o, w1.frozen? ⟨w.heap.size + 1, o, none⟩ = false := fun o => by rw [(bcell hb1).2 _ _ (by first | (simp; done) | (simp; omega))]; simp [go_sem]
  have H1 := Lib.hid (below_step (below_alloc (below_alloc (below_alloc (Below.refl _ _) _) _) _) hb1)
  clear hb1
  go_wp2_with fail
  refine (HS.out _ H1.out).mono ?_
  rintro e w2 ⟨rfl, hb2⟩
  have c5 : w2.cell? ⟨w.heap.size + 1, 0, none⟩ = some (.int .i64 0) := below_keep hb2 (c1)
  have c6 : w2.cell? ⟨w.heap.size + 1, 1, none⟩ = some (.int .i64 0) := below_keep hb2 (c2)
  have c7 : w2.cell? ⟨w.heap.size + 1, 2, none⟩ = some (.int .i64 0) := below_keep hb2 (c3)
  have c8 : ∀ o, w2.frozen? ⟨w.heap.size + 1, o, none⟩ = false := fun o => ((bcell hb2).2 _ _ (World.block_lt_of_cell? _ _ c1)).trans (c4 o)
  have H2 := Lib.hid (below_step (H1.out) hb2)
  clear hb2 c1 c2 c3 c4 H1
  go_wp2
  refine bodyPost_ret (v := .tuple #[.agg #[.int .i64 r0, .int .i64 r1, .int .i64 r2], .int .i64 re]) (by simp [results, Tryz.results86, go_sem, *]) rfl ⟨rfl, ?_⟩
  have hb4 := H2.out
  exact ((hb4.setCell (by simp) _).setCell (by simp) _).setCell (by simp) _

set_option maxHeartbeats 2000000 in
set_option maxRecDepth 100000 in
theorem apSet_bad (O C P : Int) (al : Bool) (c0 c1 : Nat) (w : World) (h : ¬ OkI O C P) :
    Calls Tryz.prog 62 #[.agg #[.int .i64 O, .int .i64 C, .int .i64 P], .bool al, .func (.func 65) #[] #[.pointer (some ⟨c0, 0, none⟩), .pointer (some ⟨c1, 0, none⟩)]] w fun e w' => e = .returned (.tuple #[.agg #[.int .i64 0, .int .i64 0, .int .i64 0], .int .i64 240]) ∧ Below w.heap.size w w' := by
  have k := Lib.hid (show infV O C P = 240 from if_neg h)
  clear h
  go_enter Tryz.func62, Tryz.ntmps62
  go_wp2_with fail
  refine (pCheck_any O C P _).mono ?_
  rw [k.out]
  rintro e w1 ⟨rfl, hb1⟩
  have c1 : w1.cell? ⟨w.heap.size + 1, 0, none⟩ = some (.int .i64 0) := below_keep hb1 (by simp [go_sem])
  have c2 : w1.cell? ⟨w.heap.size + 1, 1, none⟩ = some (.int .i64 0) := below_keep hb1 (by simp [go_sem])
  have c3 : w1.cell? ⟨w.heap.size + 1, 2, none⟩ = some (.int .i64 0) := below_keep hb1 (by simp [go_sem])
  have c4 : ∀ o, w1.frozen? ⟨w.heap.size + 1, o, none⟩ = false := fun o => by rw [(bcell hb1).2 _ _ (by first | (simp; done) | (simp; omega))]; simp [go_sem]
  have c5 : w1.cell? ⟨w.heap.size + 2, 0, none⟩ = some (.int .i64 0) := below_keep hb1 (by simp [go_sem])
  have c6 : w1.cell? ⟨w.heap.size + 2, 1, none⟩ = some (.int .i64 0) := below_keep hb1 (by simp [go_sem])
  have c7 : w1.cell? ⟨w.heap.size + 2, 2, none⟩ = some (.int .i64 0) := below_keep hb1 (by simp [go_sem])
  have H1 := Lib.hid (below_step (below_alloc (below_alloc (below_alloc (Below.refl _ _) _) _) _) hb1)
  clear hb1
  go_wp2
  refine bodyPost_ret (v := .tuple #[.agg #[.int .i64 0, .int .i64 0, .int .i64 0], .int .i64 240]) (by simp [results, Tryz.results62, go_sem, *]) rfl ⟨rfl, ?_⟩
  have hb4 := H1.out
  exact ((hb4.setCell (by simp) _).setCell (by simp) _).setCell (by simp) _

set_option maxHeartbeats 2000000 in
set_option maxRecDepth 100000 in
theorem apSet_no (O C P : Int) (c0 c1 : Nat) (w : World) (h : OkI O C P) :
    Calls Tryz.prog 62 #[.agg #[.int .i64 O, .int .i64 C, .int .i64 P], .bool false, .func (.func 65) #[] #[.pointer (some ⟨c0, 0, none⟩), .pointer (some ⟨c1, 0, none⟩)]] w fun e w' => e = .returned (.tuple #[.agg #[.int .i64 0, .int .i64 0, .int .i64 0], .int .i64 2]) ∧ Below w.heap.size w w' := by
  have k := Lib.hid (show infV O C P = 0 from if_pos h)
  clear h
  go_enter Tryz.func62, Tryz.ntmps62
  go_wp2_with fail
  refine (pCheck_any O C P _).mono ?_
  rw [k.out]
  rintro e w1 ⟨rfl, hb1⟩
  have c1 : w1.cell? ⟨w.heap.size + 1, 0, none⟩ = some (.int .i64 0) := below_keep hb1 (by simp [go_sem])
  have c2 : w1.cell? ⟨w.heap.size + 1, 1, none⟩ = some (.int .i64 0) := below_keep hb1 (by simp [go_sem])
  have c3 : w1.cell? ⟨w.heap.size + 1, 2, none⟩ = some (.int .i64 0) := below_keep hb1 (by simp [go_sem])
  have c4 : ∀ o, w1.frozen? ⟨w.heap.size + 1, o, none⟩ = false := fun o => by rw [(bcell hb1).2 _ _ (by first | (simp; done) | (simp; omega))]; simp [go_sem]
  have c5 : w1.cell? ⟨w.heap.size + 2, 0, none⟩ = some (.int .i64 0) := below_keep hb1 (by simp [go_sem])
  have c6 : w1.cell? ⟨w.heap.size + 2, 1, none⟩ = some (.int .i64 0) := below_keep hb1 (by simp [go_sem])
  have c7 : w1.cell? ⟨w.heap.size + 2, 2, none⟩ = some (.int .i64 0) := below_keep hb1 (by simp [go_sem])
  have H1 := Lib.hid (below_step (below_alloc (below_alloc (below_alloc (Below.refl _ _) _) _) _) hb1)
  clear hb1
  go_wp2
  refine bodyPost_ret (v := .tuple #[.agg #[.int .i64 0, .int .i64 0, .int .i64 0], .int .i64 2]) (by simp [results, Tryz.results62, go_sem, *]) rfl ⟨rfl, ?_⟩
  have hb4 := H1.out
  exact ((hb4.setCell (by simp) _).setCell (by simp) _).setCell (by simp) _

set_option maxHeartbeats 2000000 in
set_option maxRecDepth 100000 in
theorem apSet_go (O C P r0 r1 r2 re : Int) (c0 c1 : Nat) (w : World) (h : OkI O C P) (HS : Hid (∀ W, Below w.heap.size w W → Calls Tryz.prog 65 #[.pointer (some ⟨c0, 0, none⟩), .pointer (some ⟨c1, 0, none⟩)] W fun e W' => e = .returned (.tuple #[.agg #[.int .i64 r0, .int .i64 r1, .int .i64 r2], .int .i64 re]) ∧ Below W.heap.size W W')) :
    Calls Tryz.prog 62 #[.agg #[.int .i64 O, .int .i64 C, .int .i64 P], .bool true, .func (.func 65) #[] #[.pointer (some ⟨c0, 0, none⟩), .pointer (some ⟨c1, 0, none⟩)]] w fun e w' => e = .returned (.tuple #[.agg #[.int .i64 r0, .int .i64 r1, .int .i64 r2], .int .i64 re]) ∧ Below w.heap.size w w' := by
  have k := Lib.hid (show infV O C P = 0 from if_pos h)
  clear h
  go_enter Tryz.func62, Tryz.ntmps62
  go_wp2_with fail
  refine (pCheck_any O C P _).mono ?_
  rw [k.out]
  rintro e w1 ⟨rfl, hb1⟩
  have c1 : w1.cell? ⟨w.heap.size + 1, 0, none⟩ = some (.int .i64 0) := below_keep hb1 (by simp [go_sem])
  have c2 : w1.cell? ⟨w.heap.size + 1, 1, none⟩ = some (.int .i64 0) := below_keep hb1 (by simp [go_sem])
  have c3 : w1.cell? ⟨w.heap.size + 1, 2, none⟩ = some (.int .i64 0) := below_keep hb1 (by simp [go_sem])
  have c4 : ∀ o, w1.frozen? ⟨w.heap.size + 1, o, none⟩ = false := fun o => by rw [(bcell hb1).2 _ _ (by first | (simp; done) | (simp; omega))]; simp [go_sem]
  have H1 := Lib.hid (below_step (below_alloc (below_alloc (below_alloc (Below.refl _ _) _) _) _) hb1)
  clear hb1
  go_wp2_with fail
  refine (HS.out _ H1.out).mono ?_
  rintro e w2 ⟨rfl, hb2⟩
  have c5 : w2.cell? ⟨w.heap.size + 1, 0, none⟩ = some (.int .i64 0) := below_keep hb2 (c1)
  have c6 : w2.cell? ⟨w.heap.size + 1, 1, none⟩ = some (.int .i64 0) := below_keep hb2 (c2)
  have c7 : w2.cell? ⟨w.heap.size + 1, 2, none⟩ = some (.int .i64 0) := below_keep hb2 (c3)
  have c8 : ∀ o, w2.frozen? ⟨w.heap.size + 1, o, none⟩ = false := fun o => ((bcell hb2).2 _ _ (World.block_lt_of_cell? _ _ c1)).trans (c4 o)
  have H2 := Lib.hid (below_step (H1.out) hb2)
  clear hb2 c1 c2 c3 c4 H1
  go_wp2
  refine bodyPost_ret (v := .tuple #[.agg #[.int .i64 r0, .int .i64 r1, .int .i64 r2], .int .i64 re]) (by simp [results, Tryz.results62, go_sem, *]) rfl ⟨rfl, ?_⟩
  have hb4 := H2.out
  exact ((hb4.setCell (by simp) _).setCell (by simp) _).setCell (by simp) _

end Go.Proofs.YtkencmijghigiaaGreat

namespace Go.Proofs.YtkencmijghigiaaGreat
open Go.RowKit Go.Lib Plain

set_option maxHeartbeats 2000000 in
set_option maxRecDepth 100000 in
theorem arriveStep (O C P d r : Int) (bi br bd : Nat) (w : World) (h : OkI O C P) (hd : Stamp d) (hr : Ratio r)
    (i0 : w.cell? ⟨bi, 0, none⟩ = some (.int .i64 O)) (i1 : w.cell? ⟨bi, 1, none⟩ = some (.int .i64 C)) (i2 : w.cell? ⟨bi, 2, none⟩ = some (.int .i64 P)) (j0 : w.cell? ⟨br, 0, none⟩ = some (.int .i64 r)) (k0 : w.cell? ⟨bd, 0, none⟩ = some (.int .i64 d)) :
    Calls Tryz.prog 91 #[.pointer (some ⟨bi, 0, none⟩), .pointer (some ⟨br, 0, none⟩), .pointer (some ⟨bd, 0, none⟩)] w fun e w' => e = .returned (.tuple #[.agg #[.int .i64 (dnV O (corV C d (P + r)) (P + r) O), .int .i64 (dnV O (corV C d (P + r)) (P + r) (corV C d (P + r))), .int .i64 (dnV O (corV C d (P + r)) (P + r) (P + r))], .int .i64 (dnE O (corV C d (P + r)) (P + r))]) ∧ Below w.heap.size w w' := by
  have HI := Lib.hid h
  obtain ⟨⟨o1, o2⟩, ⟨c1, c2⟩, ⟨p1, p2⟩⟩ := h
  have HD := Lib.hid hd
  obtain ⟨r1, r2⟩ := hr
  have HC := Lib.hid (show Stamp C from ⟨c1, c2⟩)
  have z0 : bi < w.heap.size := World.block_lt_of_cell? _ _ i0
  have z1 : ¬ w.heap.size + 1 = bi := by omega
  have z2 : ¬ bi = w.heap.size + 1 := by omega
  have z3 : bi < w.heap.size + 1 := by omega
  have z4 : bd < w.heap.size := World.block_lt_of_cell? _ _ k0
  have z5 : bd < w.heap.size + 1 := by omega
  have z6 : br < w.heap.size := World.block_lt_of_cell? _ _ j0
  have z7 : br < w.heap.size + 1 := by omega
  clear hd
  go_enter Tryz.func91, Tryz.ntmps91
  go_wp2_with fail
  refine (advance_any O C (P + r) d (w.heap.size + 1) HC.out HD.out (by omega) (by omega) _ (by simp [go_sem]) (by simp [go_sem]) (by simp [go_sem]) (fun o => by simp [go_sem])).mono ?_
  rintro e w' ⟨rfl, w1, hb, rfl⟩
  have x0 : w1.cell? ⟨bi, 0, none⟩ = some (.int .i64 O) := below_keep hb (by rw [World.cell?_alloc_lt _ _ _ (by simp; omega), World.cell?_alloc_lt _ _ _ z0]; exact i0)
  have x1 : w1.cell? ⟨bi, 1, none⟩ = some (.int .i64 C) := below_keep hb (by rw [World.cell?_alloc_lt _ _ _ (by simp; omega), World.cell?_alloc_lt _ _ _ z0]; exact i1)
  have x2 : w1.cell? ⟨bi, 2, none⟩ = some (.int .i64 P) := below_keep hb (by rw [World.cell?_alloc_lt _ _ _ (by simp; omega), World.cell?_alloc_lt _ _ _ z0]; exact i2)
  have y0 : w1.cell? ⟨w.heap.size + 1, 0, none⟩ = some (.int .i64 O) := below_keep hb (by simp [go_sem])
  have y1 : w1.cell? ⟨w.heap.size + 1, 1, none⟩ = some (.int .i64 C) := below_keep hb (by simp [go_sem])
  have y2 : w1.cell? ⟨w.heap.size + 1, 2, none⟩ = some (.int .i64 (P + r)) := below_keep hb (by simp [go_sem])
  have g0 : w1.cell? ⟨w.heap.size, 0, none⟩ = some (.int .i64 0) := below_keep hb (by simp [go_sem])
  have g1 : w1.cell? ⟨w.heap.size, 1, none⟩ = some (.int .i64 0) := below_keep hb (by simp [go_sem])
  have g2 : w1.cell? ⟨w.heap.size, 2, none⟩ = some (.int .i64 0) := below_keep hb (by simp [go_sem])
  have g6 : ∀ o, w1.frozen? ⟨w.heap.size, o, none⟩ = false := fun o => by rw [(bcell hb).2 _ _ (by simp; omega)]; simp [go_sem]
  have q0 : w.heap.size + 1 < w1.heap.size := World.block_lt_of_cell? _ _ y0
  have HB := Lib.hid (below_step (below_alloc (below_alloc (Below.refl _ _) _) _) hb)
  clear hb
  go_wp2_with fail
  refine (done_any O (corV C d (P + r)) (P + r) O C P HI.out (w.heap.size + 1) _ (by simp [go_sem, *]) (by simp [go_sem, *]) (by simp [go_sem, *])).mono ?_
  rintro e w2 ⟨rfl, hb⟩
  have f0 : w2.cell? ⟨w.heap.size, 0, none⟩ = some (.int .i64 0) := below_keep hb (by simp [go_sem, *])
  have f1 : w2.cell? ⟨w.heap.size, 1, none⟩ = some (.int .i64 0) := below_keep hb (by simp [go_sem, *])
  have f2 : w2.cell? ⟨w.heap.size, 2, none⟩ = some (.int .i64 0) := below_keep hb (by simp [go_sem, *])
  have f6 : ∀ o, w2.frozen? ⟨w.heap.size, o, none⟩ = false := fun o => by rw [(bcell hb).2 _ _ (by simp; omega)]; simp [go_sem, *]
  have H2 := Lib.hid (below_step (HB.out.setCell (by simp) _) hb)
  clear hb x0 x1 x2 y0 y1 y2 g0 g1 g2 g6 q0 z1 z2 z0 z3 z4 z5 i0 i1 i2
  go_wp2
  refine bodyPost_ret (v := .tuple #[.agg #[.int .i64 (dnV O (corV C d (P + r)) (P + r) O), .int .i64 (dnV O (corV C d (P + r)) (P + r) (corV C d (P + r))), .int .i64 (dnV O (corV C d (P + r)) (P + r) (P + r))], .int .i64 (dnE O (corV C d (P + r)) (P + r))]) (by simp [results, Tryz.results91, go_sem, *]) rfl ⟨rfl, ?_⟩
  have hb4 := H2.out
  exact ((hb4.setCell (by simp) _).setCell (by simp) _).setCell (by simp) _


set_option maxHeartbeats 2000000 in
set_option maxRecDepth 100000 in
theorem leaveStep (O C P x : Int) (bi bx : Nat) (w : World) (h : OkI O C P) (hd : Tick x)
    (i0 : w.cell? ⟨bi, 0, none⟩ = some (.int .i64 O)) (i1 : w.cell? ⟨bi, 1, none⟩ = some (.int .i64 C)) (i2 : w.cell? ⟨bi, 2, none⟩ = some (.int .i64 P)) (k0 : w.cell? ⟨bx, 0, none⟩ = some (.int .i64 x)) :
    Calls Tryz.prog 87 #[.pointer (some ⟨bi, 0, none⟩), .pointer (some ⟨bx, 0, none⟩)] w fun e w' => e = .returned (.tuple #[.agg #[.int .i64 (dnV O (corV C x P) P O), .int .i64 (dnV O (corV C x P) P (corV C x P)), .int .i64 (dnV O (corV C x P) P P)], .int .i64 (dnE O (corV C x P) P)]) ∧ Below w.heap.size w w' := by
  have HI := Lib.hid h
  obtain ⟨⟨o1, o2⟩, ⟨c1, c2⟩, ⟨p1, p2⟩⟩ := h
  have HD := Lib.hid (show Stamp x from ⟨by have := hd.1; omega, by have := hd.2; omega⟩)
  have HC := Lib.hid (show Stamp C from ⟨c1, c2⟩)
  have z0 : bi < w.heap.size := World.block_lt_of_cell? _ _ i0
  have z1 : ¬ w.heap.size + 1 = bi := by omega
  have z2 : ¬ bi = w.heap.size + 1 := by omega
  have z3 : bi < w.heap.size + 1 := by omega
  have z4 : bx < w.heap.size := World.block_lt_of_cell? _ _ k0
  have z5 : bx < w.heap.size + 1 := by omega
  clear hd
  go_enter Tryz.func87, Tryz.ntmps87
  go_wp2_with fail
  refine (advance_any O C P x (w.heap.size + 1) HC.out HD.out (by omega) (by omega) _ (by simp [go_sem]) (by simp [go_sem]) (by simp [go_sem]) (fun o => by simp [go_sem])).mono ?_
  rintro e w' ⟨rfl, w1, hb, rfl⟩
  have x0 : w1.cell? ⟨bi, 0, none⟩ = some (.int .i64 O) := below_keep hb (by rw [World.cell?_alloc_lt _ _ _ (by simp; omega), World.cell?_alloc_lt _ _ _ z0]; exact i0)
  have x1 : w1.cell? ⟨bi, 1, none⟩ = some (.int .i64 C) := below_keep hb (by rw [World.cell?_alloc_lt _ _ _ (by simp; omega), World.cell?_alloc_lt _ _ _ z0]; exact i1)
  have x2 : w1.cell? ⟨bi, 2, none⟩ = some (.int .i64 P) := below_keep hb (by rw [World.cell?_alloc_lt _ _ _ (by simp; omega), World.cell?_alloc_lt _ _ _ z0]; exact i2)
  have y0 : w1.cell? ⟨w.heap.size + 1, 0, none⟩ = some (.int .i64 O) := below_keep hb (by simp [go_sem])
  have y1 : w1.cell? ⟨w.heap.size + 1, 1, none⟩ = some (.int .i64 C) := below_keep hb (by simp [go_sem])
  have y2 : w1.cell? ⟨w.heap.size + 1, 2, none⟩ = some (.int .i64 P) := below_keep hb (by simp [go_sem])
  have g0 : w1.cell? ⟨w.heap.size, 0, none⟩ = some (.int .i64 0) := below_keep hb (by simp [go_sem])
  have g1 : w1.cell? ⟨w.heap.size, 1, none⟩ = some (.int .i64 0) := below_keep hb (by simp [go_sem])
  have g2 : w1.cell? ⟨w.heap.size, 2, none⟩ = some (.int .i64 0) := below_keep hb (by simp [go_sem])
  have g6 : ∀ o, w1.frozen? ⟨w.heap.size, o, none⟩ = false := fun o => by rw [(bcell hb).2 _ _ (by simp; omega)]; simp [go_sem]
  have q0 : w.heap.size + 1 < w1.heap.size := World.block_lt_of_cell? _ _ y0
  have HB := Lib.hid (below_step (below_alloc (below_alloc (Below.refl _ _) _) _) hb)
  clear hb
  go_wp2_with fail
  refine (done_any O (corV C x P) P O C P HI.out (w.heap.size + 1) _ (by simp [go_sem, *]) (by simp [go_sem, *]) (by simp [go_sem, *])).mono ?_
  rintro e w2 ⟨rfl, hb⟩
  have f0 : w2.cell? ⟨w.heap.size, 0, none⟩ = some (.int .i64 0) := below_keep hb (by simp [go_sem, *])
  have f1 : w2.cell? ⟨w.heap.size, 1, none⟩ = some (.int .i64 0) := below_keep hb (by simp [go_sem, *])
  have f2 : w2.cell? ⟨w.heap.size, 2, none⟩ = some (.int .i64 0) := below_keep hb (by simp [go_sem, *])
  have f6 : ∀ o, w2.frozen? ⟨w.heap.size, o, none⟩ = false := fun o => by rw [(bcell hb).2 _ _ (by simp; omega)]; simp [go_sem, *]
  have H2 := Lib.hid (below_step (HB.out.setCell (by simp) _) hb)
  clear hb x0 x1 x2 y0 y1 y2 g0 g1 g2 g6 q0 z1 z2 z0 z3 z4 z5 i0 i1 i2
  go_wp2
  refine bodyPost_ret (v := .tuple #[.agg #[.int .i64 (dnV O (corV C x P) P O), .int .i64 (dnV O (corV C x P) P (corV C x P)), .int .i64 (dnV O (corV C x P) P P)], .int .i64 (dnE O (corV C x P) P)]) (by simp [results, Tryz.results87, go_sem, *]) rfl ⟨rfl, ?_⟩
  have hb4 := H2.out
  exact ((hb4.setCell (by simp) _).setCell (by simp) _).setCell (by simp) _


set_option maxHeartbeats 2000000 in
set_option maxRecDepth 100000 in
theorem setStep_go (O C P l r0 r1 r2 re : Int) (bl bi : Nat) (w : World) (h : OkI O C P) (hl : Stamp l) (i0 : w.cell? ⟨bi, 0, none⟩ = some (.int .i64 O)) (i1 : w.cell? ⟨bi, 1, none⟩ = some (.int .i64 C)) (i2 : w.cell? ⟨bi, 2, none⟩ = some (.int .i64 P)) (j0 : w.cell? ⟨bl, 0, none⟩ = some (.int .i64 l))
    (hr : (chkV l (O + C) P = 0 ∧ l = r0 ∧ O + C = r1 ∧ P = r2 ∧ 0 = re) ∨ (chkV l (O + C) P = 230 ∧ 0 = r0 ∧ 0 = r1 ∧ 0 = r2 ∧ 6 = re)) :
    Calls Tryz.prog 65 #[.pointer (some ⟨bl, 0, none⟩), .pointer (some ⟨bi, 0, none⟩)] w fun e w' => e = .returned (.tuple #[.agg #[.int .i64 r0, .int .i64 r1, .int .i64 r2], .int .i64 re]) ∧ Below w.heap.size w w' := by
  obtain ⟨⟨o1, o2⟩, ⟨c1, c2⟩, ⟨p1, p2⟩⟩ := h
  obtain ⟨l1, l2⟩ := hl
  have z0 : bi < w.heap.size := World.block_lt_of_cell? _ _ i0
  have z3 : bi < w.heap.size + 1 := by omega
  have z4 : bl < w.heap.size := World.block_lt_of_cell? _ _ j0
  have z5 : bl < w.heap.size + 1 := by omega
  rcases hr with ⟨k, rfl, rfl, rfl, rfl⟩ | ⟨k, rfl, rfl, rfl, rfl⟩
  all_goals
    have K := Lib.hid k
    clear k
    go_enter Tryz.func65, Tryz.ntmps65
    go_wp2_with fail
    refine (check_any l (O + C) P _).mono ?_
    rw [K.out]
    rintro e w1 ⟨rfl, hb⟩
    have s0 : w1.cell? ⟨w.heap.size + 1, 0, none⟩ = some (.int .i64 l) := below_keep hb (by simp [go_sem])
    have s1 : w1.cell? ⟨w.heap.size + 1, 1, none⟩ = some (.int .i64 (O + C)) := below_keep hb (by simp [go_sem])
    have s2 : w1.cell? ⟨w.heap.size + 1, 2, none⟩ = some (.int .i64 P) := below_keep hb (by simp [go_sem])
    have f0 : w1.cell? ⟨w.heap.size, 0, none⟩ = some (.int .i64 0) := below_keep hb (by simp [go_sem])
    have f1 : w1.cell? ⟨w.heap.size, 1, none⟩ = some (.int .i64 0) := below_keep hb (by simp [go_sem])
    have f2 : w1.cell? ⟨w.heap.size, 2, none⟩ = some (.int .i64 0) := below_keep hb (by simp [go_sem])
    have f6 : ∀ o, w1.frozen? ⟨w.heap.size, o, none⟩ = false := fun o => by rw [(bcell hb).2 _ _ (by simp; omega)]; simp [go_sem]
    have H1 := Lib.hid (below_step (below_alloc (below_alloc (Below.refl _ _) _) _) hb)
    clear hb i0 i1 i2 j0
    go_wp2
  · refine bodyPost_ret (v := .tuple #[.agg #[.int .i64 l, .int .i64 (O + C), .int .i64 P], .int .i64 0]) (by simp [results, Tryz.results65, go_sem, *]) rfl ⟨rfl, ?_⟩
    have hb4 := H1.out
    exact ((hb4.setCell (by simp) _).setCell (by simp) _).setCell (by simp) _
  · refine bodyPost_ret (v := .tuple #[.agg #[.int .i64 0, .int .i64 0, .int .i64 0], .int .i64 6]) (by simp [results, Tryz.results65, go_sem, *]) rfl ⟨rfl, ?_⟩
    have hb4 := H1.out
    exact ((hb4.setCell (by simp) _).setCell (by simp) _).setCell (by simp) _

def stV (O C _l v : Int) : Int := if Stamp (O + C) then v else 0
def stE (O C : Int) : Int := if Stamp (O + C) then 0 else 6
theorem setStep (O C P l : Int) (bl bi : Nat) (w : World) (h : OkI O C P) (hl : Stamp l) (i0 : w.cell? ⟨bi, 0, none⟩ = some (.int .i64 O)) (i1 : w.cell? ⟨bi, 1, none⟩ = some (.int .i64 C)) (i2 : w.cell? ⟨bi, 2, none⟩ = some (.int .i64 P)) (j0 : w.cell? ⟨bl, 0, none⟩ = some (.int .i64 l)) :
    Calls Tryz.prog 65 #[.pointer (some ⟨bl, 0, none⟩), .pointer (some ⟨bi, 0, none⟩)] w fun e w' => e = .returned (.tuple #[.agg #[.int .i64 (stV O C l l), .int .i64 (stV O C l (O + C)), .int .i64 (stV O C l P)], .int .i64 (stE O C)]) ∧ Below w.heap.size w w' := by
  by_cases k : Stamp (O + C)
  · exact setStep_go O C P l _ _ _ _ bl bi w h hl i0 i1 i2 j0 (.inl ⟨if_pos ⟨hl.1, hl.2, k.1, k.2, h.2.2.1, h.2.2.2⟩, (if_pos k).symm, (if_pos k).symm, (if_pos k).symm, (if_pos k).symm⟩)
  · exact setStep_go O C P l _ _ _ _ bl bi w h hl i0 i1 i2 j0 (.inr ⟨if_neg (fun x => k ⟨x.2.2.1, x.2.2.2.1⟩), (if_neg k).symm, (if_neg k).symm, (if_neg k).symm, (if_neg k).symm⟩)

end Go.Proofs.YtkencmijghigiaaGreat
