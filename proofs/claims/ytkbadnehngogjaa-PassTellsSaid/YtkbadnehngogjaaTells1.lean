/-
  pass.Of and the reference's Of and Message, of any message. No conditions.
-/
import Derived.Test.YtkbadnehngogjaaR10All
import Derived.Test.YtkbadnehngogjaaPass6
import Derived.Test.YtkbadnehngogjaaPassRef
namespace Go.Proofs.Ytkbadnehngogjaa
open Go.RowKit Go.Lib Plain

set_option maxHeartbeats 4000000 in
set_option maxRecDepth 100000 in
theorem of_yes (D C i p S T P r q a b c v e g s : Int) (w : World) (h : rgtB (baseB D C i p S) (kindB 8 T P r q a b c v e g s) = true) :
    Calls Try.prog 24 #[.agg #[.int .i64 8, .int .i64 D, .int .i64 C, .int .i64 i, .int .i64 p, .int .i64 S, .int .i64 T, .int .i64 P, .int .i64 r, .int .i64 q, .int .i64 a, .int .i64 b, .int .i64 c, .int .i64 v, .int .i64 e, .int .i64 g, .int .i64 s]] w fun e1 w' => e1 = .returned (.tuple #[.agg #[.int .i64 T, .int .i64 C, .int .i64 P], .int .i64 0]) ∧ Below w.heap.size w w' := by
  have hk := Lib.hid h
  clear h
  go_enter Try.func24, Try.ntmps24
  go_wp2_with fail
  refine (ptpCheck_any 8 D C i p S T P r q a b c v e g s _).mono ?_
  rw [show chkB (baseB D C i p S) (kindB 8 T P r q a b c v e g s) = 0 by rw [chk_of_rgt, hk.out]; rfl]
  rintro e1 w1 ⟨rfl, hb1⟩
  have c1 : w1.cell? ⟨w.heap.size, 0, none⟩ = some (.int .i64 8) := below_keep hb1 (by simp [go_sem])
  have c2 : w1.cell? ⟨w.heap.size, 2, none⟩ = some (.int .i64 C) := below_keep hb1 (by simp [go_sem])
  have c3 : w1.cell? ⟨w.heap.size, 6, none⟩ = some (.int .i64 T) := below_keep hb1 (by simp [go_sem])
  have c4 : w1.cell? ⟨w.heap.size, 7, none⟩ = some (.int .i64 P) := below_keep hb1 (by simp [go_sem])
  have c5 : w1.cell? ⟨w.heap.size + 1, 0, none⟩ = some (.int .i64 0) := below_keep hb1 (by simp [go_sem])
  have c6 : w1.cell? ⟨w.heap.size + 1, 1, none⟩ = some (.int .i64 0) := below_keep hb1 (by simp [go_sem])
  have c7 : w1.cell? ⟨w.heap.size + 1, 2, none⟩ = some (.int .i64 0) := below_keep hb1 (by simp [go_sem])
  have c8 : ∀ o, w1.frozen? ⟨w.heap.size + 1, o, none⟩ = false := fun o => by rw [(bcell hb1).2 _ _ (by first | (simp; done) | (simp; omega))]; simp [go_sem]
  have H1 := Lib.hid (below_step (below_alloc (below_alloc (Below.refl _ _) _) _) hb1)
  clear hb1
  go_wp2
  refine bodyPost_ret (v := .tuple #[.agg #[.int .i64 T, .int .i64 C, .int .i64 P], .int .i64 0]) (by simp [results, Try.results24, go_sem, *]) rfl ⟨rfl, ?_⟩
  have hb4 := H1.out
  exact ((hb4.setCell (by simp) _).setCell (by simp) _).setCell (by simp) _

set_option maxHeartbeats 4000000 in
set_option maxRecDepth 100000 in
theorem of_no (K D C i p S T P r q a b c v e g s : Int) (w : World) (h : ¬ (K = 8 ∧ rgtB (baseB D C i p S) (kindB K T P r q a b c v e g s) = true)) :
    Calls Try.prog 24 #[.agg #[.int .i64 K, .int .i64 D, .int .i64 C, .int .i64 i, .int .i64 p, .int .i64 S, .int .i64 T, .int .i64 P, .int .i64 r, .int .i64 q, .int .i64 a, .int .i64 b, .int .i64 c, .int .i64 v, .int .i64 e, .int .i64 g, .int .i64 s]] w fun e1 w' => e1 = .returned (.tuple #[.agg #[.int .i64 0, .int .i64 0, .int .i64 0], .int .i64 200]) ∧ Below w.heap.size w w' := by
  cases hr : rgtB (baseB D C i p S) (kindB K T P r q a b c v e g s)
  · have hk := Lib.hid hr
    clear h hr
    go_enter Try.func24, Try.ntmps24
    go_wp2_with fail
    refine (ptpCheck_any K D C i p S T P r q a b c v e g s _).mono ?_
    rw [show chkB (baseB D C i p S) (kindB K T P r q a b c v e g s) = 200 by rw [chk_of_rgt, hk.out]; rfl]
    rintro e1 w1 ⟨rfl, hb1⟩
    have c1 : w1.cell? ⟨w.heap.size, 0, none⟩ = some (.int .i64 K) := below_keep hb1 (by simp [go_sem])
    have c2 : w1.cell? ⟨w.heap.size, 2, none⟩ = some (.int .i64 C) := below_keep hb1 (by simp [go_sem])
    have c3 : w1.cell? ⟨w.heap.size, 6, none⟩ = some (.int .i64 T) := below_keep hb1 (by simp [go_sem])
    have c4 : w1.cell? ⟨w.heap.size, 7, none⟩ = some (.int .i64 P) := below_keep hb1 (by simp [go_sem])
    have c5 : w1.cell? ⟨w.heap.size + 1, 0, none⟩ = some (.int .i64 0) := below_keep hb1 (by simp [go_sem])
    have c6 : w1.cell? ⟨w.heap.size + 1, 1, none⟩ = some (.int .i64 0) := below_keep hb1 (by simp [go_sem])
    have c7 : w1.cell? ⟨w.heap.size + 1, 2, none⟩ = some (.int .i64 0) := below_keep hb1 (by simp [go_sem])
    have c8 : ∀ o, w1.frozen? ⟨w.heap.size + 1, o, none⟩ = false := fun o => by rw [(bcell hb1).2 _ _ (by first | (simp; done) | (simp; omega))]; simp [go_sem]
    have H1 := Lib.hid (below_step (below_alloc (below_alloc (Below.refl _ _) _) _) hb1)
    clear hb1
    go_wp2
    refine bodyPost_ret (v := .tuple #[.agg #[.int .i64 0, .int .i64 0, .int .i64 0], .int .i64 200]) (by simp [results, Try.results24, go_sem, *]) rfl ⟨rfl, ?_⟩
    have hb4 := H1.out
    exact ((hb4.setCell (by simp) _).setCell (by simp) _).setCell (by simp) _
  · have h8 : ¬ K = 8 := fun x => h ⟨x, hr⟩
    have hk := Lib.hid hr
    clear h hr
    go_enter Try.func24, Try.ntmps24
    go_wp2_with fail
    refine (ptpCheck_any K D C i p S T P r q a b c v e g s _).mono ?_
    rw [show chkB (baseB D C i p S) (kindB K T P r q a b c v e g s) = 0 by rw [chk_of_rgt, hk.out]; rfl]
    rintro e1 w1 ⟨rfl, hb1⟩
    have c1 : w1.cell? ⟨w.heap.size, 0, none⟩ = some (.int .i64 K) := below_keep hb1 (by simp [go_sem])
    have c2 : w1.cell? ⟨w.heap.size, 2, none⟩ = some (.int .i64 C) := below_keep hb1 (by simp [go_sem])
    have c3 : w1.cell? ⟨w.heap.size, 6, none⟩ = some (.int .i64 T) := below_keep hb1 (by simp [go_sem])
    have c4 : w1.cell? ⟨w.heap.size, 7, none⟩ = some (.int .i64 P) := below_keep hb1 (by simp [go_sem])
    have c5 : w1.cell? ⟨w.heap.size + 1, 0, none⟩ = some (.int .i64 0) := below_keep hb1 (by simp [go_sem])
    have c6 : w1.cell? ⟨w.heap.size + 1, 1, none⟩ = some (.int .i64 0) := below_keep hb1 (by simp [go_sem])
    have c7 : w1.cell? ⟨w.heap.size + 1, 2, none⟩ = some (.int .i64 0) := below_keep hb1 (by simp [go_sem])
    have c8 : ∀ o, w1.frozen? ⟨w.heap.size + 1, o, none⟩ = false := fun o => by rw [(bcell hb1).2 _ _ (by first | (simp; done) | (simp; omega))]; simp [go_sem]
    have H1 := Lib.hid (below_step (below_alloc (below_alloc (Below.refl _ _) _) _) hb1)
    clear hb1
    go_wp2
    refine bodyPost_ret (v := .tuple #[.agg #[.int .i64 0, .int .i64 0, .int .i64 0], .int .i64 200]) (by simp [results, Try.results24, go_sem, *]) rfl ⟨rfl, ?_⟩
    have hb4 := H1.out
    exact ((hb4.setCell (by simp) _).setCell (by simp) _).setCell (by simp) _

set_option maxHeartbeats 4000000 in
set_option maxRecDepth 100000 in
theorem rOf_yes (D C i p S T P r q a b c v e g s : Int) (w : World) (h : rgtB (baseB D C i p S) (kindB 8 T P r q a b c v e g s) = true) :
    Calls Try.prog 25 #[.agg #[.int .i64 8, .int .i64 D, .int .i64 C, .int .i64 i, .int .i64 p, .int .i64 S, .int .i64 T, .int .i64 P, .int .i64 r, .int .i64 q, .int .i64 a, .int .i64 b, .int .i64 c, .int .i64 v, .int .i64 e, .int .i64 g, .int .i64 s]] w fun e1 w' => e1 = .returned (.tuple #[.agg #[.int .i64 T, .int .i64 C, .int .i64 P], .int .i64 0]) ∧ Below w.heap.size w w' := by
  have hk := Lib.hid h
  clear h
  go_enter Try.func25, Try.ntmps25
  go_wp2_with fail
  refine (rMsgRight_any 8 D C i p S T P r q a b c v e g s _).mono ?_
  rw [hk.out]
  rintro e1 w1 ⟨rfl, hb1⟩
  have c1 : w1.cell? ⟨w.heap.size, 0, none⟩ = some (.int .i64 8) := below_keep hb1 (by simp [go_sem])
  have c2 : w1.cell? ⟨w.heap.size, 2, none⟩ = some (.int .i64 C) := below_keep hb1 (by simp [go_sem])
  have c3 : w1.cell? ⟨w.heap.size, 6, none⟩ = some (.int .i64 T) := below_keep hb1 (by simp [go_sem])
  have c4 : w1.cell? ⟨w.heap.size, 7, none⟩ = some (.int .i64 P) := below_keep hb1 (by simp [go_sem])
  have c5 : w1.cell? ⟨w.heap.size + 1, 0, none⟩ = some (.int .i64 0) := below_keep hb1 (by simp [go_sem])
  have c6 : w1.cell? ⟨w.heap.size + 1, 1, none⟩ = some (.int .i64 0) := below_keep hb1 (by simp [go_sem])
  have c7 : w1.cell? ⟨w.heap.size + 1, 2, none⟩ = some (.int .i64 0) := below_keep hb1 (by simp [go_sem])
  have c8 : ∀ o, w1.frozen? ⟨w.heap.size + 1, o, none⟩ = false := fun o => by rw [(bcell hb1).2 _ _ (by first | (simp; done) | (simp; omega))]; simp [go_sem]
  have H1 := Lib.hid (below_step (below_alloc (below_alloc (Below.refl _ _) _) _) hb1)
  clear hb1
  go_wp2
  refine bodyPost_ret (v := .tuple #[.agg #[.int .i64 T, .int .i64 C, .int .i64 P], .int .i64 0]) (by simp [results, Try.results25, go_sem, *]) rfl ⟨rfl, ?_⟩
  have hb4 := H1.out
  exact ((hb4.setCell (by simp) _).setCell (by simp) _).setCell (by simp) _

set_option maxHeartbeats 4000000 in
set_option maxRecDepth 100000 in
theorem rOf_no (K D C i p S T P r q a b c v e g s : Int) (w : World) (h : ¬ (K = 8 ∧ rgtB (baseB D C i p S) (kindB K T P r q a b c v e g s) = true)) :
    Calls Try.prog 25 #[.agg #[.int .i64 K, .int .i64 D, .int .i64 C, .int .i64 i, .int .i64 p, .int .i64 S, .int .i64 T, .int .i64 P, .int .i64 r, .int .i64 q, .int .i64 a, .int .i64 b, .int .i64 c, .int .i64 v, .int .i64 e, .int .i64 g, .int .i64 s]] w fun e1 w' => e1 = .returned (.tuple #[.agg #[.int .i64 0, .int .i64 0, .int .i64 0], .int .i64 200]) ∧ Below w.heap.size w w' := by
  cases hr : rgtB (baseB D C i p S) (kindB K T P r q a b c v e g s)
  · have hk := Lib.hid hr
    clear h hr
    go_enter Try.func25, Try.ntmps25
    go_wp2_with fail
    refine (rMsgRight_any K D C i p S T P r q a b c v e g s _).mono ?_
    rw [hk.out]
    rintro e1 w1 ⟨rfl, hb1⟩
    have c1 : w1.cell? ⟨w.heap.size, 0, none⟩ = some (.int .i64 K) := below_keep hb1 (by simp [go_sem])
    have c2 : w1.cell? ⟨w.heap.size, 2, none⟩ = some (.int .i64 C) := below_keep hb1 (by simp [go_sem])
    have c3 : w1.cell? ⟨w.heap.size, 6, none⟩ = some (.int .i64 T) := below_keep hb1 (by simp [go_sem])
    have c4 : w1.cell? ⟨w.heap.size, 7, none⟩ = some (.int .i64 P) := below_keep hb1 (by simp [go_sem])
    have c5 : w1.cell? ⟨w.heap.size + 1, 0, none⟩ = some (.int .i64 0) := below_keep hb1 (by simp [go_sem])
    have c6 : w1.cell? ⟨w.heap.size + 1, 1, none⟩ = some (.int .i64 0) := below_keep hb1 (by simp [go_sem])
    have c7 : w1.cell? ⟨w.heap.size + 1, 2, none⟩ = some (.int .i64 0) := below_keep hb1 (by simp [go_sem])
    have c8 : ∀ o, w1.frozen? ⟨w.heap.size + 1, o, none⟩ = false := fun o => by rw [(bcell hb1).2 _ _ (by first | (simp; done) | (simp; omega))]; simp [go_sem]
    have H1 := Lib.hid (below_step (below_alloc (below_alloc (Below.refl _ _) _) _) hb1)
    clear hb1
    go_wp2
    refine bodyPost_ret (v := .tuple #[.agg #[.int .i64 0, .int .i64 0, .int .i64 0], .int .i64 200]) (by simp [results, Try.results25, go_sem, *]) rfl ⟨rfl, ?_⟩
    have hb4 := H1.out
    exact ((hb4.setCell (by simp) _).setCell (by simp) _).setCell (by simp) _
  · have h8 : ¬ K = 8 := fun x => h ⟨x, hr⟩
    have hk := Lib.hid hr
    clear h hr
    go_enter Try.func25, Try.ntmps25
    go_wp2_with fail
    refine (rMsgRight_any K D C i p S T P r q a b c v e g s _).mono ?_
    rw [hk.out]
    rintro e1 w1 ⟨rfl, hb1⟩
    have c1 : w1.cell? ⟨w.heap.size, 0, none⟩ = some (.int .i64 K) := below_keep hb1 (by simp [go_sem])
    have c2 : w1.cell? ⟨w.heap.size, 2, none⟩ = some (.int .i64 C) := below_keep hb1 (by simp [go_sem])
    have c3 : w1.cell? ⟨w.heap.size, 6, none⟩ = some (.int .i64 T) := below_keep hb1 (by simp [go_sem])
    have c4 : w1.cell? ⟨w.heap.size, 7, none⟩ = some (.int .i64 P) := below_keep hb1 (by simp [go_sem])
    have c5 : w1.cell? ⟨w.heap.size + 1, 0, none⟩ = some (.int .i64 0) := below_keep hb1 (by simp [go_sem])
    have c6 : w1.cell? ⟨w.heap.size + 1, 1, none⟩ = some (.int .i64 0) := below_keep hb1 (by simp [go_sem])
    have c7 : w1.cell? ⟨w.heap.size + 1, 2, none⟩ = some (.int .i64 0) := below_keep hb1 (by simp [go_sem])
    have c8 : ∀ o, w1.frozen? ⟨w.heap.size + 1, o, none⟩ = false := fun o => by rw [(bcell hb1).2 _ _ (by first | (simp; done) | (simp; omega))]; simp [go_sem]
    have H1 := Lib.hid (below_step (below_alloc (below_alloc (Below.refl _ _) _) _) hb1)
    clear hb1
    go_wp2
    refine bodyPost_ret (v := .tuple #[.agg #[.int .i64 0, .int .i64 0, .int .i64 0], .int .i64 200]) (by simp [results, Try.results25, go_sem, *]) rfl ⟨rfl, ?_⟩
    have hb4 := H1.out
    exact ((hb4.setCell (by simp) _).setCell (by simp) _).setCell (by simp) _

set_option maxHeartbeats 4000000 in
set_option maxRecDepth 100000 in
theorem rMessage_bad (O C P D i p S : Int) (w : World) (h : ¬ OkI O C P) :
    Calls Try.prog 22 #[.agg #[.int .i64 O, .int .i64 C, .int .i64 P], .int .i64 D, .agg #[.int .i64 i, .int .i64 p], .int .i64 S] w fun e w' => e = .returned (.tuple #[.agg (z17).toArray, .int .i64 240]) ∧ Below w.heap.size w w' := by
  have ha := Lib.hid agg_msg
  have hs := Lib.hid size_msg
  have q := Lib.hid (show okI O C P = false from decide_eq_false h)
  clear h
  go_enter Try.func22, Try.ntmps22
  go_wp2_with fail
  refine (rRight_any O C P _).mono ?_
  rw [q.out]
  rintro e w1 ⟨rfl, hb1⟩
  have c1 : w1.cell? ⟨w.heap.size, 0, none⟩ = some (.int .i64 O) := below_keep hb1 (by simp [go_sem])
  have c2 : w1.cell? ⟨w.heap.size, 1, none⟩ = some (.int .i64 C) := below_keep hb1 (by simp [go_sem])
  have c3 : w1.cell? ⟨w.heap.size, 2, none⟩ = some (.int .i64 P) := below_keep hb1 (by simp [go_sem])
  have c4 : w1.cell? ⟨w.heap.size + 1, 0, none⟩ = some (.int .i64 i) := below_keep hb1 (by simp [go_sem])
  have c5 : w1.cell? ⟨w.heap.size + 1, 1, none⟩ = some (.int .i64 p) := below_keep hb1 (by simp [go_sem])
  have G := Lib.hid (show Holds w1 (w.heap.size + 2) z17 from (holds_alloc _ z17 46 (by simp)).keep hb1)
  have GF := Lib.hid (show ∀ o, w1.frozen? ⟨w.heap.size + 2, o, none⟩ = false from fun o => by rw [(bcell hb1).2 _ _ (by first | (simp; done) | (simp; omega))]; exact frozen_new _ _ _ _ (by simp))
  have H1 := Lib.hid (below_step (below_alloc (below_alloc (below_alloc (Below.refl _ _) _) _) _) hb1)
  have z2 : w.heap.size + 2 < w1.heap.size := World.block_lt_of_cell? _ _ (G.out 0 _ rfl)
  clear hb1
  go_wp2_with (refine wpList_store_whole rfl (.tmp 8) (.tmp 14) 46 rfl (w.heap.size + 2) 0 z17 rfl rfl hs.out (fun j hj => G.out.some j (by simpa [z17] using hj)) (fun j _ => GF.out (0 + j)) z17_one ?_; intro w5 hw5)
  have hL := run_loadVar_whole (P := Try.prog) (w := w5) 46 (w.heap.size + 2) 0 z17 ha.out hs.out hw5.here
  refine bodyPost_ret (v := .tuple #[.agg z17.toArray, .int .i64 240]) (results_cell_tmp 8 9 46 Try.results22 (w.heap.size + 2) 0 _ _ rfl hL rfl) rfl ⟨rfl, hw5.below _ _ (by omega) H1.out⟩

set_option maxHeartbeats 4000000 in
set_option maxRecDepth 100000 in
theorem rMessage_no (O C P D i p S : Int) (w : World) (h : OkI O C P) (k : ¬ FolOk D C i p S O P) :
    Calls Try.prog 22 #[.agg #[.int .i64 O, .int .i64 C, .int .i64 P], .int .i64 D, .agg #[.int .i64 i, .int .i64 p], .int .i64 S] w fun e w' => e = .returned (.tuple #[.agg (z17).toArray, .int .i64 200]) ∧ Below w.heap.size w w' := by
  have ha := Lib.hid agg_msg
  have hs := Lib.hid size_msg
  have q := Lib.hid (show okI O C P = true from decide_eq_true h)
  have kk := Lib.hid (show rgtB (baseB D C i p S) (kindB 8 O P 0 0 0 0 0 0 0 0 0) = false by rw [fol_rgt]; exact decide_eq_false k)
  clear k
  clear h
  go_enter Try.func22, Try.ntmps22
  go_wp2_with fail
  refine (rRight_any O C P _).mono ?_
  rw [q.out]
  rintro e w1 ⟨rfl, hb1⟩
  have c1 : w1.cell? ⟨w.heap.size, 0, none⟩ = some (.int .i64 O) := below_keep hb1 (by simp [go_sem])
  have c2 : w1.cell? ⟨w.heap.size, 1, none⟩ = some (.int .i64 C) := below_keep hb1 (by simp [go_sem])
  have c3 : w1.cell? ⟨w.heap.size, 2, none⟩ = some (.int .i64 P) := below_keep hb1 (by simp [go_sem])
  have c4 : w1.cell? ⟨w.heap.size + 1, 0, none⟩ = some (.int .i64 i) := below_keep hb1 (by simp [go_sem])
  have c5 : w1.cell? ⟨w.heap.size + 1, 1, none⟩ = some (.int .i64 p) := below_keep hb1 (by simp [go_sem])
  have G := Lib.hid (show Holds w1 (w.heap.size + 2) z17 from (holds_alloc _ z17 46 (by simp)).keep hb1)
  have GF := Lib.hid (show ∀ o, w1.frozen? ⟨w.heap.size + 2, o, none⟩ = false from fun o => by rw [(bcell hb1).2 _ _ (by first | (simp; done) | (simp; omega))]; exact frozen_new _ _ _ _ (by simp))
  have H1 := Lib.hid (below_step (below_alloc (below_alloc (below_alloc (Below.refl _ _) _) _) _) hb1)
  have z2 : w.heap.size + 2 < w1.heap.size := World.block_lt_of_cell? _ _ (G.out 0 _ rfl)
  clear hb1
  go_wp2_with fail
  refine (rMsgRight_any 8 D C i p S O P 0 0 0 0 0 0 0 0 0 _).mono ?_
  rw [kk.out]
  rintro e w2 ⟨rfl, hb2⟩
  have G2 := Lib.hid (show Holds w2 (w.heap.size + 2) z17 from (G.out.alloc z2 _).keep hb2)
  have GF2 := Lib.hid (show ∀ o, w2.frozen? ⟨w.heap.size + 2, o, none⟩ = false from fun o => by rw [(bcell hb2).2 _ _ (by first | (simp; done) | (simp; omega)), World.frozen?_alloc_old _ _ _ (Nat.ne_of_lt z2)]; exact GF.out o)
  have Z := Lib.hid (show Holds w2 w1.heap.size (folM D C i p S O P) from (holds_alloc _ (folM D C i p S O P) 46 (by simp)).keep hb2)
  have H2 := Lib.hid (below_step (below_alloc H1.out _) hb2)
  clear hb2 c1 c2 c3 c4 c5 G GF H1
  go_wp2_with (first | refine wpList_load_whole rfl (.tmp 10) 46 rfl w1.heap.size 0 (folM D C i p S O P) rfl ha.out hs.out Z.out ?_ | (refine wpList_store_whole rfl (.tmp 8) (.tmp 28) 46 rfl (w.heap.size + 2) 0 (z17) rfl rfl hs.out (fun j hj => G2.out.some j (by simpa [z17, folM] using hj)) (fun j _ => GF2.out (0 + j)) z17_one ?_; intro w5 hw5))
  have hL := run_loadVar_whole (P := Try.prog) (w := w5) 46 (w.heap.size + 2) 0 (z17) ha.out hs.out hw5.here
  refine bodyPost_ret (v := .tuple #[.agg (z17).toArray, .int .i64 200]) (results_cell_tmp 8 9 46 Try.results22 (w.heap.size + 2) 0 _ _ rfl hL rfl) rfl ⟨rfl, hw5.below _ _ (by omega) H2.out⟩

set_option maxHeartbeats 4000000 in
set_option maxRecDepth 100000 in
theorem rMessage_yes (O C P D i p S : Int) (w : World) (h : OkI O C P) (k : FolOk D C i p S O P) :
    Calls Try.prog 22 #[.agg #[.int .i64 O, .int .i64 C, .int .i64 P], .int .i64 D, .agg #[.int .i64 i, .int .i64 p], .int .i64 S] w fun e w' => e = .returned (.tuple #[.agg (folM D C i p S O P).toArray, .int .i64 0]) ∧ Below w.heap.size w w' := by
  have ha := Lib.hid agg_msg
  have hs := Lib.hid size_msg
  have q := Lib.hid (show okI O C P = true from decide_eq_true h)
  have kk := Lib.hid (show rgtB (baseB D C i p S) (kindB 8 O P 0 0 0 0 0 0 0 0 0) = true by rw [fol_rgt]; exact decide_eq_true k)
  clear k
  clear h
  go_enter Try.func22, Try.ntmps22
  go_wp2_with fail
  refine (rRight_any O C P _).mono ?_
  rw [q.out]
  rintro e w1 ⟨rfl, hb1⟩
  have c1 : w1.cell? ⟨w.heap.size, 0, none⟩ = some (.int .i64 O) := below_keep hb1 (by simp [go_sem])
  have c2 : w1.cell? ⟨w.heap.size, 1, none⟩ = some (.int .i64 C) := below_keep hb1 (by simp [go_sem])
  have c3 : w1.cell? ⟨w.heap.size, 2, none⟩ = some (.int .i64 P) := below_keep hb1 (by simp [go_sem])
  have c4 : w1.cell? ⟨w.heap.size + 1, 0, none⟩ = some (.int .i64 i) := below_keep hb1 (by simp [go_sem])
  have c5 : w1.cell? ⟨w.heap.size + 1, 1, none⟩ = some (.int .i64 p) := below_keep hb1 (by simp [go_sem])
  have G := Lib.hid (show Holds w1 (w.heap.size + 2) z17 from (holds_alloc _ z17 46 (by simp)).keep hb1)
  have GF := Lib.hid (show ∀ o, w1.frozen? ⟨w.heap.size + 2, o, none⟩ = false from fun o => by rw [(bcell hb1).2 _ _ (by first | (simp; done) | (simp; omega))]; exact frozen_new _ _ _ _ (by simp))
  have H1 := Lib.hid (below_step (below_alloc (below_alloc (below_alloc (Below.refl _ _) _) _) _) hb1)
  have z2 : w.heap.size + 2 < w1.heap.size := World.block_lt_of_cell? _ _ (G.out 0 _ rfl)
  clear hb1
  go_wp2_with fail
  refine (rMsgRight_any 8 D C i p S O P 0 0 0 0 0 0 0 0 0 _).mono ?_
  rw [kk.out]
  rintro e w2 ⟨rfl, hb2⟩
  have G2 := Lib.hid (show Holds w2 (w.heap.size + 2) z17 from (G.out.alloc z2 _).keep hb2)
  have GF2 := Lib.hid (show ∀ o, w2.frozen? ⟨w.heap.size + 2, o, none⟩ = false from fun o => by rw [(bcell hb2).2 _ _ (by first | (simp; done) | (simp; omega)), World.frozen?_alloc_old _ _ _ (Nat.ne_of_lt z2)]; exact GF.out o)
  have Z := Lib.hid (show Holds w2 w1.heap.size (folM D C i p S O P) from (holds_alloc _ (folM D C i p S O P) 46 (by simp)).keep hb2)
  have H2 := Lib.hid (below_step (below_alloc H1.out _) hb2)
  clear hb2 c1 c2 c3 c4 c5 G GF H1
  go_wp2_with (first | refine wpList_load_whole rfl (.tmp 10) 46 rfl w1.heap.size 0 (folM D C i p S O P) rfl ha.out hs.out Z.out ?_ | (refine wpList_store_whole rfl (.tmp 8) (.tmp 29) 46 rfl (w.heap.size + 2) 0 (folM D C i p S O P) rfl rfl hs.out (fun j hj => G2.out.some j (by simpa [z17, folM] using hj)) (fun j _ => GF2.out (0 + j)) (folM_one _ _ _ _ _ _ _) ?_; intro w5 hw5))
  have hL := run_loadVar_whole (P := Try.prog) (w := w5) 46 (w.heap.size + 2) 0 (folM D C i p S O P) ha.out hs.out hw5.here
  refine bodyPost_ret (v := .tuple #[.agg (folM D C i p S O P).toArray, .int .i64 0]) (results_cell_tmp 8 9 46 Try.results22 (w.heap.size + 2) 0 _ _ rfl hL rfl) rfl ⟨rfl, hw5.below _ _ (by omega) H2.out⟩

/-- isochronref14.Message -/
theorem rMessage_any (O C P D i p S : Int) (w : World) :
    Calls Try.prog 22 #[.agg #[.int .i64 O, .int .i64 C, .int .i64 P], .int .i64 D, .agg #[.int .i64 i, .int .i64 p], .int .i64 S] w fun e w' => e = .returned (.tuple #[.agg (msL O C P D i p S).toArray, .int .i64 (msE O C P D i p S)]) ∧ Below w.heap.size w w' := by
  by_cases h : OkI O C P
  · by_cases k : FolOk D C i p S O P
    · rw [show msL O C P D i p S = folM D C i p S O P from if_pos ⟨h, k⟩, show msE O C P D i p S = 0 by unfold msE; rw [if_pos h, if_pos k]]
      exact rMessage_yes O C P D i p S w h k
    · rw [show msL O C P D i p S = z17 from if_neg (fun x => k x.2), show msE O C P D i p S = 200 by unfold msE; rw [if_pos h, if_neg k]]
      exact rMessage_no O C P D i p S w h k
  · rw [show msL O C P D i p S = z17 from if_neg (fun x => h x.1), show msE O C P D i p S = 240 from if_neg h]
    exact rMessage_bad O C P D i p S w h

end Go.Proofs.Ytkbadnehngogjaa
