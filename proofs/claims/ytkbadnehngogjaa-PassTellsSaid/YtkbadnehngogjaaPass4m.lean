/-
  The walk of Message's step.
-/
import Derived.Test.YtkbadnehngogjaaPass3m
import Derived.Test.YtkbadnehngogjaaPtpFol3
namespace Go.Proofs.Ytkbadnehngogjaa
open Go.RowKit Go.Lib Plain

/-- The message that is sent, or none. -/
def msgL (ok : Prop) [Decidable ok] (D C i p S T P : Int) : List Value := if ok then folM D C i p S T P else z17
def msgE (ok : Prop) [Decidable ok] : Int := if ok then 0 else 200

theorem folM_one (D C i p S T P : Int) : ∀ v ∈ folM D C i p S T P, v.oneCell' = true := by
  intro v hv
  simp [folM] at hv
  rcases hv with rfl | rfl | rfl | rfl | rfl | rfl | rfl | rfl | rfl <;> rfl

set_option maxHeartbeats 4000000 in
set_option maxRecDepth 100000 in
theorem msgStep_ok (D O C P i p S : Int) (bD bi bp bs : Nat) (w : World) (h : FolOk D C i p S O P) (j0 : w.cell? ⟨bD, 0, none⟩ = some (.int .i64 D)) (i0 : w.cell? ⟨bi, 0, none⟩ = some (.int .i64 O)) (i1 : w.cell? ⟨bi, 1, none⟩ = some (.int .i64 C)) (i2 : w.cell? ⟨bi, 2, none⟩ = some (.int .i64 P)) (k0 : w.cell? ⟨bp, 0, none⟩ = some (.int .i64 i)) (k1 : w.cell? ⟨bp, 1, none⟩ = some (.int .i64 p)) (l0 : w.cell? ⟨bs, 0, none⟩ = some (.int .i64 S)) :
    Calls Try.prog 48 #[.pointer (some ⟨bD, 0, none⟩), .pointer (some ⟨bi, 0, none⟩), .pointer (some ⟨bp, 0, none⟩), .pointer (some ⟨bs, 0, none⟩)] w fun e w' => e = .returned (.tuple #[.agg (folM D C i p S O P).toArray, .int .i64 0]) ∧ Below w.heap.size w w' := by
  have k := Lib.hid (show folV D C i p S O P = 0 from if_pos h)
  have ha := Lib.hid agg_msg
  have hs := Lib.hid size_msg
  have z0 : bD < w.heap.size := World.block_lt_of_cell? _ _ j0
  have y0 : bD < w.heap.size + 1 := by omega
  have z1 : bi < w.heap.size := World.block_lt_of_cell? _ _ i0
  have y1 : bi < w.heap.size + 1 := by omega
  have z2 : bp < w.heap.size := World.block_lt_of_cell? _ _ k0
  have y2 : bp < w.heap.size + 1 := by omega
  have z3 : bs < w.heap.size := World.block_lt_of_cell? _ _ l0
  have y3 : bs < w.heap.size + 1 := by omega
  clear h
  go_enter Try.func48, Try.ntmps48
  go_wp2_with fail
  refine (ptpCheck_follow D C i p S O P _).mono ?_
  rw [k.out]
  rintro e w1 ⟨rfl, hb⟩
  have G := Lib.hid (show Holds w1 w.heap.size z17 from ((holds_alloc _ z17 46 (by simp)).alloc (by simp) _).keep hb)
  have Z := Lib.hid (show Holds w1 (w.heap.size + 1) (folM D C i p S O P) from (holds_alloc _ (folM D C i p S O P) 46 (by simp)).keep hb)
  have GF := Lib.hid (show ∀ o, w1.frozen? ⟨w.heap.size, o, none⟩ = false from fun o => by rw [(bcell hb).2 _ _ (by first | (simp; done) | (simp; omega)), World.frozen?_alloc_old _ _ _ (by simp)]; exact frozen_new _ _ _ _ (by simp))
  have H1 := Lib.hid (below_step (below_alloc (below_alloc (Below.refl _ _) _) _) hb)
  clear hb i0 i1 i2 j0 k0 k1 l0
  go_wp2_with (first | refine wpList_load_whole rfl (.tmp 6) 46 rfl (w.heap.size + 1) 0 (folM D C i p S O P) rfl ha.out hs.out Z.out ?_ | (refine wpList_store_whole rfl (.tmp 4) (.tmp 21) 46 rfl w.heap.size 0 (folM D C i p S O P) rfl rfl hs.out (fun j hj => G.out.some j (by simpa [z17, folM] using hj)) (fun j _ => GF.out (0 + j)) (folM_one _ _ _ _ _ _ _) ?_; intro w5 hw5))
  have hL := run_loadVar_whole (P := Try.prog) (w := w5) 46 w.heap.size 0 (folM D C i p S O P) ha.out hs.out hw5.here
  refine bodyPost_ret (v := .tuple #[.agg (folM D C i p S O P).toArray, .int .i64 0]) (results_cell_tmp 4 5 46 Try.results48 w.heap.size 0 _ _ rfl hL rfl) rfl ⟨rfl, hw5.below _ _ (by omega) H1.out⟩

set_option maxHeartbeats 4000000 in
set_option maxRecDepth 100000 in
theorem msgStep_bad (D O C P i p S : Int) (bD bi bp bs : Nat) (w : World) (h : ¬ FolOk D C i p S O P) (j0 : w.cell? ⟨bD, 0, none⟩ = some (.int .i64 D)) (i0 : w.cell? ⟨bi, 0, none⟩ = some (.int .i64 O)) (i1 : w.cell? ⟨bi, 1, none⟩ = some (.int .i64 C)) (i2 : w.cell? ⟨bi, 2, none⟩ = some (.int .i64 P)) (k0 : w.cell? ⟨bp, 0, none⟩ = some (.int .i64 i)) (k1 : w.cell? ⟨bp, 1, none⟩ = some (.int .i64 p)) (l0 : w.cell? ⟨bs, 0, none⟩ = some (.int .i64 S)) :
    Calls Try.prog 48 #[.pointer (some ⟨bD, 0, none⟩), .pointer (some ⟨bi, 0, none⟩), .pointer (some ⟨bp, 0, none⟩), .pointer (some ⟨bs, 0, none⟩)] w fun e w' => e = .returned (.tuple #[.agg z17.toArray, .int .i64 200]) ∧ Below w.heap.size w w' := by
  have k := Lib.hid (show folV D C i p S O P = 200 from if_neg h)
  have ha := Lib.hid agg_msg
  have hs := Lib.hid size_msg
  have z0 : bD < w.heap.size := World.block_lt_of_cell? _ _ j0
  have y0 : bD < w.heap.size + 1 := by omega
  have z1 : bi < w.heap.size := World.block_lt_of_cell? _ _ i0
  have y1 : bi < w.heap.size + 1 := by omega
  have z2 : bp < w.heap.size := World.block_lt_of_cell? _ _ k0
  have y2 : bp < w.heap.size + 1 := by omega
  have z3 : bs < w.heap.size := World.block_lt_of_cell? _ _ l0
  have y3 : bs < w.heap.size + 1 := by omega
  clear h
  go_enter Try.func48, Try.ntmps48
  go_wp2_with fail
  refine (ptpCheck_follow D C i p S O P _).mono ?_
  rw [k.out]
  rintro e w1 ⟨rfl, hb⟩
  have G := Lib.hid (show Holds w1 w.heap.size z17 from ((holds_alloc _ z17 46 (by simp)).alloc (by simp) _).keep hb)
  have Z := Lib.hid (show Holds w1 (w.heap.size + 1) (folM D C i p S O P) from (holds_alloc _ (folM D C i p S O P) 46 (by simp)).keep hb)
  have GF := Lib.hid (show ∀ o, w1.frozen? ⟨w.heap.size, o, none⟩ = false from fun o => by rw [(bcell hb).2 _ _ (by first | (simp; done) | (simp; omega)), World.frozen?_alloc_old _ _ _ (by simp)]; exact frozen_new _ _ _ _ (by simp))
  have H1 := Lib.hid (below_step (below_alloc (below_alloc (Below.refl _ _) _) _) hb)
  clear hb i0 i1 i2 j0 k0 k1 l0
  go_wp2_with (first | refine wpList_load_whole rfl (.tmp 6) 46 rfl (w.heap.size + 1) 0 (folM D C i p S O P) rfl ha.out hs.out Z.out ?_ | (refine wpList_store_whole rfl (.tmp 4) (.tmp 20) 46 rfl w.heap.size 0 z17 rfl rfl hs.out (fun j hj => G.out.some j (by simpa [z17] using hj)) (fun j _ => GF.out (0 + j)) (z17_one) ?_; intro w5 hw5))
  have hL := run_loadVar_whole (P := Try.prog) (w := w5) 46 w.heap.size 0 z17 ha.out hs.out hw5.here
  refine bodyPost_ret (v := .tuple #[.agg z17.toArray, .int .i64 200]) (results_cell_tmp 4 5 46 Try.results48 w.heap.size 0 _ _ rfl hL rfl) rfl ⟨rfl, hw5.below _ _ (by omega) H1.out⟩

end Go.Proofs.Ytkbadnehngogjaa
