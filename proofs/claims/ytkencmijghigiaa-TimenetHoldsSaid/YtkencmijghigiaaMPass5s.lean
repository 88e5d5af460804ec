/-
  The walks of the functions of package pass.
-/
import Derived.Deep.RegionHeld3
import Derived.Deep.DeepCutAuto
import Derived.Lib.QuietBelow
import Derived.BigQuiet
import Derived.Test.YtkencmijghigiaaMPass5l
namespace Go.Proofs.Ytkencmijghigiaa
open Go.RowKit Go.Lib Plain

set_option maxHeartbeats 40000000 in
set_option maxRecDepth 100000 in
/-- pass.Set -/
theorem set_any (O C P l : Int) (w : World) :
    Calls Try.prog 34 #[.agg #[.int .i64 O, .int .i64 C, .int .i64 P], .int .i64 l] w fun e w' => e = .returned (.tuple #[.agg #[.int .i64 (apV (OkI O C P) (Stamp l) (stV O C l l)), .int .i64 (apV (OkI O C P) (Stamp l) (stV O C l (O + C))), .int .i64 (apV (OkI O C P) (Stamp l) (stV O C l P))], .int .i64 (apE (OkI O C P) (Stamp l) (stE O C))]) ∧ Below w.heap.size w w' := by
  have q := Lib.hid (show wiB (nth [l]) (nth [-4398046511104]) (nth [4398046511104]) 1 = decide (Stamp l) from by unfold wiB; exact decide_eq_decide.2 (wi_stamp l))
  go_enter Try.func34, Try.ntmps34
  go_wp2
  refine wp_world ?_
  intro W hW
  have c1 : W.cell? ⟨w.heap.size, 0, none⟩ = some (.int .i64 O) := by subst hW; simp [go_sem]
  have c2 : W.cell? ⟨w.heap.size, 1, none⟩ = some (.int .i64 C) := by subst hW; simp [go_sem]
  have c3 : W.cell? ⟨w.heap.size, 2, none⟩ = some (.int .i64 P) := by subst hW; simp [go_sem]
  have c4 : W.cell? ⟨w.heap.size + 1, 0, none⟩ = some (.int .i64 l) := by subst hW; simp [go_sem]
  have c5 : W.cell? ⟨w.heap.size + 2, 0, none⟩ = some (.int .i64 0) := by subst hW; simp [go_sem]
  have c6 : W.cell? ⟨w.heap.size + 2, 1, none⟩ = some (.int .i64 0) := by subst hW; simp [go_sem]
  have c7 : W.cell? ⟨w.heap.size + 2, 2, none⟩ = some (.int .i64 0) := by subst hW; simp [go_sem]
  have c8 : ∀ o, W.frozen? ⟨w.heap.size + 2, o, none⟩ = false := fun o => by subst hW; simp [go_sem]
  have HW_W := Lib.hid (show Below w.heap.size w W by subst hW; exact below_alloc (below_alloc (below_alloc (Below.refl _ _) _) _) _)
  clear hW 
  have HK := Lib.hid (fun (h : OkI O C P) (k : (Stamp l)) W1 (hB : Below W.heap.size W W1) => setStep O C P l _ _ W1 h k (below_keep hB c1) (below_keep hB c2) (below_keep hB c3) (below_keep hB c4))
  have HS := Lib.hid (fun wx (hB : Below W.heap.size W wx) => (⟨below_step HW_W.out hB, below_keep hB c1, below_keep hB c2, below_keep hB c3, below_keep hB c4⟩ : Below w.heap.size w wx ∧ wx.cell? ⟨w.heap.size, 0, none⟩ = some (.int .i64 O) ∧ wx.cell? ⟨w.heap.size, 1, none⟩ = some (.int .i64 C) ∧ wx.cell? ⟨w.heap.size, 2, none⟩ = some (.int .i64 P) ∧ wx.cell? ⟨w.heap.size + 1, 0, none⟩ = some (.int .i64 l)))
  have HG := Lib.hid (fun wx (hB : Below W.heap.size W wx) => (⟨⟨below_keep hB c5, below_keep hB c6, below_keep hB c7⟩, fun o => ((bcell hB).2 _ _ (World.block_lt_of_cell? W ⟨w.heap.size + 2, 0, none⟩ c5)).trans (c8 o)⟩ : (wx.cell? ⟨w.heap.size + 2, 0, none⟩ = some (.int .i64 0) ∧ wx.cell? ⟨w.heap.size + 2, 1, none⟩ = some (.int .i64 0) ∧ wx.cell? ⟨w.heap.size + 2, 2, none⟩ = some (.int .i64 0)) ∧ ∀ o, wx.frozen? ⟨w.heap.size + 2, o, none⟩ = false))
  have zz0 : w.heap.size < W.heap.size := World.block_lt_of_cell? _ _ c1
  have zz1 : w.heap.size + 1 < W.heap.size := World.block_lt_of_cell? _ _ c4
  have zz2 : w.heap.size + 2 < W.heap.size := World.block_lt_of_cell? _ _ c5
  have jb := Lib.hid (Below.drew (Below.refl W.heap.size W))
  go_region_held3 (fun wx => Below w.heap.size w wx ∧ wx.cell? ⟨w.heap.size, 0, none⟩ = some (.int .i64 O) ∧ wx.cell? ⟨w.heap.size, 1, none⟩ = some (.int .i64 C) ∧ wx.cell? ⟨w.heap.size, 2, none⟩ = some (.int .i64 P) ∧ wx.cell? ⟨w.heap.size + 1, 0, none⟩ = some (.int .i64 l))
    (first | assumption | (refine HS.out _ ?_; (repeat (first | with_reducible exact jb.out | with_reducible exact Below.refl _ _ | with_reducible refine Below.drew ?_ | refine Below.setCell ?_ (by first | exact Nat.le_refl _ | omega | (simp; done) | (simp; omega)) _ | refine Below.alloc ?_ (by first | exact Nat.le_refl _ | omega | (simp; done) | (simp; omega)) _)); done) | (obtain ⟨hh, hc⟩ := HS.out _ jb.out; refine ⟨by (repeat (first | exact hh | refine Below.setCell ?_ (by first | (simp; done) | (simp; omega) | omega) _)), ?_⟩; simp [go_sem, hc]) | fail)
    (first | (go_at_call 58; refine (pstamp_any _ _).mono ?_; rintro e wz ⟨rfl, hb3⟩; have jb := Lib.hid (show Below W.heap.size W wz from below_step (by repeat (first | with_reducible exact jb.out | with_reducible exact Below.refl _ _ | with_reducible refine Below.drew ?_ | refine Below.alloc ?_ (by first | exact Nat.le_refl _ | omega | (simp; done) | (simp; omega)) _)) hb3); have jz : W.heap.size ≤ wz.heap.size := jb.out.size; clear hb3) | (go_at_call 57; refine (within_any (nth [l]) (nth [-4398046511104]) (nth [4398046511104]) 1 _ (by omega) _ (fun k hk => by match k, hk with | 0, _ => simp [go_sem]; rfl) (fun k hk => by match k, hk with | 0, _ => simp [go_sem]; rfl) (fun k hk => by match k, hk with | 0, _ => simp [go_sem]; rfl)).mono ?_; rw [q.out]; rintro e wz ⟨rfl, hb3⟩; have jb := Lib.hid (show Below W.heap.size W wz from below_step (by repeat (first | with_reducible exact jb.out | with_reducible exact Below.refl _ _ | with_reducible refine Below.drew ?_ | refine Below.alloc ?_ (by first | exact Nat.le_refl _ | omega | (simp; done) | (simp; omega)) _)) hb3); have jz : W.heap.size ≤ wz.heap.size := jb.out.size; clear hb3) | (go_at_call 56; refine (apSet_any O C P (stV O C l l) (stV O C l (O + C)) (stV O C l P) (stE O C) (Stamp l) _ _ _ (fun h k => Lib.hid fun W1 hB => HK.out h k W1 (below_step jb.out hB))).mono ?_; rintro e wz ⟨rfl, hb3⟩; have jb := Lib.hid (show Below W.heap.size W wz from below_step (by repeat (first | with_reducible exact jb.out | with_reducible exact Below.refl _ _ | with_reducible refine Below.drew ?_ | refine Below.alloc ?_ (by first | exact Nat.le_refl _ | omega | (simp; done) | (simp; omega)) _)) hb3); have jz : W.heap.size ≤ wz.heap.size := jb.out.size; obtain ⟨⟨e0, e1, e2⟩, e6⟩ := HG.out _ jb.out; clear hb3) | fail)
  all_goals go_wp2
  all_goals
    refine bodyPost_ret (v := .tuple #[.agg #[.int .i64 (apV (OkI O C P) (Stamp l) (stV O C l l)), .int .i64 (apV (OkI O C P) (Stamp l) (stV O C l (O + C))), .int .i64 (apV (OkI O C P) (Stamp l) (stV O C l P))], .int .i64 (apE (OkI O C P) (Stamp l) (stE O C))]) (by simp [results, Try.results34, go_sem, *]) rfl ⟨rfl, ?_⟩
    have hb4 := below_step HW_W.out jb.out
    exact ((hb4.setCell (by first | (simp; done) | (simp; omega) | omega) _).setCell (by first | (simp; done) | (simp; omega) | omega) _).setCell (by first | (simp; done) | (simp; omega) | omega) _

end Go.Proofs.Ytkencmijghigiaa
