/-
  Texts of this claim laid together: Pass5a, Pass5s.
-/
import Derived.Deep.RegionHeld3
import Derived.Deep.DeepCutAuto
import Derived.Lib.QuietBelow
import Derived.BigQuiet
import Derived.Test.YtkencmijghigiaaGreatMPat
namespace Go.Proofs.YtkencmijghigiaaGreat
open Go.RowKit Go.Lib Plain

set_option maxHeartbeats 40000000 in
set_option maxRecDepth 100000 in
/-- pass.Arrive -/
theorem arrive_any (O C P d r : Int) (w : World) :
    Calls Tryz.prog 52 #[.agg #[.int .i64 O, .int .i64 C, .int .i64 P], .int .i64 d, .int .i64 r] w fun e w' => e = .returned (.tuple #[.agg #[.int .i64 (apV (OkI O C P) (Stamp d ∧ Ratio r) (dnV O (corV C d (P + r)) (P + r) O)), .int .i64 (apV (OkI O C P) (Stamp d ∧ Ratio r) (dnV O (corV C d (P + r)) (P + r) (corV C d (P + r)))), .int .i64 (apV (OkI O C P) (Stamp d ∧ Ratio r) (dnV O (corV C d (P + r)) (P + r) (P + r)))], .int .i64 (apE (OkI O C P) (Stamp d ∧ Ratio r) (dnE O (corV C d (P + r)) (P + r)))]) ∧ Below w.heap.size w w' := by
  have q0 : wiB (nth [d, r]) (nth [-4398046511104, -8388608]) (nth [4398046511104, 8388608]) 2 = decide (Stamp d ∧ Ratio r) := by unfold wiB; exact decide_eq_decide.2 (wi_two d r)
  have hap : ∀ W : World, W.cell? ⟨w.heap.size, 0, none⟩ = some (.int .i64 O) → W.cell? ⟨w.heap.size, 1, none⟩ = some (.int .i64 C) → W.cell? ⟨w.heap.size, 2, none⟩ = some (.int .i64 P) → W.cell? ⟨w.heap.size + 1, 0, none⟩ = some (.int .i64 d) → W.cell? ⟨w.heap.size + 2, 0, none⟩ = some (.int .i64 r) → ∀ W', Below W.heap.size W W' → Calls Tryz.prog 86 #[.agg #[.int .i64 O, .int .i64 C, .int .i64 P], .bool (decide (Stamp d ∧ Ratio r)), .func (.func 91) #[] #[.pointer (some ⟨w.heap.size, 0, none⟩), .pointer (some ⟨w.heap.size + 2, 0, none⟩), .pointer (some ⟨w.heap.size + 1, 0, none⟩)]] W' fun e w' => e = .returned (.tuple #[.agg #[.int .i64 (apV (OkI O C P) (Stamp d ∧ Ratio r) (dnV O (corV C d (P + r)) (P + r) O)), .int .i64 (apV (OkI O C P) (Stamp d ∧ Ratio r) (dnV O (corV C d (P + r)) (P + r) (corV C d (P + r)))), .int .i64 (apV (OkI O C P) (Stamp d ∧ Ratio r) (dnV O (corV C d (P + r)) (P + r) (P + r)))], .int .i64 (apE (OkI O C P) (Stamp d ∧ Ratio r) (dnE O (corV C d (P + r)) (P + r)))]) ∧ Below W'.heap.size W' w' := by
    intro W c1 c2 c3 c4 c5 W' hB
    exact apArrive_any O C P _ _ _ _ (Stamp d ∧ Ratio r) _ _ _ W' (fun h k => Lib.hid fun W1 hB1 => arriveStep O C P d r _ _ _ W1 h k.1 k.2 (below_keep (below_step hB hB1) c1) (below_keep (below_step hB hB1) c2) (below_keep (below_step hB hB1) c3) (below_keep (below_step hB hB1) c5) (below_keep (below_step hB hB1) c4))
  generalize (apV (OkI O C P) (Stamp d ∧ Ratio r) (dnV O (corV C d (P + r)) (P + r) (P + r))) = A2 at hap ⊢
  generalize (apV (OkI O C P) (Stamp d ∧ Ratio r) (dnV O (corV C d (P + r)) (P + r) (corV C d (P + r)))) = A1 at hap ⊢
  generalize (apV (OkI O C P) (Stamp d ∧ Ratio r) (dnV O (corV C d (P + r)) (P + r) O)) = A0 at hap ⊢
  generalize (apE (OkI O C P) (Stamp d ∧ Ratio r) (dnE O (corV C d (P + r)) (P + r))) = AE at hap ⊢
  generalize decide (Stamp d ∧ Ratio r) = b at q0 hap
  have q := Lib.hid q0
  have hap := Lib.hid hap
  clear q0
  go_enter Tryz.func52, Tryz.ntmps52
  go_wp2
  refine wp_world ?_
  intro W hW
  have c1 : W.cell? ⟨w.heap.size, 0, none⟩ = some (.int .i64 O) := by subst hW; simp [go_sem]
  have c2 : W.cell? ⟨w.heap.size, 1, none⟩ = some (.int .i64 C) := by subst hW; simp [go_sem]
  have c3 : W.cell? ⟨w.heap.size, 2, none⟩ = some (.int .i64 P) := by subst hW; simp [go_sem]
  have c4 : W.cell? ⟨w.heap.size + 1, 0, none⟩ = some (.int .i64 d) := by subst hW; simp [go_sem]
  have c5 : W.cell? ⟨w.heap.size + 2, 0, none⟩ = some (.int .i64 r) := by subst hW; simp [go_sem]
  have c6 : W.cell? ⟨w.heap.size + 3, 0, none⟩ = some (.int .i64 0) := by subst hW; simp [go_sem]
  have c7 : W.cell? ⟨w.heap.size + 3, 1, none⟩ = some (.int .i64 0) := by subst hW; simp [go_sem]
  have c8 : W.cell? ⟨w.heap.size + 3, 2, none⟩ = some (.int .i64 0) := by subst hW; simp [go_sem]
  have c9 : ∀ o, W.frozen? ⟨w.heap.size + 3, o, none⟩ = false := fun o => by subst hW; simp [go_sem]
  have HW_W := Lib.hid (show Below w.heap.size w W by subst hW; exact below_alloc (below_alloc (below_alloc (below_alloc (Below.refl _ _) _) _) _) _)
  clear hW 
  have HAP := Lib.hid (hap.out W c1 c2 c3 c4 c5)
  clear hap
  have HS := Lib.hid (fun wx (hB : Below W.heap.size W wx) => (⟨below_step HW_W.out hB, below_keep hB c1, below_keep hB c2, below_keep hB c3, below_keep hB c4, below_keep hB c5⟩ : Below w.heap.size w wx ∧ wx.cell? ⟨w.heap.size, 0, none⟩ = some (.int .i64 O) ∧ wx.cell? ⟨w.heap.size, 1, none⟩ = some (.int .i64 C) ∧ wx.cell? ⟨w.heap.size, 2, none⟩ = some (.int .i64 P) ∧ wx.cell? ⟨w.heap.size + 1, 0, none⟩ = some (.int .i64 d) ∧ wx.cell? ⟨w.heap.size + 2, 0, none⟩ = some (.int .i64 r)))
  have HG := Lib.hid (fun wx (hB : Below W.heap.size W wx) => (⟨⟨below_keep hB c6, below_keep hB c7, below_keep hB c8⟩, fun o => ((bcell hB).2 _ _ (World.block_lt_of_cell? W ⟨w.heap.size + 3, 0, none⟩ c6)).trans (c9 o)⟩ : (wx.cell? ⟨w.heap.size + 3, 0, none⟩ = some (.int .i64 0) ∧ wx.cell? ⟨w.heap.size + 3, 1, none⟩ = some (.int .i64 0) ∧ wx.cell? ⟨w.heap.size + 3, 2, none⟩ = some (.int .i64 0)) ∧ ∀ o, wx.frozen? ⟨w.heap.size + 3, o, none⟩ = false))
  have zz0 : w.heap.size < W.heap.size := World.block_lt_of_cell? _ _ c1
  have zz1 : w.heap.size + 1 < W.heap.size := World.block_lt_of_cell? _ _ c4
  have zz2 : w.heap.size + 2 < W.heap.size := World.block_lt_of_cell? _ _ c5
  have zz3 : w.heap.size + 3 < W.heap.size := World.block_lt_of_cell? _ _ c6
  have jb := Lib.hid (Below.drew (Below.refl W.heap.size W))
  go_region_held3 (fun wx => Below w.heap.size w wx ∧ wx.cell? ⟨w.heap.size, 0, none⟩ = some (.int .i64 O) ∧ wx.cell? ⟨w.heap.size, 1, none⟩ = some (.int .i64 C) ∧ wx.cell? ⟨w.heap.size, 2, none⟩ = some (.int .i64 P) ∧ wx.cell? ⟨w.heap.size + 1, 0, none⟩ = some (.int .i64 d) ∧ wx.cell? ⟨w.heap.size + 2, 0, none⟩ = some (.int .i64 r))
    (first | assumption | (refine HS.out _ ?_; (repeat (first | with_reducible exact jb.out | with_reducible exact Below.refl _ _ | with_reducible refine Below.drew ?_ | refine Below.setCell ?_ (by first | exact Nat.le_refl _ | omega | (simp; done) | (simp; omega)) _ | refine Below.alloc ?_ (by first | exact Nat.le_refl _ | omega | (simp; done) | (simp; omega)) _)); done) | (obtain ⟨hh, hc⟩ := HS.out _ jb.out; refine ⟨by (repeat (first | exact hh | refine Below.setCell ?_ (by first | (simp; done) | (simp; omega) | omega) _)), ?_⟩; simp [go_sem, hc]) | fail)
    (first | (go_at_call 64; refine (pstamp_any _ _).mono ?_; rintro e wz ⟨rfl, hb3⟩; have jb := Lib.hid (show Below W.heap.size W wz from below_step (by repeat (first | with_reducible exact jb.out | with_reducible exact Below.refl _ _ | with_reducible refine Below.drew ?_ | refine Below.alloc ?_ (by first | exact Nat.le_refl _ | omega | (simp; done) | (simp; omega)) _)) hb3); have jz : W.heap.size ≤ wz.heap.size := jb.out.size; clear hb3) | (go_at_call 90; refine (pratio_any _ _).mono ?_; rintro e wz ⟨rfl, hb3⟩; have jb := Lib.hid (show Below W.heap.size W wz from below_step (by repeat (first | with_reducible exact jb.out | with_reducible exact Below.refl _ _ | with_reducible refine Below.drew ?_ | refine Below.alloc ?_ (by first | exact Nat.le_refl _ | omega | (simp; done) | (simp; omega)) _)) hb3); have jz : W.heap.size ≤ wz.heap.size := jb.out.size; clear hb3) | (go_at_call 63; refine (within_any (nth [d, r]) (nth [-4398046511104, -8388608]) (nth [4398046511104, 8388608]) 2 _ (by omega) _ (fun k hk => by match k, hk with | 0, _ => simp [go_sem]; rfl | 1, _ => simp [go_sem]; rfl) (fun k hk => by match k, hk with | 0, _ => simp [go_sem]; rfl | 1, _ => simp [go_sem]; rfl) (fun k hk => by match k, hk with | 0, _ => simp [go_sem]; rfl | 1, _ => simp [go_sem]; rfl)).mono ?_; rw [q.out]; rintro e wz ⟨rfl, hb3⟩; have jb := Lib.hid (show Below W.heap.size W wz from below_step (by repeat (first | with_reducible exact jb.out | with_reducible exact Below.refl _ _ | with_reducible refine Below.drew ?_ | refine Below.alloc ?_ (by first | exact Nat.le_refl _ | omega | (simp; done) | (simp; omega)) _)) hb3); have jz : W.heap.size ≤ wz.heap.size := jb.out.size; clear hb3) | (go_at_call 86; refine (HAP.out _ jb.out).mono ?_; rintro e wz ⟨rfl, hb3⟩; have jb := Lib.hid (show Below W.heap.size W wz from below_step (by repeat (first | with_reducible exact jb.out | with_reducible exact Below.refl _ _ | with_reducible refine Below.drew ?_ | refine Below.alloc ?_ (by first | exact Nat.le_refl _ | omega | (simp; done) | (simp; omega)) _)) hb3); have jz : W.heap.size ≤ wz.heap.size := jb.out.size; obtain ⟨⟨e0, e1, e2⟩, e6⟩ := HG.out _ jb.out; clear hb3) | fail)
  all_goals go_wp2
  all_goals
    refine bodyPost_ret (v := .tuple #[.agg #[.int .i64 A0, .int .i64 A1, .int .i64 A2], .int .i64 AE]) (by simp [results, Tryz.results52, go_sem, *]) rfl ⟨rfl, ?_⟩
    have hb4 := below_step HW_W.out jb.out
    exact ((hb4.setCell (by first | (simp; done) | (simp; omega) | omega) _).setCell (by first | (simp; done) | (simp; omega) | omega) _).setCell (by first | (simp; done) | (simp; omega) | omega) _

end Go.Proofs.YtkencmijghigiaaGreat

namespace Go.Proofs.YtkencmijghigiaaGreat
open Go.RowKit Go.Lib Plain

set_option maxHeartbeats 40000000 in
set_option maxRecDepth 100000 in
/-- pass.Set -/
theorem set_any (O C P l : Int) (w : World) :
    Calls Tryz.prog 37 #[.agg #[.int .i64 O, .int .i64 C, .int .i64 P], .int .i64 l] w fun e w' => e = .returned (.tuple #[.agg #[.int .i64 (apV (OkI O C P) (Stamp l) (stV O C l l)), .int .i64 (apV (OkI O C P) (Stamp l) (stV O C l (O + C))), .int .i64 (apV (OkI O C P) (Stamp l) (stV O C l P))], .int .i64 (apE (OkI O C P) (Stamp l) (stE O C))]) ∧ Below w.heap.size w w' := by
  have q := Lib.hid (show wiB (nth [l]) (nth [-4398046511104]) (nth [4398046511104]) 1 = decide (Stamp l) from by unfold wiB; exact decide_eq_decide.2 (wi_stamp l))
  go_enter Tryz.func37, Tryz.ntmps37
  go_wp2
  refine wp_world ?_
  intro W hW
  have c1 : W.cell? ⟨w.heap.size, 0, none⟩ = some (.int .i64 O) := by subst hW; simp [go_sem]
  have c2 : W.cell? ⟨w.heap.size, 1, none⟩ = some (.int .i64 C) := by subst hW; simp [go_sem]
  have c3 : W.cell? ⟨w.heap.size, 2, none⟩ = some (.int .i64 P) := by subst hW; simp [go_sem]
  have c4 : W.cell? ⟨w.heap.size + 1, 0, none⟩ = some (.int .i64 l) := by subst hW; simp [go_sem]
  have c5 : W.cell? ⟨w.heap.size + 2, 0, none⟩ = some (.int .i64 0) := by subst hW; simp [go_sem]
  have c6 : W.cell? ⟨w.heap.size + 2, 1, none⟩ = some (.int .i64 0) := by subst hW; simp [go_sem]
  have c7 : W.cell? ⟨w.heap.size + 2, 2, none⟩ = some (.int .i64 0) := by subst hW; simp [go_sem]
  have c8 : ∀ o, W.frozen? ⟨w.heap.size + 2, o, none⟩ = false := fun o => by subst hW; simp [go_sem]
  have HW_W := Lib.hid (show Below w.heap.size w W by subst hW; exact below_alloc (below_alloc (below_alloc (Below.refl _ _) _) _) _)
  clear hW 
  have HK := Lib.hid (fun (h : OkI O C P) (k : (Stamp l)) W1 (hB : Below W.heap.size W W1) => setStep O C P l _ _ W1 h k (below_keep hB c1) (below_keep hB c2) (below_keep hB c3) (below_keep hB c4))
  have HS := Lib.hid (fun wx (hB : Below W.heap.size W wx) => (⟨below_step HW_W.out hB, below_keep hB c1, below_keep hB c2, below_keep hB c3, below_keep hB c4⟩ : Below w.heap.size w wx ∧ wx.cell? ⟨w.heap.size, 0, none⟩ = some (.int .i64 O) ∧ wx.cell? ⟨w.heap.size, 1, none⟩ = some (.int .i64 C) ∧ wx.cell? ⟨w.heap.size, 2, none⟩ = some (.int .i64 P) ∧ wx.cell? ⟨w.heap.size + 1, 0, none⟩ = some (.int .i64 l)))
  have HG := Lib.hid (fun wx (hB : Below W.heap.size W wx) => (⟨⟨below_keep hB c5, below_keep hB c6, below_keep hB c7⟩, fun o => ((bcell hB).2 _ _ (World.block_lt_of_cell? W ⟨w.heap.size + 2, 0, none⟩ c5)).trans (c8 o)⟩ : (wx.cell? ⟨w.heap.size + 2, 0, none⟩ = some (.int .i64 0) ∧ wx.cell? ⟨w.heap.size + 2, 1, none⟩ = some (.int .i64 0) ∧ wx.cell? ⟨w.heap.size + 2, 2, none⟩ = some (.int .i64 0)) ∧ ∀ o, wx.frozen? ⟨w.heap.size + 2, o, none⟩ = false))
  have zz0 : w.heap.size < W.heap.size := World.block_lt_of_cell? _ _ c1
  have zz1 : w.heap.size + 1 < W.heap.size := World.block_lt_of_cell? _ _ c4
  have zz2 : w.heap.size + 2 < W.heap.size := World.block_lt_of_cell? _ _ c5
  have jb := Lib.hid (Below.drew (Below.refl W.heap.size W))
  go_region_held3 (fun wx => Below w.heap.size w wx ∧ wx.cell? ⟨w.heap.size, 0, none⟩ = some (.int .i64 O) ∧ wx.cell? ⟨w.heap.size, 1, none⟩ = some (.int .i64 C) ∧ wx.cell? ⟨w.heap.size, 2, none⟩ = some (.int .i64 P) ∧ wx.cell? ⟨w.heap.size + 1, 0, none⟩ = some (.int .i64 l))
    (first | assumption | (refine HS.out _ ?_; (repeat (first | with_reducible exact jb.out | with_reducible exact Below.refl _ _ | with_reducible refine Below.drew ?_ | refine Below.setCell ?_ (by first | exact Nat.le_refl _ | omega | (simp; done) | (simp; omega)) _ | refine Below.alloc ?_ (by first | exact Nat.le_refl _ | omega | (simp; done) | (simp; omega)) _)); done) | (obtain ⟨hh, hc⟩ := HS.out _ jb.out; refine ⟨by (repeat (first | exact hh | refine Below.setCell ?_ (by first | (simp; done) | (simp; omega) | omega) _)), ?_⟩; simp [go_sem, hc]) | fail)
    (first | (go_at_call 64; refine (pstamp_any _ _).mono ?_; rintro e wz ⟨rfl, hb3⟩; have jb := Lib.hid (show Below W.heap.size W wz from below_step (by repeat (first | with_reducible exact jb.out | with_reducible exact Below.refl _ _ | with_reducible refine Below.drew ?_ | refine Below.alloc ?_ (by first | exact Nat.le_refl _ | omega | (simp; done) | (simp; omega)) _)) hb3); have jz : W.heap.size ≤ wz.heap.size := jb.out.size; clear hb3) | (go_at_call 63; refine (within_any (nth [l]) (nth [-4398046511104]) (nth [4398046511104]) 1 _ (by omega) _ (fun k hk => by match k, hk with | 0, _ => simp [go_sem]; rfl) (fun k hk => by match k, hk with | 0, _ => simp [go_sem]; rfl) (fun k hk => by match k, hk with | 0, _ => simp [go_sem]; rfl)).mono ?_; rw [q.out]; rintro e wz ⟨rfl, hb3⟩; have jb := Lib.hid (show Below W.heap.size W wz from below_step (by repeat (first | with_reducible exact jb.out | with_reducible exact Below.refl _ _ | with_reducible refine Below.drew ?_ | refine Below.alloc ?_ (by first | exact Nat.le_refl _ | omega | (simp; done) | (simp; omega)) _)) hb3); have jz : W.heap.size ≤ wz.heap.size := jb.out.size; clear hb3) | (go_at_call 62; refine (apSet_any O C P (stV O C l l) (stV O C l (O + C)) (stV O C l P) (stE O C) (Stamp l) _ _ _ (fun h k => Lib.hid fun W1 hB => HK.out h k W1 (below_step jb.out hB))).mono ?_; rintro e wz ⟨rfl, hb3⟩; have jb := Lib.hid (show Below W.heap.size W wz from below_step (by repeat (first | with_reducible exact jb.out | with_reducible exact Below.refl _ _ | with_reducible refine Below.drew ?_ | refine Below.alloc ?_ (by first | exact Nat.le_refl _ | omega | (simp; done) | (simp; omega)) _)) hb3); have jz : W.heap.size ≤ wz.heap.size := jb.out.size; obtain ⟨⟨e0, e1, e2⟩, e6⟩ := HG.out _ jb.out; clear hb3) | fail)
  all_goals go_wp2
  all_goals
    refine bodyPost_ret (v := .tuple #[.agg #[.int .i64 (apV (OkI O C P) (Stamp l) (stV O C l l)), .int .i64 (apV (OkI O C P) (Stamp l) (stV O C l (O + C))), .int .i64 (apV (OkI O C P) (Stamp l) (stV O C l P))], .int .i64 (apE (OkI O C P) (Stamp l) (stE O C))]) (by simp [results, Tryz.results37, go_sem, *]) rfl ⟨rfl, ?_⟩
    have hb4 := below_step HW_W.out jb.out
    exact ((hb4.setCell (by first | (simp; done) | (simp; omega) | omega) _).setCell (by first | (simp; done) | (simp; omega) | omega) _).setCell (by first | (simp; done) | (simp; omega) | omega) _

end Go.Proofs.YtkencmijghigiaaGreat
