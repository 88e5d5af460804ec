/-
  Texts of this claim laid together: Pass5l, Pass6.
-/
import Derived.Deep.RegionHeld3
import Derived.Deep.DeepCutAuto
import Derived.Lib.QuietBelow
import Derived.BigQuiet
import Derived.Test.YtkencmijghigiaaGreatMPas
namespace Go.Proofs.YtkencmijghigiaaGreat
open Go.RowKit Go.Lib Plain

theorem wi_two (d r : Int) : WiOk (nth [d, r]) (nth [-4398046511104, -8388608]) (nth [4398046511104, 8388608]) 2 ↔ (Stamp d ∧ Ratio r) := by
  constructor
  · intro h
    exact ⟨h 0 (by decide), h 1 (by decide)⟩
  · rintro ⟨h0, h1⟩ j hj
    match j, hj with
    | 0, _ => exact h0
    | 1, _ => exact h1
theorem wi_tick (x : Int) : WiOk (nth [x]) (nth [0]) (nth [1099511627776]) 1 ↔ Tick x := by
  constructor
  · intro h
    exact h 0 (by decide)
  · intro h0 j hj
    match j, hj with
    | 0, _ => exact h0
theorem wi_stamp (x : Int) : WiOk (nth [x]) (nth [-4398046511104]) (nth [4398046511104]) 1 ↔ Stamp x := by
  constructor
  · intro h
    exact h 0 (by decide)
  · intro h0 j hj
    match j, hj with
    | 0, _ => exact h0

/-- What apply answers, of a step that answers so if all is allowed. -/
def apV (ok al : Prop) [Decidable ok] [Decidable al] (v : Int) : Int := if ok then if al then v else 0 else 0
def apE (ok al : Prop) [Decidable ok] [Decidable al] (e : Int) : Int := if ok then if al then e else 2 else 240

theorem apArrive_any (O C P r0 r1 r2 re : Int) (al : Prop) [Decidable al] (c0 c1 c2 : Nat) (w : World) (HS : OkI O C P → al → Hid (∀ W, Below w.heap.size w W → Calls Tryz.prog 91 #[.pointer (some ⟨c0, 0, none⟩), .pointer (some ⟨c1, 0, none⟩), .pointer (some ⟨c2, 0, none⟩)] W fun e W' => e = .returned (.tuple #[.agg #[.int .i64 r0, .int .i64 r1, .int .i64 r2], .int .i64 re]) ∧ Below W.heap.size W W')) :
    Calls Tryz.prog 86 #[.agg #[.int .i64 O, .int .i64 C, .int .i64 P], .bool (decide al), .func (.func 91) #[] #[.pointer (some ⟨c0, 0, none⟩), .pointer (some ⟨c1, 0, none⟩), .pointer (some ⟨c2, 0, none⟩)]] w fun e w' => e = .returned (.tuple #[.agg #[.int .i64 (apV (OkI O C P) al r0), .int .i64 (apV (OkI O C P) al r1), .int .i64 (apV (OkI O C P) al r2)], .int .i64 (apE (OkI O C P) al re)]) ∧ Below w.heap.size w w' := by
  unfold apV apE
  by_cases h : OkI O C P
  · rw [if_pos h, if_pos h, if_pos h, if_pos h]
    by_cases k : al
    · rw [if_pos k, if_pos k, if_pos k, if_pos k, decide_eq_true k]
      exact apArrive_go O C P r0 r1 r2 re c0 c1 c2 w h (HS h k)
    · rw [if_neg k, if_neg k, if_neg k, if_neg k, decide_eq_false k]
      exact apArrive_no O C P c0 c1 c2 w h
  · rw [if_neg h, if_neg h, if_neg h, if_neg h]
    exact apArrive_bad O C P (decide al) c0 c1 c2 w h

theorem apLeave_any (O C P r0 r1 r2 re : Int) (al : Prop) [Decidable al] (c0 c1 : Nat) (w : World) (HS : OkI O C P → al → Hid (∀ W, Below w.heap.size w W → Calls Tryz.prog 87 #[.pointer (some ⟨c0, 0, none⟩), .pointer (some ⟨c1, 0, none⟩)] W fun e W' => e = .returned (.tuple #[.agg #[.int .i64 r0, .int .i64 r1, .int .i64 r2], .int .i64 re]) ∧ Below W.heap.size W W')) :
    Calls Tryz.prog 86 #[.agg #[.int .i64 O, .int .i64 C, .int .i64 P], .bool (decide al), .func (.func 87) #[] #[.pointer (some ⟨c0, 0, none⟩), .pointer (some ⟨c1, 0, none⟩)]] w fun e w' => e = .returned (.tuple #[.agg #[.int .i64 (apV (OkI O C P) al r0), .int .i64 (apV (OkI O C P) al r1), .int .i64 (apV (OkI O C P) al r2)], .int .i64 (apE (OkI O C P) al re)]) ∧ Below w.heap.size w w' := by
  unfold apV apE
  by_cases h : OkI O C P
  · rw [if_pos h, if_pos h, if_pos h, if_pos h]
    by_cases k : al
    · rw [if_pos k, if_pos k, if_pos k, if_pos k, decide_eq_true k]
      exact apLeave_go O C P r0 r1 r2 re c0 c1 w h (HS h k)
    · rw [if_neg k, if_neg k, if_neg k, if_neg k, decide_eq_false k]
      exact apLeave_no O C P c0 c1 w h
  · rw [if_neg h, if_neg h, if_neg h, if_neg h]
    exact apLeave_bad O C P (decide al) c0 c1 w h

theorem apSet_any (O C P r0 r1 r2 re : Int) (al : Prop) [Decidable al] (c0 c1 : Nat) (w : World) (HS : OkI O C P → al → Hid (∀ W, Below w.heap.size w W → Calls Tryz.prog 65 #[.pointer (some ⟨c0, 0, none⟩), .pointer (some ⟨c1, 0, none⟩)] W fun e W' => e = .returned (.tuple #[.agg #[.int .i64 r0, .int .i64 r1, .int .i64 r2], .int .i64 re]) ∧ Below W.heap.size W W')) :
    Calls Tryz.prog 62 #[.agg #[.int .i64 O, .int .i64 C, .int .i64 P], .bool (decide al), .func (.func 65) #[] #[.pointer (some ⟨c0, 0, none⟩), .pointer (some ⟨c1, 0, none⟩)]] w fun e w' => e = .returned (.tuple #[.agg #[.int .i64 (apV (OkI O C P) al r0), .int .i64 (apV (OkI O C P) al r1), .int .i64 (apV (OkI O C P) al r2)], .int .i64 (apE (OkI O C P) al re)]) ∧ Below w.heap.size w w' := by
  unfold apV apE
  by_cases h : OkI O C P
  · rw [if_pos h, if_pos h, if_pos h, if_pos h]
    by_cases k : al
    · rw [if_pos k, if_pos k, if_pos k, if_pos k, decide_eq_true k]
      exact apSet_go O C P r0 r1 r2 re c0 c1 w h (HS h k)
    · rw [if_neg k, if_neg k, if_neg k, if_neg k, decide_eq_false k]
      exact apSet_no O C P c0 c1 w h
  · rw [if_neg h, if_neg h, if_neg h, if_neg h]
    exact apSet_bad O C P (decide al) c0 c1 w h

set_option maxHeartbeats 40000000 in
set_option maxRecDepth 100000 in
/-- pass.Leave -/
theorem leave_any (O C P x : Int) (w : World) :
    Calls Tryz.prog 50 #[.agg #[.int .i64 O, .int .i64 C, .int .i64 P], .int .i64 x] w fun e w' => e = .returned (.tuple #[.agg #[.int .i64 (apV (OkI O C P) (Tick x) (dnV O (corV C x P) P O)), .int .i64 (apV (OkI O C P) (Tick x) (dnV O (corV C x P) P (corV C x P))), .int .i64 (apV (OkI O C P) (Tick x) (dnV O (corV C x P) P P))], .int .i64 (apE (OkI O C P) (Tick x) (dnE O (corV C x P) P))]) ∧ Below w.heap.size w w' := by
  have q := Lib.hid (show wiB (nth [x]) (nth [0]) (nth [1099511627776]) 1 = decide (Tick x) from by unfold wiB; exact decide_eq_decide.2 (wi_tick x))
  go_enter Tryz.func50, Tryz.ntmps50
  go_wp2
  refine wp_world ?_
  intro W hW
  have c1 : W.cell? ⟨w.heap.size, 0, none⟩ = some (.int .i64 O) := by subst hW; simp [go_sem]
  have c2 : W.cell? ⟨w.heap.size, 1, none⟩ = some (.int .i64 C) := by subst hW; simp [go_sem]
  have c3 : W.cell? ⟨w.heap.size, 2, none⟩ = some (.int .i64 P) := by subst hW; simp [go_sem]
  have c4 : W.cell? ⟨w.heap.size + 1, 0, none⟩ = some (.int .i64 x) := by subst hW; simp [go_sem]
  have c5 : W.cell? ⟨w.heap.size + 2, 0, none⟩ = some (.int .i64 0) := by subst hW; simp [go_sem]
  have c6 : W.cell? ⟨w.heap.size + 2, 1, none⟩ = some (.int .i64 0) := by subst hW; simp [go_sem]
  have c7 : W.cell? ⟨w.heap.size + 2, 2, none⟩ = some (.int .i64 0) := by subst hW; simp [go_sem]
  have c8 : ∀ o, W.frozen? ⟨w.heap.size + 2, o, none⟩ = false := fun o => by subst hW; simp [go_sem]
  have HW_W := Lib.hid (show Below w.heap.size w W by subst hW; exact below_alloc (below_alloc (below_alloc (Below.refl _ _) _) _) _)
  clear hW 
  have HK := Lib.hid (fun (h : OkI O C P) (k : (Tick x)) W1 (hB : Below W.heap.size W W1) => leaveStep O C P x _ _ W1 h k (below_keep hB c1) (below_keep hB c2) (below_keep hB c3) (below_keep hB c4))
  have HS := Lib.hid (fun wx (hB : Below W.heap.size W wx) => (⟨below_step HW_W.out hB, below_keep hB c1, below_keep hB c2, below_keep hB c3, below_keep hB c4⟩ : Below w.heap.size w wx ∧ wx.cell? ⟨w.heap.size, 0, none⟩ = some (.int .i64 O) ∧ wx.cell? ⟨w.heap.size, 1, none⟩ = some (.int .i64 C) ∧ wx.cell? ⟨w.heap.size, 2, none⟩ = some (.int .i64 P) ∧ wx.cell? ⟨w.heap.size + 1, 0, none⟩ = some (.int .i64 x)))
  have HG := Lib.hid (fun wx (hB : Below W.heap.size W wx) => (⟨⟨below_keep hB c5, below_keep hB c6, below_keep hB c7⟩, fun o => ((bcell hB).2 _ _ (World.block_lt_of_cell? W ⟨w.heap.size + 2, 0, none⟩ c5)).trans (c8 o)⟩ : (wx.cell? ⟨w.heap.size + 2, 0, none⟩ = some (.int .i64 0) ∧ wx.cell? ⟨w.heap.size + 2, 1, none⟩ = some (.int .i64 0) ∧ wx.cell? ⟨w.heap.size + 2, 2, none⟩ = some (.int .i64 0)) ∧ ∀ o, wx.frozen? ⟨w.heap.size + 2, o, none⟩ = false))
  have zz0 : w.heap.size < W.heap.size := World.block_lt_of_cell? _ _ c1
  have zz1 : w.heap.size + 1 < W.heap.size := World.block_lt_of_cell? _ _ c4
  have zz2 : w.heap.size + 2 < W.heap.size := World.block_lt_of_cell? _ _ c5
  have jb := Lib.hid (Below.drew (Below.refl W.heap.size W))
  go_region_held3 (fun wx => Below w.heap.size w wx ∧ wx.cell? ⟨w.heap.size, 0, none⟩ = some (.int .i64 O) ∧ wx.cell? ⟨w.heap.size, 1, none⟩ = some (.int .i64 C) ∧ wx.cell? ⟨w.heap.size, 2, none⟩ = some (.int .i64 P) ∧ wx.cell? ⟨w.heap.size + 1, 0, none⟩ = some (.int .i64 x))
    (first | assumption | (refine HS.out _ ?_; (repeat (first | with_reducible exact jb.out | with_reducible exact Below.refl _ _ | with_reducible refine Below.drew ?_ | refine Below.setCell ?_ (by first | exact Nat.le_refl _ | omega | (simp; done) | (simp; omega)) _ | refine Below.alloc ?_ (by first | exact Nat.le_refl _ | omega | (simp; done) | (simp; omega)) _)); done) | (obtain ⟨hh, hc⟩ := HS.out _ jb.out; refine ⟨by (repeat (first | exact hh | refine Below.setCell ?_ (by first | (simp; done) | (simp; omega) | omega) _)), ?_⟩; simp [go_sem, hc]) | fail)
    (first | (go_at_call 63; refine (within_any (nth [x]) (nth [0]) (nth [1099511627776]) 1 _ (by omega) _ (fun k hk => by match k, hk with | 0, _ => simp [go_sem]; rfl) (fun k hk => by match k, hk with | 0, _ => simp [go_sem]; rfl) (fun k hk => by match k, hk with | 0, _ => simp [go_sem]; rfl)).mono ?_; rw [q.out]; rintro e wz ⟨rfl, hb3⟩; have jb := Lib.hid (show Below W.heap.size W wz from below_step (by repeat (first | with_reducible exact jb.out | with_reducible exact Below.refl _ _ | with_reducible refine Below.drew ?_ | refine Below.alloc ?_ (by first | exact Nat.le_refl _ | omega | (simp; done) | (simp; omega)) _)) hb3); have jz : W.heap.size ≤ wz.heap.size := jb.out.size; clear hb3) | (go_at_call 86; refine (apLeave_any O C P (dnV O (corV C x P) P O) (dnV O (corV C x P) P (corV C x P)) (dnV O (corV C x P) P P) (dnE O (corV C x P) P) (Tick x) _ _ _ (fun h k => Lib.hid fun W1 hB => HK.out h k W1 (below_step jb.out hB))).mono ?_; rintro e wz ⟨rfl, hb3⟩; have jb := Lib.hid (show Below W.heap.size W wz from below_step (by repeat (first | with_reducible exact jb.out | with_reducible exact Below.refl _ _ | with_reducible refine Below.drew ?_ | refine Below.alloc ?_ (by first | exact Nat.le_refl _ | omega | (simp; done) | (simp; omega)) _)) hb3); have jz : W.heap.size ≤ wz.heap.size := jb.out.size; obtain ⟨⟨e0, e1, e2⟩, e6⟩ := HG.out _ jb.out; clear hb3) | fail)
  all_goals go_wp2
  all_goals
    refine bodyPost_ret (v := .tuple #[.agg #[.int .i64 (apV (OkI O C P) (Tick x) (dnV O (corV C x P) P O)), .int .i64 (apV (OkI O C P) (Tick x) (dnV O (corV C x P) P (corV C x P))), .int .i64 (apV (OkI O C P) (Tick x) (dnV O (corV C x P) P P))], .int .i64 (apE (OkI O C P) (Tick x) (dnE O (corV C x P) P))]) (by simp [results, Tryz.results50, go_sem, *]) rfl ⟨rfl, ?_⟩
    have hb4 := below_step HW_W.out jb.out
    exact ((hb4.setCell (by first | (simp; done) | (simp; omega) | omega) _).setCell (by first | (simp; done) | (simp; omega) | omega) _).setCell (by first | (simp; done) | (simp; omega) | omega) _

end Go.Proofs.YtkencmijghigiaaGreat

namespace Go.Proofs.YtkencmijghigiaaGreat
open Go.RowKit Go.Lib Plain

theorem wi_four (e t d r : Int) : WiOk (nth [e, t, d, r]) (nth [0, 0, 0, 0]) (nth [4398046511104, 4398046511104, 4398046511104, 8388608]) 4 ↔ PbOk e t d r := by
  constructor
  · intro h
    exact ⟨h 0 (by decide), h 1 (by decide), h 2 (by decide), h 3 (by decide)⟩
  · rintro ⟨h0, h1, h2, h3⟩ j hj
    match j, hj with
    | 0, _ => exact h0
    | 1, _ => exact h1
    | 2, _ => exact h2
    | 3, _ => exact h3

/-- pass.Bound -/
theorem pBound_any (e t d r : Int) (w : World) : Calls Tryz.prog 69 #[.int .i64 e, .int .i64 t, .int .i64 d, .int .i64 r] w fun y w' => y = .returned (.tuple #[.int .i64 (pblV e t d r), .int .i64 (pblE e t d r)]) ∧ Below w.heap.size w w' := by
  by_cases h : PbOk e t d r
  · rw [show pblV e t d r = pbV e t d r from if_pos h, show pblE e t d r = 0 from if_pos h]
    have q := Lib.hid (show wiB (nth [e, t, d, r]) (nth [0, 0, 0, 0]) (nth [4398046511104, 4398046511104, 4398046511104, 8388608]) 4 = true from decide_eq_true ((wi_four e t d r).2 h))
    obtain ⟨⟨h1, h2⟩, ⟨h3, h4⟩, ⟨h5, h6⟩, ⟨h7, h8⟩⟩ := h
    obtain ⟨b1, b2⟩ := part_bd (x := -(d + t)) (p := r + 600000) (by omega) (by omega) (by omega) (by omega)
    unfold pbV
    go_enter Tryz.func69, Tryz.ntmps69
    go_wp2_with fail
    refine (within_any (nth [e, t, d, r]) (nth [0, 0, 0, 0]) (nth [4398046511104, 4398046511104, 4398046511104, 8388608]) 4 _ (by omega) _ (fun k hk => by match k, hk with | 0, _ => simp [go_sem]; rfl | 1, _ => simp [go_sem]; rfl | 2, _ => simp [go_sem]; rfl | 3, _ => simp [go_sem]; rfl) (fun k hk => by match k, hk with | 0, _ => simp [go_sem]; rfl | 1, _ => simp [go_sem]; rfl | 2, _ => simp [go_sem]; rfl | 3, _ => simp [go_sem]; rfl) (fun k hk => by match k, hk with | 0, _ => simp [go_sem]; rfl | 1, _ => simp [go_sem]; rfl | 2, _ => simp [go_sem]; rfl | 3, _ => simp [go_sem]; rfl)).mono ?_
    rw [q.out]
    rintro y w1 ⟨rfl, hb⟩
    have H1 := Lib.hid (below_step (below_alloc (Below.refl _ _) _) hb)
    clear hb
    go_wp2_with fail
    refine (part_any (-(d + t)) (r + 600000) (by omega) (by omega) (by omega) (by omega) _).mono ?_
    rintro y w2 ⟨rfl, hb⟩
    have H2 := Lib.hid (below_step H1.out hb)
    clear hb
    go_wp2
    go_ret2
    exact ⟨rfl, H2.out⟩
  · rw [show pblV e t d r = 0 from if_neg h, show pblE e t d r = 2 from if_neg h]
    have q := Lib.hid (show wiB (nth [e, t, d, r]) (nth [0, 0, 0, 0]) (nth [4398046511104, 4398046511104, 4398046511104, 8388608]) 4 = false from decide_eq_false (fun x => h ((wi_four e t d r).1 x)))
    clear h
    go_enter Tryz.func69, Tryz.ntmps69
    go_wp2_with fail
    refine (within_any (nth [e, t, d, r]) (nth [0, 0, 0, 0]) (nth [4398046511104, 4398046511104, 4398046511104, 8388608]) 4 _ (by omega) _ (fun k hk => by match k, hk with | 0, _ => simp [go_sem]; rfl | 1, _ => simp [go_sem]; rfl | 2, _ => simp [go_sem]; rfl | 3, _ => simp [go_sem]; rfl) (fun k hk => by match k, hk with | 0, _ => simp [go_sem]; rfl | 1, _ => simp [go_sem]; rfl | 2, _ => simp [go_sem]; rfl | 3, _ => simp [go_sem]; rfl) (fun k hk => by match k, hk with | 0, _ => simp [go_sem]; rfl | 1, _ => simp [go_sem]; rfl | 2, _ => simp [go_sem]; rfl | 3, _ => simp [go_sem]; rfl)).mono ?_
    rw [q.out]
    rintro y w1 ⟨rfl, hb⟩
    have H1 := Lib.hid (below_step (below_alloc (Below.refl _ _) _) hb)
    clear hb
    go_wp2
    go_ret2
    exact ⟨rfl, H1.out⟩


end Go.Proofs.YtkencmijghigiaaGreat
