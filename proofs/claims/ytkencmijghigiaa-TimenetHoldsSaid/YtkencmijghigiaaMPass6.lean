/-
  The walks of pass.Bound, pass.Message, pass.Of.
-/
import Derived.Test.YtkencmijghigiaaMPass5l
namespace Go.Proofs.Ytkencmijghigiaa
open Go.RowKit Go.Lib Plain

theorem wi_four (e t d r : Int) : WiOk (nth [e, t, d, r]) (nth [0, 0, 0, 0]) (nth [4398046511104, 4398046511104, 4398046511104, 8388608]) 4 ↔ PbOk e t d r := by
  constructor
  · intro h
    exact ⟨h 0 (by decide), h 1 (by decide), h 2 (by decide), h 3 (by decide)⟩
  · rintro ⟨h0, h1, h2, h3⟩ j hj
    match j, hj with
    | 0, _ => exact h0
    | 1, _ => exact h1
    | 2, _ => exact h2
    | 3, _ => exact h3

/-- pass.Bound -/
theorem pBound_any (e t d r : Int) (w : World) : Calls Try.prog 39 #[.int .i64 e, .int .i64 t, .int .i64 d, .int .i64 r] w fun y w' => y = .returned (.tuple #[.int .i64 (pblV e t d r), .int .i64 (pblE e t d r)]) ∧ Below w.heap.size w w' := by
  by_cases h : PbOk e t d r
  · rw [show pblV e t d r = pbV e t d r from if_pos h, show pblE e t d r = 0 from if_pos h]
    have q := Lib.hid (show wiB (nth [e, t, d, r]) (nth [0, 0, 0, 0]) (nth [4398046511104, 4398046511104, 4398046511104, 8388608]) 4 = true from decide_eq_true ((wi_four e t d r).2 h))
    obtain ⟨⟨h1, h2⟩, ⟨h3, h4⟩, ⟨h5, h6⟩, ⟨h7, h8⟩⟩ := h
    obtain ⟨b1, b2⟩ := part_bd (x := -(d + t)) (p := r + 600000) (by omega) (by omega) (by omega) (by omega)
    unfold pbV
    go_enter Try.func39, Try.ntmps39
    go_wp2_with fail
    refine (within_any (nth [e, t, d, r]) (nth [0, 0, 0, 0]) (nth [4398046511104, 4398046511104, 4398046511104, 8388608]) 4 _ (by omega) _ (fun k hk => by match k, hk with | 0, _ => simp [go_sem]; rfl | 1, _ => simp [go_sem]; rfl | 2, _ => simp [go_sem]; rfl | 3, _ => simp [go_sem]; rfl) (fun k hk => by match k, hk with | 0, _ => simp [go_sem]; rfl | 1, _ => simp [go_sem]; rfl | 2, _ => simp [go_sem]; rfl | 3, _ => simp [go_sem]; rfl) (fun k hk => by match k, hk with | 0, _ => simp [go_sem]; rfl | 1, _ => simp [go_sem]; rfl | 2, _ => simp [go_sem]; rfl | 3, _ => simp [go_sem]; rfl)).mono ?_
    rw [q.out]
    rintro y w1 ⟨rfl, hb⟩
    have H1 := Lib.hid (below_step (below_alloc (Below.refl _ _) _) hb)
    clear hb
    go_wp2_with fail
    refine (part_any (-(d + t)) (r + 600000) (by omega) (by omega) (by omega) (by omega) _).mono ?_
    rintro y w2 ⟨rfl, hb⟩
    have H2 := Lib.hid (below_step H1.out hb)
    clear hb
    go_wp2
    go_ret2
    exact ⟨rfl, H2.out⟩
  · rw [show pblV e t d r = 0 from if_neg h, show pblE e t d r = 2 from if_neg h]
    have q := Lib.hid (show wiB (nth [e, t, d, r]) (nth [0, 0, 0, 0]) (nth [4398046511104, 4398046511104, 4398046511104, 8388608]) 4 = false from decide_eq_false (fun x => h ((wi_four e t d r).1 x)))
    clear h
    go_enter Try.func39, Try.ntmps39
    go_wp2_with fail
    refine (within_any (nth [e, t, d, r]) (nth [0, 0, 0, 0]) (nth [4398046511104, 4398046511104, 4398046511104, 8388608]) 4 _ (by omega) _ (fun k hk => by match k, hk with | 0, _ => simp [go_sem]; rfl | 1, _ => simp [go_sem]; rfl | 2, _ => simp [go_sem]; rfl | 3, _ => simp [go_sem]; rfl) (fun k hk => by match k, hk with | 0, _ => simp [go_sem]; rfl | 1, _ => simp [go_sem]; rfl | 2, _ => simp [go_sem]; rfl | 3, _ => simp [go_sem]; rfl) (fun k hk => by match k, hk with | 0, _ => simp [go_sem]; rfl | 1, _ => simp [go_sem]; rfl | 2, _ => simp [go_sem]; rfl | 3, _ => simp [go_sem]; rfl)).mono ?_
    rw [q.out]
    rintro y w1 ⟨rfl, hb⟩
    have H1 := Lib.hid (below_step (below_alloc (Below.refl _ _) _) hb)
    clear hb
    go_wp2
    go_ret2
    exact ⟨rfl, H1.out⟩


end Go.Proofs.Ytkencmijghigiaa