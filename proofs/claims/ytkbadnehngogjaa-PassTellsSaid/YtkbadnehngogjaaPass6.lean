/-
  The walks of pass.Bound, pass.Message, pass.Of.
-/
import Derived.Test.YtkbadnehngogjaaPass4m
import Derived.Test.YtkbadnehngogjaaPass5l
namespace Go.Proofs.Ytkbadnehngogjaa
open Go.RowKit Go.Lib Plain

theorem wi_four (e t d r : Int) : WiOk (nth [e, t, d, r]) (nth [0, 0, 0, 0]) (nth [4398046511104, 4398046511104, 4398046511104, 8388608]) 4 ↔ PbOk e t d r := by
  constructor
  · intro h
    exact ⟨h 0 (by decide), h 1 (by decide), h 2 (by decide), h 3 (by decide)⟩
  · rintro ⟨h0, h1, h2, h3⟩ j hj
    match j, hj with
    | 0, _ => exact h0
    | 1, _ => exact h1
    | 2, _ => exact h2
    | 3, _ => exact h3

/-- pass.Bound -/
theorem pBound_any (e t d r : Int) (w : World) : Calls Try.prog 26 #[.int .i64 e, .int .i64 t, .int .i64 d, .int .i64 r] w fun y w' => y = .returned (.tuple #[.int .i64 (pblV e t d r), .int .i64 (pblE e t d r)]) ∧ Below w.heap.size w w' := by
  by_cases h : PbOk e t d r
  · rw [show pblV e t d r = pbV e t d r from if_pos h, show pblE e t d r = 0 from if_pos h]
    have q := Lib.hid (show wiB (nth [e, t, d, r]) (nth [0, 0, 0, 0]) (nth [4398046511104, 4398046511104, 4398046511104, 8388608]) 4 = true from decide_eq_true ((wi_four e t d r).2 h))
    obtain ⟨⟨h1, h2⟩, ⟨h3, h4⟩, ⟨h5, h6⟩, ⟨h7, h8⟩⟩ := h
    obtain ⟨b1, b2⟩ := part_bd (x := -(d + t)) (p := r + 600000) (by omega) (by omega) (by omega) (by omega)
    unfold pbV
    go_enter Try.func26, Try.ntmps26
    go_wp2_with fail
    refine (within_any (nth [e, t, d, r]) (nth [0, 0, 0, 0]) (nth [4398046511104, 4398046511104, 4398046511104, 8388608]) 4 _ (by omega) _ (fun k hk => by match k, hk with | 0, _ => simp [go_sem]; rfl | 1, _ => simp [go_sem]; rfl | 2, _ => simp [go_sem]; rfl | 3, _ => simp [go_sem]; rfl) (fun k hk => by match k, hk with | 0, _ => simp [go_sem]; rfl | 1, _ => simp [go_sem]; rfl | 2, _ => simp [go_sem]; rfl | 3, _ => simp [go_sem]; rfl) (fun k hk => by match k, hk with | 0, _ => simp [go_sem]; rfl | 1, _ => simp [go_sem]; rfl | 2, _ => simp [go_sem]; rfl | 3, _ => simp [go_sem]; rfl)).mono ?_
    rw [q.out]
    rintro y w1 ⟨rfl, hb⟩
    have H1 := Lib.hid (below_step (below_alloc (Below.refl _ _) _) hb)
    clear hb
    go_wp2_with fail
    refine (part_any (-(d + t)) (r + 600000) (by omega) (by omega) (by omega) (by omega) _).mono ?_
    rintro y w2 ⟨rfl, hb⟩
    have H2 := Lib.hid (below_step H1.out hb)
    clear hb
    go_wp2
    go_ret2
    exact ⟨rfl, H2.out⟩
  · rw [show pblV e t d r = 0 from if_neg h, show pblE e t d r = 2 from if_neg h]
    have q := Lib.hid (show wiB (nth [e, t, d, r]) (nth [0, 0, 0, 0]) (nth [4398046511104, 4398046511104, 4398046511104, 8388608]) 4 = false from decide_eq_false (fun x => h ((wi_four e t d r).1 x)))
    clear h
    go_enter Try.func26, Try.ntmps26
    go_wp2_with fail
    refine (within_any (nth [e, t, d, r]) (nth [0, 0, 0, 0]) (nth [4398046511104, 4398046511104, 4398046511104, 8388608]) 4 _ (by omega) _ (fun k hk => by match k, hk with | 0, _ => simp [go_sem]; rfl | 1, _ => simp [go_sem]; rfl | 2, _ => simp [go_sem]; rfl | 3, _ => simp [go_sem]; rfl) (fun k hk => by match k, hk with | 0, _ => simp [go_sem]; rfl | 1, _ => simp [go_sem]; rfl | 2, _ => simp [go_sem]; rfl | 3, _ => simp [go_sem]; rfl) (fun k hk => by match k, hk with | 0, _ => simp [go_sem]; rfl | 1, _ => simp [go_sem]; rfl | 2, _ => simp [go_sem]; rfl | 3, _ => simp [go_sem]; rfl)).mono ?_
    rw [q.out]
    rintro y w1 ⟨rfl, hb⟩
    have H1 := Lib.hid (below_step (below_alloc (Below.refl _ _) _) hb)
    clear hb
    go_wp2
    go_ret2
    exact ⟨rfl, H1.out⟩

/-- What Message answers. -/
def msL (O C P D i p S : Int) : List Value := if OkI O C P ∧ FolOk D C i p S O P then folM D C i p S O P else z17
def msE (O C P D i p S : Int) : Int := if OkI O C P then if FolOk D C i p S O P then 0 else 200 else 240
theorem msL_len (O C P D i p S : Int) : (msL O C P D i p S).length = 17 := by unfold msL; split <;> rfl
theorem msL_one (O C P D i p S : Int) : ∀ v ∈ msL O C P D i p S, v.oneCell' = true := by
  unfold msL
  split
  · exact folM_one _ _ _ _ _ _ _
  · exact z17_one

set_option maxHeartbeats 4000000 in
set_option maxRecDepth 100000 in
/-- pass.Message -/
theorem message_any (O C P D i p S : Int) (w : World) :
    Calls Try.prog 21 #[.agg #[.int .i64 O, .int .i64 C, .int .i64 P], .int .i64 D, .agg #[.int .i64 i, .int .i64 p], .int .i64 S] w fun e w' => e = .returned (.tuple #[.agg (msL O C P D i p S).toArray, .int .i64 (msE O C P D i p S)]) ∧ Below w.heap.size w w' := by
  have ha := Lib.hid agg_msg
  have hs := Lib.hid size_msg
  have hap : ∀ W : World, (∀ h : OkI O C P, Hid (∀ W1, Below W.heap.size W W1 → Calls Try.prog 48 #[.pointer (some ⟨w.heap.size + 1, 0, none⟩), .pointer (some ⟨w.heap.size, 0, none⟩), .pointer (some ⟨w.heap.size + 2, 0, none⟩), .pointer (some ⟨w.heap.size + 3, 0, none⟩)] W1 fun e W' => e = .returned (.tuple #[.agg (msL O C P D i p S).toArray, .int .i64 (msE O C P D i p S)]) ∧ Below W1.heap.size W1 W')) →
      Calls Try.prog 47 #[.agg #[.int .i64 O, .int .i64 C, .int .i64 P], .bool true, .func (.func 48) #[] #[.pointer (some ⟨w.heap.size + 1, 0, none⟩), .pointer (some ⟨w.heap.size, 0, none⟩), .pointer (some ⟨w.heap.size + 2, 0, none⟩), .pointer (some ⟨w.heap.size + 3, 0, none⟩)]] W fun e w' => e = .returned (.tuple #[.agg (msL O C P D i p S).toArray, .int .i64 (msE O C P D i p S)]) ∧ Below W.heap.size W w' := by
    intro W HS
    by_cases h : OkI O C P
    · exact apMessage_go O C P _ _ _ _ W (msL O C P D i p S) (msL_len _ _ _ _ _ _ _) (msL_one _ _ _ _ _ _ _) _ h (HS h)
    · rw [show msL O C P D i p S = z17 from if_neg (fun x => h x.1), show msE O C P D i p S = 240 from if_neg h]
      exact apMessage_bad O C P _ _ _ _ W true h
  have HAP := Lib.hid hap
  clear hap
  go_enter Try.func21, Try.ntmps21
  go_wp2_with fail
  refine (HAP.out _ (fun h => Lib.hid fun W1 hB => ?_)).mono ?_
  · by_cases k : FolOk D C i p S O P
    · rw [show msL O C P D i p S = folM D C i p S O P from if_pos ⟨h, k⟩, show msE O C P D i p S = 0 by unfold msE; rw [if_pos h, if_pos k]]
      exact msgStep_ok D O C P i p S _ _ _ _ W1 k (below_keep hB (by simp [go_sem])) (below_keep hB (by simp [go_sem])) (below_keep hB (by simp [go_sem])) (below_keep hB (by simp [go_sem])) (below_keep hB (by simp [go_sem])) (below_keep hB (by simp [go_sem])) (below_keep hB (by simp [go_sem]))
    · rw [show msL O C P D i p S = z17 from if_neg (fun x => k x.2), show msE O C P D i p S = 200 by unfold msE; rw [if_pos h, if_neg k]]
      exact msgStep_bad D O C P i p S _ _ _ _ W1 k (below_keep hB (by simp [go_sem])) (below_keep hB (by simp [go_sem])) (below_keep hB (by simp [go_sem])) (below_keep hB (by simp [go_sem])) (below_keep hB (by simp [go_sem])) (below_keep hB (by simp [go_sem])) (below_keep hB (by simp [go_sem]))
  rintro e w1 ⟨rfl, hb⟩
  have G := Lib.hid (show Holds w1 (w.heap.size + 4) z17 from (holds_alloc _ z17 46 (by simp)).keep hb)
  have GF := Lib.hid (show ∀ o, w1.frozen? ⟨w.heap.size + 4, o, none⟩ = false from fun o => by rw [(bcell hb).2 _ _ (by first | (simp; done) | (simp; omega))]; exact frozen_new _ _ _ _ (by simp))
  have H1 := Lib.hid (below_step (below_alloc (below_alloc (below_alloc (below_alloc (below_alloc (Below.refl _ _) _) _) _) _) _) hb)
  have hl := Lib.hid (msL_len O C P D i p S)
  have h1 := Lib.hid (msL_one O C P D i p S)
  clear hb HAP
  generalize hLm : msL O C P D i p S = L at *
  go_wp2_with (refine wpList_store_whole rfl (.tmp 8) (.tmp 13) 46 rfl (w.heap.size + 4) 0 L rfl rfl (by rw [hl.out]; exact hs.out) (fun j hj => G.out.some j (by rw [hl.out] at hj; exact hj)) (fun j _ => GF.out (0 + j)) h1.out ?_; intro w5 hw5)
  have hL := run_loadVar_whole (P := Try.prog) (w := w5) 46 (w.heap.size + 4) 0 L ha.out (by rw [hl.out]; exact hs.out) hw5.here
  refine bodyPost_ret (v := .tuple #[.agg L.toArray, .int .i64 (msE O C P D i p S)]) (results_cell_tmp 8 9 46 Try.results21 (w.heap.size + 4) 0 _ _ rfl hL rfl) rfl ⟨by first | rfl | rw [hLm], hw5.below _ _ (by omega) H1.out⟩

set_option maxHeartbeats 4000000 in
set_option maxRecDepth 100000 in
/-- pass.Of -/
theorem of_ok (D C i p S T P : Int) (h : FolOk D C i p S T P) (w : World) :
    Calls Try.prog 24 #[.agg #[.int .i64 8, .int .i64 D, .int .i64 C, .int .i64 i, .int .i64 p, .int .i64 S, .int .i64 T, .int .i64 P, .int .i64 0, .int .i64 0, .int .i64 0, .int .i64 0, .int .i64 0, .int .i64 0, .int .i64 0, .int .i64 0, .int .i64 0]] w fun e w' => e = .returned (.tuple #[.agg #[.int .i64 T, .int .i64 C, .int .i64 P], .int .i64 0]) ∧ Below w.heap.size w w' := by
  have k := Lib.hid (show folV D C i p S T P = 0 from if_pos h)
  clear h
  go_enter Try.func24, Try.ntmps24
  go_wp2_with fail
  refine (ptpCheck_follow D C i p S T P _).mono ?_
  rw [k.out]
  rintro e w1 ⟨rfl, hb1⟩
  have c1 : w1.cell? ⟨w.heap.size, 0, none⟩ = some (.int .i64 8) := below_keep hb1 (by simp [go_sem])
  have c2 : w1.cell? ⟨w.heap.size, 2, none⟩ = some (.int .i64 C) := below_keep hb1 (by simp [go_sem])
  have c3 : w1.cell? ⟨w.heap.size, 6, none⟩ = some (.int .i64 T) := below_keep hb1 (by simp [go_sem])
  have c4 : w1.cell? ⟨w.heap.size, 7, none⟩ = some (.int .i64 P) := below_keep hb1 (by simp [go_sem])
  have c5 : w1.cell? ⟨w.heap.size + 1, 0, none⟩ = some (.int .i64 0) := below_keep hb1 (by simp [go_sem])
  have c6 : w1.cell? ⟨w.heap.size + 1, 1, none⟩ = some (.int .i64 0) := below_keep hb1 (by simp [go_sem])
  have c7 : w1.cell? ⟨w.heap.size + 1, 2, none⟩ = some (.int .i64 0) := below_keep hb1 (by simp [go_sem])
  have c8 : ∀ o, w1.frozen? ⟨w.heap.size + 1, o, none⟩ = false := fun o => by rw [(bcell hb1).2 _ _ (by first | (simp; done) | (simp; omega))]; simp [go_sem]
  have H1 := Lib.hid (below_step (below_alloc (below_alloc (Below.refl _ _) _) _) hb1)
  clear hb1
  go_wp2
  refine bodyPost_ret (v := .tuple #[.agg #[.int .i64 T, .int .i64 C, .int .i64 P], .int .i64 0]) (by simp [results, Try.results24, go_sem, *]) rfl ⟨rfl, ?_⟩
  have hb4 := H1.out
  exact ((hb4.setCell (by simp) _).setCell (by simp) _).setCell (by simp) _

set_option maxHeartbeats 4000000 in
set_option maxRecDepth 100000 in
/-- pass.Of -/
theorem of_bad (D C i p S T P : Int) (h : ¬ FolOk D C i p S T P) (w : World) :
    Calls Try.prog 24 #[.agg #[.int .i64 8, .int .i64 D, .int .i64 C, .int .i64 i, .int .i64 p, .int .i64 S, .int .i64 T, .int .i64 P, .int .i64 0, .int .i64 0, .int .i64 0, .int .i64 0, .int .i64 0, .int .i64 0, .int .i64 0, .int .i64 0, .int .i64 0]] w fun e w' => e = .returned (.tuple #[.agg #[.int .i64 0, .int .i64 0, .int .i64 0], .int .i64 200]) ∧ Below w.heap.size w w' := by
  have k := Lib.hid (show folV D C i p S T P = 200 from if_neg h)
  clear h
  go_enter Try.func24, Try.ntmps24
  go_wp2_with fail
  refine (ptpCheck_follow D C i p S T P _).mono ?_
  rw [k.out]
  rintro e w1 ⟨rfl, hb1⟩
  have c1 : w1.cell? ⟨w.heap.size + 1, 0, none⟩ = some (.int .i64 0) := below_keep hb1 (by simp [go_sem])
  have c2 : w1.cell? ⟨w.heap.size + 1, 1, none⟩ = some (.int .i64 0) := below_keep hb1 (by simp [go_sem])
  have c3 : w1.cell? ⟨w.heap.size + 1, 2, none⟩ = some (.int .i64 0) := below_keep hb1 (by simp [go_sem])
  have c4 : ∀ o, w1.frozen? ⟨w.heap.size + 1, o, none⟩ = false := fun o => by rw [(bcell hb1).2 _ _ (by first | (simp; done) | (simp; omega))]; simp [go_sem]
  have H1 := Lib.hid (below_step (below_alloc (below_alloc (Below.refl _ _) _) _) hb1)
  clear hb1
  go_wp2
  refine bodyPost_ret (v := .tuple #[.agg #[.int .i64 0, .int .i64 0, .int .i64 0], .int .i64 200]) (by simp [results, Try.results24, go_sem, *]) rfl ⟨rfl, ?_⟩
  have hb4 := H1.out
  exact ((hb4.setCell (by simp) _).setCell (by simp) _).setCell (by simp) _

end Go.Proofs.Ytkbadnehngogjaa
