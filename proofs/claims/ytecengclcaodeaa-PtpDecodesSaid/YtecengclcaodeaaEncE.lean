/-
  ptp.Encode of a valid message, by its kind. No conditions.
-/
import Derived.Test.YtecengclcaodeaaEncX
import Derived.Test.YtecengclcaodeaaR10All
import Derived.Test.YtecengclcaodeaaQLoad
import Derived.Test.YtecengclcaodeaaAt
namespace Go.Proofs.Ytecengclcaodeaa
open Go.RowKit Go.Lib Plain

/-- The fields that a kind has. -/
def fldsK (K : Int) : List Fld := if K = 3 ∨ K = 10 then rspF else if K = 8 then folF else if K = 11 then annF else []
theorem owns_mono {w : World} {b b' : Nat} {e : TypeId} {sz : Nat} {v : Value} {n : Nat} {xs : List Value} (h : w.ownsRow b e sz v n xs) (hb : b' ≤ b) : w.ownsRow b' e sz v n xs := by
  refine ⟨h.1, ?_⟩
  rcases h.2 with h | ⟨g, cap, cur, h1, h2, h3⟩
  · exact Or.inl h
  · exact Or.inr ⟨g, cap, cur, h1, Nat.le_trans hb h2, h3⟩
/-- A message's bytes. -/
def encM (K D C i p S T P r q a b c v e g s : Int) : List Int := encF [K, D, C, i, p, S, T, P, r, q, a, b, c, v, e, g, s, sizeV K] hdrF ++ encF [K, D, C, i, p, S, T, P, r, q, a, b, c, v, e, g, s, sizeV K] (fldsK K)
theorem enc_len_0 (D C i p S T P r q a b c v e g s : Int) : (encM 0 D C i p S T P r q a b c v e g s).length = 22 := by
  have h1 := encF_len (M := [0, D, C, i, p, S, T, P, r, q, a, b, c, v, e, g, s, 22]) hdr_fine
  have h2 := encF_len (M := [0, D, C, i, p, S, T, P, r, q, a, b, c, v, e, g, s, 22]) (l := []) (fun f hf => by simp at hf)
  have h3 : tot hdrF = 22 := rfl
  have h4 : tot ([]) = 0 := rfl
  show (encF [0, D, C, i, p, S, T, P, r, q, a, b, c, v, e, g, s, 22] hdrF ++ encF [0, D, C, i, p, S, T, P, r, q, a, b, c, v, e, g, s, 22] ([])).length = 22
  rw [List.length_append]
  omega
theorem enc_len_2 (D C i p S T P r q a b c v e g s : Int) : (encM 2 D C i p S T P r q a b c v e g s).length = 22 := by
  have h1 := encF_len (M := [2, D, C, i, p, S, T, P, r, q, a, b, c, v, e, g, s, 22]) hdr_fine
  have h2 := encF_len (M := [2, D, C, i, p, S, T, P, r, q, a, b, c, v, e, g, s, 22]) (l := []) (fun f hf => by simp at hf)
  have h3 : tot hdrF = 22 := rfl
  have h4 : tot ([]) = 0 := rfl
  show (encF [2, D, C, i, p, S, T, P, r, q, a, b, c, v, e, g, s, 22] hdrF ++ encF [2, D, C, i, p, S, T, P, r, q, a, b, c, v, e, g, s, 22] ([])).length = 22
  rw [List.length_append]
  omega
theorem enc_len_3 (D C i p S T P r q a b c v e g s : Int) : (encM 3 D C i p S T P r q a b c v e g s).length = 38 := by
  have h1 := encF_len (M := [3, D, C, i, p, S, T, P, r, q, a, b, c, v, e, g, s, 38]) hdr_fine
  have h2 := encF_len (M := [3, D, C, i, p, S, T, P, r, q, a, b, c, v, e, g, s, 38]) (l := rspF) rsp_fine
  have h3 : tot hdrF = 22 := rfl
  have h4 : tot (rspF) = 16 := rfl
  show (encF [3, D, C, i, p, S, T, P, r, q, a, b, c, v, e, g, s, 38] hdrF ++ encF [3, D, C, i, p, S, T, P, r, q, a, b, c, v, e, g, s, 38] (rspF)).length = 38
  rw [List.length_append]
  omega
theorem enc_len_10 (D C i p S T P r q a b c v e g s : Int) : (encM 10 D C i p S T P r q a b c v e g s).length = 38 := by
  have h1 := encF_len (M := [10, D, C, i, p, S, T, P, r, q, a, b, c, v, e, g, s, 38]) hdr_fine
  have h2 := encF_len (M := [10, D, C, i, p, S, T, P, r, q, a, b, c, v, e, g, s, 38]) (l := rspF) rsp_fine
  have h3 : tot hdrF = 22 := rfl
  have h4 : tot (rspF) = 16 := rfl
  show (encF [10, D, C, i, p, S, T, P, r, q, a, b, c, v, e, g, s, 38] hdrF ++ encF [10, D, C, i, p, S, T, P, r, q, a, b, c, v, e, g, s, 38] (rspF)).length = 38
  rw [List.length_append]
  omega
theorem enc_len_8 (D C i p S T P r q a b c v e g s : Int) : (encM 8 D C i p S T P r q a b c v e g s).length = 34 := by
  have h1 := encF_len (M := [8, D, C, i, p, S, T, P, r, q, a, b, c, v, e, g, s, 34]) hdr_fine
  have h2 := encF_len (M := [8, D, C, i, p, S, T, P, r, q, a, b, c, v, e, g, s, 34]) (l := folF) fol_fine
  have h3 : tot hdrF = 22 := rfl
  have h4 : tot (folF) = 12 := rfl
  show (encF [8, D, C, i, p, S, T, P, r, q, a, b, c, v, e, g, s, 34] hdrF ++ encF [8, D, C, i, p, S, T, P, r, q, a, b, c, v, e, g, s, 34] (folF)).length = 34
  rw [List.length_append]
  omega
theorem enc_len_11 (D C i p S T P r q a b c v e g s : Int) : (encM 11 D C i p S T P r q a b c v e g s).length = 36 := by
  have h1 := encF_len (M := [11, D, C, i, p, S, T, P, r, q, a, b, c, v, e, g, s, 36]) hdr_fine
  have h2 := encF_len (M := [11, D, C, i, p, S, T, P, r, q, a, b, c, v, e, g, s, 36]) (l := annF) ann_fine
  have h3 : tot hdrF = 22 := rfl
  have h4 : tot (annF) = 14 := rfl
  show (encF [11, D, C, i, p, S, T, P, r, q, a, b, c, v, e, g, s, 36] hdrF ++ encF [11, D, C, i, p, S, T, P, r, q, a, b, c, v, e, g, s, 36] (annF)).length = 36
  rw [List.length_append]
  omega

set_option maxHeartbeats 8000000 in
set_option maxRecDepth 100000 in
theorem encode_0 (D C i p S T P r q a b c v e g s : Int) (w : World) (h : rgtB (baseB D C i p S) (kindB 0 T P r q a b c v e g s) = true) :
    Calls Try.prog 18 #[.agg #[.int .i64 0, .int .i64 D, .int .i64 C, .int .i64 i, .int .i64 p, .int .i64 S, .int .i64 T, .int .i64 P, .int .i64 r, .int .i64 q, .int .i64 a, .int .i64 b, .int .i64 c, .int .i64 v, .int .i64 e, .int .i64 g, .int .i64 s]] w fun e1 w' => ∃ g1 cap, e1 = .returned (.tuple #[.slice (some ⟨g1, 0, none⟩) 22 cap, .int .i64 0]) ∧ w'.ownsRow w.heap.size 5 1 (.slice (some ⟨g1, 0, none⟩) 22 cap) 22 (bys (encM 0 D C i p S T P r q a b c v e g s)) ∧ Below w.heap.size w w' := by
  have ha := Lib.hid agg_msg
  have hs := Lib.hid size_msg
  have hk := Lib.hid h
  clear h
  obtain ⟨i0, hi0, hz0, hz1, hz2⟩ := info_parts Try.infoByte
  go_enter Try.func18, Try.ntmps18
  go_wp2_with (((with_reducible refine at_load 27 (.tmp 1) ?_); refine wpList_load_whole rfl (.tmp 1) 27 rfl w.heap.size 0 (mMsg 0 D C i p S T P r q a b c v e g s) rfl ha.out hs.out (holds_alloc w (mMsg 0 D C i p S T P r q a b c v e g s) 27 rfl) ?_))
  refine (ptpCheck_any 0 D C i p S T P r q a b c v e g s _).mono ?_
  rw [show chkB (baseB D C i p S) (kindB 0 T P r q a b c v e g s) = 0 by rw [chk_of_rgt, hk.out]; rfl]
  rintro e1 w1 ⟨rfl, hb1⟩
  have k0 : w1.cell? ⟨w.heap.size, 0, none⟩ = some (.int .i64 0) := below_keep hb1 (by simp [go_sem])
  have HM := Lib.hid (show Holds w1 w.heap.size (mMsg 0 D C i p S T P r q a b c v e g s) from (holds_alloc w (mMsg 0 D C i p S T P r q a b c v e g s) 27 rfl).keep hb1)
  have H1 := Lib.hid (below_step (below_alloc (Below.refl _ _) _) hb1)
  clear hb1
  go_wp2
  have r0 := fun p : Regrown => cell_regrown k0 p.d p.os
  refine wp_region_quiet_tail 5 (by kernel_rfl) (by kernel_rfl) ?_
  simp only [List.take_succ_cons, List.take_zero, List.drop_succ_cons, List.drop_zero]
  refine wpQuiet_load_whole rfl (.tmp 1) 27 rfl w.heap.size 0 [.int .i64 0, .int .i64 D, .int .i64 C, .int .i64 i, .int .i64 p, .int .i64 S, .int .i64 T, .int .i64 P, .int .i64 r, .int .i64 q, .int .i64 a, .int .i64 b, .int .i64 c, .int .i64 v, .int .i64 e, .int .i64 g, .int .i64 s] rfl ha.out hs.out (holds_regrown HM.out) ?_
  simp only [Act.put, List.setIfInBounds_toArray, List.set_cons_succ, List.set_cons_zero]
  repeat (go_big_quiet_step (exact Calls.regrown_of (size_0 _)))
  refine wpQuiet_nil ?_
  intro w2 hw
  have H2 := Lib.hid (below_step H1.out (show Below w1.heap.size w1 w2 by obtain ⟨p, rfl⟩ := hw; exact below_regrown _ _ _))
  clear hw r0 k0 H1 HM
  go_wp2_with (at_make; refine wpList_make_own _ rfl _ _ 44 rfl (w2.heap.size + 1) 5 i0 _ 1 Try.underlying44 hi0 hz0 hz1 _ _ _ 22 rfl rfl rfl (by rw [hz2]; decide) (by decide) (by simp) ?_; intro w3 hown hgrow)
  have HO := Lib.hid hown
  have hg3 : w2.heap.size + 1 < w3.heap.size := (hown.lt (w2.heap.size + 1) (by simp [Value.ownBlock])).2
  have HC := Lib.hid (show Holds w3 w2.heap.size ([0, D, C, i, p, S, T, P, r, q, a, b, c, v, e, g, s, 22].map (Value.int .i64)) from fun j u hu => by
    have h0 := holds_alloc w2 ([0, D, C, i, p, S, T, P, r, q, a, b, c, v, e, g, s, 22].map (Value.int .i64)) 70 rfl j u hu
    rw [World.cell?_of_block (hgrow.block w2.heap.size (by simp) (by simp))]
    exact h0)
  have H3 := Lib.hid (Below.grown (below_alloc H2.out _) hgrow (by have := H2.out.size; simp; omega) (fun k h => by cases h))
  have HR3 := Lib.hid (show Row (w2.heap.size + 1) w3.heap.size (w2.heap.size + 1) [] (w3.alloc (.cells #[.slice (some ⟨w2.heap.size + 1, 0, none⟩) 0 22] 44)) from
    ⟨⟨22, by simp [go_sem], by have := hown.alloc (.cells #[.slice (some ⟨w2.heap.size + 1, 0, none⟩) 0 22] 44); simpa using this⟩, by simp [go_sem], by omega⟩)
  have hsz2 : w.heap.size ≤ w2.heap.size := H2.out.size
  have z3 := H3.out.size
  clear hown hgrow H2
  refine (header_any _ _).mono ?_
  rintro e1 w4 ⟨bf, hb, rfl, hH, hB⟩
  have HR4 := Lib.hid (HR3.out.but (out := fun _ => False) (But.of_below hB) (fun h => h) (fun h => h))
  have HC4 := Lib.hid ((HC.out.alloc (by omega) _).keep hB)
  have H4 := Lib.hid (below_step (below_alloc H3.out _) hB)
  have zb : bf < w4.heap.size := World.block_lt_of_cell? _ _ (hH 0 _ rfl)
  have HH := Lib.hid hH
  simp at hb
  have z4 : w3.heap.size + 1 ≤ w4.heap.size := by have := hB.size; simpa using this
  clear hH hB H3 HR3 HC HO
  go_wp2_with fail
  refine (visit_writes w3.heap.size bf w2.heap.size (w2.heap.size + 1) (w2.heap.size + 1) hdrF hdr_fine (by decide) [0, D, C, i, p, S, T, P, r, q, a, b, c, v, e, g, s, 22] (by unfold hdrF; simp) [] w4 HR4.out (by omega) (by decide) HC4.out (by omega) (by omega) (by omega) HH.out zb (by omega) (by omega)).mono ?_
  rintro e1 w5 ⟨rfl, g1, r5, b5, l5⟩
  rw [List.nil_append] at r5
  have HR5 := Lib.hid r5
  have hg1 : g1 ≠ w3.heap.size := r5.apart
  have HC5 := Lib.hid (b5.holds HC4.out (by omega) (by omega))
  have H5 := Lib.hid (H4.out.trans (b5.below (B := w.heap.size) (by omega) (by rintro k (rfl | rfl) <;> omega)))
  have z5 := b5.size
  have lg1 := r5.lt.2.1
  clear r5 b5 HR4 HC4 H4 HH
  have k5 : w5.cell? ⟨w2.heap.size, 0, none⟩ = some (.int .i64 0) := HC5.out 0 _ rfl
  go_wp2
  go_region_held3 (fun w' => w'.cell? ⟨w2.heap.size, 0, none⟩ = some (.int .i64 0)) (first | (go_keep; done) | assumption | fail) (first | (go_at_call 30; refine (kinds_any _).mono ?_; rintro e6 w6 ⟨rfl, hw6⟩; have hlk := look_0 (W := w6) (B := w5.heap.size) (by subst hw6; exact (MapKept.heap_alloc w5 _).1) false; simp only [Bool.false_eq_true, ↓reduceIte] at hlk; have k6 : w6.cell? ⟨w2.heap.size, 0, none⟩ = some (.int .i64 0) := (by subst hw6; exact (World.cell?_alloc_lt w5 _ _ (World.block_lt_of_cell? _ _ k5)).trans k5); have H6 := Lib.hid (show Below w5.heap.size w5 w6 by subst hw6; exact (Below.drew (Below.refl _ w5)).alloc (Nat.le_refl _) _); clear hw6) | (go_at_call 42; refine (plain_any _ _).mono ?_; rintro e7 w7 ⟨rfl, hw7⟩; subst hw7) | (go_at_call 32; refine (visit_none _ _).mono ?_; rintro e8 w8 ⟨rfl, hw8⟩; subst hw8))
  have HR6 := HR5.out.but (out := fun _ => False) (But.of_below H6.out) (fun h => h) (fun h => h)
  obtain ⟨cap, c8, o8⟩ := HR6.cell
  have hlen : (encF [0, D, C, i, p, S, T, P, r, q, a, b, c, v, e, g, s, 22] hdrF).length = 22 := by
    have h1 := encF_len (M := [0, D, C, i, p, S, T, P, r, q, a, b, c, v, e, g, s, 22]) hdr_fine
    have h2 : tot hdrF = 22 := rfl
    omega
  have HB8 := Lib.hid (below_step H5.out H6.out)
  clear HR6 H6 HR5 HC5 H5 k6 k5 hlk
  rw [hlen] at c8 o8
  have he : encM 0 D C i p S T P r q a b c v e g s = encF [0, D, C, i, p, S, T, P, r, q, a, b, c, v, e, g, s, 22] hdrF ++ encF [0, D, C, i, p, S, T, P, r, q, a, b, c, v, e, g, s, 22] [] := rfl
  rw [show encF [0, D, C, i, p, S, T, P, r, q, a, b, c, v, e, g, s, 22] [] = [] from rfl, List.append_nil] at he
  have HE := Lib.hid (owns_mono (he ▸ o8) (show w.heap.size ≤ w2.heap.size + 1 by omega))
  clear o8 hlen he
  go_wp2
  go_ret2
  exact ⟨g1, cap, rfl, HE.out, HB8.out⟩

set_option maxHeartbeats 8000000 in
set_option maxRecDepth 100000 in
theorem encode_2 (D C i p S T P r q a b c v e g s : Int) (w : World) (h : rgtB (baseB D C i p S) (kindB 2 T P r q a b c v e g s) = true) :
    Calls Try.prog 18 #[.agg #[.int .i64 2, .int .i64 D, .int .i64 C, .int .i64 i, .int .i64 p, .int .i64 S, .int .i64 T, .int .i64 P, .int .i64 r, .int .i64 q, .int .i64 a, .int .i64 b, .int .i64 c, .int .i64 v, .int .i64 e, .int .i64 g, .int .i64 s]] w fun e1 w' => ∃ g1 cap, e1 = .returned (.tuple #[.slice (some ⟨g1, 0, none⟩) 22 cap, .int .i64 0]) ∧ w'.ownsRow w.heap.size 5 1 (.slice (some ⟨g1, 0, none⟩) 22 cap) 22 (bys (encM 2 D C i p S T P r q a b c v e g s)) ∧ Below w.heap.size w w' := by
  have ha := Lib.hid agg_msg
  have hs := Lib.hid size_msg
  have hk := Lib.hid h
  clear h
  obtain ⟨i0, hi0, hz0, hz1, hz2⟩ := info_parts Try.infoByte
  go_enter Try.func18, Try.ntmps18
  go_wp2_with (((with_reducible refine at_load 27 (.tmp 1) ?_); refine wpList_load_whole rfl (.tmp 1) 27 rfl w.heap.size 0 (mMsg 2 D C i p S T P r q a b c v e g s) rfl ha.out hs.out (holds_alloc w (mMsg 2 D C i p S T P r q a b c v e g s) 27 rfl) ?_))
  refine (ptpCheck_any 2 D C i p S T P r q a b c v e g s _).mono ?_
  rw [show chkB (baseB D C i p S) (kindB 2 T P r q a b c v e g s) = 0 by rw [chk_of_rgt, hk.out]; rfl]
  rintro e1 w1 ⟨rfl, hb1⟩
  have k0 : w1.cell? ⟨w.heap.size, 0, none⟩ = some (.int .i64 2) := below_keep hb1 (by simp [go_sem])
  have HM := Lib.hid (show Holds w1 w.heap.size (mMsg 2 D C i p S T P r q a b c v e g s) from (holds_alloc w (mMsg 2 D C i p S T P r q a b c v e g s) 27 rfl).keep hb1)
  have H1 := Lib.hid (below_step (below_alloc (Below.refl _ _) _) hb1)
  clear hb1
  go_wp2
  have r0 := fun p : Regrown => cell_regrown k0 p.d p.os
  refine wp_region_quiet_tail 5 (by kernel_rfl) (by kernel_rfl) ?_
  simp only [List.take_succ_cons, List.take_zero, List.drop_succ_cons, List.drop_zero]
  refine wpQuiet_load_whole rfl (.tmp 1) 27 rfl w.heap.size 0 [.int .i64 2, .int .i64 D, .int .i64 C, .int .i64 i, .int .i64 p, .int .i64 S, .int .i64 T, .int .i64 P, .int .i64 r, .int .i64 q, .int .i64 a, .int .i64 b, .int .i64 c, .int .i64 v, .int .i64 e, .int .i64 g, .int .i64 s] rfl ha.out hs.out (holds_regrown HM.out) ?_
  simp only [Act.put, List.setIfInBounds_toArray, List.set_cons_succ, List.set_cons_zero]
  repeat (go_big_quiet_step (exact Calls.regrown_of (size_2 _)))
  refine wpQuiet_nil ?_
  intro w2 hw
  have H2 := Lib.hid (below_step H1.out (show Below w1.heap.size w1 w2 by obtain ⟨p, rfl⟩ := hw; exact below_regrown _ _ _))
  clear hw r0 k0 H1 HM
  go_wp2_with (at_make; refine wpList_make_own _ rfl _ _ 44 rfl (w2.heap.size + 1) 5 i0 _ 1 Try.underlying44 hi0 hz0 hz1 _ _ _ 22 rfl rfl rfl (by rw [hz2]; decide) (by decide) (by simp) ?_; intro w3 hown hgrow)
  have HO := Lib.hid hown
  have hg3 : w2.heap.size + 1 < w3.heap.size := (hown.lt (w2.heap.size + 1) (by simp [Value.ownBlock])).2
  have HC := Lib.hid (show Holds w3 w2.heap.size ([2, D, C, i, p, S, T, P, r, q, a, b, c, v, e, g, s, 22].map (Value.int .i64)) from fun j u hu => by
    have h0 := holds_alloc w2 ([2, D, C, i, p, S, T, P, r, q, a, b, c, v, e, g, s, 22].map (Value.int .i64)) 70 rfl j u hu
    rw [World.cell?_of_block (hgrow.block w2.heap.size (by simp) (by simp))]
    exact h0)
  have H3 := Lib.hid (Below.grown (below_alloc H2.out _) hgrow (by have := H2.out.size; simp; omega) (fun k h => by cases h))
  have HR3 := Lib.hid (show Row (w2.heap.size + 1) w3.heap.size (w2.heap.size + 1) [] (w3.alloc (.cells #[.slice (some ⟨w2.heap.size + 1, 0, none⟩) 0 22] 44)) from
    ⟨⟨22, by simp [go_sem], by have := hown.alloc (.cells #[.slice (some ⟨w2.heap.size + 1, 0, none⟩) 0 22] 44); simpa using this⟩, by simp [go_sem], by omega⟩)
  have hsz2 : w.heap.size ≤ w2.heap.size := H2.out.size
  have z3 := H3.out.size
  clear hown hgrow H2
  refine (header_any _ _).mono ?_
  rintro e1 w4 ⟨bf, hb, rfl, hH, hB⟩
  have HR4 := Lib.hid (HR3.out.but (out := fun _ => False) (But.of_below hB) (fun h => h) (fun h => h))
  have HC4 := Lib.hid ((HC.out.alloc (by omega) _).keep hB)
  have H4 := Lib.hid (below_step (below_alloc H3.out _) hB)
  have zb : bf < w4.heap.size := World.block_lt_of_cell? _ _ (hH 0 _ rfl)
  have HH := Lib.hid hH
  simp at hb
  have z4 : w3.heap.size + 1 ≤ w4.heap.size := by have := hB.size; simpa using this
  clear hH hB H3 HR3 HC HO
  go_wp2_with fail
  refine (visit_writes w3.heap.size bf w2.heap.size (w2.heap.size + 1) (w2.heap.size + 1) hdrF hdr_fine (by decide) [2, D, C, i, p, S, T, P, r, q, a, b, c, v, e, g, s, 22] (by unfold hdrF; simp) [] w4 HR4.out (by omega) (by decide) HC4.out (by omega) (by omega) (by omega) HH.out zb (by omega) (by omega)).mono ?_
  rintro e1 w5 ⟨rfl, g1, r5, b5, l5⟩
  rw [List.nil_append] at r5
  have HR5 := Lib.hid r5
  have hg1 : g1 ≠ w3.heap.size := r5.apart
  have HC5 := Lib.hid (b5.holds HC4.out (by omega) (by omega))
  have H5 := Lib.hid (H4.out.trans (b5.below (B := w.heap.size) (by omega) (by rintro k (rfl | rfl) <;> omega)))
  have z5 := b5.size
  have lg1 := r5.lt.2.1
  clear r5 b5 HR4 HC4 H4 HH
  have k5 : w5.cell? ⟨w2.heap.size, 0, none⟩ = some (.int .i64 2) := HC5.out 0 _ rfl
  go_wp2
  go_region_held3 (fun w' => w'.cell? ⟨w2.heap.size, 0, none⟩ = some (.int .i64 2)) (first | (go_keep; done) | assumption | fail) (first | (go_at_call 30; refine (kinds_any _).mono ?_; rintro e6 w6 ⟨rfl, hw6⟩; have hlk := look_2 (W := w6) (B := w5.heap.size) (by subst hw6; exact (MapKept.heap_alloc w5 _).1) false; simp only [Bool.false_eq_true, ↓reduceIte] at hlk; have k6 : w6.cell? ⟨w2.heap.size, 0, none⟩ = some (.int .i64 2) := (by subst hw6; exact (World.cell?_alloc_lt w5 _ _ (World.block_lt_of_cell? _ _ k5)).trans k5); have H6 := Lib.hid (show Below w5.heap.size w5 w6 by subst hw6; exact (Below.drew (Below.refl _ w5)).alloc (Nat.le_refl _) _); clear hw6) | (go_at_call 42; refine (plain_any _ _).mono ?_; rintro e7 w7 ⟨rfl, hw7⟩; subst hw7) | (go_at_call 32; refine (visit_none _ _).mono ?_; rintro e8 w8 ⟨rfl, hw8⟩; subst hw8))
  have HR6 := HR5.out.but (out := fun _ => False) (But.of_below H6.out) (fun h => h) (fun h => h)
  obtain ⟨cap, c8, o8⟩ := HR6.cell
  have hlen : (encF [2, D, C, i, p, S, T, P, r, q, a, b, c, v, e, g, s, 22] hdrF).length = 22 := by
    have h1 := encF_len (M := [2, D, C, i, p, S, T, P, r, q, a, b, c, v, e, g, s, 22]) hdr_fine
    have h2 : tot hdrF = 22 := rfl
    omega
  have HB8 := Lib.hid (below_step H5.out H6.out)
  clear HR6 H6 HR5 HC5 H5 k6 k5 hlk
  rw [hlen] at c8 o8
  have he : encM 2 D C i p S T P r q a b c v e g s = encF [2, D, C, i, p, S, T, P, r, q, a, b, c, v, e, g, s, 22] hdrF ++ encF [2, D, C, i, p, S, T, P, r, q, a, b, c, v, e, g, s, 22] [] := rfl
  rw [show encF [2, D, C, i, p, S, T, P, r, q, a, b, c, v, e, g, s, 22] [] = [] from rfl, List.append_nil] at he
  have HE := Lib.hid (owns_mono (he ▸ o8) (show w.heap.size ≤ w2.heap.size + 1 by omega))
  clear o8 hlen he
  go_wp2
  go_ret2
  exact ⟨g1, cap, rfl, HE.out, HB8.out⟩

set_option maxHeartbeats 8000000 in
set_option maxRecDepth 100000 in
theorem encode_3 (D C i p S T P r q a b c v e g s : Int) (w : World) (h : rgtB (baseB D C i p S) (kindB 3 T P r q a b c v e g s) = true) :
    Calls Try.prog 18 #[.agg #[.int .i64 3, .int .i64 D, .int .i64 C, .int .i64 i, .int .i64 p, .int .i64 S, .int .i64 T, .int .i64 P, .int .i64 r, .int .i64 q, .int .i64 a, .int .i64 b, .int .i64 c, .int .i64 v, .int .i64 e, .int .i64 g, .int .i64 s]] w fun e1 w' => ∃ g1 cap, e1 = .returned (.tuple #[.slice (some ⟨g1, 0, none⟩) 38 cap, .int .i64 0]) ∧ w'.ownsRow w.heap.size 5 1 (.slice (some ⟨g1, 0, none⟩) 38 cap) 38 (bys (encM 3 D C i p S T P r q a b c v e g s)) ∧ Below w.heap.size w w' := by
  have ha := Lib.hid agg_msg
  have hs := Lib.hid size_msg
  have hk := Lib.hid h
  clear h
  obtain ⟨i0, hi0, hz0, hz1, hz2⟩ := info_parts Try.infoByte
  go_enter Try.func18, Try.ntmps18
  go_wp2_with (((with_reducible refine at_load 27 (.tmp 1) ?_); refine wpList_load_whole rfl (.tmp 1) 27 rfl w.heap.size 0 (mMsg 3 D C i p S T P r q a b c v e g s) rfl ha.out hs.out (holds_alloc w (mMsg 3 D C i p S T P r q a b c v e g s) 27 rfl) ?_))
  refine (ptpCheck_any 3 D C i p S T P r q a b c v e g s _).mono ?_
  rw [show chkB (baseB D C i p S) (kindB 3 T P r q a b c v e g s) = 0 by rw [chk_of_rgt, hk.out]; rfl]
  rintro e1 w1 ⟨rfl, hb1⟩
  have k0 : w1.cell? ⟨w.heap.size, 0, none⟩ = some (.int .i64 3) := below_keep hb1 (by simp [go_sem])
  have HM := Lib.hid (show Holds w1 w.heap.size (mMsg 3 D C i p S T P r q a b c v e g s) from (holds_alloc w (mMsg 3 D C i p S T P r q a b c v e g s) 27 rfl).keep hb1)
  have H1 := Lib.hid (below_step (below_alloc (Below.refl _ _) _) hb1)
  clear hb1
  go_wp2
  have r0 := fun p : Regrown => cell_regrown k0 p.d p.os
  refine wp_region_quiet_tail 5 (by kernel_rfl) (by kernel_rfl) ?_
  simp only [List.take_succ_cons, List.take_zero, List.drop_succ_cons, List.drop_zero]
  refine wpQuiet_load_whole rfl (.tmp 1) 27 rfl w.heap.size 0 [.int .i64 3, .int .i64 D, .int .i64 C, .int .i64 i, .int .i64 p, .int .i64 S, .int .i64 T, .int .i64 P, .int .i64 r, .int .i64 q, .int .i64 a, .int .i64 b, .int .i64 c, .int .i64 v, .int .i64 e, .int .i64 g, .int .i64 s] rfl ha.out hs.out (holds_regrown HM.out) ?_
  simp only [Act.put, List.setIfInBounds_toArray, List.set_cons_succ, List.set_cons_zero]
  repeat (go_big_quiet_step (exact Calls.regrown_of (size_3 _)))
  refine wpQuiet_nil ?_
  intro w2 hw
  have H2 := Lib.hid (below_step H1.out (show Below w1.heap.size w1 w2 by obtain ⟨p, rfl⟩ := hw; exact below_regrown _ _ _))
  clear hw r0 k0 H1 HM
  go_wp2_with (at_make; refine wpList_make_own _ rfl _ _ 44 rfl (w2.heap.size + 1) 5 i0 _ 1 Try.underlying44 hi0 hz0 hz1 _ _ _ 38 rfl rfl rfl (by rw [hz2]; decide) (by decide) (by simp) ?_; intro w3 hown hgrow)
  have HO := Lib.hid hown
  have hg3 : w2.heap.size + 1 < w3.heap.size := (hown.lt (w2.heap.size + 1) (by simp [Value.ownBlock])).2
  have HC := Lib.hid (show Holds w3 w2.heap.size ([3, D, C, i, p, S, T, P, r, q, a, b, c, v, e, g, s, 38].map (Value.int .i64)) from fun j u hu => by
    have h0 := holds_alloc w2 ([3, D, C, i, p, S, T, P, r, q, a, b, c, v, e, g, s, 38].map (Value.int .i64)) 70 rfl j u hu
    rw [World.cell?_of_block (hgrow.block w2.heap.size (by simp) (by simp))]
    exact h0)
  have H3 := Lib.hid (Below.grown (below_alloc H2.out _) hgrow (by have := H2.out.size; simp; omega) (fun k h => by cases h))
  have HR3 := Lib.hid (show Row (w2.heap.size + 1) w3.heap.size (w2.heap.size + 1) [] (w3.alloc (.cells #[.slice (some ⟨w2.heap.size + 1, 0, none⟩) 0 38] 44)) from
    ⟨⟨38, by simp [go_sem], by have := hown.alloc (.cells #[.slice (some ⟨w2.heap.size + 1, 0, none⟩) 0 38] 44); simpa using this⟩, by simp [go_sem], by omega⟩)
  have hsz2 : w.heap.size ≤ w2.heap.size := H2.out.size
  have z3 := H3.out.size
  clear hown hgrow H2
  refine (header_any _ _).mono ?_
  rintro e1 w4 ⟨bf, hb, rfl, hH, hB⟩
  have HR4 := Lib.hid (HR3.out.but (out := fun _ => False) (But.of_below hB) (fun h => h) (fun h => h))
  have HC4 := Lib.hid ((HC.out.alloc (by omega) _).keep hB)
  have H4 := Lib.hid (below_step (below_alloc H3.out _) hB)
  have zb : bf < w4.heap.size := World.block_lt_of_cell? _ _ (hH 0 _ rfl)
  have HH := Lib.hid hH
  simp at hb
  have z4 : w3.heap.size + 1 ≤ w4.heap.size := by have := hB.size; simpa using this
  clear hH hB H3 HR3 HC HO
  go_wp2_with fail
  refine (visit_writes w3.heap.size bf w2.heap.size (w2.heap.size + 1) (w2.heap.size + 1) hdrF hdr_fine (by decide) [3, D, C, i, p, S, T, P, r, q, a, b, c, v, e, g, s, 38] (by unfold hdrF; simp) [] w4 HR4.out (by omega) (by decide) HC4.out (by omega) (by omega) (by omega) HH.out zb (by omega) (by omega)).mono ?_
  rintro e1 w5 ⟨rfl, g1, r5, b5, l5⟩
  rw [List.nil_append] at r5
  have HR5 := Lib.hid r5
  have hg1 : g1 ≠ w3.heap.size := r5.apart
  have HC5 := Lib.hid (b5.holds HC4.out (by omega) (by omega))
  have H5 := Lib.hid (H4.out.trans (b5.below (B := w.heap.size) (by omega) (by rintro k (rfl | rfl) <;> omega)))
  have z5 := b5.size
  have lg1 := r5.lt.2.1
  clear r5 b5 HR4 HC4 H4 HH
  have k5 : w5.cell? ⟨w2.heap.size, 0, none⟩ = some (.int .i64 3) := HC5.out 0 _ rfl
  go_wp2
  go_region_held3 (fun w' => w'.cell? ⟨w2.heap.size, 0, none⟩ = some (.int .i64 3)) (first | (go_keep; done) | assumption | fail) (first | (go_at_call 30; refine (kinds_any _).mono ?_; rintro e6 w6 ⟨rfl, hw6⟩; have hlk := look_3 (W := w6) (B := w5.heap.size) (by subst hw6; exact (MapKept.heap_alloc w5 _).1) false; simp only [Bool.false_eq_true, ↓reduceIte] at hlk; have k6 : w6.cell? ⟨w2.heap.size, 0, none⟩ = some (.int .i64 3) := (by subst hw6; exact (World.cell?_alloc_lt w5 _ _ (World.block_lt_of_cell? _ _ k5)).trans k5); have H6 := Lib.hid (show Below w5.heap.size w5 w6 by subst hw6; exact (Below.drew (Below.refl _ w5)).alloc (Nat.le_refl _) _); clear hw6) | (go_at_call 43; refine (response_any _ _).mono ?_; rintro e7 w7 ⟨b7, hb7, rfl, hH7, hB7⟩; have k7 : w7.cell? ⟨w2.heap.size, 0, none⟩ = some (.int .i64 3) := below_keep hB7 k6; have H57 := Lib.hid (below_step H6.out hB7); have HH7 := Lib.hid hH7; have hb57 : w5.heap.size ≤ b7 := Nat.le_trans H6.out.size hb7; have z7 : w5.heap.size ≤ w7.heap.size := H57.out.size; have zb7 : b7 < w7.heap.size := World.block_lt_of_cell? _ _ (hH7 0 _ rfl); have HR7 := Lib.hid (HR5.out.but (out := fun _ => False) (But.of_below H57.out) (fun h => h) (fun h => h)); have HC7 := Lib.hid (HC5.out.keep H57.out); clear hH7 hB7 hb7) | (go_at_call 32; refine (visit_writes w3.heap.size b7 w2.heap.size (w2.heap.size + 1) g1 rspF rsp_fine (by decide) [3, D, C, i, p, S, T, P, r, q, a, b, c, v, e, g, s, 38] (by unfold rspF; simp) (encF [3, D, C, i, p, S, T, P, r, q, a, b, c, v, e, g, s, 38] hdrF) w7 HR7.out (by omega) (by rw [encF_len hdr_fine]; decide) HC7.out (by omega) (by omega) (by omega) HH7.out zb7 (by omega) (by omega)).mono ?_; rintro e8 w8 ⟨rfl, g2, r8, b8, l8⟩; have k8 : w8.cell? ⟨w2.heap.size, 0, none⟩ = some (.int .i64 3) := (b8.cell (World.block_lt_of_cell? _ _ k7) (fun h => by rcases h with h | h <;> (simp at h; omega))).trans k7))
  obtain ⟨cap, c8, o8⟩ := r8.cell
  have hlen : (encF [3, D, C, i, p, S, T, P, r, q, a, b, c, v, e, g, s, 38] hdrF ++ encF [3, D, C, i, p, S, T, P, r, q, a, b, c, v, e, g, s, 38] rspF).length = 38 := by
    have h1 := encF_len (M := [3, D, C, i, p, S, T, P, r, q, a, b, c, v, e, g, s, 38]) hdr_fine
    have h2 := encF_len (M := [3, D, C, i, p, S, T, P, r, q, a, b, c, v, e, g, s, 38]) rsp_fine
    have h3 : tot hdrF = 22 := rfl
    have h4 : tot rspF = 16 := rfl
    rw [List.length_append]
    omega
  have HB8 := Lib.hid ((H5.out.trans (H57.out.mono (by omega))).trans (b8.below (B := w.heap.size) (by omega) (by rintro k (rfl | rfl) <;> omega)))
  clear r8 b8 HR7 HC7 H57 HH7 HR5 HC5 H5 H6 k7 k6 k5 k8 hlk
  rw [hlen] at c8 o8
  have he : encM 3 D C i p S T P r q a b c v e g s = encF [3, D, C, i, p, S, T, P, r, q, a, b, c, v, e, g, s, 38] hdrF ++ encF [3, D, C, i, p, S, T, P, r, q, a, b, c, v, e, g, s, 38] rspF := rfl
  have HE := Lib.hid (owns_mono (he ▸ o8) (show w.heap.size ≤ w2.heap.size + 1 by omega))
  clear o8 hlen he
  go_wp2
  go_ret2
  exact ⟨g2, cap, rfl, HE.out, HB8.out⟩

set_option maxHeartbeats 8000000 in
set_option maxRecDepth 100000 in
theorem encode_10 (D C i p S T P r q a b c v e g s : Int) (w : World) (h : rgtB (baseB D C i p S) (kindB 10 T P r q a b c v e g s) = true) :
    Calls Try.prog 18 #[.agg #[.int .i64 10, .int .i64 D, .int .i64 C, .int .i64 i, .int .i64 p, .int .i64 S, .int .i64 T, .int .i64 P, .int .i64 r, .int .i64 q, .int .i64 a, .int .i64 b, .int .i64 c, .int .i64 v, .int .i64 e, .int .i64 g, .int .i64 s]] w fun e1 w' => ∃ g1 cap, e1 = .returned (.tuple #[.slice (some ⟨g1, 0, none⟩) 38 cap, .int .i64 0]) ∧ w'.ownsRow w.heap.size 5 1 (.slice (some ⟨g1, 0, none⟩) 38 cap) 38 (bys (encM 10 D C i p S T P r q a b c v e g s)) ∧ Below w.heap.size w w' := by
  have ha := Lib.hid agg_msg
  have hs := Lib.hid size_msg
  have hk := Lib.hid h
  clear h
  obtain ⟨i0, hi0, hz0, hz1, hz2⟩ := info_parts Try.infoByte
  go_enter Try.func18, Try.ntmps18
  go_wp2_with (((with_reducible refine at_load 27 (.tmp 1) ?_); refine wpList_load_whole rfl (.tmp 1) 27 rfl w.heap.size 0 (mMsg 10 D C i p S T P r q a b c v e g s) rfl ha.out hs.out (holds_alloc w (mMsg 10 D C i p S T P r q a b c v e g s) 27 rfl) ?_))
  refine (ptpCheck_any 10 D C i p S T P r q a b c v e g s _).mono ?_
  rw [show chkB (baseB D C i p S) (kindB 10 T P r q a b c v e g s) = 0 by rw [chk_of_rgt, hk.out]; rfl]
  rintro e1 w1 ⟨rfl, hb1⟩
  have k0 : w1.cell? ⟨w.heap.size, 0, none⟩ = some (.int .i64 10) := below_keep hb1 (by simp [go_sem])
  have HM := Lib.hid (show Holds w1 w.heap.size (mMsg 10 D C i p S T P r q a b c v e g s) from (holds_alloc w (mMsg 10 D C i p S T P r q a b c v e g s) 27 rfl).keep hb1)
  have H1 := Lib.hid (below_step (below_alloc (Below.refl _ _) _) hb1)
  clear hb1
  go_wp2
  have r0 := fun p : Regrown => cell_regrown k0 p.d p.os
  refine wp_region_quiet_tail 5 (by kernel_rfl) (by kernel_rfl) ?_
  simp only [List.take_succ_cons, List.take_zero, List.drop_succ_cons, List.drop_zero]
  refine wpQuiet_load_whole rfl (.tmp 1) 27 rfl w.heap.size 0 [.int .i64 10, .int .i64 D, .int .i64 C, .int .i64 i, .int .i64 p, .int .i64 S, .int .i64 T, .int .i64 P, .int .i64 r, .int .i64 q, .int .i64 a, .int .i64 b, .int .i64 c, .int .i64 v, .int .i64 e, .int .i64 g, .int .i64 s] rfl ha.out hs.out (holds_regrown HM.out) ?_
  simp only [Act.put, List.setIfInBounds_toArray, List.set_cons_succ, List.set_cons_zero]
  repeat (go_big_quiet_step (exact Calls.regrown_of (size_10 _)))
  refine wpQuiet_nil ?_
  intro w2 hw
  have H2 := Lib.hid (below_step H1.out (show Below w1.heap.size w1 w2 by obtain ⟨p, rfl⟩ := hw; exact below_regrown _ _ _))
  clear hw r0 k0 H1 HM
  go_wp2_with (at_make; refine wpList_make_own _ rfl _ _ 44 rfl (w2.heap.size + 1) 5 i0 _ 1 Try.underlying44 hi0 hz0 hz1 _ _ _ 38 rfl rfl rfl (by rw [hz2]; decide) (by decide) (by simp) ?_; intro w3 hown hgrow)
  have HO := Lib.hid hown
  have hg3 : w2.heap.size + 1 < w3.heap.size := (hown.lt (w2.heap.size + 1) (by simp [Value.ownBlock])).2
  have HC := Lib.hid (show Holds w3 w2.heap.size ([10, D, C, i, p, S, T, P, r, q, a, b, c, v, e, g, s, 38].map (Value.int .i64)) from fun j u hu => by
    have h0 := holds_alloc w2 ([10, D, C, i, p, S, T, P, r, q, a, b, c, v, e, g, s, 38].map (Value.int .i64)) 70 rfl j u hu
    rw [World.cell?_of_block (hgrow.block w2.heap.size (by simp) (by simp))]
    exact h0)
  have H3 := Lib.hid (Below.grown (below_alloc H2.out _) hgrow (by have := H2.out.size; simp; omega) (fun k h => by cases h))
  have HR3 := Lib.hid (show Row (w2.heap.size + 1) w3.heap.size (w2.heap.size + 1) [] (w3.alloc (.cells #[.slice (some ⟨w2.heap.size + 1, 0, none⟩) 0 38] 44)) from
    ⟨⟨38, by simp [go_sem], by have := hown.alloc (.cells #[.slice (some ⟨w2.heap.size + 1, 0, none⟩) 0 38] 44); simpa using this⟩, by simp [go_sem], by omega⟩)
  have hsz2 : w.heap.size ≤ w2.heap.size := H2.out.size
  have z3 := H3.out.size
  clear hown hgrow H2
  refine (header_any _ _).mono ?_
  rintro e1 w4 ⟨bf, hb, rfl, hH, hB⟩
  have HR4 := Lib.hid (HR3.out.but (out := fun _ => False) (But.of_below hB) (fun h => h) (fun h => h))
  have HC4 := Lib.hid ((HC.out.alloc (by omega) _).keep hB)
  have H4 := Lib.hid (below_step (below_alloc H3.out _) hB)
  have zb : bf < w4.heap.size := World.block_lt_of_cell? _ _ (hH 0 _ rfl)
  have HH := Lib.hid hH
  simp at hb
  have z4 : w3.heap.size + 1 ≤ w4.heap.size := by have := hB.size; simpa using this
  clear hH hB H3 HR3 HC HO
  go_wp2_with fail
  refine (visit_writes w3.heap.size bf w2.heap.size (w2.heap.size + 1) (w2.heap.size + 1) hdrF hdr_fine (by decide) [10, D, C, i, p, S, T, P, r, q, a, b, c, v, e, g, s, 38] (by unfold hdrF; simp) [] w4 HR4.out (by omega) (by decide) HC4.out (by omega) (by omega) (by omega) HH.out zb (by omega) (by omega)).mono ?_
  rintro e1 w5 ⟨rfl, g1, r5, b5, l5⟩
  rw [List.nil_append] at r5
  have HR5 := Lib.hid r5
  have hg1 : g1 ≠ w3.heap.size := r5.apart
  have HC5 := Lib.hid (b5.holds HC4.out (by omega) (by omega))
  have H5 := Lib.hid (H4.out.trans (b5.below (B := w.heap.size) (by omega) (by rintro k (rfl | rfl) <;> omega)))
  have z5 := b5.size
  have lg1 := r5.lt.2.1
  clear r5 b5 HR4 HC4 H4 HH
  have k5 : w5.cell? ⟨w2.heap.size, 0, none⟩ = some (.int .i64 10) := HC5.out 0 _ rfl
  go_wp2
  go_region_held3 (fun w' => w'.cell? ⟨w2.heap.size, 0, none⟩ = some (.int .i64 10)) (first | (go_keep; done) | assumption | fail) (first | (go_at_call 30; refine (kinds_any _).mono ?_; rintro e6 w6 ⟨rfl, hw6⟩; have hlk := look_10 (W := w6) (B := w5.heap.size) (by subst hw6; exact (MapKept.heap_alloc w5 _).1) false; simp only [Bool.false_eq_true, ↓reduceIte] at hlk; have k6 : w6.cell? ⟨w2.heap.size, 0, none⟩ = some (.int .i64 10) := (by subst hw6; exact (World.cell?_alloc_lt w5 _ _ (World.block_lt_of_cell? _ _ k5)).trans k5); have H6 := Lib.hid (show Below w5.heap.size w5 w6 by subst hw6; exact (Below.drew (Below.refl _ w5)).alloc (Nat.le_refl _) _); clear hw6) | (go_at_call 43; refine (response_any _ _).mono ?_; rintro e7 w7 ⟨b7, hb7, rfl, hH7, hB7⟩; have k7 : w7.cell? ⟨w2.heap.size, 0, none⟩ = some (.int .i64 10) := below_keep hB7 k6; have H57 := Lib.hid (below_step H6.out hB7); have HH7 := Lib.hid hH7; have hb57 : w5.heap.size ≤ b7 := Nat.le_trans H6.out.size hb7; have z7 : w5.heap.size ≤ w7.heap.size := H57.out.size; have zb7 : b7 < w7.heap.size := World.block_lt_of_cell? _ _ (hH7 0 _ rfl); have HR7 := Lib.hid (HR5.out.but (out := fun _ => False) (But.of_below H57.out) (fun h => h) (fun h => h)); have HC7 := Lib.hid (HC5.out.keep H57.out); clear hH7 hB7 hb7) | (go_at_call 32; refine (visit_writes w3.heap.size b7 w2.heap.size (w2.heap.size + 1) g1 rspF rsp_fine (by decide) [10, D, C, i, p, S, T, P, r, q, a, b, c, v, e, g, s, 38] (by unfold rspF; simp) (encF [10, D, C, i, p, S, T, P, r, q, a, b, c, v, e, g, s, 38] hdrF) w7 HR7.out (by omega) (by rw [encF_len hdr_fine]; decide) HC7.out (by omega) (by omega) (by omega) HH7.out zb7 (by omega) (by omega)).mono ?_; rintro e8 w8 ⟨rfl, g2, r8, b8, l8⟩; have k8 : w8.cell? ⟨w2.heap.size, 0, none⟩ = some (.int .i64 10) := (b8.cell (World.block_lt_of_cell? _ _ k7) (fun h => by rcases h with h | h <;> (simp at h; omega))).trans k7))
  obtain ⟨cap, c8, o8⟩ := r8.cell
  have hlen : (encF [10, D, C, i, p, S, T, P, r, q, a, b, c, v, e, g, s, 38] hdrF ++ encF [10, D, C, i, p, S, T, P, r, q, a, b, c, v, e, g, s, 38] rspF).length = 38 := by
    have h1 := encF_len (M := [10, D, C, i, p, S, T, P, r, q, a, b, c, v, e, g, s, 38]) hdr_fine
    have h2 := encF_len (M := [10, D, C, i, p, S, T, P, r, q, a, b, c, v, e, g, s, 38]) rsp_fine
    have h3 : tot hdrF = 22 := rfl
    have h4 : tot rspF = 16 := rfl
    rw [List.length_append]
    omega
  have HB8 := Lib.hid ((H5.out.trans (H57.out.mono (by omega))).trans (b8.below (B := w.heap.size) (by omega) (by rintro k (rfl | rfl) <;> omega)))
  clear r8 b8 HR7 HC7 H57 HH7 HR5 HC5 H5 H6 k7 k6 k5 k8 hlk
  rw [hlen] at c8 o8
  have he : encM 10 D C i p S T P r q a b c v e g s = encF [10, D, C, i, p, S, T, P, r, q, a, b, c, v, e, g, s, 38] hdrF ++ encF [10, D, C, i, p, S, T, P, r, q, a, b, c, v, e, g, s, 38] rspF := rfl
  have HE := Lib.hid (owns_mono (he ▸ o8) (show w.heap.size ≤ w2.heap.size + 1 by omega))
  clear o8 hlen he
  go_wp2
  go_ret2
  exact ⟨g2, cap, rfl, HE.out, HB8.out⟩

set_option maxHeartbeats 8000000 in
set_option maxRecDepth 100000 in
theorem encode_8 (D C i p S T P r q a b c v e g s : Int) (w : World) (h : rgtB (baseB D C i p S) (kindB 8 T P r q a b c v e g s) = true) :
    Calls Try.prog 18 #[.agg #[.int .i64 8, .int .i64 D, .int .i64 C, .int .i64 i, .int .i64 p, .int .i64 S, .int .i64 T, .int .i64 P, .int .i64 r, .int .i64 q, .int .i64 a, .int .i64 b, .int .i64 c, .int .i64 v, .int .i64 e, .int .i64 g, .int .i64 s]] w fun e1 w' => ∃ g1 cap, e1 = .returned (.tuple #[.slice (some ⟨g1, 0, none⟩) 34 cap, .int .i64 0]) ∧ w'.ownsRow w.heap.size 5 1 (.slice (some ⟨g1, 0, none⟩) 34 cap) 34 (bys (encM 8 D C i p S T P r q a b c v e g s)) ∧ Below w.heap.size w w' := by
  have ha := Lib.hid agg_msg
  have hs := Lib.hid size_msg
  have hk := Lib.hid h
  clear h
  obtain ⟨i0, hi0, hz0, hz1, hz2⟩ := info_parts Try.infoByte
  go_enter Try.func18, Try.ntmps18
  go_wp2_with (((with_reducible refine at_load 27 (.tmp 1) ?_); refine wpList_load_whole rfl (.tmp 1) 27 rfl w.heap.size 0 (mMsg 8 D C i p S T P r q a b c v e g s) rfl ha.out hs.out (holds_alloc w (mMsg 8 D C i p S T P r q a b c v e g s) 27 rfl) ?_))
  refine (ptpCheck_any 8 D C i p S T P r q a b c v e g s _).mono ?_
  rw [show chkB (baseB D C i p S) (kindB 8 T P r q a b c v e g s) = 0 by rw [chk_of_rgt, hk.out]; rfl]
  rintro e1 w1 ⟨rfl, hb1⟩
  have k0 : w1.cell? ⟨w.heap.size, 0, none⟩ = some (.int .i64 8) := below_keep hb1 (by simp [go_sem])
  have HM := Lib.hid (show Holds w1 w.heap.size (mMsg 8 D C i p S T P r q a b c v e g s) from (holds_alloc w (mMsg 8 D C i p S T P r q a b c v e g s) 27 rfl).keep hb1)
  have H1 := Lib.hid (below_step (below_alloc (Below.refl _ _) _) hb1)
  clear hb1
  go_wp2
  have r0 := fun p : Regrown => cell_regrown k0 p.d p.os
  refine wp_region_quiet_tail 5 (by kernel_rfl) (by kernel_rfl) ?_
  simp only [List.take_succ_cons, List.take_zero, List.drop_succ_cons, List.drop_zero]
  refine wpQuiet_load_whole rfl (.tmp 1) 27 rfl w.heap.size 0 [.int .i64 8, .int .i64 D, .int .i64 C, .int .i64 i, .int .i64 p, .int .i64 S, .int .i64 T, .int .i64 P, .int .i64 r, .int .i64 q, .int .i64 a, .int .i64 b, .int .i64 c, .int .i64 v, .int .i64 e, .int .i64 g, .int .i64 s] rfl ha.out hs.out (holds_regrown HM.out) ?_
  simp only [Act.put, List.setIfInBounds_toArray, List.set_cons_succ, List.set_cons_zero]
  repeat (go_big_quiet_step (exact Calls.regrown_of (size_8 _)))
  refine wpQuiet_nil ?_
  intro w2 hw
  have H2 := Lib.hid (below_step H1.out (show Below w1.heap.size w1 w2 by obtain ⟨p, rfl⟩ := hw; exact below_regrown _ _ _))
  clear hw r0 k0 H1 HM
  go_wp2_with (at_make; refine wpList_make_own _ rfl _ _ 44 rfl (w2.heap.size + 1) 5 i0 _ 1 Try.underlying44 hi0 hz0 hz1 _ _ _ 34 rfl rfl rfl (by rw [hz2]; decide) (by decide) (by simp) ?_; intro w3 hown hgrow)
  have HO := Lib.hid hown
  have hg3 : w2.heap.size + 1 < w3.heap.size := (hown.lt (w2.heap.size + 1) (by simp [Value.ownBlock])).2
  have HC := Lib.hid (show Holds w3 w2.heap.size ([8, D, C, i, p, S, T, P, r, q, a, b, c, v, e, g, s, 34].map (Value.int .i64)) from fun j u hu => by
    have h0 := holds_alloc w2 ([8, D, C, i, p, S, T, P, r, q, a, b, c, v, e, g, s, 34].map (Value.int .i64)) 70 rfl j u hu
    rw [World.cell?_of_block (hgrow.block w2.heap.size (by simp) (by simp))]
    exact h0)
  have H3 := Lib.hid (Below.grown (below_alloc H2.out _) hgrow (by have := H2.out.size; simp; omega) (fun k h => by cases h))
  have HR3 := Lib.hid (show Row (w2.heap.size + 1) w3.heap.size (w2.heap.size + 1) [] (w3.alloc (.cells #[.slice (some ⟨w2.heap.size + 1, 0, none⟩) 0 34] 44)) from
    ⟨⟨34, by simp [go_sem], by have := hown.alloc (.cells #[.slice (some ⟨w2.heap.size + 1, 0, none⟩) 0 34] 44); simpa using this⟩, by simp [go_sem], by omega⟩)
  have hsz2 : w.heap.size ≤ w2.heap.size := H2.out.size
  have z3 := H3.out.size
  clear hown hgrow H2
  refine (header_any _ _).mono ?_
  rintro e1 w4 ⟨bf, hb, rfl, hH, hB⟩
  have HR4 := Lib.hid (HR3.out.but (out := fun _ => False) (But.of_below hB) (fun h => h) (fun h => h))
  have HC4 := Lib.hid ((HC.out.alloc (by omega) _).keep hB)
  have H4 := Lib.hid (below_step (below_alloc H3.out _) hB)
  have zb : bf < w4.heap.size := World.block_lt_of_cell? _ _ (hH 0 _ rfl)
  have HH := Lib.hid hH
  simp at hb
  have z4 : w3.heap.size + 1 ≤ w4.heap.size := by have := hB.size; simpa using this
  clear hH hB H3 HR3 HC HO
  go_wp2_with fail
  refine (visit_writes w3.heap.size bf w2.heap.size (w2.heap.size + 1) (w2.heap.size + 1) hdrF hdr_fine (by decide) [8, D, C, i, p, S, T, P, r, q, a, b, c, v, e, g, s, 34] (by unfold hdrF; simp) [] w4 HR4.out (by omega) (by decide) HC4.out (by omega) (by omega) (by omega) HH.out zb (by omega) (by omega)).mono ?_
  rintro e1 w5 ⟨rfl, g1, r5, b5, l5⟩
  rw [List.nil_append] at r5
  have HR5 := Lib.hid r5
  have hg1 : g1 ≠ w3.heap.size := r5.apart
  have HC5 := Lib.hid (b5.holds HC4.out (by omega) (by omega))
  have H5 := Lib.hid (H4.out.trans (b5.below (B := w.heap.size) (by omega) (by rintro k (rfl | rfl) <;> omega)))
  have z5 := b5.size
  have lg1 := r5.lt.2.1
  clear r5 b5 HR4 HC4 H4 HH
  have k5 : w5.cell? ⟨w2.heap.size, 0, none⟩ = some (.int .i64 8) := HC5.out 0 _ rfl
  go_wp2
  go_region_held3 (fun w' => w'.cell? ⟨w2.heap.size, 0, none⟩ = some (.int .i64 8)) (first | (go_keep; done) | assumption | fail) (first | (go_at_call 30; refine (kinds_any _).mono ?_; rintro e6 w6 ⟨rfl, hw6⟩; have hlk := look_8 (W := w6) (B := w5.heap.size) (by subst hw6; exact (MapKept.heap_alloc w5 _).1) false; simp only [Bool.false_eq_true, ↓reduceIte] at hlk; have k6 : w6.cell? ⟨w2.heap.size, 0, none⟩ = some (.int .i64 8) := (by subst hw6; exact (World.cell?_alloc_lt w5 _ _ (World.block_lt_of_cell? _ _ k5)).trans k5); have H6 := Lib.hid (show Below w5.heap.size w5 w6 by subst hw6; exact (Below.drew (Below.refl _ w5)).alloc (Nat.le_refl _) _); clear hw6) | (go_at_call 44; refine (follow_any _ _).mono ?_; rintro e7 w7 ⟨b7, hb7, rfl, hH7, hB7⟩; have k7 : w7.cell? ⟨w2.heap.size, 0, none⟩ = some (.int .i64 8) := below_keep hB7 k6; have H57 := Lib.hid (below_step H6.out hB7); have HH7 := Lib.hid hH7; have hb57 : w5.heap.size ≤ b7 := Nat.le_trans H6.out.size hb7; have z7 : w5.heap.size ≤ w7.heap.size := H57.out.size; have zb7 : b7 < w7.heap.size := World.block_lt_of_cell? _ _ (hH7 0 _ rfl); have HR7 := Lib.hid (HR5.out.but (out := fun _ => False) (But.of_below H57.out) (fun h => h) (fun h => h)); have HC7 := Lib.hid (HC5.out.keep H57.out); clear hH7 hB7 hb7) | (go_at_call 32; refine (visit_writes w3.heap.size b7 w2.heap.size (w2.heap.size + 1) g1 folF fol_fine (by decide) [8, D, C, i, p, S, T, P, r, q, a, b, c, v, e, g, s, 34] (by unfold folF; simp) (encF [8, D, C, i, p, S, T, P, r, q, a, b, c, v, e, g, s, 34] hdrF) w7 HR7.out (by omega) (by rw [encF_len hdr_fine]; decide) HC7.out (by omega) (by omega) (by omega) HH7.out zb7 (by omega) (by omega)).mono ?_; rintro e8 w8 ⟨rfl, g2, r8, b8, l8⟩; have k8 : w8.cell? ⟨w2.heap.size, 0, none⟩ = some (.int .i64 8) := (b8.cell (World.block_lt_of_cell? _ _ k7) (fun h => by rcases h with h | h <;> (simp at h; omega))).trans k7))
  obtain ⟨cap, c8, o8⟩ := r8.cell
  have hlen : (encF [8, D, C, i, p, S, T, P, r, q, a, b, c, v, e, g, s, 34] hdrF ++ encF [8, D, C, i, p, S, T, P, r, q, a, b, c, v, e, g, s, 34] folF).length = 34 := by
    have h1 := encF_len (M := [8, D, C, i, p, S, T, P, r, q, a, b, c, v, e, g, s, 34]) hdr_fine
    have h2 := encF_len (M := [8, D, C, i, p, S, T, P, r, q, a, b, c, v, e, g, s, 34]) fol_fine
    have h3 : tot hdrF = 22 := rfl
    have h4 : tot folF = 12 := rfl
    rw [List.length_append]
    omega
  have HB8 := Lib.hid ((H5.out.trans (H57.out.mono (by omega))).trans (b8.below (B := w.heap.size) (by omega) (by rintro k (rfl | rfl) <;> omega)))
  clear r8 b8 HR7 HC7 H57 HH7 HR5 HC5 H5 H6 k7 k6 k5 k8 hlk
  rw [hlen] at c8 o8
  have he : encM 8 D C i p S T P r q a b c v e g s = encF [8, D, C, i, p, S, T, P, r, q, a, b, c, v, e, g, s, 34] hdrF ++ encF [8, D, C, i, p, S, T, P, r, q, a, b, c, v, e, g, s, 34] folF := rfl
  have HE := Lib.hid (owns_mono (he ▸ o8) (show w.heap.size ≤ w2.heap.size + 1 by omega))
  clear o8 hlen he
  go_wp2
  go_ret2
  exact ⟨g2, cap, rfl, HE.out, HB8.out⟩

set_option maxHeartbeats 8000000 in
set_option maxRecDepth 100000 in
theorem encode_11 (D C i p S T P r q a b c v e g s : Int) (w : World) (h : rgtB (baseB D C i p S) (kindB 11 T P r q a b c v e g s) = true) :
    Calls Try.prog 18 #[.agg #[.int .i64 11, .int .i64 D, .int .i64 C, .int .i64 i, .int .i64 p, .int .i64 S, .int .i64 T, .int .i64 P, .int .i64 r, .int .i64 q, .int .i64 a, .int .i64 b, .int .i64 c, .int .i64 v, .int .i64 e, .int .i64 g, .int .i64 s]] w fun e1 w' => ∃ g1 cap, e1 = .returned (.tuple #[.slice (some ⟨g1, 0, none⟩) 36 cap, .int .i64 0]) ∧ w'.ownsRow w.heap.size 5 1 (.slice (some ⟨g1, 0, none⟩) 36 cap) 36 (bys (encM 11 D C i p S T P r q a b c v e g s)) ∧ Below w.heap.size w w' := by
  have ha := Lib.hid agg_msg
  have hs := Lib.hid size_msg
  have hk := Lib.hid h
  clear h
  obtain ⟨i0, hi0, hz0, hz1, hz2⟩ := info_parts Try.infoByte
  go_enter Try.func18, Try.ntmps18
  go_wp2_with (((with_reducible refine at_load 27 (.tmp 1) ?_); refine wpList_load_whole rfl (.tmp 1) 27 rfl w.heap.size 0 (mMsg 11 D C i p S T P r q a b c v e g s) rfl ha.out hs.out (holds_alloc w (mMsg 11 D C i p S T P r q a b c v e g s) 27 rfl) ?_))
  refine (ptpCheck_any 11 D C i p S T P r q a b c v e g s _).mono ?_
  rw [show chkB (baseB D C i p S) (kindB 11 T P r q a b c v e g s) = 0 by rw [chk_of_rgt, hk.out]; rfl]
  rintro e1 w1 ⟨rfl, hb1⟩
  have k0 : w1.cell? ⟨w.heap.size, 0, none⟩ = some (.int .i64 11) := below_keep hb1 (by simp [go_sem])
  have HM := Lib.hid (show Holds w1 w.heap.size (mMsg 11 D C i p S T P r q a b c v e g s) from (holds_alloc w (mMsg 11 D C i p S T P r q a b c v e g s) 27 rfl).keep hb1)
  have H1 := Lib.hid (below_step (below_alloc (Below.refl _ _) _) hb1)
  clear hb1
  go_wp2
  have r0 := fun p : Regrown => cell_regrown k0 p.d p.os
  refine wp_region_quiet_tail 5 (by kernel_rfl) (by kernel_rfl) ?_
  simp only [List.take_succ_cons, List.take_zero, List.drop_succ_cons, List.drop_zero]
  refine wpQuiet_load_whole rfl (.tmp 1) 27 rfl w.heap.size 0 [.int .i64 11, .int .i64 D, .int .i64 C, .int .i64 i, .int .i64 p, .int .i64 S, .int .i64 T, .int .i64 P, .int .i64 r, .int .i64 q, .int .i64 a, .int .i64 b, .int .i64 c, .int .i64 v, .int .i64 e, .int .i64 g, .int .i64 s] rfl ha.out hs.out (holds_regrown HM.out) ?_
  simp only [Act.put, List.setIfInBounds_toArray, List.set_cons_succ, List.set_cons_zero]
  repeat (go_big_quiet_step (exact Calls.regrown_of (size_11 _)))
  refine wpQuiet_nil ?_
  intro w2 hw
  have H2 := Lib.hid (below_step H1.out (show Below w1.heap.size w1 w2 by obtain ⟨p, rfl⟩ := hw; exact below_regrown _ _ _))
  clear hw r0 k0 H1 HM
  go_wp2_with (at_make; refine wpList_make_own _ rfl _ _ 44 rfl (w2.heap.size + 1) 5 i0 _ 1 Try.underlying44 hi0 hz0 hz1 _ _ _ 36 rfl rfl rfl (by rw [hz2]; decide) (by decide) (by simp) ?_; intro w3 hown hgrow)
  have HO := Lib.hid hown
  have hg3 : w2.heap.size + 1 < w3.heap.size := (hown.lt (w2.heap.size + 1) (by simp [Value.ownBlock])).2
  have HC := Lib.hid (show Holds w3 w2.heap.size ([11, D, C, i, p, S, T, P, r, q, a, b, c, v, e, g, s, 36].map (Value.int .i64)) from fun j u hu => by
    have h0 := holds_alloc w2 ([11, D, C, i, p, S, T, P, r, q, a, b, c, v, e, g, s, 36].map (Value.int .i64)) 70 rfl j u hu
    rw [World.cell?_of_block (hgrow.block w2.heap.size (by simp) (by simp))]
    exact h0)
  have H3 := Lib.hid (Below.grown (below_alloc H2.out _) hgrow (by have := H2.out.size; simp; omega) (fun k h => by cases h))
  have HR3 := Lib.hid (show Row (w2.heap.size + 1) w3.heap.size (w2.heap.size + 1) [] (w3.alloc (.cells #[.slice (some ⟨w2.heap.size + 1, 0, none⟩) 0 36] 44)) from
    ⟨⟨36, by simp [go_sem], by have := hown.alloc (.cells #[.slice (some ⟨w2.heap.size + 1, 0, none⟩) 0 36] 44); simpa using this⟩, by simp [go_sem], by omega⟩)
  have hsz2 : w.heap.size ≤ w2.heap.size := H2.out.size
  have z3 := H3.out.size
  clear hown hgrow H2
  refine (header_any _ _).mono ?_
  rintro e1 w4 ⟨bf, hb, rfl, hH, hB⟩
  have HR4 := Lib.hid (HR3.out.but (out := fun _ => False) (But.of_below hB) (fun h => h) (fun h => h))
  have HC4 := Lib.hid ((HC.out.alloc (by omega) _).keep hB)
  have H4 := Lib.hid (below_step (below_alloc H3.out _) hB)
  have zb : bf < w4.heap.size := World.block_lt_of_cell? _ _ (hH 0 _ rfl)
  have HH := Lib.hid hH
  simp at hb
  have z4 : w3.heap.size + 1 ≤ w4.heap.size := by have := hB.size; simpa using this
  clear hH hB H3 HR3 HC HO
  go_wp2_with fail
  refine (visit_writes w3.heap.size bf w2.heap.size (w2.heap.size + 1) (w2.heap.size + 1) hdrF hdr_fine (by decide) [11, D, C, i, p, S, T, P, r, q, a, b, c, v, e, g, s, 36] (by unfold hdrF; simp) [] w4 HR4.out (by omega) (by decide) HC4.out (by omega) (by omega) (by omega) HH.out zb (by omega) (by omega)).mono ?_
  rintro e1 w5 ⟨rfl, g1, r5, b5, l5⟩
  rw [List.nil_append] at r5
  have HR5 := Lib.hid r5
  have hg1 : g1 ≠ w3.heap.size := r5.apart
  have HC5 := Lib.hid (b5.holds HC4.out (by omega) (by omega))
  have H5 := Lib.hid (H4.out.trans (b5.below (B := w.heap.size) (by omega) (by rintro k (rfl | rfl) <;> omega)))
  have z5 := b5.size
  have lg1 := r5.lt.2.1
  clear r5 b5 HR4 HC4 H4 HH
  have k5 : w5.cell? ⟨w2.heap.size, 0, none⟩ = some (.int .i64 11) := HC5.out 0 _ rfl
  go_wp2
  go_region_held3 (fun w' => w'.cell? ⟨w2.heap.size, 0, none⟩ = some (.int .i64 11)) (first | (go_keep; done) | assumption | fail) (first | (go_at_call 30; refine (kinds_any _).mono ?_; rintro e6 w6 ⟨rfl, hw6⟩; have hlk := look_11 (W := w6) (B := w5.heap.size) (by subst hw6; exact (MapKept.heap_alloc w5 _).1) false; simp only [Bool.false_eq_true, ↓reduceIte] at hlk; have k6 : w6.cell? ⟨w2.heap.size, 0, none⟩ = some (.int .i64 11) := (by subst hw6; exact (World.cell?_alloc_lt w5 _ _ (World.block_lt_of_cell? _ _ k5)).trans k5); have H6 := Lib.hid (show Below w5.heap.size w5 w6 by subst hw6; exact (Below.drew (Below.refl _ w5)).alloc (Nat.le_refl _) _); clear hw6) | (go_at_call 45; refine (announce_any _ _).mono ?_; rintro e7 w7 ⟨b7, hb7, rfl, hH7, hB7⟩; have k7 : w7.cell? ⟨w2.heap.size, 0, none⟩ = some (.int .i64 11) := below_keep hB7 k6; have H57 := Lib.hid (below_step H6.out hB7); have HH7 := Lib.hid hH7; have hb57 : w5.heap.size ≤ b7 := Nat.le_trans H6.out.size hb7; have z7 : w5.heap.size ≤ w7.heap.size := H57.out.size; have zb7 : b7 < w7.heap.size := World.block_lt_of_cell? _ _ (hH7 0 _ rfl); have HR7 := Lib.hid (HR5.out.but (out := fun _ => False) (But.of_below H57.out) (fun h => h) (fun h => h)); have HC7 := Lib.hid (HC5.out.keep H57.out); clear hH7 hB7 hb7) | (go_at_call 32; refine (visit_writes w3.heap.size b7 w2.heap.size (w2.heap.size + 1) g1 annF ann_fine (by decide) [11, D, C, i, p, S, T, P, r, q, a, b, c, v, e, g, s, 36] (by unfold annF; simp) (encF [11, D, C, i, p, S, T, P, r, q, a, b, c, v, e, g, s, 36] hdrF) w7 HR7.out (by omega) (by rw [encF_len hdr_fine]; decide) HC7.out (by omega) (by omega) (by omega) HH7.out zb7 (by omega) (by omega)).mono ?_; rintro e8 w8 ⟨rfl, g2, r8, b8, l8⟩; have k8 : w8.cell? ⟨w2.heap.size, 0, none⟩ = some (.int .i64 11) := (b8.cell (World.block_lt_of_cell? _ _ k7) (fun h => by rcases h with h | h <;> (simp at h; omega))).trans k7))
  obtain ⟨cap, c8, o8⟩ := r8.cell
  have hlen : (encF [11, D, C, i, p, S, T, P, r, q, a, b, c, v, e, g, s, 36] hdrF ++ encF [11, D, C, i, p, S, T, P, r, q, a, b, c, v, e, g, s, 36] annF).length = 36 := by
    have h1 := encF_len (M := [11, D, C, i, p, S, T, P, r, q, a, b, c, v, e, g, s, 36]) hdr_fine
    have h2 := encF_len (M := [11, D, C, i, p, S, T, P, r, q, a, b, c, v, e, g, s, 36]) ann_fine
    have h3 : tot hdrF = 22 := rfl
    have h4 : tot annF = 14 := rfl
    rw [List.length_append]
    omega
  have HB8 := Lib.hid ((H5.out.trans (H57.out.mono (by omega))).trans (b8.below (B := w.heap.size) (by omega) (by rintro k (rfl | rfl) <;> omega)))
  clear r8 b8 HR7 HC7 H57 HH7 HR5 HC5 H5 H6 k7 k6 k5 k8 hlk
  rw [hlen] at c8 o8
  have he : encM 11 D C i p S T P r q a b c v e g s = encF [11, D, C, i, p, S, T, P, r, q, a, b, c, v, e, g, s, 36] hdrF ++ encF [11, D, C, i, p, S, T, P, r, q, a, b, c, v, e, g, s, 36] annF := rfl
  have HE := Lib.hid (owns_mono (he ▸ o8) (show w.heap.size ≤ w2.heap.size + 1 by omega))
  clear o8 hlen he
  go_wp2
  go_ret2
  exact ⟨g2, cap, rfl, HE.out, HB8.out⟩

set_option maxHeartbeats 4000000 in
set_option maxRecDepth 100000 in
theorem encode_bad (K D C i p S T P r q a b c v e g s : Int) (w : World) (h : rgtB (baseB D C i p S) (kindB K T P r q a b c v e g s) = false) :
    Calls Try.prog 18 #[.agg #[.int .i64 K, .int .i64 D, .int .i64 C, .int .i64 i, .int .i64 p, .int .i64 S, .int .i64 T, .int .i64 P, .int .i64 r, .int .i64 q, .int .i64 a, .int .i64 b, .int .i64 c, .int .i64 v, .int .i64 e, .int .i64 g, .int .i64 s]] w fun e1 w' => e1 = .returned (.tuple #[.slice none 0 0, .int .i64 200]) ∧ Below w.heap.size w w' := by
  have ha := Lib.hid agg_msg
  have hs := Lib.hid size_msg
  have hk := Lib.hid h
  clear h
  go_enter Try.func18, Try.ntmps18
  go_wp2_with (((with_reducible refine at_load 27 (.tmp 1) ?_); refine wpList_load_whole rfl (.tmp 1) 27 rfl w.heap.size 0 (mMsg K D C i p S T P r q a b c v e g s) rfl ha.out hs.out (holds_alloc w (mMsg K D C i p S T P r q a b c v e g s) 27 rfl) ?_))
  refine (ptpCheck_any K D C i p S T P r q a b c v e g s _).mono ?_
  rw [show chkB (baseB D C i p S) (kindB K T P r q a b c v e g s) = 200 by rw [chk_of_rgt, hk.out]; rfl]
  rintro e1 w1 ⟨rfl, hb1⟩
  have H1 := Lib.hid (below_step (below_alloc (Below.refl _ _) _) hb1)
  clear hb1
  go_wp2
  go_ret2
  exact ⟨rfl, H1.out⟩

/-- A valid message's kind is one of six. -/
theorem kind_of (K D C i p S T P r q a b c v e g s : Int) (h : rgtB (baseB D C i p S) (kindB K T P r q a b c v e g s) = true) : K = 0 ∨ K = 2 ∨ K = 3 ∨ K = 10 ∨ K = 8 ∨ K = 11 := by
  have h2 : kindB K T P r q a b c v e g s = true := by
    unfold rgtB at h
    exact ((Bool.and_eq_true _ _).mp h).2
  unfold kindB at h2
  (repeat' split at h2) <;> first | omega | cases h2

/-- ptp.Encode of a valid message. -/
theorem encode_ok (K D C i p S T P r q a b c v e g s : Int) (w : World) (h : rgtB (baseB D C i p S) (kindB K T P r q a b c v e g s) = true) :
    Calls Try.prog 18 #[.agg #[.int .i64 K, .int .i64 D, .int .i64 C, .int .i64 i, .int .i64 p, .int .i64 S, .int .i64 T, .int .i64 P, .int .i64 r, .int .i64 q, .int .i64 a, .int .i64 b, .int .i64 c, .int .i64 v, .int .i64 e, .int .i64 g, .int .i64 s]] w fun e1 w' => ∃ g1 cap, e1 = .returned (.tuple #[.slice (some ⟨g1, 0, none⟩) (encM K D C i p S T P r q a b c v e g s).length cap, .int .i64 0]) ∧ w'.ownsRow w.heap.size 5 1 (.slice (some ⟨g1, 0, none⟩) (encM K D C i p S T P r q a b c v e g s).length cap) (encM K D C i p S T P r q a b c v e g s).length (bys (encM K D C i p S T P r q a b c v e g s)) ∧ Below w.heap.size w w' := by
  rcases kind_of K D C i p S T P r q a b c v e g s h with rfl | rfl | rfl | rfl | rfl | rfl
  · rw [show (encM 0 D C i p S T P r q a b c v e g s).length = 22 from enc_len_0 D C i p S T P r q a b c v e g s]
    exact encode_0 D C i p S T P r q a b c v e g s w h
  · rw [show (encM 2 D C i p S T P r q a b c v e g s).length = 22 from enc_len_2 D C i p S T P r q a b c v e g s]
    exact encode_2 D C i p S T P r q a b c v e g s w h
  · rw [show (encM 3 D C i p S T P r q a b c v e g s).length = 38 from enc_len_3 D C i p S T P r q a b c v e g s]
    exact encode_3 D C i p S T P r q a b c v e g s w h
  · rw [show (encM 10 D C i p S T P r q a b c v e g s).length = 38 from enc_len_10 D C i p S T P r q a b c v e g s]
    exact encode_10 D C i p S T P r q a b c v e g s w h
  · rw [show (encM 8 D C i p S T P r q a b c v e g s).length = 34 from enc_len_8 D C i p S T P r q a b c v e g s]
    exact encode_8 D C i p S T P r q a b c v e g s w h
  · rw [show (encM 11 D C i p S T P r q a b c v e g s).length = 36 from enc_len_11 D C i p S T P r q a b c v e g s]
    exact encode_11 D C i p S T P r q a b c v e g s w h

end Go.Proofs.Ytecengclcaodeaa
