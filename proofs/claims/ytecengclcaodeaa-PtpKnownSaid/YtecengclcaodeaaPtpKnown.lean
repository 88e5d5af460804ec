/-
  PtpKnown: the law returns true. No conditions.
-/
import Derived.Test.YtecengclcaodeaaClone
import Derived.Test.YtecengclcaodeaaDraft
import Derived.Test.YtecengclcaodeaaQLoad
import Derived.Test.YtecengclcaodeaaStep
import Derived.Test.YtecengclcaodeaaAt
import Derived.Test.YtecengclcaodeaaLift
import Derived.Deep.RegionHeld3
import Derived.Deep.DeepCutAuto
import Derived.BigQuiet
namespace Go.Proofs.Ytecengclcaodeaa
open Go.RowKit Go.Lib Plain
open Go.ChangeShapes Go.WideShapes Go.ChangeAt

theorem s17 {w' : World} {b : Nat} (h : Holds w' b (mMsg 11 127 4398046511104 281474976710655 65535 65535 0 0 0 0 255 254 253 65535 252 281474976710655 65535)) : w'.cell? ⟨b, 0, none⟩ = some (.int .i64 11) ∧ w'.cell? ⟨b, 1, none⟩ = some (.int .i64 127) ∧ w'.cell? ⟨b, 2, none⟩ = some (.int .i64 4398046511104) ∧ w'.cell? ⟨b, 3, none⟩ = some (.int .i64 281474976710655) ∧ w'.cell? ⟨b, 4, none⟩ = some (.int .i64 65535) ∧ w'.cell? ⟨b, 5, none⟩ = some (.int .i64 65535) ∧ w'.cell? ⟨b, 6, none⟩ = some (.int .i64 0) ∧ w'.cell? ⟨b, 7, none⟩ = some (.int .i64 0) ∧ w'.cell? ⟨b, 8, none⟩ = some (.int .i64 0) ∧ w'.cell? ⟨b, 9, none⟩ = some (.int .i64 0) ∧ w'.cell? ⟨b, 10, none⟩ = some (.int .i64 255) ∧ w'.cell? ⟨b, 11, none⟩ = some (.int .i64 254) ∧ w'.cell? ⟨b, 12, none⟩ = some (.int .i64 253) ∧ w'.cell? ⟨b, 13, none⟩ = some (.int .i64 65535) ∧ w'.cell? ⟨b, 14, none⟩ = some (.int .i64 252) ∧ w'.cell? ⟨b, 15, none⟩ = some (.int .i64 281474976710655) ∧ w'.cell? ⟨b, 16, none⟩ = some (.int .i64 65535) := ⟨by simpa using h 0 _ rfl, by simpa using h 1 _ rfl, by simpa using h 2 _ rfl, by simpa using h 3 _ rfl, by simpa using h 4 _ rfl, by simpa using h 5 _ rfl, by simpa using h 6 _ rfl, by simpa using h 7 _ rfl, by simpa using h 8 _ rfl, by simpa using h 9 _ rfl, by simpa using h 10 _ rfl, by simpa using h 11 _ rfl, by simpa using h 12 _ rfl, by simpa using h 13 _ rfl, by simpa using h 14 _ rfl, by simpa using h 15 _ rfl, by simpa using h 16 _ rfl⟩

def annL : List Int := [11, 127, 0, 36, 0, 0, 4, 0, 0, 0, 0, 0, 255, 255, 255, 255, 255, 255, 255, 255, 255, 255, 255, 254, 253, 255, 255, 252, 255, 255, 255, 255, 255, 255, 255, 255]
def rspL : List Int := [10, 0, 0, 38, 255, 255, 252, 0, 0, 0, 0, 0, 0, 0, 0, 0, 0, 0, 0, 1, 0, 0, 255, 255, 252, 0, 0, 0, 0, 0, 0, 0, 0, 0, 0, 0, 0, 1]
theorem enc_ann : encM 11 127 4398046511104 281474976710655 65535 65535 0 0 0 0 255 254 253 65535 252 281474976710655 65535 = annL := by decide +kernel
theorem enc_rsp : encM 10 0 (-4398046511104) 0 1 0 (-4398046511104) 0 0 1 0 0 0 0 0 0 0 = rspL := by decide +kernel

set_option maxHeartbeats 8000000 in
set_option maxRecDepth 100000 in
theorem ptpKnown_walk (w : World) :
    Calls Try.prog 8 #[] w fun y w' => y = .returned (.bool true) ∧ Below w.heap.size w w' := by
  have ha := Lib.hid agg_msg
  have hs := Lib.hid size_msg
  go_enter Try.func8, Try.ntmps8
  go_wp2_with fail
  refine (works10_any _).mono ?_
  rintro y w1 ⟨rfl, hb1⟩
  have H1 := Lib.hid hb1
  have z1 := H1.out.size
  clear hb1
  go_wp2_with (first | ((with_reducible refine at_store 27 (.tmp 1) (.tmp 18) ?_); refine wpList_store_whole rfl (.tmp 1) (.tmp 18) 27 rfl w1.heap.size 0 (mMsg 11 127 4398046511104 281474976710655 65535 65535 0 0 0 0 255 254 253 65535 252 281474976710655 65535) rfl rfl hs.out (zM_here _ rfl (by simp)) (fun j _ => frozen_new _ _ _ _ (by simp)) (mMsg_one 11 127 4398046511104 281474976710655 65535 65535 0 0 0 0 255 254 253 65535 252 281474976710655 65535) ?_; intro w2 hw2) | ((with_reducible refine at_load 27 (.tmp 1) ?_); refine wpList_load_whole rfl (.tmp 1) 27 rfl w1.heap.size 0 (mMsg 11 127 4398046511104 281474976710655 65535 65535 0 0 0 0 255 254 253 65535 252 281474976710655 65535) rfl ha.out hs.out hw2.here ?_))
  refine (encode_ok 11 127 4398046511104 281474976710655 65535 65535 0 0 0 0 255 254 253 65535 252 281474976710655 65535 _ (by decide +kernel)).mono ?_
  rw [enc_ann, show annL.length = 36 from rfl]
  rintro y w3 ⟨g1, cap1, rfl, ho3, hb3⟩
  have A3 := Lib.hid (lies_owned (L := annL) ho3)
  have HA3 := Lib.hid (Holds.keep hw2.here hb3)
  have y3 : w1.heap.size < w3.heap.size := World.block_lt_of_cell? _ _ (HA3.out 0 _ rfl)
  have H3 := Lib.hid (below_step (hw2.below _ _ z1 (below_alloc H1.out _)) hb3)
  have z3 := H3.out.size
  have x3 : g1 < w3.heap.size := World.block_lt_of_cell? _ _ (A3.out 0 _ rfl)
  clear hb3 hw2 ho3 H1
  go_wp2_with (first | ((with_reducible refine at_store 27 (.tmp 4) (.tmp 26) ?_); refine wpList_store_whole rfl (.tmp 4) (.tmp 26) 27 rfl w3.heap.size 0 (mMsg 10 0 (-4398046511104) 0 1 0 (-4398046511104) 0 0 1 0 0 0 0 0 0 0) rfl rfl hs.out (zM_here _ rfl (by simp)) (fun j _ => frozen_new _ _ _ _ (by simp)) (mMsg_one 10 0 (-4398046511104) 0 1 0 (-4398046511104) 0 0 1 0 0 0 0 0 0 0) ?_; intro w4 hw4) | ((with_reducible refine at_load 27 (.tmp 4) ?_); refine wpList_load_whole rfl (.tmp 4) 27 rfl w3.heap.size 0 (mMsg 10 0 (-4398046511104) 0 1 0 (-4398046511104) 0 0 1 0 0 0 0 0 0 0) rfl ha.out hs.out hw4.here ?_))
  refine (encode_ok 10 0 (-4398046511104) 0 1 0 (-4398046511104) 0 0 1 0 0 0 0 0 0 0 _ (by decide +kernel)).mono ?_
  rw [enc_rsp, show rspL.length = 38 from rfl]
  rintro y w5 ⟨g2, cap2, rfl, ho5, hb5⟩
  have B5 := Lib.hid (lies_owned (L := rspL) ho5)
  have HB5 := Lib.hid (Holds.keep hw4.here hb5)
  have HA5 := Lib.hid (show Holds w5 w1.heap.size (mMsg 11 127 4398046511104 281474976710655 65535 65535 0 0 0 0 255 254 253 65535 252 281474976710655 65535) from Holds.keep (Holds.wrote (HA3.out.alloc y3 _) hw4 (by omega)) hb5)
  have A5 := Lib.hid (show Lies w5 g1 0 annL from Lies.keep (fun j x hx => (hw4.far _ _ (by omega)).trans (cell_al (A3.out j x hx) _)) hb5)
  have H5 := Lib.hid (below_step (hw4.below _ _ z3 (below_alloc H3.out _)) hb5)
  clear hb5 hw4 ho5 H3 HA3 A3
  go_wp2_with fail
  refine (equal_any _ _ annL annL (bytesB (by decide +kernel)) (bytesB (by decide +kernel)) _ (str_lies (A5.out.alloc _) cap1) (str_lies (lies_new w5 annL rfl) 36)).mono ?_
  rw [decide_eq_true rfl]
  rintro y w6 ⟨rfl, hw6⟩
  have HA6 := Lib.hid (show Holds w6 w1.heap.size (mMsg 11 127 4398046511104 281474976710655 65535 65535 0 0 0 0 255 254 253 65535 252 281474976710655 65535) by rw [← hw6]; exact HA5.out.alloc (World.block_lt_of_cell? _ _ (HA5.out 0 _ rfl)) _)
  have HB6 := Lib.hid (show Holds w6 w3.heap.size (mMsg 10 0 (-4398046511104) 0 1 0 (-4398046511104) 0 0 1 0 0 0 0 0 0 0) by rw [← hw6]; exact HB5.out.alloc (World.block_lt_of_cell? _ _ (HB5.out 0 _ rfl)) _)
  have B6 := Lib.hid (show Lies w6 g2 0 rspL by rw [← hw6]; exact B5.out.alloc _)
  have H6 := Lib.hid (show Below w.heap.size w w6 by rw [← hw6]; exact below_alloc H5.out _)
  clear hw6 HA5 HB5 A5 B5 H5
  go_wp2_with fail
  refine (equal_any _ _ rspL rspL (bytesB (by decide +kernel)) (bytesB (by decide +kernel)) _ (str_lies (B6.out.alloc _) cap2) (str_lies (lies_new w6 rspL rfl) 38)).mono ?_
  rw [decide_eq_true rfl]
  rintro y w7 ⟨rfl, hw7⟩
  have HA7 := Lib.hid (show Holds w7 w1.heap.size (mMsg 11 127 4398046511104 281474976710655 65535 65535 0 0 0 0 255 254 253 65535 252 281474976710655 65535) by rw [← hw7]; exact HA6.out.alloc (World.block_lt_of_cell? _ _ (HA6.out 0 _ rfl)) _)
  have HB7 := Lib.hid (show Holds w7 w3.heap.size (mMsg 10 0 (-4398046511104) 0 1 0 (-4398046511104) 0 0 1 0 0 0 0 0 0 0) by rw [← hw7]; exact HB6.out.alloc (World.block_lt_of_cell? _ _ (HB6.out 0 _ rfl)) _)
  have H7 := Lib.hid (show Below w.heap.size w w7 by rw [← hw7]; exact below_alloc H6.out _)
  clear hw7 HA6 HB6 B6 H6
  go_upto_region 11 with fail
  have y7 : w1.heap.size < w7.heap.size := World.block_lt_of_cell? _ _ (HA7.out 0 _ rfl)
  have GA := HA7.out
  have GA1 := fun o => HA7.out.alloc y7 o
  have GA2 := fun o o' => (HA7.out.alloc y7 o).alloc (by simp; omega) o'
  have hld : ∀ W : World, Holds W w1.heap.size (mMsg 11 127 4398046511104 281474976710655 65535 65535 0 0 0 0 255 254 253 65535 252 281474976710655 65535) → (loadVar 27 ⟨w1.heap.size, 0, none⟩).run Try.prog W = .ok (.agg (mMsg 11 127 4398046511104 281474976710655 65535 65535 0 0 0 0 255 254 253 65535 252 281474976710655 65535).toArray) W := fun W h => run_loadVar_whole 27 w1.heap.size 0 (mMsg 11 127 4398046511104 281474976710655 65535 65535 0 0 0 0 255 254 253 65535 252 281474976710655 65535) ha.out hs.out h
  have y3b : w3.heap.size < w7.heap.size := World.block_lt_of_cell? _ _ (HB7.out 0 _ rfl)
  have z7 := H7.out.size
  go_cut [7, 8] (fun s7 s8 wx => ∃ b7 b8 : Nat, s7 = .pointer (some ⟨b7, 0, none⟩) ∧ s8 = .pointer (some ⟨b8, 0, none⟩) ∧ b7 ≠ b8 ∧ w7.heap.size ≤ b7 ∧ w7.heap.size ≤ b8 ∧ Holds wx b7 (mMsg 11 127 4398046511104 281474976710655 65535 65535 0 0 0 0 255 254 253 65535 252 281474976710655 65535) ∧ Holds wx b8 (mMsg 11 127 4398046511104 281474976710655 65535 65535 0 0 0 0 255 254 253 65535 252 281474976710655 65535) ∧ (∀ u, wx.frozen? ⟨b7, u, none⟩ = false) ∧ (∀ u, wx.frozen? ⟨b8, u, none⟩ = false) ∧ Below w7.heap.size w7 wx)
  case first =>
    refine wp_region_held_drew (S := fun w' => Holds w' w1.heap.size (mMsg 11 127 4398046511104 281474976710655 65535 65535 0 0 0 0 255 254 253 65535 252 281474976710655 65535)) (by kernel_rfl) (fun j v hv => GA j v hv) (fun h0 => ?_)
    refine wpAnyH_take (i := 0) (v := .agg (mMsg 11 127 4398046511104 281474976710655 65535 65535 0 0 0 0 255 254 253 65535 252 281474976710655 65535).toArray) rfl (by kernel_rfl) (by kernel_rfl) (by kernel_rfl) (fun _ _ _ h => h) (yieldsIf_load_whole rfl (.tmp 1) 27 rfl w1.heap.size (mMsg 11 127 4398046511104 281474976710655 65535 65535 0 0 0 0 255 254 253 65535 252 281474976710655 65535) rfl ha.out hs.out (fun _ h => h)) h0 ?_
    simp only [Act.put, List.setIfInBounds_toArray, List.set_cons_zero, List.set_cons_succ]
    refine wpAnyH_take (i := 1) (v := .agg (mMsg 11 127 4398046511104 281474976710655 65535 65535 0 0 0 0 255 254 253 65535 252 281474976710655 65535).toArray) rfl (by kernel_rfl) (by kernel_rfl) (by kernel_rfl) (fun _ _ _ h => h) (yieldsIf_load_whole rfl (.tmp 1) 27 rfl w1.heap.size (mMsg 11 127 4398046511104 281474976710655 65535 65535 0 0 0 0 255 254 253 65535 252 281474976710655 65535) rfl ha.out hs.out (fun _ h => h)) h0 ?_
    simp only [Act.put, List.setIfInBounds_toArray, List.set_cons_zero, List.set_cons_succ]
    refine wpAnyH_ready (rs := [2, 3]) (by kernel_rfl) (by simp) ?_
    refine AllReadyH.cons (o := ⟨some 7, .alloc 27, 0, "outright.go:87", #[], none⟩) rfl (fun K hK => ?_) ?_
    ·
      go_simp
      refine hK.out _ _ (GA1 _) (fun h1 => ?_)
      clear hK K
      try simp only [Act.put, List.setIfInBounds_toArray, List.set_cons_zero, List.set_cons_succ]
      refine wpAnyH_ready (rs := [3]) (by kernel_rfl) (by simp) ?_
      refine AllReadyH.cons (o := ⟨some 8, .alloc 27, 0, "outright.go:87", #[], none⟩) rfl (fun K hK => ?_) AllReadyH.nil
      go_simp
      refine hK.out _ _ (GA2 _ _) (fun h2 => ?_)
      clear hK K
      try simp only [Act.put, List.setIfInBounds_toArray, List.set_cons_zero, List.set_cons_succ]
      obtain ⟨X, hX⟩ : ∃ X, X = ((w7.alloc (.cells #[.int .i64 0, .int .i64 0, .int .i64 0, .int .i64 0, .int .i64 0, .int .i64 0, .int .i64 0, .int .i64 0, .int .i64 0, .int .i64 0, .int .i64 0, .int .i64 0, .int .i64 0, .int .i64 0, .int .i64 0, .int .i64 0, .int .i64 0] 27)).alloc (.cells #[.int .i64 0, .int .i64 0, .int .i64 0, .int .i64 0, .int .i64 0, .int .i64 0, .int .i64 0, .int .i64 0, .int .i64 0, .int .i64 0, .int .i64 0, .int .i64 0, .int .i64 0, .int .i64 0, .int .i64 0, .int .i64 0, .int .i64 0] 27)).drew := ⟨_, rfl⟩
      have e0 : Holds X w7.heap.size zM := by subst hX; exact fun j v hv => ((holds_alloc w7 zM 27 rfl).alloc (by simp) _) j v hv
      have e1 : Holds X (w7.heap.size + 1) zM := by subst hX; exact fun j v hv => (holds_alloc (w7.alloc _) zM 27 (by simp)) j v hv
      have eO : Holds X w1.heap.size (mMsg 11 127 4398046511104 281474976710655 65535 65535 0 0 0 0 255 254 253 65535 252 281474976710655 65535) := by subst hX; exact h2
      have q0 : ∀ u, X.frozen? ⟨w7.heap.size, u, none⟩ = false := by subst hX; intro u; exact frozen_al (frozen_new _ _ _ _ rfl) (by simp) _
      have q1 : ∀ u, X.frozen? ⟨w7.heap.size + 1, u, none⟩ = false := by subst hX; intro u; exact frozen_new _ _ _ _ (by simp)
      have eB : Below w7.heap.size w7 X := by subst hX; exact Below.drew (below_alloc (below_alloc (Below.refl _ _) _) _)
      rw [← hX]
      clear hX h1 h2
      refine wpAnyH_ready (rs := [4]) (by kernel_rfl) (by simp) ?_
      refine AllReadyH.cons rfl (fun K hK => ?_) AllReadyH.nil
      refine step_store_whole rfl (.tmp 7) (.tmp 48) 27 rfl (w7.heap.size) 0 (mMsg 11 127 4398046511104 281474976710655 65535 65535 0 0 0 0 255 254 253 65535 252 281474976710655 65535) rfl rfl hs.out (fun j hj => e0.some j hj) (fun j _ => q0 _) (mMsg_one 11 127 4398046511104 281474976710655 65535 65535 0 0 0 0 255 254 253 65535 252 281474976710655 65535) ?_
      intro x7 hx7
      refine hK.out _ _ (eO.wrote hx7 (by omega)) (fun h3 => ?_)
      clear hK K
      try simp only [Act.put, List.setIfInBounds_toArray, List.set_cons_zero, List.set_cons_succ]
      try simp only [Act.put, List.getElem_toArray, List.getElem_cons_succ, List.getElem_cons_zero]
      refine wpAnyH_ready (rs := [5]) (by kernel_rfl) (by simp) ?_
      refine AllReadyH.cons rfl (fun K hK => ?_) AllReadyH.nil
      refine step_store_whole rfl (.tmp 8) (.tmp 49) 27 rfl (w7.heap.size + 1) 0 (mMsg 11 127 4398046511104 281474976710655 65535 65535 0 0 0 0 255 254 253 65535 252 281474976710655 65535) rfl rfl hs.out (fun j hj => (e1.wrote hx7 (by omega)).some j hj) (fun j _ => (hx7.frozen _).trans (q1 _)) (mMsg_one 11 127 4398046511104 281474976710655 65535 65535 0 0 0 0 255 254 253 65535 252 281474976710655 65535) ?_
      intro x8 hx8
      refine hK.out _ _ ((eO.wrote hx7 (by omega)).wrote hx8 (by omega)) (fun h4 => ?_)
      clear hK K
      try simp only [Act.put, List.setIfInBounds_toArray, List.set_cons_zero, List.set_cons_succ]
      try simp only [Act.put, List.getElem_toArray, List.getElem_cons_succ, List.getElem_cons_zero]
      refine wpAnyH_done (by kernel_rfl) ?_ _
      go_wp2
      go_meet
      exact ⟨w7.heap.size, w7.heap.size + 1, rfl, rfl, by omega, by omega, by omega, Holds.wrote hx7.here hx8 (by omega), hx8.here, fun u => (hx8.frozen _).trans ((hx7.frozen _).trans (q0 u)), fun u => (hx8.frozen _).trans ((hx7.frozen _).trans (q1 u)), hx8.below _ _ (by omega) (hx7.below _ _ (by omega) eB)⟩
    · refine AllReadyH.cons (o := ⟨some 8, .alloc 27, 0, "outright.go:87", #[], none⟩) rfl (fun K hK => ?_) AllReadyH.nil
      go_simp
      refine hK.out _ _ (GA1 _) (fun h1 => ?_)
      clear hK K
      try simp only [Act.put, List.setIfInBounds_toArray, List.set_cons_zero, List.set_cons_succ]
      refine wpAnyH_ready (rs := [2]) (by kernel_rfl) (by simp) ?_
      refine AllReadyH.cons (o := ⟨some 7, .alloc 27, 0, "outright.go:87", #[], none⟩) rfl (fun K hK => ?_) AllReadyH.nil
      go_simp
      refine hK.out _ _ (GA2 _ _) (fun h2 => ?_)
      clear hK K
      try simp only [Act.put, List.setIfInBounds_toArray, List.set_cons_zero, List.set_cons_succ]
      obtain ⟨X, hX⟩ : ∃ X, X = ((w7.alloc (.cells #[.int .i64 0, .int .i64 0, .int .i64 0, .int .i64 0, .int .i64 0, .int .i64 0, .int .i64 0, .int .i64 0, .int .i64 0, .int .i64 0, .int .i64 0, .int .i64 0, .int .i64 0, .int .i64 0, .int .i64 0, .int .i64 0, .int .i64 0] 27)).alloc (.cells #[.int .i64 0, .int .i64 0, .int .i64 0, .int .i64 0, .int .i64 0, .int .i64 0, .int .i64 0, .int .i64 0, .int .i64 0, .int .i64 0, .int .i64 0, .int .i64 0, .int .i64 0, .int .i64 0, .int .i64 0, .int .i64 0, .int .i64 0] 27)).drew := ⟨_, rfl⟩
      have e0 : Holds X w7.heap.size zM := by subst hX; exact fun j v hv => ((holds_alloc w7 zM 27 rfl).alloc (by simp) _) j v hv
      have e1 : Holds X (w7.heap.size + 1) zM := by subst hX; exact fun j v hv => (holds_alloc (w7.alloc _) zM 27 (by simp)) j v hv
      have eO : Holds X w1.heap.size (mMsg 11 127 4398046511104 281474976710655 65535 65535 0 0 0 0 255 254 253 65535 252 281474976710655 65535) := by subst hX; exact h2
      have q0 : ∀ u, X.frozen? ⟨w7.heap.size, u, none⟩ = false := by subst hX; intro u; exact frozen_al (frozen_new _ _ _ _ rfl) (by simp) _
      have q1 : ∀ u, X.frozen? ⟨w7.heap.size + 1, u, none⟩ = false := by subst hX; intro u; exact frozen_new _ _ _ _ (by simp)
      have eB : Below w7.heap.size w7 X := by subst hX; exact Below.drew (below_alloc (below_alloc (Below.refl _ _) _) _)
      rw [← hX]
      clear hX h1 h2
      refine wpAnyH_ready (rs := [4]) (by kernel_rfl) (by simp) ?_
      refine AllReadyH.cons rfl (fun K hK => ?_) AllReadyH.nil
      refine step_store_whole rfl (.tmp 7) (.tmp 48) 27 rfl (w7.heap.size + 1) 0 (mMsg 11 127 4398046511104 281474976710655 65535 65535 0 0 0 0 255 254 253 65535 252 281474976710655 65535) rfl rfl hs.out (fun j hj => e1.some j hj) (fun j _ => q1 _) (mMsg_one 11 127 4398046511104 281474976710655 65535 65535 0 0 0 0 255 254 253 65535 252 281474976710655 65535) ?_
      intro x7 hx7
      refine hK.out _ _ (eO.wrote hx7 (by omega)) (fun h3 => ?_)
      clear hK K
      try simp only [Act.put, List.setIfInBounds_toArray, List.set_cons_zero, List.set_cons_succ]
      try simp only [Act.put, List.getElem_toArray, List.getElem_cons_succ, List.getElem_cons_zero]
      refine wpAnyH_ready (rs := [5]) (by kernel_rfl) (by simp) ?_
      refine AllReadyH.cons rfl (fun K hK => ?_) AllReadyH.nil
      refine step_store_whole rfl (.tmp 8) (.tmp 49) 27 rfl (w7.heap.size) 0 (mMsg 11 127 4398046511104 281474976710655 65535 65535 0 0 0 0 255 254 253 65535 252 281474976710655 65535) rfl rfl hs.out (fun j hj => (e0.wrote hx7 (by omega)).some j hj) (fun j _ => (hx7.frozen _).trans (q0 _)) (mMsg_one 11 127 4398046511104 281474976710655 65535 65535 0 0 0 0 255 254 253 65535 252 281474976710655 65535) ?_
      intro x8 hx8
      refine hK.out _ _ ((eO.wrote hx7 (by omega)).wrote hx8 (by omega)) (fun h4 => ?_)
      clear hK K
      try simp only [Act.put, List.setIfInBounds_toArray, List.set_cons_zero, List.set_cons_succ]
      try simp only [Act.put, List.getElem_toArray, List.getElem_cons_succ, List.getElem_cons_zero]
      refine wpAnyH_done (by kernel_rfl) ?_ _
      go_wp2
      go_meet
      exact ⟨w7.heap.size + 1, w7.heap.size, rfl, rfl, by omega, by omega, by omega, Holds.wrote hx7.here hx8 (by omega), hx8.here, fun u => (hx8.frozen _).trans ((hx7.frozen _).trans (q1 u)), fun u => (hx8.frozen _).trans ((hx7.frozen _).trans (q0 u)), hx8.below _ _ (by omega) (hx7.below _ _ (by omega) eB)⟩
  case rest =>
    obtain ⟨b7, b8, rfl, rfl, hne, l7, l8, hM7, hM8, hF7, hF8, hB⟩ := hcut
    have q7a : wc.cell? ⟨b7, 8, none⟩ = some (.int .i64 0) := hM7 8 _ rfl
    have q7b : wc.cell? ⟨b7, 9, none⟩ = some (.int .i64 0) := hM7 9 _ rfl
    have q8a : wc.cell? ⟨b8, 15, none⟩ = some (.int .i64 281474976710655) := hM8 15 _ rfl
    have t7a := hF7 8
    have t7b := hF7 9
    have t8a := hF8 15
    go_upto_region 14 with fail
    refine wp_world ?_
    intro V hV
    have M7 := Lib.hid (show Holds V b7 (mMsg 11 127 4398046511104 281474976710655 65535 65535 0 0 0 1 255 254 253 65535 252 281474976710655 65535) by subst hV; exact Holds.far (Holds.set (Holds.set (show Holds wc b7 (mMsg 11 127 4398046511104 281474976710655 65535 65535 0 0 0 0 255 254 253 65535 252 281474976710655 65535) from hM7) 8 (.int .i64 0)) 9 (.int .i64 1)) (by omega) _)
    have M8 := Lib.hid (show Holds V b8 (mMsg 11 127 4398046511104 281474976710655 65535 65535 0 0 0 0 255 254 253 65535 252 281474976710656 65535) by subst hV; exact Holds.set (Holds.far (Holds.far (show Holds wc b8 (mMsg 11 127 4398046511104 281474976710655 65535 65535 0 0 0 0 255 254 253 65535 252 281474976710655 65535) from hM8) (by omega) _) (by omega) _) 15 (.int .i64 281474976710656))
    have MR := Lib.hid (show Holds V w3.heap.size (mMsg 10 0 (-4398046511104) 0 1 0 (-4398046511104) 0 0 1 0 0 0 0 0 0 0) by subst hV; exact Holds.far (Holds.far (Holds.far (HB7.out.keep hB) (by omega) _) (by omega) _) (by omega) _)
    have HV := Lib.hid (show Below w.heap.size w V by subst hV; exact (((below_step H7.out hB).setCell (p := ⟨b7, 8, none⟩) (by simp; omega) _).setCell (p := ⟨b7, 9, none⟩) (by simp; omega) _).setCell (p := ⟨b8, 15, none⟩) (by simp; omega) _)
    clear hV hB hM7 hM8 hF7 hF8 HB7 H7 HA7 GA GA1 GA2 hld q7a q7b q8a t7a t7b t8a
    have xV3 : w3.heap.size < V.heap.size := World.block_lt_of_cell? _ _ (MR.out 0 _ rfl)
    have xV7 : b7 < V.heap.size := World.block_lt_of_cell? _ _ (M7.out 0 _ rfl)
    have xV8 : b8 < V.heap.size := World.block_lt_of_cell? _ _ (M8.out 0 _ rfl)
    have zV := HV.out.size
    go_upto_region 15 with (first | ((with_reducible refine at_store 27 (.tmp 9) (.tmp 54) ?_); refine wpList_store_whole rfl (.tmp 9) (.tmp 54) 27 rfl V.heap.size 0 (mMsg 10 0 (-4398046511104) 0 1 0 (-4398046511104) 0 0 1 0 0 0 0 0 0 0) rfl rfl hs.out (zM_here _ rfl rfl) (fun j _ => frozen_new _ _ _ _ rfl) (mMsg_one 10 0 (-4398046511104) 0 1 0 (-4398046511104) 0 0 1 0 0 0 0 0 0 0) ?_; intro w9 hw9) | ((with_reducible refine at_load 27 (.tmp 4) ?_); refine wpList_load_whole rfl (.tmp 4) 27 rfl w3.heap.size 0 (mMsg 10 0 (-4398046511104) 0 1 0 (-4398046511104) 0 0 1 0 0 0 0 0 0 0) rfl ha.out hs.out MR.out ?_))
    have M7b := Lib.hid ((M7.out.alloc xV7 _).wrote hw9 (by omega))
    have M8b := Lib.hid ((M8.out.alloc xV8 _).wrote hw9 (by omega))
    have M9b := Lib.hid (show Holds w9 V.heap.size (mMsg 10 0 (-4398046511104) 0 1 0 (-4398046511104) 0 0 1 0 0 0 0 0 0 0) from hw9.here)
    have H9 := Lib.hid (hw9.below _ _ zV (below_alloc HV.out _))
    have q9a : w9.cell? ⟨V.heap.size, 8, none⟩ = some (.int .i64 0) := hw9.here 8 _ rfl
    have q9b : w9.cell? ⟨V.heap.size, 9, none⟩ = some (.int .i64 1) := hw9.here 9 _ rfl
    have t9a : w9.frozen? ⟨V.heap.size, 8, none⟩ = false := (hw9.frozen _).trans (frozen_new _ _ _ _ rfl)
    have t9b : w9.frozen? ⟨V.heap.size, 9, none⟩ = false := (hw9.frozen _).trans (frozen_new _ _ _ _ rfl)
    clear M7 M8 MR HV hw9
    go_upto_region 16 with fail
    refine wp_world ?_
    intro V2 hV2
    have M7 := Lib.hid (show Holds V2 b7 (mMsg 11 127 4398046511104 281474976710655 65535 65535 0 0 0 1 255 254 253 65535 252 281474976710655 65535) by subst hV2; exact Holds.far (Holds.far M7b.out (by omega) _) (by omega) _)
    have M8 := Lib.hid (show Holds V2 b8 (mMsg 11 127 4398046511104 281474976710655 65535 65535 0 0 0 0 255 254 253 65535 252 281474976710656 65535) by subst hV2; exact Holds.far (Holds.far M8b.out (by omega) _) (by omega) _)
    have M9 := Lib.hid (show Holds V2 V.heap.size (mMsg 10 0 (-4398046511104) 0 1 0 (-4398046511104) 0 0 0 0 0 0 0 0 0 0) by subst hV2; exact Holds.set (Holds.set M9b.out 8 (.int .i64 0)) 9 (.int .i64 0))
    have HV := Lib.hid (show Below w.heap.size w V2 by subst hV2; exact (H9.out.setCell (p := ⟨V.heap.size, 8, none⟩) zV _).setCell (p := ⟨V.heap.size, 9, none⟩) zV _)
    clear hV2 M7b M8b M9b H9 q9a q9b t9a t9b
    go_wp2_with fail
    refine (decode_empty none 0 _).mono ?_
    rintro y w10 ⟨rfl, hb10⟩
    have N7 := Lib.hid (M7.out.keep hb10)
    have N8 := Lib.hid (M8.out.keep hb10)
    have N9 := Lib.hid (M9.out.keep hb10)
    have H10 := Lib.hid (below_step HV.out hb10)
    have z10 := H10.out.size
    have x7 : b7 < w10.heap.size := World.block_lt_of_cell? _ _ (N7.out 0 _ rfl)
    have x8 : b8 < w10.heap.size := World.block_lt_of_cell? _ _ (N8.out 0 _ rfl)
    have x9 : V.heap.size < w10.heap.size := World.block_lt_of_cell? _ _ (N9.out 0 _ rfl)
    clear hb10 M7 M8 M9 HV xV3 xV7 xV8
    go_wp2_with ((with_reducible refine at_store 27 (.tmp 10) (.tmp 59) ?_); refine wpList_store_whole rfl (.tmp 10) (.tmp 59) 27 rfl w10.heap.size 0 zM rfl rfl hs.out (zM_here _ rfl rfl) (fun j _ => frozen_new _ _ _ _ rfl) (mMsg_one 0 0 0 0 0 0 0 0 0 0 0 0 0 0 0 0 0) ?_; intro w11 hw11)
    refine (encode_bad 0 0 0 0 0 0 0 0 0 0 0 0 0 0 0 0 0 _ (by decide +kernel)).mono ?_
    rintro y w12 ⟨rfl, hb12⟩
    have M7 := Lib.hid (((N7.out.alloc x7 _).wrote hw11 (by omega)).keep hb12)
    have M8 := Lib.hid (((N8.out.alloc x8 _).wrote hw11 (by omega)).keep hb12)
    have M9 := Lib.hid (((N9.out.alloc x9 _).wrote hw11 (by omega)).keep hb12)
    have H12 := Lib.hid (below_step (hw11.below _ _ z10 (below_alloc H10.out _)) hb12)
    clear hb12 hw11 N7 N8 N9 H10
    go_wp2_with ((with_reducible refine at_load 27 (.tmp 7) ?_); refine wpList_load_wanted (by rfl) (.tmp 7) 27 rfl b7 0 (mMsg 11 127 4398046511104 281474976710655 65535 65535 0 0 0 1 255 254 253 65535 252 281474976710655 65535) rfl ha.out hs.out M7.out ?_)
    have hq := ptpCheck_any 11 127 4398046511104 281474976710655 65535 65535 0 0 0 1 255 254 253 65535 252 281474976710655 65535 w12
    rw [show chkB (baseB 127 4398046511104 281474976710655 65535 65535) (kindB 11 0 0 0 1 255 254 253 65535 252 281474976710655 65535) = 200 by decide +kernel] at hq
    refine hq.mono ?_
    rintro y w13 ⟨rfl, hb13⟩
    have N8 := Lib.hid (M8.out.keep hb13)
    have N9 := Lib.hid (M9.out.keep hb13)
    have H13 := Lib.hid (below_step H12.out hb13)
    clear hb13 hq M7 M8 M9 H12
    go_wp2_with ((with_reducible refine at_load 27 (.tmp 8) ?_); refine wpList_load_wanted (by rfl) (.tmp 8) 27 rfl b8 0 (mMsg 11 127 4398046511104 281474976710655 65535 65535 0 0 0 0 255 254 253 65535 252 281474976710656 65535) rfl ha.out hs.out N8.out ?_)
    have hq := ptpCheck_any 11 127 4398046511104 281474976710655 65535 65535 0 0 0 0 255 254 253 65535 252 281474976710656 65535 w13
    rw [show chkB (baseB 127 4398046511104 281474976710655 65535 65535) (kindB 11 0 0 0 0 255 254 253 65535 252 281474976710656 65535) = 200 by decide +kernel] at hq
    refine hq.mono ?_
    rintro y w14 ⟨rfl, hb14⟩
    have M9 := Lib.hid (N9.out.keep hb14)
    have H14 := Lib.hid (below_step H13.out hb14)
    clear hb14 hq N8 N9 H13
    go_wp2_with ((with_reducible refine at_load 27 (.tmp 9) ?_); refine wpList_load_wanted (by rfl) (.tmp 9) 27 rfl V.heap.size 0 (mMsg 10 0 (-4398046511104) 0 1 0 (-4398046511104) 0 0 0 0 0 0 0 0 0 0) rfl ha.out hs.out M9.out ?_)
    have hq := ptpCheck_any 10 0 (-4398046511104) 0 1 0 (-4398046511104) 0 0 0 0 0 0 0 0 0 0 w14
    rw [show chkB (baseB 0 (-4398046511104) 0 1 0) (kindB 10 (-4398046511104) 0 0 0 0 0 0 0 0 0 0) = 200 by decide +kernel] at hq
    refine hq.mono ?_
    rintro y w15 ⟨rfl, hb15⟩
    have H15 := Lib.hid (below_step H14.out hb15)
    clear hb15 hq M9 H14
    go_wp2_with fail
    have hq := checkMaster_any 0 0 0 0 0 0 w15
    rw [show masE 0 0 0 0 0 0 = 0 by decide +kernel] at hq
    refine hq.mono ?_
    rintro y w16 ⟨rfl, hb16⟩
    have H16 := Lib.hid (below_step H15.out hb16)
    clear hb16 hq H15
    go_wp2_with fail
    have hq := checkMaster_any 0 0 0 0 0 (-1) w16
    rw [show masE 0 0 0 0 0 (-1) = 201 by decide +kernel] at hq
    refine hq.mono ?_
    rintro y w17 ⟨rfl, hb17⟩
    have H17 := Lib.hid (below_step H16.out hb17)
    clear hb17 hq H16
    go_wp2
    go_ret
    exact ⟨rfl, H17.out⟩

set_option maxRecDepth 100000 in
theorem ptpKnown_lifted (os : Os) (started : os.Started) (H : Type) (enc : TypeId × Value → H) :
    ReturnsInHanded {} Try.checked os 8 .any (Rows.ptpKnownSpec.pre6 enc Try.prog Try.f8 [] false) (Rows.ptpKnownSpec.post enc Try.prog Try.f8 false true false false) := by
  refine law_lifted started Try.func8 (by kernel_rfl)
    (ChangeSpec.witness6 (enc := enc) (C := Try.checked) false ⟨#[], #[], []⟩ 8 (by kernel_rfl) (by kernel_rfl) (by kernel_rfl) (by kernel_rfl))
    rfl (by kernel_rfl) (by kernel_rfl) (fun ds hd => ?_) ?_
  · rw [Try.params8] at hd
    match ds, hd with
    | [], _ => exact ⟨rfl, rfl, rfl⟩
  · intro W base args ds p hval hA
    rw [Try.params8] at hA hval
    obtain ⟨hz, rfl, rfl⟩ := trodAll_nil hA
    obtain rfl : args = #[] := by
      cases args; simp_all
    exact ptpKnown_walk  W

theorem ptpKnown_holds : Rows.PtpKnownSaid :=
  OpenClaim.holds_of_wide 8 Try.f8 rfl rfl rfl rfl rfl rfl rfl ⟨rfl, rfl, rfl, rfl, rfl⟩ rfl rfl rfl rfl rfl (by kernel_rfl) Try.func8 (by kernel_rfl)
    (of_decide_eq_true (by kernel_rfl)) (by unfold Func.isWrapper; first | (rw [if_pos (by decide +kernel)]; kernel_rfl) | (rw [if_neg (by decide +kernel)]; exact ⟨rfl, rfl⟩))
    (fun os started H enc _ => ptpKnown_lifted os started H enc)
#print axioms ptpKnown_holds

end Go.Proofs.Ytecengclcaodeaa
