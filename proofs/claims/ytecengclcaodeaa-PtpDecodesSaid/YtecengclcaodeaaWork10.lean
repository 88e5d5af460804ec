/-
  The chapter's examples hold (ptp). No conditions.
-/
import Derived.Test.YtecengclcaodeaaDecD
import Derived.Test.YtecengclcaodeaaEqual
import Derived.Test.YtecengclcaodeaaPtpMas
import Derived.Test.YtecengclcaodeaaQLoad
import Derived.Deep.AppendLies
import Derived.Deep.RegionHeld3
import Derived.Deep.DeepCutAuto
namespace Go.Proofs.Ytecengclcaodeaa
open Go.RowKit Go.Lib Plain

def firstL : List Int := [0, 1, 0, 22, 255, 255, 255, 255, 255, 255, 255, 254, 0, 0, 0, 0, 0, 5, 0, 1, 1, 2]
def followL : List Int := [8, 0, 0, 34, 0, 0, 0, 0, 0, 0, 0, 0, 0, 0, 0, 0, 0, 5, 0, 1, 0, 0, 0, 0, 0, 0, 0, 0, 0, 1, 255, 255, 255, 255]
theorem enc_sync : encM 0 1 (-2) 5 1 258 0 0 0 0 0 0 0 0 0 0 0 = firstL := by decide +kernel
theorem enc_follow : encM 8 0 0 5 1 0 1 (-1) 0 0 0 0 0 0 0 0 0 = followL := by decide +kernel
theorem bytesB {l : List Int} (h : l.all (fun b => decide (0 ≤ b ∧ b ≤ 255)) = true) : Bytes l := fun b hb => of_decide_eq_true (List.all_eq_true.1 h b hb)
theorem first_bytes : Bytes firstL := bytesB (by decide +kernel)

theorem sync_any (w : World) : Calls Try.prog 26 #[] w fun e w' => e = .returned (.agg (mMsg 0 1 (-2) 5 1 258 0 0 0 0 0 0 0 0 0 0 0).toArray) ∧ Below w.heap.size w w' := by
  have ha := Lib.hid agg_msg
  have hs := Lib.hid size_msg
  go_enter Try.func26, Try.ntmps26
  go_wp2_with (((with_reducible refine at_store 27 (.tmp 0) (.tmp 2) ?_); refine wpList_store_whole rfl (.tmp 0) (.tmp 2) 27 rfl w.heap.size 0 (mMsg 0 1 (-2) 5 1 258 0 0 0 0 0 0 0 0 0 0 0) rfl rfl hs.out (fun j hj => (holds_alloc w (mMsg 0 0 0 0 0 0 0 0 0 0 0 0 0 0 0 0 0) 27 rfl).some j (by simpa [mMsg] using hj)) (fun j _ => frozen_new _ _ _ _ rfl) (by simp [mMsg, Value.oneCell']) ?_; intro w7 hw7))
  have hL2 := run_loadVar_whole (P := Try.prog) (w := w7) 27 w.heap.size 0 (mMsg 0 1 (-2) 5 1 258 0 0 0 0 0 0 0 0 0 0 0) ha.out hs.out hw7.here
  exact bodyPost_ret (v := .agg (mMsg 0 1 (-2) 5 1 258 0 0 0 0 0 0 0 0 0 0 0).toArray) (results_cell 0 27 Try.results26 w.heap.size 0 _ rfl hL2) rfl ⟨rfl, hw7.below _ _ (Nat.le_refl _) (below_alloc (Below.refl _ _) _)⟩

theorem first_any (w : World) : Calls Try.prog 27 #[] w fun e w' => e = .returned (.slice (some ⟨w.heap.size, 0, none⟩) 22 22) ∧ w' = w.alloc (.cells (bys firstL).toArray 5) := by
  go_enter Try.func27, Try.ntmps27
  go_wp2
  go_ret
  exact ⟨rfl, rfl⟩

/-- A row that was just laid. -/
theorem lies_new (w : World) (L : List Int) {b : Nat} (hb : b = w.heap.size) : Lies (w.alloc (.cells (bys L).toArray 5)) b 0 L := fun j x hx => holds_alloc w (bys L) 5 hb j (.int .u8 x) (by simp [hx])
theorem Lies.keep {w w' : World} {b o : Nat} {L : List Int} (h : Lies w b o L) (hb : Below w.heap.size w w') : Lies w' b o L := fun j x hx => below_keep hb (h j x hx)
theorem Lies.alloc {w : World} {b o : Nat} {L : List Int} (h : Lies w b o L) (ob : Obj) : Lies (w.alloc ob) b o L := fun j x hx => cell_al (h j x hx) ob
theorem Lies.drop {w : World} {b o : Nat} {L : List Int} (h : Lies w b o L) (k : Nat) : Lies w b (o + k) (L.drop k) := fun j x hx => by
  rw [List.getElem?_drop] at hx
  have := h (k + j) x hx
  rwa [← Nat.add_assoc] at this
theorem Lies.take {w : World} {b o : Nat} {L : List Int} (h : Lies w b o L) (k : Nat) : Lies w b o (L.take k) := fun j x hx => by
  rw [List.getElem?_take] at hx
  split at hx
  · exact h j x hx
  · cases hx
theorem Lies.drew {w : World} {b o : Nat} {L : List Int} (h : Lies w b o L) : Lies w.drew b o L := fun j x hx => h j x hx
theorem Lies.set {w : World} {b : Nat} {L : List Int} (h : Lies w b 0 L) (k : Nat) (x : Int) : Lies (w.setCell ⟨b, k, none⟩ (.int .u8 x)) b 0 (L.set k x) := fun j y hy => by
  have hh : Holds w b (bys L) := fun j v hv => by
    rw [List.getElem?_map] at hv
    obtain ⟨z, hz, rfl⟩ := Option.map_eq_some_iff.1 hv
    exact h j z hz
  have := hh.set k (.int .u8 x) j (.int .u8 y) (by rw [show (bys L).set k (.int .u8 x) = bys (L.set k x) from (List.map_set ..).symm, List.getElem?_map, hy]; rfl)
  exact this
theorem owns_new (w : World) (L : List Int) (base : Nat) (hb : base ≤ w.heap.size) (hl : L.length ≤ 1000) : (w.alloc (.cells (bys L).toArray 5)).ownsRow base 5 1 (.slice (some ⟨w.heap.size, 0, none⟩) L.length L.length) L.length (bys L) :=
  ⟨by simp, Or.inr ⟨w.heap.size, L.length, (bys L).toArray, rfl, hb, heap_alloc_new w _, Nat.le_refl _, by unfold maxLen; omega, by simp, by rw [Nat.mul_one, List.take_of_length_le (by simp)]⟩⟩

theorem three_0 : ∀ (a b c : Value) (w : World), (Instr.index 61 (.agg #[a, b, c]) (.int .i64 0)).run Try.prog w = .ok a w := fun _ _ _ _ => by kernel_rfl
theorem three_1 : ∀ (a b c : Value) (w : World), (Instr.index 61 (.agg #[a, b, c]) (.int .i64 1)).run Try.prog w = .ok b w := fun _ _ _ _ => by kernel_rfl
theorem three_2 : ∀ (a b c : Value) (w : World), (Instr.index 61 (.agg #[a, b, c]) (.int .i64 2)).run Try.prog w = .ok c w := fun _ _ _ _ => by kernel_rfl
/-- Behind the region that lays the three rows. -/
theorem end_way {W X wx : World} {F2 b1 g3 cap3 : Nat} (hX : Below W.heap.size W X) (hb : Lies X b1 0 firstL) (hne : b1 ≠ F2) (hs : b1 < X.heap.size) (hF : W.heap.size ≤ F2) (hgrow : X.grownBy wx (some F2)) (hown : wx.ownsRow W.heap.size 5 1 (.slice (some ⟨g3, 0, none⟩) 23 cap3) 23 (bys firstL ++ [.int .u8 0])) :
    Lies wx b1 0 (firstL.take 21) ∧ Lies wx g3 0 (firstL ++ [0]) ∧ 23 ≤ cap3 ∧ cap3 ≤ maxLen ∧ Below W.heap.size W wx := by
  have h1 : Lies wx b1 0 firstL := fun j x hx => (World.cell?_of_block (hgrow.block b1 hs (fun e => hne (by injection e)))).trans (hb j x hx)
  refine ⟨h1.take 21, lies_owned (L := firstL ++ [0]) hown, ?_, ?_, hX.grown hgrow hX.size (fun k e => by injection e with e; omega)⟩
  · rcases hown.2 with ⟨h, _⟩ | ⟨_, _, _, h, _, _, h2, _⟩
    · cases h
    · injection h with _ _ h5; rw [h5]; exact h2
  · rcases hown.2 with ⟨h, _⟩ | ⟨_, _, _, h, _, _, _, h2, _⟩
    · cases h
    · injection h with _ _ h5; rw [h5]; exact h2

set_option maxHeartbeats 16000000 in
set_option maxRecDepth 100000 in
theorem works10_any (w : World) : Calls Try.prog 10 #[] w fun e w' => e = .returned (.bool true) ∧ Below w.heap.size w w' := by
  have ha := Lib.hid agg_msg
  have hs := Lib.hid size_msg
  go_enter Try.func10, Try.ntmps10
  go_wp2_with fail
  refine (sync_any _).mono ?_
  rintro e w1 ⟨rfl, hb1⟩
  go_wp2_with fail
  refine (encode_ok 0 1 (-2) 5 1 258 0 0 0 0 0 0 0 0 0 0 0 _ (by decide +kernel)).mono ?_
  rw [enc_sync, show firstL.length = 22 from rfl]
  rintro e w2 ⟨g1, cap1, rfl, ho1, hb2⟩
  have L2 := Lib.hid (lies_owned (L := firstL) ho1)
  have H2 := Lib.hid (below_step hb1 hb2)
  clear hb1 hb2 ho1
  go_wp2_with fail
  refine (encode_ok 8 0 0 5 1 0 1 (-1) 0 0 0 0 0 0 0 0 0 _ (by decide +kernel)).mono ?_
  rw [enc_follow, show followL.length = 34 from rfl]
  rintro e w3 ⟨g2, cap2, rfl, ho3, hb3⟩
  have L3 := Lib.hid (lies_owned (L := followL) ho3)
  have K3 := Lib.hid (L2.out.keep hb3)
  have H3 := Lib.hid (below_step H2.out hb3)
  have hcap2 : 34 ≤ cap2 := by
    rcases ho3.2 with ⟨h, _⟩ | ⟨_, _, _, h, _, _, h2, _⟩
    · cases h
    · injection h with _ h4 h5; rw [h5]; exact h2
  clear hb3 ho3 L2 H2
  go_wp2_with fail
  refine (first_any _).mono ?_
  rintro e w4 ⟨rfl, rfl⟩
  have L4 := Lib.hid (lies_new w3 firstL rfl)
  have K4 := Lib.hid (K3.out.alloc (.cells (bys firstL).toArray 5))
  have M4 := Lib.hid (L3.out.alloc (.cells (bys firstL).toArray 5))
  go_wp2_with fail
  refine (equal_any _ _ firstL firstL first_bytes first_bytes _ (str_lies K4.out cap1) (str_lies L4.out 22)).mono ?_
  rw [decide_eq_true rfl]
  rintro e w5 ⟨rfl, rfl⟩
  have hc0 : (22 : Int) ≤ 34 := by decide
  have hc1 : (34 : Int) ≤ (cap2 : Int) := by omega
  have hc2 : (22 : Int) < (cap2 : Int) := by omega
  go_wp2_with fail
  have M5 := Lib.hid (show Lies ((w3.alloc (.cells (bys firstL).toArray 5)).alloc (.cells (bys (followL.drop 22)).toArray 5)) g2 (0 + 22) (followL.drop 22) from (M4.out.alloc _).drop 22)
  have N5 := Lib.hid (lies_new (w3.alloc (.cells (bys firstL).toArray 5)) (followL.drop 22) (b := w3.heap.size + 1) (by simp))
  rw [Nat.zero_add] at M5
  refine (equal_any _ _ (followL.drop 22) (followL.drop 22) (bytesB (by decide +kernel)) (bytesB (by decide +kernel)) _ (str_lies M5.out (cap2 - 22)) (str_lies N5.out 12)).mono ?_
  rw [decide_eq_true rfl]
  rintro e w6 ⟨rfl, hw6⟩
  have H6 := Lib.hid (show Below w.heap.size w w6 by rw [← hw6]; exact below_alloc (below_alloc H3.out _) _)
  clear hw6 M5 N5 L4 K4 M4 K3 L3 H3 hc0 hc1 hc2 hcap2
  go_wp2_with fail
  refine (first_any _).mono ?_
  rintro e w7 ⟨rfl, rfl⟩
  go_wp2_with fail
  refine (decode_any w6.heap.size 0 22 firstL first_bytes (by decide) (by decide) (by decide) _ (lies_new w6 firstL rfl)).mono ?_
  rw [show decRes firstL = [0, 1, -2, 5, 1, 258, 0, 0, 0, 0, 0, 0, 0, 0, 0, 0, 0] by decide +kernel, show decErr firstL = 0 by decide +kernel]
  rintro e w8 ⟨rfl, hb8⟩
  have H8 := Lib.hid (below_step (below_alloc H6.out _) hb8)
  clear hb8 H6
  have z8 := H8.out.size
  go_wp2_with (((with_reducible refine at_store 27 (.tmp 5) (.tmp 52) ?_); refine wpList_store_whole rfl (.tmp 5) (.tmp 52) 27 rfl w8.heap.size 0 (mMsg 0 1 (-2) 5 1 258 0 0 0 0 0 0 0 0 0 0 0) rfl rfl hs.out (fun j hj => (holds_alloc _ (mMsg 0 0 0 0 0 0 0 0 0 0 0 0 0 0 0 0 0) 27 (by simp)).some j (by simpa [mMsg] using hj)) (fun j _ => frozen_new _ _ _ _ (by simp)) (by simp [mMsg, Value.oneCell']) ?_; intro w9 hw9; have HM9 := Lib.hid (show Holds w9 w8.heap.size (mMsg 0 1 (-2) 5 1 258 0 0 0 0 0 0 0 0 0 0 0) from hw9.here); have H9 := Lib.hid (hw9.below _ _ z8 (below_alloc H8.out _)); clear hw9))
  refine (first_any _).mono ?_
  rintro e w10 ⟨rfl, hw10⟩
  have c10 : w10.cell? ⟨w9.heap.size, 3, none⟩ = some (.int .u8 22) := by rw [hw10]; exact lies_new w9 firstL rfl 3 22 rfl
  have f10 : w10.frozen? ⟨w9.heap.size, 3, none⟩ = false := by rw [hw10]; exact frozen_new _ _ _ _ rfl
  have L10 := Lib.hid (show Lies w10 w9.heap.size 0 firstL by rw [hw10]; exact lies_new w9 firstL rfl)
  have HM10 := Lib.hid (show Holds w10 w8.heap.size (mMsg 0 1 (-2) 5 1 258 0 0 0 0 0 0 0 0 0 0 0) by rw [hw10]; exact HM9.out.alloc (World.block_lt_of_cell? _ _ (HM9.out 0 _ rfl)) _)
  have H10 := Lib.hid (show Below w.heap.size w w10 by rw [hw10]; exact below_alloc H9.out _)
  have n98 : w8.heap.size < w9.heap.size := World.block_lt_of_cell? _ _ (HM9.out 0 _ rfl)
  have z9 := H9.out.size
  have z10 : w9.heap.size < w10.heap.size := World.block_lt_of_cell? _ _ c10
  clear hw10 HM9 H9 H8
  go_wp2
  refine wp_world ?_
  intro W hW
  have LW := Lib.hid (show Lies W w9.heap.size 0 (firstL.set 3 23) by subst hW; exact L10.out.set 3 23)
  have HMW := Lib.hid (show Holds W w8.heap.size (mMsg 0 1 (-2) 5 1 258 0 0 0 0 0 0 0 0 0 0 0) by subst hW; exact HM10.out.far (by omega) _)
  have HW := Lib.hid (show Below w.heap.size w W by subst hW; exact H10.out.setCell (by show _ ≤ w9.heap.size; omega) _)
  have zW : w9.heap.size < W.heap.size := by subst hW; simpa using z10
  clear hW c10 f10 L10 HM10 H10
  obtain ⟨i0, hi0, hz0, hz1, hz2⟩ := info_parts Try.infoByte
  go_cut [63, 64] (fun s63 s64 wx => ∃ b1 b3 cap3, s64 = .int .i64 0 ∧ s63 = .agg #[.slice (some ⟨b1, 0, none⟩) 21 22, .slice (some ⟨b3, 0, none⟩) 23 cap3, .slice (some ⟨w9.heap.size, 0, none⟩) 22 22] ∧ Lies wx b1 0 (firstL.take 21) ∧ Lies wx b3 0 (firstL ++ [0]) ∧ 23 ≤ cap3 ∧ cap3 ≤ maxLen ∧ Below W.heap.size W wx)
  case first =>
    have cW : W.cell? ⟨w9.heap.size, 0, none⟩ = some (.int .u8 0) := LW.out 0 0 rfl
    have oA := Lib.hid (show (((W.alloc (.cells #[.int .u8 0] 5)).alloc (.cells (bys firstL).toArray 5)).alloc (.cells (bys firstL).toArray 5)).ownsRow W.heap.size 5 1 (.slice (some ⟨W.heap.size + 2, 0, none⟩) 22 22) 22 (bys firstL) from by rw [show W.heap.size + 2 = ((W.alloc (.cells #[.int .u8 0] 5)).alloc (.cells (bys firstL).toArray 5)).heap.size by simp]; exact owns_new ((W.alloc (.cells #[.int .u8 0] 5)).alloc (.cells (bys firstL).toArray 5)) firstL _ (by simp; omega) (by decide))
    have oB := Lib.hid (show (((W.alloc (.cells (bys firstL).toArray 5)).alloc (.cells #[.int .u8 0] 5)).alloc (.cells (bys firstL).toArray 5)).ownsRow W.heap.size 5 1 (.slice (some ⟨W.heap.size + 2, 0, none⟩) 22 22) 22 (bys firstL) from by rw [show W.heap.size + 2 = ((W.alloc (.cells (bys firstL).toArray 5)).alloc (.cells #[.int .u8 0] 5)).heap.size by simp]; exact owns_new ((W.alloc (.cells (bys firstL).toArray 5)).alloc (.cells #[.int .u8 0] 5)) firstL _ (by simp; omega) (by decide))
    have oC := Lib.hid (show (((W.alloc (.cells (bys firstL).toArray 5)).alloc (.cells (bys firstL).toArray 5)).alloc (.cells #[.int .u8 0] 5)).ownsRow W.heap.size 5 1 (.slice (some ⟨W.heap.size + 1, 0, none⟩) 22 22) 22 (bys firstL) from by rw [show W.heap.size + 1 = (W.alloc (.cells (bys firstL).toArray 5)).heap.size by simp]; exact (owns_new (W.alloc (.cells (bys firstL).toArray 5)) firstL _ (by simp) (by decide)).alloc _)
    have nA := Lib.hid (show ∀ (j : Nat) u, ([.int .u8 0] : List Value)[j]? = some u → (((W.alloc (.cells #[.int .u8 0] 5)).alloc (.cells (bys firstL).toArray 5)).alloc (.cells (bys firstL).toArray 5)).cell? ((⟨W.heap.size, 0, none⟩ : Addr).add j) = some u from World.news_of_block (cs := #[.int .u8 0]) (t := 5) (fr := (0, 0)) ((Below.heap_alloc _ _ _ (by simp; omega)).trans ((Below.heap_alloc _ _ _ (by simp)).trans (heap_alloc_new W _))))
    have nB := Lib.hid (show ∀ (j : Nat) u, ([.int .u8 0] : List Value)[j]? = some u → (((W.alloc (.cells (bys firstL).toArray 5)).alloc (.cells #[.int .u8 0] 5)).alloc (.cells (bys firstL).toArray 5)).cell? ((⟨W.heap.size + 1, 0, none⟩ : Addr).add j) = some u from World.news_of_block (cs := #[.int .u8 0]) (t := 5) (fr := (0, 0)) ((Below.heap_alloc _ _ _ (by simp)).trans (by have := heap_alloc_new (W.alloc (.cells (bys firstL).toArray 5)) (.cells #[.int .u8 0] 5); simpa using this)))
    have nC := Lib.hid (show ∀ (j : Nat) u, ([.int .u8 0] : List Value)[j]? = some u → (((W.alloc (.cells (bys firstL).toArray 5)).alloc (.cells (bys firstL).toArray 5)).alloc (.cells #[.int .u8 0] 5)).cell? ((⟨W.heap.size + 2, 0, none⟩ : Addr).add j) = some u from World.news_of_block (cs := #[.int .u8 0]) (t := 5) (fr := (0, 0)) (by have := heap_alloc_new ((W.alloc (.cells (bys firstL).toArray 5)).alloc (.cells (bys firstL).toArray 5)) (.cells #[.int .u8 0] 5); simpa using this))
    go_region_held3 (fun w' => w'.cell? ⟨w9.heap.size, 0, none⟩ = some (.int .u8 0)) (first | (go_keep; done) | assumption | exact cell_al cW _ | exact cell_al (cell_al cW _) _ | exact cell_al (cell_al (cell_al cW _) _) _ | fail) (first | (go_at_call 27; refine (first_any _).mono ?_; rintro e6 w6 ⟨rfl, rfl⟩) | ((refine step_append_lies _ (by rfl) _ _ _ (by rfl) W.heap.size 5 i0 _ 1 1 Try.underlying44 hi0 hz0 hz1 hz2 rfl (by omega) (.slice (some ⟨W.heap.size + 2, 0, none⟩) 22 22) 22 (bys firstL) (by rfl) oA.out ⟨W.heap.size, 0, none⟩ 1 1 [.int .u8 0] (by rfl) (by rfl) nA.out (by simp [Value.oneCell']) (by omega) (by unfold maxLen; omega) (by omega) (by simp; omega) (W.heap.size + 3) (by simp) ?_; intro g3 cap3 wx hown1 hgrow hat hlt; have hS : wx.cell? ⟨w9.heap.size, 0, none⟩ = some (.int .u8 0) := (hgrow.cell_far _ (by simp; omega) (by simp [Value.ownBlock]; omega)).trans (cell_al (cell_al (cell_al cW _) _) _))) | ((refine step_append_lies _ (by rfl) _ _ _ (by rfl) W.heap.size 5 i0 _ 1 1 Try.underlying44 hi0 hz0 hz1 hz2 rfl (by omega) (.slice (some ⟨W.heap.size + 2, 0, none⟩) 22 22) 22 (bys firstL) (by rfl) oB.out ⟨W.heap.size + 1, 0, none⟩ 1 1 [.int .u8 0] (by rfl) (by rfl) nB.out (by simp [Value.oneCell']) (by omega) (by unfold maxLen; omega) (by omega) (by simp; omega) (W.heap.size + 3) (by simp) ?_; intro g3 cap3 wx hown1 hgrow hat hlt; have hS : wx.cell? ⟨w9.heap.size, 0, none⟩ = some (.int .u8 0) := (hgrow.cell_far _ (by simp; omega) (by simp [Value.ownBlock]; omega)).trans (cell_al (cell_al (cell_al cW _) _) _))) | ((refine step_append_lies _ (by rfl) _ _ _ (by rfl) W.heap.size 5 i0 _ 1 1 Try.underlying44 hi0 hz0 hz1 hz2 rfl (by omega) (.slice (some ⟨W.heap.size + 1, 0, none⟩) 22 22) 22 (bys firstL) (by rfl) oC.out ⟨W.heap.size + 2, 0, none⟩ 1 1 [.int .u8 0] (by rfl) (by rfl) nC.out (by simp [Value.oneCell']) (by omega) (by unfold maxLen; omega) (by omega) (by simp; omega) (W.heap.size + 3) (by simp) ?_; intro g3 cap3 wx hown1 hgrow hat hlt; have hS : wx.cell? ⟨w9.heap.size, 0, none⟩ = some (.int .u8 0) := (hgrow.cell_far _ (by simp; omega) (by simp [Value.ownBlock]; omega)).trans (cell_al (cell_al (cell_al cW _) _) _))))
    all_goals
      first
        | have HE := Lib.hid (end_way (b1 := W.heap.size + 1) (F2 := W.heap.size + 2) (Below.drew (below_alloc (below_alloc (below_alloc (Below.refl _ _) _) _) _)) (Lies.drew ((lies_new (W.alloc (.cells #[.int .u8 0] 5)) firstL (b := W.heap.size + 1) (by simp)).alloc (.cells (bys firstL).toArray 5))) (by omega) (by simp <;> omega) (by omega) hgrow hown1)
        | have HE := Lib.hid (end_way (b1 := W.heap.size) (F2 := W.heap.size + 2) (Below.drew (below_alloc (below_alloc (below_alloc (Below.refl _ _) _) _) _)) (Lies.drew (((lies_new W firstL rfl).alloc (.cells #[.int .u8 0] 5)).alloc (.cells (bys firstL).toArray 5))) (by omega) (by simp <;> omega) (by omega) hgrow hown1)
        | have HE := Lib.hid (end_way (b1 := W.heap.size) (F2 := W.heap.size + 1) (Below.drew (below_alloc (below_alloc (below_alloc (Below.refl _ _) _) _) _)) (Lies.drew (((lies_new W firstL rfl).alloc (.cells (bys firstL).toArray 5)).alloc (.cells #[.int .u8 0] 5))) (by omega) (by simp <;> omega) (by omega) hgrow hown1)
      clear hgrow hown1 hat hlt oA oB oC nA nB nC cW
      go_wp2
      go_meet
      exact ⟨_, _, _, rfl, rfl, HE.out.1, HE.out.2.1, HE.out.2.2.1, HE.out.2.2.2.1, HE.out.2.2.2.2⟩
  case rest =>
    obtain ⟨b1, b3, cap3, rfl, rfl, l1, l3, hc3, hm3, hB⟩ := hcut
    have L1 := Lib.hid l1
    have L3 := Lib.hid l3
    have LO := Lib.hid (LW.out.keep hB)
    have HMc := Lib.hid (HMW.out.keep hB)
    have HC := Lib.hid (below_step HW.out hB)
    have hm3' : cap3 ≤ 9223372036854775807 := by unfold maxLen at hm3; exact hm3
    clear l1 l3 hB LW HMW HW hm3
    have i3 := three_0
    have i4 := three_1
    have i5 := three_2
    have hne : ∀ W, (binOp .neq 27 (.agg (mMsg 0 0 0 0 0 0 0 0 0 0 0 0 0 0 0 0 0).toArray) (.agg #[.int .i64 0, .int .i64 0, .int .i64 0, .int .i64 0, .int .i64 0, .int .i64 0, .int .i64 0, .int .i64 0, .int .i64 0, .int .i64 0, .int .i64 0, .int .i64 0, .int .i64 0, .int .i64 0, .int .i64 0, .int .i64 0, .int .i64 0])).run Try.prog W = .ok (.bool false) W := fun W => by
      have h := msg_neq_any 0 0 0 0 0 0 0 0 0 0 0 0 0 0 0 0 0 0 0 0 0 0 0 0 0 0 0 0 W
      rw [decide_eq_true ⟨rfl, rfl, rfl, rfl, rfl, rfl, rfl, rfl, rfl, rfl, rfl⟩, Bool.not_true] at h
      exact h
    go_wp2
    refine wp_loop_rounds 4 ?_
    rw [rounds_succ]
    go_wp2_with fail
    refine (decode_any b1 0 22 (firstL.take 21) (bytesB (by decide +kernel)) (by decide) (by decide) (by decide) _ L1.out).mono ?_
    rw [show decRes (firstL.take 21) = [0, 0, 0, 0, 0, 0, 0, 0, 0, 0, 0, 0, 0, 0, 0, 0, 0] by decide +kernel, show decErr (firstL.take 21) = 5 by decide +kernel]
    rintro e d0 ⟨rfl, hd0⟩
    go_wp2_with (first | ((with_reducible refine at_store 27 (.tmp 10) (.tmp 70) ?_); refine wpList_store_whole rfl (.tmp 10) (.tmp 70) 27 rfl d0.heap.size 0 (mMsg 0 0 0 0 0 0 0 0 0 0 0 0 0 0 0 0 0) rfl rfl hs.out (fun j hj => (holds_alloc _ (mMsg 0 0 0 0 0 0 0 0 0 0 0 0 0 0 0 0 0) 27 (by simp)).some j hj) (fun j _ => frozen_new _ _ _ _ (by simp)) (by simp [mMsg, Value.oneCell']) ?_; intro q0 hq0) | ((with_reducible refine at_load 27 (.tmp 10) ?_); refine wpList_load_wanted (by rfl) (.tmp 10) 27 rfl d0.heap.size 0 (mMsg 0 0 0 0 0 0 0 0 0 0 0 0 0 0 0 0 0) rfl ha.out hs.out hq0.here ?_))
    have hz0 : Below wc.heap.size wc q0 := below_step hd0 (hq0.below _ _ (Nat.le_refl _) (below_alloc (Below.refl _ d0) _))
    have HC_1 := Lib.hid (below_step HC.out hz0)
    have L3_1 := Lib.hid (L3.out.keep hz0)
    have LO_1 := Lib.hid (LO.out.keep hz0)
    have HM_1 := Lib.hid (HMc.out.keep hz0)
    clear hd0 hq0 hz0 L1 L3 LO HMc HC
    rw [rounds_succ]
    go_wp2_with fail
    refine (decode_any b3 0 cap3 (firstL ++ [0]) (bytesB (by decide +kernel)) (by decide) (by have h23 : (firstL ++ [0]).length = 23 := rfl; omega) hm3' _ L3_1.out).mono ?_
    rw [show decRes (firstL ++ [0]) = [0, 0, 0, 0, 0, 0, 0, 0, 0, 0, 0, 0, 0, 0, 0, 0, 0] by decide +kernel, show decErr (firstL ++ [0]) = 5 by decide +kernel]
    rintro e d1 ⟨rfl, hd1⟩
    go_wp2_with (first | ((with_reducible refine at_store 27 (.tmp 10) (.tmp 70) ?_); refine wpList_store_whole rfl (.tmp 10) (.tmp 70) 27 rfl d1.heap.size 0 (mMsg 0 0 0 0 0 0 0 0 0 0 0 0 0 0 0 0 0) rfl rfl hs.out (fun j hj => (holds_alloc _ (mMsg 0 0 0 0 0 0 0 0 0 0 0 0 0 0 0 0 0) 27 (by simp)).some j hj) (fun j _ => frozen_new _ _ _ _ (by simp)) (by simp [mMsg, Value.oneCell']) ?_; intro q1 hq1) | ((with_reducible refine at_load 27 (.tmp 10) ?_); refine wpList_load_wanted (by rfl) (.tmp 10) 27 rfl d1.heap.size 0 (mMsg 0 0 0 0 0 0 0 0 0 0 0 0 0 0 0 0 0) rfl ha.out hs.out hq1.here ?_))
    have hz1 : Below q0.heap.size q0 q1 := below_step hd1 (hq1.below _ _ (Nat.le_refl _) (below_alloc (Below.refl _ d1) _))
    have HC_2 := Lib.hid (below_step HC_1.out hz1)
    have LO_2 := Lib.hid (LO_1.out.keep hz1)
    have HM_2 := Lib.hid (HM_1.out.keep hz1)
    clear hd1 hq1 hz1 L3_1 LO_1 HM_1 HC_1
    rw [rounds_succ]
    go_wp2_with fail
    refine (decode_any w9.heap.size 0 22 (firstL.set 3 23) (bytesB (by decide +kernel)) (by decide) (by decide) (by decide) _ LO_2.out).mono ?_
    rw [show decRes (firstL.set 3 23) = [0, 0, 0, 0, 0, 0, 0, 0, 0, 0, 0, 0, 0, 0, 0, 0, 0] by decide +kernel, show decErr (firstL.set 3 23) = 5 by decide +kernel]
    rintro e d2 ⟨rfl, hd2⟩
    go_wp2_with (first | ((with_reducible refine at_store 27 (.tmp 10) (.tmp 70) ?_); refine wpList_store_whole rfl (.tmp 10) (.tmp 70) 27 rfl d2.heap.size 0 (mMsg 0 0 0 0 0 0 0 0 0 0 0 0 0 0 0 0 0) rfl rfl hs.out (fun j hj => (holds_alloc _ (mMsg 0 0 0 0 0 0 0 0 0 0 0 0 0 0 0 0 0) 27 (by simp)).some j hj) (fun j _ => frozen_new _ _ _ _ (by simp)) (by simp [mMsg, Value.oneCell']) ?_; intro q2 hq2) | ((with_reducible refine at_load 27 (.tmp 10) ?_); refine wpList_load_wanted (by rfl) (.tmp 10) 27 rfl d2.heap.size 0 (mMsg 0 0 0 0 0 0 0 0 0 0 0 0 0 0 0 0 0) rfl ha.out hs.out hq2.here ?_))
    have hz2 : Below q1.heap.size q1 q2 := below_step hd2 (hq2.below _ _ (Nat.le_refl _) (below_alloc (Below.refl _ d2) _))
    have HC_3 := Lib.hid (below_step HC_2.out hz2)
    have HM_3 := Lib.hid (HM_2.out.keep hz2)
    clear hd2 hq2 hz2 LO_2 HM_2 HC_2
    rw [rounds_succ]
    clear hne i3 i4 i5 hc3 hm3'
    go_wp2_with fail
    refine (sync_any _).mono ?_
    rintro e s1 ⟨rfl, hs1⟩
    go_wp2_with fail
    refine (sync_any _).mono ?_
    rintro e s2 ⟨rfl, hs2⟩
    have hs12 := below_step hs1 hs2
    have HMs := Lib.hid (HM_3.out.keep hs12)
    have HS2 := Lib.hid (below_step HC_3.out hs12)
    have n8 : w8.heap.size < s2.heap.size := World.block_lt_of_cell? _ _ (HMs.out 0 _ rfl)
    have zs := HS2.out.size
    clear hs1 hs2 hs12 HM_3 HC_3
    go_wp2_with (first | ((with_reducible refine at_store 27 (.tmp 12) (.tmp 80) ?_); refine wpList_store_whole rfl (.tmp 12) (.tmp 80) 27 rfl s2.heap.size 0 (mMsg 0 1 (-2) 5 1 258 0 0 0 0 0 0 0 0 0 0 0) rfl rfl hs.out (fun j hj => ((holds_alloc s2 (mMsg 0 0 0 0 0 0 0 0 0 0 0 0 0 0 0 0 0) 27 rfl).alloc (by simp) _).some j hj) (fun j _ => frozen_al (frozen_new _ _ _ _ rfl) (by simp) _) (by simp [mMsg, Value.oneCell']) ?_; intro v1 hv1) | ((with_reducible refine at_store 27 (.tmp 13) (.tmp 81) ?_); refine wpList_store_whole rfl (.tmp 13) (.tmp 81) 27 rfl (s2.heap.size + 1) 0 (mMsg 0 1 (-2) 5 1 258 0 0 0 0 0 0 0 0 0 0 0) rfl rfl hs.out (fun j hj => Holds.some (Holds.wrote (holds_alloc (s2.alloc (.cells (mMsg 0 0 0 0 0 0 0 0 0 0 0 0 0 0 0 0 0).toArray 27)) (mMsg 0 0 0 0 0 0 0 0 0 0 0 0 0 0 0 0 0) 27 (by simp)) hv1 (by omega)) j hj) (fun j _ => (hv1.frozen _).trans (frozen_new _ _ _ _ (by simp))) (by simp [mMsg, Value.oneCell']) ?_; intro v2 hv2; have e6 : v2.cell? ⟨s2.heap.size, 6, none⟩ = some (.int .i64 0) := (hv2.far _ _ (by omega)).trans (hv1.here 6 _ rfl); have e4 : v2.cell? ⟨s2.heap.size + 1, 4, none⟩ = some (.int .i64 1) := hv2.here 4 _ rfl; have ff6 : v2.frozen? ⟨s2.heap.size, 6, none⟩ = false := (hv2.frozen _).trans ((hv1.frozen _).trans (frozen_al (frozen_new _ _ _ _ rfl) (by simp) _)); have ff4 : v2.frozen? ⟨s2.heap.size + 1, 4, none⟩ = false := (hv2.frozen _).trans ((hv1.frozen _).trans (frozen_new _ _ _ _ (by simp)))))
    refine wp_world ?_
    intro V hV
    have HT := Lib.hid (show Holds V s2.heap.size (mMsg 0 1 (-2) 5 1 258 1 0 0 0 0 0 0 0 0 0 0) by subst hV; exact Holds.far (show Holds _ s2.heap.size (mMsg 0 1 (-2) 5 1 258 1 0 0 0 0 0 0 0 0 0 0) from Holds.set (show Holds v2 s2.heap.size (mMsg 0 1 (-2) 5 1 258 0 0 0 0 0 0 0 0 0 0 0) from fun j u hu => (hv2.far _ _ (by omega)).trans (hv1.here j u hu)) 6 (.int .i64 1)) (by omega) _)
    have HP := Lib.hid (show Holds V (s2.heap.size + 1) (mMsg 0 1 (-2) 5 0 258 0 0 0 0 0 0 0 0 0 0 0) by subst hV; exact Holds.set (Holds.far (show Holds v2 (s2.heap.size + 1) (mMsg 0 1 (-2) 5 1 258 0 0 0 0 0 0 0 0 0 0 0) from hv2.here) (by omega) _) 4 (.int .i64 0))
    have HM5 := Lib.hid (show Holds V w8.heap.size (mMsg 0 1 (-2) 5 1 258 0 0 0 0 0 0 0 0 0 0 0) by subst hV; exact Holds.far (Holds.far (Holds.wrote (Holds.wrote ((HMs.out.alloc n8 _).alloc (by simp; omega) _) hv1 (by omega)) hv2 (by omega)) (by omega) _) (by omega) _)
    have HV := Lib.hid (show Below w.heap.size w V by subst hV; exact Below.setCell (Below.setCell (hv2.below _ _ (by omega) (hv1.below _ _ zs (below_alloc (below_alloc HS2.out _) _))) (by show _ ≤ s2.heap.size; omega) _) (by show _ ≤ s2.heap.size + 1; omega) _)
    clear hV hv1 hv2 e6 e4 ff6 ff4 HMs HS2
    have hT := Lib.hid (show ∀ W, Calls Try.prog 24 #[.agg (mMsg 0 1 (-2) 5 1 258 1 0 0 0 0 0 0 0 0 0 0).toArray] W fun e w' => e = .returned (.int .i64 200) ∧ Below W.heap.size W w' from fun W => by
      have h := ptpCheck_any 0 1 (-2) 5 1 258 1 0 0 0 0 0 0 0 0 0 0 W
      rw [show chkB (baseB 1 (-2) 5 1 258) (kindB 0 1 0 0 0 0 0 0 0 0 0 0) = 200 by decide +kernel] at h
      exact h)
    have hP := Lib.hid (show ∀ W, Calls Try.prog 24 #[.agg (mMsg 0 1 (-2) 5 0 258 0 0 0 0 0 0 0 0 0 0 0).toArray] W fun e w' => e = .returned (.int .i64 200) ∧ Below W.heap.size W w' from fun W => by
      have h := ptpCheck_any 0 1 (-2) 5 0 258 0 0 0 0 0 0 0 0 0 0 0 W
      rw [show chkB (baseB 1 (-2) 5 0 258) (kindB 0 0 0 0 0 0 0 0 0 0 0 0) = 200 by decide +kernel] at h
      exact h)
    have hMs := Lib.hid (show ∀ W, Calls Try.prog 12 #[.agg #[.int .i64 0, .int .i64 256, .int .i64 0, .int .i64 0, .int .i64 0, .int .i64 0]] W fun e w' => e = .returned (.int .i64 201) ∧ Below W.heap.size W w' from fun W => by
      have h := checkMaster_any 0 256 0 0 0 0 W
      rw [show masE 0 256 0 0 0 0 = 201 by decide +kernel] at h
      exact h)
    have heq : ∀ W, (binOp .eql 27 (.agg (mMsg 0 1 (-2) 5 1 258 0 0 0 0 0 0 0 0 0 0 0).toArray) (.agg (mMsg 0 1 (-2) 5 1 258 0 0 0 0 0 0 0 0 0 0 0).toArray)).run Try.prog W = .ok (.bool true) W := fun W => by simp [mMsg, go_sem]
    refine wp_region_quiet_below (by kernel_rfl) (by kernel_rfl) ?_
    repeat (first | ((with_reducible refine at_qload 27 (.tmp 5) ?_); refine wpQuiet_load_wanted (by rfl) (.tmp 5) 27 rfl w8.heap.size 0 (mMsg 0 1 (-2) 5 1 258 0 0 0 0 0 0 0 0 0 0 0) rfl ha.out hs.out (holds_regrown HM5.out) ?_; simp only [Act.put, List.setIfInBounds_toArray, List.set_cons_succ, List.set_cons_zero]) | ((with_reducible refine at_qload 27 (.tmp 12) ?_); refine wpQuiet_load_wanted (by rfl) (.tmp 12) 27 rfl s2.heap.size 0 (mMsg 0 1 (-2) 5 1 258 1 0 0 0 0 0 0 0 0 0 0) rfl ha.out hs.out (holds_regrown HT.out) ?_; simp only [Act.put, List.setIfInBounds_toArray, List.set_cons_succ, List.set_cons_zero]) | ((with_reducible refine at_qload 27 (.tmp 13) ?_); refine wpQuiet_load_wanted (by rfl) (.tmp 13) 27 rfl (s2.heap.size + 1) 0 (mMsg 0 1 (-2) 5 0 258 0 0 0 0 0 0 0 0 0 0 0) rfl ha.out hs.out (holds_regrown HP.out) ?_; simp only [Act.put, List.setIfInBounds_toArray, List.set_cons_succ, List.set_cons_zero]) | go_big_quiet_step (first | with_reducible exact Calls.regrown_of (sync_any _) | with_reducible exact Calls.regrown_of (size_3 _) | with_reducible exact Calls.regrown_of (size_11 _) | with_reducible exact Calls.regrown_of (size_no 1 _ (by decide) (by decide) (by decide) (by decide) (by decide) (by decide)) | with_reducible exact Calls.regrown_of (hT.out _) | with_reducible exact Calls.regrown_of (hP.out _) | with_reducible exact Calls.regrown_of (hMs.out _)))
    refine wpQuiet_nil ?_
    intro wz hw
    have HZ := Lib.hid (below_step HV.out (show Below V.heap.size V wz by obtain ⟨p, rfl⟩ := hw; exact below_regrown _ _ _))
    clear hw
    go_wp2
    go_ret
    exact ⟨rfl, HZ.out⟩

end Go.Proofs.Ytecengclcaodeaa
