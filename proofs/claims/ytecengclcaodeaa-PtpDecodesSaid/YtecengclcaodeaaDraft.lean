/-
  A draft's message, exactly. No conditions.
-/
import Derived.Test.YtecengclcaodeaaPtpChk0
import Derived.Test.YtecengclcaodeaaAt
import Derived.Deep.RegionHeld3
import Derived.Deep.DeepCutAuto
import Derived.WalkMore
namespace Go.Proofs.Ytecengclcaodeaa
open Go.RowKit Go.Lib Plain

theorem six_0 : ∀ (a b c d e f : Value) (w : World), (Instr.index 78 (.agg #[a, b, c, d, e, f]) (.int .u8 0)).run Try.prog w = .ok a w := fun _ _ _ _ _ _ _ => by kernel_rfl
theorem six_1 : ∀ (a b c d e f : Value) (w : World), (Instr.index 78 (.agg #[a, b, c, d, e, f]) (.int .u8 1)).run Try.prog w = .ok b w := fun _ _ _ _ _ _ _ => by kernel_rfl
theorem six_2 : ∀ (a b c d e f : Value) (w : World), (Instr.index 78 (.agg #[a, b, c, d, e, f]) (.int .u8 2)).run Try.prog w = .ok c w := fun _ _ _ _ _ _ _ => by kernel_rfl
theorem six_3 : ∀ (a b c d e f : Value) (w : World), (Instr.index 78 (.agg #[a, b, c, d, e, f]) (.int .u8 3)).run Try.prog w = .ok d w := fun _ _ _ _ _ _ _ => by kernel_rfl
theorem six_4 : ∀ (a b c d e f : Value) (w : World), (Instr.index 78 (.agg #[a, b, c, d, e, f]) (.int .u8 4)).run Try.prog w = .ok e w := fun _ _ _ _ _ _ _ => by kernel_rfl
theorem six_5 : ∀ (a b c d e f : Value) (w : World), (Instr.index 78 (.agg #[a, b, c, d, e, f]) (.int .u8 5)).run Try.prog w = .ok f w := fun _ _ _ _ _ _ _ => by kernel_rfl
/-- The kind of a number from 0 to 5. -/
def sixV (y : Int) : Int := if y = 0 then 0 else if y = 1 then 2 else if y = 2 then 3 else if y = 3 then 8 else if y = 4 then 10 else 11
theorem six_any (k : Int) (h0 : 0 ≤ k) (h5 : k ≤ 5) : ∀ W, (Instr.index 78 (.agg #[.int .i64 0, .int .i64 2, .int .i64 3, .int .i64 8, .int .i64 10, .int .i64 11]) (.int .u8 k)).run Try.prog W = .ok (.int .i64 (sixV k)) W := by
  rcases (show k = 0 ∨ k = 1 ∨ k = 2 ∨ k = 3 ∨ k = 4 ∨ k = 5 by omega) with rfl | rfl | rfl | rfl | rfl | rfl
  · exact fun W => six_0 _ _ _ _ _ _ W
  · exact fun W => six_1 _ _ _ _ _ _ W
  · exact fun W => six_2 _ _ _ _ _ _ W
  · exact fun W => six_3 _ _ _ _ _ _ W
  · exact fun W => six_4 _ _ _ _ _ _ W
  · exact fun W => six_5 _ _ _ _ _ _ W
theorem six_one (k : Int) : sixV k = 0 ∨ sixV k = 2 ∨ sixV k = 3 ∨ sixV k = 8 ∨ sixV k = 10 ∨ sixV k = 11 := by
  unfold sixV
  repeat' split
  all_goals decide
theorem mMsg_one (K D C i p S T P r q a b c v e g s : Int) : ∀ x ∈ mMsg K D C i p S T P r q a b c v e g s, x.oneCell' = true := by
  intro x hx
  simp only [mMsg, List.mem_cons, List.not_mem_nil, or_false] at hx
  rcases hx with rfl | rfl | rfl | rfl | rfl | rfl | rfl | rfl | rfl | rfl | rfl | rfl | rfl | rfl | rfl | rfl | rfl <;> rfl
/-- A draft's message, by its kind. -/
def draftL (x D C I p S T B O N a b c v e n : Int) : List Value :=
  if x = 8 then mMsg x D C I p S T B 0 0 0 0 0 0 0 0 0 else if x = 3 ∨ x = 10 then mMsg x D C I p S T 0 O N 0 0 0 0 0 0 0 else if x = 11 then mMsg x D C I p S 0 0 0 0 a b c v e O n else mMsg x D C I p S 0 0 0 0 0 0 0 0 0 0 0

set_option maxHeartbeats 60000000 in
set_option maxRecDepth 100000 in
theorem draftMsg_core (k d c t i o p s n b x0 x1 x2 x3 v y D C T I O p1 N B : Int) (hy : k.tmod 6 = y) (y0 : 0 ≤ y) (y5 : y ≤ 5) (hD : d.tmod 128 = D) (hC : c.tmod 4398046511105 = C) (hT : t.tmod 4398046511105 = T) (hI : i.tmod 281474976710656 = I) (hO : o.tmod 281474976710656 = O) (hP : p.tmod 65535 = p1) (hN : n.tmod 65535 = N) (hB : b.tmod 8388609 = B)
    (D0 : 0 ≤ D) (D1 : D ≤ 127) (I0 : 0 ≤ I) (I1 : I ≤ 281474976710655) (O0 : 0 ≤ O) (O1 : O ≤ 281474976710655) (p0 : 0 ≤ p1) (p2 : p1 ≤ 65534) (N0 : 0 ≤ N) (N1 : N ≤ 65534) (B0 : -8388608 ≤ B) (B1 : B ≤ 8388608) (s0 : 0 ≤ s) (s1 : s ≤ 65535) (n0 : 0 ≤ n) (n1 : n ≤ 65535) (v0 : 0 ≤ v) (v1 : v ≤ 65535)
    (a0 : 0 ≤ x0) (a1 : x0 ≤ 255) (b0 : 0 ≤ x1) (b1 : x1 ≤ 255) (c0 : 0 ≤ x2) (c1 : x2 ≤ 255) (d0 : 0 ≤ x3) (d1 : x3 ≤ 255) (w : World) :
    Calls Try.prog 16 #[.agg #[.int .u8 k, .int .u8 d, .int .i64 c, .int .i64 t, .int .u64 i, .int .u64 o, .int .u16 p, .int .u16 s, .int .u16 n, .int .i32 b, .int .u8 x0, .int .u8 x1, .int .u8 x2, .int .u8 x3, .int .u16 v]] w fun e w' => e = .returned (.agg (draftL (sixV y) D C I (1 + p1) s T B O (1 + N) x0 x1 x2 v x3 n).toArray) ∧ Below w.heap.size w w' := by
  have ha := Lib.hid agg_msg
  have hs := Lib.hid size_msg
  have hx := six_any y y0 y5
  have HX := Lib.hid (six_one y)
  generalize sixV y = x at *
  have hwD : IntKind.i64.wrap D = D := by simp [IntKind.wrap, IntKind.signed, IntKind.bits]; omega
  have hws : IntKind.i64.wrap s = s := by simp [IntKind.wrap, IntKind.signed, IntKind.bits]; omega
  go_enter Try.func16, Try.ntmps16
  go_upto_region 1 with fail
  go_cut [3] (fun s3 wx => s3 = .pointer (some ⟨w.heap.size + 2, 0, none⟩) ∧ Holds wx (w.heap.size + 2) (mMsg x D C 0 0 s 0 0 0 0 0 0 0 0 0 0 0) ∧ (∀ u, wx.frozen? ⟨w.heap.size + 2, u, none⟩ = false) ∧ Holds wx w.heap.size [.int .u8 k, .int .u8 d, .int .i64 c, .int .i64 t, .int .u64 i, .int .u64 o, .int .u16 p, .int .u16 s, .int .u16 n, .int .i32 b, .int .u8 x0, .int .u8 x1, .int .u8 x2, .int .u8 x3, .int .u16 v] ∧ Holds wx (w.heap.size + 1) (mMsg 0 0 0 0 0 0 0 0 0 0 0 0 0 0 0 0 0) ∧ (∀ u, wx.frozen? ⟨w.heap.size + 1, u, none⟩ = false) ∧ Below w.heap.size w wx)
  case first =>
    refine wp_world ?_
    intro W hW
    have k0 : W.cell? ⟨w.heap.size, 0, none⟩ = some (.int .u8 k) := by subst hW; simp [go_sem]
    have k1 : W.cell? ⟨w.heap.size, 1, none⟩ = some (.int .u8 d) := by subst hW; simp [go_sem]
    have k2 : W.cell? ⟨w.heap.size, 2, none⟩ = some (.int .i64 c) := by subst hW; simp [go_sem]
    have k7 : W.cell? ⟨w.heap.size, 7, none⟩ = some (.int .u16 s) := by subst hW; simp [go_sem]
    have GD := Lib.hid (show Holds W w.heap.size [.int .u8 k, .int .u8 d, .int .i64 c, .int .i64 t, .int .u64 i, .int .u64 o, .int .u16 p, .int .u16 s, .int .u16 n, .int .i32 b, .int .u8 x0, .int .u8 x1, .int .u8 x2, .int .u8 x3, .int .u16 v] by subst hW; exact (holds_alloc w [.int .u8 k, .int .u8 d, .int .i64 c, .int .i64 t, .int .u64 i, .int .u64 o, .int .u16 p, .int .u16 s, .int .u16 n, .int .i32 b, .int .u8 x0, .int .u8 x1, .int .u8 x2, .int .u8 x3, .int .u16 v] 32 rfl).alloc (by simp) _)
    have GZ := Lib.hid (show Holds W (w.heap.size + 1) (mMsg 0 0 0 0 0 0 0 0 0 0 0 0 0 0 0 0 0) by subst hW; exact holds_alloc _ _ 27 (by simp))
    have GF := Lib.hid (show ∀ o, W.frozen? ⟨w.heap.size + 1, o, none⟩ = false by subst hW; intro o; exact frozen_new _ _ _ _ (by simp))
    have HB := Lib.hid (show Below w.heap.size w W by subst hW; exact below_alloc (below_alloc (Below.refl _ _) _) _)
    have zW : W.heap.size = w.heap.size + 2 := by subst hW; simp
    clear hW
    have z0 : w.heap.size < W.heap.size := World.block_lt_of_cell? _ _ k0
    have z1 : w.heap.size + 1 < W.heap.size := World.block_lt_of_cell? _ _ (GZ.out 0 _ rfl)
    have ZW := Lib.hid zW
    clear zW
    go_region_held3 (fun w' => w'.cell? ⟨w.heap.size, 0, none⟩ = some (.int .u8 k) ∧ w'.cell? ⟨w.heap.size, 1, none⟩ = some (.int .u8 d) ∧ w'.cell? ⟨w.heap.size, 2, none⟩ = some (.int .i64 c) ∧ w'.cell? ⟨w.heap.size, 7, none⟩ = some (.int .u16 s)) (first | (go_keep; done) | (refine ⟨?_, ?_, ?_, ?_⟩ <;> (go_keep; done)) | fail) (fail)
    all_goals
      refine then_world ?_
      intro W9 hW9
      have HI := Lib.hid (show Holds W9 W.heap.size (mMsg x D C 0 0 s 0 0 0 0 0 0 0 0 0 0 0) by subst hW9; (try rw [hwD]); (try rw [hws]); first | exact holds_alloc _ (mMsg x D C 0 0 s 0 0 0 0 0 0 0 0 0 0 0) 27 rfl | exact (holds_alloc _ (mMsg x D C 0 0 s 0 0 0 0 0 0 0 0 0 0 0) 27 rfl).drew)
      have HB9 := Lib.hid (show Below W.heap.size W W9 by subst hW9; repeat (first | exact Below.refl _ _ | refine Below.drew ?_ | refine below_alloc ?_ _))
      have FO9 : ∀ u, W9.frozen? ⟨W.heap.size, u, none⟩ = false := by subst hW9; intro u; first | exact frozen_new _ _ _ _ (by simp) | simp [go_sem]
      clear hW9
      go_wp2
      go_meet
      have HI2 := HI.out
      rw [ZW.out] at HI2 FO9
      exact ⟨by rw [ZW.out], HI2, FO9, GD.out.keep HB9.out, GZ.out.keep HB9.out, fun u => by rw [(bcell HB9.out).2 _ _ z1]; exact GF.out u, below_step HB.out HB9.out⟩
  case rest =>
    obtain ⟨rfl, hm, FO9, hd, hz, hf, hb⟩ := hcut
    have HI := Lib.hid hm
    have GD := Lib.hid hd
    have GZ := Lib.hid hz
    have GF := Lib.hid hf
    have H9 := Lib.hid hb
    clear hm hd hz hf hb
    have z2 : w.heap.size + 2 < wc.heap.size := World.block_lt_of_cell? _ _ (HI.out 0 _ rfl)
    have z91 : w.heap.size < wc.heap.size := by omega
    have z92 : w.heap.size + 1 < wc.heap.size := by omega
    clear hwD hws
    rcases HX.out with rfl | rfl | rfl | rfl | rfl | rfl
    · clear hx hy y0 y5 hD hC hT hO hN hB D0 D1 O0 O1 N0 N1 B0 B1 s0 s1 n0 n1 v0 v1 a0 a1 b0 b1 c0 c1 d0 d1
      have e4 : wc.cell? ⟨w.heap.size, 4, none⟩ = some (.int .u64 i) := GD.out 4 _ rfl
      have e6 : wc.cell? ⟨w.heap.size, 6, none⟩ = some (.int .u16 p) := GD.out 6 _ rfl
      have m0 : wc.cell? ⟨w.heap.size + 2, 0, none⟩ = some (.int .i64 0) := HI.out 0 _ rfl
      have m3 : wc.cell? ⟨w.heap.size + 2, 3, none⟩ = some (.int .i64 0) := HI.out 3 _ rfl
      have m4 : wc.cell? ⟨w.heap.size + 2, 4, none⟩ = some (.int .i64 0) := HI.out 4 _ rfl
      go_wp2_with (first | ((with_reducible refine at_load 27 (.tmp 3) ?_); refine wpList_load_whole rfl (.tmp 3) 27 rfl (w.heap.size + 2) 0 (mMsg 0 D C I (1 + p1) s 0 0 0 0 0 0 0 0 0 0 0) rfl ha.out hs.out (show Holds _ _ (mMsg 0 D C I (1 + p1) s 0 0 0 0 0 0 0 0 0 0 0) from ((HI.out.set 3 (.int .i64 I)).set 4 (.int .i64 (1 + p1)))) ?_) | ((with_reducible refine at_store 27 (.tmp 2) (.tmp 93) ?_); refine wpList_store_whole rfl (.tmp 2) (.tmp 93) 27 rfl (w.heap.size + 1) 0 (mMsg 0 D C I (1 + p1) s 0 0 0 0 0 0 0 0 0 0 0) rfl rfl hs.out (fun j hj => Holds.some (c := mMsg 0 0 0 0 0 0 0 0 0 0 0 0 0 0 0 0 0) ((Holds.far (b' := w.heap.size + 2) (Holds.far (b' := w.heap.size + 2) GZ.out (by omega) _) (by omega) _)) j (by simpa [mMsg] using hj)) (fun j _ => by simp [go_sem, GF.out]) (mMsg_one _ _ _ _ _ _ _ _ _ _ _ _ _ _ _ _ _) ?_; intro w5 hw5))
      have hL := run_loadVar_whole (P := Try.prog) (w := w5) 27 (w.heap.size + 1) 0 (mMsg 0 D C I (1 + p1) s 0 0 0 0 0 0 0 0 0 0 0) ha.out hs.out hw5.here
      exact bodyPost_ret (v := .agg (mMsg 0 D C I (1 + p1) s 0 0 0 0 0 0 0 0 0 0 0).toArray) (results_cell 2 27 Try.results16 (w.heap.size + 1) 0 _ rfl hL) rfl ⟨rfl, hw5.below _ _ (by omega) ((Below.setCell (p := ⟨w.heap.size + 2, 4, none⟩) (Below.setCell (p := ⟨w.heap.size + 2, 3, none⟩) H9.out (by show _ ≤ w.heap.size + 2; omega) _) (by show _ ≤ w.heap.size + 2; omega) _))⟩
    · clear hx hy y0 y5 hD hC hT hO hN hB D0 D1 O0 O1 N0 N1 B0 B1 s0 s1 n0 n1 v0 v1 a0 a1 b0 b1 c0 c1 d0 d1
      have e4 : wc.cell? ⟨w.heap.size, 4, none⟩ = some (.int .u64 i) := GD.out 4 _ rfl
      have e6 : wc.cell? ⟨w.heap.size, 6, none⟩ = some (.int .u16 p) := GD.out 6 _ rfl
      have m0 : wc.cell? ⟨w.heap.size + 2, 0, none⟩ = some (.int .i64 2) := HI.out 0 _ rfl
      have m3 : wc.cell? ⟨w.heap.size + 2, 3, none⟩ = some (.int .i64 0) := HI.out 3 _ rfl
      have m4 : wc.cell? ⟨w.heap.size + 2, 4, none⟩ = some (.int .i64 0) := HI.out 4 _ rfl
      go_wp2_with (first | ((with_reducible refine at_load 27 (.tmp 3) ?_); refine wpList_load_whole rfl (.tmp 3) 27 rfl (w.heap.size + 2) 0 (mMsg 2 D C I (1 + p1) s 0 0 0 0 0 0 0 0 0 0 0) rfl ha.out hs.out (show Holds _ _ (mMsg 2 D C I (1 + p1) s 0 0 0 0 0 0 0 0 0 0 0) from ((HI.out.set 3 (.int .i64 I)).set 4 (.int .i64 (1 + p1)))) ?_) | ((with_reducible refine at_store 27 (.tmp 2) (.tmp 93) ?_); refine wpList_store_whole rfl (.tmp 2) (.tmp 93) 27 rfl (w.heap.size + 1) 0 (mMsg 2 D C I (1 + p1) s 0 0 0 0 0 0 0 0 0 0 0) rfl rfl hs.out (fun j hj => Holds.some (c := mMsg 0 0 0 0 0 0 0 0 0 0 0 0 0 0 0 0 0) ((Holds.far (b' := w.heap.size + 2) (Holds.far (b' := w.heap.size + 2) GZ.out (by omega) _) (by omega) _)) j (by simpa [mMsg] using hj)) (fun j _ => by simp [go_sem, GF.out]) (mMsg_one _ _ _ _ _ _ _ _ _ _ _ _ _ _ _ _ _) ?_; intro w5 hw5))
      have hL := run_loadVar_whole (P := Try.prog) (w := w5) 27 (w.heap.size + 1) 0 (mMsg 2 D C I (1 + p1) s 0 0 0 0 0 0 0 0 0 0 0) ha.out hs.out hw5.here
      exact bodyPost_ret (v := .agg (mMsg 2 D C I (1 + p1) s 0 0 0 0 0 0 0 0 0 0 0).toArray) (results_cell 2 27 Try.results16 (w.heap.size + 1) 0 _ rfl hL) rfl ⟨rfl, hw5.below _ _ (by omega) ((Below.setCell (p := ⟨w.heap.size + 2, 4, none⟩) (Below.setCell (p := ⟨w.heap.size + 2, 3, none⟩) H9.out (by show _ ≤ w.heap.size + 2; omega) _) (by show _ ≤ w.heap.size + 2; omega) _))⟩
    · clear hx hy y0 y5 hD hC hB D0 D1 B0 B1 s0 s1 n0 n1 v0 v1 a0 a1 b0 b1 c0 c1 d0 d1
      have e3 : wc.cell? ⟨w.heap.size, 3, none⟩ = some (.int .i64 t) := GD.out 3 _ rfl
      have e4 : wc.cell? ⟨w.heap.size, 4, none⟩ = some (.int .u64 i) := GD.out 4 _ rfl
      have e5 : wc.cell? ⟨w.heap.size, 5, none⟩ = some (.int .u64 o) := GD.out 5 _ rfl
      have e6 : wc.cell? ⟨w.heap.size, 6, none⟩ = some (.int .u16 p) := GD.out 6 _ rfl
      have e8 : wc.cell? ⟨w.heap.size, 8, none⟩ = some (.int .u16 n) := GD.out 8 _ rfl
      have m0 : wc.cell? ⟨w.heap.size + 2, 0, none⟩ = some (.int .i64 3) := HI.out 0 _ rfl
      have m3 : wc.cell? ⟨w.heap.size + 2, 3, none⟩ = some (.int .i64 0) := HI.out 3 _ rfl
      have m4 : wc.cell? ⟨w.heap.size + 2, 4, none⟩ = some (.int .i64 0) := HI.out 4 _ rfl
      have m6 : wc.cell? ⟨w.heap.size + 2, 6, none⟩ = some (.int .i64 0) := HI.out 6 _ rfl
      have m8 : wc.cell? ⟨w.heap.size + 2, 8, none⟩ = some (.int .i64 0) := HI.out 8 _ rfl
      have m9 : wc.cell? ⟨w.heap.size + 2, 9, none⟩ = some (.int .i64 0) := HI.out 9 _ rfl
      go_wp2_with (first | ((with_reducible refine at_load 27 (.tmp 3) ?_); refine wpList_load_whole rfl (.tmp 3) 27 rfl (w.heap.size + 2) 0 (mMsg 3 D C I (1 + p1) s T 0 O (1 + N) 0 0 0 0 0 0 0) rfl ha.out hs.out (show Holds _ _ (mMsg 3 D C I (1 + p1) s T 0 O (1 + N) 0 0 0 0 0 0 0) from (((((HI.out.set 3 (.int .i64 I)).set 4 (.int .i64 (1 + p1))).set 6 (.int .i64 T)).set 8 (.int .i64 O)).set 9 (.int .i64 (1 + N)))) ?_) | ((with_reducible refine at_store 27 (.tmp 2) (.tmp 93) ?_); refine wpList_store_whole rfl (.tmp 2) (.tmp 93) 27 rfl (w.heap.size + 1) 0 (mMsg 3 D C I (1 + p1) s T 0 O (1 + N) 0 0 0 0 0 0 0) rfl rfl hs.out (fun j hj => Holds.some (c := mMsg 0 0 0 0 0 0 0 0 0 0 0 0 0 0 0 0 0) ((Holds.far (b' := w.heap.size + 2) (Holds.far (b' := w.heap.size + 2) (Holds.far (b' := w.heap.size + 2) (Holds.far (b' := w.heap.size + 2) (Holds.far (b' := w.heap.size + 2) GZ.out (by omega) _) (by omega) _) (by omega) _) (by omega) _) (by omega) _)) j (by simpa [mMsg] using hj)) (fun j _ => by simp [go_sem, GF.out]) (mMsg_one _ _ _ _ _ _ _ _ _ _ _ _ _ _ _ _ _) ?_; intro w5 hw5))
      have hL := run_loadVar_whole (P := Try.prog) (w := w5) 27 (w.heap.size + 1) 0 (mMsg 3 D C I (1 + p1) s T 0 O (1 + N) 0 0 0 0 0 0 0) ha.out hs.out hw5.here
      exact bodyPost_ret (v := .agg (mMsg 3 D C I (1 + p1) s T 0 O (1 + N) 0 0 0 0 0 0 0).toArray) (results_cell 2 27 Try.results16 (w.heap.size + 1) 0 _ rfl hL) rfl ⟨rfl, hw5.below _ _ (by omega) ((Below.setCell (p := ⟨w.heap.size + 2, 9, none⟩) (Below.setCell (p := ⟨w.heap.size + 2, 8, none⟩) (Below.setCell (p := ⟨w.heap.size + 2, 6, none⟩) (Below.setCell (p := ⟨w.heap.size + 2, 4, none⟩) (Below.setCell (p := ⟨w.heap.size + 2, 3, none⟩) H9.out (by show _ ≤ w.heap.size + 2; omega) _) (by show _ ≤ w.heap.size + 2; omega) _) (by show _ ≤ w.heap.size + 2; omega) _) (by show _ ≤ w.heap.size + 2; omega) _) (by show _ ≤ w.heap.size + 2; omega) _))⟩
    · clear hx hy y0 y5 hD hC hO hN D0 D1 O0 O1 N0 N1 s0 s1 n0 n1 v0 v1 a0 a1 b0 b1 c0 c1 d0 d1
      have e3 : wc.cell? ⟨w.heap.size, 3, none⟩ = some (.int .i64 t) := GD.out 3 _ rfl
      have e4 : wc.cell? ⟨w.heap.size, 4, none⟩ = some (.int .u64 i) := GD.out 4 _ rfl
      have e6 : wc.cell? ⟨w.heap.size, 6, none⟩ = some (.int .u16 p) := GD.out 6 _ rfl
      have e9 : wc.cell? ⟨w.heap.size, 9, none⟩ = some (.int .i32 b) := GD.out 9 _ rfl
      have m0 : wc.cell? ⟨w.heap.size + 2, 0, none⟩ = some (.int .i64 8) := HI.out 0 _ rfl
      have m3 : wc.cell? ⟨w.heap.size + 2, 3, none⟩ = some (.int .i64 0) := HI.out 3 _ rfl
      have m4 : wc.cell? ⟨w.heap.size + 2, 4, none⟩ = some (.int .i64 0) := HI.out 4 _ rfl
      have m6 : wc.cell? ⟨w.heap.size + 2, 6, none⟩ = some (.int .i64 0) := HI.out 6 _ rfl
      have m7 : wc.cell? ⟨w.heap.size + 2, 7, none⟩ = some (.int .i64 0) := HI.out 7 _ rfl
      go_wp2_with (first | ((with_reducible refine at_load 27 (.tmp 3) ?_); refine wpList_load_whole rfl (.tmp 3) 27 rfl (w.heap.size + 2) 0 (mMsg 8 D C I (1 + p1) s T B 0 0 0 0 0 0 0 0 0) rfl ha.out hs.out (show Holds _ _ (mMsg 8 D C I (1 + p1) s T B 0 0 0 0 0 0 0 0 0) from ((((HI.out.set 3 (.int .i64 I)).set 4 (.int .i64 (1 + p1))).set 6 (.int .i64 T)).set 7 (.int .i64 B))) ?_) | ((with_reducible refine at_store 27 (.tmp 2) (.tmp 93) ?_); refine wpList_store_whole rfl (.tmp 2) (.tmp 93) 27 rfl (w.heap.size + 1) 0 (mMsg 8 D C I (1 + p1) s T B 0 0 0 0 0 0 0 0 0) rfl rfl hs.out (fun j hj => Holds.some (c := mMsg 0 0 0 0 0 0 0 0 0 0 0 0 0 0 0 0 0) ((Holds.far (b' := w.heap.size + 2) (Holds.far (b' := w.heap.size + 2) (Holds.far (b' := w.heap.size + 2) (Holds.far (b' := w.heap.size + 2) GZ.out (by omega) _) (by omega) _) (by omega) _) (by omega) _)) j (by simpa [mMsg] using hj)) (fun j _ => by simp [go_sem, GF.out]) (mMsg_one _ _ _ _ _ _ _ _ _ _ _ _ _ _ _ _ _) ?_; intro w5 hw5))
      have hL := run_loadVar_whole (P := Try.prog) (w := w5) 27 (w.heap.size + 1) 0 (mMsg 8 D C I (1 + p1) s T B 0 0 0 0 0 0 0 0 0) ha.out hs.out hw5.here
      exact bodyPost_ret (v := .agg (mMsg 8 D C I (1 + p1) s T B 0 0 0 0 0 0 0 0 0).toArray) (results_cell 2 27 Try.results16 (w.heap.size + 1) 0 _ rfl hL) rfl ⟨rfl, hw5.below _ _ (by omega) ((Below.setCell (p := ⟨w.heap.size + 2, 7, none⟩) (Below.setCell (p := ⟨w.heap.size + 2, 6, none⟩) (Below.setCell (p := ⟨w.heap.size + 2, 4, none⟩) (Below.setCell (p := ⟨w.heap.size + 2, 3, none⟩) H9.out (by show _ ≤ w.heap.size + 2; omega) _) (by show _ ≤ w.heap.size + 2; omega) _) (by show _ ≤ w.heap.size + 2; omega) _) (by show _ ≤ w.heap.size + 2; omega) _))⟩
    · clear hx hy y0 y5 hD hC hB D0 D1 B0 B1 s0 s1 n0 n1 v0 v1 a0 a1 b0 b1 c0 c1 d0 d1
      have e3 : wc.cell? ⟨w.heap.size, 3, none⟩ = some (.int .i64 t) := GD.out 3 _ rfl
      have e4 : wc.cell? ⟨w.heap.size, 4, none⟩ = some (.int .u64 i) := GD.out 4 _ rfl
      have e5 : wc.cell? ⟨w.heap.size, 5, none⟩ = some (.int .u64 o) := GD.out 5 _ rfl
      have e6 : wc.cell? ⟨w.heap.size, 6, none⟩ = some (.int .u16 p) := GD.out 6 _ rfl
      have e8 : wc.cell? ⟨w.heap.size, 8, none⟩ = some (.int .u16 n) := GD.out 8 _ rfl
      have m0 : wc.cell? ⟨w.heap.size + 2, 0, none⟩ = some (.int .i64 10) := HI.out 0 _ rfl
      have m3 : wc.cell? ⟨w.heap.size + 2, 3, none⟩ = some (.int .i64 0) := HI.out 3 _ rfl
      have m4 : wc.cell? ⟨w.heap.size + 2, 4, none⟩ = some (.int .i64 0) := HI.out 4 _ rfl
      have m6 : wc.cell? ⟨w.heap.size + 2, 6, none⟩ = some (.int .i64 0) := HI.out 6 _ rfl
      have m8 : wc.cell? ⟨w.heap.size + 2, 8, none⟩ = some (.int .i64 0) := HI.out 8 _ rfl
      have m9 : wc.cell? ⟨w.heap.size + 2, 9, none⟩ = some (.int .i64 0) := HI.out 9 _ rfl
      go_wp2_with (first | ((with_reducible refine at_load 27 (.tmp 3) ?_); refine wpList_load_whole rfl (.tmp 3) 27 rfl (w.heap.size + 2) 0 (mMsg 10 D C I (1 + p1) s T 0 O (1 + N) 0 0 0 0 0 0 0) rfl ha.out hs.out (show Holds _ _ (mMsg 10 D C I (1 + p1) s T 0 O (1 + N) 0 0 0 0 0 0 0) from (((((HI.out.set 3 (.int .i64 I)).set 4 (.int .i64 (1 + p1))).set 6 (.int .i64 T)).set 8 (.int .i64 O)).set 9 (.int .i64 (1 + N)))) ?_) | ((with_reducible refine at_store 27 (.tmp 2) (.tmp 93) ?_); refine wpList_store_whole rfl (.tmp 2) (.tmp 93) 27 rfl (w.heap.size + 1) 0 (mMsg 10 D C I (1 + p1) s T 0 O (1 + N) 0 0 0 0 0 0 0) rfl rfl hs.out (fun j hj => Holds.some (c := mMsg 0 0 0 0 0 0 0 0 0 0 0 0 0 0 0 0 0) ((Holds.far (b' := w.heap.size + 2) (Holds.far (b' := w.heap.size + 2) (Holds.far (b' := w.heap.size + 2) (Holds.far (b' := w.heap.size + 2) (Holds.far (b' := w.heap.size + 2) GZ.out (by omega) _) (by omega) _) (by omega) _) (by omega) _) (by omega) _)) j (by simpa [mMsg] using hj)) (fun j _ => by simp [go_sem, GF.out]) (mMsg_one _ _ _ _ _ _ _ _ _ _ _ _ _ _ _ _ _) ?_; intro w5 hw5))
      have hL := run_loadVar_whole (P := Try.prog) (w := w5) 27 (w.heap.size + 1) 0 (mMsg 10 D C I (1 + p1) s T 0 O (1 + N) 0 0 0 0 0 0 0) ha.out hs.out hw5.here
      exact bodyPost_ret (v := .agg (mMsg 10 D C I (1 + p1) s T 0 O (1 + N) 0 0 0 0 0 0 0).toArray) (results_cell 2 27 Try.results16 (w.heap.size + 1) 0 _ rfl hL) rfl ⟨rfl, hw5.below _ _ (by omega) ((Below.setCell (p := ⟨w.heap.size + 2, 9, none⟩) (Below.setCell (p := ⟨w.heap.size + 2, 8, none⟩) (Below.setCell (p := ⟨w.heap.size + 2, 6, none⟩) (Below.setCell (p := ⟨w.heap.size + 2, 4, none⟩) (Below.setCell (p := ⟨w.heap.size + 2, 3, none⟩) H9.out (by show _ ≤ w.heap.size + 2; omega) _) (by show _ ≤ w.heap.size + 2; omega) _) (by show _ ≤ w.heap.size + 2; omega) _) (by show _ ≤ w.heap.size + 2; omega) _) (by show _ ≤ w.heap.size + 2; omega) _))⟩
    · clear hx hy y0 y5 hD hC hT hN hB D0 D1 N0 N1 B0 B1 s0 s1
      have e4 : wc.cell? ⟨w.heap.size, 4, none⟩ = some (.int .u64 i) := GD.out 4 _ rfl
      have e5 : wc.cell? ⟨w.heap.size, 5, none⟩ = some (.int .u64 o) := GD.out 5 _ rfl
      have e6 : wc.cell? ⟨w.heap.size, 6, none⟩ = some (.int .u16 p) := GD.out 6 _ rfl
      have e8 : wc.cell? ⟨w.heap.size, 8, none⟩ = some (.int .u16 n) := GD.out 8 _ rfl
      have e10 : wc.cell? ⟨w.heap.size, 10, none⟩ = some (.int .u8 x0) := GD.out 10 _ rfl
      have e11 : wc.cell? ⟨w.heap.size, 11, none⟩ = some (.int .u8 x1) := GD.out 11 _ rfl
      have e12 : wc.cell? ⟨w.heap.size, 12, none⟩ = some (.int .u8 x2) := GD.out 12 _ rfl
      have e13 : wc.cell? ⟨w.heap.size, 13, none⟩ = some (.int .u8 x3) := GD.out 13 _ rfl
      have e14 : wc.cell? ⟨w.heap.size, 14, none⟩ = some (.int .u16 v) := GD.out 14 _ rfl
      have m0 : wc.cell? ⟨w.heap.size + 2, 0, none⟩ = some (.int .i64 11) := HI.out 0 _ rfl
      have m3 : wc.cell? ⟨w.heap.size + 2, 3, none⟩ = some (.int .i64 0) := HI.out 3 _ rfl
      have m4 : wc.cell? ⟨w.heap.size + 2, 4, none⟩ = some (.int .i64 0) := HI.out 4 _ rfl
      have m10 : wc.cell? ⟨w.heap.size + 2, 10, none⟩ = some (.int .i64 0) := HI.out 10 _ rfl
      have m11 : wc.cell? ⟨w.heap.size + 2, 11, none⟩ = some (.int .i64 0) := HI.out 11 _ rfl
      have m12 : wc.cell? ⟨w.heap.size + 2, 12, none⟩ = some (.int .i64 0) := HI.out 12 _ rfl
      have m13 : wc.cell? ⟨w.heap.size + 2, 13, none⟩ = some (.int .i64 0) := HI.out 13 _ rfl
      have m14 : wc.cell? ⟨w.heap.size + 2, 14, none⟩ = some (.int .i64 0) := HI.out 14 _ rfl
      have m15 : wc.cell? ⟨w.heap.size + 2, 15, none⟩ = some (.int .i64 0) := HI.out 15 _ rfl
      have m16 : wc.cell? ⟨w.heap.size + 2, 16, none⟩ = some (.int .i64 0) := HI.out 16 _ rfl
      go_wp2_with (first | ((with_reducible refine at_load 27 (.tmp 3) ?_); refine wpList_load_whole rfl (.tmp 3) 27 rfl (w.heap.size + 2) 0 (mMsg 11 D C I (1 + p1) s 0 0 0 0 x0 x1 x2 v x3 O n) rfl ha.out hs.out (show Holds _ _ (mMsg 11 D C I (1 + p1) s 0 0 0 0 x0 x1 x2 v x3 O n) from (((((((((HI.out.set 3 (.int .i64 I)).set 4 (.int .i64 (1 + p1))).set 10 (.int .i64 x0)).set 11 (.int .i64 x1)).set 12 (.int .i64 x2)).set 13 (.int .i64 v)).set 14 (.int .i64 x3)).set 15 (.int .i64 O)).set 16 (.int .i64 n))) ?_) | ((with_reducible refine at_store 27 (.tmp 2) (.tmp 93) ?_); refine wpList_store_whole rfl (.tmp 2) (.tmp 93) 27 rfl (w.heap.size + 1) 0 (mMsg 11 D C I (1 + p1) s 0 0 0 0 x0 x1 x2 v x3 O n) rfl rfl hs.out (fun j hj => Holds.some (c := mMsg 0 0 0 0 0 0 0 0 0 0 0 0 0 0 0 0 0) ((Holds.far (b' := w.heap.size + 2) (Holds.far (b' := w.heap.size + 2) (Holds.far (b' := w.heap.size + 2) (Holds.far (b' := w.heap.size + 2) (Holds.far (b' := w.heap.size + 2) (Holds.far (b' := w.heap.size + 2) (Holds.far (b' := w.heap.size + 2) (Holds.far (b' := w.heap.size + 2) (Holds.far (b' := w.heap.size + 2) GZ.out (by omega) _) (by omega) _) (by omega) _) (by omega) _) (by omega) _) (by omega) _) (by omega) _) (by omega) _) (by omega) _)) j (by simpa [mMsg] using hj)) (fun j _ => by simp [go_sem, GF.out]) (mMsg_one _ _ _ _ _ _ _ _ _ _ _ _ _ _ _ _ _) ?_; intro w5 hw5))
      have hL := run_loadVar_whole (P := Try.prog) (w := w5) 27 (w.heap.size + 1) 0 (mMsg 11 D C I (1 + p1) s 0 0 0 0 x0 x1 x2 v x3 O n) ha.out hs.out hw5.here
      exact bodyPost_ret (v := .agg (mMsg 11 D C I (1 + p1) s 0 0 0 0 x0 x1 x2 v x3 O n).toArray) (results_cell 2 27 Try.results16 (w.heap.size + 1) 0 _ rfl hL) rfl ⟨rfl, hw5.below _ _ (by omega) ((Below.setCell (p := ⟨w.heap.size + 2, 16, none⟩) (Below.setCell (p := ⟨w.heap.size + 2, 15, none⟩) (Below.setCell (p := ⟨w.heap.size + 2, 14, none⟩) (Below.setCell (p := ⟨w.heap.size + 2, 13, none⟩) (Below.setCell (p := ⟨w.heap.size + 2, 12, none⟩) (Below.setCell (p := ⟨w.heap.size + 2, 11, none⟩) (Below.setCell (p := ⟨w.heap.size + 2, 10, none⟩) (Below.setCell (p := ⟨w.heap.size + 2, 4, none⟩) (Below.setCell (p := ⟨w.heap.size + 2, 3, none⟩) H9.out (by show _ ≤ w.heap.size + 2; omega) _) (by show _ ≤ w.heap.size + 2; omega) _) (by show _ ≤ w.heap.size + 2; omega) _) (by show _ ≤ w.heap.size + 2; omega) _) (by show _ ≤ w.heap.size + 2; omega) _) (by show _ ≤ w.heap.size + 2; omega) _) (by show _ ≤ w.heap.size + 2; omega) _) (by show _ ≤ w.heap.size + 2; omega) _) (by show _ ≤ w.heap.size + 2; omega) _))⟩

end Go.Proofs.Ytecengclcaodeaa
