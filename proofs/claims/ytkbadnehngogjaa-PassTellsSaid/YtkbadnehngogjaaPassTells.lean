/-
  PassTells: for every input the law returns true, and its arguments read as before. No conditions.
-/
import Derived.Test.YtkbadnehngogjaaPassWorks
import Derived.Test.YtkbadnehngogjaaTells3
import Derived.Test.YtkbadnehngogjaaDraft2
import Derived.Test.YtkbadnehngogjaaQLoad
import Derived.Test.YtkbadnehngogjaaOpen14
import Derived.Test.YtkbadnehngogjaaOpenMsg
import Derived.Lib.QuietBelow
import Derived.BigQuiet
namespace Go.Proofs.Ytkbadnehngogjaa
open Go.RowKit Go.Lib Plain
open Go.ChangeShapes Go.WideShapes Go.ChangeAt

theorem ipair_0 : ∀ (a b c d e f : Value) (w : World), (Instr.index 28 (.agg #[a, b, c, d, e, f]) (.int .i64 0)).run Try.prog w = .ok (.agg #[a, b, c]) w := fun _ _ _ _ _ _ _ => by kernel_rfl
theorem ipair_1 : ∀ (a b c d e f : Value) (w : World), (Instr.index 28 (.agg #[a, b, c, d, e, f]) (.int .i64 1)).run Try.prog w = .ok (.agg #[d, e, f]) w := fun _ _ _ _ _ _ _ => by kernel_rfl
theorem ipair_any (a b c d e f : Int) (k : Nat) (hk : k < 2) : ∃ x y z : Int, ∀ W, (Instr.index 28 (.agg #[.int .i64 a, .int .i64 b, .int .i64 c, .int .i64 d, .int .i64 e, .int .i64 f]) (.int .i64 (k : Int))).run Try.prog W = .ok (.agg #[.int .i64 x, .int .i64 y, .int .i64 z]) W := by
  rcases (show k = 0 ∨ k = 1 by omega) with rfl | rfl
  · exact ⟨_, _, _, fun W => ipair_0 _ _ _ _ _ _ W⟩
  · exact ⟨_, _, _, fun W => ipair_1 _ _ _ _ _ _ W⟩
set_option maxRecDepth 100000 in
theorem mpair_0 : ∀ (a0 a1 a2 a3 a4 a5 a6 a7 a8 a9 a10 a11 a12 a13 a14 a15 a16 a17 a18 a19 a20 a21 a22 a23 a24 a25 a26 a27 a28 a29 a30 a31 a32 a33 : Value) (w : World), (Instr.index 55 (.agg #[a0, a1, a2, a3, a4, a5, a6, a7, a8, a9, a10, a11, a12, a13, a14, a15, a16, a17, a18, a19, a20, a21, a22, a23, a24, a25, a26, a27, a28, a29, a30, a31, a32, a33]) (.int .i64 0)).run Try.prog w = .ok (.agg #[a0, a1, a2, a3, a4, a5, a6, a7, a8, a9, a10, a11, a12, a13, a14, a15, a16]) w := fun _ _ _ _ _ _ _ _ _ _ _ _ _ _ _ _ _ _ _ _ _ _ _ _ _ _ _ _ _ _ _ _ _ _ _ => by kernel_rfl
set_option maxRecDepth 100000 in
theorem mpair_1 : ∀ (a0 a1 a2 a3 a4 a5 a6 a7 a8 a9 a10 a11 a12 a13 a14 a15 a16 a17 a18 a19 a20 a21 a22 a23 a24 a25 a26 a27 a28 a29 a30 a31 a32 a33 : Value) (w : World), (Instr.index 55 (.agg #[a0, a1, a2, a3, a4, a5, a6, a7, a8, a9, a10, a11, a12, a13, a14, a15, a16, a17, a18, a19, a20, a21, a22, a23, a24, a25, a26, a27, a28, a29, a30, a31, a32, a33]) (.int .i64 1)).run Try.prog w = .ok (.agg #[a17, a18, a19, a20, a21, a22, a23, a24, a25, a26, a27, a28, a29, a30, a31, a32, a33]) w := fun _ _ _ _ _ _ _ _ _ _ _ _ _ _ _ _ _ _ _ _ _ _ _ _ _ _ _ _ _ _ _ _ _ _ _ => by kernel_rfl
theorem mpair_any (a0 a1 a2 a3 a4 a5 a6 a7 a8 a9 a10 a11 a12 a13 a14 a15 a16 a17 a18 a19 a20 a21 a22 a23 a24 a25 a26 a27 a28 a29 a30 a31 a32 a33 : Int) (k : Nat) (hk : k < 2) : ∃ pK_ pD_ pC_ pi_ pp_ pS_ pT_ pP_ pr_ pq_ pa_ pb_ pc_ pv_ pe_ pg_ ps_ : Int, ∀ W, (Instr.index 55 (.agg #[.int .i64 a0, .int .i64 a1, .int .i64 a2, .int .i64 a3, .int .i64 a4, .int .i64 a5, .int .i64 a6, .int .i64 a7, .int .i64 a8, .int .i64 a9, .int .i64 a10, .int .i64 a11, .int .i64 a12, .int .i64 a13, .int .i64 a14, .int .i64 a15, .int .i64 a16, .int .i64 a17, .int .i64 a18, .int .i64 a19, .int .i64 a20, .int .i64 a21, .int .i64 a22, .int .i64 a23, .int .i64 a24, .int .i64 a25, .int .i64 a26, .int .i64 a27, .int .i64 a28, .int .i64 a29, .int .i64 a30, .int .i64 a31, .int .i64 a32, .int .i64 a33]) (.int .i64 (k : Int))).run Try.prog W = .ok (.agg #[.int .i64 pK_, .int .i64 pD_, .int .i64 pC_, .int .i64 pi_, .int .i64 pp_, .int .i64 pS_, .int .i64 pT_, .int .i64 pP_, .int .i64 pr_, .int .i64 pq_, .int .i64 pa_, .int .i64 pb_, .int .i64 pc_, .int .i64 pv_, .int .i64 pe_, .int .i64 pg_, .int .i64 ps_]) W := by
  rcases (show k = 0 ∨ k = 1 by omega) with rfl | rfl
  · exact ⟨_, _, _, _, _, _, _, _, _, _, _, _, _, _, _, _, _, fun W => mpair_0 _ _ _ _ _ _ _ _ _ _ _ _ _ _ _ _ _ _ _ _ _ _ _ _ _ _ _ _ _ _ _ _ _ _ W⟩
  · exact ⟨_, _, _, _, _, _, _, _, _, _, _, _, _, _, _, _, _, fun W => mpair_1 _ _ _ _ _ _ _ _ _ _ _ _ _ _ _ _ _ _ _ _ _ _ _ _ _ _ _ _ _ _ _ _ _ _ W⟩
theorem msL_msg (O C P D i p S : Int) : ∃ oK_ oD_ oC_ oi_ op_ oS_ oT_ oP_ or_ oq_ oa_ ob_ oc_ ov_ oe_ og_ os_ : Int, msL O C P D i p S = mMsg oK_ oD_ oC_ oi_ op_ oS_ oT_ oP_ or_ oq_ oa_ ob_ oc_ ov_ oe_ og_ os_ := by
  unfold msL
  split
  · exact ⟨_, _, _, _, _, _, _, _, _, _, _, _, _, _, _, _, _, rfl⟩
  · exact ⟨_, _, _, _, _, _, _, _, _, _, _, _, _, _, _, _, _, rfl⟩

set_option maxHeartbeats 16000000 in
set_option maxRecDepth 100000 in
theorem passTells_walk (O C P a' b' c' D i p S mK_ mD_ mC_ mi_ mp_ mS_ mT_ mP_ mr_ mq_ ma_ mb_ mc_ mv_ me_ mg_ ms_ dk dd dc dt di do_ dp ds dn db dx0 dx1 dx2 dx3 dv : Int) (hd : DrfOk dk dd dc dt di do_ dp ds dn db dx0 dx1 dx2 dx3 dv) (w : World) :
    Calls Try.prog 5 #[.agg #[.int .i64 O, .int .i64 C, .int .i64 P], .agg #[.int .i64 a', .int .i64 b', .int .i32 c'], .int .i64 D, .agg #[.int .i64 i, .int .i64 p], .int .i64 S, .agg #[.int .i64 mK_, .int .i64 mD_, .int .i64 mC_, .int .i64 mi_, .int .i64 mp_, .int .i64 mS_, .int .i64 mT_, .int .i64 mP_, .int .i64 mr_, .int .i64 mq_, .int .i64 ma_, .int .i64 mb_, .int .i64 mc_, .int .i64 mv_, .int .i64 me_, .int .i64 mg_, .int .i64 ms_], .agg #[.int .u8 dk, .int .u8 dd, .int .i64 dc, .int .i64 dt, .int .u64 di, .int .u64 do_, .int .u16 dp, .int .u16 ds, .int .u16 dn, .int .i32 db, .int .u8 dx0, .int .u8 dx1, .int .u8 dx2, .int .u8 dx3, .int .u16 dv]] w fun y w' => y = .returned (.bool true) ∧ Below w.heap.size w w' := by
  have ha := Lib.hid agg_msg
  have hs := Lib.hid size_msg
  have had := Lib.hid (show ∀ w, (isAgg 51).run Try.prog w = .ok true w from fun w => by kernel_rfl)
  have hsd := Lib.hid (show ∀ w, (sizeOf 51).run Try.prog w = .ok 15 w from fun w => by kernel_rfl)
  obtain ⟨nK_, nD_, nC_, ni_, np_, nS_, nT_, nP_, nr_, nq_, na_, nb_, nc_, nv_, ne_, ng_, ns_, ED⟩ := draftL_msg (sixV (dk % 6)) (dd % 128) (dc.tmod 4398046511105) (di % 281474976710656) (1 + dp % 65535) ds (dt.tmod 4398046511105) (db.tmod 8388609) (do_ % 281474976710656) (1 + dn % 65535) dx0 dx1 dx2 dv dx3 dn
  have HDM := Lib.hid (show ∀ W, Calls Try.prog 23 #[.agg #[.int .u8 dk, .int .u8 dd, .int .i64 dc, .int .i64 dt, .int .u64 di, .int .u64 do_, .int .u16 dp, .int .u16 ds, .int .u16 dn, .int .i32 db, .int .u8 dx0, .int .u8 dx1, .int .u8 dx2, .int .u8 dx3, .int .u16 dv]] W fun e w' => e = .returned (.agg #[.int .i64 nK_, .int .i64 nD_, .int .i64 nC_, .int .i64 ni_, .int .i64 np_, .int .i64 nS_, .int .i64 nT_, .int .i64 nP_, .int .i64 nr_, .int .i64 nq_, .int .i64 na_, .int .i64 nb_, .int .i64 nc_, .int .i64 nv_, .int .i64 ne_, .int .i64 ng_, .int .i64 ns_]) ∧ Below W.heap.size W w' from fun W => by
    have h := draftMsg_any dk dd dc dt di do_ dp ds dn db dx0 dx1 dx2 dx3 dv hd W
    rw [show drfL dk dd dc dt di do_ dp ds dn db dx0 dx1 dx2 dx3 dv = mMsg nK_ nD_ nC_ ni_ np_ nS_ nT_ nP_ nr_ nq_ na_ nb_ nc_ nv_ ne_ ng_ ns_ from ED] at h
    exact h)
  clear ED hd
  go_enter Try.func5, Try.ntmps5
  go_wp2_with fail
  refine (works_any _).mono ?_
  rintro y w1 ⟨rfl, hb1⟩
  have c1 : w1.cell? ⟨w.heap.size, 0, none⟩ = some (.int .i64 O) := below_keep hb1 (by simp [go_sem])
  have c2 : w1.cell? ⟨w.heap.size, 1, none⟩ = some (.int .i64 C) := below_keep hb1 (by simp [go_sem])
  have c3 : w1.cell? ⟨w.heap.size, 2, none⟩ = some (.int .i64 P) := below_keep hb1 (by simp [go_sem])
  have c4 : w1.cell? ⟨w.heap.size + 1, 0, none⟩ = some (.int .i64 a') := below_keep hb1 (by simp [go_sem])
  have c5 : w1.cell? ⟨w.heap.size + 1, 1, none⟩ = some (.int .i64 b') := below_keep hb1 (by simp [go_sem])
  have c6 : w1.cell? ⟨w.heap.size + 1, 2, none⟩ = some (.int .i32 c') := below_keep hb1 (by simp [go_sem])
  have P0 := Lib.hid (show w1.cell? ⟨w.heap.size + 2, 0, none⟩ = some (.int .i64 i) from below_keep hb1 (by simp [go_sem]))
  have P1 := Lib.hid (show w1.cell? ⟨w.heap.size + 2, 1, none⟩ = some (.int .i64 p) from below_keep hb1 (by simp [go_sem]))
  have HM := Lib.hid (show Holds w1 (w.heap.size + 3) (mMsg mK_ mD_ mC_ mi_ mp_ mS_ mT_ mP_ mr_ mq_ ma_ mb_ mc_ mv_ me_ mg_ ms_) from ((holds_alloc _ (mMsg mK_ mD_ mC_ mi_ mp_ mS_ mT_ mP_ mr_ mq_ ma_ mb_ mc_ mv_ me_ mg_ ms_) 46 (by simp)).alloc (by simp) _).keep hb1)
  have HD := Lib.hid (show Holds w1 (w.heap.size + 4) [.int .u8 dk, .int .u8 dd, .int .i64 dc, .int .i64 dt, .int .u64 di, .int .u64 do_, .int .u16 dp, .int .u16 ds, .int .u16 dn, .int .i32 db, .int .u8 dx0, .int .u8 dx1, .int .u8 dx2, .int .u8 dx3, .int .u16 dv] from (holds_alloc _ [.int .u8 dk, .int .u8 dd, .int .i64 dc, .int .i64 dt, .int .u64 di, .int .u64 do_, .int .u16 dp, .int .u16 ds, .int .u16 dn, .int .i32 db, .int .u8 dx0, .int .u8 dx1, .int .u8 dx2, .int .u8 dx3, .int .u16 dv] 51 (by simp)).keep hb1)
  have H1 := Lib.hid (below_step (below_alloc (below_alloc (below_alloc (below_alloc (below_alloc (Below.refl _ _) _) _) _) _) _) hb1)
  clear hb1
  go_wp2
  have r0 := fun p : Regrown => cell_regrown c1 p.d p.os
  have r1 := fun p : Regrown => cell_regrown c2 p.d p.os
  have r2 := fun p : Regrown => cell_regrown c3 p.d p.os
  have r3 := fun p : Regrown => cell_regrown c4 p.d p.os
  have r4 := fun p : Regrown => cell_regrown c5 p.d p.os
  have r5 := fun p : Regrown => cell_regrown c6 p.d p.os
  refine wp_region_quiet_below (by kernel_rfl) (by kernel_rfl) ?_
  repeat (go_big_quiet_step (exact Calls.regrown_of (infoDraft_any a' b' c' _)))
  refine wpQuiet_nil ?_
  intro wq hw
  have HQ := Lib.hid (show Below w1.heap.size w1 wq by obtain ⟨p, rfl⟩ := hw; exact below_regrown _ _ _)
  clear hw r0 r1 r2 r3 r4 r5 c1 c2 c3 c4 c5 c6
  go_wp2
  generalize a'.tmod 4398046511105 = dO
  generalize b'.tmod 4398046511105 = dC
  generalize c'.tmod 8388609 = dP
  go_loopw [33] (fun i wr => ∃ k : Nat, k ≤ 2 ∧ i = .int .i64 k ∧ Below w1.heap.size w1 wr) (fun i _ => 2 - (RowKit.intOf i).toNat)
  case atStart => exact ⟨0, by omega, rfl, HQ.out⟩
  case round =>
    clear HQ
    obtain ⟨k, hk, rfl, hB⟩ := hrel
    have HB := Lib.hid hB
    clear hB
    by_cases hlt : k < 2
    · clear HM HD HDM
      obtain ⟨x0, x1, x2, hi⟩ := ipair_any O C P dO dC dP k hlt
      obtain ⟨oK_, oD_, oC_, oi_, op_, oS_, oT_, oP_, or_, oq_, oa_, ob_, oc_, ov_, oe_, og_, os_, el⟩ := msL_msg x0 x1 x2 D i p S
      have EL := Lib.hid el
      clear el
      have q0 : wr.cell? ⟨w.heap.size + 2, 0, none⟩ = some (.int .i64 i) := below_keep HB.out P0.out
      have q1 : wr.cell? ⟨w.heap.size + 2, 1, none⟩ = some (.int .i64 p) := below_keep HB.out P1.out
      have z0 : w.heap.size + 2 < wr.heap.size := World.block_lt_of_cell? _ _ q0
      go_wp2_with fail
      refine (message_any x0 x1 x2 D i p S _).mono ?_
      rw [EL.out]
      generalize hse : msE x0 x1 x2 D i p S = se
      have SE := Lib.hid hse
      clear hse
      rintro y w2 ⟨rfl, hb2⟩
      have k0 : w2.cell? ⟨wr.heap.size, 0, none⟩ = some (.int .i64 x0) := below_keep hb2 (by simp [go_sem])
      have k1 : w2.cell? ⟨wr.heap.size, 1, none⟩ = some (.int .i64 x1) := below_keep hb2 (by simp [go_sem])
      have k2 : w2.cell? ⟨wr.heap.size, 2, none⟩ = some (.int .i64 x2) := below_keep hb2 (by simp [go_sem])
      have q2 : w2.cell? ⟨w.heap.size + 2, 0, none⟩ = some (.int .i64 i) := below_keep hb2 (by rw [World.cell?_alloc_lt _ _ _ z0]; exact q0)
      have q3 : w2.cell? ⟨w.heap.size + 2, 1, none⟩ = some (.int .i64 p) := below_keep hb2 (by rw [World.cell?_alloc_lt _ _ _ z0]; exact q1)
      have H2 := Lib.hid (below_step (below_alloc HB.out _) hb2)
      have z2 : wr.heap.size < w2.heap.size := World.block_lt_of_cell? _ _ k0
      have z1 : w.heap.size + 2 < w2.heap.size := World.block_lt_of_cell? _ _ q2
      have z3 := H2.out.size
      clear hb2 q0 q1 HB hi
      go_wp2_with (((with_reducible refine at_store 46 (.tmp 17) (.tmp 42) ?_); refine wpList_store_whole rfl (.tmp 17) (.tmp 42) 46 rfl w2.heap.size 0 (mMsg oK_ oD_ oC_ oi_ op_ oS_ oT_ oP_ or_ oq_ oa_ ob_ oc_ ov_ oe_ og_ os_) rfl rfl hs.out (fun j hj => (holds_alloc _ z17 46 (by simp)).some j (by simpa [z17, mMsg] using hj)) (fun j _ => frozen_new _ _ _ _ (by simp)) (mMsg_one _ _ _ _ _ _ _ _ _ _ _ _ _ _ _ _ _) ?_; intro w3 hw3; have l0 : w3.cell? ⟨wr.heap.size, 0, none⟩ = some (.int .i64 x0) := (hw3.far _ _ (by omega)).trans (by rw [World.cell?_alloc_lt _ _ _ z2]; exact k0); have l1 : w3.cell? ⟨wr.heap.size, 1, none⟩ = some (.int .i64 x1) := (hw3.far _ _ (by omega)).trans (by rw [World.cell?_alloc_lt _ _ _ z2]; exact k1); have l2 : w3.cell? ⟨wr.heap.size, 2, none⟩ = some (.int .i64 x2) := (hw3.far _ _ (by omega)).trans (by rw [World.cell?_alloc_lt _ _ _ z2]; exact k2); have l3 : w3.cell? ⟨w.heap.size + 2, 0, none⟩ = some (.int .i64 i) := (hw3.far _ _ (by omega)).trans (by rw [World.cell?_alloc_lt _ _ _ z1]; exact q2); have l4 : w3.cell? ⟨w.heap.size + 2, 1, none⟩ = some (.int .i64 p) := (hw3.far _ _ (by omega)).trans (by rw [World.cell?_alloc_lt _ _ _ z1]; exact q3)))
      refine (rMessage_any x0 x1 x2 D i p S _).mono ?_
      rw [EL.out, SE.out]
      rintro y w4 ⟨rfl, hb4⟩
      have H4 := Lib.hid (below_step (hw3.below _ _ z3 (below_alloc H2.out _)) hb4)
      have HM4 := Lib.hid (show Holds w4 w2.heap.size (mMsg oK_ oD_ oC_ oi_ op_ oS_ oT_ oP_ or_ oq_ oa_ ob_ oc_ ov_ oe_ og_ os_) from Holds.keep hw3.here hb4)
      have z4 : w2.heap.size < w4.heap.size := World.block_lt_of_cell? _ _ (HM4.out 0 _ rfl)
      have z5 := H4.out.size
      clear hb4 hw3 k0 k1 k2 l0 l1 l2 l3 l4 q2 q3 H2
      have hne := fun W => (msg_neq_any oK_ oD_ oC_ oi_ op_ oS_ oT_ oP_ or_ oq_ oa_ ob_ oc_ ov_ oe_ og_ os_ oT_ oP_ or_ oq_ oa_ ob_ oc_ ov_ oe_ og_ os_ W).trans (by rw [decide_eq_true (by refine ⟨rfl, rfl, rfl, rfl, rfl, rfl, rfl, rfl, rfl, rfl, rfl⟩), Bool.not_true])
      go_wp2_with (first | ((with_reducible refine at_store 46 (.tmp 19) (.tmp 50) ?_); refine wpList_store_whole rfl (.tmp 19) (.tmp 50) 46 rfl w4.heap.size 0 (mMsg oK_ oD_ oC_ oi_ op_ oS_ oT_ oP_ or_ oq_ oa_ ob_ oc_ ov_ oe_ og_ os_) rfl rfl hs.out (fun j hj => (holds_alloc _ z17 46 (by simp)).some j (by simpa [z17, mMsg] using hj)) (fun j _ => frozen_new _ _ _ _ (by simp)) (mMsg_one _ _ _ _ _ _ _ _ _ _ _ _ _ _ _ _ _) ?_; intro w5 hw5; have HM5 := Lib.hid (Holds.wrote (HM4.out.alloc z4 _) hw5 (by omega))) | ((with_reducible refine at_load 46 (.tmp 17) ?_); refine wpList_load_whole rfl (.tmp 17) 46 rfl w2.heap.size 0 (mMsg oK_ oD_ oC_ oi_ op_ oS_ oT_ oP_ or_ oq_ oa_ ob_ oc_ ov_ oe_ og_ os_) rfl ha.out hs.out HM5.out ?_) | ((with_reducible refine at_load 46 (.tmp 19) ?_); refine wpList_load_whole rfl (.tmp 19) 46 rfl w4.heap.size 0 (mMsg oK_ oD_ oC_ oi_ op_ oS_ oT_ oP_ or_ oq_ oa_ ob_ oc_ ov_ oe_ og_ os_) rfl ha.out hs.out hw5.here ?_))
      go_roundw
      case rel => exact ⟨k + 1, by omega, by go_num, hw5.below _ _ z5 (below_alloc H4.out _)⟩
      case measure => simp [RowKit.intOf]; omega
    · have HMr := Lib.hid (HM.out.keep HB.out)
      have HDr := Lib.hid (HD.out.keep HB.out)
      have HR := Lib.hid (below_step H1.out HB.out)
      clear HM HD HB P0 P1 H1
      go_wp2
      refine wp_region_quiet_below (by kernel_rfl) (by kernel_rfl) ?_
      refine wpQuiet_load_whole rfl (.tmp 12) 46 rfl (w.heap.size + 3) 0 (mMsg mK_ mD_ mC_ mi_ mp_ mS_ mT_ mP_ mr_ mq_ ma_ mb_ mc_ mv_ me_ mg_ ms_) rfl ha.out hs.out (holds_regrown HMr.out) ?_
      refine wpQuiet_load_whole rfl (.tmp 13) 51 rfl (w.heap.size + 4) 0 [.int .u8 dk, .int .u8 dd, .int .i64 dc, .int .i64 dt, .int .u64 di, .int .u64 do_, .int .u16 dp, .int .u16 ds, .int .u16 dn, .int .i32 db, .int .u8 dx0, .int .u8 dx1, .int .u8 dx2, .int .u8 dx3, .int .u16 dv] rfl had.out hsd.out (holds_regrown HDr.out) ?_
      simp only [Act.put, mMsg, List.setIfInBounds_toArray, List.set_cons_succ, List.set_cons_zero]
      repeat (go_big_quiet_step (exact Calls.regrown_of (HDM.out _)))
      refine wpQuiet_nil ?_
      intro wz hw
      have HZ := Lib.hid (below_step HR.out (show Below wr.heap.size wr wz by obtain ⟨p, rfl⟩ := hw; exact below_regrown _ _ _))
      clear hw HMr HDr HR HDM had hsd
      go_wp2
      go_loopw [65] (fun i wr => ∃ k : Nat, k ≤ 2 ∧ i = .int .i64 k ∧ Below w.heap.size w wr) (fun i _ => 2 - (RowKit.intOf i).toNat)
      case atStart => exact ⟨0, by omega, rfl, HZ.out⟩
      case round =>
        clear HZ
        obtain ⟨j, hj, rfl, hV⟩ := hrel
        have HV := Lib.hid hV
        clear hV
        by_cases hlj : j < 2
        · obtain ⟨pK_, pD_, pC_, pi_, pp_, pS_, pT_, pP_, pr_, pq_, pa_, pb_, pc_, pv_, pe_, pg_, ps_, hi⟩ := mpair_any mK_ mD_ mC_ mi_ mp_ mS_ mT_ mP_ mr_ mq_ ma_ mb_ mc_ mv_ me_ mg_ ms_ nK_ nD_ nC_ ni_ np_ nS_ nT_ nP_ nr_ nq_ na_ nb_ nc_ nv_ ne_ ng_ ns_ j hlj
          have zV := HV.out.size
          go_wp2_with (first | ((with_reducible refine at_store 46 (.tmp 22) (.tmp 67) ?_); refine wpList_store_whole rfl (.tmp 22) (.tmp 67) 46 rfl wr.heap.size 0 (mMsg pK_ pD_ pC_ pi_ pp_ pS_ pT_ pP_ pr_ pq_ pa_ pb_ pc_ pv_ pe_ pg_ ps_) rfl rfl hs.out (fun j hj => (holds_alloc _ z17 46 (by simp)).some j (by simpa [z17, mMsg] using hj)) (fun j _ => frozen_new _ _ _ _ (by simp)) (mMsg_one _ _ _ _ _ _ _ _ _ _ _ _ _ _ _ _ _) ?_; intro w2 hw2) | ((with_reducible refine at_load 46 (.tmp 22) ?_); refine wpList_load_whole rfl (.tmp 22) 46 rfl wr.heap.size 0 (mMsg pK_ pD_ pC_ pi_ pp_ pS_ pT_ pP_ pr_ pq_ pa_ pb_ pc_ pv_ pe_ pg_ ps_) rfl ha.out hs.out hw2.here ?_))
          refine (of_any pK_ pD_ pC_ pi_ pp_ pS_ pT_ pP_ pr_ pq_ pa_ pb_ pc_ pv_ pe_ pg_ ps_ _).mono ?_
          generalize hy0 : selV (ofB pK_ pD_ pC_ pi_ pp_ pS_ pT_ pP_ pr_ pq_ pa_ pb_ pc_ pv_ pe_ pg_ ps_) pT_ = s0
          generalize hy1 : selV (ofB pK_ pD_ pC_ pi_ pp_ pS_ pT_ pP_ pr_ pq_ pa_ pb_ pc_ pv_ pe_ pg_ ps_) pC_ = s1
          generalize hy2 : selV (ofB pK_ pD_ pC_ pi_ pp_ pS_ pT_ pP_ pr_ pq_ pa_ pb_ pc_ pv_ pe_ pg_ ps_) pP_ = s2
          generalize hy3 : selE (ofB pK_ pD_ pC_ pi_ pp_ pS_ pT_ pP_ pr_ pq_ pa_ pb_ pc_ pv_ pe_ pg_ ps_) = s3
          have Y0 := Lib.hid hy0
          have Y1 := Lib.hid hy1
          have Y2 := Lib.hid hy2
          have Y3 := Lib.hid hy3
          clear hy0 hy1 hy2 hy3
          rintro y w3 ⟨rfl, hb3⟩
          have H3 := Lib.hid (below_step (hw2.below _ _ zV (below_alloc HV.out _)) hb3)
          have HM3 := Lib.hid (show Holds w3 wr.heap.size (mMsg pK_ pD_ pC_ pi_ pp_ pS_ pT_ pP_ pr_ pq_ pa_ pb_ pc_ pv_ pe_ pg_ ps_) from Holds.keep hw2.here hb3)
          have z6 : wr.heap.size < w3.heap.size := World.block_lt_of_cell? _ _ (HM3.out 0 _ rfl)
          clear hb3 hw2 HV hi
          go_wp2_with (((with_reducible refine at_load 46 (.tmp 22) ?_); refine wpList_load_whole rfl (.tmp 22) 46 rfl wr.heap.size 0 (mMsg pK_ pD_ pC_ pi_ pp_ pS_ pT_ pP_ pr_ pq_ pa_ pb_ pc_ pv_ pe_ pg_ ps_) rfl ha.out hs.out (HM3.out.alloc z6 _) ?_))
          refine (rOf_any pK_ pD_ pC_ pi_ pp_ pS_ pT_ pP_ pr_ pq_ pa_ pb_ pc_ pv_ pe_ pg_ ps_ _).mono ?_
          rw [Y0.out, Y1.out, Y2.out, Y3.out]
          rintro y w4 ⟨rfl, hb4⟩
          have b0 : w4.cell? ⟨w3.heap.size, 0, none⟩ = some (.int .i64 s0) := below_keep hb4 (by simp [go_sem])
          have b1 : w4.cell? ⟨w3.heap.size, 1, none⟩ = some (.int .i64 s1) := below_keep hb4 (by simp [go_sem])
          have b2 : w4.cell? ⟨w3.heap.size, 2, none⟩ = some (.int .i64 s2) := below_keep hb4 (by simp [go_sem])
          have H4 := Lib.hid (below_step (below_alloc H3.out _) hb4)
          have z7 : w3.heap.size < w4.heap.size := World.block_lt_of_cell? _ _ b0
          clear hb4 H3 HM3
          go_wp2
          go_roundw
          case rel => exact ⟨j + 1, by omega, by go_num, below_alloc H4.out _⟩
          case measure => simp [RowKit.intOf]; omega
        · go_wp2
          go_ret
          exact ⟨rfl, HV.out⟩

set_option maxRecDepth 100000 in
theorem passTells_lifted (os : Os) (started : os.Started) (H : Type) (enc : TypeId × Value → H) :
    ReturnsInHanded {} Try.checked os 5 .any (Rows.passTellsSpec.pre6 enc Try.prog Try.f5 [] false) (Rows.passTellsSpec.post enc Try.prog Try.f5 false true false false) := by
  refine law_lifted started Try.func5 (by kernel_rfl)
    (ChangeSpec.witness6 (enc := enc) (C := Try.checked) false ⟨#[], #[.agg #[.int .i64 0, .int .i64 0, .int .i64 0], .agg #[.int .i64 0, .int .i64 0, .int .i32 0], .int .i64 0, .agg #[.int .i64 0, .int .i64 0], .int .i64 0, .agg #[.int .i64 0, .int .i64 0, .int .i64 0, .int .i64 0, .int .i64 0, .int .i64 0, .int .i64 0, .int .i64 0, .int .i64 0, .int .i64 0, .int .i64 0, .int .i64 0, .int .i64 0, .int .i64 0, .int .i64 0, .int .i64 0, .int .i64 0], .agg #[.int .u8 0, .int .u8 0, .int .i64 0, .int .i64 0, .int .u64 0, .int .u64 0, .int .u16 0, .int .u16 0, .int .u16 0, .int .i32 0, .int .u8 0, .int .u8 0, .int .u8 0, .int .u8 0, .int .u16 0]], []⟩ 8 (by kernel_rfl) (by kernel_rfl) (by kernel_rfl) (by kernel_rfl))
    rfl (by kernel_rfl) (by kernel_rfl) (fun ds hd => ?_) ?_
  · rw [Try.params5] at hd
    match ds, hd with
    | [_, _, _, _, _, _, _], _ => exact ⟨rfl, rfl, rfl⟩
  · intro W base args ds p hval hA
    rw [Try.params5] at hA hval
    obtain ⟨v0, vs0, d0, ds0, p0, q0, ha0, rfl, rfl, h0, r0⟩ := trodAll_cons hA
    obtain ⟨v1, vs1, d1, ds1, p1, q1, ha1, rfl, rfl, h1, r1⟩ := trodAll_cons r0
    obtain ⟨v2, vs2, d2, ds2, p2, q2, ha2, rfl, rfl, h2, r2⟩ := trodAll_cons r1
    obtain ⟨v3, vs3, d3, ds3, p3, q3, ha3, rfl, rfl, h3, r3⟩ := trodAll_cons r2
    obtain ⟨v4, vs4, d4, ds4, p4, q4, ha4, rfl, rfl, h4, r4⟩ := trodAll_cons r3
    obtain ⟨v5, vs5, d5, ds5, p5, q5, ha5, rfl, rfl, h5, r5⟩ := trodAll_cons r4
    obtain ⟨v6, vs6, d6, ds6, p6, q6, ha6, rfl, rfl, h6, r6⟩ := trodAll_cons r5
    obtain ⟨hz, rfl, rfl⟩ := trodAll_nil r6
    obtain rfl : args = #[v0, v1, v2, v3, v4, v5, v6] := by
      subst hz
      subst ha6
      subst ha5
      subst ha4
      subst ha3
      subst ha2
      subst ha1
      cases args; simpa using ha0
    obtain ⟨x0_0, x0_1, x0_2, rfl⟩ := open_info (hval 0 23 v0 rfl rfl) h0
    obtain ⟨x1_0, x1_1, x1_2, rfl⟩ := open_draft14 (hval 1 25 v1 rfl rfl) h1
    obtain ⟨x2, rfl, rfl, rfl, w2⟩ := open_int Try.underlying3 (hval 2 3 v2 rfl rfl) h2
    obtain ⟨x3_0, x3_1, rfl, _⟩ := open_pid (hval 3 42 v3 rfl rfl) h3
    obtain ⟨x4, rfl, rfl, rfl, w4⟩ := open_int Try.underlying3 (hval 4 3 v4 rfl rfl) h4
    obtain ⟨x5_0, x5_1, x5_2, x5_3, x5_4, x5_5, x5_6, x5_7, x5_8, x5_9, x5_10, x5_11, x5_12, x5_13, x5_14, x5_15, x5_16, rfl, _⟩ := open_msg (hval 5 46 v5 rfl rfl) h5
    obtain ⟨x6_0, x6_1, x6_2, x6_3, x6_4, x6_5, x6_6, x6_7, x6_8, x6_9, x6_10, x6_11, x6_12, x6_13, x6_14, rfl, w6⟩ := open_draft10 (hval 6 51 v6 rfl rfl) h6
    exact passTells_walk x0_0 x0_1 x0_2 x1_0 x1_1 x1_2 x2 x3_0 x3_1 x4 x5_0 x5_1 x5_2 x5_3 x5_4 x5_5 x5_6 x5_7 x5_8 x5_9 x5_10 x5_11 x5_12 x5_13 x5_14 x5_15 x5_16 x6_0 x6_1 x6_2 x6_3 x6_4 x6_5 x6_6 x6_7 x6_8 x6_9 x6_10 x6_11 x6_12 x6_13 x6_14 w6 W

theorem passTells_holds : Rows.PassTellsSaid :=
  OpenClaim.holds_of_wide 5 Try.f5 rfl rfl rfl rfl rfl rfl rfl ⟨rfl, rfl, rfl, rfl, rfl⟩ rfl rfl rfl rfl rfl (by kernel_rfl) Try.func5 (by kernel_rfl)
    (of_decide_eq_true (by kernel_rfl)) (by unfold Func.isWrapper; first | (rw [if_pos (by decide +kernel)]; kernel_rfl) | (rw [if_neg (by decide +kernel)]; exact ⟨rfl, rfl⟩))
    (fun os started H enc _ => passTells_lifted os started H enc)
#print axioms passTells_holds

end Go.Proofs.Ytkbadnehngogjaa
