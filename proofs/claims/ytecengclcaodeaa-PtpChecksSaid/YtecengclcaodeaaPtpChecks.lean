/-
  PtpChecks: for every input the law returns true, and its arguments read as before. No conditions.
-/
import Derived.Test.YtecengclcaodeaaChk10
import Derived.Test.YtecengclcaodeaaWork10
import Derived.Test.YtecengclcaodeaaAt
import Derived.Test.YtecengclcaodeaaDraft2
import Derived.Test.YtecengclcaodeaaOpenMas
import Derived.Test.YtecengclcaodeaaLift
namespace Go.Proofs.Ytecengclcaodeaa
open Go.RowKit Go.Lib Plain
open Go.ChangeShapes Go.WideShapes Go.ChangeAt

theorem rsize_any (K : Int) (w : World) : Calls Try.prog 14 #[.int .i64 K] w fun e w' => e = .returned (.int .i64 (sizeV K)) ∧ w = w' := by
  by_cases k0 : K = 0
  · subst k0; exact rsize_0 w
  by_cases k2 : K = 2
  · subst k2; exact rsize_2 w
  by_cases k3 : K = 3
  · subst k3; exact rsize_3 w
  by_cases k8 : K = 8
  · subst k8; exact rsize_8 w
  by_cases k10 : K = 10
  · subst k10; exact rsize_10 w
  by_cases k11 : K = 11
  · subst k11; exact rsize_11 w
  have e : sizeV K = 0 := by
    unfold sizeV
    rw [if_neg (fun h => h.elim k0 k2), if_neg (fun h => h.elim k3 k10), if_neg k8, if_neg k11]
  rw [e]
  exact rsize_other K w k0 k2 k3 k8 k10 k11
theorem one_map (N : List Int) : ∀ v ∈ N.map (Value.int .i64), v.oneCell' = true := by
  intro v hv
  obtain ⟨x, _, rfl⟩ := List.mem_map.1 hv
  rfl
theorem mas_pair (a b c v e g : Int) : ∃ r : Bool, (∀ W, Calls Try.prog 11 #[.agg #[.int .i64 a, .int .i64 b, .int .i64 c, .int .i64 v, .int .i64 e, .int .i64 g]] W fun y w' => y = .returned (.bool r) ∧ Below W.heap.size W w') ∧
    (∀ W, Calls Try.prog 12 #[.agg #[.int .i64 a, .int .i64 b, .int .i64 c, .int .i64 v, .int .i64 e, .int .i64 g]] W fun y w' => y = .returned (.int .i64 (if r = true then 0 else 201)) ∧ Below W.heap.size W w') := by
  refine ⟨_, fun W => rMaster_any a b c v e g W, fun W => ?_⟩
  have h := checkMaster_any a b c v e g W
  have e1 : masE a b c v e g = if masB a b c v e g = true then 0 else 201 := by
    unfold masE masB
    by_cases hm : MasterOk a b c v e g
    · rw [if_pos hm, if_pos (decide_eq_true hm)]
    · rw [if_neg hm, if_neg (by rw [decide_eq_false hm]; decide)]
  rw [e1] at h
  exact h

set_option maxHeartbeats 8000000 in
set_option maxRecDepth 100000 in
theorem ptpChecks_walk (w : World) (M : List Int) (hM : M.length = 17) (dk dd dc dt di do_ dp ds dn db dx0 dx1 dx2 dx3 dv : Int) (hd : DrfOk dk dd dc dt di do_ dp ds dn db dx0 dx1 dx2 dx3 dv) (a b c v e g n : Int) :
    Calls Try.prog 3 #[.agg (msgA M), .agg #[.int .u8 dk, .int .u8 dd, .int .i64 dc, .int .i64 dt, .int .u64 di, .int .u64 do_, .int .u16 dp, .int .u16 ds, .int .u16 dn, .int .i32 db, .int .u8 dx0, .int .u8 dx1, .int .u8 dx2, .int .u8 dx3, .int .u16 dv], .agg #[.int .i64 a, .int .i64 b, .int .i64 c, .int .i64 v, .int .i64 e, .int .i64 g], .int .i64 n] w fun y w' => y = .returned (.bool true) ∧ Below w.heap.size w w' := by
  have had := Lib.hid (show ∀ w, (isAgg 32).run Try.prog w = .ok true w from fun w => by kernel_rfl)
  have hsd := Lib.hid (show ∀ w, (sizeOf 32).run Try.prog w = .ok 15 w from fun w => by kernel_rfl)
  have ham := Lib.hid (show ∀ w, (isAgg 25).run Try.prog w = .ok true w from fun w => by kernel_rfl)
  have hsm := Lib.hid (show ∀ w, (sizeOf 25).run Try.prog w = .ok 6 w from fun w => by kernel_rfl)
  have ha := Lib.hid agg_msg
  have hs := Lib.hid (show ∀ w, (sizeOf 27).run Try.prog w = .ok (M.map (Value.int .i64)).length w from fun w => by rw [List.length_map, hM]; exact size_msg w)
  obtain ⟨K, R, L, n1, b1, lo, up, sz, m1, e1, d1, f1, g0⟩ := drf_enc dk dd dc dt di do_ dp ds dn db dx0 dx1 dx2 dx3 dv hd
  have HC0 := Lib.hid (fun W => checks_any hM W)
  have HC1 := Lib.hid (fun W => checks_any n1 W)
  have HM1 := Lib.hid m1
  have HBn := Lib.hid (fun W => bent_any n1 n W)
  have HIx := Lib.hid (fun k hk => ix_any n1 n k hk)
  clear g0 d1 f1 sz hd m1 e1 lo up b1
  change Hid (∀ W, Calls Try.prog 15 #[.agg (msgA (K :: R)), .int .i64 n] W _) at HBn
  generalize msgA (K :: R) = A1 at *
  generalize ((bentM (K :: R) n).flatten.map (Value.int .i64)).toArray = B1 at *
  clear n1
  unfold msgA at *
  generalize M.map (Value.int .i64) = L0 at *
  clear hM
  obtain ⟨r, hm1, hm2⟩ := mas_pair a b c v e g
  have HMr := Lib.hid hm1
  have HMc := Lib.hid hm2
  clear hm1 hm2
  go_enter Try.func3, Try.ntmps3
  go_upto_region 1 with fail
  refine wp_world ?_
  intro V hV
  have J0 := Lib.hid (show Holds V w.heap.size L0 by subst hV; exact ((holds_alloc w L0 27 rfl).alloc (by simp) _).alloc (by simp; omega) _)
  have J1 := Lib.hid (show Holds V (w.heap.size + 1) [.int .u8 dk, .int .u8 dd, .int .i64 dc, .int .i64 dt, .int .u64 di, .int .u64 do_, .int .u16 dp, .int .u16 ds, .int .u16 dn, .int .i32 db, .int .u8 dx0, .int .u8 dx1, .int .u8 dx2, .int .u8 dx3, .int .u16 dv] by subst hV; exact (holds_alloc _ [.int .u8 dk, .int .u8 dd, .int .i64 dc, .int .i64 dt, .int .u64 di, .int .u64 do_, .int .u16 dp, .int .u16 ds, .int .u16 dn, .int .i32 db, .int .u8 dx0, .int .u8 dx1, .int .u8 dx2, .int .u8 dx3, .int .u16 dv] 32 (by simp)).alloc (by simp) _)
  have J2 := Lib.hid (show Holds V (w.heap.size + 2) [.int .i64 a, .int .i64 b, .int .i64 c, .int .i64 v, .int .i64 e, .int .i64 g] by subst hV; exact holds_alloc _ [.int .i64 a, .int .i64 b, .int .i64 c, .int .i64 v, .int .i64 e, .int .i64 g] 25 (by simp))
  have HV := Lib.hid (show Below w.heap.size w V by subst hV; exact below_alloc (below_alloc (below_alloc (Below.refl _ _) _) _) _)
  clear hV
  go_wp2_with fail
  refine (works10_any _).mono ?_
  rintro q w1 ⟨rfl, hb1⟩
  have A0 := Lib.hid (J0.out.keep hb1)
  have A1_ := Lib.hid (J1.out.keep hb1)
  have A2 := Lib.hid (J2.out.keep hb1)
  have H1 := Lib.hid (below_step HV.out hb1)
  clear hb1 J0 J1 J2 HV
  go_wp2_with ((with_reducible refine at_load 25 (.tmp 6) ?_); refine wpList_load_whole rfl (.tmp 6) 25 rfl (w.heap.size + 2) 0 [.int .i64 a, .int .i64 b, .int .i64 c, .int .i64 v, .int .i64 e, .int .i64 g] rfl ham.out hsm.out A2.out ?_; simp only [Act.put, List.setIfInBounds_toArray, List.set_cons_succ, List.set_cons_zero])
  refine (HMr.out _).mono ?_
  rintro q w2 ⟨rfl, hb2⟩
  have B0 := Lib.hid (A0.out.keep hb2)
  have B1_ := Lib.hid (A1_.out.keep hb2)
  have B2 := Lib.hid (A2.out.keep hb2)
  have H2 := Lib.hid (below_step H1.out hb2)
  clear hb2 A0 A1_ A2 H1
  cases r
  · go_wp2_with ((with_reducible refine at_load 25 (.tmp 6) ?_); refine wpList_load_whole rfl (.tmp 6) 25 rfl (w.heap.size + 2) 0 [.int .i64 a, .int .i64 b, .int .i64 c, .int .i64 v, .int .i64 e, .int .i64 g] rfl ham.out hsm.out B2.out ?_; simp only [Act.put, List.setIfInBounds_toArray, List.set_cons_succ, List.set_cons_zero])
    refine (HMc.out _).mono ?_
    rintro q w3 ⟨rfl, hb3⟩
    have C0 := Lib.hid (B0.out.keep hb3)
    have C1 := Lib.hid (B1_.out.keep hb3)
    have C2 := Lib.hid (B2.out.keep hb3)
    have H3 := Lib.hid (below_step H2.out hb3)
    clear hb3 B0 B1_ B2 H2
    go_wp2_with ((with_reducible refine at_load 25 (.tmp 6) ?_); refine wpList_load_wanted (by rfl) (.tmp 6) 25 rfl (w.heap.size + 2) 0 [.int .i64 a, .int .i64 b, .int .i64 c, .int .i64 v, .int .i64 e, .int .i64 g] rfl ham.out hsm.out C2.out ?_; simp only [Act.put, List.setIfInBounds_toArray, List.set_cons_succ, List.set_cons_zero])
    refine (HMc.out _).mono ?_
    rintro q w4 ⟨rfl, hb4⟩
    have E0 := Lib.hid (C0.out.keep hb4)
    have E1 := Lib.hid (C1.out.keep hb4)
    have H4 := Lib.hid (below_step H3.out hb4)
    clear hb4 C0 C1 C2 H3 HMc HMr
    go_wp2_with fail
    refine (size_any n _).mono ?_
    rintro q w5 ⟨rfl, hb5⟩
    have F0 := Lib.hid (E0.out.keep hb5)
    have F1 := Lib.hid (E1.out.keep hb5)
    have H5 := Lib.hid (below_step H4.out hb5)
    clear hb5 E0 E1 H4
    go_wp2_with fail
    refine (rsize_any n _).mono ?_
    rintro q w6 ⟨rfl, rfl⟩
    go_wp2_with fail
    go_loopw [10] (fun i wr => ∃ k : Nat, k ≤ 17 ∧ i = .int .i64 ((k : Int) - 1) ∧ Holds wr w.heap.size L0 ∧ Holds wr (w.heap.size + 1) [.int .u8 dk, .int .u8 dd, .int .i64 dc, .int .i64 dt, .int .u64 di, .int .u64 do_, .int .u16 dp, .int .u16 ds, .int .u16 dn, .int .i32 db, .int .u8 dx0, .int .u8 dx1, .int .u8 dx2, .int .u8 dx3, .int .u16 dv] ∧ Below w.heap.size w wr) (fun i _ => 17 - (RowKit.intOf i + 1).toNat)
    case atStart => exact ⟨0, by omega, rfl, F0.out, F1.out, H5.out⟩
    case round =>
      obtain ⟨k, hk, rfl, g0, g1, g2⟩ := hrel
      have G0 := Lib.hid g0
      have G1 := Lib.hid g1
      have G2 := Lib.hid g2
      clear g0 g1 g2
      by_cases hlt : k < 17
      · go_wp2_with fail
        refine (size_any _ _).mono ?_
        rintro q w7 ⟨rfl, hb7⟩
        have K0 := Lib.hid (G0.out.keep hb7)
        have K1 := Lib.hid (G1.out.keep hb7)
        have K2 := Lib.hid (below_step G2.out hb7)
        clear hb7 G0 G1 G2
        go_wp2_with fail
        refine (rsize_any _ _).mono ?_
        rintro q w8 ⟨rfl, rfl⟩
        go_wp2
        go_roundw
        case rel => exact ⟨k + 1, by omega, int_eq (by omega), K0.out, K1.out, K2.out⟩
        case measure => simp [RowKit.intOf]; omega
      · clear F0 F1 H5
        go_wp2_with ((with_reducible refine at_load 32 (.tmp 5) ?_); refine wpList_load_whole rfl (.tmp 5) 32 rfl (w.heap.size + 1) 0 [.int .u8 dk, .int .u8 dd, .int .i64 dc, .int .i64 dt, .int .u64 di, .int .u64 do_, .int .u16 dp, .int .u16 ds, .int .u16 dn, .int .i32 db, .int .u8 dx0, .int .u8 dx1, .int .u8 dx2, .int .u8 dx3, .int .u16 dv] rfl had.out hsd.out G1.out ?_; simp only [Act.put, List.setIfInBounds_toArray, List.set_cons_succ, List.set_cons_zero])
        refine (HM1.out _).mono ?_
        rintro q w9 ⟨rfl, hb9⟩
        have K0 := Lib.hid (G0.out.keep hb9)
        have K1 := Lib.hid (G1.out.keep hb9)
        have K2 := Lib.hid (below_step G2.out hb9)
        clear hb9 G0 G1 G2
        go_wp2_with fail
        refine (HBn.out _).mono ?_
        rintro q w10 ⟨rfl, hb10⟩
        have P0 := Lib.hid (K0.out.keep hb10)
        have P1 := Lib.hid (K1.out.keep hb10)
        have P2 := Lib.hid (below_step K2.out hb10)
        clear hb10 K0 K1 K2
        go_wp2_with fail
        go_loopw [51] (fun i wr => ∃ k : Nat, k ≤ 12 ∧ i = .int .i64 (k : Int) ∧ Holds wr w.heap.size L0 ∧ Holds wr (w.heap.size + 1) [.int .u8 dk, .int .u8 dd, .int .i64 dc, .int .i64 dt, .int .u64 di, .int .u64 do_, .int .u16 dp, .int .u16 ds, .int .u16 dn, .int .i32 db, .int .u8 dx0, .int .u8 dx1, .int .u8 dx2, .int .u8 dx3, .int .u16 dv] ∧ Below w.heap.size w wr) (fun i _ => 12 - (RowKit.intOf i).toNat)
        case atStart => exact ⟨0, by omega, rfl, P0.out, P1.out, P2.out⟩
        case round =>
          obtain ⟨k, hk, rfl, g0, g1, g2⟩ := hrel
          have G0 := Lib.hid g0
          have G1 := Lib.hid g1
          have G2 := Lib.hid g2
          clear g0 g1 g2 P0 P1 P2
          by_cases hlt : k < 12
          · obtain ⟨N, hN, hi⟩ := HIx.out k hlt
            have HCk := Lib.hid (fun W => checks_any hN W)
            have hs1 := Lib.hid (show ∀ w, (sizeOf 27).run Try.prog w = .ok (N.map (Value.int .i64)).length w from fun w => by rw [List.length_map, hN]; exact size_msg w)
            have hl1 : (N.map (Value.int .i64)).length = 17 := by rw [List.length_map, hN]
            have ho1 := Lib.hid (one_map N)
            unfold msgA at *
            generalize N.map (Value.int .i64) = L1 at *
            clear hN
            have y1 : w.heap.size + 1 < wr.heap.size := World.block_lt_of_cell? _ _ (G1.out 0 _ rfl)
            have y0 : w.heap.size < wr.heap.size := by omega
            have z1 := G2.out.size
            go_wp2_with (first | ((with_reducible refine at_store 27 (.tmp 12) (.tmp 53) ?_); refine wpList_store_whole rfl (.tmp 12) (.tmp 53) 27 rfl wr.heap.size 0 L1 rfl rfl hs1.out (zM_here _ hl1 rfl) (fun j _ => frozen_new _ _ _ _ rfl) ho1.out ?_; intro w11 hw11) | ((with_reducible refine at_load 27 (.tmp 12) ?_); refine wpList_load_whole rfl (.tmp 12) 27 rfl wr.heap.size 0 L1 rfl ha.out hs1.out hw11.here ?_; simp only [Act.put, List.setIfInBounds_toArray, List.set_cons_succ, List.set_cons_zero]))
            refine (HCk.out _).mono ?_
            rintro q w12 ⟨rfl, hb12⟩
            have K0 := Lib.hid (((G0.out.alloc y0 _).wrote hw11 (by omega)).keep hb12)
            have K1 := Lib.hid (((G1.out.alloc y1 _).wrote hw11 (by omega)).keep hb12)
            have K2 := Lib.hid (below_step (hw11.below _ _ z1 (below_alloc G2.out _)) hb12)
            clear hb12 hw11 G0 G1 G2
            go_wp2
            go_roundw
            case rel => exact ⟨k + 1, by omega, by go_num, K0.out, K1.out, K2.out⟩
            case measure => simp [RowKit.intOf]; omega
          · go_wp2_with ((with_reducible refine at_load 27 (.tmp 4) ?_); refine wpList_load_whole rfl (.tmp 4) 27 rfl w.heap.size 0 L0 rfl ha.out hs.out G0.out ?_; simp only [Act.put, List.setIfInBounds_toArray, List.set_cons_succ, List.set_cons_zero])
            refine (HC0.out _).mono ?_
            rintro q w13 ⟨rfl, hb13⟩
            have K1 := Lib.hid (G1.out.keep hb13)
            have K2 := Lib.hid (below_step G2.out hb13)
            clear hb13 G0 G1 G2
            go_wp2_with ((with_reducible refine at_load 32 (.tmp 5) ?_); refine wpList_load_wanted (by rfl) (.tmp 5) 32 rfl (w.heap.size + 1) 0 [.int .u8 dk, .int .u8 dd, .int .i64 dc, .int .i64 dt, .int .u64 di, .int .u64 do_, .int .u16 dp, .int .u16 ds, .int .u16 dn, .int .i32 db, .int .u8 dx0, .int .u8 dx1, .int .u8 dx2, .int .u8 dx3, .int .u16 dv] rfl had.out hsd.out K1.out ?_; simp only [Act.put, List.setIfInBounds_toArray, List.set_cons_succ, List.set_cons_zero])
            refine (HM1.out _).mono ?_
            rintro q w14 ⟨rfl, hb14⟩
            have H14 := Lib.hid (below_step K2.out hb14)
            clear hb14 K1 K2
            go_wp2_with fail
            refine (HC1.out _).mono ?_
            rintro q w15 ⟨rfl, hb15⟩
            have H15 := Lib.hid (below_step H14.out hb15)
            go_wp2
            go_ret
            exact ⟨rfl, H15.out⟩
  · go_wp2_with ((with_reducible refine at_load 25 (.tmp 6) ?_); refine wpList_load_whole rfl (.tmp 6) 25 rfl (w.heap.size + 2) 0 [.int .i64 a, .int .i64 b, .int .i64 c, .int .i64 v, .int .i64 e, .int .i64 g] rfl ham.out hsm.out B2.out ?_; simp only [Act.put, List.setIfInBounds_toArray, List.set_cons_succ, List.set_cons_zero])
    refine (HMc.out _).mono ?_
    rintro q w4 ⟨rfl, hb4⟩
    have E0 := Lib.hid (B0.out.keep hb4)
    have E1 := Lib.hid (B1_.out.keep hb4)
    have H4 := Lib.hid (below_step H2.out hb4)
    clear hb4 B0 B1_ B2 H2 HMc HMr
    go_wp2_with fail
    refine (size_any n _).mono ?_
    rintro q w5 ⟨rfl, hb5⟩
    have F0 := Lib.hid (E0.out.keep hb5)
    have F1 := Lib.hid (E1.out.keep hb5)
    have H5 := Lib.hid (below_step H4.out hb5)
    clear hb5 E0 E1 H4
    go_wp2_with fail
    refine (rsize_any n _).mono ?_
    rintro q w6 ⟨rfl, rfl⟩
    go_wp2_with fail
    go_loopw [10] (fun i wr => ∃ k : Nat, k ≤ 17 ∧ i = .int .i64 ((k : Int) - 1) ∧ Holds wr w.heap.size L0 ∧ Holds wr (w.heap.size + 1) [.int .u8 dk, .int .u8 dd, .int .i64 dc, .int .i64 dt, .int .u64 di, .int .u64 do_, .int .u16 dp, .int .u16 ds, .int .u16 dn, .int .i32 db, .int .u8 dx0, .int .u8 dx1, .int .u8 dx2, .int .u8 dx3, .int .u16 dv] ∧ Below w.heap.size w wr) (fun i _ => 17 - (RowKit.intOf i + 1).toNat)
    case atStart => exact ⟨0, by omega, rfl, F0.out, F1.out, H5.out⟩
    case round =>
      obtain ⟨k, hk, rfl, g0, g1, g2⟩ := hrel
      have G0 := Lib.hid g0
      have G1 := Lib.hid g1
      have G2 := Lib.hid g2
      clear g0 g1 g2
      by_cases hlt : k < 17
      · go_wp2_with fail
        refine (size_any _ _).mono ?_
        rintro q w7 ⟨rfl, hb7⟩
        have K0 := Lib.hid (G0.out.keep hb7)
        have K1 := Lib.hid (G1.out.keep hb7)
        have K2 := Lib.hid (below_step G2.out hb7)
        clear hb7 G0 G1 G2
        go_wp2_with fail
        refine (rsize_any _ _).mono ?_
        rintro q w8 ⟨rfl, rfl⟩
        go_wp2
        go_roundw
        case rel => exact ⟨k + 1, by omega, int_eq (by omega), K0.out, K1.out, K2.out⟩
        case measure => simp [RowKit.intOf]; omega
      · clear F0 F1 H5
        go_wp2_with ((with_reducible refine at_load 32 (.tmp 5) ?_); refine wpList_load_whole rfl (.tmp 5) 32 rfl (w.heap.size + 1) 0 [.int .u8 dk, .int .u8 dd, .int .i64 dc, .int .i64 dt, .int .u64 di, .int .u64 do_, .int .u16 dp, .int .u16 ds, .int .u16 dn, .int .i32 db, .int .u8 dx0, .int .u8 dx1, .int .u8 dx2, .int .u8 dx3, .int .u16 dv] rfl had.out hsd.out G1.out ?_; simp only [Act.put, List.setIfInBounds_toArray, List.set_cons_succ, List.set_cons_zero])
        refine (HM1.out _).mono ?_
        rintro q w9 ⟨rfl, hb9⟩
        have K0 := Lib.hid (G0.out.keep hb9)
        have K1 := Lib.hid (G1.out.keep hb9)
        have K2 := Lib.hid (below_step G2.out hb9)
        clear hb9 G0 G1 G2
        go_wp2_with fail
        refine (HBn.out _).mono ?_
        rintro q w10 ⟨rfl, hb10⟩
        have P0 := Lib.hid (K0.out.keep hb10)
        have P1 := Lib.hid (K1.out.keep hb10)
        have P2 := Lib.hid (below_step K2.out hb10)
        clear hb10 K0 K1 K2
        go_wp2_with fail
        go_loopw [51] (fun i wr => ∃ k : Nat, k ≤ 12 ∧ i = .int .i64 (k : Int) ∧ Holds wr w.heap.size L0 ∧ Holds wr (w.heap.size + 1) [.int .u8 dk, .int .u8 dd, .int .i64 dc, .int .i64 dt, .int .u64 di, .int .u64 do_, .int .u16 dp, .int .u16 ds, .int .u16 dn, .int .i32 db, .int .u8 dx0, .int .u8 dx1, .int .u8 dx2, .int .u8 dx3, .int .u16 dv] ∧ Below w.heap.size w wr) (fun i _ => 12 - (RowKit.intOf i).toNat)
        case atStart => exact ⟨0, by omega, rfl, P0.out, P1.out, P2.out⟩
        case round =>
          obtain ⟨k, hk, rfl, g0, g1, g2⟩ := hrel
          have G0 := Lib.hid g0
          have G1 := Lib.hid g1
          have G2 := Lib.hid g2
          clear g0 g1 g2 P0 P1 P2
          by_cases hlt : k < 12
          · obtain ⟨N, hN, hi⟩ := HIx.out k hlt
            have HCk := Lib.hid (fun W => checks_any hN W)
            have hs1 := Lib.hid (show ∀ w, (sizeOf 27).run Try.prog w = .ok (N.map (Value.int .i64)).length w from fun w => by rw [List.length_map, hN]; exact size_msg w)
            have hl1 : (N.map (Value.int .i64)).length = 17 := by rw [List.length_map, hN]
            have ho1 := Lib.hid (one_map N)
            unfold msgA at *
            generalize N.map (Value.int .i64) = L1 at *
            clear hN
            have y1 : w.heap.size + 1 < wr.heap.size := World.block_lt_of_cell? _ _ (G1.out 0 _ rfl)
            have y0 : w.heap.size < wr.heap.size := by omega
            have z1 := G2.out.size
            go_wp2_with (first | ((with_reducible refine at_store 27 (.tmp 12) (.tmp 53) ?_); refine wpList_store_whole rfl (.tmp 12) (.tmp 53) 27 rfl wr.heap.size 0 L1 rfl rfl hs1.out (zM_here _ hl1 rfl) (fun j _ => frozen_new _ _ _ _ rfl) ho1.out ?_; intro w11 hw11) | ((with_reducible refine at_load 27 (.tmp 12) ?_); refine wpList_load_whole rfl (.tmp 12) 27 rfl wr.heap.size 0 L1 rfl ha.out hs1.out hw11.here ?_; simp only [Act.put, List.setIfInBounds_toArray, List.set_cons_succ, List.set_cons_zero]))
            refine (HCk.out _).mono ?_
            rintro q w12 ⟨rfl, hb12⟩
            have K0 := Lib.hid (((G0.out.alloc y0 _).wrote hw11 (by omega)).keep hb12)
            have K1 := Lib.hid (((G1.out.alloc y1 _).wrote hw11 (by omega)).keep hb12)
            have K2 := Lib.hid (below_step (hw11.below _ _ z1 (below_alloc G2.out _)) hb12)
            clear hb12 hw11 G0 G1 G2
            go_wp2
            go_roundw
            case rel => exact ⟨k + 1, by omega, by go_num, K0.out, K1.out, K2.out⟩
            case measure => simp [RowKit.intOf]; omega
          · go_wp2_with ((with_reducible refine at_load 27 (.tmp 4) ?_); refine wpList_load_whole rfl (.tmp 4) 27 rfl w.heap.size 0 L0 rfl ha.out hs.out G0.out ?_; simp only [Act.put, List.setIfInBounds_toArray, List.set_cons_succ, List.set_cons_zero])
            refine (HC0.out _).mono ?_
            rintro q w13 ⟨rfl, hb13⟩
            have K1 := Lib.hid (G1.out.keep hb13)
            have K2 := Lib.hid (below_step G2.out hb13)
            clear hb13 G0 G1 G2
            go_wp2_with ((with_reducible refine at_load 32 (.tmp 5) ?_); refine wpList_load_wanted (by rfl) (.tmp 5) 32 rfl (w.heap.size + 1) 0 [.int .u8 dk, .int .u8 dd, .int .i64 dc, .int .i64 dt, .int .u64 di, .int .u64 do_, .int .u16 dp, .int .u16 ds, .int .u16 dn, .int .i32 db, .int .u8 dx0, .int .u8 dx1, .int .u8 dx2, .int .u8 dx3, .int .u16 dv] rfl had.out hsd.out K1.out ?_; simp only [Act.put, List.setIfInBounds_toArray, List.set_cons_succ, List.set_cons_zero])
            refine (HM1.out _).mono ?_
            rintro q w14 ⟨rfl, hb14⟩
            have H14 := Lib.hid (below_step K2.out hb14)
            clear hb14 K1 K2
            go_wp2_with fail
            refine (HC1.out _).mono ?_
            rintro q w15 ⟨rfl, hb15⟩
            have H15 := Lib.hid (below_step H14.out hb15)
            go_wp2
            go_ret
            exact ⟨rfl, H15.out⟩

set_option maxRecDepth 100000 in
theorem ptpChecks_lifted (os : Os) (started : os.Started) (H : Type) (enc : TypeId × Value → H) :
    ReturnsInHanded {} Try.checked os 3 .any (Rows.ptpChecksSpec.pre6 enc Try.prog Try.f3 [] false) (Rows.ptpChecksSpec.post enc Try.prog Try.f3 false true false false) := by
  refine law_lifted started Try.func3 (by kernel_rfl)
    (ChangeSpec.witness6 (enc := enc) (C := Try.checked) false ⟨#[], #[.agg #[.int .i64 0, .int .i64 0, .int .i64 0, .int .i64 0, .int .i64 0, .int .i64 0, .int .i64 0, .int .i64 0, .int .i64 0, .int .i64 0, .int .i64 0, .int .i64 0, .int .i64 0, .int .i64 0, .int .i64 0, .int .i64 0, .int .i64 0], .agg #[.int .u8 0, .int .u8 0, .int .i64 0, .int .i64 0, .int .u64 0, .int .u64 0, .int .u16 0, .int .u16 0, .int .u16 0, .int .i32 0, .int .u8 0, .int .u8 0, .int .u8 0, .int .u8 0, .int .u16 0], .agg #[.int .i64 0, .int .i64 0, .int .i64 0, .int .i64 0, .int .i64 0, .int .i64 0], .int .i64 0], []⟩ 8 (by kernel_rfl) (by kernel_rfl) (by kernel_rfl) (by kernel_rfl))
    rfl (by kernel_rfl) (by kernel_rfl) (fun ds hd => ?_) ?_
  · rw [Try.params3] at hd
    match ds, hd with
    | [_, _, _, _], _ => exact ⟨rfl, rfl, rfl⟩
  · intro W base args ds p hval hA
    rw [Try.params3] at hA hval
    obtain ⟨v0, vs0, d0, ds0, p0, q0, ha0, rfl, rfl, h0, r0⟩ := trodAll_cons hA
    obtain ⟨v1, vs1, d1, ds1, p1, q1, ha1, rfl, rfl, h1, r1⟩ := trodAll_cons r0
    obtain ⟨v2, vs2, d2, ds2, p2, q2, ha2, rfl, rfl, h2, r2⟩ := trodAll_cons r1
    obtain ⟨v3, vs3, d3, ds3, p3, q3, ha3, rfl, rfl, h3, r3⟩ := trodAll_cons r2
    obtain ⟨hz, rfl, rfl⟩ := trodAll_nil r3
    obtain rfl : args = #[v0, v1, v2, v3] := by
      subst hz
      subst ha3
      subst ha2
      subst ha1
      cases args; simpa using ha0
    obtain ⟨x0_0, x0_1, x0_2, x0_3, x0_4, x0_5, x0_6, x0_7, x0_8, x0_9, x0_10, x0_11, x0_12, x0_13, x0_14, x0_15, x0_16, rfl, w0⟩ := open_msg (hval 0 27 v0 rfl rfl) h0
    obtain ⟨x1_0, x1_1, x1_2, x1_3, x1_4, x1_5, x1_6, x1_7, x1_8, x1_9, x1_10, x1_11, x1_12, x1_13, x1_14, rfl, w1⟩ := open_draft10 (hval 1 32 v1 rfl rfl) h1
    obtain ⟨x2_0, x2_1, x2_2, x2_3, x2_4, x2_5, rfl, w2⟩ := open_master (hval 2 25 v2 rfl rfl) h2
    obtain ⟨x3, rfl, rfl, rfl, w3⟩ := open_int Try.underlying3 (hval 3 3 v3 rfl rfl) h3
    exact ptpChecks_walk W [x0_0, x0_1, x0_2, x0_3, x0_4, x0_5, x0_6, x0_7, x0_8, x0_9, x0_10, x0_11, x0_12, x0_13, x0_14, x0_15, x0_16] rfl x1_0 x1_1 x1_2 x1_3 x1_4 x1_5 x1_6 x1_7 x1_8 x1_9 x1_10 x1_11 x1_12 x1_13 x1_14 w1 x2_0 x2_1 x2_2 x2_3 x2_4 x2_5 x3

theorem ptpChecks_holds : Rows.PtpChecksSaid :=
  OpenClaim.holds_of_wide 3 Try.f3 rfl rfl rfl rfl rfl rfl rfl ⟨rfl, rfl, rfl, rfl, rfl⟩ rfl rfl rfl rfl rfl (by kernel_rfl) Try.func3 (by kernel_rfl)
    (of_decide_eq_true (by kernel_rfl)) (by unfold Func.isWrapper; first | (rw [if_pos (by decide +kernel)]; kernel_rfl) | (rw [if_neg (by decide +kernel)]; exact ⟨rfl, rfl⟩))
    (fun os started H enc _ => ptpChecks_lifted os started H enc)
#print axioms ptpChecks_holds

end Go.Proofs.Ytecengclcaodeaa
