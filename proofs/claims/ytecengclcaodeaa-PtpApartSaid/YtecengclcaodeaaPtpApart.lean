/-
  PtpApart: for every input the law returns true, and its arguments read as before. No conditions.
-/
import Derived.Test.YtecengclcaodeaaDrfEnc
import Derived.Test.YtecengclcaodeaaWork10
import Derived.Test.YtecengclcaodeaaQLoad
import Derived.Test.YtecengclcaodeaaAt
import Derived.Test.YtecengclcaodeaaOpenMsg
import Derived.Test.YtecengclcaodeaaLift
import Derived.Lib.QuietBelow
import Derived.BigQuiet
namespace Go.Proofs.Ytecengclcaodeaa
open Go.RowKit Go.Lib Plain
open Go.ChangeShapes Go.WideShapes Go.ChangeAt

set_option maxHeartbeats 8000000 in
set_option maxRecDepth 100000 in
theorem ptpApart_walk (dk dd dc dt di do_ dp ds dn db dx0 dx1 dx2 dx3 dv : Int) (hd : DrfOk dk dd dc dt di do_ dp ds dn db dx0 dx1 dx2 dx3 dv) (edk edd edc edt edi edo_ edp eds edn edb edx0 edx1 edx2 edx3 edv : Int) (he : DrfOk edk edd edc edt edi edo_ edp eds edn edb edx0 edx1 edx2 edx3 edv) (w : World) :
    Calls Try.prog 7 #[.agg #[.int .u8 dk, .int .u8 dd, .int .i64 dc, .int .i64 dt, .int .u64 di, .int .u64 do_, .int .u16 dp, .int .u16 ds, .int .u16 dn, .int .i32 db, .int .u8 dx0, .int .u8 dx1, .int .u8 dx2, .int .u8 dx3, .int .u16 dv], .agg #[.int .u8 edk, .int .u8 edd, .int .i64 edc, .int .i64 edt, .int .u64 edi, .int .u64 edo_, .int .u16 edp, .int .u16 eds, .int .u16 edn, .int .i32 edb, .int .u8 edx0, .int .u8 edx1, .int .u8 edx2, .int .u8 edx3, .int .u16 edv]] w fun y w' => y = .returned (.bool true) ∧ Below w.heap.size w w' := by
  have had := Lib.hid (show ∀ w, (isAgg 32).run Try.prog w = .ok true w from fun w => by kernel_rfl)
  have hsd := Lib.hid (show ∀ w, (sizeOf 32).run Try.prog w = .ok 15 w from fun w => by kernel_rfl)
  obtain ⟨K1, R1, L1, n1, b1, lo1, up1, sz1, m1, e1, d1, f1, g1⟩ := drf_enc dk dd dc dt di do_ dp ds dn db dx0 dx1 dx2 dx3 dv hd
  obtain ⟨K2, R2, L2, n2, b2, lo2, up2, sz2, m2, e2, d2, f2, g2⟩ := drf_enc edk edd edc edt edi edo_ edp eds edn edb edx0 edx1 edx2 edx3 edv he
  have hap : decide (L1 = L2) = decide (K1 :: R1 = K2 :: R2) := decide_eq_decide.2 ⟨fun h => by rw [← d1, h, d2], fun h => by rw [g1, h, g2]⟩
  clear lo1 up1 sz1 d1 f1 g1 lo2 up2 sz2 d2 f2 g2
  have heq := fun W => msgA_eql n1 n2 W
  have HQ := Lib.hid (show ∀ (v1 v2 : Value) (W : World), Str W v1 L1 → Str W v2 L2 → Calls Try.prog 20 #[v1, v2] W fun e w' => e = .returned (.bool (decide (L1 = L2))) ∧ W = w' from fun v1 v2 W h1 h2 => equal_any v1 v2 L1 L2 b1 b2 W h1 h2)
  rw [hap] at HQ
  generalize decide (K1 :: R1 = K2 :: R2) = bq at *
  generalize msgA (K1 :: R1) = A1 at *
  generalize msgA (K2 :: R2) = A2 at *
  have HM1 := Lib.hid m1
  have HM2 := Lib.hid m2
  have HE1 := Lib.hid e1
  have HE2 := Lib.hid e2
  clear m1 m2 e1 e2 hap hd he b1 b2 n1 n2
  go_enter Try.func7, Try.ntmps7
  go_wp2_with fail
  refine (works10_any _).mono ?_
  rintro y w1 ⟨rfl, hb1⟩
  have HD1 := Lib.hid (show Holds w1 w.heap.size [.int .u8 dk, .int .u8 dd, .int .i64 dc, .int .i64 dt, .int .u64 di, .int .u64 do_, .int .u16 dp, .int .u16 ds, .int .u16 dn, .int .i32 db, .int .u8 dx0, .int .u8 dx1, .int .u8 dx2, .int .u8 dx3, .int .u16 dv] from ((holds_alloc _ [.int .u8 dk, .int .u8 dd, .int .i64 dc, .int .i64 dt, .int .u64 di, .int .u64 do_, .int .u16 dp, .int .u16 ds, .int .u16 dn, .int .i32 db, .int .u8 dx0, .int .u8 dx1, .int .u8 dx2, .int .u8 dx3, .int .u16 dv] 32 (by simp)).alloc (by simp) _).keep hb1)
  have HF1 := Lib.hid (show Holds w1 (w.heap.size + 1) [.int .u8 edk, .int .u8 edd, .int .i64 edc, .int .i64 edt, .int .u64 edi, .int .u64 edo_, .int .u16 edp, .int .u16 eds, .int .u16 edn, .int .i32 edb, .int .u8 edx0, .int .u8 edx1, .int .u8 edx2, .int .u8 edx3, .int .u16 edv] from (holds_alloc _ [.int .u8 edk, .int .u8 edd, .int .i64 edc, .int .i64 edt, .int .u64 edi, .int .u64 edo_, .int .u16 edp, .int .u16 eds, .int .u16 edn, .int .i32 edb, .int .u8 edx0, .int .u8 edx1, .int .u8 edx2, .int .u8 edx3, .int .u16 edv] 32 (by simp)).keep hb1)
  have H1 := Lib.hid (below_step (below_alloc (below_alloc (Below.refl _ _) _) _) hb1)
  clear hb1
  go_wp2_with (((with_reducible refine at_load 32 (.tmp 2) ?_); refine wpList_load_whole rfl (.tmp 2) 32 rfl w.heap.size 0 [.int .u8 dk, .int .u8 dd, .int .i64 dc, .int .i64 dt, .int .u64 di, .int .u64 do_, .int .u16 dp, .int .u16 ds, .int .u16 dn, .int .i32 db, .int .u8 dx0, .int .u8 dx1, .int .u8 dx2, .int .u8 dx3, .int .u16 dv] rfl had.out hsd.out HD1.out ?_))
  refine (HM1.out _).mono ?_
  rintro y w2 ⟨rfl, hb2⟩
  have HD2 := Lib.hid (HD1.out.keep hb2)
  have HF2 := Lib.hid (HF1.out.keep hb2)
  have H2 := Lib.hid (below_step H1.out hb2)
  clear hb2 HD1 HF1 H1
  go_wp2_with fail
  refine (HE1.out _).mono ?_
  rintro y w3 ⟨g1, cap1, rfl, ho3, hb3⟩
  have K3 := Lib.hid (lies_owned ho3)
  have HD3 := Lib.hid (HD2.out.keep hb3)
  have HF3 := Lib.hid (HF2.out.keep hb3)
  have H3 := Lib.hid (below_step H2.out hb3)
  clear hb3 HD2 HF2 H2 ho3
  go_wp2_with (((with_reducible refine at_load 32 (.tmp 3) ?_); refine wpList_load_whole rfl (.tmp 3) 32 rfl (w.heap.size + 1) 0 [.int .u8 edk, .int .u8 edd, .int .i64 edc, .int .i64 edt, .int .u64 edi, .int .u64 edo_, .int .u16 edp, .int .u16 eds, .int .u16 edn, .int .i32 edb, .int .u8 edx0, .int .u8 edx1, .int .u8 edx2, .int .u8 edx3, .int .u16 edv] rfl had.out hsd.out HF3.out ?_))
  refine (HM2.out _).mono ?_
  rintro y w4 ⟨rfl, hb4⟩
  have K4 := Lib.hid (K3.out.keep hb4)
  have HD4 := Lib.hid (HD3.out.keep hb4)
  have HF4 := Lib.hid (HF3.out.keep hb4)
  have H4 := Lib.hid (below_step H3.out hb4)
  clear hb4 HD3 HF3 H3 K3
  go_wp2_with fail
  refine (HE2.out _).mono ?_
  rintro y w5 ⟨g2, cap2, rfl, ho5, hb5⟩
  have J5 := Lib.hid (lies_owned ho5)
  have K5 := Lib.hid (K4.out.keep hb5)
  have HD5 := Lib.hid (HD4.out.keep hb5)
  have HF5 := Lib.hid (HF4.out.keep hb5)
  have H5 := Lib.hid (below_step H4.out hb5)
  clear hb5 HD4 HF4 H4 K4 ho5
  go_wp2
  refine wp_region_quiet_below (by kernel_rfl) (by kernel_rfl) ?_
  repeat (first | ((with_reducible refine at_qload 32 (.tmp 2) ?_); refine wpQuiet_load_wanted (by rfl) (.tmp 2) 32 rfl w.heap.size 0 [.int .u8 dk, .int .u8 dd, .int .i64 dc, .int .i64 dt, .int .u64 di, .int .u64 do_, .int .u16 dp, .int .u16 ds, .int .u16 dn, .int .i32 db, .int .u8 dx0, .int .u8 dx1, .int .u8 dx2, .int .u8 dx3, .int .u16 dv] rfl had.out hsd.out (holds_regrown HD5.out) ?_; simp only [Act.put, List.setIfInBounds_toArray, List.set_cons_succ, List.set_cons_zero]) | ((with_reducible refine at_qload 32 (.tmp 3) ?_); refine wpQuiet_load_wanted (by rfl) (.tmp 3) 32 rfl (w.heap.size + 1) 0 [.int .u8 edk, .int .u8 edd, .int .i64 edc, .int .i64 edt, .int .u64 edi, .int .u64 edo_, .int .u16 edp, .int .u16 eds, .int .u16 edn, .int .i32 edb, .int .u8 edx0, .int .u8 edx1, .int .u8 edx2, .int .u8 edx3, .int .u16 edv] rfl had.out hsd.out (holds_regrown HF5.out) ?_; simp only [Act.put, List.setIfInBounds_toArray, List.set_cons_succ, List.set_cons_zero]) | go_big_quiet_step (first | with_reducible exact Calls.regrown_of (HM1.out _) | with_reducible exact Calls.regrown_of (HM2.out _) | with_reducible exact regrown_same (HQ.out _ _ _ (str_lies (lies_regrown K5.out _ _) cap1) (str_lies (lies_regrown J5.out _ _) cap2))))
  refine wpQuiet_nil ?_
  intro wz hw
  have HZ := Lib.hid (below_step H5.out (show Below w5.heap.size w5 wz by obtain ⟨p, rfl⟩ := hw; exact below_regrown _ _ _))
  clear hw
  go_wp2
  go_ret
  exact ⟨rfl, HZ.out⟩

set_option maxRecDepth 100000 in
theorem ptpApart_lifted (os : Os) (started : os.Started) (H : Type) (enc : TypeId × Value → H) :
    ReturnsInHanded {} Try.checked os 7 .any (Rows.ptpApartSpec.pre6 enc Try.prog Try.f7 [] false) (Rows.ptpApartSpec.post enc Try.prog Try.f7 false true false false) := by
  refine law_lifted started Try.func7 (by kernel_rfl)
    (ChangeSpec.witness6 (enc := enc) (C := Try.checked) false ⟨#[], #[.agg #[.int .u8 0, .int .u8 0, .int .i64 0, .int .i64 0, .int .u64 0, .int .u64 0, .int .u16 0, .int .u16 0, .int .u16 0, .int .i32 0, .int .u8 0, .int .u8 0, .int .u8 0, .int .u8 0, .int .u16 0], .agg #[.int .u8 0, .int .u8 0, .int .i64 0, .int .i64 0, .int .u64 0, .int .u64 0, .int .u16 0, .int .u16 0, .int .u16 0, .int .i32 0, .int .u8 0, .int .u8 0, .int .u8 0, .int .u8 0, .int .u16 0]], []⟩ 8 (by kernel_rfl) (by kernel_rfl) (by kernel_rfl) (by kernel_rfl))
    rfl (by kernel_rfl) (by kernel_rfl) (fun ds hd => ?_) ?_
  · rw [Try.params7] at hd
    match ds, hd with
    | [_, _], _ => exact ⟨rfl, rfl, rfl⟩
  · intro W base args ds p hval hA
    rw [Try.params7] at hA hval
    obtain ⟨v0, vs0, d0, ds0, p0, q0, ha0, rfl, rfl, h0, r0⟩ := trodAll_cons hA
    obtain ⟨v1, vs1, d1, ds1, p1, q1, ha1, rfl, rfl, h1, r1⟩ := trodAll_cons r0
    obtain ⟨hz, rfl, rfl⟩ := trodAll_nil r1
    obtain rfl : args = #[v0, v1] := by
      subst hz
      subst ha1
      cases args; simpa using ha0
    obtain ⟨x0_0, x0_1, x0_2, x0_3, x0_4, x0_5, x0_6, x0_7, x0_8, x0_9, x0_10, x0_11, x0_12, x0_13, x0_14, rfl, w0⟩ := open_draft10 (hval 0 32 v0 rfl rfl) h0
    obtain ⟨x1_0, x1_1, x1_2, x1_3, x1_4, x1_5, x1_6, x1_7, x1_8, x1_9, x1_10, x1_11, x1_12, x1_13, x1_14, rfl, w1⟩ := open_draft10 (hval 1 32 v1 rfl rfl) h1
    exact ptpApart_walk x0_0 x0_1 x0_2 x0_3 x0_4 x0_5 x0_6 x0_7 x0_8 x0_9 x0_10 x0_11 x0_12 x0_13 x0_14 w0 x1_0 x1_1 x1_2 x1_3 x1_4 x1_5 x1_6 x1_7 x1_8 x1_9 x1_10 x1_11 x1_12 x1_13 x1_14 w1 W

theorem ptpApart_holds : Rows.PtpApartSaid :=
  OpenClaim.holds_of_wide 7 Try.f7 rfl rfl rfl rfl rfl rfl rfl ⟨rfl, rfl, rfl, rfl, rfl⟩ rfl rfl rfl rfl rfl (by kernel_rfl) Try.func7 (by kernel_rfl)
    (of_decide_eq_true (by kernel_rfl)) (by unfold Func.isWrapper; first | (rw [if_pos (by decide +kernel)]; kernel_rfl) | (rw [if_neg (by decide +kernel)]; exact ⟨rfl, rfl⟩))
    (fun os started H enc _ => ptpApart_lifted os started H enc)
#print axioms ptpApart_holds

end Go.Proofs.Ytecengclcaodeaa
