/-
  PtpBack: for every input the law returns true, and its arguments read as before. No conditions.
-/
import Derived.Test.YtecengclcaodeaaClone
import Derived.Test.YtecengclcaodeaaQLoad
import Derived.Test.YtecengclcaodeaaAt
import Derived.Test.YtecengclcaodeaaOpenMsg
import Derived.Test.YtecengclcaodeaaLift
namespace Go.Proofs.Ytecengclcaodeaa
open Go.RowKit Go.Lib Plain
open Go.ChangeShapes Go.WideShapes Go.ChangeAt

theorem decRes_len (L : List Int) : (decRes L).length = 17 := by
  match L with
  | [] => rfl
  | k :: r =>
    rw [decRes]
    split
    · unfold decL
      split
      · rw [List.length_take, decM_len]; rfl
      · rfl
    · rfl
/-- Decode of the head of some bytes that Decode takes. -/
theorem decode_head (g cap : Nat) (L : List Int) (hB : Bytes L) (hE : decErr L = 0) (hcap : L.length ≤ cap) (hcl : cap ≤ 9223372036854775807) (i : Nat) (hi : i < L.length) (W : World) (hl : Lies W g 0 L) :
    Calls Try.prog 22 #[.slice (some ⟨g, 0, none⟩) i cap] W fun e w' => ∃ N : List Value, N.length = 17 ∧ (∀ u ∈ N, u.oneCell' = true) ∧ e = .returned (.tuple #[.agg N.toArray, .int .i64 5]) ∧ Below W.heap.size W w' := by
  by_cases h0 : i = 0
  · subst h0
    refine (decode_empty _ cap W).mono ?_
    rintro e w' ⟨rfl, hb⟩
    exact ⟨_, rfl, m17_one 0 0 0 0 0 0 0 0 0 0 0 0 0 0 0 0 0, rfl, hb⟩
  · have hlen : (L.take i).length = i := by rw [List.length_take]; omega
    have h := decode_any g 0 cap (L.take i) (fun b hb => hB b (List.mem_of_mem_take hb)) (by omega) (by omega) hcl W (hl.take i)
    rw [hlen, dec_short hE i hi] at h
    refine h.mono ?_
    rintro e w' ⟨rfl, hb⟩
    exact ⟨_, by rw [List.length_map, decRes_len], ints_oneCell .i64 _, rfl, hb⟩

set_option maxHeartbeats 8000000 in
set_option maxRecDepth 100000 in
theorem ptpBack_walk (dk dd dc dt di do_ dp ds dn db dx0 dx1 dx2 dx3 dv : Int) (hd : DrfOk dk dd dc dt di do_ dp ds dn db dx0 dx1 dx2 dx3 dv) (x : Int) (hx : (Lit.int .u8 x).wf = true) (w : World) :
    Calls Try.prog 9 #[.agg #[.int .u8 dk, .int .u8 dd, .int .i64 dc, .int .i64 dt, .int .u64 di, .int .u64 do_, .int .u16 dp, .int .u16 ds, .int .u16 dn, .int .i32 db, .int .u8 dx0, .int .u8 dx1, .int .u8 dx2, .int .u8 dx3, .int .u16 dv], .int .u8 x] w fun y w' => y = .returned (.bool true) ∧ Below w.heap.size w w' := by
  obtain ⟨i0, hi0, hz0, hz1, hz2⟩ := info_parts Try.infoByte
  have hx0 : 0 ≤ x ∧ x ≤ 255 := by simpa [Lit.wf, IntKind.min, IntKind.max, IntKind.signed, IntKind.bits] using hx
  clear hx
  have had := Lib.hid (show ∀ w, (isAgg 32).run Try.prog w = .ok true w from fun w => by kernel_rfl)
  have hsd := Lib.hid (show ∀ w, (sizeOf 32).run Try.prog w = .ok 15 w from fun w => by kernel_rfl)
  have ha := Lib.hid agg_msg
  obtain ⟨K, R, L, n1, b1, lo, up, sz, m1, e1, d1, f1, g0⟩ := drf_enc dk dd dc dt di do_ dp ds dn db dx0 dx1 dx2 dx3 dv hd
  clear g0
  have hne := fun W => msgA_neq n1 W
  have hM0 : ((K :: R).map (Value.int .i64))[0]? = some (.int .i64 K) := rfl
  have hMl : ((K :: R).map (Value.int .i64)).length = 17 := by rw [List.length_map, n1]
  have hMo := Lib.hid (ints_oneCell .i64 (K :: R))
  have hdec := decode_any
  have HD := Lib.hid (show ∀ (g cap : Nat) (W : World), L.length ≤ cap → cap ≤ 9223372036854775807 → Lies W g 0 L → Calls Try.prog 22 #[.slice (some ⟨g, 0, none⟩) L.length cap] W fun e w' => e = .returned (.tuple #[.agg ((K :: R).map (Value.int .i64)).toArray, .int .i64 0]) ∧ Below W.heap.size W w' from fun g cap W h1 h2 h3 => by
    have h := decode_any g 0 cap L b1 (by omega) h1 h2 W h3
    rw [d1, f1] at h
    exact h)
  have HX := Lib.hid (show ∀ (g cap : Nat) (W : World), L.length + 1 ≤ cap → cap ≤ 9223372036854775807 → Lies W g 0 (L ++ [x]) → Calls Try.prog 22 #[.slice (some ⟨g, 0, none⟩) (L.length + 1) cap] W fun e w' => ∃ N : List Value, N.length = 17 ∧ (∀ u ∈ N, u.oneCell' = true) ∧ e = .returned (.tuple #[.agg N.toArray, .int .i64 5]) ∧ Below W.heap.size W w' from fun g cap W h1 h2 h3 => by
    have hl : (L ++ [x]).length = L.length + 1 := by simp
    have h := decode_any g 0 cap (L ++ [x]) (fun b hb => by
      rcases List.mem_append.1 hb with h | h
      · exact b1 b h
      · have : b = x := by simpa using h
        omega) (by omega) (by omega) h2 W h3
    rw [hl, dec_long f1 x] at h
    refine h.mono ?_
    rintro e w' ⟨rfl, hb⟩
    exact ⟨_, by rw [List.length_map, decRes_len], ints_oneCell .i64 _, rfl, hb⟩)
  have HT := Lib.hid (fun g cap W h1 h2 i hi hl => decode_head g cap L b1 f1 h1 h2 i hi W hl)
  unfold msgA at hne m1 e1
  generalize (K :: R).map (Value.int .i64) = M at *
  have hs := Lib.hid (show ∀ w, (sizeOf 27).run Try.prog w = .ok M.length w from fun w => by rw [hMl]; exact size_msg w)
  have hs17 := Lib.hid size_msg
  have HM1 := Lib.hid m1
  have HE1 := Lib.hid e1
  have HL := Lib.hid b1
  have HMl := Lib.hid hMl
  have hsz : ∀ W, Calls Try.prog 13 #[.int .i64 K] W fun e w' => e = .returned (.int .i64 (L.length : Int)) ∧ Below W.heap.size W w' := fun W => by rw [← sz]; exact size_any K W
  have HS := Lib.hid hsz
  clear m1 e1 hd b1 n1 d1 f1 sz hsz hdec hMl
  go_enter Try.func9, Try.ntmps9
  go_wp2_with fail
  refine (works10_any _).mono ?_
  rintro y w1 ⟨rfl, hb1⟩
  have HD1 := Lib.hid (show Holds w1 w.heap.size [.int .u8 dk, .int .u8 dd, .int .i64 dc, .int .i64 dt, .int .u64 di, .int .u64 do_, .int .u16 dp, .int .u16 ds, .int .u16 dn, .int .i32 db, .int .u8 dx0, .int .u8 dx1, .int .u8 dx2, .int .u8 dx3, .int .u16 dv] from (holds_alloc _ [.int .u8 dk, .int .u8 dd, .int .i64 dc, .int .i64 dt, .int .u64 di, .int .u64 do_, .int .u16 dp, .int .u16 ds, .int .u16 dn, .int .i32 db, .int .u8 dx0, .int .u8 dx1, .int .u8 dx2, .int .u8 dx3, .int .u16 dv] 32 (by simp)).keep hb1)
  have H1 := Lib.hid (below_step (below_alloc (Below.refl _ _) _) hb1)
  clear hb1
  go_wp2_with (((with_reducible refine at_load 32 (.tmp 2) ?_); refine wpList_load_whole rfl (.tmp 2) 32 rfl w.heap.size 0 [.int .u8 dk, .int .u8 dd, .int .i64 dc, .int .i64 dt, .int .u64 di, .int .u64 do_, .int .u16 dp, .int .u16 ds, .int .u16 dn, .int .i32 db, .int .u8 dx0, .int .u8 dx1, .int .u8 dx2, .int .u8 dx3, .int .u16 dv] rfl had.out hsd.out HD1.out ?_))
  refine (HM1.out _).mono ?_
  rintro y w2 ⟨rfl, hb2⟩
  have H2 := Lib.hid (below_step H1.out hb2)
  have z2 := H2.out.size
  clear hb2 HD1 H1
  go_wp2_with (first | ((with_reducible refine at_store 27 (.tmp 5) (.tmp 18) ?_); refine wpList_store_whole rfl (.tmp 5) (.tmp 18) 27 rfl w2.heap.size 0 M rfl rfl hs.out (zM_here _ HMl.out (by simp)) (fun j _ => frozen_new _ _ _ _ (by simp)) hMo.out ?_; intro w3 hw3) | ((with_reducible refine at_load 27 (.tmp 5) ?_); refine wpList_load_whole rfl (.tmp 5) 27 rfl w2.heap.size 0 M rfl ha.out hs.out hw3.here ?_))
  refine (HE1.out _).mono ?_
  rintro y w4 ⟨g1, cap1, rfl, ho4, hb4⟩
  obtain ⟨hc1, hc2, hg1⟩ := owned_cap ho4
  have K4 := Lib.hid (lies_owned ho4)
  have HM4 := Lib.hid (Holds.keep hw3.here hb4)
  have H4 := Lib.hid (below_step (hw3.below _ _ z2 (below_alloc H2.out _)) hb4)
  have c4 : w4.cell? ⟨w2.heap.size, 0, none⟩ = some (.int .i64 K) := HM4.out 0 _ hM0
  clear hb4 H2 ho4 hw3
  go_wp2_with fail
  refine (HS.out _).mono ?_
  rintro y w5 ⟨rfl, hb5⟩
  have K5 := Lib.hid (K4.out.keep hb5)
  have HM5 := Lib.hid (HM4.out.keep hb5)
  have H5 := Lib.hid (below_step H4.out hb5)
  clear hb5 c4 K4 HM4 H4
  go_wp2_with fail
  refine (HD.out g1 cap1 _ hc1 hc2 K5.out).mono ?_
  rintro y w6 ⟨rfl, hb6⟩
  have K6 := Lib.hid (K5.out.keep hb6)
  have HM6 := Lib.hid (HM5.out.keep hb6)
  have H6 := Lib.hid (below_step H5.out hb6)
  have z6 := H6.out.size
  have y6 : w2.heap.size < w6.heap.size := World.block_lt_of_cell? _ _ (HM6.out 0 _ hM0)
  clear hb6 K5 HM5 H5
  go_wp2_with (((with_reducible refine at_store 27 (.tmp 8) (.tmp 37) ?_); refine wpList_store_whole rfl (.tmp 8) (.tmp 37) 27 rfl w6.heap.size 0 M rfl rfl hs.out (zM_here _ HMl.out (by simp)) (fun j _ => frozen_new _ _ _ _ (by simp)) hMo.out ?_; intro w7 hw7))
  have zg1 : g1 < w6.heap.size := World.block_lt_of_cell? _ _ (K6.out 0 (L[0]'(by omega)) (by simp))
  have HM7 := Lib.hid (Holds.wrote (HM6.out.alloc y6 _) hw7 (by omega))
  have HB7 := Lib.hid (show Holds w7 w6.heap.size M from hw7.here)
  have K7 := Lib.hid (show Lies w7 g1 0 L from fun j x hx => (hw7.far _ _ (by omega)).trans (cell_al (K6.out j x hx) _))
  have H7 := Lib.hid (hw7.below _ _ z6 (below_alloc H6.out _))
  have z7 := H7.out.size
  clear hw7 HM6 K6 H6
  refine (clone_any g1 cap1 L (by omega) (by omega) _ K7.out).mono ?_
  rintro y w8 ⟨g2, cap2, rfl, ho8, hb8⟩
  have hg2 := (owned_cap ho8).2.2
  have z8 := hb8.size
  have HO8 := Lib.hid ho8
  have HB8 := Lib.hid hb8
  clear ho8 hb8
  go_wp2_with (at_builtin; refine wpList_append_lies _ rfl _ _ 44 rfl w7.heap.size 5 i0 (.int .u8 0) 1 1 Try.underlying44 hi0 hz0 hz1 hz2 rfl (by decide) (.slice (some ⟨g2, 0, none⟩) L.length cap2) L.length (bys L) rfl (HO8.out.alloc _) ⟨w8.heap.size, 0, none⟩ 1 1 [.int .u8 x] rfl rfl (cell_one_new _ _ _) (ints_oneCell .u8 [x]) (by decide) (by unfold maxLen; omega) (by omega) (by simp; omega) (w8.heap.size + 1) (by simp) ?_; intro g3 cap3 w9 ho9 hgrow hat hlt)
  have hb9 : Below w7.heap.size w7 w9 := (HB8.out.alloc z8 _).grown hgrow (by simp; omega) (fun k hk => by simp [Value.ownBlock] at hk; omega)
  obtain ⟨hc3, hc4, _⟩ := owned_cap ho9
  have h9 : Lies w9 g3 0 (L ++ [x]) := lies_owned (base := w7.heap.size) (cap := cap3) (by
    rw [show (L ++ [x]).length = L.length + 1 by simp, show bys (L ++ [x]) = bys L ++ [.int .u8 x] by simp]
    exact ho9)
  have HM9 := Lib.hid (HM7.out.keep hb9)
  have HN9 := Lib.hid (HB7.out.keep hb9)
  have K9 := Lib.hid (K7.out.keep hb9)
  have H9 := Lib.hid (below_step H7.out hb9)
  clear hgrow ho9 HO8 HB8 hb9 HM7 HB7 K7 H7
  refine (HX.out g3 cap3 _ hc3 hc4 h9).mono ?_
  rintro y w10 ⟨N, hNl, hNo, rfl, hb10⟩
  have HM10 := Lib.hid (HM9.out.keep hb10)
  have HN10 := Lib.hid (HN9.out.keep hb10)
  have K10 := Lib.hid (K9.out.keep hb10)
  have H10 := Lib.hid (below_step H9.out hb10)
  have z10 := H10.out.size
  have y10 : w2.heap.size < w10.heap.size := World.block_lt_of_cell? _ _ (HM10.out 0 _ hM0)
  have x10 : w6.heap.size < w10.heap.size := World.block_lt_of_cell? _ _ (HN10.out 0 _ hM0)
  have zg : g1 < w10.heap.size := World.block_lt_of_cell? _ _ (K10.out 0 (L[0]'(by omega)) (by simp))
  have HNl := Lib.hid (show ∀ w, (sizeOf 27).run Try.prog w = .ok N.length w from fun w => by rw [hNl]; exact size_msg w)
  have HNo := Lib.hid hNo
  clear hNo hb10 HM9 HN9 K9 H9 h9
  go_wp2_with (first | ((with_reducible refine at_store 27 (.tmp 10) (.tmp 46) ?_); refine wpList_store_whole rfl (.tmp 10) (.tmp 46) 27 rfl w10.heap.size 0 N rfl rfl HNl.out (zM_here _ hNl (by simp)) (fun j _ => frozen_new _ _ _ _ (by simp)) HNo.out ?_; intro w11 hw11; have HM11 := Lib.hid (Holds.wrote (HM10.out.alloc y10 _) hw11 (by omega)); have HN11 := Lib.hid (Holds.wrote (HN10.out.alloc x10 _) hw11 (by omega))) | ((with_reducible refine at_load 27 (.tmp 8) ?_); refine wpList_load_wanted (by rfl) (.tmp 8) 27 rfl w6.heap.size 0 M rfl ha.out hs.out HN11.out ?_) | ((with_reducible refine at_load 27 (.tmp 5) ?_); refine wpList_load_wanted (by rfl) (.tmp 5) 27 rfl w2.heap.size 0 M rfl ha.out hs.out HM11.out ?_))
  have K11 := Lib.hid (show Lies w11 g1 0 L from fun j x hx => (hw11.far _ _ (by omega)).trans (cell_al (K10.out j x hx) _))
  have H11 := Lib.hid (hw11.below _ _ z10 (below_alloc H10.out _))
  clear hw11 HM10 HN10 K10 H10 HM11 HN11 hne
  go_loopw [61] (fun i wr => ∃ k : Nat, k ≤ L.length ∧ i = .int .i64 k ∧ Below w11.heap.size w11 wr) (fun i _ => L.length - (RowKit.intOf i).toNat)
  case atStart => exact ⟨0, by omega, rfl, Below.refl _ _⟩
  case round =>
    obtain ⟨k, hk, rfl, hB⟩ := hrel
    have HBr := Lib.hid hB
    have zr := hB.size
    clear hB
    by_cases hlt : k < L.length
    · have Kr := Lib.hid (K11.out.keep HBr.out)
      go_wp2_with fail
      refine (HT.out g1 cap1 _ hc1 hc2 k hlt Kr.out).mono ?_
      rintro y w12 ⟨N', hNl', hNo', rfl, hb12⟩
      have H12 := Lib.hid (below_step HBr.out hb12)
      have z12 := H12.out.size
      have HNl' := Lib.hid (show ∀ w, (sizeOf 27).run Try.prog w = .ok N'.length w from fun w => by rw [hNl']; exact size_msg w)
      have HNo' := Lib.hid hNo'
      clear hNo' hb12 Kr HBr
      go_wp2_with (((with_reducible refine at_store 27 (.tmp 13) (.tmp 69) ?_); refine wpList_store_whole rfl (.tmp 13) (.tmp 69) 27 rfl w12.heap.size 0 N' rfl rfl HNl'.out (zM_here _ hNl' (by simp)) (fun j _ => frozen_new _ _ _ _ (by simp)) HNo'.out ?_; intro w13 hw13))
      go_roundw
      case rel => exact ⟨k + 1, by omega, by go_num, hw13.below _ _ z12 (below_alloc H12.out _)⟩
      case measure => simp [RowKit.intOf]; omega
    · have HR := Lib.hid (below_step H11.out HBr.out)
      go_wp2
      go_ret
      exact ⟨rfl, HR.out⟩

set_option maxRecDepth 100000 in
theorem ptpBack_lifted (os : Os) (started : os.Started) (H : Type) (enc : TypeId × Value → H) :
    ReturnsInHanded {} Try.checked os 9 .any (Rows.ptpBackSpec.pre6 enc Try.prog Try.f9 [] false) (Rows.ptpBackSpec.post enc Try.prog Try.f9 false true false false) := by
  refine law_lifted started Try.func9 (by kernel_rfl)
    (ChangeSpec.witness6 (enc := enc) (C := Try.checked) false ⟨#[], #[.agg #[.int .u8 0, .int .u8 0, .int .i64 0, .int .i64 0, .int .u64 0, .int .u64 0, .int .u16 0, .int .u16 0, .int .u16 0, .int .i32 0, .int .u8 0, .int .u8 0, .int .u8 0, .int .u8 0, .int .u16 0], .int .u8 0], []⟩ 8 (by kernel_rfl) (by kernel_rfl) (by kernel_rfl) (by kernel_rfl))
    rfl (by kernel_rfl) (by kernel_rfl) (fun ds hd => ?_) ?_
  · rw [Try.params9] at hd
    match ds, hd with
    | [_, _], _ => exact ⟨rfl, rfl, rfl⟩
  · intro W base args ds p hval hA
    rw [Try.params9] at hA hval
    obtain ⟨v0, vs0, d0, ds0, p0, q0, ha0, rfl, rfl, h0, r0⟩ := trodAll_cons hA
    obtain ⟨v1, vs1, d1, ds1, p1, q1, ha1, rfl, rfl, h1, r1⟩ := trodAll_cons r0
    obtain ⟨hz, rfl, rfl⟩ := trodAll_nil r1
    obtain rfl : args = #[v0, v1] := by
      subst hz
      subst ha1
      cases args; simpa using ha0
    obtain ⟨x0_0, x0_1, x0_2, x0_3, x0_4, x0_5, x0_6, x0_7, x0_8, x0_9, x0_10, x0_11, x0_12, x0_13, x0_14, rfl, w0⟩ := open_draft10 (hval 0 32 v0 rfl rfl) h0
    obtain ⟨x1, rfl, rfl, rfl, w1⟩ := open_int Try.underlying5 (hval 1 5 v1 rfl rfl) h1
    exact ptpBack_walk x0_0 x0_1 x0_2 x0_3 x0_4 x0_5 x0_6 x0_7 x0_8 x0_9 x0_10 x0_11 x0_12 x0_13 x0_14 w0 x1 w1 W

theorem ptpBack_holds : Rows.PtpBackSaid :=
  OpenClaim.holds_of_wide 9 Try.f9 rfl rfl rfl rfl rfl rfl rfl ⟨rfl, rfl, rfl, rfl, rfl⟩ rfl rfl rfl rfl rfl (by kernel_rfl) Try.func9 (by kernel_rfl)
    (of_decide_eq_true (by kernel_rfl)) (by unfold Func.isWrapper; first | (rw [if_pos (by decide +kernel)]; kernel_rfl) | (rw [if_neg (by decide +kernel)]; exact ⟨rfl, rfl⟩))
    (fun os started H enc _ => ptpBack_lifted os started H enc)
#print axioms ptpBack_holds

end Go.Proofs.Ytecengclcaodeaa
