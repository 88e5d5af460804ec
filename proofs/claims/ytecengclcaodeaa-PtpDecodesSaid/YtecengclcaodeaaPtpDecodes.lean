/-
  PtpDecodes: for every input the law returns true, and its arguments read as before. No conditions.
-/
import Derived.Test.YtecengclcaodeaaReadB
import Derived.Test.YtecengclcaodeaaWork10
import Derived.Test.YtecengclcaodeaaQLoad
import Derived.Test.YtecengclcaodeaaAt
import Derived.Test.YtecengclcaodeaaDraft2
import Derived.Test.YtecengclcaodeaaOpenMsg
import Derived.Test.YtecengclcaodeaaLift
namespace Go.Proofs.Ytecengclcaodeaa
open Go.RowKit Go.Lib Plain
open Go.ChangeShapes Go.WideShapes Go.ChangeAt

theorem decRes_len (L : List Int) : (decRes L).length = 17 := by
  match L with
  | [] => rfl
  | k :: r =>
    rw [decRes]
    split
    · unfold decL
      split
      · rw [List.length_take, decM_len]; rfl
      · rfl
    · rfl
/-- Bytes that are not decoded: the error, and no message. -/
theorem dec_no {L : List Int} (h : decErr L ≠ 0) : decErr L = 5 ∧ decRes L = [0, 0, 0, 0, 0, 0, 0, 0, 0, 0, 0, 0, 0, 0, 0, 0, 0] := by
  match L, h with
  | [], _ => exact ⟨rfl, rfl⟩
  | k :: r, h =>
    by_cases hg : sizeV k ≠ 0 ∧ ((k :: r).length : Int) = sizeV k
    · rw [decErr, if_pos hg, decE] at h
      by_cases ho : okM (decM k (k :: r)) (k :: r).length = true
      · rw [if_pos ho] at h
        exact absurd rfl h
      · rw [decErr, if_pos hg, decE, if_neg ho, decRes, if_pos hg, decL, if_neg ho]
        exact ⟨rfl, rfl⟩
    · rw [decErr, if_neg hg, decRes, if_neg hg]
      exact ⟨rfl, rfl⟩
theorem owned_thawed {w : World} {base g cap n : Nat} {xs : List Value} (h : w.ownsRow base 5 1 (.slice (some ⟨g, 0, none⟩) n cap) n xs) (j : Nat) : w.frozen? ⟨g, j, none⟩ = false := by
  rcases h.2 with ⟨h1, _⟩ | ⟨g', cap', cur, hv, _, hg, _⟩
  · cases h1
  · cases hv
    unfold World.frozen?
    rw [hg]
    simp
theorem two_0 : ∀ (a b : Value) (w : World), (Instr.index 50 (.agg #[a, b]) (.int .i64 0)).run Try.prog w = .ok a w := fun _ _ _ => by kernel_rfl
theorem two_1 : ∀ (a b : Value) (w : World), (Instr.index 50 (.agg #[a, b]) (.int .i64 1)).run Try.prog w = .ok b w := fun _ _ _ => by kernel_rfl

theorem one_mapD (N : List Int) : ∀ v ∈ N.map (Value.int .i64), v.oneCell' = true := by
  intro v hv
  obtain ⟨x, _, rfl⟩ := List.mem_map.1 hv
  rfl
/-- A draft's message and the reference's bytes of it. -/
theorem drf_bytes (dk dd dc dt di do_ dp ds dn db dx0 dx1 dx2 dx3 dv : Int) (h : DrfOk dk dd dc dt di do_ dp ds dn db dx0 dx1 dx2 dx3 dv) : ∃ (A : Array Value) (L : List Int), Bytes L ∧ 22 ≤ L.length ∧ L.length ≤ 38 ∧
    (∀ W, Calls Try.prog 16 #[.agg #[.int .u8 dk, .int .u8 dd, .int .i64 dc, .int .i64 dt, .int .u64 di, .int .u64 do_, .int .u16 dp, .int .u16 ds, .int .u16 dn, .int .i32 db, .int .u8 dx0, .int .u8 dx1, .int .u8 dx2, .int .u8 dx3, .int .u16 dv]] W fun e w' => e = .returned (.agg A) ∧ Below W.heap.size W w') ∧
    (∀ W, Calls Try.prog 21 #[.agg A] W fun e1 w' => ∃ g1 cap, e1 = .returned (.slice (some ⟨g1, 0, none⟩) L.length cap) ∧ (L.length ≤ cap ∧ cap ≤ 9223372036854775807 ∧ W.heap.size ≤ g1) ∧ Lies w' g1 0 L ∧ (∀ j, w'.frozen? ⟨g1, j, none⟩ = false) ∧ Below W.heap.size W w') := by
  obtain ⟨K', D, C, i', p', S, T, P, r, q, a', b', c', v', e, g, s', hE, hR⟩ := drf_right dk dd dc dt di do_ dp ds dn db dx0 dx1 dx2 dx3 dv h
  have hlen : 22 ≤ (encM K' D C i' p' S T P r q a' b' c' v' e g s').length ∧ (encM K' D C i' p' S T P r q a' b' c' v' e g s').length ≤ 38 := by
    rcases kind_of K' D C i' p' S T P r q a' b' c' v' e g s' hR with rfl | rfl | rfl | rfl | rfl | rfl
    · rw [enc_len_0]; decide
    · rw [enc_len_2]; decide
    · rw [enc_len_3]; decide
    · rw [enc_len_10]; decide
    · rw [enc_len_8]; decide
    · rw [enc_len_11]; decide
  refine ⟨(mMsg K' D C i' p' S T P r q a' b' c' v' e g s').toArray, encM K' D C i' p' S T P r q a' b' c' v' e g s', ?_, hlen.1, hlen.2, fun W => ?_, fun W => (rBytes_ok K' D C i' p' S T P r q a' b' c' v' e g s' W hR).mono ?_⟩
  · intro x hx
    rcases List.mem_append.1 hx with h | h
    · exact encF_bd _ _ x h
    · exact encF_bd _ _ x h
  · have hm := draftMsg_any dk dd dc dt di do_ dp ds dn db dx0 dx1 dx2 dx3 dv h W
    rw [hE] at hm
    exact hm
  · rintro y w' ⟨u, rfl, ho, hb⟩
    generalize encM K' D C i' p' S T P r q a' b' c' v' e g s' = E at *
    obtain ⟨g1, cap, rfl⟩ : ∃ g1 cap, u = .slice (some ⟨g1, 0, none⟩) E.length cap := by
      rcases ho.2 with ⟨_, h0⟩ | ⟨g1, cap, cur, rfl, _⟩
      · omega
      · exact ⟨g1, cap, rfl⟩
    exact ⟨g1, cap, rfl, owned_cap ho, lies_owned ho, owned_thawed ho, hb⟩
set_option maxHeartbeats 8000000 in
set_option maxRecDepth 100000 in
theorem ptpDecodes_walk (w : World) (a0 : Option Addr) (L0 : List Int) (cap0 : Nat) (h0 : L0.length ≤ cap0 ∧ cap0 ≤ 9223372036854775807 ∧ Bytes L0 ∧ LiesO w a0 L0) (dk dd dc dt di do_ dp ds dn db dx0 dx1 dx2 dx3 dv : Int) (hd : DrfOk dk dd dc dt di do_ dp ds dn db dx0 dx1 dx2 dx3 dv) (at_ : Int) (hat : (Lit.int .u8 at_).wf = true) (by_ : Int) (hby : (Lit.int .u8 by_).wf = true) :
    Calls Try.prog 5 #[.slice a0 L0.length cap0, .agg #[.int .u8 dk, .int .u8 dd, .int .i64 dc, .int .i64 dt, .int .u64 di, .int .u64 do_, .int .u16 dp, .int .u16 ds, .int .u16 dn, .int .i32 db, .int .u8 dx0, .int .u8 dx1, .int .u8 dx2, .int .u8 dx3, .int .u16 dv], .int .u8 at_, .int .u8 by_] w fun y w' => y = .returned (.bool true) ∧ Below w.heap.size w w' := by
  obtain ⟨hc0, hm0, hB0, hO0⟩ := h0
  have ha0 : 0 ≤ at_ ∧ at_ ≤ 255 := by simpa [Lit.wf, IntKind.min, IntKind.max, IntKind.signed, IntKind.bits] using hat
  have hb0 : 0 ≤ by_ ∧ by_ ≤ 255 := by simpa [Lit.wf, IntKind.min, IntKind.max, IntKind.signed, IntKind.bits] using hby
  clear hat hby
  have had := Lib.hid (show ∀ w, (isAgg 32).run Try.prog w = .ok true w from fun w => by kernel_rfl)
  have hsd := Lib.hid (show ∀ w, (sizeOf 32).run Try.prog w = .ok 15 w from fun w => by kernel_rfl)
  have ha := Lib.hid agg_msg
  obtain ⟨A1, L, b1, lo, up, m1, e1⟩ := drf_bytes dk dd dc dt di do_ dp ds dn db dx0 dx1 dx2 dx3 dv hd
  clear hd
  obtain ⟨n, hn⟩ : ∃ n, L.length = n := ⟨_, rfl⟩
  rw [hn] at lo up e1
  have HE1 := Lib.hid e1
  have HM1 := Lib.hid m1
  obtain ⟨j, hj, hjn⟩ : ∃ j : Nat, at_.tmod (n : Int) = (j : Int) ∧ j < n := by
    refine ⟨(at_ % (n : Int)).toNat, ?_, ?_⟩
    · rw [Int.tmod_eq_emod_of_nonneg ha0.1]
      have := Int.emod_nonneg at_ (show (n : Int) ≠ 0 by omega)
      omega
    · have h1 := Int.emod_nonneg at_ (show (n : Int) ≠ 0 by omega)
      have h2 := Int.emod_lt_of_pos at_ (show (0 : Int) < n by omega)
      omega
  obtain ⟨x, hx⟩ : ∃ x, L[j]? = some x := ⟨L[j]'(by omega), List.getElem?_eq_getElem _⟩
  have hxb := b1 x (List.mem_of_getElem? hx)
  obtain ⟨y, hy⟩ : ∃ y, bits .xor .u8 x by_ = y := ⟨_, rfl⟩
  have hyb : 0 ≤ y ∧ y ≤ 255 := by
    rw [← hy, u8_xor x by_ hxb.1 (by omega) hb0.1 (by omega)]
    have := Nat.xor_lt_two_pow (n := 8) (show x.toNat < 2 ^ 8 by omega) (show by_.toNat < 2 ^ 8 by omega)
    omega
  have hB1 : Bytes (L.set j y) := fun b hb => by
    rcases List.mem_or_eq_of_mem_set hb with h | h
    · exact b1 b h
    · omega
  have hl1 : (L.set j y).length = n := by rw [List.length_set, hn]
  obtain ⟨m, hm⟩ : ∃ m, (L0.take 60).length = m := ⟨_, rfl⟩
  have hmin : (if (60 : Int) < (L0.length : Int) then (60 : Int) else (L0.length : Int)) = (m : Int) := by
    rw [← hm, List.length_take]
    split <;> omega
  have hmc : m ≤ cap0 := by rw [← hm, List.length_take]; omega
  have hB2 : Bytes (L0.take 60) := fun b hb => hB0 b (List.mem_of_mem_take hb)
  have hO2 := hO0.take 60
  have H0 := Lib.hid (Below.refl w.heap.size w)
  generalize L0.take 60 = X0 at *
  clear m1 e1
  have HX0 := Lib.hid hO2
  clear hO0 hB0 hO2
  go_enter Try.func5, Try.ntmps5
  go_wp2_with fail
  refine (works10_any _).mono ?_
  rintro q w1 ⟨rfl, hb1⟩
  have HD1 := Lib.hid (show Holds w1 w.heap.size [.int .u8 dk, .int .u8 dd, .int .i64 dc, .int .i64 dt, .int .u64 di, .int .u64 do_, .int .u16 dp, .int .u16 ds, .int .u16 dn, .int .i32 db, .int .u8 dx0, .int .u8 dx1, .int .u8 dx2, .int .u8 dx3, .int .u16 dv] from (holds_alloc _ [.int .u8 dk, .int .u8 dd, .int .i64 dc, .int .i64 dt, .int .u64 di, .int .u64 do_, .int .u16 dp, .int .u16 ds, .int .u16 dn, .int .i32 db, .int .u8 dx0, .int .u8 dx1, .int .u8 dx2, .int .u8 dx3, .int .u16 dv] 32 (by simp)).keep hb1)
  have H1 := Lib.hid (below_step (below_alloc (Below.refl _ _) _) hb1)
  clear hb1 H0
  go_wp2_with (((with_reducible refine at_load 32 (.tmp 5) ?_); refine wpList_load_whole rfl (.tmp 5) 32 rfl w.heap.size 0 [.int .u8 dk, .int .u8 dd, .int .i64 dc, .int .i64 dt, .int .u64 di, .int .u64 do_, .int .u16 dp, .int .u16 ds, .int .u16 dn, .int .i32 db, .int .u8 dx0, .int .u8 dx1, .int .u8 dx2, .int .u8 dx3, .int .u16 dv] rfl had.out hsd.out HD1.out ?_))
  refine (HM1.out _).mono ?_
  rintro q w2 ⟨rfl, hb2⟩
  have H2 := Lib.hid (below_step H1.out hb2)
  have z2 := H2.out.size
  clear hb2 HD1 H1
  go_wp2_with fail
  refine (HE1.out _).mono ?_
  rintro q w3 ⟨g1, cap1, rfl, ⟨hc1, hm1, hg1⟩, hl3, hf3, hb3⟩
  have c3 : w3.cell? ⟨g1, j, none⟩ = some (.int .u8 x) := by simpa using hl3 j x hx
  have f3 := hf3 j
  have K3 := Lib.hid hl3
  have H3 := Lib.hid (below_step H2.out hb3)
  clear hb3 H2 hl3 hf3
  have hn0 : ¬ (n : Int) = 0 := by omega
  have hn1 : ¬ n = 0 := by omega
  go_wp2
  have HY := Lib.hid (show Lies (w3.setCell ⟨g1, j, none⟩ (.int .u8 y)) g1 0 (L.set j y) from K3.out.set j y)
  have H4 := Lib.hid (H3.out.setCell (p := ⟨g1, j, none⟩) (by simp; omega) (.int .u8 y))
  generalize w3.setCell ⟨g1, j, none⟩ (.int .u8 y) = w4 at *
  have el : ∀ k : Nat, k < 2 → ∃ (a : Option Addr) (X : List Int) (N cap : Nat), (∀ W, (Instr.index 50 (.agg #[.slice a0 m cap0, .slice (some ⟨g1, 0, none⟩) n cap1]) (.int .i64 (k : Int))).run Try.prog W = .ok (.slice a N cap) W) ∧ X.length = N ∧ Bytes X ∧ N ≤ cap ∧ cap ≤ 9223372036854775807 ∧ LiesO w4 a X := by
    intro k hk
    rcases (show k = 0 ∨ k = 1 by omega) with rfl | rfl
    · exact ⟨a0, X0, m, cap0, fun W => two_0 _ _ W, hm, hB2, hmc, hm0, HX0.out.keep H4.out⟩
    · exact ⟨_, L.set j y, n, cap1, fun W => two_1 _ _ W, hl1, hB1, hc1, hm1, .inr ⟨g1, 0, rfl, HY.out⟩⟩
  have EL := Lib.hid el
  clear el HY HX0 H3 K3 c3 f3 hB1 hB2 hl1 hm hmin hn0 hn1
  generalize ((n : Int) == 0) = bz
  go_loopw [39] (fun i wr => ∃ k : Nat, k ≤ 2 ∧ i = .int .i64 k ∧ Below w4.heap.size w4 wr) (fun i _ => 2 - (RowKit.intOf i).toNat)
  case atStart => exact ⟨0, by omega, rfl, Below.refl _ _⟩
  case round =>
    obtain ⟨k, hk, rfl, hB⟩ := hrel
    have HBr := Lib.hid hB
    clear hB
    by_cases hlt : k < 2
    · obtain ⟨a, X, N, cap, hi, hXn, hXB, hXc, hXm, hXO⟩ := EL.out k hlt
      have XO := Lib.hid hXO
      clear hXO
      have HDc := Lib.hid (show ∀ W, LiesO W a X → Calls Try.prog 22 #[.slice a N cap] W fun e w' => e = .returned (.tuple #[.agg (msgA (decRes X)), .int .i64 (decErr X)]) ∧ Below W.heap.size W w' from fun W h => by
        have hd := decodeO (cap := cap) hXB (by omega) hXm W h
        rw [hXn] at hd
        exact hd)
      have HRd := Lib.hid (fun W h => readAny a N cap X hXB hXn W h)
      have hl1 : ((decRes X).map (Value.int .i64)).length = 17 := by rw [List.length_map, decRes_len]
      have hs1 := Lib.hid (show ∀ w, (sizeOf 27).run Try.prog w = .ok ((decRes X).map (Value.int .i64)).length w from fun w => by rw [hl1]; exact size_msg w)
      have ho1 := Lib.hid (one_mapD (decRes X))
      have hne : ∀ W, (binOp .neq 27 (.agg ((decRes X).map (Value.int .i64)).toArray) (.agg ((decRes X).map (Value.int .i64)).toArray)).run Try.prog W = .ok (.bool false) W := fun W => msgA_neq (decRes_len X) W
      have hcase : decErr X = 0 ∨ decErr X = 5 := by
        by_cases h : decErr X = 0
        · exact .inl h
        · exact .inr (dec_no h).1
      have HCa := Lib.hid hcase
      unfold msgA at *
      generalize (decRes X).map (Value.int .i64) = L1 at *
      generalize decErr X = ee at *
      clear hcase hXB hXc hXm hXn
      have hHC := HCa.out
      go_wp2_with fail
      refine (HDc.out _ (XO.out.keep HBr.out)).mono ?_
      rintro q w5 ⟨rfl, hb5⟩
      have H5 := Lib.hid (below_step HBr.out hb5)
      have z5 := H5.out.size
      clear hb5 HBr
      go_wp2_with ((with_reducible refine at_store 27 (.tmp 12) (.tmp 45) ?_); refine wpList_store_whole rfl (.tmp 12) (.tmp 45) 27 rfl w5.heap.size 0 L1 rfl rfl hs1.out (zM_here _ hl1 rfl) (fun j _ => frozen_new _ _ _ _ rfl) ho1.out ?_; intro w6 hw6)
      have H6 := Lib.hid (hw6.below _ _ z5 (below_alloc H5.out _))
      have M6 := Lib.hid (show Holds w6 w5.heap.size L1 from hw6.here)
      clear H5
      refine (HRd.out _ (XO.out.keep H6.out)).mono ?_
      rintro q w7 ⟨rfl, hb7⟩
      have H7 := Lib.hid (below_step H6.out hb7)
      have M7 := Lib.hid (M6.out.keep hb7)
      have z7 := H7.out.size
      have x7 : w5.heap.size < w7.heap.size := World.block_lt_of_cell? _ _ (M7.out 0 _ (List.getElem?_eq_getElem (by omega)))
      clear hb7 hw6 H6 M6
      rcases hHC with rfl | rfl
      · go_wp2_with (first | ((with_reducible refine at_store 27 (.tmp 14) (.tmp 50) ?_); refine wpList_store_whole rfl (.tmp 14) (.tmp 50) 27 rfl w7.heap.size 0 L1 rfl rfl hs1.out (zM_here _ hl1 rfl) (fun j _ => frozen_new _ _ _ _ rfl) ho1.out ?_; intro w8 hw8; have N8 := Lib.hid ((M7.out.alloc x7 (.cells zM.toArray 27)).wrote hw8 (by omega))) | ((with_reducible refine at_load 27 (.tmp 12) ?_); refine wpList_load_wanted (by rfl) (.tmp 12) 27 rfl w5.heap.size 0 L1 rfl ha.out hs1.out N8.out ?_; simp only [Act.put, List.setIfInBounds_toArray, List.set_cons_succ, List.set_cons_zero]) | ((with_reducible refine at_load 27 (.tmp 14) ?_); refine wpList_load_wanted (by rfl) (.tmp 14) 27 rfl w7.heap.size 0 L1 rfl ha.out hs1.out hw8.here ?_; simp only [Act.put, List.setIfInBounds_toArray, List.set_cons_succ, List.set_cons_zero]))
        go_roundw
        case rel => exact ⟨k + 1, by omega, by go_num, hw8.below _ _ z7 (below_alloc H7.out _)⟩
        case measure => simp [RowKit.intOf]; omega
      · go_wp2_with (first | ((with_reducible refine at_store 27 (.tmp 14) (.tmp 50) ?_); refine wpList_store_whole rfl (.tmp 14) (.tmp 50) 27 rfl w7.heap.size 0 L1 rfl rfl hs1.out (zM_here _ hl1 rfl) (fun j _ => frozen_new _ _ _ _ rfl) ho1.out ?_; intro w8 hw8; have N8 := Lib.hid ((M7.out.alloc x7 (.cells zM.toArray 27)).wrote hw8 (by omega))) | ((with_reducible refine at_load 27 (.tmp 12) ?_); refine wpList_load_wanted (by rfl) (.tmp 12) 27 rfl w5.heap.size 0 L1 rfl ha.out hs1.out N8.out ?_; simp only [Act.put, List.setIfInBounds_toArray, List.set_cons_succ, List.set_cons_zero]) | ((with_reducible refine at_load 27 (.tmp 14) ?_); refine wpList_load_wanted (by rfl) (.tmp 14) 27 rfl w7.heap.size 0 L1 rfl ha.out hs1.out hw8.here ?_; simp only [Act.put, List.setIfInBounds_toArray, List.set_cons_succ, List.set_cons_zero]))
        go_roundw
        case rel => exact ⟨k + 1, by omega, by go_num, hw8.below _ _ z7 (below_alloc H7.out _)⟩
        case measure => simp [RowKit.intOf]; omega
    · have HR := Lib.hid (below_step H4.out HBr.out)
      go_wp2
      go_ret
      exact ⟨rfl, HR.out⟩

set_option maxRecDepth 100000 in
theorem ptpDecodes_lifted (os : Os) (started : os.Started) (H : Type) (enc : TypeId × Value → H) :
    ReturnsInHanded {} Try.checked os 5 .any (Rows.ptpDecodesSpec.pre6 enc Try.prog Try.f5 [] false) (Rows.ptpDecodesSpec.post enc Try.prog Try.f5 false true false false) := by
  refine law_lifted started Try.func5 (by kernel_rfl)
    (ChangeSpec.witness6 (enc := enc) (C := Try.checked) false ⟨#[], #[.slice none 0 0, .agg #[.int .u8 0, .int .u8 0, .int .i64 0, .int .i64 0, .int .u64 0, .int .u64 0, .int .u16 0, .int .u16 0, .int .u16 0, .int .i32 0, .int .u8 0, .int .u8 0, .int .u8 0, .int .u8 0, .int .u16 0], .int .u8 0, .int .u8 0], []⟩ 8 (by kernel_rfl) (by kernel_rfl) (by kernel_rfl) (by kernel_rfl))
    rfl (by kernel_rfl) (by kernel_rfl) (fun ds hd => ?_) ?_
  · rw [Try.params5] at hd
    match ds, hd with
    | [_, _, _, _], _ => exact ⟨rfl, rfl, rfl⟩
  · intro W base args ds p hval hA
    rw [Try.params5] at hA hval
    obtain ⟨v0, vs0, d0, ds0, p0, q0, ha0, rfl, rfl, h0, r0⟩ := trodAll_cons hA
    obtain ⟨v1, vs1, d1, ds1, p1, q1, ha1, rfl, rfl, h1, r1⟩ := trodAll_cons r0
    obtain ⟨v2, vs2, d2, ds2, p2, q2, ha2, rfl, rfl, h2, r2⟩ := trodAll_cons r1
    obtain ⟨v3, vs3, d3, ds3, p3, q3, ha3, rfl, rfl, h3, r3⟩ := trodAll_cons r2
    obtain ⟨hz, rfl, rfl⟩ := trodAll_nil r3
    obtain rfl : args = #[v0, v1, v2, v3] := by
      subst hz
      subst ha3
      subst ha2
      subst ha1
      cases args; simpa using ha0
    obtain ⟨x0_0, x0_1, x0_2, rfl, w0⟩ := open_bytes (hval 0 44 v0 rfl rfl) h0
    obtain ⟨x1_0, x1_1, x1_2, x1_3, x1_4, x1_5, x1_6, x1_7, x1_8, x1_9, x1_10, x1_11, x1_12, x1_13, x1_14, rfl, w1⟩ := open_draft10 (hval 1 32 v1 rfl rfl) h1
    obtain ⟨x2, rfl, rfl, rfl, w2⟩ := open_int Try.underlying5 (hval 2 5 v2 rfl rfl) h2
    obtain ⟨x3, rfl, rfl, rfl, w3⟩ := open_int Try.underlying5 (hval 3 5 v3 rfl rfl) h3
    exact ptpDecodes_walk W x0_0 x0_1 x0_2 w0 x1_0 x1_1 x1_2 x1_3 x1_4 x1_5 x1_6 x1_7 x1_8 x1_9 x1_10 x1_11 x1_12 x1_13 x1_14 w1 x2 w2 x3 w3

theorem ptpDecodes_holds : Rows.PtpDecodesSaid :=
  OpenClaim.holds_of_wide 5 Try.f5 rfl rfl rfl rfl rfl rfl rfl ⟨rfl, rfl, rfl, rfl, rfl⟩ rfl rfl rfl rfl rfl (by kernel_rfl) Try.func5 (by kernel_rfl)
    (of_decide_eq_true (by kernel_rfl)) (by unfold Func.isWrapper; first | (rw [if_pos (by decide +kernel)]; kernel_rfl) | (rw [if_neg (by decide +kernel)]; exact ⟨rfl, rfl⟩))
    (fun os started H enc _ => ptpDecodes_lifted os started H enc)
#print axioms ptpDecodes_holds

end Go.Proofs.Ytecengclcaodeaa
