/-
  PtpEncodes: for every input the law returns true, and its arguments read as before. No conditions.
-/
import Derived.Test.YtecengclcaodeaaChk10
import Derived.Test.YtecengclcaodeaaRefB
import Derived.Test.YtecengclcaodeaaWork10
import Derived.Test.YtecengclcaodeaaQLoad
import Derived.Test.YtecengclcaodeaaStep
import Derived.Test.YtecengclcaodeaaAt
import Derived.Test.YtecengclcaodeaaDraft2
import Derived.Test.YtecengclcaodeaaOpenMsg
import Derived.Test.YtecengclcaodeaaLift
import Derived.Deep.RegionLawGrows
import Derived.Deep.RegionHeld3
import Derived.Deep.DeepCutAuto
namespace Go.Proofs.Ytecengclcaodeaa
open Go.RowKit Go.Lib Plain
open Go.ChangeShapes Go.WideShapes Go.ChangeAt

/-- Encode, Right and the reference's Bytes of one message. -/
theorem enc_pair {M : List Int} (h : M.length = 17) : (∃ E : List Int, Bytes E ∧ (∀ W, Calls Try.prog 19 #[.agg (msgA M)] W fun y w' => y = .returned (.bool true) ∧ Below W.heap.size W w') ∧
      (∀ W, Calls Try.prog 18 #[.agg (msgA M)] W fun y w' => ∃ g cap, y = .returned (.tuple #[.slice (some ⟨g, 0, none⟩) E.length cap, .int .i64 0]) ∧ Lies w' g 0 E ∧ Below W.heap.size W w') ∧
      (∀ W, Calls Try.prog 21 #[.agg (msgA M)] W fun y w' => ∃ u, y = .returned u ∧ Str w' u E ∧ Below W.heap.size W w')) ∨
    ((∀ W, Calls Try.prog 19 #[.agg (msgA M)] W fun y w' => y = .returned (.bool false) ∧ Below W.heap.size W w') ∧
      (∀ W, Calls Try.prog 18 #[.agg (msgA M)] W fun y w' => y = .returned (.tuple #[.slice none 0 0, .int .i64 200]) ∧ Below W.heap.size W w')) := by
  obtain ⟨K, D, C, i, p, S, T, P, r, q, a, b, c, v, e, g, s, rfl⟩ := seventeen h
  have hr := fun W => rMsgRight_any K D C i p S T P r q a b c v e g s W
  cases hb : rgtB (baseB D C i p S) (kindB K T P r q a b c v e g s)
  · rw [hb] at hr
    exact .inr ⟨hr, fun W => encode_bad K D C i p S T P r q a b c v e g s W hb⟩
  · rw [hb] at hr
    refine .inl ⟨encM K D C i p S T P r q a b c v e g s, ?_, hr, fun W => (encode_ok K D C i p S T P r q a b c v e g s W hb).mono ?_, fun W => (rBytes_ok K D C i p S T P r q a b c v e g s W hb).mono ?_⟩
    · intro x hx
      rcases List.mem_append.1 hx with h | h
      · exact encF_bd _ _ x h
      · exact encF_bd _ _ x h
    · rintro y w' ⟨g1, cap, rfl, ho, hb⟩
      exact ⟨g1, cap, rfl, lies_owned ho, hb⟩
    · rintro y w' ⟨u, rfl, ho, hb⟩
      refine ⟨u, rfl, ?_, hb⟩
      rcases ho.2 with ⟨rfl, h0⟩ | ⟨g1, cap, cur, rfl, _⟩
      · have e : encM K D C i p S T P r q a b c v e g s = [] := List.eq_nil_of_length_eq_zero h0
        rw [e]
        exact str_zero _ _ _
      · exact str_lies (lies_owned ho) cap

theorem info_msg : ∃ i z, Try.prog.info? 27 = some i ∧ i.zero = some z ∧ i.size = 17 ∧ i.bytes = 136 ∧ z.cells.size = 17 := by
  have h : (Try.prog.info? 27).map (fun i => (i.zero.map (fun z => z.cells.size), i.size, i.bytes)) = some (some 17, 17, 136) := by kernel_rfl
  cases hi : Try.prog.info? 27 with
  | none => rw [hi] at h; cases h
  | some i =>
    rw [hi] at h
    simp only [Option.map_some, Option.some.injEq, Prod.mk.injEq] at h
    obtain ⟨hz, h1, h2⟩ := h
    cases hz' : i.zero with
    | none => rw [hz'] at hz; cases hz
    | some z =>
      rw [hz'] at hz
      exact ⟨i, z, rfl, hz', h1, h2, by simpa using hz⟩
set_option maxRecDepth 100000 in
theorem slice_2' (a0 a1 a2 a3 a4 a5 a6 a7 a8 a9 a10 a11 a12 a13 a14 a15 a16 b0 b1 b2 b3 b4 b5 b6 b7 b8 b9 b10 b11 b12 b13 b14 b15 b16 : Value) (w : World) : (Instr.buildSlice 43 2 #[(0, .agg #[a0, a1, a2, a3, a4, a5, a6, a7, a8, a9, a10, a11, a12, a13, a14, a15, a16]), (1, .agg #[b0, b1, b2, b3, b4, b5, b6, b7, b8, b9, b10, b11, b12, b13, b14, b15, b16])]).run Try.prog w = .ok (.slice (some ⟨w.heap.size, 0, none⟩) 2 2) (w.alloc (.cells #[a0, a1, a2, a3, a4, a5, a6, a7, a8, a9, a10, a11, a12, a13, a14, a15, a16, b0, b1, b2, b3, b4, b5, b6, b7, b8, b9, b10, b11, b12, b13, b14, b15, b16] 27)) := by kernel_rfl
theorem slice_2 {X Y : List Value} (hX : X.length = 17) (hY : Y.length = 17) (w : World) : (Instr.buildSlice 43 2 #[(0, .agg X.toArray), (1, .agg Y.toArray)]).run Try.prog w = .ok (.slice (some ⟨w.heap.size, 0, none⟩) 2 2) (w.alloc (.cells (X ++ Y).toArray 27)) := by
  match X, hX, Y, hY with
  | [a0, a1, a2, a3, a4, a5, a6, a7, a8, a9, a10, a11, a12, a13, a14, a15, a16], _, [b0, b1, b2, b3, b4, b5, b6, b7, b8, b9, b10, b11, b12, b13, b14, b15, b16], _ => exact slice_2' a0 a1 a2 a3 a4 a5 a6 a7 a8 a9 a10 a11 a12 a13 a14 a15 a16 b0 b1 b2 b3 b4 b5 b6 b7 b8 b9 b10 b11 b12 b13 b14 b15 b16 w
theorem slice_12 (b : Nat) (w : World) : (Instr.sliceAt 38 (.pointer (some ⟨b, 0, none⟩)) none none none).run Try.prog w = .ok (.slice (some ⟨b, 0, none⟩) 12 12) w := by kernel_rfl
section
variable {P : Program} {ops : Array Oper} {o : Oper} {a : Act} {S : World → Prop} {v p : Value} {w w' : World} {K : Act → World → Prop} {Q : Exit → Act → World → Prop} {E : Prop}
theorem yieldsIf_slice {t : TypeId} {x : Operand} (hgd : o.guard = none) (ho : o.op = .slice t x none none none) (hv : a.eval x = p) (h : ∀ w, (Instr.sliceAt t p none none none).run P w = .ok v w) : YieldsIf P ops S o v a :=
  .inl ⟨by simp [Region.wanted, hgd], fun w _ => by simp [execOp, ho, hv, h, Result.andThen]⟩
theorem yieldsIf_move {x : Operand} (hgd : o.guard = none) (ho : o.op = .move x) (hv : a.eval x = v) : YieldsIf P ops S o v a :=
  .inl ⟨by simp [Region.wanted, hgd], fun w _ => by simp [execOp, ho, hv]⟩
theorem step_run (hgd : o.guard = none) (h : (execOp a.eval o).run P w = .ok (.value v) w') (hn : K (a.put o.dst v) w') : if Region.wanted o (yielded ops a.tmps) = true then Oper.wp P o a w K Q else E := by
  have hw : Region.wanted o (yielded ops a.tmps) = true := by simp [Region.wanted, hgd]
  rw [if_pos hw]
  unfold Oper.wp
  rw [h]
  exact hn
theorem run_buildSlice {t : TypeId} {n : Nat} {ps : Array (Nat × Operand)} {qs : Array (Nat × Value)} (ho : o.op = .buildSlice t n ps) (hq : ps.map (fun (i, x) => (i, a.eval x)) = qs) (h : (Instr.buildSlice t n qs).run P w = .ok v w') : (execOp a.eval o).run P w = .ok (.value v) w' := by
  subst hq
  simp [execOp, ho, h, Result.andThen]
end
theorem flat_at {α : Type} : ∀ (l : List (List α)) (_ : ∀ x ∈ l, x.length = 17) (k : Nat) (x : List α) (_ : l[k]? = some x) (j : Nat) (u : α) (_ : x[j]? = some u), l.flatten[17 * k + j]? = some u
  | [], _, k, _, hx, _, _, _ => by simp at hx
  | y :: l, h, 0, x, hx, j, u, hu => by
    simp at hx
    subst hx
    obtain ⟨hj, _⟩ := List.getElem?_eq_some_iff.1 hu
    rw [List.flatten_cons, Nat.mul_zero, Nat.zero_add, List.getElem?_append_left hj]
    exact hu
  | y :: l, h, k + 1, x, hx, j, u, hu => by
    have hy : y.length = 17 := h y (List.mem_cons_self ..)
    rw [List.flatten_cons, List.getElem?_append_right (by omega), hy, show 17 * (k + 1) + j - 17 = 17 * k + j by omega]
    exact flat_at l (fun z hz => h z (List.mem_cons_of_mem _ hz)) k x (by simpa using hx) j u hu
/-- The fourteen messages of the law. -/
theorem all_14 {M N : List Int} (hM : M.length = 17) (hN : N.length = 17) (n : Int) (k : Nat) (hk : k < 14) : ∃ X : List Int, X.length = 17 ∧ ∀ j u, (X.map (Value.int .i64))[j]? = some u →
    ((bentM N n).flatten.map (Value.int .i64) ++ (M.map (Value.int .i64) ++ N.map (Value.int .i64)))[17 * k + j]? = some u := by
  have e : (bentM N n).flatten.map (Value.int .i64) ++ (M.map (Value.int .i64) ++ N.map (Value.int .i64)) = ((bentM N n ++ [M, N]).flatten).map (Value.int .i64) := by simp
  have hl : (bentM N n ++ [M, N]).length = 14 := by rw [List.length_append, bentM_len hN]; rfl
  have ha : ∀ x ∈ bentM N n ++ [M, N], x.length = 17 := by
    intro x hx
    rcases List.mem_append.1 hx with h | h
    · exact bentM_each hN n x h
    · simp at h
      rcases h with rfl | rfl
      · exact hM
      · exact hN
  obtain ⟨X, hX⟩ : ∃ X, (bentM N n ++ [M, N])[k]? = some X := ⟨_, List.getElem?_eq_getElem (by omega)⟩
  refine ⟨X, ha X (List.mem_of_getElem? hX), fun j u hu => ?_⟩
  rw [e]
  rw [List.getElem?_map] at hu ⊢
  obtain ⟨y, hy, rfl⟩ := Option.map_eq_some_iff.1 hu
  rw [flat_at _ ha k X hX j y hy]
  rfl
theorem flat_len {N : List Int} (hN : N.length = 17) (n : Int) : ((bentM N n).flatten.map (Value.int .i64)).length = 204 := by
  match N, hN with
  | [K, D, C, i, p, S, T, P, r, q, a, b, c, v, e, g, s], _ => rfl
theorem one_map' (N : List Int) : ∀ v ∈ N.map (Value.int .i64), v.oneCell' = true := by
  intro v hv
  obtain ⟨x, _, rfl⟩ := List.mem_map.1 hv
  rfl

set_option maxHeartbeats 8000000 in
set_option maxRecDepth 100000 in
theorem ptpEncodes_walk (w : World) (M : List Int) (hM : M.length = 17) (dk dd dc dt di do_ dp ds dn db dx0 dx1 dx2 dx3 dv : Int) (hd : DrfOk dk dd dc dt di do_ dp ds dn db dx0 dx1 dx2 dx3 dv) (n : Int) :
    Calls Try.prog 4 #[.agg (msgA M), .agg #[.int .u8 dk, .int .u8 dd, .int .i64 dc, .int .i64 dt, .int .u64 di, .int .u64 do_, .int .u16 dp, .int .u16 ds, .int .u16 dn, .int .i32 db, .int .u8 dx0, .int .u8 dx1, .int .u8 dx2, .int .u8 dx3, .int .u16 dv], .int .i64 n] w fun y w' => y = .returned (.bool true) ∧ Below w.heap.size w w' := by
  obtain ⟨i0, z0, hi0, hz0, hz1, hz2, hz3⟩ := info_msg
  have had := Lib.hid (show ∀ w, (isAgg 32).run Try.prog w = .ok true w from fun w => by kernel_rfl)
  have hsd := Lib.hid (show ∀ w, (sizeOf 32).run Try.prog w = .ok 15 w from fun w => by kernel_rfl)
  have ha := Lib.hid agg_msg
  have hs := Lib.hid (show ∀ w, (sizeOf 27).run Try.prog w = .ok (M.map (Value.int .i64)).length w from fun w => by rw [List.length_map, hM]; exact size_msg w)
  obtain ⟨K, R, L, n1, b1, lo, up, sz, m1, e1, d1, f1, g0⟩ := drf_enc dk dd dc dt di do_ dp ds dn db dx0 dx1 dx2 dx3 dv hd
  have HM1 := Lib.hid m1
  have HBn := Lib.hid (fun W => bent_any n1 n W)
  have H14 := Lib.hid (all_14 hM n1 n)
  have ha2 := Lib.hid agg_12
  have hs2 := Lib.hid (show ∀ w, (sizeOf 38).run Try.prog w = .ok ((bentM (K :: R) n).flatten.map (Value.int .i64)).length w from fun w => by rw [flat_len n1]; exact size_12 w)
  have hBl := flat_len n1 n
  have hB1 := Lib.hid (one_map' (bentM (K :: R) n).flatten)
  have hl0 : (M.map (Value.int .i64)).length = 17 := by rw [List.length_map, hM]
  have hl2 : ((K :: R).map (Value.int .i64)).length = 17 := by rw [List.length_map, n1]
  have ho0 := Lib.hid (one_map' M)
  have ho2 := Lib.hid (one_map' (K :: R))
  clear g0 d1 f1 sz hd m1 e1 lo up b1 n1
  unfold msgA at *
  generalize (bentM (K :: R) n).flatten.map (Value.int .i64) = B at *
  generalize (K :: R).map (Value.int .i64) = L2 at *
  generalize M.map (Value.int .i64) = L0 at *
  have hbu := Lib.hid (fun W => slice_2 hl0 hl2 W)
  clear hM
  go_enter Try.func4, Try.ntmps4
  go_upto_region 1 with fail
  refine wp_world ?_
  intro V hV
  have J0 := Lib.hid (show Holds V w.heap.size L0 by subst hV; exact (holds_alloc w L0 27 rfl).alloc (by simp) _)
  have J1 := Lib.hid (show Holds V (w.heap.size + 1) [.int .u8 dk, .int .u8 dd, .int .i64 dc, .int .i64 dt, .int .u64 di, .int .u64 do_, .int .u16 dp, .int .u16 ds, .int .u16 dn, .int .i32 db, .int .u8 dx0, .int .u8 dx1, .int .u8 dx2, .int .u8 dx3, .int .u16 dv] by subst hV; exact holds_alloc _ [.int .u8 dk, .int .u8 dd, .int .i64 dc, .int .i64 dt, .int .u64 di, .int .u64 do_, .int .u16 dp, .int .u16 ds, .int .u16 dn, .int .i32 db, .int .u8 dx0, .int .u8 dx1, .int .u8 dx2, .int .u8 dx3, .int .u16 dv] 32 (by simp))
  have HV := Lib.hid (show Below w.heap.size w V by subst hV; exact below_alloc (below_alloc (Below.refl _ _) _) _)
  clear hV
  go_wp2_with fail
  refine (works10_any _).mono ?_
  rintro q w1 ⟨rfl, hb1⟩
  have A0 := Lib.hid (J0.out.keep hb1)
  have A1 := Lib.hid (J1.out.keep hb1)
  have H1 := Lib.hid (below_step HV.out hb1)
  clear hb1 J0 J1 HV
  go_wp2_with ((with_reducible refine at_load 32 (.tmp 4) ?_); refine wpList_load_whole rfl (.tmp 4) 32 rfl (w.heap.size + 1) 0 [.int .u8 dk, .int .u8 dd, .int .i64 dc, .int .i64 dt, .int .u64 di, .int .u64 do_, .int .u16 dp, .int .u16 ds, .int .u16 dn, .int .i32 db, .int .u8 dx0, .int .u8 dx1, .int .u8 dx2, .int .u8 dx3, .int .u16 dv] rfl had.out hsd.out A1.out ?_; simp only [Act.put, List.setIfInBounds_toArray, List.set_cons_succ, List.set_cons_zero])
  refine (HM1.out _).mono ?_
  rintro q w2 ⟨rfl, hb2⟩
  have B0 := Lib.hid (A0.out.keep hb2)
  have B1 := Lib.hid (A1.out.keep hb2)
  have H2 := Lib.hid (below_step H1.out hb2)
  clear hb2 A0 A1 H1
  go_wp2_with fail
  refine (HBn.out _).mono ?_
  rintro q w3 ⟨rfl, hb3⟩
  have C0 := Lib.hid (B0.out.keep hb3)
  have C1 := Lib.hid (B1.out.keep hb3)
  have H3 := Lib.hid (below_step H2.out hb3)
  have y1 : w.heap.size + 1 < w3.heap.size := World.block_lt_of_cell? _ _ (C1.out 0 _ rfl)
  have y0 : w.heap.size < w3.heap.size := by omega
  clear hb3 B0 B1 H2
  go_upto_region 4 with (first | ((with_reducible refine at_op (.alloc 38) ?_); refine wpList_run rfl (run_alloc rfl (alloc_12 _)) ?_; simp only [Act.put, List.setIfInBounds_toArray, List.set_cons_succ, List.set_cons_zero]) | ((with_reducible refine at_store 38 (.tmp 7) (.tmp 17) ?_); refine wpList_store_whole rfl (.tmp 7) (.tmp 17) 38 rfl w3.heap.size 0 B rfl rfl hs2.out (by rw [hBl]; exact z204_here (holds_alloc _ _ _ rfl)) (fun j _ => frozen_new _ _ _ _ rfl) hB1.out ?_; intro w4 hw4))
  have z3 := H3.out.size
  have D0 := (C0.out.alloc y0 (.cells z204.toArray 38)).wrote hw4 (by omega)
  have D1 := (C1.out.alloc y1 (.cells z204.toArray 38)).wrote hw4 (by omega)
  have D2 : Holds w4 w3.heap.size B := hw4.here
  have D3 := hw4.below _ _ z3 (below_alloc H3.out _)
  refine wp_region_held_drew (S := fun wx => Holds wx w.heap.size L0 ∧ Holds wx (w.heap.size + 1) [.int .u8 dk, .int .u8 dd, .int .i64 dc, .int .i64 dt, .int .u64 di, .int .u64 do_, .int .u16 dp, .int .u16 ds, .int .u16 dn, .int .i32 db, .int .u8 dx0, .int .u8 dx1, .int .u8 dx2, .int .u8 dx3, .int .u16 dv] ∧ Holds wx w3.heap.size B ∧ Below w.heap.size w wx) (by kernel_rfl) ⟨D0.drew, D1.drew, D2.drew, Below.drew D3⟩ (fun h0 => ?_)
  refine wpAnyH_take (i := 0) (v := .slice (some ⟨w3.heap.size, 0, none⟩) 12 12) rfl (by kernel_rfl) (by kernel_rfl) (by kernel_rfl) (fun _ _ _ h => h) (yieldsIf_slice rfl rfl rfl (slice_12 _)) h0 ?_
  simp only [Act.put, List.setIfInBounds_toArray, List.set_cons_succ, List.set_cons_zero]
  refine wpAnyH_take (i := 1) (v := .agg L0.toArray) rfl (by kernel_rfl) (by kernel_rfl) (by kernel_rfl) (fun _ _ _ h => h) (yieldsIf_load_whole rfl (.tmp 3) 27 rfl w.heap.size L0 rfl ha.out hs.out (fun _ h => h.1)) h0 ?_
  simp only [Act.put, List.setIfInBounds_toArray, List.set_cons_succ, List.set_cons_zero]
  refine wpAnyH_take (i := 2) (v := .agg #[.int .u8 dk, .int .u8 dd, .int .i64 dc, .int .i64 dt, .int .u64 di, .int .u64 do_, .int .u16 dp, .int .u16 ds, .int .u16 dn, .int .i32 db, .int .u8 dx0, .int .u8 dx1, .int .u8 dx2, .int .u8 dx3, .int .u16 dv]) rfl (by kernel_rfl) (by kernel_rfl) (by kernel_rfl) (fun _ _ _ h => h) (yieldsIf_load_whole rfl (.tmp 4) 32 rfl (w.heap.size + 1) [.int .u8 dk, .int .u8 dd, .int .i64 dc, .int .i64 dt, .int .u64 di, .int .u64 do_, .int .u16 dp, .int .u16 ds, .int .u16 dn, .int .i32 db, .int .u8 dx0, .int .u8 dx1, .int .u8 dx2, .int .u8 dx3, .int .u16 dv] rfl had.out hsd.out (fun _ h => h.2.1)) h0 ?_
  simp only [Act.put, List.setIfInBounds_toArray, List.set_cons_succ, List.set_cons_zero]
  refine wpAnyH_take (i := 7) (v := .int .i64 0) rfl (by kernel_rfl) (by kernel_rfl) (by kernel_rfl) (fun _ _ _ h => h) (yieldsIf_move rfl rfl rfl) h0 ?_
  simp only [Act.put, List.setIfInBounds_toArray, List.set_cons_succ, List.set_cons_zero]
  refine wpAnyH_ready (rs := [3]) (by kernel_rfl) (by simp) ?_
  refine AllReadyH.cons rfl (fun K hK => ?_) AllReadyH.nil
  go_simp
  refine (HM1.out _).mono ?_
  rintro q w5 ⟨rfl, hb5⟩
  refine hK.out _ _ ⟨h0.1.keep hb5, h0.2.1.keep hb5, h0.2.2.1.keep hb5, below_step h0.2.2.2 hb5⟩ (fun h1 => ?_)
  clear hK K hb5 h0 D0 D1 D2 D3 hw4 C0 C1
  try simp only [Act.put, List.setIfInBounds_toArray, List.set_cons_succ, List.set_cons_zero]
  refine wpAnyH_ready (rs := [4]) (by kernel_rfl) (by simp) ?_
  refine AllReadyH.cons rfl (fun K hK => ?_) AllReadyH.nil
  refine step_run rfl (run_buildSlice (qs := #[(0, .agg L0.toArray), (1, .agg L2.toArray)]) rfl (by simp only [List.map_toArray, List.map_cons, List.map_nil]; rfl) (hbu.out _)) ?_
  have HN : Holds (w5.alloc (.cells (L0 ++ L2).toArray 27)) w5.heap.size (L0 ++ L2) := holds_alloc _ _ _ rfl
  have b5 : w3.heap.size < w5.heap.size := by
    have := World.block_lt_of_cell? _ _ (h1.2.2.1 0 _ (List.getElem?_eq_getElem (by omega)))
    exact this
  refine hK.out _ _ ⟨h1.1.alloc (by omega) _, h1.2.1.alloc (by omega) _, h1.2.2.1.alloc b5 _, below_alloc h1.2.2.2 _⟩ (fun h2 => ?_)
  clear hK K
  try simp only [Act.put, List.setIfInBounds_toArray, List.set_cons_succ, List.set_cons_zero]
  refine wpAnyH_ready (rs := [5]) (by kernel_rfl) (by simp) ?_
  refine AllReadyH.cons rfl (fun K hK => ?_) AllReadyH.nil
  refine step_append_grows rfl (.tmp 18) (.tmp 22) 43 rfl 27 i0 z0 17 136 Try.underlying43 hi0 hz0 hz1 hz2 hz3 (by decide) (some ⟨w3.heap.size, 0, none⟩) 12 12 B rfl (by simp) (by rw [hBl]) (fun b hb j u hu => by
    injection hb with hb
    subst hb
    rw [add_off]
    exact h2.2.2.1 j u hu) ⟨w5.heap.size, 0, none⟩ 2 2 (L0 ++ L2) rfl (by simp [hl0, hl2]) (fun j u hu => by
    rw [add_off]
    exact HN j u hu) (fun u hu => (List.mem_append.1 hu).elim (ho0.out u) (ho2.out u)) (by omega) (by unfold maxLen; omega) (by omega) ?_
  intro v' w6 hown hgrow
  obtain ⟨g, cap', hv'⟩ : ∃ g cap', v' = .slice (some ⟨g, 0, none⟩) 14 cap' := by
    rcases hown.2 with ⟨_, h0⟩ | ⟨g', cap', cur, hv, _⟩
    · omega
    · exact ⟨g', cap', hv⟩
  subst hv'
  have HG := Lib.hid (show Holds w6 g (B ++ (L0 ++ L2)) from fun j u hu => by
    have := hown.cells rfl j u hu
    rw [add_off] at this
    exact this)
  have hb6 : Below (w5.alloc (.cells (L0 ++ L2).toArray 27)).heap.size (w5.alloc (.cells (L0 ++ L2).toArray 27)) w6 := (Below.refl _ _).grown hgrow (Nat.le_refl _) (fun k h => by cases h)
  refine hK.out _ _ ⟨h2.1.keep hb6, h2.2.1.keep hb6, h2.2.2.1.keep hb6, below_step h2.2.2.2 hb6⟩ (fun h3 => ?_)
  have H6 := Lib.hid h3.2.2.2
  clear hK K HN hown hgrow hb6 h1 h2
  try simp only [Act.put, List.setIfInBounds_toArray, List.set_cons_succ, List.set_cons_zero]
  refine wpAnyH_ready (rs := [6]) (by kernel_rfl) (by simp) ?_
  refine AllReadyH.cons rfl (fun K hK => ?_) AllReadyH.nil
  go_simp
  refine hK.out _ _ h3 (fun h4 => ?_)
  clear hK K h3 h4
  try simp only [Act.put, List.setIfInBounds_toArray, List.set_cons_succ, List.set_cons_zero]
  refine wpAnyH_done (by kernel_rfl) ?_ _
  go_wp2_with fail
  clear hbu HBn HM1 hi0 hz0 hz1 hz2 hz3 hs hs2 had hsd ha2 ho0 ho2 hl0 hl2 hBl hB1 H3
  generalize B ++ (L0 ++ L2) = XS at *
  go_loopw [25] (fun i wr => ∃ k : Nat, k ≤ 14 ∧ i = .int .i64 (k : Int) ∧ Holds wr g XS ∧ Below w.heap.size w wr) (fun i _ => 14 - (RowKit.intOf i).toNat)
  case atStart => exact ⟨0, by omega, rfl, HG.out, H6.out⟩
  case round =>
    obtain ⟨k, hk, rfl, g0, g1⟩ := hrel
    have G0 := Lib.hid g0
    have G1 := Lib.hid g1
    have z1 := g1.size
    clear g0 g1 HG H6
    by_cases hlt : k < 14
    · obtain ⟨N, hN, hX⟩ := H14.out k hlt
      have HP := Lib.hid (enc_pair hN)
      have hs1 := Lib.hid (show ∀ w, (sizeOf 27).run Try.prog w = .ok (N.map (Value.int .i64)).length w from fun w => by rw [List.length_map, hN]; exact size_msg w)
      have hl1 : (N.map (Value.int .i64)).length = 17 := by rw [List.length_map, hN]
      have ho1 := Lib.hid (one_map' N)
      unfold msgA at *
      generalize N.map (Value.int .i64) = L1 at *
      clear hN
      have HL := Lib.hid (show ∀ j v, L1[j]? = some v → wr.cell? ⟨g, k * 17 + j, none⟩ = some v from fun j v hv => by simpa [Nat.mul_comm] using G0.out _ _ (hX j v hv))
      have hg : g < wr.heap.size := World.block_lt_of_cell? _ _ (HL.out 0 _ (List.getElem?_eq_getElem (by omega)))
      clear hX
      rcases HP.out with ⟨E, hE, hR, hEn, hBy⟩ | ⟨hR, hEn⟩
      · have HR := Lib.hid hR
        have HEn := Lib.hid hEn
        have HBy := Lib.hid hBy
        clear hR hEn hBy HP
        go_wp2_with (first | ((with_reducible refine at_load 27 (.tmp 27) ?_); refine wpList_load_whole rfl (.tmp 27) 27 rfl g (k * 17) L1 rfl ha.out hs1.out HL.out ?_; simp only [Act.put, List.setIfInBounds_toArray, List.set_cons_succ, List.set_cons_zero]) | ((with_reducible refine at_store 27 (.tmp 9) (.tmp 28) ?_); refine wpList_store_whole rfl (.tmp 9) (.tmp 28) 27 rfl wr.heap.size 0 L1 rfl rfl hs1.out (zM_here _ hl1 rfl) (fun j _ => frozen_new _ _ _ _ rfl) ho1.out ?_; intro w7 hw7) | ((with_reducible refine at_load 27 (.tmp 9) ?_); refine wpList_load_whole rfl (.tmp 9) 27 rfl wr.heap.size 0 L1 rfl ha.out hs1.out hw7.here ?_; simp only [Act.put, List.setIfInBounds_toArray, List.set_cons_succ, List.set_cons_zero]))
        refine (HEn.out _).mono ?_
        rintro q w8 ⟨g8, cap8, rfl, hl8, hb8⟩
        have E8 := Lib.hid hl8
        have N8 := Lib.hid ((show Holds w7 wr.heap.size L1 from hw7.here).keep hb8)
        have X8 := Lib.hid (((G0.out.alloc hg _).wrote hw7 (by omega)).keep hb8)
        have H8 := Lib.hid (below_step (hw7.below _ _ z1 (below_alloc G1.out _)) hb8)
        clear hl8 hb8 hw7 G0 G1 HL
        go_wp2_with ((with_reducible refine at_load 27 (.tmp 9) ?_); refine wpList_load_whole rfl (.tmp 9) 27 rfl wr.heap.size 0 L1 rfl ha.out hs1.out N8.out ?_; simp only [Act.put, List.setIfInBounds_toArray, List.set_cons_succ, List.set_cons_zero])
        refine (HR.out _).mono ?_
        rintro q w9 ⟨rfl, hb9⟩
        have E9 := Lib.hid (E8.out.keep hb9)
        have N9 := Lib.hid (N8.out.keep hb9)
        have X9 := Lib.hid (X8.out.keep hb9)
        have H9 := Lib.hid (below_step H8.out hb9)
        clear hb9 E8 N8 X8 H8
        go_wp2_with ((with_reducible refine at_load 27 (.tmp 9) ?_); refine wpList_load_wanted (by rfl) (.tmp 9) 27 rfl wr.heap.size 0 L1 rfl ha.out hs1.out N9.out ?_; simp only [Act.put, List.setIfInBounds_toArray, List.set_cons_succ, List.set_cons_zero])
        refine (HBy.out _).mono ?_
        rintro q w10 ⟨u10, rfl, hs10, hb10⟩
        have E10 := Lib.hid (E9.out.keep hb10)
        have X10 := Lib.hid (X9.out.keep hb10)
        have H10 := Lib.hid (below_step H9.out hb10)
        have S10 := Lib.hid hs10
        clear hb10 hs10 E9 X9 H9 N9
        go_wp2_with fail
        have hq := equal_any (.slice (some ⟨g8, 0, none⟩) E.length cap8) u10 E E hE hE w10 (str_lies E10.out cap8) S10.out
        rw [decide_eq_true rfl] at hq
        refine hq.mono ?_
        rintro q w11 ⟨rfl, rfl⟩
        go_wp2
        go_roundw
        case rel => exact ⟨k + 1, by omega, by go_num, X10.out, H10.out⟩
        case measure => simp [RowKit.intOf]; omega
      · have HR := Lib.hid hR
        have HEn := Lib.hid hEn
        clear hR hEn HP
        go_wp2_with (first | ((with_reducible refine at_load 27 (.tmp 27) ?_); refine wpList_load_whole rfl (.tmp 27) 27 rfl g (k * 17) L1 rfl ha.out hs1.out HL.out ?_; simp only [Act.put, List.setIfInBounds_toArray, List.set_cons_succ, List.set_cons_zero]) | ((with_reducible refine at_store 27 (.tmp 9) (.tmp 28) ?_); refine wpList_store_whole rfl (.tmp 9) (.tmp 28) 27 rfl wr.heap.size 0 L1 rfl rfl hs1.out (zM_here _ hl1 rfl) (fun j _ => frozen_new _ _ _ _ rfl) ho1.out ?_; intro w7 hw7) | ((with_reducible refine at_load 27 (.tmp 9) ?_); refine wpList_load_whole rfl (.tmp 9) 27 rfl wr.heap.size 0 L1 rfl ha.out hs1.out hw7.here ?_; simp only [Act.put, List.setIfInBounds_toArray, List.set_cons_succ, List.set_cons_zero]))
        refine (HEn.out _).mono ?_
        rintro q w8 ⟨rfl, hb8⟩
        have N8 := Lib.hid ((show Holds w7 wr.heap.size L1 from hw7.here).keep hb8)
        have X8 := Lib.hid (((G0.out.alloc hg _).wrote hw7 (by omega)).keep hb8)
        have H8 := Lib.hid (below_step (hw7.below _ _ z1 (below_alloc G1.out _)) hb8)
        clear hb8 hw7 G0 G1 HL
        go_wp2_with ((with_reducible refine at_load 27 (.tmp 9) ?_); refine wpList_load_whole rfl (.tmp 9) 27 rfl wr.heap.size 0 L1 rfl ha.out hs1.out N8.out ?_; simp only [Act.put, List.setIfInBounds_toArray, List.set_cons_succ, List.set_cons_zero])
        refine (HR.out _).mono ?_
        rintro q w9 ⟨rfl, hb9⟩
        have X9 := Lib.hid (X8.out.keep hb9)
        have H9 := Lib.hid (below_step H8.out hb9)
        clear hb9 N8 X8 H8
        go_wp2
        go_roundw
        case rel => exact ⟨k + 1, by omega, by go_num, X9.out, H9.out⟩
        case measure => simp [RowKit.intOf]; omega
    · go_wp2
      go_ret
      exact ⟨rfl, G1.out⟩
set_option maxRecDepth 100000 in
theorem ptpEncodes_lifted (os : Os) (started : os.Started) (H : Type) (enc : TypeId × Value → H) :
    ReturnsInHanded {} Try.checked os 4 .any (Rows.ptpEncodesSpec.pre6 enc Try.prog Try.f4 [] false) (Rows.ptpEncodesSpec.post enc Try.prog Try.f4 false true false false) := by
  refine law_lifted started Try.func4 (by kernel_rfl)
    (ChangeSpec.witness6 (enc := enc) (C := Try.checked) false ⟨#[], #[.agg #[.int .i64 0, .int .i64 0, .int .i64 0, .int .i64 0, .int .i64 0, .int .i64 0, .int .i64 0, .int .i64 0, .int .i64 0, .int .i64 0, .int .i64 0, .int .i64 0, .int .i64 0, .int .i64 0, .int .i64 0, .int .i64 0, .int .i64 0], .agg #[.int .u8 0, .int .u8 0, .int .i64 0, .int .i64 0, .int .u64 0, .int .u64 0, .int .u16 0, .int .u16 0, .int .u16 0, .int .i32 0, .int .u8 0, .int .u8 0, .int .u8 0, .int .u8 0, .int .u16 0], .int .i64 0], []⟩ 8 (by kernel_rfl) (by kernel_rfl) (by kernel_rfl) (by kernel_rfl))
    rfl (by kernel_rfl) (by kernel_rfl) (fun ds hd => ?_) ?_
  · rw [Try.params4] at hd
    match ds, hd with
    | [_, _, _], _ => exact ⟨rfl, rfl, rfl⟩
  · intro W base args ds p hval hA
    rw [Try.params4] at hA hval
    obtain ⟨v0, vs0, d0, ds0, p0, q0, ha0, rfl, rfl, h0, r0⟩ := trodAll_cons hA
    obtain ⟨v1, vs1, d1, ds1, p1, q1, ha1, rfl, rfl, h1, r1⟩ := trodAll_cons r0
    obtain ⟨v2, vs2, d2, ds2, p2, q2, ha2, rfl, rfl, h2, r2⟩ := trodAll_cons r1
    obtain ⟨hz, rfl, rfl⟩ := trodAll_nil r2
    obtain rfl : args = #[v0, v1, v2] := by
      subst hz
      subst ha2
      subst ha1
      cases args; simpa using ha0
    obtain ⟨x0_0, x0_1, x0_2, x0_3, x0_4, x0_5, x0_6, x0_7, x0_8, x0_9, x0_10, x0_11, x0_12, x0_13, x0_14, x0_15, x0_16, rfl, w0⟩ := open_msg (hval 0 27 v0 rfl rfl) h0
    obtain ⟨x1_0, x1_1, x1_2, x1_3, x1_4, x1_5, x1_6, x1_7, x1_8, x1_9, x1_10, x1_11, x1_12, x1_13, x1_14, rfl, w1⟩ := open_draft10 (hval 1 32 v1 rfl rfl) h1
    obtain ⟨x2, rfl, rfl, rfl, w2⟩ := open_int Try.underlying3 (hval 2 3 v2 rfl rfl) h2
    exact ptpEncodes_walk W [x0_0, x0_1, x0_2, x0_3, x0_4, x0_5, x0_6, x0_7, x0_8, x0_9, x0_10, x0_11, x0_12, x0_13, x0_14, x0_15, x0_16] rfl x1_0 x1_1 x1_2 x1_3 x1_4 x1_5 x1_6 x1_7 x1_8 x1_9 x1_10 x1_11 x1_12 x1_13 x1_14 w1 x2

theorem ptpEncodes_holds : Rows.PtpEncodesSaid :=
  OpenClaim.holds_of_wide 4 Try.f4 rfl rfl rfl rfl rfl rfl rfl ⟨rfl, rfl, rfl, rfl, rfl⟩ rfl rfl rfl rfl rfl (by kernel_rfl) Try.func4 (by kernel_rfl)
    (of_decide_eq_true (by kernel_rfl)) (by unfold Func.isWrapper; first | (rw [if_pos (by decide +kernel)]; kernel_rfl) | (rw [if_neg (by decide +kernel)]; exact ⟨rfl, rfl⟩))
    (fun os started H enc _ => ptpEncodes_lifted os started H enc)
#print axioms ptpEncodes_holds

end Go.Proofs.Ytecengclcaodeaa
