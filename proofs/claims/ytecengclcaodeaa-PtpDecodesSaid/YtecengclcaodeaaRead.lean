/-
  The reference's Read, and how it answers beside Decode. No conditions.
-/
import Derived.Test.YtecengclcaodeaaReadP
import Derived.Test.YtecengclcaodeaaRefB
import Derived.Test.YtecengclcaodeaaR10All
import Derived.Test.YtecengclcaodeaaBent
import Derived.Test.YtecengclcaodeaaStep
import Derived.Test.YtecengclcaodeaaClone
import Derived.Test.YtecengclcaodeaaOpenRow
import Derived.Test.YtecengclcaodeaaAt
import Derived.Deep.RegionHeld3
import Derived.Deep.DeepCutAuto
namespace Go.Proofs.Ytecengclcaodeaa
open Go.RowKit Go.Lib Plain

section
variable {P : Program} {ops : Array Oper} {o : Oper} {a : Act} {S : World → Prop} {v u : Value} {w w' : World} {K : Act → World → Prop} {Q : Exit → Act → World → Prop} {E : Prop}
theorem yields_move {x : Operand} (hw : Region.wanted o (yielded ops a.tmps) = true) (ho : o.op = .move x) (hv : a.eval x = v) : YieldsIf P ops S o v a :=
  .inl ⟨hw, fun w _ => by simp [execOp, ho, hv]⟩
theorem yields_run (hw : Region.wanted o (yielded ops a.tmps) = true) (h : ∀ w, (execOp a.eval o).run P w = .ok (.value v) w) : YieldsIf P ops S o v a := .inl ⟨hw, fun w _ => h w⟩
theorem yields_convert {f t : TypeId} {x : Operand} (hw : Region.wanted o (yielded ops a.tmps) = true) (ho : o.op = .convert f t x) (hx : a.eval x = u) (h : ∀ w, S w → (convert f t u).run P w = .ok v w) : YieldsIf P ops S o v a :=
  .inl ⟨hw, fun w hw => by simp [execOp, ho, hx, h w hw, Result.andThen]⟩
theorem yields_load {t : TypeId} {x : Operand} (hw : Region.wanted o (yielded ops a.tmps) = true) (ho : o.op = .load t x) (b : Nat) (c : List Value) (hx : a.eval x = .pointer (some ⟨b, 0, none⟩)) (hagg : ∀ w, (isAgg t).run P w = .ok true w) (hsz : ∀ w, (sizeOf t).run P w = .ok c.length w)
    (hS : ∀ w, S w → Holds w b c) : YieldsIf P ops S o (.agg c.toArray) a :=
  .inl ⟨hw, fun w hw => by
    have hrun := run_loadVar_whole (P := P) (w := w) t b 0 c hagg hsz (hS w hw)
    simp [execOp, ho, hx, Instr.loadAt, Instr.sureAddr, hrun, Result.andThen]⟩
theorem step_runs (hw : Region.wanted o (yielded ops a.tmps) = true) (h : (execOp a.eval o).run P w = .ok (.value v) w') (hn : K (a.put o.dst v) w') : if Region.wanted o (yielded ops a.tmps) = true then Oper.wp P o a w K Q else E := by
  rw [if_pos hw]
  unfold Oper.wp
  rw [h]
  exact hn
theorem run_convert {f t : TypeId} {x : Operand} (ho : o.op = .convert f t x) (hx : a.eval x = u) (h : (convert f t u).run P w = .ok v w) : (execOp a.eval o).run P w = .ok (.value v) w := by simp [execOp, ho, hx, h, Result.andThen]
theorem run_binOp {op : BinOp} {t t2 : TypeId} {x y : Operand} {u2 : Value} (ho : o.op = .binOp op t x y t2) (hx : a.eval x = u) (hy : a.eval y = u2) (hq : (eqGuard op t x y u u2).run P w = .ok () w) (h : (binOp op t u u2).run P w = .ok v w) : (execOp a.eval o).run P w = .ok (.value v) w := by simp [execOp, ho, hx, hy, hq, h, Result.andThen]
theorem step_not (hw : Region.wanted o (yielded ops a.tmps) = false) (hn : K (a.put o.dst undef) w) : if Region.wanted o (yielded ops a.tmps) = true then Oper.wp P o a w K Q else K (a.put o.dst undef) w := by
  rw [if_neg (by rw [hw]; decide)]
  exact hn
end
theorem Lies.far {w : World} {b b' o k : Nat} {L : List Int} (h : Lies w b o L) (hne : b' ≠ b) (v : Value) : Lies (w.setCell ⟨b', k, none⟩ v) b o L := fun j x hx => by
  rw [World.cell?_setCell_far _ _ _ _ hne]; exact h j x hx
theorem str_neq {a b : List Int} (ha : Bytes a) (hb : Bytes b) (w : World) : (binOp .neq 9 (.string (strOfNums a)) (.string (strOfNums b))).run Try.prog w = .ok (.bool (!decide (a = b))) w := by
  by_cases h : a = b
  · subst h
    simp [go_sem]
  · have : strOfNums a ≠ strOfNums b := fun e => h (strOf_inj ha hb e)
    have h2 : ¬ (strOfNums a).toList = (strOfNums b).toList := fun e => this (by
      rw [ByteArray.toList_eq, ByteArray.toList_eq] at e
      generalize strOfNums a = x at *
      generalize strOfNums b = y at *
      obtain ⟨⟨x⟩⟩ := x
      obtain ⟨⟨y⟩⟩ := y
      simp at e
      rw [e])
    simp [go_sem, h, h2]
theorem rsizeV_any (K : Int) (w : World) : Calls Try.prog 14 #[.int .i64 K] w fun e w' => e = .returned (.int .i64 (sizeV K)) ∧ w = w' := by
  by_cases k0 : K = 0
  · subst k0; exact rsize_0 w
  by_cases k2 : K = 2
  · subst k2; exact rsize_2 w
  by_cases k3 : K = 3
  · subst k3; exact rsize_3 w
  by_cases k8 : K = 8
  · subst k8; exact rsize_8 w
  by_cases k10 : K = 10
  · subst k10; exact rsize_10 w
  by_cases k11 : K = 11
  · subst k11; exact rsize_11 w
  have e : sizeV K = 0 := by
    unfold sizeV
    rw [if_neg (fun h => h.elim k0 k2), if_neg (fun h => h.elim k3 k10), if_neg k8, if_neg k11]
  rw [e]
  exact rsize_other K w k0 k2 k3 k8 k10 k11
theorem str_guard (x y : Operand) (a b : ByteArray) (w : World) : (eqGuard .neq 9 x y (.string a) (.string b)).run Try.prog w = .ok () w := by kernel_rfl
theorem zero_here {w : World} {b : Nat} (h : Holds w b (mMsg 0 0 0 0 0 0 0 0 0 0 0 0 0 0 0 0 0)) : ∀ j, j < 17 → (w.cell? ⟨b, 0 + j, none⟩).isSome = true := fun j hj => h.some j hj

set_option maxHeartbeats 16000000 in
set_option maxRecDepth 100000 in
/-- isochronref10.Read, where the length is that of the kind. -/
theorem read_ok (blk off cap : Nat) (L : List Int) (hB : Bytes L) (K : Int) (h0 : L[0]? = some K) (hg : sizeV K ≠ 0 ∧ (L.length : Int) = sizeV K) (w : World) (hl : Lies w blk off L) :
    Calls Try.prog 23 #[.slice (some ⟨blk, off, none⟩) L.length cap] w fun y w' => y = .returned (.tuple #[.agg (msgA (decRes L)), .bool (decide (decErr L = 0))]) ∧ Below w.heap.size w w' := by
  have ha := Lib.hid agg_msg
  have hs := Lib.hid size_msg
  have HR := Lib.hid (fun k (hk : K = k) => hk)
  have hk : K = 0 ∨ K = 2 ∨ K = 3 ∨ K = 10 ∨ K = 8 ∨ K = 11 := by
    have h0 := hg.1
    unfold sizeV at h0
    (repeat' split at h0) <;> first | omega | exact absurd rfl h0
  have h22 : 22 ≤ L.length ∧ L.length ≤ 38 := by
    have h1 := hg.2
    rcases hk with rfl | rfl | rfl | rfl | rfl | rfl
    · rw [show sizeV 0 = 22 from rfl] at h1; omega
    · rw [show sizeV 2 = 22 from rfl] at h1; omega
    · rw [show sizeV 3 = 38 from rfl] at h1; omega
    · rw [show sizeV 10 = 38 from rfl] at h1; omega
    · rw [show sizeV 8 = 34 from rfl] at h1; omega
    · rw [show sizeV 11 = 36 from rfl] at h1; omega
  obtain ⟨D, h1⟩ : ∃ D, L[1]? = some D := ⟨_, List.getElem?_eq_getElem (by omega)⟩
  have k0 := hB K (List.mem_of_getElem? h0)
  have d0 := hB D (List.mem_of_getElem? h1)
  obtain ⟨N, hN⟩ : ∃ N, L.length = N := ⟨_, rfl⟩
  obtain ⟨C, e_G4⟩ : ∃ C, wrap64 (uV ((L.drop 4).take 8)) = C := ⟨_, rfl⟩
  obtain ⟨i, e_G12⟩ : ∃ i, uV ((L.drop 12).take 6) = i := ⟨_, rfl⟩
  obtain ⟨p, e_G18⟩ : ∃ p, uV ((L.drop 18).take 2) = p := ⟨_, rfl⟩
  obtain ⟨S, e_G20⟩ : ∃ S, uV ((L.drop 20).take 2) = S := ⟨_, rfl⟩
  have G4 := Lib.hid (show ∀ W, Lies W blk off L → Calls Try.prog 38 #[.slice (some ⟨blk, off, none⟩) N cap, .int .i64 4] W fun e w' => e = .returned (.int .i64 C) ∧ W = w' from fun W h => by have := signed_any blk off cap 4 L hB (by omega) W h (by omega); rw [hN] at this; rw [← e_G4]; exact this)
  have G12 := Lib.hid (show ∀ W, Lies W blk off L → Calls Try.prog 39 #[.slice (some ⟨blk, off, none⟩) N cap, .int .i64 12, .int .i64 6] W fun e w' => e = .returned (.int .i64 i) ∧ W = w' from fun W h => by have := get_any blk off cap 12 6 L hB (by omega) W h (by omega) (by omega); rw [hN] at this; rw [← e_G12]; exact this)
  have G18 := Lib.hid (show ∀ W, Lies W blk off L → Calls Try.prog 39 #[.slice (some ⟨blk, off, none⟩) N cap, .int .i64 18, .int .i64 2] W fun e w' => e = .returned (.int .i64 p) ∧ W = w' from fun W h => by have := get_any blk off cap 18 2 L hB (by omega) W h (by omega) (by omega); rw [hN] at this; rw [← e_G18]; exact this)
  have G20 := Lib.hid (show ∀ W, Lies W blk off L → Calls Try.prog 39 #[.slice (some ⟨blk, off, none⟩) N cap, .int .i64 20, .int .i64 2] W fun e w' => e = .returned (.int .i64 S) ∧ W = w' from fun W h => by have := get_any blk off cap 20 2 L hB (by omega) W h (by omega) (by omega); rw [hN] at this; rw [← e_G20]; exact this)
  have hsz : ∀ W, Calls Try.prog 14 #[.int .i64 K] W fun e w' => e = .returned (.int .i64 (N : Int)) ∧ W = w' := fun W => by
    have := rsizeV_any K W
    rw [← hg.2, hN] at this
    exact this
  have c0 : w.cell? ⟨blk, off, none⟩ = some (.int .u8 K) := hl 0 K h0
  have c1 : w.cell? ⟨blk, off + 1, none⟩ = some (.int .u8 D) := hl 1 D h1
  have hblk : blk < w.heap.size := World.block_lt_of_cell? _ _ c0
  have HL := Lib.hid hl
  have HH := Lib.hid (And.intro h0 (And.intro h1 (And.intro hg (And.intro e_G4 (And.intro e_G12 (And.intro e_G18 e_G20))))))
  have hNb : 22 ≤ N ∧ N ≤ 38 := by omega
  rw [hN]
  clear hl h0 h1 hg e_G4 e_G12 e_G18 e_G20 h22
  have HS := Lib.hid hsz
  clear hsz
  have hNl : ¬ ((N : Int) < 22) := by omega
  have hN0 : (0 : Int) < (N : Int) := by omega
  have hN1 : (1 : Int) < (N : Int) := by omega
  have hN2 : 0 < N := by omega
  have hwK : IntKind.i64.wrap K = K := by simp [IntKind.wrap, IntKind.signed, IntKind.bits]; omega
  have hwD : IntKind.i64.wrap D = D := by simp [IntKind.wrap, IntKind.signed, IntKind.bits]; omega
  go_enter Try.func23, Try.ntmps23
  go_wp2_with fail
  refine (HS.out _).mono ?_
  rintro y w1 ⟨rfl, rfl⟩
  go_upto_region 3 with fail
  refine wp_world ?_
  intro V hV
  have HLV := Lib.hid (show Lies V blk off L by subst hV; exact HL.out.alloc _)
  have GZ := Lib.hid (show Holds V w.heap.size (mMsg 0 0 0 0 0 0 0 0 0 0 0 0 0 0 0 0 0) by subst hV; exact holds_alloc w (mMsg 0 0 0 0 0 0 0 0 0 0 0 0 0 0 0 0 0) 27 rfl)
  have FZ := Lib.hid (show ∀ u, V.frozen? ⟨w.heap.size, u, none⟩ = false by subst hV; intro u; exact frozen_new _ _ _ _ rfl)
  have zV : w.heap.size < V.heap.size := by subst hV; simp
  have HV := Lib.hid (show Below w.heap.size w V by subst hV; exact below_alloc (Below.refl _ _) _)
  have v0 : V.cell? ⟨blk, off, none⟩ = some (.int .u8 K) := by subst hV; exact cell_al c0 _
  have v1 : V.cell? ⟨blk, off + 1, none⟩ = some (.int .u8 D) := by subst hV; exact cell_al c1 _
  have hbV : blk < V.heap.size := by omega
  clear hV c0 c1
  go_cut [4] (fun s4 wx => s4 = .pointer (some ⟨V.heap.size, 0, none⟩) ∧ Holds wx V.heap.size (mMsg K D C i p S 0 0 0 0 0 0 0 0 0 0 0) ∧ (∀ u, wx.frozen? ⟨V.heap.size, u, none⟩ = false) ∧ Below V.heap.size V wx)
  case first =>
    go_region_held3 (fun w' => w'.cell? ⟨blk, off, none⟩ = some (.int .u8 K) ∧ w'.cell? ⟨blk, off + 1, none⟩ = some (.int .u8 D)) (first | (go_keep; done) | (refine ⟨?_, ?_⟩ <;> (go_keep; done)) | fail) (first | (go_at_call 38; refine (G4.out _ (by first | exact HLV.out.drew | exact (HLV.out.alloc _).drew)).mono ?_; rintro e6 w6 ⟨rfl, rfl⟩) | (go_at_call 39; first | (with_reducible refine (G12.out _ (by first | exact HLV.out.drew | exact (HLV.out.alloc _).drew)).mono ?_; rintro e6 w6 ⟨rfl, rfl⟩) | (with_reducible refine (G18.out _ (by first | exact HLV.out.drew | exact (HLV.out.alloc _).drew)).mono ?_; rintro e6 w6 ⟨rfl, rfl⟩) | (with_reducible refine (G20.out _ (by first | exact HLV.out.drew | exact (HLV.out.alloc _).drew)).mono ?_; rintro e6 w6 ⟨rfl, rfl⟩)) | fail)
    all_goals
      refine then_world ?_
      intro W9 hW9
      have HI := Lib.hid (show Holds W9 V.heap.size (mMsg K D C i p S 0 0 0 0 0 0 0 0 0 0 0) by subst hW9; (try rw [hwK]); (try rw [hwD]); first | exact holds_alloc _ (mMsg K D C i p S 0 0 0 0 0 0 0 0 0 0 0) 27 rfl | exact (holds_alloc _ (mMsg K D C i p S 0 0 0 0 0 0 0 0 0 0 0) 27 rfl).drew)
      have HB9 := Lib.hid (show Below V.heap.size V W9 by subst hW9; repeat (first | exact Below.refl _ _ | refine Below.drew ?_ | refine below_alloc ?_ _))
      have FO9 : ∀ u, W9.frozen? ⟨V.heap.size, u, none⟩ = false := by subst hW9; intro u; first | exact frozen_new _ _ _ _ (by simp) | simp [go_sem]
      clear hW9
      go_wp2
      go_meet
      exact ⟨rfl, HI.out, FO9, HB9.out⟩
  case rest =>
    obtain ⟨rfl, hm, FO9, hb⟩ := hcut
    have HI := Lib.hid hm
    have HLc := Lib.hid (HLV.out.keep hb)
    have GZc := Lib.hid (GZ.out.keep hb)
    have FZc := Lib.hid (show ∀ u, wc.frozen? ⟨w.heap.size, u, none⟩ = false from fun u => by rw [(bcell hb).2 _ _ zV]; exact FZ.out u)
    have Hc := Lib.hid (below_step HV.out hb)
    have zc : V.heap.size < wc.heap.size := World.block_lt_of_cell? _ _ (hm 0 _ rfl)
    have zv := Nat.le_of_lt zV
    clear hm hb HLV GZ FZ HV v0 v1 hwK hwD
    have FO := Lib.hid FO9
    clear FO9
    have hbz : V.heap.size ≠ blk := by omega
    have hwz : V.heap.size ≠ w.heap.size := by omega
    generalize wc = Wc at *
    clear wc
    rename_i K' hK'
    refine hK' _ _ ?_
    apply wp_seq_k
    intro K1 hK1
    go_cut [] (fun wx => ∃ T P r q a b c v e g s ln : Int, decM K L = [K, D, C, i, p, S, T, P, r, q, a, b, c, v, e, g, s, ln] ∧ Holds wx V.heap.size (mMsg K D C i p S T P r q a b c v e g s) ∧ Lies wx blk off L ∧ Holds wx w.heap.size (mMsg 0 0 0 0 0 0 0 0 0 0 0 0 0 0 0 0 0) ∧ (∀ u, wx.frozen? ⟨w.heap.size, u, none⟩ = false) ∧ Below w.heap.size w wx)
    case first =>
      rcases hk with rfl | rfl | rfl | rfl | rfl | rfl
      · clear d0
        have m0 : Wc.cell? ⟨V.heap.size, 0, none⟩ = some (.int .i64 0) := HI.out 0 _ rfl
        have hNk : 22 ≤ N := by
          have h := HH.out.2.2.1.2
          rw [show sizeV 0 = 22 from rfl] at h
          omega
        go_wp2
        go_meet
        obtain ⟨h0, h1, hg, e_C, e_i, e_p, e_S⟩ := HH.out
        have hM := decM_0 hB h0 h1 rfl
        rw [e_C, e_i, e_p, e_S] at hM
        exact ⟨0, 0, 0, 0, 0, 0, 0, 0, 0, 0, 0, _, hM, HI.out, HLc.out, GZc.out, fun u => by simpa [go_sem] using FZc.out u, Hc.out⟩
      · clear d0
        have m0 : Wc.cell? ⟨V.heap.size, 0, none⟩ = some (.int .i64 2) := HI.out 0 _ rfl
        have hNk : 22 ≤ N := by
          have h := HH.out.2.2.1.2
          rw [show sizeV 2 = 22 from rfl] at h
          omega
        go_wp2
        go_meet
        obtain ⟨h0, h1, hg, e_C, e_i, e_p, e_S⟩ := HH.out
        have hM := decM_2 hB h0 h1 rfl
        rw [e_C, e_i, e_p, e_S] at hM
        exact ⟨0, 0, 0, 0, 0, 0, 0, 0, 0, 0, 0, _, hM, HI.out, HLc.out, GZc.out, fun u => by simpa [go_sem] using FZc.out u, Hc.out⟩
      · clear d0
        have m0 : Wc.cell? ⟨V.heap.size, 0, none⟩ = some (.int .i64 3) := HI.out 0 _ rfl
        have hNk : 38 ≤ N := by
          have h := HH.out.2.2.1.2
          rw [show sizeV 3 = 38 from rfl] at h
          omega
        have c6 : Wc.cell? ⟨V.heap.size, 6, none⟩ = some (.int .i64 0) := HI.out 6 _ rfl
        have f6 := FO.out 6
        have c8 : Wc.cell? ⟨V.heap.size, 8, none⟩ = some (.int .i64 0) := HI.out 8 _ rfl
        have f8 := FO.out 8
        have c9 : Wc.cell? ⟨V.heap.size, 9, none⟩ = some (.int .i64 0) := HI.out 9 _ rfl
        have f9 := FO.out 9
        go_wp2_with fail
        obtain ⟨T, e_T⟩ : ∃ x, wrap64 (uV ((L.drop 22).take 8)) = x := ⟨_, rfl⟩
        have hq := fun (W : World) (h : Lies W blk off L) => signed_any blk off cap 22 L hB (by omega) W h (by omega)
        simp only [hN, e_T] at hq
        refine (hq _ (HLc.out)).mono ?_
        clear hq
        rintro y w7 ⟨rfl, rfl⟩
        go_wp2_with fail
        obtain ⟨r, e_r⟩ : ∃ x, uV ((L.drop 30).take 6) = x := ⟨_, rfl⟩
        have hq := fun (W : World) (h : Lies W blk off L) => get_any blk off cap 30 6 L hB (by omega) W h (by omega) (by omega)
        simp only [hN, e_r] at hq
        refine (hq _ ((Lies.far HLc.out hbz _))).mono ?_
        clear hq
        rintro y w8 ⟨rfl, rfl⟩
        go_wp2_with fail
        obtain ⟨q, e_q⟩ : ∃ x, uV ((L.drop 36).take 2) = x := ⟨_, rfl⟩
        have hq := fun (W : World) (h : Lies W blk off L) => get_any blk off cap 36 2 L hB (by omega) W h (by omega) (by omega)
        simp only [hN, e_q] at hq
        refine (hq _ ((Lies.far HLc.out hbz _))).mono ?_
        clear hq
        rintro y w9 ⟨rfl, rfl⟩
        go_wp2
        go_meet
        obtain ⟨h0, h1, hg, e_C, e_i, e_p, e_S⟩ := HH.out
        have hM := decM_3 hB h0 h1 rfl
        rw [e_C, e_i, e_p, e_S, e_T, e_r, e_q] at hM
        exact ⟨T, 0, r, q, 0, 0, 0, 0, 0, 0, 0, _, hM, (Holds.set (Holds.set (Holds.set HI.out 6 (.int .i64 T)) 8 (.int .i64 r)) 9 (.int .i64 q)), (Lies.far (Lies.far (Lies.far HLc.out hbz _) hbz _) hbz _), (Holds.far (b' := V.heap.size) (Holds.far (b' := V.heap.size) (Holds.far (b' := V.heap.size) GZc.out hwz _) hwz _) hwz _), fun u => by simpa [go_sem] using FZc.out u, (Below.setCell (p := ⟨V.heap.size, 9, none⟩) (Below.setCell (p := ⟨V.heap.size, 8, none⟩) (Below.setCell (p := ⟨V.heap.size, 6, none⟩) Hc.out (by show w.heap.size ≤ V.heap.size; omega) _) (by show w.heap.size ≤ V.heap.size; omega) _) (by show w.heap.size ≤ V.heap.size; omega) _)⟩
      · clear d0
        have m0 : Wc.cell? ⟨V.heap.size, 0, none⟩ = some (.int .i64 10) := HI.out 0 _ rfl
        have hNk : 38 ≤ N := by
          have h := HH.out.2.2.1.2
          rw [show sizeV 10 = 38 from rfl] at h
          omega
        have c6 : Wc.cell? ⟨V.heap.size, 6, none⟩ = some (.int .i64 0) := HI.out 6 _ rfl
        have f6 := FO.out 6
        have c8 : Wc.cell? ⟨V.heap.size, 8, none⟩ = some (.int .i64 0) := HI.out 8 _ rfl
        have f8 := FO.out 8
        have c9 : Wc.cell? ⟨V.heap.size, 9, none⟩ = some (.int .i64 0) := HI.out 9 _ rfl
        have f9 := FO.out 9
        go_wp2_with fail
        obtain ⟨T, e_T⟩ : ∃ x, wrap64 (uV ((L.drop 22).take 8)) = x := ⟨_, rfl⟩
        have hq := fun (W : World) (h : Lies W blk off L) => signed_any blk off cap 22 L hB (by omega) W h (by omega)
        simp only [hN, e_T] at hq
        refine (hq _ (HLc.out)).mono ?_
        clear hq
        rintro y w7 ⟨rfl, rfl⟩
        go_wp2_with fail
        obtain ⟨r, e_r⟩ : ∃ x, uV ((L.drop 30).take 6) = x := ⟨_, rfl⟩
        have hq := fun (W : World) (h : Lies W blk off L) => get_any blk off cap 30 6 L hB (by omega) W h (by omega) (by omega)
        simp only [hN, e_r] at hq
        refine (hq _ ((Lies.far HLc.out hbz _))).mono ?_
        clear hq
        rintro y w8 ⟨rfl, rfl⟩
        go_wp2_with fail
        obtain ⟨q, e_q⟩ : ∃ x, uV ((L.drop 36).take 2) = x := ⟨_, rfl⟩
        have hq := fun (W : World) (h : Lies W blk off L) => get_any blk off cap 36 2 L hB (by omega) W h (by omega) (by omega)
        simp only [hN, e_q] at hq
        refine (hq _ ((Lies.far HLc.out hbz _))).mono ?_
        clear hq
        rintro y w9 ⟨rfl, rfl⟩
        go_wp2
        go_meet
        obtain ⟨h0, h1, hg, e_C, e_i, e_p, e_S⟩ := HH.out
        have hM := decM_10 hB h0 h1 rfl
        rw [e_C, e_i, e_p, e_S, e_T, e_r, e_q] at hM
        exact ⟨T, 0, r, q, 0, 0, 0, 0, 0, 0, 0, _, hM, (Holds.set (Holds.set (Holds.set HI.out 6 (.int .i64 T)) 8 (.int .i64 r)) 9 (.int .i64 q)), (Lies.far (Lies.far (Lies.far HLc.out hbz _) hbz _) hbz _), (Holds.far (b' := V.heap.size) (Holds.far (b' := V.heap.size) (Holds.far (b' := V.heap.size) GZc.out hwz _) hwz _) hwz _), fun u => by simpa [go_sem] using FZc.out u, (Below.setCell (p := ⟨V.heap.size, 9, none⟩) (Below.setCell (p := ⟨V.heap.size, 8, none⟩) (Below.setCell (p := ⟨V.heap.size, 6, none⟩) Hc.out (by show w.heap.size ≤ V.heap.size; omega) _) (by show w.heap.size ≤ V.heap.size; omega) _) (by show w.heap.size ≤ V.heap.size; omega) _)⟩
      · clear d0
        have m0 : Wc.cell? ⟨V.heap.size, 0, none⟩ = some (.int .i64 8) := HI.out 0 _ rfl
        have hNk : 34 ≤ N := by
          have h := HH.out.2.2.1.2
          rw [show sizeV 8 = 34 from rfl] at h
          omega
        have c6 : Wc.cell? ⟨V.heap.size, 6, none⟩ = some (.int .i64 0) := HI.out 6 _ rfl
        have f6 := FO.out 6
        have c7 : Wc.cell? ⟨V.heap.size, 7, none⟩ = some (.int .i64 0) := HI.out 7 _ rfl
        have f7 := FO.out 7
        go_wp2_with fail
        obtain ⟨T, e_T⟩ : ∃ x, wrap64 (uV ((L.drop 22).take 8)) = x := ⟨_, rfl⟩
        have hq := fun (W : World) (h : Lies W blk off L) => signed_any blk off cap 22 L hB (by omega) W h (by omega)
        simp only [hN, e_T] at hq
        refine (hq _ (HLc.out)).mono ?_
        clear hq
        rintro y w7 ⟨rfl, rfl⟩
        go_wp2_with fail
        obtain ⟨P0, e_P0⟩ : ∃ x, uV ((L.drop 30).take 4) = x := ⟨_, rfl⟩
        have hq := fun (W : World) (h : Lies W blk off L) => get_any blk off cap 30 4 L hB (by omega) W h (by omega) (by omega)
        simp only [hN, e_P0] at hq
        refine (hq _ ((Lies.far HLc.out hbz _))).mono ?_
        clear hq
        rintro y w8 ⟨rfl, rfl⟩
        have hp0 : 0 ≤ P0 ∧ P0 < 4294967296 := by
          rw [← e_P0]
          have h1 := uV_bd _ (tk hB 30 4)
          have h2 : (256 : Int) ^ ((L.drop 30).take 4).length ≤ 256 ^ 4 := pow256_le (tl 30 4)
          have h3 : (256 : Int) ^ 4 = 4294967296 := by decide
          omega
        by_cases hge : 2147483648 ≤ P0
        · have hP : (if 2147483648 ≤ P0 then P0 - 4294967296 else P0) = P0 - 4294967296 := if_pos hge
          go_wp2
          go_meet
          obtain ⟨h0, h1, hg, e_C, e_i, e_p, e_S⟩ := HH.out
          have hM := decM_8 hB h0 h1 rfl
          rw [e_C, e_i, e_p, e_S, e_T, e_P0, hP] at hM
          exact ⟨T, (P0 - 4294967296), 0, 0, 0, 0, 0, 0, 0, 0, 0, _, hM, (Holds.set (Holds.set (Holds.set HI.out 6 (.int .i64 T)) 7 (.int .i64 P0)) 7 (.int .i64 (P0 - 4294967296))), (Lies.far (Lies.far (Lies.far HLc.out hbz _) hbz _) hbz _), (Holds.far (b' := V.heap.size) (Holds.far (b' := V.heap.size) (Holds.far (b' := V.heap.size) GZc.out hwz _) hwz _) hwz _), fun u => by simpa [go_sem] using FZc.out u, (Below.setCell (p := ⟨V.heap.size, 7, none⟩) (Below.setCell (p := ⟨V.heap.size, 7, none⟩) (Below.setCell (p := ⟨V.heap.size, 6, none⟩) Hc.out (by show w.heap.size ≤ V.heap.size; omega) _) (by show w.heap.size ≤ V.heap.size; omega) _) (by show w.heap.size ≤ V.heap.size; omega) _)⟩
        · have hP : (if 2147483648 ≤ P0 then P0 - 4294967296 else P0) = P0 := if_neg hge
          go_wp2
          go_meet
          obtain ⟨h0, h1, hg, e_C, e_i, e_p, e_S⟩ := HH.out
          have hM := decM_8 hB h0 h1 rfl
          rw [e_C, e_i, e_p, e_S, e_T, e_P0, hP] at hM
          exact ⟨T, P0, 0, 0, 0, 0, 0, 0, 0, 0, 0, _, hM, (Holds.set (Holds.set HI.out 6 (.int .i64 T)) 7 (.int .i64 P0)), (Lies.far (Lies.far HLc.out hbz _) hbz _), (Holds.far (b' := V.heap.size) (Holds.far (b' := V.heap.size) GZc.out hwz _) hwz _), fun u => by simpa [go_sem] using FZc.out u, (Below.setCell (p := ⟨V.heap.size, 7, none⟩) (Below.setCell (p := ⟨V.heap.size, 6, none⟩) Hc.out (by show w.heap.size ≤ V.heap.size; omega) _) (by show w.heap.size ≤ V.heap.size; omega) _)⟩
      · clear d0
        have m0 : Wc.cell? ⟨V.heap.size, 0, none⟩ = some (.int .i64 11) := HI.out 0 _ rfl
        have hNk : 36 ≤ N := by
          have h := HH.out.2.2.1.2
          rw [show sizeV 11 = 36 from rfl] at h
          omega
        have c10 : Wc.cell? ⟨V.heap.size, 10, none⟩ = some (.int .i64 0) := HI.out 10 _ rfl
        have f10 := FO.out 10
        have c11 : Wc.cell? ⟨V.heap.size, 11, none⟩ = some (.int .i64 0) := HI.out 11 _ rfl
        have f11 := FO.out 11
        have c12 : Wc.cell? ⟨V.heap.size, 12, none⟩ = some (.int .i64 0) := HI.out 12 _ rfl
        have f12 := FO.out 12
        have c13 : Wc.cell? ⟨V.heap.size, 13, none⟩ = some (.int .i64 0) := HI.out 13 _ rfl
        have f13 := FO.out 13
        have c14 : Wc.cell? ⟨V.heap.size, 14, none⟩ = some (.int .i64 0) := HI.out 14 _ rfl
        have f14 := FO.out 14
        have c15 : Wc.cell? ⟨V.heap.size, 15, none⟩ = some (.int .i64 0) := HI.out 15 _ rfl
        have f15 := FO.out 15
        have c16 : Wc.cell? ⟨V.heap.size, 16, none⟩ = some (.int .i64 0) := HI.out 16 _ rfl
        have f16 := FO.out 16
        go_wp2_with fail
        obtain ⟨a, e_a⟩ : ∃ x, uV ((L.drop 22).take 1) = x := ⟨_, rfl⟩
        have hq := fun (W : World) (h : Lies W blk off L) => get_any blk off cap 22 1 L hB (by omega) W h (by omega) (by omega)
        simp only [hN, e_a] at hq
        refine (hq _ (HLc.out)).mono ?_
        clear hq
        rintro y w7 ⟨rfl, rfl⟩
        go_wp2_with fail
        obtain ⟨b, e_b⟩ : ∃ x, uV ((L.drop 23).take 1) = x := ⟨_, rfl⟩
        have hq := fun (W : World) (h : Lies W blk off L) => get_any blk off cap 23 1 L hB (by omega) W h (by omega) (by omega)
        simp only [hN, e_b] at hq
        refine (hq _ (HLc.out)).mono ?_
        clear hq
        rintro y w8 ⟨rfl, rfl⟩
        go_wp2_with fail
        obtain ⟨c, e_c⟩ : ∃ x, uV ((L.drop 24).take 1) = x := ⟨_, rfl⟩
        have hq := fun (W : World) (h : Lies W blk off L) => get_any blk off cap 24 1 L hB (by omega) W h (by omega) (by omega)
        simp only [hN, e_c] at hq
        refine (hq _ (HLc.out)).mono ?_
        clear hq
        rintro y w9 ⟨rfl, rfl⟩
        go_wp2_with fail
        obtain ⟨v, e_v⟩ : ∃ x, uV ((L.drop 25).take 2) = x := ⟨_, rfl⟩
        have hq := fun (W : World) (h : Lies W blk off L) => get_any blk off cap 25 2 L hB (by omega) W h (by omega) (by omega)
        simp only [hN, e_v] at hq
        refine (hq _ (HLc.out)).mono ?_
        clear hq
        rintro y w10 ⟨rfl, rfl⟩
        go_wp2_with fail
        obtain ⟨e, e_e⟩ : ∃ x, uV ((L.drop 27).take 1) = x := ⟨_, rfl⟩
        have hq := fun (W : World) (h : Lies W blk off L) => get_any blk off cap 27 1 L hB (by omega) W h (by omega) (by omega)
        simp only [hN, e_e] at hq
        refine (hq _ (HLc.out)).mono ?_
        clear hq
        rintro y w11 ⟨rfl, rfl⟩
        go_wp2_with fail
        obtain ⟨g, e_g⟩ : ∃ x, uV ((L.drop 28).take 6) = x := ⟨_, rfl⟩
        have hq := fun (W : World) (h : Lies W blk off L) => get_any blk off cap 28 6 L hB (by omega) W h (by omega) (by omega)
        simp only [hN, e_g] at hq
        refine (hq _ (HLc.out)).mono ?_
        clear hq
        rintro y w12 ⟨rfl, rfl⟩
        go_wp2_with fail
        obtain ⟨s, e_s⟩ : ∃ x, uV ((L.drop 34).take 2) = x := ⟨_, rfl⟩
        have hq := fun (W : World) (h : Lies W blk off L) => get_any blk off cap 34 2 L hB (by omega) W h (by omega) (by omega)
        simp only [hN, e_s] at hq
        refine (hq _ ((Lies.far (Lies.far (Lies.far (Lies.far (Lies.far (Lies.far HLc.out hbz _) hbz _) hbz _) hbz _) hbz _) hbz _))).mono ?_
        clear hq
        rintro y w13 ⟨rfl, rfl⟩
        go_wp2
        go_meet
        obtain ⟨h0, h1, hg, e_C, e_i, e_p, e_S⟩ := HH.out
        have hM := decM_11 hB h0 h1 rfl
        rw [e_C, e_i, e_p, e_S, e_a, e_b, e_c, e_v, e_e, e_g, e_s] at hM
        exact ⟨0, 0, 0, 0, a, b, c, v, e, g, s, _, hM, (Holds.set (Holds.set (Holds.set (Holds.set (Holds.set (Holds.set (Holds.set HI.out 10 (.int .i64 a)) 11 (.int .i64 b)) 12 (.int .i64 c)) 13 (.int .i64 v)) 14 (.int .i64 e)) 15 (.int .i64 g)) 16 (.int .i64 s)), (Lies.far (Lies.far (Lies.far (Lies.far (Lies.far (Lies.far (Lies.far HLc.out hbz _) hbz _) hbz _) hbz _) hbz _) hbz _) hbz _), (Holds.far (b' := V.heap.size) (Holds.far (b' := V.heap.size) (Holds.far (b' := V.heap.size) (Holds.far (b' := V.heap.size) (Holds.far (b' := V.heap.size) (Holds.far (b' := V.heap.size) (Holds.far (b' := V.heap.size) GZc.out hwz _) hwz _) hwz _) hwz _) hwz _) hwz _) hwz _), fun u => by simpa [go_sem] using FZc.out u, (Below.setCell (p := ⟨V.heap.size, 16, none⟩) (Below.setCell (p := ⟨V.heap.size, 15, none⟩) (Below.setCell (p := ⟨V.heap.size, 14, none⟩) (Below.setCell (p := ⟨V.heap.size, 13, none⟩) (Below.setCell (p := ⟨V.heap.size, 12, none⟩) (Below.setCell (p := ⟨V.heap.size, 11, none⟩) (Below.setCell (p := ⟨V.heap.size, 10, none⟩) Hc.out (by show w.heap.size ≤ V.heap.size; omega) _) (by show w.heap.size ≤ V.heap.size; omega) _) (by show w.heap.size ≤ V.heap.size; omega) _) (by show w.heap.size ≤ V.heap.size; omega) _) (by show w.heap.size ≤ V.heap.size; omega) _) (by show w.heap.size ≤ V.heap.size; omega) _) (by show w.heap.size ≤ V.heap.size; omega) _)⟩
    case rest =>
      obtain ⟨T, P, r, q, a, b, c, v, e, g, s, ln, hM, x1, x2, x3, x4, x5⟩ := hcut
      obtain ⟨h0, h1, hg, _⟩ := HH.out
      obtain ⟨q1, q2⟩ := read_fin hB h0 hg hM
      have HQ1 : rgtB (baseB D C i p S) (kindB K T P r q a b c v e g s) = true ∧ encM K D C i p S T P r q a b c v e g s = L → decErr L = 0 ∧ msgA (decRes L) = (mMsg K D C i p S T P r q a b c v e g s).toArray := fun h => ⟨(q1 h).1, by rw [(q1 h).2]; rfl⟩
      have HQ2 : ¬ (rgtB (baseB D C i p S) (kindB K T P r q a b c v e g s) = true ∧ encM K D C i p S T P r q a b c v e g s = L) → decErr L = 5 ∧ msgA (decRes L) = zM.toArray := fun h => ⟨(q2 h).1, by rw [(q2 h).2]; rfl⟩
      have HRg := Lib.hid (show ∀ W, Calls Try.prog 19 #[.agg (mMsg K D C i p S T P r q a b c v e g s).toArray] W fun y w' => y = .returned (.bool (rgtB (baseB D C i p S) (kindB K T P r q a b c v e g s))) ∧ Below W.heap.size W w' from fun W => rMsgRight_any K D C i p S T P r q a b c v e g s W)
      have HEn := Lib.hid (show ∀ W, rgtB (baseB D C i p S) (kindB K T P r q a b c v e g s) = true → Calls Try.prog 21 #[.agg (mMsg K D C i p S T P r q a b c v e g s).toArray] W fun e1 w' => ∃ u, e1 = .returned u ∧ Str w' u (encM K D C i p S T P r q a b c v e g s) ∧ Below W.heap.size W w' from fun W h => (rBytes_ok K D C i p S T P r q a b c v e g s W h).mono (by
        rintro y w' ⟨u, rfl, ho, hb⟩
        refine ⟨u, rfl, ?_, hb⟩
        generalize encM K D C i p S T P r q a b c v e g s = E at *
        rcases ho.2 with ⟨rfl, h0⟩ | ⟨g1, cap, cur, rfl, _⟩
        · have e : E = [] := List.eq_nil_of_length_eq_zero h0
          rw [e]
          exact str_zero _ _ _
        · exact str_lies (lies_owned ho) cap))
      have hEB : Bytes (encM K D C i p S T P r q a b c v e g s) := fun x hx => (List.mem_append.1 hx).elim (encF_bd _ _ x) (encF_bd _ _ x)
      have hM1 := Lib.hid (mMsg_one K D C i p S T P r q a b c v e g s)
      have hl17 : (mMsg K D C i p S T P r q a b c v e g s).length = 17 := rfl
      have hs1 := Lib.hid (show ∀ w, (sizeOf 27).run Try.prog w = .ok (mMsg K D C i p S T P r q a b c v e g s).length w from size_msg)
      clear q1 q2 h0 h1 hg hM HR HH G4 G12 G18 G20
      generalize rgtB (baseB D C i p S) (kindB K T P r q a b c v e g s) = rb at *
      generalize encM K D C i p S T P r q a b c v e g s = E at *
      generalize mMsg K D C i p S T P r q a b c v e g s = ML at *
      have z0 : w.heap.size < wc.heap.size := World.block_lt_of_cell? _ _ (x3 0 _ rfl)
      have hstr : Str wc (.slice (some ⟨blk, off, none⟩) N cap) L := hN ▸ str_lies x2 cap
      refine hK1 _ _ ?_
      go_upto_region 17 with fail
      refine wp_region_held_drew (S := fun wx => Holds wx V.heap.size ML ∧ Lies wx blk off L ∧ Holds wx w.heap.size (mMsg 0 0 0 0 0 0 0 0 0 0 0 0 0 0 0 0 0) ∧ (∀ u, wx.frozen? ⟨w.heap.size, u, none⟩ = false) ∧ Below w.heap.size w wx) (by kernel_rfl) ⟨x1.drew, fun j x hx => by have := x2 j x hx; simpa [go_sem] using this, x3.drew, fun u => by simpa [go_sem] using x4 u, Below.drew x5⟩ (fun h0 => ?_)
      refine wpAnyH_take (i := 0) (v := .agg ML.toArray) rfl (by kernel_rfl) (by kernel_rfl) (by kernel_rfl) (fun _ _ _ h => h) (yields_load (by kernel_rfl) rfl V.heap.size ML rfl ha.out hs1.out (fun _ h => h.1)) h0 ?_
      simp only [Act.put, List.getElem_toArray, List.getElem_cons_succ, List.getElem_cons_zero, List.setIfInBounds_toArray, List.set_cons_succ, List.set_cons_zero]
      refine wpAnyH_ready (rs := [1]) (by kernel_rfl) (by simp) ?_
      refine AllReadyH.cons rfl (fun K9 hK9 => ?_) AllReadyH.nil
      go_simp
      refine (HRg.out _).mono ?_
      rintro y w5 ⟨rfl, hb5⟩
      refine hK9.out _ _ ⟨h0.1.keep hb5, h0.2.1.keep hb5, h0.2.2.1.keep hb5, fun u => by rw [(bcell hb5).2 _ _ (by simpa using z0)]; exact h0.2.2.2.1 u, below_step h0.2.2.2.2 hb5⟩ (fun h1 => ?_)
      clear hK9 K9 hb5 h0 x1 x2 x3 x4 x5 hstr
      try simp only [Act.put, List.getElem_toArray, List.getElem_cons_succ, List.getElem_cons_zero, List.setIfInBounds_toArray, List.set_cons_succ, List.set_cons_zero]
      cases rb
      · obtain ⟨hz1, hz2⟩ := HQ2 (fun h => by cases h.1)
        refine wpAnyH_take (i := 2) (v := .bool true) rfl (by kernel_rfl) (by kernel_rfl) (by kernel_rfl) (fun _ _ _ h => h) (yields_run (by kernel_rfl) (fun w => by kernel_rfl)) h1 ?_
        simp only [Act.put, List.getElem_toArray, List.getElem_cons_succ, List.getElem_cons_zero, List.setIfInBounds_toArray, List.set_cons_succ, List.set_cons_zero]
        refine wpAnyH_take (i := 3) (v := .bool true) rfl (by kernel_rfl) (by kernel_rfl) (by kernel_rfl) (fun _ _ _ h => h) (yields_move (by kernel_rfl) rfl rfl) h1 ?_
        simp only [Act.put, List.getElem_toArray, List.getElem_cons_succ, List.getElem_cons_zero, List.setIfInBounds_toArray, List.set_cons_succ, List.set_cons_zero]
        refine wpAnyH_take (i := 4) (v := undef) rfl (by kernel_rfl) (by kernel_rfl) (by kernel_rfl) (fun _ _ _ h => h) (.inr ⟨by kernel_rfl, rfl⟩) h1 ?_
        simp only [Act.put, List.getElem_toArray, List.getElem_cons_succ, List.getElem_cons_zero, List.setIfInBounds_toArray, List.set_cons_succ, List.set_cons_zero]
        refine wpAnyH_take (i := 5) (v := undef) rfl (by kernel_rfl) (by kernel_rfl) (by kernel_rfl) (fun _ _ _ h => h) (.inr ⟨by kernel_rfl, rfl⟩) h1 ?_
        simp only [Act.put, List.getElem_toArray, List.getElem_cons_succ, List.getElem_cons_zero, List.setIfInBounds_toArray, List.set_cons_succ, List.set_cons_zero]
        refine wpAnyH_take (i := 6) (v := undef) rfl (by kernel_rfl) (by kernel_rfl) (by kernel_rfl) (fun _ _ _ h => h) (.inr ⟨by kernel_rfl, rfl⟩) h1 ?_
        simp only [Act.put, List.getElem_toArray, List.getElem_cons_succ, List.getElem_cons_zero, List.setIfInBounds_toArray, List.set_cons_succ, List.set_cons_zero]
        refine wpAnyH_take (i := 7) (v := undef) rfl (by kernel_rfl) (by kernel_rfl) (by kernel_rfl) (fun _ _ _ h => h) (.inr ⟨by kernel_rfl, rfl⟩) h1 ?_
        simp only [Act.put, List.getElem_toArray, List.getElem_cons_succ, List.getElem_cons_zero, List.setIfInBounds_toArray, List.set_cons_succ, List.set_cons_zero]
        refine wpAnyH_take (i := 8) (v := undef) rfl (by kernel_rfl) (by kernel_rfl) (by kernel_rfl) (fun _ _ _ h => h) (.inr ⟨by kernel_rfl, rfl⟩) h1 ?_
        simp only [Act.put, List.getElem_toArray, List.getElem_cons_succ, List.getElem_cons_zero, List.setIfInBounds_toArray, List.set_cons_succ, List.set_cons_zero]
        refine wpAnyH_take (i := 9) (v := undef) rfl (by kernel_rfl) (by kernel_rfl) (by kernel_rfl) (fun _ _ _ h => h) (.inr ⟨by kernel_rfl, rfl⟩) h1 ?_
        simp only [Act.put, List.getElem_toArray, List.getElem_cons_succ, List.getElem_cons_zero, List.setIfInBounds_toArray, List.set_cons_succ, List.set_cons_zero]
        refine wpAnyH_take (i := 10) (v := .bool true) rfl (by kernel_rfl) (by kernel_rfl) (by kernel_rfl) (fun _ _ _ h => h) (yields_run (by kernel_rfl) (fun w => by kernel_rfl)) h1 ?_
        simp only [Act.put, List.getElem_toArray, List.getElem_cons_succ, List.getElem_cons_zero, List.setIfInBounds_toArray, List.set_cons_succ, List.set_cons_zero]
        refine wpAnyH_done (by kernel_rfl) ?_ _
        obtain ⟨_, _, HZ, HF, HBw⟩ := h1
        clear HQ1 HQ2 HRg HEn
        go_wp2_with ((with_reducible refine at_store 27 (.tmp 2) (.tmp 96) ?_); refine wpList_store_whole rfl (.tmp 2) (.tmp 96) 27 rfl w.heap.size 0 zM rfl rfl hs.out (zero_here HZ) (fun j _ => HF _) (mMsg_one 0 0 0 0 0 0 0 0 0 0 0 0 0 0 0 0 0) ?_; intro w9 hw9)
        have hL2 := run_loadVar_whole (P := Try.prog) (w := w9) 27 w.heap.size 0 zM ha.out hs.out hw9.here
        exact bodyPost_ret (v := .tuple #[.agg zM.toArray, .bool false]) (results_cell_tmp 2 3 27 Try.results23 w.heap.size 0 _ _ rfl hL2 rfl) rfl ⟨by rw [hz1, hz2]; rfl, hw9.below _ _ (Nat.le_refl _) HBw⟩
      · refine wpAnyH_take (i := 2) (v := .bool false) rfl (by kernel_rfl) (by kernel_rfl) (by kernel_rfl) (fun _ _ _ h => h) (yields_run (by kernel_rfl) (fun w => by kernel_rfl)) h1 ?_
        simp only [Act.put, List.getElem_toArray, List.getElem_cons_succ, List.getElem_cons_zero, List.setIfInBounds_toArray, List.set_cons_succ, List.set_cons_zero]
        refine wpAnyH_take (i := 3) (v := .bool false) rfl (by kernel_rfl) (by kernel_rfl) (by kernel_rfl) (fun _ _ _ h => h) (yields_move (by kernel_rfl) rfl rfl) h1 ?_
        simp only [Act.put, List.getElem_toArray, List.getElem_cons_succ, List.getElem_cons_zero, List.setIfInBounds_toArray, List.set_cons_succ, List.set_cons_zero]
        refine wpAnyH_take (i := 4) (v := .agg ML.toArray) rfl (by kernel_rfl) (by kernel_rfl) (by kernel_rfl) (fun _ _ _ h => h) (yields_load (by kernel_rfl) rfl V.heap.size ML rfl ha.out hs1.out (fun _ h => h.1)) h1 ?_
        simp only [Act.put, List.getElem_toArray, List.getElem_cons_succ, List.getElem_cons_zero, List.setIfInBounds_toArray, List.set_cons_succ, List.set_cons_zero]
        refine wpAnyH_take (i := 7) (v := .slice (some ⟨blk, off, none⟩) N cap) rfl (by kernel_rfl) (by kernel_rfl) (by kernel_rfl) (fun _ _ _ h => h) (yields_move (by kernel_rfl) rfl rfl) h1 ?_
        simp only [Act.put, List.getElem_toArray, List.getElem_cons_succ, List.getElem_cons_zero, List.setIfInBounds_toArray, List.set_cons_succ, List.set_cons_zero]
        refine wpAnyH_take (i := 8) (v := .string (strOfNums L)) rfl (by kernel_rfl) (by kernel_rfl) (by kernel_rfl) (fun _ _ _ h => h) (yields_convert (by kernel_rfl) rfl rfl (fun W h => hN ▸ str_lies h.2.1 cap)) h1 ?_
        simp only [Act.put, List.getElem_toArray, List.getElem_cons_succ, List.getElem_cons_zero, List.setIfInBounds_toArray, List.set_cons_succ, List.set_cons_zero]
        refine wpAnyH_ready (rs := [5]) (by kernel_rfl) (by simp) ?_
        refine AllReadyH.cons rfl (fun K9 hK9 => ?_) AllReadyH.nil
        go_simp
        refine (HEn.out _ rfl).mono ?_
        rintro y w6 ⟨u6, rfl, hS6, hb6⟩
        refine hK9.out _ _ ⟨h1.1.keep hb6, h1.2.1.keep hb6, h1.2.2.1.keep hb6, fun u => by rw [(bcell hb6).2 _ _ (World.block_lt_of_cell? _ _ (h1.2.2.1 0 _ rfl))]; exact h1.2.2.2.1 u, below_step h1.2.2.2.2 hb6⟩ (fun h2 => ?_)
        clear hK9 K9 hb6 h1
        try simp only [Act.put, List.getElem_toArray, List.getElem_cons_succ, List.getElem_cons_zero, List.setIfInBounds_toArray, List.set_cons_succ, List.set_cons_zero]
        refine wpAnyH_ready (rs := [6]) (by kernel_rfl) (by simp) ?_
        refine AllReadyH.cons rfl (fun K9 hK9 => ?_) AllReadyH.nil
        refine step_runs (by kernel_rfl) (run_convert rfl rfl hS6) ?_
        refine hK9.out _ _ h2 (fun _ => ?_)
        clear hK9 K9
        try simp only [Act.put, List.getElem_toArray, List.getElem_cons_succ, List.getElem_cons_zero, List.setIfInBounds_toArray, List.set_cons_succ, List.set_cons_zero]
        refine wpAnyH_ready (rs := [9]) (by kernel_rfl) (by simp) ?_
        refine AllReadyH.cons rfl (fun K9 hK9 => ?_) AllReadyH.nil
        by_cases hE : E = L
        · obtain ⟨hz1, hz2⟩ := HQ1 ⟨rfl, hE⟩
          refine step_runs (v := .bool false) (by kernel_rfl) (run_binOp (u := .string (strOfNums E)) (u2 := .string (strOfNums L)) rfl rfl rfl (str_guard _ _ _ _ _) (by rw [str_neq hEB hB, decide_eq_true hE]; rfl)) ?_
          refine hK9.out _ _ h2 (fun _ => ?_)
          clear hK9 K9
          try simp only [Act.put, List.getElem_toArray, List.getElem_cons_succ, List.getElem_cons_zero, List.setIfInBounds_toArray, List.set_cons_succ, List.set_cons_zero]
          refine wpAnyH_take (i := 10) (v := .bool false) rfl (by kernel_rfl) (by kernel_rfl) (by kernel_rfl) (fun _ _ _ h => h) (yields_run (by kernel_rfl) (fun w => by kernel_rfl)) h2 ?_
          simp only [Act.put, List.getElem_toArray, List.getElem_cons_succ, List.getElem_cons_zero, List.setIfInBounds_toArray, List.set_cons_succ, List.set_cons_zero]
          refine wpAnyH_done (by kernel_rfl) ?_ _
          obtain ⟨HX, _, HZ, HF, HBw⟩ := h2
          clear HQ1 HQ2 HRg HEn hS6
          have hHX := Lib.hid HX
          clear HX
          go_wp2_with (first | ((with_reducible refine at_load 27 (.tmp 4) ?_); refine wpList_load_whole rfl (.tmp 4) 27 rfl V.heap.size 0 ML rfl ha.out hs1.out hHX.out ?_; simp only [Act.put, List.getElem_toArray, List.getElem_cons_succ, List.getElem_cons_zero, List.setIfInBounds_toArray, List.set_cons_succ, List.set_cons_zero]) | ((with_reducible refine at_store 27 (.tmp 2) (.tmp 97) ?_); refine wpList_store_whole rfl (.tmp 2) (.tmp 97) 27 rfl w.heap.size 0 ML rfl rfl hs1.out (fun j hj => zero_here HZ j (by rw [← hl17]; exact hj)) (fun j _ => HF _) hM1.out ?_; intro w9 hw9))
          have hL2 := run_loadVar_whole (P := Try.prog) (w := w9) 27 w.heap.size 0 ML ha.out hs1.out hw9.here
          exact bodyPost_ret (v := .tuple #[.agg ML.toArray, .bool true]) (results_cell_tmp 2 3 27 Try.results23 w.heap.size 0 _ _ rfl hL2 rfl) rfl ⟨by rw [hz1, hz2]; rfl, hw9.below _ _ (Nat.le_refl _) HBw⟩
        · obtain ⟨hz1, hz2⟩ := HQ2 (fun h => hE h.2)
          refine step_runs (v := .bool true) (by kernel_rfl) (run_binOp (u := .string (strOfNums E)) (u2 := .string (strOfNums L)) rfl rfl rfl (str_guard _ _ _ _ _) (by rw [str_neq hEB hB, decide_eq_false hE]; rfl)) ?_
          refine hK9.out _ _ h2 (fun _ => ?_)
          clear hK9 K9
          try simp only [Act.put, List.getElem_toArray, List.getElem_cons_succ, List.getElem_cons_zero, List.setIfInBounds_toArray, List.set_cons_succ, List.set_cons_zero]
          refine wpAnyH_take (i := 10) (v := .bool true) rfl (by kernel_rfl) (by kernel_rfl) (by kernel_rfl) (fun _ _ _ h => h) (yields_run (by kernel_rfl) (fun w => by kernel_rfl)) h2 ?_
          simp only [Act.put, List.getElem_toArray, List.getElem_cons_succ, List.getElem_cons_zero, List.setIfInBounds_toArray, List.set_cons_succ, List.set_cons_zero]
          refine wpAnyH_done (by kernel_rfl) ?_ _
          obtain ⟨_, _, HZ, HF, HBw⟩ := h2
          clear HQ1 HQ2 HRg HEn hS6
          go_wp2_with ((with_reducible refine at_store 27 (.tmp 2) (.tmp 96) ?_); refine wpList_store_whole rfl (.tmp 2) (.tmp 96) 27 rfl w.heap.size 0 zM rfl rfl hs.out (zero_here HZ) (fun j _ => HF _) (mMsg_one 0 0 0 0 0 0 0 0 0 0 0 0 0 0 0 0 0) ?_; intro w9 hw9)
          have hL2 := run_loadVar_whole (P := Try.prog) (w := w9) 27 w.heap.size 0 zM ha.out hs.out hw9.here
          exact bodyPost_ret (v := .tuple #[.agg zM.toArray, .bool false]) (results_cell_tmp 2 3 27 Try.results23 w.heap.size 0 _ _ rfl hL2 rfl) rfl ⟨by rw [hz1, hz2]; rfl, hw9.below _ _ (Nat.le_refl _) HBw⟩

end Go.Proofs.Ytecengclcaodeaa
