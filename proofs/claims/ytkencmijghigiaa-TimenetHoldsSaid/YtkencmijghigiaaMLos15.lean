/-
  (isochronref15.Missing).Losses: the walk.
-/
import Derived.Laws.OwnMore
import Derived.Test.YtkencmijghigiaaMDrI15
import Derived.Test.YtkencmijghigiaaMFlagL
import Derived.Test.YtkencmijghigiaaMLast15
namespace Go.Proofs.Ytkencmijghigiaa
open Go.RowKit Go.Lib Go.Shelf Plain

theorem infoLss15 : ((Try.prog).info? 52).map (fun i => (i.zero, i.size, i.bytes)) = some (some (.agg #[.int .i64 0, .int .i64 0]), 2, 16) := by kernel_rfl
theorem noagg_u8 : ∀ w, (isAgg 5).run Try.prog w = .ok false w := fun w => by kernel_rfl
theorem noagg_clks15b : ∀ w, (isAgg 29).run Try.prog w = .ok false w := fun w => by kernel_rfl
theorem two_one15b (a b : Int) : ∀ v ∈ [Value.int .i64 a, .int .i64 b], v.oneCell' = true := by
  intro v hv
  simp only [List.mem_cons, List.not_mem_nil, or_false] at hv
  rcases hv with rfl | rfl <;> rfl

/-- The losses that the first k pairs describe; their cells. -/
def losL (a b : Nat → Int) (m : Nat) (k : Nat) : List (Int × Int) := (List.range k).map fun j => (a j % 16, b j % (m : Int))
def losC (a b : Nat → Int) (m : Nat) (k : Nat) : List Value := (List.range k).flatMap fun j => [.int .i64 (a j % 16), .int .i64 (b j % (m : Int))]
theorem losC_snoc (a b : Nat → Int) (m k : Nat) : losC a b m (k + 1) = losC a b m k ++ [.int .i64 (a k % 16), .int .i64 (b k % (m : Int))] := by simp [losC, List.range_succ]
theorem losC_len (a b : Nat → Int) (m : Nat) : ∀ k, (losC a b m k).length = k * 2
  | 0 => rfl
  | k + 1 => by rw [losC_snoc, List.length_append, losC_len a b m k]; simp; omega
theorem losC_at (a b : Nat → Int) (m : Nat) : ∀ k j, j < k → (losC a b m k)[j * 2]? = some (.int .i64 (a j % 16)) ∧ (losC a b m k)[j * 2 + 1]? = some (.int .i64 (b j % (m : Int)))
  | 0, _, h => by omega
  | k + 1, j, h => by
    rw [losC_snoc]
    have hl := losC_len a b m k
    by_cases e : j = k
    · subst e
      rw [List.getElem?_append_right (by omega), List.getElem?_append_right (by omega), hl, show j * 2 - j * 2 = 0 by omega, show j * 2 + 1 - j * 2 = 1 by omega]
      exact ⟨rfl, rfl⟩
    · rw [List.getElem?_append_left (by omega), List.getElem?_append_left (by omega)]
      exact losC_at a b m k j (by omega)

set_option maxHeartbeats 16000000 in
set_option maxRecDepth 100000 in
theorem losses_walk (n : Nt) (hm12 : n.m ≤ 12) (bm om lm km : Nat) (a b : Nat → Int) (hab : ∀ j, j < lm → (0 ≤ a j ∧ a j ≤ 255) ∧ (0 ≤ b j ∧ b j ≤ 255)) (w : World) (hn : n.In w)
    (hin : ∀ j, j < lm → w.cell? ⟨bm, om + j * 2, none⟩ = some (.int .u8 (a j)) ∧ w.cell? ⟨bm, om + j * 2 + 1, none⟩ = some (.int .u8 (b j))) :
    Calls Try.prog 11 #[.slice (some ⟨bm, om, none⟩) lm km, .agg n.vs.toArray] w fun e w' => ∃ v k, e = .returned v ∧ k ≤ 256 ∧ w'.ownsRow (w.heap.size + 1) 52 2 v k (losC a b n.m k) ∧ Below w.heap.size w w' := by
  have HA := Lib.hid hab
  have HI := Lib.hid hin
  have hm1 := hn.m1
  clear hab hin
  go_enter Try.func11, Try.ntmps11
  rw [n.lit]
  go_upto_region 1 with fail
  refine wp_world ?_
  intro V hV
  have HM := Lib.hid (show Holds V w.heap.size n.vs by subst hV; exact holds_alloc w n.vs 32 rfl)
  have HV := Lib.hid (show Below w.heap.size w V by subst hV; exact below_alloc (Below.refl _ _) _)
  have zV : V.heap.size = w.heap.size + 1 := by subst hV; simp
  clear hV
  go_wp2
  go_loopw [5, 6] (fun v p wr => ∃ i : Nat, p = .int .i64 (i : Int) ∧ i ≤ lm ∧ i ≤ 256 ∧ Hid (wr.ownsRow (w.heap.size + 1) 52 2 v i (losC a b n.m i)) ∧ Hid (Holds wr w.heap.size n.vs) ∧ Hid (Below w.heap.size w wr) ∧ w.heap.size + 1 ≤ wr.heap.size)
    (fun _ p _ => 256 - (RowKit.intOf p).toNat)
  case atStart => exact ⟨0, rfl, by omega, by omega, Lib.hid (World.ownsRow_nil _ _ _ _), HM, HV, by omega⟩
  case round =>
    obtain ⟨i, rfl, hi, h2, GO, GM, GB, zr⟩ := hrel
    clear HM HV
    obtain ⟨x, hx⟩ : ∃ x : Int, (i : Int) = x := ⟨_, rfl⟩
    have hxn : x.toNat = i := by omega
    have hx0 : 0 ≤ x := by omega
    rw [hx]
    by_cases hlt : i < lm ∧ i < 256
    · have c1 : x < (lm : Int) := by omega
      have c2 : x < 256 := by omega
      obtain ⟨⟨a0, a1⟩, ⟨b0, b1⟩⟩ := HA.out i hlt.1
      obtain ⟨h0', h1'⟩ := HI.out i hlt.1
      rw [← hxn] at a0 a1 b0 b1
      have k0 := below_keep GB.out h0'
      have k1 := below_keep GB.out h1'
      have k2 : wr.cell? ⟨w.heap.size, 0, none⟩ = some (.slice (some ⟨n.bc, n.oc, none⟩) n.m n.kc) := GM.out 0 _ rfl
      have hi12 : i < 256 := hlt.2
      have HXN := Lib.hid hxn
      have HX := Lib.hid hx
      rw [← hxn] at k0 k1
      clear h0' h1' hxn hx hlt hi h2
      go_upto_region 5 with fail
      obtain ⟨j0, hj0, hk0, hk1, hk2⟩ := info_parts infoLss15
      refine wp_region_flagL 19 (by kernel_rfl) (by kernel_rfl) (fun w' => w'.cell? ⟨bm, om + x.toNat * 2, none⟩ = some (.int .u8 (a x.toNat)) ∧ w'.cell? ⟨bm, om + x.toNat * 2 + 1, none⟩ = some (.int .u8 (b x.toNat)) ∧ w'.cell? ⟨w.heap.size, 0, none⟩ = some (.slice (some ⟨n.bc, n.oc, none⟩) n.m n.kc)) ⟨k0, k1, k2⟩ ?_
      simp only [List.take_succ_cons, List.take_zero, List.drop_succ_cons, List.drop_zero]
      repeat (go_big_quiet_step ((intros; rfl)))
      refine wpQuiet_load_one rfl (.tmp 21) 5 rfl ⟨bm, om + x.toNat * 2, none⟩ (.int .u8 (a x.toNat)) rfl noagg_u8 (fun w h => h.1) ?_
      simp only [Act.put, List.setIfInBounds_toArray, List.set_cons_succ, List.set_cons_zero]
      repeat (go_big_quiet_step ((intros; rfl)))
      refine wpQuiet_load_one rfl (.tmp 28) 5 rfl ⟨bm, om + x.toNat * 2 + 1, none⟩ (.int .u8 (b x.toNat)) rfl noagg_u8 (fun w h => h.2.1) ?_
      simp only [Act.put, List.setIfInBounds_toArray, List.set_cons_succ, List.set_cons_zero]
      repeat (go_big_quiet_step ((intros; rfl)))
      refine wpQuiet_load_one rfl (.tmp 31) 29 rfl ⟨w.heap.size, 0, none⟩ (.slice (some ⟨n.bc, n.oc, none⟩) n.m n.kc) rfl noagg_clks15b (fun w h => h.2.2) ?_
      simp only [Act.put, List.setIfInBounds_toArray, List.set_cons_succ, List.set_cons_zero]
      have hmz : ¬ (n.m : Int) = 0 := by omega
      have htm : Int.tmod (b x.toNat) (n.m : Int) = b x.toNat % (n.m : Int) := Int.tmod_eq_emod_of_nonneg b0
      repeat (go_big_quiet_step ((intros; rfl)))
      refine wpQuiet_nil ?_
      change tailG _ _ _ _ _ wr.drew
      simp only [tailG]
      have lw : w.heap.size < wr.heap.size := by omega
      have lm' : bm < wr.heap.size := World.block_lt_of_cell? _ _ k0
      have lbm : bm < w.heap.size := by
        have := HI.out x.toNat (by omega)
        exact World.block_lt_of_cell? _ _ this.1
      refine wp_of_run (v := .slice (some ⟨wr.heap.size, 0, none⟩) 1 1) (w' := (wr.alloc (.cells #[.int .i64 (a x.toNat % 16), .int .i64 (b x.toNat % (n.m : Int))] 52)).drew) (by simp [execOp, go_sem]) ⟨fun _ => ⟨(World.cell?_alloc_lt _ _ _ lm').trans k0, (World.cell?_alloc_lt _ _ _ lm').trans k1, (World.cell?_alloc_lt _ _ _ lw).trans k2⟩, ?_⟩
      simp only [Act.put, List.setIfInBounds_toArray, List.set_cons_succ, List.set_cons_zero]
      refine wp_append_at15 (.tmp 17) (.tmp 36) 41 rfl (w.heap.size + 1) 52 j0 _ 2 16 Try.underlying41 hj0 hk0 hk1 hk2 rfl (by omega) u5 i (losC a b n.m i) rfl ((GO.out.alloc _).drew) ⟨wr.heap.size, 0, none⟩ 1 1 [.int .i64 (a x.toNat % 16), .int .i64 (b x.toNat % (n.m : Int))] rfl rfl
        (fun j u hj => by rw [add_off]; exact holds_alloc wr [.int .i64 (a x.toNat % 16), .int .i64 (b x.toNat % (n.m : Int))] 52 rfl j u hj) (two_one15b _ _) (by unfold maxLen; omega) (by omega) (by simp; omega) ?_
      intro v' w4 hown hgrow hat
      have hlo := fun k e => (GO.out.lt k e).1
      have hx4 : ∀ k, k < w.heap.size + 1 → w4.heap[k]? = wr.heap[k]? := fun k hk => (hgrow.block k (by simp; omega) (fun e => by have := hlo k e.symm; omega)).trans (Below.heap_alloc _ _ _ (by omega))
      have y0 : w4.cell? ⟨bm, om + x.toNat * 2, none⟩ = some (.int .u8 (a x.toNat)) := (World.cell?_of_block (hx4 bm (by omega))).trans k0
      have y1 : w4.cell? ⟨bm, om + x.toNat * 2 + 1, none⟩ = some (.int .u8 (b x.toNat)) := (World.cell?_of_block (hx4 bm (by omega))).trans k1
      have y2 : w4.cell? ⟨w.heap.size, 0, none⟩ = some (.slice (some ⟨n.bc, n.oc, none⟩) n.m n.kc) := (World.cell?_of_block (hx4 _ (by show w.heap.size < w.heap.size + 1; omega))).trans k2
      refine ⟨fun _ => ⟨y0, y1, y2⟩, ?_⟩
      simp only [Act.put, List.setIfInBounds_toArray, List.set_cons_succ, List.set_cons_zero]
      refine wp_of_run (v := v') (w' := w4) (by simp [execOp, go_sem]) ⟨fun h => absurd rfl h, ?_⟩
      refine NoPanic.normal ?_
      simp only [Act.put, List.setIfInBounds_toArray, List.set_cons_succ, List.set_cons_zero]
      have GO4 := Lib.hid (show w4.ownsRow (w.heap.size + 1) 52 2 v' (i + 1) (losC a b n.m (i + 1)) by rw [losC_snoc, ← HXN.out, ← HXN.out] at *; exact hown)
      have GM4 := Lib.hid (show Holds w4 w.heap.size n.vs from fun j u hj => (World.cell?_of_block (a := ⟨w.heap.size, 0 + j, none⟩) (hx4 _ (by show w.heap.size < w.heap.size + 1; omega))).trans (GM.out j u hj))
      have GB4 := Lib.hid (show Below w.heap.size w w4 from (GB.out.trans (Below.mono (below_alloc (Below.refl _ _) _) (by omega))).drew.grown hgrow (by simp; omega) (fun k e => by have := hlo k e; omega))
      have z4 : w.heap.size + 1 ≤ w4.heap.size := by have := hgrow.size; simp at this; omega
      clear hx4 hown hgrow hat y0 y1 y2 k0 k1 k2
      go_wp2
      go_roundw
      case rel => exact ⟨i + 1, by rw [← HX.out]; simp, by have := HX.out; omega, by omega, GO4, GM4, GB4, z4⟩
      case measure =>
        have := HX.out
        simp [RowKit.intOf]
        omega
    · have hc : ¬ x < (lm : Int) ∨ (x < (lm : Int) ∧ ¬ x < 256) := by omega
      clear hx hxn hlt hi
      rcases hc with c3 | ⟨c3, c4⟩
      all_goals
        go_wp2
        go_ret
        exact ⟨_, rfl, i, h2, GO.out, GB.out⟩

/-- .. of any description. -/
theorem losses_any (n : Nt) (hm12 : n.m ≤ 12) (pm : Option Addr) (lm km : Nat) (a b : Nat → Int) (hab : ∀ j, j < lm → (0 ≤ a j ∧ a j ≤ 255) ∧ (0 ≤ b j ∧ b j ≤ 255)) (w : World) (hn : n.In w)
    (hin : ∀ j, j < lm → ∃ bm om, pm = some ⟨bm, om, none⟩ ∧ w.cell? ⟨bm, om + j * 2, none⟩ = some (.int .u8 (a j)) ∧ w.cell? ⟨bm, om + j * 2 + 1, none⟩ = some (.int .u8 (b j))) :
    Calls Try.prog 11 #[.slice pm lm km, .agg n.vs.toArray] w fun e w' => ∃ (pa : Option Addr) (cap : Nat) (ls : List (Int × Int)), e = .returned (.slice pa ls.length cap) ∧ ls.length ≤ 256 ∧ (∀ y ∈ ls, WfL y) ∧ LsIn pa ls w' ∧ Below w.heap.size w w' := by
  by_cases h0 : lm = 0
  · subst h0
    go_enter Try.func11, Try.ntmps11
    rw [n.lit]
    go_wp2
    go_loopw [5, 6] (fun v p wr => v = .slice none 0 0 ∧ p = .int .i64 0 ∧ wr = w.alloc (.cells n.vs.toArray 32)) (fun _ _ _ => 0)
    case atStart => exact ⟨rfl, rfl, rfl⟩
    case round =>
      obtain ⟨rfl, rfl, rfl⟩ := hrel
      go_wp2
      refine bodyPost_ret (v := .slice none 0 0) (by simp [results, Try.results11]) rfl ?_
      exact ⟨none, 0, [], rfl, by simp, (fun y hy => by cases hy), (fun x h => absurd h (by simp)), below_alloc (Below.refl _ _) _⟩
  · obtain ⟨bm, om, rfl, _, _⟩ := hin 0 (by omega)
    have hin' : ∀ j, j < lm → w.cell? ⟨bm, om + j * 2, none⟩ = some (.int .u8 (a j)) ∧ w.cell? ⟨bm, om + j * 2 + 1, none⟩ = some (.int .u8 (b j)) := fun j hj => by
      obtain ⟨b', o', e, h1, h2⟩ := hin j hj
      cases e
      exact ⟨h1, h2⟩
    refine (losses_walk n hm12 bm om lm km a b hab w hn hin').mono ?_
    rintro e w' ⟨v, k, rfl, hk, ho, hB⟩
    have hm1 := hn.m1
    have hwf : ∀ y ∈ losL a b n.m k, WfL y := fun y hy => by
      obtain ⟨j, _, rfl⟩ := List.mem_map.1 hy
      have h1 := Int.emod_nonneg (a j) (show (16 : Int) ≠ 0 by omega)
      have h2 := Int.emod_lt_of_pos (a j) (show (0 : Int) < 16 by omega)
      have h3 := Int.emod_nonneg (b j) (show (n.m : Int) ≠ 0 by omega)
      have h4 := Int.emod_lt_of_pos (b j) (show (0 : Int) < (n.m : Int) by omega)
      exact ⟨wf64 (by show _ ≤ a j % 16; omega) (by show a j % 16 ≤ _; omega), wf64 (by show _ ≤ b j % (n.m : Int); omega) (by show b j % (n.m : Int) ≤ _; omega)⟩
    have hlen : (losL a b n.m k).length = k := by simp [losL]
    rcases ho.2 with ⟨rfl, rfl⟩ | ⟨g, cap, cur, rfl, _, hg, hn1, _, hcs, htake⟩
    · exact ⟨none, 0, [], rfl, by simp, (fun y hy => by cases hy), (fun x h => absurd h (by simp)), hB⟩
    · refine ⟨some ⟨g, 0, none⟩, cap, losL a b n.m k, by rw [hlen], by rw [hlen]; exact hk, hwf, fun j hj => ?_, hB⟩
      rw [hlen] at hj
      have e1 := ho.cellAt (j * 2) (by omega)
      have e2 := ho.cellAt (j * 2 + 1) (by omega)
      obtain ⟨f1, f2⟩ := losC_at a b n.m k j hj
      rw [f1] at e1
      rw [f2] at e2
      have g1 : (losL a b n.m k)[j]'(by rw [hlen]; exact hj) = (a j % 16, b j % (n.m : Int)) := by simp [losL]
      exact ⟨g, 0, rfl, by rw [g1, Nat.zero_add]; exact e1, by rw [g1, Nat.zero_add]; exact e2⟩

end Go.Proofs.Ytkencmijghigiaa
