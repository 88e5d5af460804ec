/-
  ptp.Encode's closure: it appends a field's bytes. No conditions.
-/
import Derived.Test.YtecengclcaodeaaEncS
import Derived.Test.YtecengclcaodeaaEncB
import Derived.Deep.RegionHeld3
import Derived.Deep.AppendLies
import Derived.Test.YtecengclcaodeaaFlag
import Derived.Test.YtecengclcaodeaaFlag
import Derived.Test.YtecengclcaodeaaFlag
import Derived.Test.YtecengclcaodeaaFlag
import Derived.Test.YtecengclcaodeaaFlag
import Derived.Test.YtecengclcaodeaaFlag
import Derived.OwnWalk
namespace Go.Proofs.Ytecengclcaodeaa
open Go.RowKit Go.Lib Plain

theorem Try.infoByte : (Try.prog.info? 5).map (fun i => (i.zero, i.size, i.bytes)) = some (some (.int .u8 0), 1, 1) := by kernel_rfl
/-- Bytes as values. -/
abbrev bys (l : List Int) : List Value := l.map (Value.int .u8)

/-- The row that is written: it lies in block g, and the variable in block Bb holds it. -/
structure Row (base Bb g : Nat) (xs : List Int) (w : World) : Prop where
  cell : ∃ cap, w.cell? ⟨Bb, 0, none⟩ = some (.slice (some ⟨g, 0, none⟩) xs.length cap) ∧ w.ownsRow base 5 1 (.slice (some ⟨g, 0, none⟩) xs.length cap) xs.length (bys xs)
  free : w.frozen? ⟨Bb, 0, none⟩ = false
  apart : g ≠ Bb

set_option maxHeartbeats 8000000 in
theorem write_any (i c Bb base g : Nat) (n : Nat) (sg : Bool) (x : Int) (xs : List Int) (w : World) (hc : w.cell? ⟨c, i, none⟩ = some (.int .i64 x)) (hr : Row base Bb g xs w) (hb : base ≤ w.heap.size) (n0 : 1 ≤ n) (n1 : n ≤ 8) (hl : xs.length ≤ 100) (hcB : c ≠ Bb) (hcg : c ≠ g) :
    Calls Try.prog 34 #[.agg #[.pointer (some ⟨c, i, none⟩), .int .i64 (n : Int), .bool sg], .pointer (some ⟨Bb, 0, none⟩)] w fun e w' => e = .returned (.tuple #[]) ∧ ∃ g', Row base Bb g' (xs ++ beB x n) w' ∧ But (fun k => k = Bb ∨ k = g) w w' ∧ (g' = g ∨ w.heap.size ≤ g') := by
  obtain ⟨i0, hi0, hz0, hz1, hz2⟩ := info_parts Try.infoByte
  have zc : c < w.heap.size := World.block_lt_of_cell? _ _ hc
  have HR := Lib.hid hr
  have HC := Lib.hid hc
  clear hr hc
  go_enter Try.func34, Try.ntmps34
  go_wp2
  go_loopw [3] (fun v wr => ∃ j : Nat, j ≤ n ∧ (j = 0 ∧ v = .int .i64 (-1) ∨ ∃ m : Nat, j = m + 1 ∧ v = .int .i64 (m : Int)) ∧ ∃ g' ys, Row base Bb g' ys wr ∧ ys ++ beB x j = xs ++ beB x n ∧ But (fun k => k = Bb ∨ k = g) w wr ∧ (g' = g ∨ w.heap.size < g') ∧ wr.cell? ⟨w.heap.size, 0, none⟩ = some (.pointer (some ⟨c, i, none⟩)) ∧ w.heap.size < wr.heap.size) (fun v _ => (intOf v + 1).toNat)
  case atStart =>
    obtain ⟨cap, hcell, hown⟩ := HR.out.cell
    have hB : Bb < w.heap.size := World.block_lt_of_cell? _ _ hcell
    refine ⟨n, Nat.le_refl _, Or.inr ⟨n - 1, by omega, by rw [show ((n - 1 : Nat) : Int) = (n : Int) - 1 by omega]⟩, g, xs, ⟨⟨cap, by rw [World.cell?_alloc_lt _ _ _ hB]; exact hcell, hown.alloc _⟩, by rw [World.frozen?_alloc_old _ _ _ (Nat.ne_of_lt hB)]; exact HR.out.free, HR.out.apart⟩, rfl, But.refl.alloc _, Or.inl rfl, by simp [go_sem], by simp⟩
  case round =>
    obtain ⟨j, hj, hv, g', ys, hr, hy, hbut, hg, hbx, hsz⟩ := hrel
    rcases hv with ⟨rfl, rfl⟩ | ⟨m, rfl, rfl⟩
    · have HR2 := Lib.hid hr
      have HY := Lib.hid hy
      have HBt := Lib.hid hbut
      have HG := Lib.hid hg
      clear hr hy hbut hg hbx
      go_wp2
      go_end0
      refine ⟨rfl, g', ?_, HBt.out, HG.out.imp id Nat.le_of_lt⟩
      have e := HY.out
      rw [show beB x 0 = [] from rfl, List.append_nil] at e
      exact e ▸ HR2.out
    · obtain ⟨cap, hcell, hown⟩ := hr.cell
      have hfree := hr.free
      have hlen : ys.length + (m + 1) = xs.length + n := by
        have := congrArg List.length hy
        simpa [beB_len] using this
      have d0 : wr.cell? ⟨c, i, none⟩ = some (.int .i64 x) := (hbut.cell zc (fun h => h.elim hcB hcg)).trans HC.out
      have s0 : (0 : Int) ≤ 8 * (m : Int) := by omega
      have s1 : 8 * (m : Int) ≤ 64 := by omega
      have s2 : IntKind.i64.wrap (8 * (m : Int)) = 8 * (m : Int) := by rw [IntKind.wrap_i64]; omega
      have hap := hr.apart
      have zB : Bb < wr.heap.size := World.block_lt_of_cell? _ _ hcell
      have zg : g' < wr.heap.size := (hown.lt g' rfl).2
      have hbw : base ≤ wr.heap.size := by omega
      have zg0 : g < w.heap.size := by
        obtain ⟨cap0, _, ho0⟩ := HR.out.cell
        exact (ho0.lt g rfl).2
      have nBw : Bb ≠ w.heap.size := by
        obtain ⟨cap0, hc0, _⟩ := HR.out.cell
        exact Nat.ne_of_lt (World.block_lt_of_cell? _ _ hc0)
      have nBc : Bb ≠ c := Ne.symm hcB
      have nB : ¬ Bb = g' := fun e => hap e.symm
      have nw : ¬ w.heap.size = g' := by omega
      have nc : ¬ c = g' := by omega
      have HY := Lib.hid hy
      have HBt := Lib.hid hbut
      have HG := Lib.hid hg
      clear hr hy hbut hg hap zg0
      go_wp2
      obtain ⟨V, hV⟩ : ∃ V, V = IntKind.u8.wrap (x / 2 ^ (8 * (m : Int)).toNat) := ⟨_, rfl⟩
      have eV : V = byteI x m := by
        rw [hV, show (8 * (m : Int)).toNat = 8 * m by omega, IntKind.wrap_u8, Int.pow_mul]
        rfl
      subst hV
      have EV := Lib.hid eV
      clear eV
      have hd : ∀ v, wr.drew.cell? v = wr.cell? v := fun v => by simp [go_sem]
      refine wp_region_flag 9 (by kernel_rfl) (by kernel_rfl) (fun w' => w'.cell? ⟨Bb, 0, none⟩ = some (.slice (some ⟨g', 0, none⟩) ys.length cap) ∧ w'.cell? ⟨w.heap.size, 0, none⟩ = some (.pointer (some ⟨c, i, none⟩)) ∧ w'.cell? ⟨c, i, none⟩ = some (.int .i64 x)) ⟨hcell, hbx, d0⟩ ?_
      simp only [List.take_succ_cons, List.take_zero, List.drop_succ_cons, List.drop_zero]
      refine wpQuiet_load_one rfl (.tmp 1) 44 rfl ⟨Bb, 0, none⟩ (.slice (some ⟨g', 0, none⟩) ys.length cap) rfl (fun w => by kernel_rfl) (fun w h => h.1) ?_
      simp only [Act.put, List.setIfInBounds_toArray, List.set_cons_succ, List.set_cons_zero]
      go_big_quiet_step ((intros; rfl))
      refine wpQuiet_load_one rfl (.tmp 12) 71 rfl ⟨w.heap.size, 0, none⟩ (.pointer (some ⟨c, i, none⟩)) rfl (fun w => by kernel_rfl) (fun w h => h.2.1) ?_
      simp only [Act.put, List.setIfInBounds_toArray, List.set_cons_succ, List.set_cons_zero]
      go_big_quiet_step ((intros; rfl))
      refine wpQuiet_load_one rfl (.tmp 14) 3 rfl ⟨c, i, none⟩ (.int .i64 x) rfl (fun w => by kernel_rfl) (fun w h => h.2.2) ?_
      simp only [Act.put, List.setIfInBounds_toArray, List.set_cons_succ, List.set_cons_zero]
      repeat (go_big_quiet_step ((intros; rfl)))
      refine wpQuiet_nil ?_
      change tailG _ _ _ _ _ wr.drew
      have hVm : x / 2 ^ (8 * m) % 256 = byteI x m := by rw [Int.pow_mul]; rfl
      rw [hVm]
      have HV := Lib.hid hVm
      clear hVm
      simp only [tailG]
      refine wp_of_run (v := .slice (some ⟨wr.heap.size, 0, none⟩) 1 1) (w' := (wr.alloc (.cells #[.int .u8 (byteI x m)] 5)).drew) (by simp [execOp, go_sem]) ⟨fun _ => ⟨(World.cell?_alloc_lt _ _ _ zB).trans hcell, (World.cell?_alloc_lt _ _ _ hsz).trans hbx, (World.cell?_alloc_lt _ _ _ (World.block_lt_of_cell? _ _ d0)).trans d0⟩, ?_⟩
      simp only [Act.put, List.setIfInBounds_toArray, List.set_cons_succ, List.set_cons_zero]
      refine wp_append_lies _ _ _ _ (by rfl) base 5 i0 _ 1 1 Try.underlying44 hi0 hz0 hz1 hz2 rfl (by omega) (.slice (some ⟨g', 0, none⟩) ys.length cap) ys.length (bys ys) (by rfl) ((hown.alloc _).drew) ⟨wr.heap.size, 0, none⟩ 1 1 [.int .u8 (byteI x m)] (by rfl) (by rfl) (World.news_of_block (cs := #[.int .u8 (byteI x m)]) (t := 5) (fr := (0, 0)) (heap_alloc_new wr _)) (by simp [Value.oneCell']) (by omega) (by unfold maxLen; omega) (by omega) (by simp; omega) (wr.heap.size + 1) (by simp) ?_
      intro g2 cap2 w1 hown1 hgrow hat hlt
      have hx : ∀ k, k < wr.heap.size → k ≠ g' → w1.heap[k]? = wr.heap[k]? := fun k hk hne => (hgrow.block k (by simp; omega) (by simp [Value.ownBlock]; exact hne)).trans (Below.heap_alloc _ _ _ hk)
      have hce : w1.cell? ⟨Bb, 0, none⟩ = some (.slice (some ⟨g', 0, none⟩) ys.length cap) := (World.cell?_of_block (hx Bb zB nB)).trans hcell
      have hfr : w1.frozen? ⟨Bb, 0, none⟩ = false := (World.frozen?_of_block (hx Bb zB nB)).trans hfree
      have hbx1 : w1.cell? ⟨w.heap.size, 0, none⟩ = some (.pointer (some ⟨c, i, none⟩)) := (World.cell?_of_block (hx _ hsz nw)).trans hbx
      have d1 : w1.cell? ⟨c, i, none⟩ = some (.int .i64 x) := (World.cell?_of_block (hx _ (World.block_lt_of_cell? _ _ d0) nc)).trans d0
      refine ⟨fun _ => ⟨hce, hbx1, d1⟩, ?_⟩
      simp only [Act.put, List.setIfInBounds_toArray, List.set_cons_succ, List.set_cons_zero]
      refine wp_of_skip (w' := w1.setCell ⟨Bb, 0, none⟩ (.slice (some ⟨g2, 0, none⟩) (ys.length + 1) cap2)) (by simp [execOp, go_sem, hce, hfr]) ⟨fun h => absurd rfl h, ?_⟩
      refine NoPanic.normal ?_
      simp only [Act.put]
      have HX := Lib.hid hx
      have HAt := Lib.hid hat
      have HO1 := Lib.hid hown1
      have HGr := Lib.hid hgrow
      clear hx hat hown1 hgrow hown hd
      go_wp2
      go_roundw
      case rel =>
        have hs1 : wr.heap.size ≤ w1.heap.size := by have := HGr.out.size; simp at this; omega
        have hge : g2 = g' ∨ g2 = wr.heap.size + 1 := by
          rcases HAt.out with h | h
          · left; simpa [Value.ownBlock] using h.symm
          · exact Or.inr h
        refine ⟨m, by omega, ?_, g2, ys ++ [byteI x m], ⟨⟨cap2, ?_, ?_⟩, ?_, ?_⟩, ?_, ?_, ?_, ?_, ?_⟩
        · cases m with
          | zero => exact Or.inl ⟨rfl, rfl⟩
          | succ m' => exact Or.inr ⟨m', rfl, by simp⟩
        · rw [World.cell?_setCell_same _ _ _ hce]; simp
        · have := HO1.out
          simp only [List.length_append, List.length_cons, List.length_nil, List.map_append, List.map_cons, List.map_nil] at this ⊢
          exact ownsRow_setCell_other this (by simp [Value.ownBlock]; omega) _
        · simpa [go_sem] using hfr
        · omega
        · have := HY.out
          simpa [beB] using this
        · exact (HBt.out.trans (out' := fun k => k = g') ⟨HGr.out.os, HGr.out.tape, HGr.out.output, hs1, fun k hk hn => HX.out k hk hn⟩ (fun k hk e => Or.inr (by have := HG.out; omega))).set (fun _ => Or.inl rfl) _
        · have := HG.out
          omega
        · rw [World.cell?_setCell_far _ _ _ _ nBw]; exact hbx1
        · simp; omega
      case measure => simp [intOf]

end Go.Proofs.Ytecengclcaodeaa
