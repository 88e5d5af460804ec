/-
  The reference's Read of any bytes. No conditions.
-/
import Derived.Test.YtecengclcaodeaaRead
namespace Go.Proofs.Ytecengclcaodeaa
open Go.RowKit Go.Lib Plain

set_option maxHeartbeats 8000000 in
set_option maxRecDepth 100000 in
theorem read_bad (a : Option Addr) (N cap : Nat) (L : List Int) (hB : Bytes L) (hN : L.length = N) (w : World) (hl : LiesO w a L) (hbad : ∀ K, L[0]? = some K → ¬ (sizeV K ≠ 0 ∧ (N : Int) = sizeV K)) :
    Calls Try.prog 23 #[.slice a N cap] w fun y w' => y = .returned (.tuple #[.agg zM.toArray, .bool false]) ∧ Below w.heap.size w w' := by
  have ha := Lib.hid agg_msg
  have hs := Lib.hid size_msg
  by_cases hsh : (N : Int) < 22
  · go_enter Try.func23, Try.ntmps23
    go_wp2_with (((with_reducible refine at_store 27 (.tmp 2) (.tmp 18) ?_); refine wpList_store_whole rfl (.tmp 2) (.tmp 18) 27 rfl w.heap.size 0 zM rfl rfl hs.out (zM_here _ rfl rfl) (fun j _ => frozen_new _ _ _ _ rfl) (mMsg_one 0 0 0 0 0 0 0 0 0 0 0 0 0 0 0 0 0) ?_; intro w9 hw9))
    have hL2 := run_loadVar_whole (P := Try.prog) (w := w9) 27 w.heap.size 0 zM ha.out hs.out hw9.here
    exact bodyPost_ret (v := .tuple #[.agg zM.toArray, .bool false]) (results_cell_tmp 2 3 27 Try.results23 w.heap.size 0 _ _ rfl hL2 rfl) rfl ⟨rfl, hw9.below _ _ (Nat.le_refl _) (below_alloc (Below.refl _ _) _)⟩
  · have h22 : 22 ≤ N := by omega
    obtain ⟨K, hK⟩ : ∃ K, L[0]? = some K := ⟨_, List.getElem?_eq_getElem (by omega)⟩
    obtain ⟨blk, off, rfl, hly⟩ : ∃ blk off, a = some ⟨blk, off, none⟩ ∧ Lies w blk off L := by
      rcases hl with h | ⟨blk, off, h1, h2⟩
      · rw [h] at hN; simp at hN; omega
      · exact ⟨blk, off, h1, h2⟩
    have k0 := hB K (List.mem_of_getElem? hK)
    have hb := hbad K hK
    have hne : ¬ sizeV K = (N : Int) := fun e => hb ⟨by omega, e.symm⟩
    have c0 : w.cell? ⟨blk, off, none⟩ = some (.int .u8 K) := hly 0 K hK
    have hblk : blk < w.heap.size := World.block_lt_of_cell? _ _ c0
    have HS := Lib.hid (fun W => rsizeV_any K W)
    clear hb hl hly hbad hK hB hN
    generalize sizeV K = z at *
    go_enter Try.func23, Try.ntmps23
    go_wp2_with fail
    refine (HS.out _).mono ?_
    rintro y w1 ⟨rfl, rfl⟩
    go_wp2_with (((with_reducible refine at_store 27 (.tmp 2) (.tmp 18) ?_); refine wpList_store_whole rfl (.tmp 2) (.tmp 18) 27 rfl w.heap.size 0 zM rfl rfl hs.out (zM_here _ rfl rfl) (fun j _ => frozen_new _ _ _ _ rfl) (mMsg_one 0 0 0 0 0 0 0 0 0 0 0 0 0 0 0 0 0) ?_; intro w9 hw9))
    have hL2 := run_loadVar_whole (P := Try.prog) (w := w9) 27 w.heap.size 0 zM ha.out hs.out hw9.here
    exact bodyPost_ret (v := .tuple #[.agg zM.toArray, .bool false]) (results_cell_tmp 2 3 27 Try.results23 w.heap.size 0 _ _ rfl hL2 rfl) rfl ⟨rfl, hw9.below _ _ (Nat.le_refl _) (below_alloc (Below.refl _ _) _)⟩

/-- isochronref10.Read of any bytes: what Decode makes of them. -/
theorem readAny (a : Option Addr) (N cap : Nat) (L : List Int) (hB : Bytes L) (hN : L.length = N) (w : World) (hl : LiesO w a L) :
    Calls Try.prog 23 #[.slice a N cap] w fun y w' => y = .returned (.tuple #[.agg (msgA (decRes L)), .bool (decide (decErr L = 0))]) ∧ Below w.heap.size w w' := by
  by_cases hg : ∃ K, L[0]? = some K ∧ sizeV K ≠ 0 ∧ (L.length : Int) = sizeV K
  · obtain ⟨K, hK, hg⟩ := hg
    obtain ⟨blk, off, rfl, hly⟩ : ∃ blk off, a = some ⟨blk, off, none⟩ ∧ Lies w blk off L := by
      rcases hl with h | ⟨blk, off, h1, h2⟩
      · rw [h] at hK; cases hK
      · exact ⟨blk, off, h1, h2⟩
    subst hN
    exact read_ok blk off cap L hB K hK hg w hly
  · have hz : decRes L = [0, 0, 0, 0, 0, 0, 0, 0, 0, 0, 0, 0, 0, 0, 0, 0, 0] ∧ decErr L = 5 := by
      match L, hg with
      | [], _ => exact ⟨rfl, rfl⟩
      | k :: r, hg =>
        have hn : ¬ (sizeV k ≠ 0 ∧ ((k :: r).length : Int) = sizeV k) := fun h => hg ⟨k, rfl, h⟩
        exact ⟨if_neg hn, if_neg hn⟩
    rw [hz.1, hz.2]
    exact read_bad a N cap L hB hN w hl (fun K hK h => hg ⟨K, hK, h.1, by rw [hN]; exact h.2⟩)

end Go.Proofs.Ytecengclcaodeaa
