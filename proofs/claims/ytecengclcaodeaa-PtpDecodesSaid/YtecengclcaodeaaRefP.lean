/-
  The reference's put. No conditions.
-/
import Derived.Test.YtecengclcaodeaaEncX
namespace Go.Proofs.Ytecengclcaodeaa
open Go.RowKit Go.Lib Plain

set_option maxHeartbeats 4000000 in
theorem put_any (v : Value) (xs : List Int) (x : Int) (n : Nat) (base : Nat) (w : World) (hown : w.ownsRow base 5 1 v xs.length (bys xs)) (hl : xs.length ≤ 100) (n1 : n ≤ 8) (hb : base ≤ w.heap.size) :
    Calls Try.prog 36 #[v, .int .i64 x, .int .i64 (n : Int)] w fun e w' => ∃ v', e = .returned v' ∧ w'.ownsRow base 5 1 v' (xs ++ beB x n).length (bys (xs ++ beB x n)) ∧ Below base w w' := by
  obtain ⟨i0, hi0, hz0, hz1, hz2⟩ := info_parts Try.infoByte
  have HO := Lib.hid hown
  clear hown
  go_enter Try.func36, Try.ntmps36
  go_wp2
  go_loopw [0, 7] (fun u q wr => ∃ j : Nat, j ≤ n ∧ (j = 0 ∧ q = .int .i64 (-1) ∨ ∃ m : Nat, j = m + 1 ∧ q = .int .i64 (m : Int)) ∧ ∃ ys, wr.ownsRow base 5 1 u ys.length (bys ys) ∧ ys ++ beB x j = xs ++ beB x n ∧ Below base w wr) (fun _ q _ => (intOf q + 1).toNat)
  case atStart =>
    refine ⟨n, Nat.le_refl _, ?_, xs, HO.out, rfl, Below.refl _ _⟩
    cases n with
    | zero => exact Or.inl ⟨rfl, rfl⟩
    | succ n' => exact Or.inr ⟨n', rfl, by simp⟩
  case round =>
    obtain ⟨j, hj, hv, ys, ho, hy, hbl⟩ := hrel
    rcases hv with ⟨rfl, rfl⟩ | ⟨m, rfl, rfl⟩
    · have HO2 := Lib.hid ho
      have HY := Lib.hid hy
      have HB := Lib.hid hbl
      clear ho hy hbl
      go_wp2
      go_ret
      refine ⟨_, rfl, ?_, HB.out⟩
      have e := HY.out
      rw [show beB x 0 = [] from rfl, List.append_nil] at e
      exact e ▸ HO2.out
    · have hlen : ys.length + (m + 1) = xs.length + n := by
        have := congrArg List.length hy
        simpa [beB_len] using this
      have s0 : (0 : Int) ≤ 8 * (m : Int) := by omega
      have s1 : 8 * (m : Int) ≤ 64 := by omega
      have hbw : base ≤ wr.heap.size := Nat.le_trans hb hbl.size
      have HY := Lib.hid hy
      have HB := Lib.hid hbl
      clear hy hbl
      go_wp2_with (at_builtin; refine wpList_append_own _ rfl _ _ 44 rfl base 5 i0 (.int .u8 0) 1 1 Try.underlying44 hi0 hz0 hz1 hz2 rfl (by decide) _ _ _ rfl (ho.alloc _) ⟨wr.heap.size, 0, none⟩ 1 1 [.int .u8 (x / 2 ^ (8 * m) % 256)] rfl rfl (cell_one_new _ _ _) (ints_oneCell .u8 [x / 2 ^ (8 * m) % 256]) (by unfold maxLen; omega) (by omega) (by simp; omega) ?_; intro v' w1 hown' hgrow _)
      have HO2 := Lib.hid hown'
      have HG := Lib.hid hgrow
      have HO1 := Lib.hid ho
      clear hown' hgrow ho
      go_roundw
      case rel =>
        refine ⟨m, by omega, ?_, ys ++ [byteI x m], ?_, ?_, ?_⟩
        · cases m with
          | zero => exact Or.inl ⟨rfl, rfl⟩
          | succ m' => exact Or.inr ⟨m', rfl, by simp⟩
        · have h := HO2.out
          rw [show x / 2 ^ (8 * m) % 256 = byteI x m by rw [Int.pow_mul]; rfl] at h
          simp only [List.length_append, List.length_cons, List.length_nil, List.map_append, List.map_cons, List.map_nil] at h ⊢
          exact h
        · have h := HY.out
          simpa [beB] using h
        · exact ((HB.out.alloc hbw _).grown HG.out (by simp; omega) (fun k h => (HO1.out.lt k h).1))
      case measure => simp [intOf]

end Go.Proofs.Ytecengclcaodeaa
