/-
  The reference's get and signed. No conditions.
-/
import Derived.Test.YtecengclcaodeaaDecR
namespace Go.Proofs.Ytecengclcaodeaa
open Go.RowKit Go.Lib Plain

theorem pow256_le {a b : Nat} (h : a ≤ b) : (256 : Int) ^ a ≤ 256 ^ b := by
  induction b with
  | zero =>
    obtain rfl : a = 0 := by omega
    exact Int.le_refl _
  | succ b ih =>
    by_cases e : a = b + 1
    · subst e; exact Int.le_refl _
    · have h1 := ih (by omega)
      have hp := pow_pos' b
      rw [Int.pow_succ]
      omega
theorem uV_bd8 (l : List Int) (h : Bytes l) (n : Nat) (hn : l.length ≤ n) (h6 : n ≤ 6) : 0 ≤ uV l ∧ uV l < 281474976710656 := by
  have h1 := uV_bd l h
  have h2 : (256 : Int) ^ l.length ≤ 256 ^ 6 := pow256_le (by omega)
  have h3 : (256 : Int) ^ 6 = 281474976710656 := by decide
  omega
theorem bytes_take {L : List Int} (h : Bytes L) (a k : Nat) : Bytes ((L.drop a).take k) := fun b hb => h b (List.mem_of_mem_drop (List.mem_of_mem_take hb))
theorem uV_take_step {L : List Int} {a k : Nat} {x : Int} (hx : L[a + k]? = some x) : uV ((L.drop a).take (k + 1)) = uV ((L.drop a).take k) * 256 + x := by
  rw [List.take_add_one, List.getElem?_drop, hx]
  exact uV_snoc _ _

set_option maxHeartbeats 4000000 in
/-- isochronref10.get -/
theorem get_any (blk off cap a n : Nat) (L : List Int) (hL : Bytes L) (hcl : L.length ≤ 1000) (w : World) (hl : Lies w blk off L) (n1 : n ≤ 6) (hat : a + n ≤ L.length) :
    Calls Try.prog 39 #[.slice (some ⟨blk, off, none⟩) L.length cap, .int .i64 (a : Int), .int .i64 (n : Int)] w fun e w' => e = .returned (.int .i64 (uV ((L.drop a).take n))) ∧ w = w' := by
  have HL := Lib.hid hl
  clear hl
  have a0 : (0 : Int) ≤ (a : Int) := by omega
  go_enter Try.func39, Try.ntmps39
  go_wp2
  go_loopw [7, 8] (fun u q wr => ∃ k : Nat, k ≤ n ∧ q = .int .i64 (k : Int) ∧ u = .int .i64 (uV ((L.drop a).take k)) ∧ wr = w) (fun _ q _ => n - (intOf q).toNat)
  case atStart => exact ⟨0, Nat.zero_le _, rfl, int_eq (by rw [List.take_zero, uV_nil]), rfl⟩
  case round =>
    obtain ⟨k, hk, rfl, rfl, rfl⟩ := hrel
    by_cases hlt : k < n
    · obtain ⟨x, hx⟩ : ∃ x, L[a + k]? = some x := ⟨_, List.getElem?_eq_getElem (by omega)⟩
      have hxb : 0 ≤ x ∧ x ≤ 255 := hL x (List.mem_of_getElem? hx)
      have d0 : wr.cell? ⟨blk, off + (a + k), none⟩ = some (.int .u8 x) := HL.out _ _ hx
      have b1 : (0 : Int) ≤ (a : Int) + (k : Int) := by omega
      have b2 : (a : Int) + (k : Int) < (L.length : Int) := by omega
      have HS := Lib.hid (uV_take_step hx)
      obtain ⟨u0, u1⟩ := uV_bd8 _ (bytes_take hL a k) 5 (by simp; omega) (by omega)
      obtain ⟨x0', x1'⟩ := hxb
      have u2 : uV ((L.drop a).take k) < 1099511627776 := by
        have h1 := (uV_bd _ (bytes_take hL a k)).2
        have h2 : (256 : Int) ^ ((L.drop a).take k).length ≤ 256 ^ 5 := pow256_le (by simp; omega)
        have h3 : (256 : Int) ^ 5 = 1099511627776 := by decide
        omega
      clear hx
      generalize hu : uV ((L.drop a).take k) = u at *
      have HU := Lib.hid hu
      clear hu
      go_wp2
      go_roundw
      case rel => exact ⟨k + 1, by omega, by go_num, by rw [HS.out], trivial⟩
      case measure => simp [intOf]; omega
    · obtain rfl : k = n := by omega
      go_wp2
      go_ret
      exact ⟨rfl, rfl⟩

set_option maxHeartbeats 4000000 in
/-- isochronref10.signed -/
theorem signed_any (blk off cap a : Nat) (L : List Int) (hL : Bytes L) (hcl : L.length ≤ 1000) (w : World) (hl : Lies w blk off L) (hat : a + 8 ≤ L.length) :
    Calls Try.prog 38 #[.slice (some ⟨blk, off, none⟩) L.length cap, .int .i64 (a : Int)] w fun e w' => e = .returned (.int .i64 (wrap64 (uV ((L.drop a).take 8)))) ∧ w = w' := by
  have HL := Lib.hid hl
  clear hl
  have a0 : (0 : Int) ≤ (a : Int) := by omega
  go_enter Try.func38, Try.ntmps38
  go_wp2
  go_loopw [5, 6] (fun u q wr => ∃ k : Nat, k ≤ 8 ∧ q = .int .i64 (k : Int) ∧ u = .int .u64 (uV ((L.drop a).take k)) ∧ wr = w) (fun _ q _ => 8 - (intOf q).toNat)
  case atStart => exact ⟨0, Nat.zero_le _, rfl, int_eq (by rw [List.take_zero, uV_nil]), rfl⟩
  case round =>
    obtain ⟨k, hk, rfl, rfl, rfl⟩ := hrel
    by_cases hlt : k < 8
    · obtain ⟨x, hx⟩ : ∃ x, L[a + k]? = some x := ⟨_, List.getElem?_eq_getElem (by omega)⟩
      have hxb : 0 ≤ x ∧ x ≤ 255 := hL x (List.mem_of_getElem? hx)
      have d0 : wr.cell? ⟨blk, off + (a + k), none⟩ = some (.int .u8 x) := HL.out _ _ hx
      have b1 : (0 : Int) ≤ (a : Int) + (k : Int) := by omega
      have b2 : (a : Int) + (k : Int) < (L.length : Int) := by omega
      have HS := Lib.hid (uV_take_step hx)
      obtain ⟨x0', x1'⟩ := hxb
      have h1 := uV_bd _ (bytes_take hL a k)
      have h2 : (256 : Int) ^ ((L.drop a).take k).length ≤ 256 ^ 7 := pow256_le (by simp; omega)
      have h3 : (256 : Int) ^ 7 = 72057594037927936 := by decide
      have u0 : 0 ≤ uV ((L.drop a).take k) := h1.1
      have u2 : uV ((L.drop a).take k) < 72057594037927936 := by omega
      clear hx h1 h2 h3
      generalize hu : uV ((L.drop a).take k) = u at *
      have HU := Lib.hid hu
      clear hu
      go_wp2
      go_roundw
      case rel => exact ⟨k + 1, by omega, by go_num, by rw [HS.out], trivial⟩
      case measure => simp [intOf]; omega
    · obtain rfl : k = 8 := by omega
      go_wp2
      go_ret
      exact ⟨ret_int (by first | rfl | (rw [IntKind.wrap_i64]; rfl)), rfl⟩

end Go.Proofs.Ytecengclcaodeaa
