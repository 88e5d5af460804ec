/-
  The bytes of a number, and the number of some bytes: plain Lean, no program in sight.
-/
import Derived.Test.YtecengclcaodeaaPlain
import Derived.Laws.BitsAllLaws
import Derived.RowKit
import Derived.Laws.BitsLemmas
namespace Go.Proofs.Ytecengclcaodeaa.Plain
open Go.RowKit

/-- Byte number i of a number. -/
def byteI (x : Int) (i : Nat) : Int := x / 256 ^ i % 256
/-- Its last k bytes, the highest first. -/
def beB (x : Int) : Nat → List Int
  | 0 => []
  | k + 1 => byteI x k :: beB x k
theorem beB_len (x : Int) (k : Nat) : (beB x k).length = k := by induction k <;> simp_all [beB]
theorem byteI_bd (x : Int) (i : Nat) : 0 ≤ byteI x i ∧ byteI x i ≤ 255 := by unfold byteI; omega
def Bytes (l : List Int) : Prop := ∀ b ∈ l, 0 ≤ b ∧ b ≤ 255
theorem beB_bd (x : Int) (k : Nat) : Bytes (beB x k) := by
  induction k with
  | zero => intro b hb; simp [beB] at hb
  | succ k ih =>
    intro b hb
    simp only [beB, List.mem_cons] at hb
    rcases hb with rfl | hb
    · exact byteI_bd x k
    · exact ih b hb

/-- The number of some bytes, the highest first. -/
def uV (l : List Int) : Int := l.foldl (fun n x => n * 256 + x) 0
theorem uV_nil : uV [] = 0 := rfl
theorem uV_snoc (l : List Int) (x : Int) : uV (l ++ [x]) = uV l * 256 + x := by simp [uV]
theorem uV_from (l : List Int) : ∀ a : Int, l.foldl (fun n x => n * 256 + x) a = a * 256 ^ l.length + uV l := by
  induction l with
  | nil => intro a; simp [uV]
  | cons y r ih =>
    intro a
    simp only [List.foldl_cons, List.length_cons, uV]
    rw [ih, ih (0 * 256 + y), Int.pow_succ, Int.add_mul, Int.add_mul, Int.zero_mul, Int.zero_mul, Int.mul_assoc, Int.mul_comm 256]
    omega
theorem uV_cons (l : List Int) (x : Int) : uV (x :: l) = x * 256 ^ l.length + uV l := by
  have := uV_from l (0 * 256 + x)
  rw [Int.zero_mul, Int.zero_add] at this
  rw [← this]
  simp [uV]
theorem pow_pos' (k : Nat) : (0 : Int) < 256 ^ k := Int.pow_pos (by omega)
theorem uV_bd (l : List Int) (h : Bytes l) : 0 ≤ uV l ∧ uV l < 256 ^ l.length := by
  induction l with
  | nil => exact ⟨Int.le_refl _, by decide⟩
  | cons x r ih =>
    obtain ⟨h1, h2⟩ := ih fun b hb => h b (by simp [hb])
    obtain ⟨h3, h4⟩ := h x (by simp)
    rw [uV_cons, List.length_cons, Int.pow_succ]
    have hp := pow_pos' r.length
    generalize (256 : Int) ^ r.length = m at *
    have h5 : 0 ≤ x * m := Int.mul_nonneg h3 (Int.le_of_lt hp)
    have h6 : x * m ≤ 255 * m := Int.mul_le_mul_of_nonneg_right h4 (Int.le_of_lt hp)
    omega
theorem uV_inj : ∀ {l l' : List Int}, Bytes l → Bytes l' → l.length = l'.length → uV l = uV l' → l = l'
  | [], [], _, _, _, _ => rfl
  | [], _ :: _, _, _, h, _ => by simp at h
  | _ :: _, [], _, _, h, _ => by simp at h
  | x :: r, x' :: r', hb, hb', hl, h => by
    have hl' : r.length = r'.length := by simpa using hl
    have b1 := uV_bd r fun b hb2 => hb b (by simp [hb2])
    have b2 := uV_bd r' fun b hb2 => hb' b (by simp [hb2])
    rw [uV_cons, uV_cons, ← hl'] at h
    rw [← hl'] at b2
    have hp := pow_pos' r.length
    have e : x = x' := by
      have e1 : (x * 256 ^ r.length + uV r) / 256 ^ r.length = x := by rw [Int.add_comm, Int.add_mul_ediv_right _ _ (by omega), Int.ediv_eq_zero_of_lt b1.1 b1.2]; omega
      have e2 : (x' * 256 ^ r.length + uV r') / 256 ^ r.length = x' := by rw [Int.add_comm, Int.add_mul_ediv_right _ _ (by omega), Int.ediv_eq_zero_of_lt b2.1 b2.2]; omega
      rw [← e1, ← e2, h]
    subst e
    rw [uV_inj (fun b hb2 => hb b (by simp [hb2])) (fun b hb2 => hb' b (by simp [hb2])) hl' (by omega)]
theorem uV_beB (x : Int) (k : Nat) : uV (beB x k) = x % 256 ^ k := by
  induction k with
  | zero => simp [beB, uV]
  | succ k ih =>
    rw [beB, uV_cons, ih, beB_len, byteI, Int.pow_succ]
    have hp := pow_pos' k
    have h1 := Int.emod_add_mul_ediv x (256 ^ k)
    have h2 := Int.emod_add_mul_ediv (x / 256 ^ k) 256
    have h3 := Int.emod_nonneg x (show (256 : Int) ^ k ≠ 0 by omega)
    have h4 := Int.emod_lt_of_pos x hp
    have h5 := Int.emod_nonneg (x / 256 ^ k) (show (256 : Int) ≠ 0 by omega)
    have h6 := Int.emod_lt_of_pos (x / 256 ^ k) (show (0 : Int) < 256 by omega)
    generalize (256 : Int) ^ k = m at *
    generalize x / m = q at *
    generalize x % m = r at *
    generalize q % 256 = s at *
    generalize q / 256 = t at *
    have e : x = (s * m + r) + (m * 256) * t := by
      rw [← h1, ← h2, Int.mul_add, Int.mul_comm s m, Int.mul_assoc]; omega
    rw [e, Int.add_mul_emod_self_left]
    have h7 : 0 ≤ s * m := Int.mul_nonneg h5 (Int.le_of_lt hp)
    have h8 : s * m ≤ 255 * m := Int.mul_le_mul_of_nonneg_right (by omega) (Int.le_of_lt hp)
    rw [Int.emod_eq_of_lt (by omega) (by omega)]
theorem beB_of_uV {x : Int} {l : List Int} (h : Bytes l) (e : x % 256 ^ l.length = uV l) : beB x l.length = l :=
  uV_inj (beB_bd _ _) h (beB_len _ _) (by rw [uV_beB, e])

/-- What reading makes of some bytes: of a number without a sign, with a sign. -/
def rdV (n : Nat) (g : Bool) (l : List Int) : Int := if g = true then wrap64 (wrap64 (uV l) * 2 ^ (64 - 8 * n)) / 2 ^ (64 - 8 * n) else wrap64 (uV l)
theorem wrap_step (u x : Int) (h0 : 0 ≤ x) (h1 : x ≤ 255) : wrap64 (wrap64 u * 256) + x = wrap64 (u * 256 + x) := by
  unfold wrap64
  omega
theorem or_step (a x : Int) (h0 : 0 ≤ x) (h1 : x ≤ 255) : bits .or .i64 (wrap64 (a * 256)) x = wrap64 (a * 256) + x := by
  obtain ⟨X, rfl⟩ := Int.eq_ofNat_of_zero_le h0
  have e1 : (BitVec.ofInt 64 (wrap64 (a * 256))).toNat = ((a * 256) % 18446744073709551616).toNat := by
    rw [BitVec.toNat_ofInt]
    unfold wrap64
    omega
  have e2 : (BitVec.ofInt 64 ((X : Nat) : Int)).toNat = X := by
    rw [BitVec.toNat_ofInt]
    omega
  have hj : ((a * 256) % 18446744073709551616).toNat ||| X = ((a * 256) % 18446744073709551616).toNat + X := nat_join 8 _ _ (by omega) (by omega)
  show IntKind.i64.wrap ((BitVec.ofInt 64 (wrap64 (a * 256)) ||| BitVec.ofInt 64 ((X : Nat) : Int)).toNat : Int) = _
  rw [BitVec.toNat_or, e1, e2, hj]
  rw [IntKind.wrap_i64]
  unfold wrap64
  omega
end Go.Proofs.Ytecengclcaodeaa.Plain
