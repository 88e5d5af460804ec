/-
  What the reference's Read makes of bytes, against Decode: plain. No conditions.
-/
import Derived.Test.YtecengclcaodeaaRefG
import Derived.Test.YtecengclcaodeaaEncDec
namespace Go.Proofs.Ytecengclcaodeaa
open Go.RowKit Go.Lib Plain

theorem rdU {n : Nat} {l : List Int} (hB : Bytes l) (hl : l.length ≤ n) (h6 : n ≤ 6) : rdV n false l = uV l := by
  obtain ⟨h0, h1⟩ := uV_bd8 l hB n hl h6
  unfold rdV wrap64
  simp only [Bool.false_eq_true, ↓reduceIte]
  omega
theorem rdS8 (l : List Int) : rdV 8 true l = wrap64 (uV l) := by
  unfold rdV wrap64
  simp only [↓reduceIte, Nat.reduceMul, Nat.reduceSub, Int.pow_zero]
  omega
theorem rdS4 {l : List Int} (hB : Bytes l) (hl : l.length ≤ 4) : rdV 4 true l = if 2147483648 ≤ uV l then uV l - 4294967296 else uV l := by
  have h1 := uV_bd l hB
  have h2 : (256 : Int) ^ l.length ≤ 256 ^ 4 := pow256_le (by omega)
  have h3 : (256 : Int) ^ 4 = 4294967296 := by decide
  have h4 : (2 : Int) ^ (64 - 8 * 4) = 4294967296 := by decide
  unfold rdV wrap64
  rw [h4]
  simp only [↓reduceIte]
  split <;> omega
theorem rd1 {L : List Int} {j : Nat} {x : Int} (hx : L[j]? = some x) : uV ((L.drop j).take 1) = x := by
  have h := uV_take_step (L := L) (a := j) (k := 0) (x := x) hx
  rw [Nat.zero_add, List.take_zero, uV_nil] at h
  omega
theorem tk {L : List Int} (hB : Bytes L) (a n : Nat) : Bytes ((L.drop a).take n) := bytes_take hB a n
theorem tl {L : List Int} (a n : Nat) : ((L.drop a).take n).length ≤ n := by rw [List.length_take]; omega

section
variable {L : List Int} {x0 x1 : Int} (hB : Bytes L) (h0 : L[0]? = some x0) (h1 : L[1]? = some x1)
include hB h0 h1
theorem decM_0 (hk : x0 = 0) : decM 0 L = [x0, x1, wrap64 (uV ((L.drop 4).take 8)), uV ((L.drop 12).take 6), uV ((L.drop 18).take 2), uV ((L.drop 20).take 2), 0, 0, 0, 0, 0, 0, 0, 0, 0, 0, 0, uV ((L.drop 2).take 2)] := by
  rw [show decM 0 L = [rdV 1 false ((L.drop 0).take 1), rdV 1 false ((L.drop 1).take 1), rdV 8 true ((L.drop 4).take 8), rdV 6 false ((L.drop 12).take 6), rdV 2 false ((L.drop 18).take 2), rdV 2 false ((L.drop 20).take 2), 0, 0, 0, 0, 0, 0, 0, 0, 0, 0, 0, rdV 2 false ((L.drop 2).take 2)] from rfl]
  rw [rdU (tk hB 0 1) (tl 0 1) (by decide), rdU (tk hB 1 1) (tl 1 1) (by decide), rdU (tk hB 2 2) (tl 2 2) (by decide), rdU (tk hB 12 6) (tl 12 6) (by decide), rdU (tk hB 18 2) (tl 18 2) (by decide), rdU (tk hB 20 2) (tl 20 2) (by decide), rdS8 ((L.drop 4).take 8), rd1 h0, rd1 h1]
theorem decM_2 (hk : x0 = 2) : decM 2 L = [x0, x1, wrap64 (uV ((L.drop 4).take 8)), uV ((L.drop 12).take 6), uV ((L.drop 18).take 2), uV ((L.drop 20).take 2), 0, 0, 0, 0, 0, 0, 0, 0, 0, 0, 0, uV ((L.drop 2).take 2)] := by
  rw [show decM 2 L = [rdV 1 false ((L.drop 0).take 1), rdV 1 false ((L.drop 1).take 1), rdV 8 true ((L.drop 4).take 8), rdV 6 false ((L.drop 12).take 6), rdV 2 false ((L.drop 18).take 2), rdV 2 false ((L.drop 20).take 2), 0, 0, 0, 0, 0, 0, 0, 0, 0, 0, 0, rdV 2 false ((L.drop 2).take 2)] from rfl]
  rw [rdU (tk hB 0 1) (tl 0 1) (by decide), rdU (tk hB 1 1) (tl 1 1) (by decide), rdU (tk hB 2 2) (tl 2 2) (by decide), rdU (tk hB 12 6) (tl 12 6) (by decide), rdU (tk hB 18 2) (tl 18 2) (by decide), rdU (tk hB 20 2) (tl 20 2) (by decide), rdS8 ((L.drop 4).take 8), rd1 h0, rd1 h1]
theorem decM_3 (hk : x0 = 3) : decM 3 L = [x0, x1, wrap64 (uV ((L.drop 4).take 8)), uV ((L.drop 12).take 6), uV ((L.drop 18).take 2), uV ((L.drop 20).take 2), wrap64 (uV ((L.drop 22).take 8)), 0, uV ((L.drop 30).take 6), uV ((L.drop 36).take 2), 0, 0, 0, 0, 0, 0, 0, uV ((L.drop 2).take 2)] := by
  rw [show decM 3 L = [rdV 1 false ((L.drop 0).take 1), rdV 1 false ((L.drop 1).take 1), rdV 8 true ((L.drop 4).take 8), rdV 6 false ((L.drop 12).take 6), rdV 2 false ((L.drop 18).take 2), rdV 2 false ((L.drop 20).take 2), rdV 8 true ((L.drop 22).take 8), 0, rdV 6 false ((L.drop 30).take 6), rdV 2 false ((L.drop 36).take 2), 0, 0, 0, 0, 0, 0, 0, rdV 2 false ((L.drop 2).take 2)] from rfl]
  rw [rdU (tk hB 0 1) (tl 0 1) (by decide), rdU (tk hB 1 1) (tl 1 1) (by decide), rdU (tk hB 2 2) (tl 2 2) (by decide), rdU (tk hB 12 6) (tl 12 6) (by decide), rdU (tk hB 18 2) (tl 18 2) (by decide), rdU (tk hB 20 2) (tl 20 2) (by decide), rdU (tk hB 30 6) (tl 30 6) (by decide), rdU (tk hB 36 2) (tl 36 2) (by decide), rdS8 ((L.drop 4).take 8), rdS8 ((L.drop 22).take 8), rd1 h0, rd1 h1]
theorem decM_10 (hk : x0 = 10) : decM 10 L = [x0, x1, wrap64 (uV ((L.drop 4).take 8)), uV ((L.drop 12).take 6), uV ((L.drop 18).take 2), uV ((L.drop 20).take 2), wrap64 (uV ((L.drop 22).take 8)), 0, uV ((L.drop 30).take 6), uV ((L.drop 36).take 2), 0, 0, 0, 0, 0, 0, 0, uV ((L.drop 2).take 2)] := by
  rw [show decM 10 L = [rdV 1 false ((L.drop 0).take 1), rdV 1 false ((L.drop 1).take 1), rdV 8 true ((L.drop 4).take 8), rdV 6 false ((L.drop 12).take 6), rdV 2 false ((L.drop 18).take 2), rdV 2 false ((L.drop 20).take 2), rdV 8 true ((L.drop 22).take 8), 0, rdV 6 false ((L.drop 30).take 6), rdV 2 false ((L.drop 36).take 2), 0, 0, 0, 0, 0, 0, 0, rdV 2 false ((L.drop 2).take 2)] from rfl]
  rw [rdU (tk hB 0 1) (tl 0 1) (by decide), rdU (tk hB 1 1) (tl 1 1) (by decide), rdU (tk hB 2 2) (tl 2 2) (by decide), rdU (tk hB 12 6) (tl 12 6) (by decide), rdU (tk hB 18 2) (tl 18 2) (by decide), rdU (tk hB 20 2) (tl 20 2) (by decide), rdU (tk hB 30 6) (tl 30 6) (by decide), rdU (tk hB 36 2) (tl 36 2) (by decide), rdS8 ((L.drop 4).take 8), rdS8 ((L.drop 22).take 8), rd1 h0, rd1 h1]
theorem decM_8 (hk : x0 = 8) : decM 8 L = [x0, x1, wrap64 (uV ((L.drop 4).take 8)), uV ((L.drop 12).take 6), uV ((L.drop 18).take 2), uV ((L.drop 20).take 2), wrap64 (uV ((L.drop 22).take 8)), (if 2147483648 ≤ uV ((L.drop 30).take 4) then uV ((L.drop 30).take 4) - 4294967296 else uV ((L.drop 30).take 4)), 0, 0, 0, 0, 0, 0, 0, 0, 0, uV ((L.drop 2).take 2)] := by
  rw [show decM 8 L = [rdV 1 false ((L.drop 0).take 1), rdV 1 false ((L.drop 1).take 1), rdV 8 true ((L.drop 4).take 8), rdV 6 false ((L.drop 12).take 6), rdV 2 false ((L.drop 18).take 2), rdV 2 false ((L.drop 20).take 2), rdV 8 true ((L.drop 22).take 8), rdV 4 true ((L.drop 30).take 4), 0, 0, 0, 0, 0, 0, 0, 0, 0, rdV 2 false ((L.drop 2).take 2)] from rfl]
  rw [rdU (tk hB 0 1) (tl 0 1) (by decide), rdU (tk hB 1 1) (tl 1 1) (by decide), rdU (tk hB 2 2) (tl 2 2) (by decide), rdU (tk hB 12 6) (tl 12 6) (by decide), rdU (tk hB 18 2) (tl 18 2) (by decide), rdU (tk hB 20 2) (tl 20 2) (by decide), rdS4 (tk hB 30 4) (tl 30 4), rdS8 ((L.drop 4).take 8), rdS8 ((L.drop 22).take 8), rd1 h0, rd1 h1]
theorem decM_11 (hk : x0 = 11) : decM 11 L = [x0, x1, wrap64 (uV ((L.drop 4).take 8)), uV ((L.drop 12).take 6), uV ((L.drop 18).take 2), uV ((L.drop 20).take 2), 0, 0, 0, 0, uV ((L.drop 22).take 1), uV ((L.drop 23).take 1), uV ((L.drop 24).take 1), uV ((L.drop 25).take 2), uV ((L.drop 27).take 1), uV ((L.drop 28).take 6), uV ((L.drop 34).take 2), uV ((L.drop 2).take 2)] := by
  rw [show decM 11 L = [rdV 1 false ((L.drop 0).take 1), rdV 1 false ((L.drop 1).take 1), rdV 8 true ((L.drop 4).take 8), rdV 6 false ((L.drop 12).take 6), rdV 2 false ((L.drop 18).take 2), rdV 2 false ((L.drop 20).take 2), 0, 0, 0, 0, rdV 1 false ((L.drop 22).take 1), rdV 1 false ((L.drop 23).take 1), rdV 1 false ((L.drop 24).take 1), rdV 2 false ((L.drop 25).take 2), rdV 1 false ((L.drop 27).take 1), rdV 6 false ((L.drop 28).take 6), rdV 2 false ((L.drop 34).take 2), rdV 2 false ((L.drop 2).take 2)] from rfl]
  rw [rdU (tk hB 0 1) (tl 0 1) (by decide), rdU (tk hB 1 1) (tl 1 1) (by decide), rdU (tk hB 2 2) (tl 2 2) (by decide), rdU (tk hB 12 6) (tl 12 6) (by decide), rdU (tk hB 18 2) (tl 18 2) (by decide), rdU (tk hB 20 2) (tl 20 2) (by decide), rdU (tk hB 22 1) (tl 22 1) (by decide), rdU (tk hB 23 1) (tl 23 1) (by decide), rdU (tk hB 24 1) (tl 24 1) (by decide), rdU (tk hB 25 2) (tl 25 2) (by decide), rdU (tk hB 27 1) (tl 27 1) (by decide), rdU (tk hB 28 6) (tl 28 6) (by decide), rdU (tk hB 34 2) (tl 34 2) (by decide), rdS8 ((L.drop 4).take 8), rd1 h0, rd1 h1]
end

theorem read_fin {L : List Int} {K D C i p S T P r q a b c v e g s ln : Int} (hB : Bytes L) (h0 : L[0]? = some K) (hg : sizeV K ≠ 0 ∧ (L.length : Int) = sizeV K) (hM : decM K L = [K, D, C, i, p, S, T, P, r, q, a, b, c, v, e, g, s, ln]) :
    ((rgtB (baseB D C i p S) (kindB K T P r q a b c v e g s) = true ∧ encM K D C i p S T P r q a b c v e g s = L) → decErr L = 0 ∧ decRes L = [K, D, C, i, p, S, T, P, r, q, a, b, c, v, e, g, s]) ∧
    (¬ (rgtB (baseB D C i p S) (kindB K T P r q a b c v e g s) = true ∧ encM K D C i p S T P r q a b c v e g s = L) → decErr L = 5 ∧ decRes L = [0, 0, 0, 0, 0, 0, 0, 0, 0, 0, 0, 0, 0, 0, 0, 0, 0]) := by
  refine ⟨fun ⟨h, hee⟩ => ?_, fun h => ?_⟩
  · obtain ⟨h2, h3⟩ := dec_enc K D C i p S T P r q a b c v e g s h
    rw [hee] at h2 h3
    exact ⟨h3, h2⟩
  · match L, h0 with
    | k :: t, h0 =>
      obtain rfl : k = K := by simpa using h0
      by_cases hz : decErr (k :: t) = 0
      · exfalso
        apply h
        obtain ⟨K', D', C', i', p', S', T', P', r', q', a', b', c', v', e', g', s', hres, hrgt, henc⟩ := enc_dec hB hz
        have hr : decRes (k :: t) = [k, D, C, i, p, S, T, P, r, q, a, b, c, v, e, g, s] := by
          have hE : decE k (k :: t) = 0 := by rw [← hz]; exact (if_pos hg).symm
          have ho : okM (decM k (k :: t)) (k :: t).length = true := by
            unfold decE at hE
            by_cases ho : okM (decM k (k :: t)) (k :: t).length = true
            · exact ho
            · rw [if_neg ho] at hE; cases hE
          rw [show decRes (k :: t) = decL k (k :: t) from if_pos hg, decL, if_pos ho, hM]
          rfl
        rw [hr] at hres
        simp only [List.cons.injEq, and_true] at hres
        obtain ⟨rfl, rfl, rfl, rfl, rfl, rfl, rfl, rfl, rfl, rfl, rfl, rfl, rfl, rfl, rfl, rfl, rfl⟩ := hres
        exact ⟨hrgt, henc⟩
      · by_cases ho : okM (decM k (k :: t)) (k :: t).length = true
        · have : decErr (k :: t) = 0 := by
            rw [show decErr (k :: t) = decE k (k :: t) from if_pos hg, decE, if_pos ho]
          exact absurd this hz
        · exact ⟨by rw [show decErr (k :: t) = decE k (k :: t) from if_pos hg, decE, if_neg ho], by rw [show decRes (k :: t) = decL k (k :: t) from if_pos hg, decL, if_neg ho]⟩

end Go.Proofs.Ytecengclcaodeaa
