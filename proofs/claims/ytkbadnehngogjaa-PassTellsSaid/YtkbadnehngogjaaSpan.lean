/-
  Plain law: the share x * p / 10^9, rounded down, and a search for the least number at which a function that does not decrease reaches another one. No program in sight.
-/
import Derived.Test.YtkbadnehngogjaaPlain
namespace Go.Proofs.Ytkbadnehngogjaa.Plain

theorem mul_bd {x p X P : Int} (h1 : -X ≤ x) (h2 : x ≤ X) (h3 : -P ≤ p) (h4 : p ≤ P) : -(X * P) ≤ x * p ∧ x * p ≤ X * P := by
  have hX : 0 ≤ X := by omega
  have hP : 0 ≤ P := by omega
  obtain ⟨X', rfl⟩ := Int.eq_ofNat_of_zero_le hX
  obtain ⟨P', rfl⟩ := Int.eq_ofNat_of_zero_le hP
  have hx : x.natAbs ≤ X' := by omega
  have hp : p.natAbs ≤ P' := by omega
  have h := Nat.mul_le_mul hx hp
  rw [← Int.natAbs_mul] at h
  have e : ((X' : Int) * (P' : Int)) = ((X' * P' : Nat) : Int) := (Int.natCast_mul _ _).symm
  rw [e]
  omega

/-- x * p / 10^9, rounded down. -/
def share (x p : Int) : Int := x * p / 1000000000

theorem part_bd {x p : Int} (h1 : -17592186044416 ≤ x) (h2 : x ≤ 17592186044416) (h3 : -16777216 ≤ p) (h4 : p ≤ 16777216) : -300000000000 ≤ share x p ∧ share x p ≤ 300000000000 := by
  have h := mul_bd (X := 17592186044416) (P := 16777216) h1 h2 h3 h4
  unfold share
  omega

theorem grow_mono {x y p : Int} (h : x ≤ y) (hp : -1000000000 ≤ p) : x + share x p ≤ y + share y p := by
  have e : y * p = x * p + (y - x) * p := by rw [← Int.add_mul]; congr 1; omega
  have m : (y - x) * (-1000000000) ≤ (y - x) * p := Int.mul_le_mul_of_nonneg_left hp (by omega)
  unfold share
  omega

/-- r is the least number from lo on at which f reaches m. -/
def IsLeast (f : Int → Int) (lo hi m r : Int) : Prop := lo ≤ r ∧ r ≤ hi ∧ m ≤ f r ∧ ∀ l, lo ≤ l → l < r → f l < m

theorem IsLeast.unique {f : Int → Int} {lo hi m r s : Int} (h : IsLeast f lo hi m r) (k : IsLeast f lo hi m s) : r = s := by
  obtain ⟨h1, h2, h3, h4⟩ := h
  obtain ⟨k1, k2, k3, k4⟩ := k
  rcases Int.lt_trichotomy r s with x | x | x
  · have := k4 r h1 x; omega
  · exact x
  · have := h4 s k1 x; omega

/-- What a search keeps: below 'low' nothing reaches m, 'high' does. -/
def Between (f : Int → Int) (lo hi m low high : Int) : Prop := lo ≤ low ∧ low ≤ high ∧ high ≤ hi ∧ m ≤ f high ∧ ∀ l, lo ≤ l → l < low → f l < m

theorem Between.done {f : Int → Int} {lo hi m low : Int} (h : Between f lo hi m low low) : IsLeast f lo hi m low := by
  obtain ⟨h1, h2, h3, h4, h5⟩ := h
  exact ⟨h1, h3, h4, h5⟩
theorem Between.done' {f : Int → Int} {lo hi m low high : Int} (h : Between f lo hi m low high) (e : high ≤ low) : IsLeast f lo hi m high := by
  obtain ⟨h1, h2, h3, h4, h5⟩ := h
  obtain rfl : low = high := by omega
  exact ⟨h1, h3, h4, h5⟩
theorem Between.start {f : Int → Int} {lo hi m : Int} (h : lo ≤ hi) (k : m ≤ f hi) : Between f lo hi m lo hi := ⟨by omega, h, by omega, k, fun l h1 h2 => by omega⟩

theorem Between.hit {f : Int → Int} {lo hi m low high mid : Int} (h : Between f lo hi m low high) (h1 : low ≤ mid) (h2 : mid ≤ high) (h3 : m ≤ f mid) : Between f lo hi m low mid := by
  obtain ⟨a, b, c, d, e⟩ := h
  exact ⟨a, h1, by omega, h3, e⟩

theorem Between.miss {f : Int → Int} {lo hi m low high mid : Int} (mono : ∀ x y, x ≤ y → f x ≤ f y) (h : Between f lo hi m low high) (h1 : low ≤ mid) (h2 : mid < high) (h3 : f mid < m) : Between f lo hi m (mid + 1) high := by
  obtain ⟨a, b, c, d, e⟩ := h
  refine ⟨by omega, by omega, c, d, fun l l0 l1 => ?_⟩
  have := mono l mid (by omega)
  omega

end Go.Proofs.Ytkbadnehngogjaa.Plain
