/-
  A description of losses, as an argument. No conditions.
-/
import Derived.Deep.Slices
import Derived.OpenShut
import Derived.Test.YtkencmijghigiaaMLos15
import Derived.Test.YtkencmijghigiaaMOpen15d
namespace Go.Proofs.Ytkencmijghigiaa
open Go.RowKit Go.Lib Go.Shelf Plain
open Go.ChangeShapes Go.WideShapes

section
variable {H : Type} {enc : TypeId × Value → H} {W : World}
set_option maxRecDepth 100000 in
theorem open_missing15 {base : Nat} {v : Value} {d : DataW H} {p : List MemPlace} (hv : Value.okWide Try.prog W .any base 40 v) (h : DataW.Trod enc Try.prog W 0 (fun _ => true) true 40 v d p) :
    ∃ (a : Option Addr) (len cap : Nat) (u q : Nat → Int), v = .slice a len cap ∧ (∀ j, j < len → (0 ≤ u j ∧ u j ≤ 255) ∧ (0 ≤ q j ∧ q j ≤ 255)) ∧
      (∀ j, j < len → ∃ b o, a = some ⟨b, o, none⟩ ∧ W.cell? ⟨b, o + j * 2, none⟩ = some (.int .u8 (u j)) ∧ W.cell? ⟨b, o + j * 2 + 1, none⟩ = some (.int .u8 (q j))) := by
  obtain ⟨a1, len1, cap1, rfl⟩ := okWide_slice Try.underlying40 hv
  obtain ⟨fuel, hf⟩ := h
  rcases Go.Deep.open_slice Try.underlying40 hf with ⟨hcs, _⟩ | ⟨a, len, cap, m, n, D, Pl, hcs, _, hl, _, hm, _, hx⟩
  · simp [Value.cells] at hcs
    obtain ⟨rfl, rfl, rfl⟩ := hcs
    exact ⟨none, 0, 0, fun _ => 0, fun _ => 0, rfl, fun j hj => absurd hj (by omega), fun j hj => absurd hj (by omega)⟩
  · simp [Value.cells] at hcs
    obtain ⟨rfl, rfl, rfl⟩ := hcs
    simp only [if_true] at hm
    subst hm
    have ce : Try.prog.cellsOf 70 = 2 := by kernel_rfl
    have c1 : Try.prog.cellsOf 5 = 1 := by kernel_rfl
    have each : ∀ i, i < len1 → ∃ x y : Int, W.cell? (a.add (i * 2)) = some (.int .u8 x) ∧ W.cell? ((a.add (i * 2)).add 1) = some (.int .u8 y) ∧ (0 ≤ x ∧ x ≤ 255) ∧ (0 ≤ y ∧ y ≤ 255) := fun i hi => by
      obtain ⟨cs', h1, h2⟩ := hx i (by omega)
      rw [ce] at h1
      obtain ⟨_, hlen, hcell⟩ := World.cells?_some h1
      obtain ⟨xs, k, _, _, _, hxl, hg⟩ := DataW.trod_array Try.underlying70 h2
      match xs, hxl, cs', hlen with
      | [y0, y1], _, [v0, v1], _ =>
        have g0 := hg 0 (by omega)
        have g1 := hg 1 (by omega)
        simp [c1] at g0 g1
        obtain ⟨x, e0, _, w0⟩ := DataW.trod_int Try.underlying5 g0
        obtain ⟨y, e1, _, w1⟩ := DataW.trod_int Try.underlying5 g1
        simp at e0 e1
        subst e0 e1
        have k0 := hcell 0 (by omega)
        have k1 := hcell 1 (by omega)
        simp [Lit.wf, IntKind.min, IntKind.max, IntKind.signed, IntKind.bits] at w0 w1
        refine ⟨x, y, ?_, k1, w0, w1⟩
        have hz : (a.add (i * 2)).add 0 = a.add (i * 2) := by unfold Addr.add; simp
        rw [hz] at k0
        exact k0
    obtain ⟨U, Q, hUQ⟩ : ∃ U Q : Nat → Int, ∀ i, i < len1 → W.cell? (a.add (i * 2)) = some (.int .u8 (U i)) ∧ W.cell? ((a.add (i * 2)).add 1) = some (.int .u8 (Q i)) ∧ (0 ≤ U i ∧ U i ≤ 255) ∧ (0 ≤ Q i ∧ Q i ≤ 255) :=
      ⟨fun j => if hj : j < len1 then (each j hj).choose else 0, fun j => if hj : j < len1 then (each j hj).choose_spec.choose else 0, fun i hi => by
        simp only [dif_pos hi]
        exact (each i hi).choose_spec.choose_spec⟩
    obtain ⟨ab, ao, spot⟩ := a
    refine ⟨_, len1, _, U, Q, rfl, fun j hj => (hUQ j hj).2.2, fun j hj => ?_⟩
    have hspot : spot = none := by simpa [Addr.add] using World.cell?_spot (hUQ 0 (by omega)).1
    subst hspot
    obtain ⟨k0, k1, _⟩ := hUQ j hj
    rw [Addr.add_lit] at k0 k1
    rw [Addr.add_lit] at k1
    exact ⟨ab, ao, rfl, k0, k1⟩
end

end Go.Proofs.Ytkencmijghigiaa
