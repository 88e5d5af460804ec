/-
  A draft of a topology, as an argument. No conditions.
-/
import Derived.ChangeSlices
import Derived.WideShapes
import Derived.Test.YtjhpbemnklpefaaMTpW
import Derived.Test.YtjhpbemnklpefaaMLift
namespace Go.Proofs.Ytjhpbemnklpefaa
open Go.RowKit Go.Lib Plain
open Go.ChangeShapes Go.WideShapes

section
variable {H : Type} {enc : TypeId × Value → H} {W : World}
theorem nat_u8 {x : Int} (h : (Lit.int .u8 x).wf = true) : ∃ n : Nat, x = (n : Int) ∧ n ≤ 255 := by
  simp [Lit.wf, IntKind.min, IntKind.max, IntKind.signed, IntKind.bits] at h
  exact ⟨x.toNat, by omega, by omega⟩
theorem slice_u8 {fuel : Nat} {c : Value} {x : DataW H × List MemPlace} (h : DataW.trod enc Try.prog W 0 (fun _ => true) true fuel 22 [c] = some x) :
    ∃ u : U8, c = .slice u.p u.n u.k ∧ u.In W := by
  rcases open_ints (k := .u8) Try.underlying22 Try.underlying5 (by kernel_rfl) h with ⟨hcs, _⟩ | ⟨a, len, cap, zs, hcs, _, hl, _, hz, _, hcell, hwz⟩
  · cases hcs
    exact ⟨⟨none, 0, 0, fun _ => 0⟩, rfl, ⟨fun j hj => absurd hj (Nat.not_lt_zero _), fun _ _ => rfl, fun _ => Nat.zero_le _⟩⟩
  · cases hcs
    simp only [if_true] at hz
    obtain ⟨ab, ao, spot⟩ := a
    refine ⟨⟨some ⟨ab, ao, spot⟩, len, cap, fun j => if j < len then (zs.getD j 0).toNat else 0⟩, rfl, ⟨fun j hj => ?_, fun j hj => if_neg (Nat.not_lt.2 hj), fun j => ?_⟩⟩
    · change j < len at hj
      have h1 := hcell j (by omega)
      have hspot : spot = none := by simpa [Addr.add] using World.cell?_spot (hcell 0 (by omega))
      subst hspot
      rw [Addr.add_lit] at h1
      refine ⟨ab, ao, rfl, ?_⟩
      rw [h1]
      have hj' : j < zs.length := by omega
      have e : zs.getD j 0 = zs[j] := by rw [List.getD_eq_getElem?_getD, List.getElem?_eq_getElem hj']; rfl
      obtain ⟨n, hn, _⟩ := nat_u8 (hwz _ (List.getElem_mem hj'))
      show _ = some (Value.int .u8 ((if j < len then (zs.getD j 0).toNat else 0 : Nat) : Int))
      rw [if_pos hj, e, hn]
      rfl
    · show (if j < len then (zs.getD j 0).toNat else 0) ≤ 255
      by_cases hj : j < len
      · rw [if_pos hj]
        have hj' : j < zs.length := by omega
        have e : zs.getD j 0 = zs[j] := by rw [List.getD_eq_getElem?_getD, List.getElem?_eq_getElem hj']; rfl
        obtain ⟨n, hn, h2⟩ := nat_u8 (hwz _ (List.getElem_mem hj'))
        rw [e, hn]
        exact h2
      · rw [if_neg hj]
        exact Nat.zero_le _

set_option maxHeartbeats 1000000 in
set_option maxRecDepth 100000 in
theorem open_draft16 {base : Nat} {v : Value} {d : DataW H} {p : List MemPlace} (hv : Value.okWide Try.prog W .any base 24 v) (h : DataW.Trod enc Try.prog W 0 (fun _ => true) true 24 v d p) :
    ∃ D : Dg, v = .agg D.vs.toArray ∧ D.In W ∧ D.B ≤ 255 ∧ D.S ≤ 255 := by
  obtain ⟨cs, rfl, hsz⟩ := okWide_struct Try.underlying24 hv
  obtain ⟨l⟩ := cs
  match l, hsz.trans (show Try.prog.cellsOf 24 = 6 by kernel_rfl) with
  | [c0, c1, c2, c3, c4, c5], _ =>
    obtain ⟨fuel, hf⟩ := h
    obtain ⟨xs, n, _, _, _, hlen, hg⟩ := DataW.trod_struct Try.underlying24 hf
    match xs, hlen with
    | [y0, y1, y2, y3, y4, y5], _ =>
      have h0 := hg 0 _ rfl
      have h1 := hg 1 _ rfl
      have h2 := hg 2 _ rfl
      have h3 := hg 3 _ rfl
      have h4 := hg 4 _ rfl
      have h5 := hg 5 _ rfl
      obtain ⟨x0, e0, _, w0⟩ := DataW.trod_int Try.underlying5 (by simpa using h0)
      obtain ⟨x1, e1, _, w1⟩ := DataW.trod_int Try.underlying5 (by simpa using h1)
      obtain ⟨uc, rfl, ic⟩ := slice_u8 (by simpa [Value.cells, show Try.prog.cellsOf 22 = 1 by kernel_rfl] using h2)
      obtain ⟨uh, rfl, ih⟩ := slice_u8 (by simpa [Value.cells, show Try.prog.cellsOf 22 = 1 by kernel_rfl] using h3)
      obtain ⟨up, rfl, ip⟩ := slice_u8 (by simpa [Value.cells, show Try.prog.cellsOf 22 = 1 by kernel_rfl] using h4)
      obtain ⟨ud, rfl, id⟩ := slice_u8 (by simpa [Value.cells, show Try.prog.cellsOf 22 = 1 by kernel_rfl] using h5)
      rw [show Try.prog.cellsOf 5 = 1 by kernel_rfl] at e0 e1
      simp [Value.cells] at e0 e1
      subst e0 e1
      obtain ⟨b, rfl, hb⟩ := nat_u8 w0
      obtain ⟨s, rfl, hs⟩ := nat_u8 w1
      exact ⟨⟨b, s, uc, uh, up, ud⟩, rfl, ⟨ic, ih, ip, id⟩, hb, hs⟩
end

end Go.Proofs.Ytjhpbemnklpefaa
