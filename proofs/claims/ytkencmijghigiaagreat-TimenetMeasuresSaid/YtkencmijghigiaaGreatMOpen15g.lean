/-
  A network of any shape, as an argument. No conditions.
-/
import Derived.Test.YtkencmijghigiaaGreatMOpen15d
import Derived.Test.YtkencmijghigiaaGreatMGen15
namespace Go.Proofs.YtkencmijghigiaaGreat
open Go.RowKit Go.Lib Go.Shelf Plain
open Go.ChangeShapes Go.WideShapes

section
variable {H : Type} {enc : TypeId × Value → H} {W : World}
set_option maxRecDepth 100000 in
theorem slice_clocks15 {fuel : Nat} {c : Value} {x : DataW H × List MemPlace} (h : DataW.trod enc Tryz.prog W 0 (fun _ => true) true fuel 22 [c] = some x) :
    ∃ (a : Option Addr) (len cap : Nat) (p q : Nat → Int), c = .slice a len cap ∧ (∀ j, j < len → ∃ b o, a = some ⟨b, o, none⟩ ∧ W.cell? ⟨b, o + j * 2, none⟩ = some (.int .i64 (p j)) ∧ W.cell? ⟨b, o + j * 2 + 1, none⟩ = some (.int .i64 (q j))) := by
  rcases Go.Deep.open_slice_pairs Tryz.underlying22 Tryz.underlying61 (by kernel_rfl) rfl rfl (by kernel_rfl) (by kernel_rfl) h with ⟨hcs, _⟩ | ⟨a, len, cap, m, n, V0, V1, D0, D1, P0, P1, hcs, _, hl, _, hm, _, hx⟩
  · cases hcs
    exact ⟨none, 0, 0, fun _ => 0, fun _ => 0, rfl, fun j hj => absurd hj (by omega)⟩
  · cases hcs
    simp only [if_true] at hm
    obtain ⟨ab, ao, spot⟩ := a
    have hv : ∀ j, j < len → V0 j = .int .i64 (intOf15 (V0 j)) ∧ V1 j = .int .i64 (intOf15 (V1 j)) := fun j hj => by
      obtain ⟨_, _, h2, h3⟩ := hx j (by omega)
      obtain ⟨a, e0, _, _⟩ := DataW.trod_int Tryz.underlying3 h2
      obtain ⟨b, e1, _, _⟩ := DataW.trod_int Tryz.underlying3 h3
      simp at e0 e1
      rw [e0, e1]
      exact ⟨rfl, rfl⟩
    refine ⟨_, len, cap, fun j => intOf15 (V0 j), fun j => intOf15 (V1 j), rfl, fun j hj => ?_⟩
    obtain ⟨h0, h1, _, _⟩ := hx j (by omega)
    have hspot : spot = none := by simpa [Addr.add] using World.cell?_spot (hx 0 (by omega)).1
    subst hspot
    rw [Addr.add_lit] at h0 h1
    obtain ⟨e0, e1⟩ := hv j hj
    rw [e0] at h0
    rw [e1] at h1
    exact ⟨ab, ao, rfl, h0, by rw [Nat.add_assoc]; exact h1⟩

set_option maxHeartbeats 1000000 in
set_option maxRecDepth 100000 in
theorem open_net15 {base : Nat} {v : Value} {d : DataW H} {p : List MemPlace} (hv : Value.okWide Tryz.prog W .any base 25 v) (h : DataW.Trod enc Tryz.prog W 0 (fun _ => true) true 25 v d p) :
    ∃ g : Gn, v = .agg g.vs.toArray ∧ g.In W := by
  obtain ⟨cs, rfl, hsz⟩ := okWide_struct Tryz.underlying25 hv
  obtain ⟨l⟩ := cs
  match l, hsz.trans (show Tryz.prog.cellsOf 25 = 8 by kernel_rfl) with
  | [c0, c1, c2, c3, c4, c5, c6, c7], _ =>
    obtain ⟨fuel, hf⟩ := h
    obtain ⟨xs, n, _, _, _, hlen, hg⟩ := DataW.trod_struct Tryz.underlying25 hf
    match xs, hlen with
    | [y0, y1, y2, y3, y4, y5, y6, y7], _ =>
      have h0 := hg 0 _ rfl
      have h1 := hg 1 _ rfl
      have h2 := hg 2 _ rfl
      have h3 := hg 3 _ rfl
      have h4 := hg 4 _ rfl
      have h5 := hg 5 _ rfl
      have h6 := hg 6 _ rfl
      have h7 := hg 7 _ rfl
      obtain ⟨pc, nc, kc, cA, cB, rfl, r0⟩ := slice_clocks15 (by simpa [Value.cells, show Tryz.prog.cellsOf 22 = 1 by kernel_rfl] using h0)
      obtain ⟨pp, np, kp, q, rfl, r1, s1⟩ := slice_ints15 Tryz.underlying23 Tryz.underlying3 (by kernel_rfl) (by simpa [Value.cells, show Tryz.prog.cellsOf 23 = 1 by kernel_rfl] using h1)
      obtain ⟨pd, nd, kd, dd, rfl, r2, s2⟩ := slice_ints15 Tryz.underlying23 Tryz.underlying3 (by kernel_rfl) (by simpa [Value.cells, show Tryz.prog.cellsOf 23 = 1 by kernel_rfl] using h2)
      obtain ⟨tu, e3, _, _⟩ := DataW.trod_int Tryz.underlying3 (by simpa using h3)
      obtain ⟨ga, e4, _, _⟩ := DataW.trod_int Tryz.underlying3 (by simpa using h4)
      obtain ⟨st, e5, _, _⟩ := DataW.trod_int Tryz.underlying3 (by simpa using h5)
      obtain ⟨iv, e6, _, _⟩ := DataW.trod_int Tryz.underlying3 (by simpa using h6)
      obtain ⟨sy, e7, _, _⟩ := DataW.trod_int Tryz.underlying3 (by simpa using h7)
      rw [show Tryz.prog.cellsOf 3 = 1 by kernel_rfl] at e3 e4 e5 e6 e7
      simp [Value.cells] at e3 e4 e5 e6 e7
      subst e3 e4 e5 e6 e7
      exact ⟨{ pc := pc, nc := nc, kc := kc, pp := pp, np := np, kp := kp, pd := pd, nd := nd, kd := kd, tu := tu, ga := ga, st := st, iv := iv, sy := sy, cO := cA, cP := cB, pa := q, de := dd }, rfl, r0, r1, r2⟩
end

end Go.Proofs.YtkencmijghigiaaGreat
