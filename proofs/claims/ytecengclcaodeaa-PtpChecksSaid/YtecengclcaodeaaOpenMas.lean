/-
  A master opened (6 cells). No conditions.
-/
import Derived.Test.YtecengclcaodeaaOpenMsg
namespace Go.Proofs.Ytecengclcaodeaa
open Go.RowKit Go.Lib Go.Joins
open Go.ChangeShapes Go.WideShapes Go.ChangeAt

section
variable {H : Type} {enc : TypeId × Value → H} {W : World} {base : Nat} {v : Value} {d : DataW H} {p : List MemPlace}
set_option maxRecDepth 100000 in
theorem open_master (hv : Value.okWide Try.prog W .any base 25 v) (h : DataW.Trod enc Try.prog W 0 (fun _ => true) true 25 v d p) :
    ∃ x0 x1 x2 x3 x4 x5 : Int, v = .agg #[.int .i64 x0, .int .i64 x1, .int .i64 x2, .int .i64 x3, .int .i64 x4, .int .i64 x5] ∧ (Lit.int .i64 x0).wf = true ∧ (Lit.int .i64 x1).wf = true ∧ (Lit.int .i64 x2).wf = true ∧ (Lit.int .i64 x3).wf = true ∧ (Lit.int .i64 x4).wf = true ∧ (Lit.int .i64 x5).wf = true := by
  obtain ⟨cs, rfl, hsz⟩ := okWide_struct Try.underlying25 hv
  obtain ⟨l⟩ := cs
  match l, hsz.trans (show Try.prog.cellsOf 25 = 6 by kernel_rfl) with
  | [c0, c1, c2, c3, c4, c5], _ =>
    obtain ⟨fuel, hf⟩ := h
    obtain ⟨xs, n, _, _, _, hlen, hg⟩ := DataW.trod_struct Try.underlying25 hf
    match xs, hlen with
    | [y0, y1, y2, y3, y4, y5], _ =>
      have q0 : Try.prog.cellsOf 3 = 1 := by kernel_rfl
      have h0 : DataW.trod enc Try.prog W 0 (fun _ => true) true n 3 ((List.drop 0 [c0, c1, c2, c3, c4, c5]).take (Try.prog.cellsOf 3)) = some y0 := hg 0 _ rfl
      rw [q0] at h0
      replace h0 : DataW.trod enc Try.prog W 0 (fun _ => true) true n 3 [c0] = some y0 := h0
      have h1 : DataW.trod enc Try.prog W 0 (fun _ => true) true n 3 ((List.drop 1 [c0, c1, c2, c3, c4, c5]).take (Try.prog.cellsOf 3)) = some y1 := hg 1 _ rfl
      rw [q0] at h1
      replace h1 : DataW.trod enc Try.prog W 0 (fun _ => true) true n 3 [c1] = some y1 := h1
      have h2 : DataW.trod enc Try.prog W 0 (fun _ => true) true n 3 ((List.drop 2 [c0, c1, c2, c3, c4, c5]).take (Try.prog.cellsOf 3)) = some y2 := hg 2 _ rfl
      rw [q0] at h2
      replace h2 : DataW.trod enc Try.prog W 0 (fun _ => true) true n 3 [c2] = some y2 := h2
      have h3 : DataW.trod enc Try.prog W 0 (fun _ => true) true n 3 ((List.drop 3 [c0, c1, c2, c3, c4, c5]).take (Try.prog.cellsOf 3)) = some y3 := hg 3 _ rfl
      rw [q0] at h3
      replace h3 : DataW.trod enc Try.prog W 0 (fun _ => true) true n 3 [c3] = some y3 := h3
      have h4 : DataW.trod enc Try.prog W 0 (fun _ => true) true n 3 ((List.drop 4 [c0, c1, c2, c3, c4, c5]).take (Try.prog.cellsOf 3)) = some y4 := hg 4 _ rfl
      rw [q0] at h4
      replace h4 : DataW.trod enc Try.prog W 0 (fun _ => true) true n 3 [c4] = some y4 := h4
      have h5 : DataW.trod enc Try.prog W 0 (fun _ => true) true n 3 ((List.drop 5 [c0, c1, c2, c3, c4, c5]).take (Try.prog.cellsOf 3)) = some y5 := hg 5 _ rfl
      rw [q0] at h5
      replace h5 : DataW.trod enc Try.prog W 0 (fun _ => true) true n 3 [c5] = some y5 := h5
      obtain ⟨x0, rfl, w0⟩ := leaf Try.underlying3 h0
      obtain ⟨x1, rfl, w1⟩ := leaf Try.underlying3 h1
      obtain ⟨x2, rfl, w2⟩ := leaf Try.underlying3 h2
      obtain ⟨x3, rfl, w3⟩ := leaf Try.underlying3 h3
      obtain ⟨x4, rfl, w4⟩ := leaf Try.underlying3 h4
      obtain ⟨x5, rfl, w5⟩ := leaf Try.underlying3 h5
      exact ⟨x0, x1, x2, x3, x4, x5, rfl, w0, w1, w2, w3, w4, w5⟩

end

end Go.Proofs.Ytecengclcaodeaa
