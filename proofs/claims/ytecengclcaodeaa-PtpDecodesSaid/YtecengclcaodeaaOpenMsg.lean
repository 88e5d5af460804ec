/-
  Arguments opened: a message (17 cells, structs inside), a port identity, a draft of a message (15 cells, an array inside).
-/
import Derived.Test.YtecengclcaodeaaLift
namespace Go.Proofs.Ytecengclcaodeaa
open Go.RowKit Go.Lib Go.Joins
open Go.ChangeShapes Go.WideShapes Go.ChangeAt

section
variable {H : Type} {enc : TypeId × Value → H} {W : World} {base : Nat} {v : Value} {d : DataW H} {p : List MemPlace}
/-- One integer, read. -/
theorem leaf {t : TypeId} {k : IntKind} {sp : Nat → Bool} {hd : Bool} {n : Nat} {c : Value} {y : DataW H × List MemPlace} (hu : Try.prog.underlying t = some (.int k)) (h : DataW.trod enc Try.prog W 0 sp hd n t [c] = some y) : ∃ a : Int, c = .int k a ∧ (Lit.int k a).wf = true := by
  obtain ⟨a, e, _, w⟩ := DataW.trod_int hu h
  simp at e
  exact ⟨a, e, w⟩
set_option maxRecDepth 100000 in
theorem open_pid (hv : Value.okWide Try.prog W .any base 23 v) (h : DataW.Trod enc Try.prog W 0 (fun _ => true) true 23 v d p) :
    ∃ x0 x1 : Int, v = .agg #[.int .i64 x0, .int .i64 x1] ∧ (Lit.int .i64 x0).wf = true ∧ (Lit.int .i64 x1).wf = true := by
  obtain ⟨cs, rfl, hsz⟩ := okWide_struct Try.underlying23 hv
  obtain ⟨l⟩ := cs
  match l, hsz.trans (show Try.prog.cellsOf 23 = 2 by kernel_rfl) with
  | [c0, c1], _ =>
    obtain ⟨fuel, hf⟩ := h
    obtain ⟨xs, n, _, _, _, hlen, hg⟩ := DataW.trod_struct Try.underlying23 hf
    match xs, hlen with
    | [y0, y1], _ =>
      have q0 : Try.prog.cellsOf 3 = 1 := by kernel_rfl
      have h0 : DataW.trod enc Try.prog W 0 (fun _ => true) true n 3 ((List.drop 0 [c0, c1]).take (Try.prog.cellsOf 3)) = some y0 := hg 0 _ rfl
      rw [q0] at h0
      replace h0 : DataW.trod enc Try.prog W 0 (fun _ => true) true n 3 [c0] = some y0 := h0
      have h1 : DataW.trod enc Try.prog W 0 (fun _ => true) true n 3 ((List.drop 1 [c0, c1]).take (Try.prog.cellsOf 3)) = some y1 := hg 1 _ rfl
      rw [q0] at h1
      replace h1 : DataW.trod enc Try.prog W 0 (fun _ => true) true n 3 [c1] = some y1 := h1
      obtain ⟨x0, rfl, w0⟩ := leaf Try.underlying3 h0
      obtain ⟨x1, rfl, w1⟩ := leaf Try.underlying3 h1
      exact ⟨x0, x1, rfl, w0, w1⟩

set_option maxRecDepth 100000 in
theorem open_msg (hv : Value.okWide Try.prog W .any base 27 v) (h : DataW.Trod enc Try.prog W 0 (fun _ => true) true 27 v d p) :
    ∃ x0 x1 x2 x3 x4 x5 x6 x7 x8 x9 x10 x11 x12 x13 x14 x15 x16 : Int, v = .agg #[.int .i64 x0, .int .i64 x1, .int .i64 x2, .int .i64 x3, .int .i64 x4, .int .i64 x5, .int .i64 x6, .int .i64 x7, .int .i64 x8, .int .i64 x9, .int .i64 x10, .int .i64 x11, .int .i64 x12, .int .i64 x13, .int .i64 x14, .int .i64 x15, .int .i64 x16] ∧ (Lit.int .i64 x0).wf = true ∧ (Lit.int .i64 x1).wf = true ∧ (Lit.int .i64 x2).wf = true ∧ (Lit.int .i64 x3).wf = true ∧ (Lit.int .i64 x4).wf = true ∧ (Lit.int .i64 x5).wf = true ∧ (Lit.int .i64 x6).wf = true ∧ (Lit.int .i64 x7).wf = true ∧ (Lit.int .i64 x8).wf = true ∧ (Lit.int .i64 x9).wf = true ∧ (Lit.int .i64 x10).wf = true ∧ (Lit.int .i64 x11).wf = true ∧ (Lit.int .i64 x12).wf = true ∧ (Lit.int .i64 x13).wf = true ∧ (Lit.int .i64 x14).wf = true ∧ (Lit.int .i64 x15).wf = true ∧ (Lit.int .i64 x16).wf = true := by
  obtain ⟨cs, rfl, hsz⟩ := okWide_struct Try.underlying27 hv
  obtain ⟨l⟩ := cs
  match l, hsz.trans (show Try.prog.cellsOf 27 = 17 by kernel_rfl) with
  | [c0, c1, c2, c3, c4, c5, c6, c7, c8, c9, c10, c11, c12, c13, c14, c15, c16], _ =>
    obtain ⟨fuel, hf⟩ := h
    obtain ⟨xs, n, _, _, _, hlen, hg⟩ := DataW.trod_struct Try.underlying27 hf
    match xs, hlen with
    | [y0, y1, y2, y3, y4, y5, y6, y7, y8, y9], _ =>
      have q0 : Try.prog.cellsOf 25 = 6 := by kernel_rfl
      have q1 : Try.prog.cellsOf 23 = 2 := by kernel_rfl
      have q2 : Try.prog.cellsOf 3 = 1 := by kernel_rfl
      have h0 : DataW.trod enc Try.prog W 0 (fun _ => true) true n 3 ((List.drop 0 [c0, c1, c2, c3, c4, c5, c6, c7, c8, c9, c10, c11, c12, c13, c14, c15, c16]).take (Try.prog.cellsOf 3)) = some y0 := hg 0 _ rfl
      rw [q2] at h0
      replace h0 : DataW.trod enc Try.prog W 0 (fun _ => true) true n 3 [c0] = some y0 := h0
      have h1 : DataW.trod enc Try.prog W 0 (fun _ => true) true n 3 ((List.drop 1 [c0, c1, c2, c3, c4, c5, c6, c7, c8, c9, c10, c11, c12, c13, c14, c15, c16]).take (Try.prog.cellsOf 3)) = some y1 := hg 1 _ rfl
      rw [q2] at h1
      replace h1 : DataW.trod enc Try.prog W 0 (fun _ => true) true n 3 [c1] = some y1 := h1
      have h2 : DataW.trod enc Try.prog W 0 (fun _ => true) true n 3 ((List.drop 2 [c0, c1, c2, c3, c4, c5, c6, c7, c8, c9, c10, c11, c12, c13, c14, c15, c16]).take (Try.prog.cellsOf 3)) = some y2 := hg 2 _ rfl
      rw [q2] at h2
      replace h2 : DataW.trod enc Try.prog W 0 (fun _ => true) true n 3 [c2] = some y2 := h2
      have h3 : DataW.trod enc Try.prog W 0 (fun _ => true) true n 23 ((List.drop 3 [c0, c1, c2, c3, c4, c5, c6, c7, c8, c9, c10, c11, c12, c13, c14, c15, c16]).take (Try.prog.cellsOf 23)) = some y3 := hg 3 _ rfl
      rw [q1] at h3
      replace h3 : DataW.trod enc Try.prog W 0 (fun _ => true) true n 23 [c3, c4] = some y3 := h3
      obtain ⟨z3, n3, _, _, _, hl3, hg3⟩ := DataW.trod_struct Try.underlying23 h3
      match z3, hl3 with
      | [u3_0, u3_1], _ =>
      have k3_0 : DataW.trod enc Try.prog W 0 (fun _ => true) true n3 3 ((List.drop 0 [c3, c4]).take (Try.prog.cellsOf 3)) = some u3_0 := hg3 0 _ rfl
      rw [q2] at k3_0
      replace k3_0 : DataW.trod enc Try.prog W 0 (fun _ => true) true n3 3 [c3] = some u3_0 := k3_0
      have k3_1 : DataW.trod enc Try.prog W 0 (fun _ => true) true n3 3 ((List.drop 1 [c3, c4]).take (Try.prog.cellsOf 3)) = some u3_1 := hg3 1 _ rfl
      rw [q2] at k3_1
      replace k3_1 : DataW.trod enc Try.prog W 0 (fun _ => true) true n3 3 [c4] = some u3_1 := k3_1
      have h4 : DataW.trod enc Try.prog W 0 (fun _ => true) true n 3 ((List.drop 5 [c0, c1, c2, c3, c4, c5, c6, c7, c8, c9, c10, c11, c12, c13, c14, c15, c16]).take (Try.prog.cellsOf 3)) = some y4 := hg 4 _ rfl
      rw [q2] at h4
      replace h4 : DataW.trod enc Try.prog W 0 (fun _ => true) true n 3 [c5] = some y4 := h4
      have h5 : DataW.trod enc Try.prog W 0 (fun _ => true) true n 3 ((List.drop 6 [c0, c1, c2, c3, c4, c5, c6, c7, c8, c9, c10, c11, c12, c13, c14, c15, c16]).take (Try.prog.cellsOf 3)) = some y5 := hg 5 _ rfl
      rw [q2] at h5
      replace h5 : DataW.trod enc Try.prog W 0 (fun _ => true) true n 3 [c6] = some y5 := h5
      have h6 : DataW.trod enc Try.prog W 0 (fun _ => true) true n 3 ((List.drop 7 [c0, c1, c2, c3, c4, c5, c6, c7, c8, c9, c10, c11, c12, c13, c14, c15, c16]).take (Try.prog.cellsOf 3)) = some y6 := hg 6 _ rfl
      rw [q2] at h6
      replace h6 : DataW.trod enc Try.prog W 0 (fun _ => true) true n 3 [c7] = some y6 := h6
      have h7 : DataW.trod enc Try.prog W 0 (fun _ => true) true n 23 ((List.drop 8 [c0, c1, c2, c3, c4, c5, c6, c7, c8, c9, c10, c11, c12, c13, c14, c15, c16]).take (Try.prog.cellsOf 23)) = some y7 := hg 7 _ rfl
      rw [q1] at h7
      replace h7 : DataW.trod enc Try.prog W 0 (fun _ => true) true n 23 [c8, c9] = some y7 := h7
      obtain ⟨z7, n7, _, _, _, hl7, hg7⟩ := DataW.trod_struct Try.underlying23 h7
      match z7, hl7 with
      | [u7_0, u7_1], _ =>
      have k7_0 : DataW.trod enc Try.prog W 0 (fun _ => true) true n7 3 ((List.drop 0 [c8, c9]).take (Try.prog.cellsOf 3)) = some u7_0 := hg7 0 _ rfl
      rw [q2] at k7_0
      replace k7_0 : DataW.trod enc Try.prog W 0 (fun _ => true) true n7 3 [c8] = some u7_0 := k7_0
      have k7_1 : DataW.trod enc Try.prog W 0 (fun _ => true) true n7 3 ((List.drop 1 [c8, c9]).take (Try.prog.cellsOf 3)) = some u7_1 := hg7 1 _ rfl
      rw [q2] at k7_1
      replace k7_1 : DataW.trod enc Try.prog W 0 (fun _ => true) true n7 3 [c9] = some u7_1 := k7_1
      have h8 : DataW.trod enc Try.prog W 0 (fun _ => true) true n 25 ((List.drop 10 [c0, c1, c2, c3, c4, c5, c6, c7, c8, c9, c10, c11, c12, c13, c14, c15, c16]).take (Try.prog.cellsOf 25)) = some y8 := hg 8 _ rfl
      rw [q0] at h8
      replace h8 : DataW.trod enc Try.prog W 0 (fun _ => true) true n 25 [c10, c11, c12, c13, c14, c15] = some y8 := h8
      obtain ⟨z8, n8, _, _, _, hl8, hg8⟩ := DataW.trod_struct Try.underlying25 h8
      match z8, hl8 with
      | [u8_0, u8_1, u8_2, u8_3, u8_4, u8_5], _ =>
      have k8_0 : DataW.trod enc Try.prog W 0 (fun _ => true) true n8 3 ((List.drop 0 [c10, c11, c12, c13, c14, c15]).take (Try.prog.cellsOf 3)) = some u8_0 := hg8 0 _ rfl
      rw [q2] at k8_0
      replace k8_0 : DataW.trod enc Try.prog W 0 (fun _ => true) true n8 3 [c10] = some u8_0 := k8_0
      have k8_1 : DataW.trod enc Try.prog W 0 (fun _ => true) true n8 3 ((List.drop 1 [c10, c11, c12, c13, c14, c15]).take (Try.prog.cellsOf 3)) = some u8_1 := hg8 1 _ rfl
      rw [q2] at k8_1
      replace k8_1 : DataW.trod enc Try.prog W 0 (fun _ => true) true n8 3 [c11] = some u8_1 := k8_1
      have k8_2 : DataW.trod enc Try.prog W 0 (fun _ => true) true n8 3 ((List.drop 2 [c10, c11, c12, c13, c14, c15]).take (Try.prog.cellsOf 3)) = some u8_2 := hg8 2 _ rfl
      rw [q2] at k8_2
      replace k8_2 : DataW.trod enc Try.prog W 0 (fun _ => true) true n8 3 [c12] = some u8_2 := k8_2
      have k8_3 : DataW.trod enc Try.prog W 0 (fun _ => true) true n8 3 ((List.drop 3 [c10, c11, c12, c13, c14, c15]).take (Try.prog.cellsOf 3)) = some u8_3 := hg8 3 _ rfl
      rw [q2] at k8_3
      replace k8_3 : DataW.trod enc Try.prog W 0 (fun _ => true) true n8 3 [c13] = some u8_3 := k8_3
      have k8_4 : DataW.trod enc Try.prog W 0 (fun _ => true) true n8 3 ((List.drop 4 [c10, c11, c12, c13, c14, c15]).take (Try.prog.cellsOf 3)) = some u8_4 := hg8 4 _ rfl
      rw [q2] at k8_4
      replace k8_4 : DataW.trod enc Try.prog W 0 (fun _ => true) true n8 3 [c14] = some u8_4 := k8_4
      have k8_5 : DataW.trod enc Try.prog W 0 (fun _ => true) true n8 3 ((List.drop 5 [c10, c11, c12, c13, c14, c15]).take (Try.prog.cellsOf 3)) = some u8_5 := hg8 5 _ rfl
      rw [q2] at k8_5
      replace k8_5 : DataW.trod enc Try.prog W 0 (fun _ => true) true n8 3 [c15] = some u8_5 := k8_5
      have h9 : DataW.trod enc Try.prog W 0 (fun _ => true) true n 3 ((List.drop 16 [c0, c1, c2, c3, c4, c5, c6, c7, c8, c9, c10, c11, c12, c13, c14, c15, c16]).take (Try.prog.cellsOf 3)) = some y9 := hg 9 _ rfl
      rw [q2] at h9
      replace h9 : DataW.trod enc Try.prog W 0 (fun _ => true) true n 3 [c16] = some y9 := h9
      obtain ⟨x0, rfl, w0⟩ := leaf Try.underlying3 h0
      obtain ⟨x1, rfl, w1⟩ := leaf Try.underlying3 h1
      obtain ⟨x2, rfl, w2⟩ := leaf Try.underlying3 h2
      obtain ⟨x3, rfl, w3⟩ := leaf Try.underlying3 k3_0
      obtain ⟨x4, rfl, w4⟩ := leaf Try.underlying3 k3_1
      obtain ⟨x5, rfl, w5⟩ := leaf Try.underlying3 h4
      obtain ⟨x6, rfl, w6⟩ := leaf Try.underlying3 h5
      obtain ⟨x7, rfl, w7⟩ := leaf Try.underlying3 h6
      obtain ⟨x8, rfl, w8⟩ := leaf Try.underlying3 k7_0
      obtain ⟨x9, rfl, w9⟩ := leaf Try.underlying3 k7_1
      obtain ⟨x10, rfl, w10⟩ := leaf Try.underlying3 k8_0
      obtain ⟨x11, rfl, w11⟩ := leaf Try.underlying3 k8_1
      obtain ⟨x12, rfl, w12⟩ := leaf Try.underlying3 k8_2
      obtain ⟨x13, rfl, w13⟩ := leaf Try.underlying3 k8_3
      obtain ⟨x14, rfl, w14⟩ := leaf Try.underlying3 k8_4
      obtain ⟨x15, rfl, w15⟩ := leaf Try.underlying3 k8_5
      obtain ⟨x16, rfl, w16⟩ := leaf Try.underlying3 h9
      exact ⟨x0, x1, x2, x3, x4, x5, x6, x7, x8, x9, x10, x11, x12, x13, x14, x15, x16, rfl, w0, w1, w2, w3, w4, w5, w6, w7, w8, w9, w10, w11, w12, w13, w14, w15, w16⟩

set_option maxRecDepth 100000 in
theorem open_draft10 (hv : Value.okWide Try.prog W .any base 32 v) (h : DataW.Trod enc Try.prog W 0 (fun _ => true) true 32 v d p) :
    ∃ x0 x1 x2 x3 x4 x5 x6 x7 x8 x9 x10 x11 x12 x13 x14 : Int, v = .agg #[.int .u8 x0, .int .u8 x1, .int .i64 x2, .int .i64 x3, .int .u64 x4, .int .u64 x5, .int .u16 x6, .int .u16 x7, .int .u16 x8, .int .i32 x9, .int .u8 x10, .int .u8 x11, .int .u8 x12, .int .u8 x13, .int .u16 x14] ∧ (Lit.int .u8 x0).wf = true ∧ (Lit.int .u8 x1).wf = true ∧ (Lit.int .i64 x2).wf = true ∧ (Lit.int .i64 x3).wf = true ∧ (Lit.int .u64 x4).wf = true ∧ (Lit.int .u64 x5).wf = true ∧ (Lit.int .u16 x6).wf = true ∧ (Lit.int .u16 x7).wf = true ∧ (Lit.int .u16 x8).wf = true ∧ (Lit.int .i32 x9).wf = true ∧ (Lit.int .u8 x10).wf = true ∧ (Lit.int .u8 x11).wf = true ∧ (Lit.int .u8 x12).wf = true ∧ (Lit.int .u8 x13).wf = true ∧ (Lit.int .u16 x14).wf = true := by
  obtain ⟨cs, rfl, hsz⟩ := okWide_struct Try.underlying32 hv
  obtain ⟨l⟩ := cs
  match l, hsz.trans (show Try.prog.cellsOf 32 = 15 by kernel_rfl) with
  | [c0, c1, c2, c3, c4, c5, c6, c7, c8, c9, c10, c11, c12, c13, c14], _ =>
    obtain ⟨fuel, hf⟩ := h
    obtain ⟨xs, n, _, _, _, hlen, hg⟩ := DataW.trod_struct Try.underlying32 hf
    match xs, hlen with
    | [y0, y1, y2, y3, y4, y5, y6, y7, y8, y9, y10, y11], _ =>
      have q0 : Try.prog.cellsOf 30 = 4 := by kernel_rfl
      have q1 : Try.prog.cellsOf 21 = 1 := by kernel_rfl
      have q2 : Try.prog.cellsOf 2 = 1 := by kernel_rfl
      have q3 : Try.prog.cellsOf 29 = 1 := by kernel_rfl
      have q4 : Try.prog.cellsOf 28 = 1 := by kernel_rfl
      have q5 : Try.prog.cellsOf 5 = 1 := by kernel_rfl
      have h0 : DataW.trod enc Try.prog W 0 (fun _ => true) true n 5 ((List.drop 0 [c0, c1, c2, c3, c4, c5, c6, c7, c8, c9, c10, c11, c12, c13, c14]).take (Try.prog.cellsOf 5)) = some y0 := hg 0 _ rfl
      rw [q5] at h0
      replace h0 : DataW.trod enc Try.prog W 0 (fun _ => true) true n 5 [c0] = some y0 := h0
      have h1 : DataW.trod enc Try.prog W 0 (fun _ => true) true n 5 ((List.drop 1 [c0, c1, c2, c3, c4, c5, c6, c7, c8, c9, c10, c11, c12, c13, c14]).take (Try.prog.cellsOf 5)) = some y1 := hg 1 _ rfl
      rw [q5] at h1
      replace h1 : DataW.trod enc Try.prog W 0 (fun _ => true) true n 5 [c1] = some y1 := h1
      have h2 : DataW.trod enc Try.prog W 0 (fun _ => true) true n 2 ((List.drop 2 [c0, c1, c2, c3, c4, c5, c6, c7, c8, c9, c10, c11, c12, c13, c14]).take (Try.prog.cellsOf 2)) = some y2 := hg 2 _ rfl
      rw [q2] at h2
      replace h2 : DataW.trod enc Try.prog W 0 (fun _ => true) true n 2 [c2] = some y2 := h2
      have h3 : DataW.trod enc Try.prog W 0 (fun _ => true) true n 2 ((List.drop 3 [c0, c1, c2, c3, c4, c5, c6, c7, c8, c9, c10, c11, c12, c13, c14]).take (Try.prog.cellsOf 2)) = some y3 := hg 3 _ rfl
      rw [q2] at h3
      replace h3 : DataW.trod enc Try.prog W 0 (fun _ => true) true n 2 [c3] = some y3 := h3
      have h4 : DataW.trod enc Try.prog W 0 (fun _ => true) true n 28 ((List.drop 4 [c0, c1, c2, c3, c4, c5, c6, c7, c8, c9, c10, c11, c12, c13, c14]).take (Try.prog.cellsOf 28)) = some y4 := hg 4 _ rfl
      rw [q4] at h4
      replace h4 : DataW.trod enc Try.prog W 0 (fun _ => true) true n 28 [c4] = some y4 := h4
      have h5 : DataW.trod enc Try.prog W 0 (fun _ => true) true n 28 ((List.drop 5 [c0, c1, c2, c3, c4, c5, c6, c7, c8, c9, c10, c11, c12, c13, c14]).take (Try.prog.cellsOf 28)) = some y5 := hg 5 _ rfl
      rw [q4] at h5
      replace h5 : DataW.trod enc Try.prog W 0 (fun _ => true) true n 28 [c5] = some y5 := h5
      have h6 : DataW.trod enc Try.prog W 0 (fun _ => true) true n 29 ((List.drop 6 [c0, c1, c2, c3, c4, c5, c6, c7, c8, c9, c10, c11, c12, c13, c14]).take (Try.prog.cellsOf 29)) = some y6 := hg 6 _ rfl
      rw [q3] at h6
      replace h6 : DataW.trod enc Try.prog W 0 (fun _ => true) true n 29 [c6] = some y6 := h6
      have h7 : DataW.trod enc Try.prog W 0 (fun _ => true) true n 29 ((List.drop 7 [c0, c1, c2, c3, c4, c5, c6, c7, c8, c9, c10, c11, c12, c13, c14]).take (Try.prog.cellsOf 29)) = some y7 := hg 7 _ rfl
      rw [q3] at h7
      replace h7 : DataW.trod enc Try.prog W 0 (fun _ => true) true n 29 [c7] = some y7 := h7
      have h8 : DataW.trod enc Try.prog W 0 (fun _ => true) true n 29 ((List.drop 8 [c0, c1, c2, c3, c4, c5, c6, c7, c8, c9, c10, c11, c12, c13, c14]).take (Try.prog.cellsOf 29)) = some y8 := hg 8 _ rfl
      rw [q3] at h8
      replace h8 : DataW.trod enc Try.prog W 0 (fun _ => true) true n 29 [c8] = some y8 := h8
      have h9 : DataW.trod enc Try.prog W 0 (fun _ => true) true n 21 ((List.drop 9 [c0, c1, c2, c3, c4, c5, c6, c7, c8, c9, c10, c11, c12, c13, c14]).take (Try.prog.cellsOf 21)) = some y9 := hg 9 _ rfl
      rw [q1] at h9
      replace h9 : DataW.trod enc Try.prog W 0 (fun _ => true) true n 21 [c9] = some y9 := h9
      have h10 : DataW.trod enc Try.prog W 0 (fun _ => true) true n 30 ((List.drop 10 [c0, c1, c2, c3, c4, c5, c6, c7, c8, c9, c10, c11, c12, c13, c14]).take (Try.prog.cellsOf 30)) = some y10 := hg 10 _ rfl
      rw [q0] at h10
      replace h10 : DataW.trod enc Try.prog W 0 (fun _ => true) true n 30 [c10, c11, c12, c13] = some y10 := h10
      obtain ⟨z10, n10, _, _, _, hl10, hg10⟩ := DataW.trod_array Try.underlying30 h10
      match z10, hl10 with
      | [u10_0, u10_1, u10_2, u10_3], _ =>
      have k10_0 : DataW.trod enc Try.prog W 0 (fun _ => true) true n10 5 ((List.drop (0 * Try.prog.cellsOf 5) [c10, c11, c12, c13]).take (Try.prog.cellsOf 5)) = some u10_0 := hg10 0 (by decide)
      rw [q5] at k10_0
      replace k10_0 : DataW.trod enc Try.prog W 0 (fun _ => true) true n10 5 [c10] = some u10_0 := k10_0
      have k10_1 : DataW.trod enc Try.prog W 0 (fun _ => true) true n10 5 ((List.drop (1 * Try.prog.cellsOf 5) [c10, c11, c12, c13]).take (Try.prog.cellsOf 5)) = some u10_1 := hg10 1 (by decide)
      rw [q5] at k10_1
      replace k10_1 : DataW.trod enc Try.prog W 0 (fun _ => true) true n10 5 [c11] = some u10_1 := k10_1
      have k10_2 : DataW.trod enc Try.prog W 0 (fun _ => true) true n10 5 ((List.drop (2 * Try.prog.cellsOf 5) [c10, c11, c12, c13]).take (Try.prog.cellsOf 5)) = some u10_2 := hg10 2 (by decide)
      rw [q5] at k10_2
      replace k10_2 : DataW.trod enc Try.prog W 0 (fun _ => true) true n10 5 [c12] = some u10_2 := k10_2
      have k10_3 : DataW.trod enc Try.prog W 0 (fun _ => true) true n10 5 ((List.drop (3 * Try.prog.cellsOf 5) [c10, c11, c12, c13]).take (Try.prog.cellsOf 5)) = some u10_3 := hg10 3 (by decide)
      rw [q5] at k10_3
      replace k10_3 : DataW.trod enc Try.prog W 0 (fun _ => true) true n10 5 [c13] = some u10_3 := k10_3
      have h11 : DataW.trod enc Try.prog W 0 (fun _ => true) true n 29 ((List.drop 14 [c0, c1, c2, c3, c4, c5, c6, c7, c8, c9, c10, c11, c12, c13, c14]).take (Try.prog.cellsOf 29)) = some y11 := hg 11 _ rfl
      rw [q3] at h11
      replace h11 : DataW.trod enc Try.prog W 0 (fun _ => true) true n 29 [c14] = some y11 := h11
      obtain ⟨x0, rfl, w0⟩ := leaf Try.underlying5 h0
      obtain ⟨x1, rfl, w1⟩ := leaf Try.underlying5 h1
      obtain ⟨x2, rfl, w2⟩ := leaf Try.underlying2 h2
      obtain ⟨x3, rfl, w3⟩ := leaf Try.underlying2 h3
      obtain ⟨x4, rfl, w4⟩ := leaf Try.underlying28 h4
      obtain ⟨x5, rfl, w5⟩ := leaf Try.underlying28 h5
      obtain ⟨x6, rfl, w6⟩ := leaf Try.underlying29 h6
      obtain ⟨x7, rfl, w7⟩ := leaf Try.underlying29 h7
      obtain ⟨x8, rfl, w8⟩ := leaf Try.underlying29 h8
      obtain ⟨x9, rfl, w9⟩ := leaf Try.underlying21 h9
      obtain ⟨x10, rfl, w10⟩ := leaf Try.underlying5 k10_0
      obtain ⟨x11, rfl, w11⟩ := leaf Try.underlying5 k10_1
      obtain ⟨x12, rfl, w12⟩ := leaf Try.underlying5 k10_2
      obtain ⟨x13, rfl, w13⟩ := leaf Try.underlying5 k10_3
      obtain ⟨x14, rfl, w14⟩ := leaf Try.underlying29 h11
      exact ⟨x0, x1, x2, x3, x4, x5, x6, x7, x8, x9, x10, x11, x12, x13, x14, rfl, w0, w1, w2, w3, w4, w5, w6, w7, w8, w9, w10, w11, w12, w13, w14⟩

end

end Go.Proofs.Ytecengclcaodeaa
