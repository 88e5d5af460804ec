/-
  A draft's message out of the draft's bounds. No conditions.
-/
import Derived.Test.YtecengclcaodeaaDraft
namespace Go.Proofs.Ytecengclcaodeaa
open Go.RowKit Go.Lib Plain

/-- A draft's numbers are within their kinds. -/
def DrfOk (k d c t i o p s n b x0 x1 x2 x3 v : Int) : Prop := (Lit.int .u8 k).wf = true ∧ (Lit.int .u8 d).wf = true ∧ (Lit.int .i64 c).wf = true ∧ (Lit.int .i64 t).wf = true ∧ (Lit.int .u64 i).wf = true ∧ (Lit.int .u64 o).wf = true ∧ (Lit.int .u16 p).wf = true ∧ (Lit.int .u16 s).wf = true ∧ (Lit.int .u16 n).wf = true ∧ (Lit.int .i32 b).wf = true ∧ (Lit.int .u8 x0).wf = true ∧ (Lit.int .u8 x1).wf = true ∧ (Lit.int .u8 x2).wf = true ∧ (Lit.int .u8 x3).wf = true ∧ (Lit.int .u16 v).wf = true
/-- A draft's message. -/
def drfL (k d c t i o p s n b x0 x1 x2 x3 v : Int) : List Value :=
  draftL (sixV (k % 6)) (d % 128) (c.tmod 4398046511105) (i % 281474976710656) (1 + p % 65535) s (t.tmod 4398046511105) (b.tmod 8388609) (o % 281474976710656) (1 + n % 65535) x0 x1 x2 v x3 n

theorem draftMsg_any (k d c t i o p s n b x0 x1 x2 x3 v : Int) (h : DrfOk k d c t i o p s n b x0 x1 x2 x3 v) (w : World) :
    Calls Try.prog 16 #[.agg #[.int .u8 k, .int .u8 d, .int .i64 c, .int .i64 t, .int .u64 i, .int .u64 o, .int .u16 p, .int .u16 s, .int .u16 n, .int .i32 b, .int .u8 x0, .int .u8 x1, .int .u8 x2, .int .u8 x3, .int .u16 v]] w fun e w' => e = .returned (.agg (drfL k d c t i o p s n b x0 x1 x2 x3 v).toArray) ∧ Below w.heap.size w w' := by
  obtain ⟨h0, h1, h2, h3, h4, h5, h6, h7, h8, h9, h10, h11, h12, h13, h14⟩ := h
  simp [Lit.wf, IntKind.min, IntKind.max, IntKind.signed, IntKind.bits] at h0 h1 h2 h3 h4 h5 h6 h7 h8 h9 h10 h11 h12 h13 h14
  have e1 : k.tmod 6 = k % 6 := Int.tmod_eq_emod_of_nonneg (by omega)
  have e2 : d.tmod 128 = d % 128 := Int.tmod_eq_emod_of_nonneg (by omega)
  have e3 : i.tmod 281474976710656 = i % 281474976710656 := Int.tmod_eq_emod_of_nonneg (by omega)
  have e4 : o.tmod 281474976710656 = o % 281474976710656 := Int.tmod_eq_emod_of_nonneg (by omega)
  have e5 : p.tmod 65535 = p % 65535 := Int.tmod_eq_emod_of_nonneg (by omega)
  have e6 : n.tmod 65535 = n % 65535 := Int.tmod_eq_emod_of_nonneg (by omega)
  have b1 := Int.tmod_lt_of_pos b (show (0 : Int) < 8388609 by omega)
  have b2 := Int.lt_tmod_of_pos b (show (0 : Int) < 8388609 by omega)
  exact draftMsg_core k d c t i o p s n b x0 x1 x2 x3 v (k % 6) (d % 128) (c.tmod 4398046511105) (t.tmod 4398046511105) (i % 281474976710656) (o % 281474976710656) (p % 65535) (n % 65535) (b.tmod 8388609)
    e1 (by omega) (by omega) e2 rfl rfl e3 e4 e5 e6 rfl (by omega) (by omega) (by omega) (by omega) (by omega) (by omega) (by omega) (by omega) (by omega) (by omega) (by omega) (by omega) (by omega) (by omega) (by omega) (by omega) (by omega) (by omega) (by omega) (by omega) (by omega) (by omega) (by omega) (by omega) (by omega) (by omega) w

/-- It is a message: seventeen numbers. -/
theorem draftL_msg (x D C I p S T B O N a b c v e n : Int) : ∃ K D' C' i' p' S' T' P' r' q' a' b' c' v' e' g' s' : Int, draftL x D C I p S T B O N a b c v e n = mMsg K D' C' i' p' S' T' P' r' q' a' b' c' v' e' g' s' := by
  unfold draftL
  repeat' split
  all_goals exact ⟨_, _, _, _, _, _, _, _, _, _, _, _, _, _, _, _, _, rfl⟩

end Go.Proofs.Ytecengclcaodeaa
