/-
  A whole struct read inside a region that draws its order; comparing two messages that are one.
-/
import Derived.Test.YtecengclcaodeaaWhole
import Derived.Test.YtecengclcaodeaaTail
namespace Go.Proofs.Ytecengclcaodeaa
open Go.RowKit Go.Lib

section
variable {P : Program} {ops : Array Oper} {rest : List Oper} {o : Oper} {a : Act} {C : World → Prop} {Lq : Act → Prop}
theorem wpQuiet_load_whole (hgd : o.guard = none) (x : Operand) (t : TypeId) (ho : o.op = .load t x) (b off : Nat) (c : List Value) (hx : a.eval x = .pointer (some ⟨b, off, none⟩)) (hagg : ∀ w, (isAgg t).run P w = .ok true w) (hsz : ∀ w, (sizeOf t).run P w = .ok c.length w)
    (hc : ∀ w, C w → ∀ j v, c[j]? = some v → w.cell? ⟨b, off + j, none⟩ = some v) (h : wpQuiet P ops C Lq rest (a.put o.dst (.agg c.toArray))) : wpQuiet P ops C Lq (o :: rest) a := by
  refine wpQuiet_step fun K hK => ?_
  rw [if_pos (by simp [Region.wanted, hgd])]
  refine ⟨.agg c.toArray, fun w hw => ?_, hK _ h⟩
  have hrun := run_loadVar_whole (P := P) (w := w) t b off c hagg hsz (hc w hw)
  unfold Oper.quietAt
  simp [execOp, ho, hx, Instr.loadAt, Instr.sureAddr, hrun, Result.andThen, Oper.quietUpon]
theorem wpQuiet_load_wanted (hw : Region.wanted o (yielded ops a.tmps) = true) (x : Operand) (t : TypeId) (ho : o.op = .load t x) (b off : Nat) (c : List Value) (hx : a.eval x = .pointer (some ⟨b, off, none⟩)) (hagg : ∀ w, (isAgg t).run P w = .ok true w) (hsz : ∀ w, (sizeOf t).run P w = .ok c.length w)
    (hc : ∀ w, C w → ∀ j v, c[j]? = some v → w.cell? ⟨b, off + j, none⟩ = some v) (h : wpQuiet P ops C Lq rest (a.put o.dst (.agg c.toArray))) : wpQuiet P ops C Lq (o :: rest) a := by
  refine wpQuiet_step fun K hK => ?_
  rw [if_pos hw]
  refine ⟨.agg c.toArray, fun w hw => ?_, hK _ h⟩
  have hrun := run_loadVar_whole (P := P) (w := w) t b off c hagg hsz (hc w hw)
  unfold Oper.quietAt
  simp [execOp, ho, hx, Instr.loadAt, Instr.sureAddr, hrun, Result.andThen, Oper.quietUpon]
theorem at_qload {d : Option Tmp} {ty : TypeId} {pos : String} {af : Array Edge} {g : Option (Tmp × Bool)} (t : TypeId) (x : Operand) (h : wpQuiet P ops C Lq (⟨d, .load t x, ty, pos, af, g⟩ :: rest) a) : wpQuiet P ops C Lq (⟨d, .load t x, ty, pos, af, g⟩ :: rest) a := h
theorem holds_regrown {w : World} {b : Nat} {c : List Value} (h : Holds w b c) : ∀ w', (∃ p : Regrown, w' = Go.Sort.grow (redrawn w p.d) p.os) → ∀ j v, c[j]? = some v → w'.cell? ⟨b, 0 + j, none⟩ = some v := by
  rintro w' ⟨p, rfl⟩ j v hv
  exact cell_regrown (h j v hv) p.d p.os
end

end Go.Proofs.Ytecengclcaodeaa
