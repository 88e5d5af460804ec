/-
  A whole struct read or written at a step of a region that draws its order. No conditions.
-/
import Derived.Test.YtecengclcaodeaaWhole
import Derived.Deep.RegionHeld3
namespace Go.Proofs.Ytecengclcaodeaa
open Go.RowKit Go.Lib

section
variable {P : Program} {ops : Array Oper} {o : Oper} {a : Act} {w : World} {K : Act → World → Prop} {Q : Exit → Act → World → Prop} {E : Prop}
theorem step_load_whole (hgd : o.guard = none) (x : Operand) (t : TypeId) (ho : o.op = .load t x) (b off : Nat) (c : List Value) (hx : a.eval x = .pointer (some ⟨b, off, none⟩)) (hagg : ∀ w, (isAgg t).run P w = .ok true w) (hsz : ∀ w, (sizeOf t).run P w = .ok c.length w)
    (hc : ∀ j v, c[j]? = some v → w.cell? ⟨b, off + j, none⟩ = some v) (h : K (a.put o.dst (.agg c.toArray)) w) : if Region.wanted o (yielded ops a.tmps) = true then Oper.wp P o a w K Q else E := by
  have hw : Region.wanted o (yielded ops a.tmps) = true := by simp [Region.wanted, hgd]
  rw [if_pos hw]
  have hrun := run_loadVar_whole (P := P) (w := w) t b off c hagg hsz hc
  unfold Oper.wp
  simp [execOp, ho, hx, Instr.loadAt, Instr.sureAddr, hrun, Result.andThen]
  exact h
theorem step_store_whole (hgd : o.guard = none) (x v : Operand) (t : TypeId) (ho : o.op = .store t x v) (b off : Nat) (c : List Value) (hx : a.eval x = .pointer (some ⟨b, off, none⟩)) (hv : a.eval v = .agg c.toArray) (hsz : ∀ w, (sizeOf t).run P w = .ok c.length w)
    (hc : ∀ j, j < c.length → (w.cell? ⟨b, off + j, none⟩).isSome = true) (hf : ∀ j, j < c.length → w.frozen? ⟨b, off + j, none⟩ = false) (h1 : ∀ v ∈ c, v.oneCell' = true)
    (h : ∀ w', Wrote b off c w w' → K (a.put o.dst undef) w') : if Region.wanted o (yielded ops a.tmps) = true then Oper.wp P o a w K Q else E := by
  have hw : Region.wanted o (yielded ops a.tmps) = true := by simp [Region.wanted, hgd]
  rw [if_pos hw]
  have hrun := run_storeVar_whole (P := P) (w := w) t b off c hsz hc hf h1
  unfold Oper.wp
  simp [execOp, ho, hx, hv, Instr.storeAt, Instr.sureAddr, hrun, Result.andThen]
  exact h _ (wrote_setCells b off c w hc)
theorem yieldsIf_load_whole {S : World → Prop} (hgd : o.guard = none) (x : Operand) (t : TypeId) (ho : o.op = .load t x) (b : Nat) (c : List Value) (hx : a.eval x = .pointer (some ⟨b, 0, none⟩)) (hagg : ∀ w, (isAgg t).run P w = .ok true w) (hsz : ∀ w, (sizeOf t).run P w = .ok c.length w)
    (hS : ∀ w, S w → Holds w b c) : YieldsIf P ops S o (.agg c.toArray) a :=
  .inl ⟨by simp [Region.wanted, hgd], fun w hw => by
    have hrun := run_loadVar_whole (P := P) (w := w) t b 0 c hagg hsz (hS w hw)
    simp [execOp, ho, hx, Instr.loadAt, Instr.sureAddr, hrun, Result.andThen]⟩
end

end Go.Proofs.Ytecengclcaodeaa
