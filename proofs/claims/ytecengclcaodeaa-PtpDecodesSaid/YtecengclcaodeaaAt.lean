/-
  Guards for a walk's arms: each looks at the operation that stands next, cheaply, and turns nothing.
-/
import Derived.Test.YtecengclcaodeaaKit
namespace Go.Proofs.Ytecengclcaodeaa

section
variable {P : Program} {w : World} {ops : Array Oper} {rest : List Oper} {a : Act} {Q : Exit → Act → World → Prop} {d : Option Tmp} {ty : TypeId} {pos : String} {af : Array Edge} {g : Option (Tmp × Bool)}
theorem at_load (t : TypeId) (x : Operand) (h : wpList P ops Q (⟨d, .load t x, ty, pos, af, g⟩ :: rest) a w) : wpList P ops Q (⟨d, .load t x, ty, pos, af, g⟩ :: rest) a w := h
theorem at_store (t : TypeId) (x v : Operand) (h : wpList P ops Q (⟨d, .store t x v, ty, pos, af, g⟩ :: rest) a w) : wpList P ops Q (⟨d, .store t x v, ty, pos, af, g⟩ :: rest) a w := h
theorem at_op (o : Op) (h : wpList P ops Q (⟨d, o, ty, pos, af, g⟩ :: rest) a w) : wpList P ops Q (⟨d, o, ty, pos, af, g⟩ :: rest) a w := h
end

end Go.Proofs.Ytecengclcaodeaa
