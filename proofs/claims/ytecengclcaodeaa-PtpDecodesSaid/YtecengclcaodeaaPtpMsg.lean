/-
  The plain law of a follow-up. No program in sight.
-/
import Derived.Test.YtecengclcaodeaaPlain
namespace Go.Proofs.Ytecengclcaodeaa.Plain

def In (n lo hi : Int) : Prop := lo ≤ n ∧ n ≤ hi
instance (n lo hi : Int) : Decidable (In n lo hi) := inferInstanceAs (Decidable (_ ∧ _))
def inV (n lo hi : Int) : Bool := decide (In n lo hi)
def PortOk (i p : Int) : Prop := In i 0 281474976710655 ∧ In p 1 65535
instance (i p : Int) : Decidable (PortOk i p) := inferInstanceAs (Decidable (_ ∧ _))
def portB (i p : Int) : Bool := decide (PortOk i p)
/-- The fields that all messages have. -/
def BaseOk (D C i p S : Int) : Prop := In D 0 127 ∧ In C (-4398046511104) 4398046511104 ∧ PortOk i p ∧ In S 0 65535
instance (D C i p S : Int) : Decidable (BaseOk D C i p S) := inferInstanceAs (Decidable (_ ∧ _))
/-- A follow-up whose other fields are zero. -/
def FolOk (D C i p S T P : Int) : Prop := BaseOk D C i p S ∧ In T (-4398046511104) 4398046511104 ∧ In P (-8388608) 8388608
instance (D C i p S T P : Int) : Decidable (FolOk D C i p S T P) := inferInstanceAs (Decidable (_ ∧ _))
def folV (D C i p S T P : Int) : Int := if FolOk D C i p S T P then 0 else 200

end Go.Proofs.Ytecengclcaodeaa.Plain
