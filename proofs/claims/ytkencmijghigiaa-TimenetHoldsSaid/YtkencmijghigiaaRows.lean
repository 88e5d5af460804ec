/-
  No cell of these rows narrows 'for every input' (looked for: loops, veiled, ifaces, maps, wideKeys, modest, calm, conditions, laid).
  DERIVED. THE GIVEN ROWS OF THIS SEAT. 4 by the template 'for every input the law returns true; each argument reads behind the call as it read before'; 0 by the template 'total and deterministic' (their statements: YtkencmijghigiaaTotals.lean).
  GIVEN WITH THE SEED: the statements are not yours to turn. If you find one false, say at which input.
  Laid BY PROGRAM, IN A SANDBOX (cutbox-rows.mjs): the forced cells as the released guide's own fill.sh prints them over the translation 5712253371b2fbf4… (all of the seat's roots in one cut). By AI agents, Wed Nov 11 2026. No macro, syntax, notation, axiom, sorry.
-/
import Derived.Test.YtkencmijghigiaaChecked
import GoSem.Claim
import GoSem.ClaimJoined
import GoSem.ClaimMapViews
import Derived.JoinedTies
import Derived.KernelRfl
namespace Go.Proofs.Ytkencmijghigiaa
/- THE CELL 'sum', in the pinned program and in every row, IS THE sha256 OF THE DUMP (.gsa) THAT YtkencmijghigiaaProg.lean LOADS. Nothing in Lean hashes anything: it is a label: what it is worth is what the hold of that sum in a sandbox is worth. -/
noncomputable def Try.pinned : Pinned := { name := "ytkencmijghigiaa", sum := "5712253371b2fbf430d8bd33479468bb2f108a248bf2e9a04cddf97660410e30", checked := Try.checked }
namespace Rows
def none {H : Type} : Left H := { results := [], args := [] }

/-- 'isochronlaw15.TimenetLimits': WHATEVER THE INPUT: true; the input reads as it did. -/
def timenetLimitsSpec : ChangeSpec := { name := "timenetLimits", fn := fun _ => fun
  | [d1, d2, d3] => { results := [.lit (.bool true)], args := [d1, d2, d3] }
  | _ => none }
def timenetLimitsRow : OpenClaim := { program := "ytkencmijghigiaa", sum := "5712253371b2fbf430d8bd33479468bb2f108a248bf2e9a04cddf97660410e30", func := "isochron/isochronlaw15.TimenetLimits", spec := "timenetLimits", unfollowed := true, recurses := true, named := ["math/bits.divideError", "math/bits.overflowError"], plainKeys := false, apart := false }
def TimenetLimitsSaid : Prop := timenetLimitsRow.holds Try.pinned (OpenSpec.ofChange timenetLimitsSpec)

/-- ITS FALSE NEIGHBOUR: 'it returns false'. Refute it at one input. -/
def timenetLimitsWrong : ChangeSpec := { name := "timenetLimits", fn := fun _ => fun
  | [d1, d2, d3] => { results := [.lit (.bool false)], args := [d1, d2, d3] }
  | _ => none }
def TimenetLimitsWrongFalsely : Prop := timenetLimitsRow.holds Try.pinned (OpenSpec.ofChange timenetLimitsWrong)

/-- 'isochronlaw15.TimenetHolds': WHATEVER THE INPUT: true; the input reads as it did. -/
def timenetHoldsSpec : ChangeSpec := { name := "timenetHolds", fn := fun _ => fun
  | [d1, d2, d3, d4] => { results := [.lit (.bool true)], args := [d1, d2, d3, d4] }
  | _ => none }
def timenetHoldsRow : OpenClaim := { program := "ytkencmijghigiaa", sum := "5712253371b2fbf430d8bd33479468bb2f108a248bf2e9a04cddf97660410e30", func := "isochron/isochronlaw15.TimenetHolds", spec := "timenetHolds", unfollowed := true, recurses := true, named := ["math/bits.divideError", "math/bits.overflowError"], plainKeys := false, apart := false }
def TimenetHoldsSaid : Prop := timenetHoldsRow.holds Try.pinned (OpenSpec.ofChange timenetHoldsSpec)

/-- ITS FALSE NEIGHBOUR: 'it returns false'. Refute it at one input. -/
def timenetHoldsWrong : ChangeSpec := { name := "timenetHolds", fn := fun _ => fun
  | [d1, d2, d3, d4] => { results := [.lit (.bool false)], args := [d1, d2, d3, d4] }
  | _ => none }
def TimenetHoldsWrongFalsely : Prop := timenetHoldsRow.holds Try.pinned (OpenSpec.ofChange timenetHoldsWrong)

/-- 'isochronlaw15.TimenetGrows': WHATEVER THE INPUT: true; the input reads as it did. -/
def timenetGrowsSpec : ChangeSpec := { name := "timenetGrows", fn := fun _ => fun
  | [d1, d2, d3, d4] => { results := [.lit (.bool true)], args := [d1, d2, d3, d4] }
  | _ => none }
def timenetGrowsRow : OpenClaim := { program := "ytkencmijghigiaa", sum := "5712253371b2fbf430d8bd33479468bb2f108a248bf2e9a04cddf97660410e30", func := "isochron/isochronlaw15.TimenetGrows", spec := "timenetGrows", unfollowed := true, recurses := true, named := ["math/bits.divideError", "math/bits.overflowError"], plainKeys := false, apart := false }
def TimenetGrowsSaid : Prop := timenetGrowsRow.holds Try.pinned (OpenSpec.ofChange timenetGrowsSpec)

/-- ITS FALSE NEIGHBOUR: 'it returns false'. Refute it at one input. -/
def timenetGrowsWrong : ChangeSpec := { name := "timenetGrows", fn := fun _ => fun
  | [d1, d2, d3, d4] => { results := [.lit (.bool false)], args := [d1, d2, d3, d4] }
  | _ => none }
def TimenetGrowsWrongFalsely : Prop := timenetGrowsRow.holds Try.pinned (OpenSpec.ofChange timenetGrowsWrong)

/-- 'isochronlaw15.TimenetKnown': WHATEVER THE INPUT: true; the input reads as it did. -/
def timenetKnownSpec : ChangeSpec := { name := "timenetKnown", fn := fun _ => fun
  | [] => { results := [.lit (.bool true)], args := [] }
  | _ => none }
def timenetKnownRow : OpenClaim := { program := "ytkencmijghigiaa", sum := "5712253371b2fbf430d8bd33479468bb2f108a248bf2e9a04cddf97660410e30", func := "isochron/isochronlaw15.TimenetKnown", spec := "timenetKnown", unfollowed := true, recurses := true, named := ["math/bits.divideError", "math/bits.overflowError"], plainKeys := false, apart := false }
def TimenetKnownSaid : Prop := timenetKnownRow.holds Try.pinned (OpenSpec.ofChange timenetKnownSpec)

/-- ITS FALSE NEIGHBOUR: 'it returns false'. Refute it at one input. -/
def timenetKnownWrong : ChangeSpec := { name := "timenetKnown", fn := fun _ => fun
  | [] => { results := [.lit (.bool false)], args := [] }
  | _ => none }
def TimenetKnownWrongFalsely : Prop := timenetKnownRow.holds Try.pinned (OpenSpec.ofChange timenetKnownWrong)

/- THE SECOND FORM. 'bulk': how many values and letters a reading holds, each counted each time it is reached (what is shared counts as often as it is met; a slice's spare places count too). A statement '..UptoSaid' is the law's where the arguments, and the package variables that the reading takes, are together of bulk at most 1048576: NARROWER than '..Said'. Prove '..Said' where nothing that the law and all that it calls make is longer than what came in: it says more and counts as full. Else prove '..UptoSaid'. A law counts once. -/
mutual
def uptoBulk {H : Type} : DataW H → Nat
  | .lit (.string bytes) => bytes.length + 1
  | .lit _ => 1
  | .nil => 1
  | .ptr d => uptoBulk d + 1
  | .slice elems spare => uptoBulkAll elems + uptoBulkAll spare + 1
  | .agg parts => uptoBulkAll parts + 1
  | .iface _ d => uptoBulk d + 1
  | .map entries => uptoBulkEntries entries + 1
  | .held _ => 1
def uptoBulkAll {H : Type} : List (DataW H) → Nat
  | [] => 0
  | d :: r => uptoBulk d + uptoBulkAll r
def uptoBulkEntries {H : Type} : List (Lit × DataW H) → Nat
  | [] => 0
  | x :: r => uptoBulkEntry x + uptoBulkEntries r
def uptoBulkEntry {H : Type} : Lit × DataW H → Nat
  | (.string bytes, d) => bytes.length + uptoBulk d + 1
  | (_, d) => uptoBulk d + 1
 end
def uptoSmall : (H : Type) → List (DataW H) → Bool := fun _ ds => decide (uptoBulkAll ds ≤ 1048576)
def OpenSpec.upto (s : _root_.Go.ChangeSpec) : _root_.Go.OpenSpec := { _root_.Go.OpenSpec.ofChange s with cond := some uptoSmall }

/-- 'isochronlaw15.TimenetLimits', WHERE WHAT IT READS IS OF BULK AT MOST 1048576: true; the input reads as it did. -/
def timenetLimitsUptoRow : OpenClaim := { program := "ytkencmijghigiaa", sum := "5712253371b2fbf430d8bd33479468bb2f108a248bf2e9a04cddf97660410e30", func := "isochron/isochronlaw15.TimenetLimits", spec := "timenetLimits", unfollowed := true, recurses := true, named := ["math/bits.divideError", "math/bits.overflowError"], plainKeys := false, apart := false, narrowed := true }
def TimenetLimitsUptoSaid : Prop := timenetLimitsUptoRow.holds Try.pinned (OpenSpec.upto timenetLimitsSpec)

/-- 'isochronlaw15.TimenetHolds', WHERE WHAT IT READS IS OF BULK AT MOST 1048576: true; the input reads as it did. -/
def timenetHoldsUptoRow : OpenClaim := { program := "ytkencmijghigiaa", sum := "5712253371b2fbf430d8bd33479468bb2f108a248bf2e9a04cddf97660410e30", func := "isochron/isochronlaw15.TimenetHolds", spec := "timenetHolds", unfollowed := true, recurses := true, named := ["math/bits.divideError", "math/bits.overflowError"], plainKeys := false, apart := false, narrowed := true }
def TimenetHoldsUptoSaid : Prop := timenetHoldsUptoRow.holds Try.pinned (OpenSpec.upto timenetHoldsSpec)

/-- 'isochronlaw15.TimenetGrows', WHERE WHAT IT READS IS OF BULK AT MOST 1048576: true; the input reads as it did. -/
def timenetGrowsUptoRow : OpenClaim := { program := "ytkencmijghigiaa", sum := "5712253371b2fbf430d8bd33479468bb2f108a248bf2e9a04cddf97660410e30", func := "isochron/isochronlaw15.TimenetGrows", spec := "timenetGrows", unfollowed := true, recurses := true, named := ["math/bits.divideError", "math/bits.overflowError"], plainKeys := false, apart := false, narrowed := true }
def TimenetGrowsUptoSaid : Prop := timenetGrowsUptoRow.holds Try.pinned (OpenSpec.upto timenetGrowsSpec)

/-- 'isochronlaw15.TimenetKnown', WHERE WHAT IT READS IS OF BULK AT MOST 1048576: true; the input reads as it did. -/
def timenetKnownUptoRow : OpenClaim := { program := "ytkencmijghigiaa", sum := "5712253371b2fbf430d8bd33479468bb2f108a248bf2e9a04cddf97660410e30", func := "isochron/isochronlaw15.TimenetKnown", spec := "timenetKnown", unfollowed := true, recurses := true, named := ["math/bits.divideError", "math/bits.overflowError"], plainKeys := false, apart := false, narrowed := true }
def TimenetKnownUptoSaid : Prop := timenetKnownUptoRow.holds Try.pinned (OpenSpec.upto timenetKnownSpec)

end Rows
end Go.Proofs.Ytkencmijghigiaa
