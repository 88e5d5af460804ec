/-
  The fields of a codec: what header, response, follow, announce and plain hand back. No conditions.
-/
import Derived.Test.YtecengclcaodeaaPtpChk0
import Derived.BigQuiet
import Derived.WalkMore
namespace Go.Proofs.Ytecengclcaodeaa
open Go.RowKit Go.Lib Plain

/-- A field: the codec's cell, how many bytes, whether it has a sign. -/
abbrev Fld := Nat × Int × Bool
def fldL (c : Nat) : List Fld → List Value
  | [] => []
  | (i, n, s) :: r => .pointer (some ⟨c, i, none⟩) :: .int .i64 n :: .bool s :: fldL c r
def hdrF : List Fld := [(0, 1, false), (1, 1, false), (17, 2, false), (2, 8, true), (3, 6, false), (4, 2, false), (5, 2, false)]
def rspF : List Fld := [(6, 8, true), (8, 6, false), (9, 2, false)]
def folF : List Fld := [(6, 8, true), (7, 4, true)]
def annF : List Fld := [(10, 1, false), (11, 1, false), (12, 1, false), (13, 2, false), (14, 1, false), (15, 6, false), (16, 2, false)]

/-- What such a function leaves: a new row of the fields. -/
def FldPost (c : Nat) (l : List Fld) (w : World) (e : Ending) (w' : World) : Prop :=
  ∃ b, w.heap.size ≤ b ∧ e = .returned (.slice (some ⟨b, 0, none⟩) l.length l.length) ∧ Holds w' b (fldL c l) ∧ Below w.heap.size w w'

set_option maxHeartbeats 4000000 in
set_option maxRecDepth 100000 in
theorem header_any (c : Nat) (w : World) : Calls Try.prog 33 #[.pointer (some ⟨c, 0, none⟩)] w (FldPost c hdrF w) := by
  go_enter Try.func33, Try.ntmps33
  go_wp2
  refine wp_region_quiet_tail 36 (by kernel_rfl) (by kernel_rfl) ?_
  simp only [List.take_succ_cons, List.take_zero, List.drop_succ_cons, List.drop_zero]
  repeat (go_big_quiet_step (fail))
  refine wpQuiet_nil ?_
  intro w6 hw
  have H6 := Lib.hid (show Below w.heap.size w w6 by obtain ⟨p, rfl⟩ := hw; exact below_regrown _ _ _)
  clear hw
  go_wp2
  go_ret
  exact ⟨w6.heap.size, H6.out.size, rfl, holds_alloc w6 (fldL c hdrF) 73 rfl, below_alloc H6.out _⟩

set_option maxHeartbeats 4000000 in
set_option maxRecDepth 100000 in
theorem response_any (c : Nat) (w : World) : Calls Try.prog 43 #[.pointer (some ⟨c, 0, none⟩)] w (FldPost c rspF w) := by
  go_enter Try.func43, Try.ntmps43
  go_wp2
  refine wp_region_quiet_tail 17 (by kernel_rfl) (by kernel_rfl) ?_
  simp only [List.take_succ_cons, List.take_zero, List.drop_succ_cons, List.drop_zero]
  repeat (go_big_quiet_step (fail))
  refine wpQuiet_nil ?_
  intro w6 hw
  have H6 := Lib.hid (show Below w.heap.size w w6 by obtain ⟨p, rfl⟩ := hw; exact below_regrown _ _ _)
  clear hw
  go_wp2
  go_ret
  exact ⟨w6.heap.size, H6.out.size, rfl, holds_alloc w6 (fldL c rspF) 73 rfl, below_alloc H6.out _⟩

/-- ptp.codec.plain -/
theorem plain_any (c : Nat) (w : World) : Calls Try.prog 42 #[.pointer (some ⟨c, 0, none⟩)] w fun e w' => e = .returned (.slice none 0 0) ∧ w = w' := by
  go_enter Try.func42, Try.ntmps42
  go_wp2
  go_ret
  exact ⟨rfl, rfl⟩

set_option maxHeartbeats 4000000 in
set_option maxRecDepth 100000 in
theorem follow_any (c : Nat) (w : World) : Calls Try.prog 44 #[.pointer (some ⟨c, 0, none⟩)] w (FldPost c folF w) := by
  go_enter Try.func44, Try.ntmps44
  go_wp2
  refine wp_region_quiet_tail 10 (by kernel_rfl) (by kernel_rfl) ?_
  simp only [List.take_succ_cons, List.take_zero, List.drop_succ_cons, List.drop_zero]
  repeat (go_big_quiet_step (fail))
  refine wpQuiet_nil ?_
  intro w6 hw
  have H6 := Lib.hid (show Below w.heap.size w w6 by obtain ⟨p, rfl⟩ := hw; exact below_regrown _ _ _)
  clear hw
  go_wp2
  go_ret
  exact ⟨w6.heap.size, H6.out.size, rfl, holds_alloc w6 (fldL c folF) 73 rfl, below_alloc H6.out _⟩

set_option maxHeartbeats 4000000 in
set_option maxRecDepth 100000 in
theorem announce_any (c : Nat) (w : World) : Calls Try.prog 45 #[.pointer (some ⟨c, 0, none⟩)] w (FldPost c annF w) := by
  go_enter Try.func45, Try.ntmps45
  go_wp2
  refine wp_region_quiet_tail 41 (by kernel_rfl) (by kernel_rfl) ?_
  simp only [List.take_succ_cons, List.take_zero, List.drop_succ_cons, List.drop_zero]
  repeat (go_big_quiet_step (fail))
  refine wpQuiet_nil ?_
  intro w6 hw
  have H6 := Lib.hid (show Below w.heap.size w w6 by obtain ⟨p, rfl⟩ := hw; exact below_regrown _ _ _)
  clear hw
  go_wp2
  go_ret
  exact ⟨w6.heap.size, H6.out.size, rfl, holds_alloc w6 (fldL c annF) 73 rfl, below_alloc H6.out _⟩

end Go.Proofs.Ytecengclcaodeaa
