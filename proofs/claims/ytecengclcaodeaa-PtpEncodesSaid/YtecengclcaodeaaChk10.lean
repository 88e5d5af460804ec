/-
  The law's checks of any message; one of bent's twelve. No conditions.
-/
import Derived.Test.YtecengclcaodeaaR10All
import Derived.Test.YtecengclcaodeaaBent
import Derived.Test.YtecengclcaodeaaDrfEnc
namespace Go.Proofs.Ytecengclcaodeaa
open Go.RowKit Go.Lib Plain

/-- Right and Check of one message. -/
theorem chk_pair {M : List Int} (h : M.length = 17) : ∃ r : Bool, (∀ W, Calls Try.prog 19 #[.agg (msgA M)] W fun y w' => y = .returned (.bool r) ∧ Below W.heap.size W w') ∧
    (∀ W, Calls Try.prog 24 #[.agg (msgA M)] W fun y w' => y = .returned (.int .i64 (if r = true then 0 else 200)) ∧ Below W.heap.size W w') := by
  obtain ⟨K, D, C, i, p, S, T, P, r, q, a, b, c, v, e, g, s, rfl⟩ := seventeen h
  exact ⟨_, fun W => rMsgRight_any K D C i p S T P r q a b c v e g s W, fun W => by rw [← chk_of_rgt]; exact ptpCheck_any K D C i p S T P r q a b c v e g s W⟩

set_option maxHeartbeats 4000000 in
set_option maxRecDepth 100000 in
theorem checks_any {M : List Int} (h : M.length = 17) (w : World) : Calls Try.prog 17 #[.agg (msgA M)] w fun y w' => y = .returned (.bool true) ∧ Below w.heap.size w w' := by
  obtain ⟨r, h1, h2⟩ := chk_pair h
  have HR := Lib.hid h1
  have HC := Lib.hid h2
  clear h1 h2
  have ha := Lib.hid agg_msg
  have hs := Lib.hid (show ∀ w, (sizeOf 27).run Try.prog w = .ok (M.map (Value.int .i64)).length w from fun w => by rw [List.length_map, h]; exact size_msg w)
  unfold msgA at *
  generalize M.map (Value.int .i64) = L at *
  go_enter Try.func17, Try.ntmps17
  go_wp2_with ((with_reducible refine at_load 27 (.tmp 1) ?_); refine wpList_load_whole rfl (.tmp 1) 27 rfl w.heap.size 0 L rfl ha.out hs.out (holds_alloc w L 27 rfl) ?_; simp only [Act.put, List.setIfInBounds_toArray, List.set_cons_succ, List.set_cons_zero])
  refine (HR.out _).mono ?_
  rintro y w1 ⟨rfl, hb1⟩
  have M1 := Lib.hid ((holds_alloc w L 27 rfl).keep hb1)
  have H1 := Lib.hid (below_step (below_alloc (Below.refl _ _) _) hb1)
  clear hb1
  cases r
  · go_wp2_with ((with_reducible refine at_load 27 (.tmp 1) ?_); refine wpList_load_whole rfl (.tmp 1) 27 rfl w.heap.size 0 L rfl ha.out hs.out M1.out ?_; simp only [Act.put, List.setIfInBounds_toArray, List.set_cons_succ, List.set_cons_zero])
    refine (HC.out _).mono ?_
    rintro y w2 ⟨rfl, hb2⟩
    have H2 := Lib.hid (below_step H1.out hb2)
    go_wp2
    go_ret
    exact ⟨rfl, H2.out⟩
  · go_wp2_with ((with_reducible refine at_load 27 (.tmp 1) ?_); refine wpList_load_whole rfl (.tmp 1) 27 rfl w.heap.size 0 L rfl ha.out hs.out M1.out ?_; simp only [Act.put, List.setIfInBounds_toArray, List.set_cons_succ, List.set_cons_zero])
    refine (HC.out _).mono ?_
    rintro y w2 ⟨rfl, hb2⟩
    have H2 := Lib.hid (below_step H1.out hb2)
    go_wp2
    go_ret
    exact ⟨rfl, H2.out⟩

set_option maxRecDepth 100000 in
theorem ix_0 (K D C i p S T P r q a b c v e g s n : Int) (W : World) : (Instr.index 38 (.agg (bentL K D C i p S T P r q a b c v e g s n).toArray) (.int .i64 0)).run Try.prog W = .ok (.agg #[.int .i64 n, .int .i64 D, .int .i64 C, .int .i64 i, .int .i64 p, .int .i64 S, .int .i64 T, .int .i64 P, .int .i64 r, .int .i64 q, .int .i64 a, .int .i64 b, .int .i64 c, .int .i64 v, .int .i64 e, .int .i64 g, .int .i64 s]) W := by kernel_rfl
set_option maxRecDepth 100000 in
theorem ix_1 (K D C i p S T P r q a b c v e g s n : Int) (W : World) : (Instr.index 38 (.agg (bentL K D C i p S T P r q a b c v e g s n).toArray) (.int .i64 1)).run Try.prog W = .ok (.agg #[.int .i64 K, .int .i64 n, .int .i64 C, .int .i64 i, .int .i64 p, .int .i64 S, .int .i64 T, .int .i64 P, .int .i64 r, .int .i64 q, .int .i64 a, .int .i64 b, .int .i64 c, .int .i64 v, .int .i64 e, .int .i64 g, .int .i64 s]) W := by kernel_rfl
set_option maxRecDepth 100000 in
theorem ix_2 (K D C i p S T P r q a b c v e g s n : Int) (W : World) : (Instr.index 38 (.agg (bentL K D C i p S T P r q a b c v e g s n).toArray) (.int .i64 2)).run Try.prog W = .ok (.agg #[.int .i64 K, .int .i64 D, .int .i64 n, .int .i64 i, .int .i64 p, .int .i64 S, .int .i64 T, .int .i64 P, .int .i64 r, .int .i64 q, .int .i64 a, .int .i64 b, .int .i64 c, .int .i64 v, .int .i64 e, .int .i64 g, .int .i64 s]) W := by kernel_rfl
set_option maxRecDepth 100000 in
theorem ix_3 (K D C i p S T P r q a b c v e g s n : Int) (W : World) : (Instr.index 38 (.agg (bentL K D C i p S T P r q a b c v e g s n).toArray) (.int .i64 3)).run Try.prog W = .ok (.agg #[.int .i64 K, .int .i64 D, .int .i64 C, .int .i64 n, .int .i64 p, .int .i64 S, .int .i64 T, .int .i64 P, .int .i64 r, .int .i64 q, .int .i64 a, .int .i64 b, .int .i64 c, .int .i64 v, .int .i64 e, .int .i64 g, .int .i64 s]) W := by kernel_rfl
set_option maxRecDepth 100000 in
theorem ix_4 (K D C i p S T P r q a b c v e g s n : Int) (W : World) : (Instr.index 38 (.agg (bentL K D C i p S T P r q a b c v e g s n).toArray) (.int .i64 4)).run Try.prog W = .ok (.agg #[.int .i64 K, .int .i64 D, .int .i64 C, .int .i64 i, .int .i64 n, .int .i64 S, .int .i64 T, .int .i64 P, .int .i64 r, .int .i64 q, .int .i64 a, .int .i64 b, .int .i64 c, .int .i64 v, .int .i64 e, .int .i64 g, .int .i64 s]) W := by kernel_rfl
set_option maxRecDepth 100000 in
theorem ix_5 (K D C i p S T P r q a b c v e g s n : Int) (W : World) : (Instr.index 38 (.agg (bentL K D C i p S T P r q a b c v e g s n).toArray) (.int .i64 5)).run Try.prog W = .ok (.agg #[.int .i64 K, .int .i64 D, .int .i64 C, .int .i64 i, .int .i64 p, .int .i64 n, .int .i64 T, .int .i64 P, .int .i64 r, .int .i64 q, .int .i64 a, .int .i64 b, .int .i64 c, .int .i64 v, .int .i64 e, .int .i64 g, .int .i64 s]) W := by kernel_rfl
set_option maxRecDepth 100000 in
theorem ix_6 (K D C i p S T P r q a b c v e g s n : Int) (W : World) : (Instr.index 38 (.agg (bentL K D C i p S T P r q a b c v e g s n).toArray) (.int .i64 6)).run Try.prog W = .ok (.agg #[.int .i64 K, .int .i64 D, .int .i64 C, .int .i64 i, .int .i64 p, .int .i64 S, .int .i64 n, .int .i64 P, .int .i64 r, .int .i64 q, .int .i64 a, .int .i64 b, .int .i64 c, .int .i64 v, .int .i64 e, .int .i64 g, .int .i64 s]) W := by kernel_rfl
set_option maxRecDepth 100000 in
theorem ix_7 (K D C i p S T P r q a b c v e g s n : Int) (W : World) : (Instr.index 38 (.agg (bentL K D C i p S T P r q a b c v e g s n).toArray) (.int .i64 7)).run Try.prog W = .ok (.agg #[.int .i64 K, .int .i64 D, .int .i64 C, .int .i64 i, .int .i64 p, .int .i64 S, .int .i64 T, .int .i64 n, .int .i64 r, .int .i64 q, .int .i64 a, .int .i64 b, .int .i64 c, .int .i64 v, .int .i64 e, .int .i64 g, .int .i64 s]) W := by kernel_rfl
set_option maxRecDepth 100000 in
theorem ix_8 (K D C i p S T P r q a b c v e g s n : Int) (W : World) : (Instr.index 38 (.agg (bentL K D C i p S T P r q a b c v e g s n).toArray) (.int .i64 8)).run Try.prog W = .ok (.agg #[.int .i64 K, .int .i64 D, .int .i64 C, .int .i64 i, .int .i64 p, .int .i64 S, .int .i64 T, .int .i64 P, .int .i64 r, .int .i64 n, .int .i64 a, .int .i64 b, .int .i64 c, .int .i64 v, .int .i64 e, .int .i64 g, .int .i64 s]) W := by kernel_rfl
set_option maxRecDepth 100000 in
theorem ix_9 (K D C i p S T P r q a b c v e g s n : Int) (W : World) : (Instr.index 38 (.agg (bentL K D C i p S T P r q a b c v e g s n).toArray) (.int .i64 9)).run Try.prog W = .ok (.agg #[.int .i64 K, .int .i64 D, .int .i64 C, .int .i64 i, .int .i64 p, .int .i64 S, .int .i64 T, .int .i64 P, .int .i64 r, .int .i64 q, .int .i64 a, .int .i64 b, .int .i64 c, .int .i64 n, .int .i64 e, .int .i64 g, .int .i64 s]) W := by kernel_rfl
set_option maxRecDepth 100000 in
theorem ix_10 (K D C i p S T P r q a b c v e g s n : Int) (W : World) : (Instr.index 38 (.agg (bentL K D C i p S T P r q a b c v e g s n).toArray) (.int .i64 10)).run Try.prog W = .ok (.agg #[.int .i64 K, .int .i64 D, .int .i64 C, .int .i64 i, .int .i64 p, .int .i64 S, .int .i64 T, .int .i64 P, .int .i64 r, .int .i64 q, .int .i64 a, .int .i64 b, .int .i64 c, .int .i64 v, .int .i64 e, .int .i64 g, .int .i64 n]) W := by kernel_rfl
set_option maxRecDepth 100000 in
theorem ix_11 (K D C i p S T P r q a b c v e g s n : Int) (W : World) : (Instr.index 38 (.agg (bentL K D C i p S T P r q a b c v e g s n).toArray) (.int .i64 11)).run Try.prog W = .ok (.agg #[.int .i64 K, .int .i64 D, .int .i64 C, .int .i64 i, .int .i64 p, .int .i64 S, .int .i64 T, .int .i64 P, .int .i64 n, .int .i64 q, .int .i64 a, .int .i64 b, .int .i64 c, .int .i64 v, .int .i64 e, .int .i64 g, .int .i64 s]) W := by kernel_rfl
/-- One of bent's twelve is a message. -/
theorem ix_any {M : List Int} (h : M.length = 17) (n : Int) (k : Nat) (hk : k < 12) : ∃ N : List Int, N.length = 17 ∧ ∀ W, (Instr.index 38 (.agg ((bentM M n).flatten.map (Value.int .i64)).toArray) (.int .i64 (k : Int))).run Try.prog W = .ok (.agg (msgA N)) W := by
  obtain ⟨K, D, C, i, p, S, T, P, r, q, a, b, c, v, e, g, s, rfl⟩ := seventeen h
  rw [← bentL_flat]
  rcases (show k = 0 ∨ k = 1 ∨ k = 2 ∨ k = 3 ∨ k = 4 ∨ k = 5 ∨ k = 6 ∨ k = 7 ∨ k = 8 ∨ k = 9 ∨ k = 10 ∨ k = 11 by omega) with rfl | rfl | rfl | rfl | rfl | rfl | rfl | rfl | rfl | rfl | rfl | rfl
  · exact ⟨[n, D, C, i, p, S, T, P, r, q, a, b, c, v, e, g, s], rfl, fun W => ix_0 K D C i p S T P r q a b c v e g s n W⟩
  · exact ⟨[K, n, C, i, p, S, T, P, r, q, a, b, c, v, e, g, s], rfl, fun W => ix_1 K D C i p S T P r q a b c v e g s n W⟩
  · exact ⟨[K, D, n, i, p, S, T, P, r, q, a, b, c, v, e, g, s], rfl, fun W => ix_2 K D C i p S T P r q a b c v e g s n W⟩
  · exact ⟨[K, D, C, n, p, S, T, P, r, q, a, b, c, v, e, g, s], rfl, fun W => ix_3 K D C i p S T P r q a b c v e g s n W⟩
  · exact ⟨[K, D, C, i, n, S, T, P, r, q, a, b, c, v, e, g, s], rfl, fun W => ix_4 K D C i p S T P r q a b c v e g s n W⟩
  · exact ⟨[K, D, C, i, p, n, T, P, r, q, a, b, c, v, e, g, s], rfl, fun W => ix_5 K D C i p S T P r q a b c v e g s n W⟩
  · exact ⟨[K, D, C, i, p, S, n, P, r, q, a, b, c, v, e, g, s], rfl, fun W => ix_6 K D C i p S T P r q a b c v e g s n W⟩
  · exact ⟨[K, D, C, i, p, S, T, n, r, q, a, b, c, v, e, g, s], rfl, fun W => ix_7 K D C i p S T P r q a b c v e g s n W⟩
  · exact ⟨[K, D, C, i, p, S, T, P, r, n, a, b, c, v, e, g, s], rfl, fun W => ix_8 K D C i p S T P r q a b c v e g s n W⟩
  · exact ⟨[K, D, C, i, p, S, T, P, r, q, a, b, c, n, e, g, s], rfl, fun W => ix_9 K D C i p S T P r q a b c v e g s n W⟩
  · exact ⟨[K, D, C, i, p, S, T, P, r, q, a, b, c, v, e, g, n], rfl, fun W => ix_10 K D C i p S T P r q a b c v e g s n W⟩
  · exact ⟨[K, D, C, i, p, S, T, P, n, q, a, b, c, v, e, g, s], rfl, fun W => ix_11 K D C i p S T P r q a b c v e g s n W⟩

end Go.Proofs.Ytecengclcaodeaa
