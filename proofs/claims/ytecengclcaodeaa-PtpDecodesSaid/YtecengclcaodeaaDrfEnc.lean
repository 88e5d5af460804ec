/-
  What a draft's message is and what Encode makes of it, by letters; two messages compared. No conditions.
-/
import Derived.Test.YtecengclcaodeaaMsgPl
import Derived.Test.YtecengclcaodeaaEncE
import Derived.Test.YtecengclcaodeaaEqual
import Derived.Lib.QuietBelow
namespace Go.Proofs.Ytecengclcaodeaa
open Go.RowKit Go.Lib Plain

/-- The numbers of a message, as a value. -/
def msgA (M : List Int) : Array Value := (M.map (Value.int .i64)).toArray
theorem seventeen {l : List Int} (h : l.length = 17) : ∃ m0 m1 m2 m3 m4 m5 m6 m7 m8 m9 m10 m11 m12 m13 m14 m15 m16 : Int, l = [m0, m1, m2, m3, m4, m5, m6, m7, m8, m9, m10, m11, m12, m13, m14, m15, m16] := by
  match l, h with
  | [m0, m1, m2, m3, m4, m5, m6, m7, m8, m9, m10, m11, m12, m13, m14, m15, m16], _ => exact ⟨m0, m1, m2, m3, m4, m5, m6, m7, m8, m9, m10, m11, m12, m13, m14, m15, m16, rfl⟩

/-- The encoding of a message's numbers. -/
def encL : List Int → List Int
  | [m0, m1, m2, m3, m4, m5, m6, m7, m8, m9, m10, m11, m12, m13, m14, m15, m16] => encM m0 m1 m2 m3 m4 m5 m6 m7 m8 m9 m10 m11 m12 m13 m14 m15 m16
  | _ => []
theorem if_and {p : Prop} [Decidable p] {X : Result Value} {b : Bool} {W : World} (h : X = .ok (.bool b) W) : (if p then X else .ok (.bool false) W) = .ok (.bool (decide p && b)) W := by
  by_cases hp : p
  · rw [if_pos hp, h, decide_eq_true hp, Bool.true_and]
  · rw [if_neg hp, decide_eq_false hp, Bool.false_and]
theorem if_last {p : Prop} [Decidable p] {W : World} : (if p then Result.ok (Value.bool true) W else .ok (.bool false) W) = .ok (.bool (decide p)) W := by
  by_cases hp : p
  · rw [if_pos hp, decide_eq_true hp]
  · rw [if_neg hp, decide_eq_false hp]
set_option maxHeartbeats 4000000 in
theorem msgA_eql {M N : List Int} (hM : M.length = 17) (hN : N.length = 17) (W : World) :
    (binOp .eql 27 (.agg (msgA M)) (.agg (msgA N))).run Try.prog W = .ok (.bool (decide (M = N))) W := by
  obtain ⟨m0, m1, m2, m3, m4, m5, m6, m7, m8, m9, m10, m11, m12, m13, m14, m15, m16, rfl⟩ := seventeen hM
  obtain ⟨n0, n1, n2, n3, n4, n5, n6, n7, n8, n9, n10, n11, n12, n13, n14, n15, n16, rfl⟩ := seventeen hN
  simp [msgA, go_sem]
  repeat refine if_and ?_
  exact if_last

theorem msgA_neq {M : List Int} (hM : M.length = 17) (W : World) :
    (binOp .neq 27 (.agg (msgA M)) (.agg (msgA M))).run Try.prog W = .ok (.bool false) W := by
  obtain ⟨m0, m1, m2, m3, m4, m5, m6, m7, m8, m9, m10, m11, m12, m13, m14, m15, m16, rfl⟩ := seventeen hM
  simp [msgA, go_sem]

/-- The cells of a new message. -/
def zM : List Value := [.int .i64 0, .int .i64 0, .int .i64 0, .int .i64 0, .int .i64 0, .int .i64 0, .int .i64 0, .int .i64 0, .int .i64 0, .int .i64 0, .int .i64 0, .int .i64 0, .int .i64 0, .int .i64 0, .int .i64 0, .int .i64 0, .int .i64 0]
theorem zM_here (w : World) {n : Nat} (hn : n = 17) {b : Nat} (hb : b = w.heap.size) : ∀ j, j < n → ((w.alloc (.cells zM.toArray 27)).cell? ⟨b, 0 + j, none⟩).isSome = true := fun j hj => (holds_alloc w zM 27 hb).some j (by rw [show zM.length = 17 from rfl]; omega)

theorem lies_regrown {w : World} {b o : Nat} {L : List Int} (h : Lies w b o L) (d : Nat) (os : Array Obj) : Lies (Go.Sort.grow (redrawn w d) os) b o L := fun j x hx => cell_regrown (h j x hx) d os
theorem regrown_same {P : Program} {f : FuncId} {args : Array Value} {w : World} {d : Nat} {os : Array Obj} {v : Value}
    (h : Calls P f args (Go.Sort.grow (redrawn w d) os) fun e w' => e = .returned v ∧ Go.Sort.grow (redrawn w d) os = w') : Calls P f args (Go.Sort.grow (redrawn w d) os) fun e w'' => e = .returned v ∧ ∃ p : Regrown, w'' = Go.Sort.grow (redrawn w p.d) p.os :=
  h.mono fun _ _ ⟨he, hb⟩ => ⟨he, ⟨d, os⟩, hb.symm⟩

/-- A draft's message, its encoding and what Decode makes of that. -/
theorem drf_enc (k d c t i o p s n b x0 x1 x2 x3 v : Int) (h : DrfOk k d c t i o p s n b x0 x1 x2 x3 v) : ∃ (K : Int) (R L : List Int), (K :: R).length = 17 ∧ Bytes L ∧ 22 ≤ L.length ∧ L.length ≤ 38 ∧ sizeV K = L.length ∧
    (∀ W, Calls Try.prog 16 #[.agg #[.int .u8 k, .int .u8 d, .int .i64 c, .int .i64 t, .int .u64 i, .int .u64 o, .int .u16 p, .int .u16 s, .int .u16 n, .int .i32 b, .int .u8 x0, .int .u8 x1, .int .u8 x2, .int .u8 x3, .int .u16 v]] W fun e w' => e = .returned (.agg (msgA (K :: R))) ∧ Below W.heap.size W w') ∧
    (∀ W, Calls Try.prog 18 #[.agg (msgA (K :: R))] W fun e1 w' => ∃ g1 cap, e1 = .returned (.tuple #[.slice (some ⟨g1, 0, none⟩) L.length cap, .int .i64 0]) ∧ w'.ownsRow W.heap.size 5 1 (.slice (some ⟨g1, 0, none⟩) L.length cap) L.length (bys L) ∧ Below W.heap.size W w') ∧
    decRes L = K :: R ∧ decErr L = 0 ∧ L = encL (K :: R) := by
  obtain ⟨K', D, C, i', p', S, T, P, r, q, a', b', c', v', e, g, s', hE, hR⟩ := drf_right k d c t i o p s n b x0 x1 x2 x3 v h
  obtain ⟨hd, he⟩ := dec_enc K' D C i' p' S T P r q a' b' c' v' e g s' hR
  have hlen : 22 ≤ (encM K' D C i' p' S T P r q a' b' c' v' e g s').length ∧ (encM K' D C i' p' S T P r q a' b' c' v' e g s').length ≤ 38 ∧ sizeV K' = (encM K' D C i' p' S T P r q a' b' c' v' e g s').length := by
    rcases kind_of K' D C i' p' S T P r q a' b' c' v' e g s' hR with rfl | rfl | rfl | rfl | rfl | rfl
    · rw [enc_len_0]; decide
    · rw [enc_len_2]; decide
    · rw [enc_len_3]; decide
    · rw [enc_len_10]; decide
    · rw [enc_len_8]; decide
    · rw [enc_len_11]; decide
  refine ⟨K', [D, C, i', p', S, T, P, r, q, a', b', c', v', e, g, s'], encM K' D C i' p' S T P r q a' b' c' v' e g s', rfl, ?_, hlen.1, hlen.2.1, hlen.2.2, fun W => ?_, fun W => encode_ok K' D C i' p' S T P r q a' b' c' v' e g s' W hR, hd, he, rfl⟩
  · intro x hx
    rcases List.mem_append.1 hx with h | h
    · exact encF_bd _ _ x h
    · exact encF_bd _ _ x h
  · have hm := draftMsg_any k d c t i o p s n b x0 x1 x2 x3 v h W
    rw [hE] at hm
    exact hm

end Go.Proofs.Ytecengclcaodeaa
