/-
  ptp.CheckMaster. No conditions.
-/
import Derived.Test.YtecengclcaodeaaPtpChk0
import Derived.BigQuiet
namespace Go.Proofs.Ytecengclcaodeaa
open Go.RowKit Go.Lib Plain

def MasterOk (a b c v e g : Int) : Prop := (In a 0 255 ∧ In b 0 255 ∧ In c 0 255 ∧ In e 0 255) ∧ In v 0 65535 ∧ In g 0 281474976710655
instance (a b c v e g : Int) : Decidable (MasterOk a b c v e g) := inferInstanceAs (Decidable (_ ∧ _))
def masB (a b c v e g : Int) : Bool := decide (MasterOk a b c v e g)
def masE (a b c v e g : Int) : Int := if MasterOk a b c v e g then 0 else 201

theorem four_0 : ∀ (a b c d : Value) (w : World), (Instr.index 63 (.agg #[a, b, c, d]) (.int .i64 0)).run Try.prog w = .ok a w := fun _ _ _ _ _ => by kernel_rfl
theorem four_1 : ∀ (a b c d : Value) (w : World), (Instr.index 63 (.agg #[a, b, c, d]) (.int .i64 1)).run Try.prog w = .ok b w := fun _ _ _ _ _ => by kernel_rfl
theorem four_2 : ∀ (a b c d : Value) (w : World), (Instr.index 63 (.agg #[a, b, c, d]) (.int .i64 2)).run Try.prog w = .ok c w := fun _ _ _ _ _ => by kernel_rfl
theorem four_3 : ∀ (a b c d : Value) (w : World), (Instr.index 63 (.agg #[a, b, c, d]) (.int .i64 3)).run Try.prog w = .ok d w := fun _ _ _ _ _ => by kernel_rfl
theorem four_any (a b c d : Int) (k : Nat) (hk : k < 4) : ∃ x : Int, (x = a ∧ k = 0 ∨ x = b ∧ k = 1 ∨ x = c ∧ k = 2 ∨ x = d ∧ k = 3) ∧ ∀ W, (Instr.index 63 (.agg #[.int .i64 a, .int .i64 b, .int .i64 c, .int .i64 d]) (.int .i64 (k : Int))).run Try.prog W = .ok (.int .i64 x) W := by
  rcases (show k = 0 ∨ k = 1 ∨ k = 2 ∨ k = 3 by omega) with rfl | rfl | rfl | rfl
  · exact ⟨_, .inl ⟨rfl, rfl⟩, fun W => four_0 _ _ _ _ W⟩
  · exact ⟨_, .inr (.inl ⟨rfl, rfl⟩), fun W => four_1 _ _ _ _ W⟩
  · exact ⟨_, .inr (.inr (.inl ⟨rfl, rfl⟩)), fun W => four_2 _ _ _ _ W⟩
  · exact ⟨_, .inr (.inr (.inr ⟨rfl, rfl⟩)), fun W => four_3 _ _ _ _ W⟩
/-- The first k of them lie in a byte. -/
def Firsts (a b c e : Int) (k : Nat) : Prop := (0 < k → In a 0 255) ∧ (1 < k → In b 0 255) ∧ (2 < k → In c 0 255) ∧ (3 < k → In e 0 255)
theorem firsts_step {a b c e x : Int} {k : Nat} (h : Firsts a b c e k) (hx : x = a ∧ k = 0 ∨ x = b ∧ k = 1 ∨ x = c ∧ k = 2 ∨ x = e ∧ k = 3) (hi : In x 0 255) : Firsts a b c e (k + 1) := by
  obtain ⟨h0, h1, h2, h3⟩ := h
  rcases hx with ⟨rfl, rfl⟩ | ⟨rfl, rfl⟩ | ⟨rfl, rfl⟩ | ⟨rfl, rfl⟩
  · exact ⟨fun _ => hi, fun h => by omega, fun h => by omega, fun h => by omega⟩
  · exact ⟨fun _ => h0 (by omega), fun _ => hi, fun h => by omega, fun h => by omega⟩
  · exact ⟨fun _ => h0 (by omega), fun _ => h1 (by omega), fun _ => hi, fun h => by omega⟩
  · exact ⟨fun _ => h0 (by omega), fun _ => h1 (by omega), fun _ => h2 (by omega), fun _ => hi⟩
theorem firsts_not {a b c v e g x : Int} {k : Nat} (hx : x = a ∧ k = 0 ∨ x = b ∧ k = 1 ∨ x = c ∧ k = 2 ∨ x = e ∧ k = 3) (hi : ¬ In x 0 255) : ¬ MasterOk a b c v e g := by
  rintro ⟨⟨h0, h1, h2, h3⟩, _⟩
  rcases hx with ⟨rfl, _⟩ | ⟨rfl, _⟩ | ⟨rfl, _⟩ | ⟨rfl, _⟩ <;> exact hi ‹_›

set_option maxHeartbeats 4000000 in
set_option maxRecDepth 100000 in
/-- ptp.CheckMaster -/
theorem checkMaster_any (a b c v e g : Int) (w : World) : Calls Try.prog 12 #[.agg #[.int .i64 a, .int .i64 b, .int .i64 c, .int .i64 v, .int .i64 e, .int .i64 g]] w fun y w' => y = .returned (.int .i64 (masE a b c v e g)) ∧ Below w.heap.size w w' := by
  go_enter Try.func12, Try.ntmps12
  go_wp2
  refine wp_world ?_
  intro W hW
  have k3 : W.cell? ⟨w.heap.size, 3, none⟩ = some (.int .i64 v) := by subst hW; simp [go_sem]
  have k5 : W.cell? ⟨w.heap.size, 5, none⟩ = some (.int .i64 g) := by subst hW; simp [go_sem]
  have HB := Lib.hid (show Below w.heap.size w W by subst hW; exact below_alloc (Below.refl _ _) _)
  clear hW
  go_loopw [14] (fun i wr => ∃ k : Nat, k ≤ 4 ∧ i = .int .i64 k ∧ wr = W ∧ Firsts a b c e k) (fun i _ => 4 - (RowKit.intOf i).toNat)
  case atStart => exact ⟨0, by omega, rfl, rfl, ⟨fun h => by omega, fun h => by omega, fun h => by omega, fun h => by omega⟩⟩
  case round =>
    obtain ⟨k, hk, rfl, rfl, hF⟩ := hrel
    have HF := Lib.hid hF
    clear hF
    by_cases hlt : k < 4
    · obtain ⟨x, hx, hi⟩ := four_any a b c e k hlt
      have HX := Lib.hid hx
      clear hx
      cases hin : inV x 0 255
      · go_wp2_with (go_at_call 29; refine (pinside_any _ _ _ _).mono ?_; rintro e1 w9 ⟨rfl, rfl⟩)
        go_ret
        exact ⟨by rw [show masE a b c v e g = 201 from if_neg (firsts_not HX.out (of_decide_eq_false hin))]; first | done | rfl, HB.out⟩
      · go_wp2_with (go_at_call 29; refine (pinside_any _ _ _ _).mono ?_; rintro e1 w9 ⟨rfl, rfl⟩)
        go_roundw
        case rel => exact ⟨k + 1, by omega, by go_num, by first | rfl | trivial, firsts_step HF.out HX.out (of_decide_eq_true hin)⟩
        case measure => simp [RowKit.intOf]; omega
    · have hk4 : k = 4 := by omega
      subst hk4
      obtain ⟨f0, f1, f2, f3⟩ := HF.out
      have FF := Lib.hid (show In a 0 255 ∧ In b 0 255 ∧ In c 0 255 ∧ In e 0 255 from ⟨f0 (by omega), f1 (by omega), f2 (by omega), f3 (by omega)⟩)
      clear f0 f1 f2 f3
      cases h1 : inV v 0 65535
      · go_wp2_with (go_at_call 29; refine (pinside_any _ _ _ _).mono ?_; rintro e1 w9 ⟨rfl, rfl⟩)
        go_ret
        exact ⟨by rw [show masE a b c v e g = 201 from if_neg (fun x => of_decide_eq_false h1 x.2.1)]; first | done | rfl, HB.out⟩
      cases h2 : inV g 0 281474976710655
      · go_wp2_with (go_at_call 29; refine (pinside_any _ _ _ _).mono ?_; rintro e1 w9 ⟨rfl, rfl⟩)
        go_ret
        exact ⟨by rw [show masE a b c v e g = 201 from if_neg (fun x => of_decide_eq_false h2 x.2.2)]; first | done | rfl, HB.out⟩
      · go_wp2_with (go_at_call 29; refine (pinside_any _ _ _ _).mono ?_; rintro e1 w9 ⟨rfl, rfl⟩)
        go_ret
        exact ⟨by rw [show masE a b c v e g = 0 from if_pos ⟨FF.out, of_decide_eq_true h1, of_decide_eq_true h2⟩]; first | done | rfl, HB.out⟩

end Go.Proofs.Ytecengclcaodeaa
