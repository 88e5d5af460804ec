/-
  DelayLimits: for every input the law returns true, and its arguments read as before. No conditions.
-/
import Derived.Test.YtpbolnieclbdmaaDelayWorks
import Derived.Test.YtpbolnieclbdmaaDelayRef
import Derived.Test.YtpbolnieclbdmaaOpen12
import Derived.Lib.QuietBelow
import Derived.BigQuiet
namespace Go.Proofs.Ytpbolnieclbdmaa
open Go.RowKit Go.Lib Plain
open Go.ChangeShapes Go.WideShapes Go.ChangeAt

set_option maxHeartbeats 4000000 in
set_option maxRecDepth 100000 in
theorem delayLimits_walk (p d u y : Int) (w : World) : Calls Try.prog 6 #[.int .i64 p, .int .i64 d, .int .i64 u, .int .i64 y] w fun y w' => y = .returned (.bool true) ∧ Below w.heap.size w w' := by
  have hc1 : (p < 0 ∧ dblV p d u = 0 ∧ dblE p d u = 2) ∨ (0 ≤ p ∧ 200000 < p ∧ dblV p d u = 0 ∧ dblE p d u = 2) ∨ (0 ≤ p ∧ p ≤ 200000 ∧ spB 0 d u = false ∧ dblV p d u = 0 ∧ dblE p d u = 2) ∨ (0 ≤ p ∧ p ≤ 200000 ∧ spB 0 d u = true ∧ dblV p d u = dbV p d u ∧ dblE p d u = 0 ∧ Hid (DbOk p d u)) := by
    by_cases k1 : p < 0
    · exact .inl ⟨k1, if_neg (fun h => by have := h.1.1; omega), if_neg (fun h => by have := h.1.1; omega)⟩
    · by_cases k2 : 200000 < p
      · exact .inr (.inl ⟨by omega, k2, if_neg (fun h => by have := h.1.2; omega), if_neg (fun h => by have := h.1.2; omega)⟩)
      · by_cases k3 : Spn 0 d u
        · have hd : DbOk p d u := ⟨⟨by omega, by omega⟩, k3⟩
          exact .inr (.inr (.inr ⟨by omega, by omega, decide_eq_true k3, if_pos hd, if_pos hd, hd⟩))
        · exact .inr (.inr (.inl ⟨by omega, by omega, decide_eq_false k3, if_neg (fun h => k3 h.2), if_neg (fun h => k3 h.2)⟩))
  have hc2 : (y < 1 ∧ rblV y = 0 ∧ rblE y = 2) ∨ (1 ≤ y ∧ 4398046511104 < y ∧ rblV y = 0 ∧ rblE y = 2) ∨ (1 ≤ y ∧ y ≤ 4398046511104 ∧ rblV y = rbV y ∧ rblE y = 0) := by
    by_cases k1 : y < 1
    · exact .inl ⟨k1, if_neg (fun h => by have := h.1; omega), if_neg (fun h => by have := h.1; omega)⟩
    · by_cases k2 : 4398046511104 < y
      · exact .inr (.inl ⟨by omega, k2, if_neg (fun h => by have := h.2; omega), if_neg (fun h => by have := h.2; omega)⟩)
      · exact .inr (.inr ⟨by omega, by omega, if_pos ⟨by omega, by omega⟩, if_pos ⟨by omega, by omega⟩⟩)
  have HC2 := Lib.hid hc2
  clear hc2
  rcases hc1 with ⟨k1, k2, k3⟩ | ⟨k0, k1, k2, k3⟩ | ⟨k0, k1, q, k2, k3⟩ | ⟨k0, k1, q, k2, k3, HD⟩
  · have K2 := Lib.hid k2
    have K3 := Lib.hid k3
    clear k2 k3
    go_enter Try.func6, Try.ntmps6
    go_wp2_with fail
    refine (works_any _).mono ?_
    rintro e w1 ⟨rfl, hb1⟩
    have H1 := Lib.hid (below_step (Below.refl _ _) hb1)
    clear hb1
    go_wp2_with fail
    refine (delayBound_any p d u _).mono ?_
    rw [K2.out, K3.out]
    rintro e w2 ⟨rfl, hb2⟩
    have H2 := Lib.hid (below_step (H1.out) hb2)
    clear hb2 H1
    rcases HC2.out with ⟨g1, g2, g3⟩ | ⟨g0, g1, g2, g3⟩ | ⟨g0, g1, g2, g3⟩
    · have G2 := Lib.hid g2
      have G3 := Lib.hid g3
      clear g2 g3 HC2
      go_wp2_with fail
      refine (ratioBound_any y _).mono ?_
      rw [G2.out, G3.out]
      rintro e w3 ⟨rfl, hb3⟩
      have H3 := Lib.hid (below_step (H2.out) hb3)
      clear hb3 H2
      go_wp2
      go_ret
      exact ⟨rfl, H3.out⟩
    · have G2 := Lib.hid g2
      have G3 := Lib.hid g3
      clear g2 g3 HC2
      go_wp2_with fail
      refine (ratioBound_any y _).mono ?_
      rw [G2.out, G3.out]
      rintro e w3 ⟨rfl, hb3⟩
      have H3 := Lib.hid (below_step (H2.out) hb3)
      clear hb3 H2
      go_wp2
      go_ret
      exact ⟨rfl, H3.out⟩
    · have G2 := Lib.hid g2
      have G3 := Lib.hid g3
      clear g2 g3 HC2
      go_wp2_with fail
      refine (ratioBound_any y _).mono ?_
      rw [G2.out, G3.out]
      rintro e w3 ⟨rfl, hb3⟩
      have H3 := Lib.hid (below_step (H2.out) hb3)
      clear hb3 H2
      go_wp2_with fail
      refine (ratioBoundRef_any y ⟨g0, g1⟩ _).mono ?_
      rintro e w' ⟨rfl, rfl⟩
      go_wp2
      go_ret
      exact ⟨rfl, H3.out⟩
  · have K2 := Lib.hid k2
    have K3 := Lib.hid k3
    clear k2 k3
    go_enter Try.func6, Try.ntmps6
    go_wp2_with fail
    refine (works_any _).mono ?_
    rintro e w1 ⟨rfl, hb1⟩
    have H1 := Lib.hid (below_step (Below.refl _ _) hb1)
    clear hb1
    go_wp2_with fail
    refine (delayBound_any p d u _).mono ?_
    rw [K2.out, K3.out]
    rintro e w2 ⟨rfl, hb2⟩
    have H2 := Lib.hid (below_step (H1.out) hb2)
    clear hb2 H1
    rcases HC2.out with ⟨g1, g2, g3⟩ | ⟨g0, g1, g2, g3⟩ | ⟨g0, g1, g2, g3⟩
    · have G2 := Lib.hid g2
      have G3 := Lib.hid g3
      clear g2 g3 HC2
      go_wp2_with fail
      refine (ratioBound_any y _).mono ?_
      rw [G2.out, G3.out]
      rintro e w3 ⟨rfl, hb3⟩
      have H3 := Lib.hid (below_step (H2.out) hb3)
      clear hb3 H2
      go_wp2
      go_ret
      exact ⟨rfl, H3.out⟩
    · have G2 := Lib.hid g2
      have G3 := Lib.hid g3
      clear g2 g3 HC2
      go_wp2_with fail
      refine (ratioBound_any y _).mono ?_
      rw [G2.out, G3.out]
      rintro e w3 ⟨rfl, hb3⟩
      have H3 := Lib.hid (below_step (H2.out) hb3)
      clear hb3 H2
      go_wp2
      go_ret
      exact ⟨rfl, H3.out⟩
    · have G2 := Lib.hid g2
      have G3 := Lib.hid g3
      clear g2 g3 HC2
      go_wp2_with fail
      refine (ratioBound_any y _).mono ?_
      rw [G2.out, G3.out]
      rintro e w3 ⟨rfl, hb3⟩
      have H3 := Lib.hid (below_step (H2.out) hb3)
      clear hb3 H2
      go_wp2_with fail
      refine (ratioBoundRef_any y ⟨g0, g1⟩ _).mono ?_
      rintro e w' ⟨rfl, rfl⟩
      go_wp2
      go_ret
      exact ⟨rfl, H3.out⟩
  · have K2 := Lib.hid k2
    have K3 := Lib.hid k3
    clear k2 k3
    go_enter Try.func6, Try.ntmps6
    go_wp2_with fail
    refine (works_any _).mono ?_
    rintro e w1 ⟨rfl, hb1⟩
    have H1 := Lib.hid (below_step (Below.refl _ _) hb1)
    clear hb1
    go_wp2_with fail
    refine (delayBound_any p d u _).mono ?_
    rw [K2.out, K3.out]
    rintro e w2 ⟨rfl, hb2⟩
    have H2 := Lib.hid (below_step (H1.out) hb2)
    clear hb2 H1
    go_wp2_with fail
    refine (timed_any 0 d u _).mono ?_
    rintro e w' ⟨rfl, rfl⟩
    rcases HC2.out with ⟨g1, g2, g3⟩ | ⟨g0, g1, g2, g3⟩ | ⟨g0, g1, g2, g3⟩
    · have G2 := Lib.hid g2
      have G3 := Lib.hid g3
      clear g2 g3 HC2
      go_wp2_with fail
      refine (ratioBound_any y _).mono ?_
      rw [G2.out, G3.out]
      rintro e w3 ⟨rfl, hb3⟩
      have H3 := Lib.hid (below_step (H2.out) hb3)
      clear hb3 H2
      go_wp2
      go_ret
      exact ⟨rfl, H3.out⟩
    · have G2 := Lib.hid g2
      have G3 := Lib.hid g3
      clear g2 g3 HC2
      go_wp2_with fail
      refine (ratioBound_any y _).mono ?_
      rw [G2.out, G3.out]
      rintro e w3 ⟨rfl, hb3⟩
      have H3 := Lib.hid (below_step (H2.out) hb3)
      clear hb3 H2
      go_wp2
      go_ret
      exact ⟨rfl, H3.out⟩
    · have G2 := Lib.hid g2
      have G3 := Lib.hid g3
      clear g2 g3 HC2
      go_wp2_with fail
      refine (ratioBound_any y _).mono ?_
      rw [G2.out, G3.out]
      rintro e w3 ⟨rfl, hb3⟩
      have H3 := Lib.hid (below_step (H2.out) hb3)
      clear hb3 H2
      go_wp2_with fail
      refine (ratioBoundRef_any y ⟨g0, g1⟩ _).mono ?_
      rintro e w' ⟨rfl, rfl⟩
      go_wp2
      go_ret
      exact ⟨rfl, H3.out⟩
  · have K2 := Lib.hid k2
    have K3 := Lib.hid k3
    clear k2 k3
    go_enter Try.func6, Try.ntmps6
    go_wp2_with fail
    refine (works_any _).mono ?_
    rintro e w1 ⟨rfl, hb1⟩
    have H1 := Lib.hid (below_step (Below.refl _ _) hb1)
    clear hb1
    go_wp2_with fail
    refine (delayBound_any p d u _).mono ?_
    rw [K2.out, K3.out]
    rintro e w2 ⟨rfl, hb2⟩
    have H2 := Lib.hid (below_step (H1.out) hb2)
    clear hb2 H1
    go_wp2_with fail
    refine (timed_any 0 d u _).mono ?_
    rintro e w' ⟨rfl, rfl⟩
    go_wp2_with fail
    refine (delayBoundRef_any p d u HD.out _).mono ?_
    rintro e w' ⟨rfl, rfl⟩
    rcases HC2.out with ⟨g1, g2, g3⟩ | ⟨g0, g1, g2, g3⟩ | ⟨g0, g1, g2, g3⟩
    · have G2 := Lib.hid g2
      have G3 := Lib.hid g3
      clear g2 g3 HC2
      go_wp2_with fail
      refine (ratioBound_any y _).mono ?_
      rw [G2.out, G3.out]
      rintro e w3 ⟨rfl, hb3⟩
      have H3 := Lib.hid (below_step (H2.out) hb3)
      clear hb3 H2
      go_wp2
      go_ret
      exact ⟨rfl, H3.out⟩
    · have G2 := Lib.hid g2
      have G3 := Lib.hid g3
      clear g2 g3 HC2
      go_wp2_with fail
      refine (ratioBound_any y _).mono ?_
      rw [G2.out, G3.out]
      rintro e w3 ⟨rfl, hb3⟩
      have H3 := Lib.hid (below_step (H2.out) hb3)
      clear hb3 H2
      go_wp2
      go_ret
      exact ⟨rfl, H3.out⟩
    · have G2 := Lib.hid g2
      have G3 := Lib.hid g3
      clear g2 g3 HC2
      go_wp2_with fail
      refine (ratioBound_any y _).mono ?_
      rw [G2.out, G3.out]
      rintro e w3 ⟨rfl, hb3⟩
      have H3 := Lib.hid (below_step (H2.out) hb3)
      clear hb3 H2
      go_wp2_with fail
      refine (ratioBoundRef_any y ⟨g0, g1⟩ _).mono ?_
      rintro e w' ⟨rfl, rfl⟩
      go_wp2
      go_ret
      exact ⟨rfl, H3.out⟩

set_option maxRecDepth 100000 in
theorem delayLimits_lifted (os : Os) (started : os.Started) (H : Type) (enc : TypeId × Value → H) :
    ReturnsInHanded {} Try.checked os 6 .any (Rows.delayLimitsSpec.pre6 enc Try.prog Try.f6 [] false) (Rows.delayLimitsSpec.post enc Try.prog Try.f6 false true false false) := by
  refine law_lifted started Try.func6 (by kernel_rfl)
    (ChangeSpec.witness6 (enc := enc) (C := Try.checked) false ⟨#[], #[.int .i64 0, .int .i64 0, .int .i64 0, .int .i64 0], []⟩ 8 (by kernel_rfl) (by kernel_rfl) (by kernel_rfl) (by kernel_rfl))
    rfl (by kernel_rfl) (by kernel_rfl) (fun ds hd => ?_) ?_
  · rw [Try.params6] at hd
    match ds, hd with
    | [_, _, _, _], _ => exact ⟨rfl, rfl, rfl⟩
  · intro W base args ds p hval hA
    rw [Try.params6] at hA hval
    obtain ⟨v0, vs0, d0, ds0, p0, q0, ha0, rfl, rfl, h0, r0⟩ := trodAll_cons hA
    obtain ⟨v1, vs1, d1, ds1, p1, q1, ha1, rfl, rfl, h1, r1⟩ := trodAll_cons r0
    obtain ⟨v2, vs2, d2, ds2, p2, q2, ha2, rfl, rfl, h2, r2⟩ := trodAll_cons r1
    obtain ⟨v3, vs3, d3, ds3, p3, q3, ha3, rfl, rfl, h3, r3⟩ := trodAll_cons r2
    obtain ⟨hz, rfl, rfl⟩ := trodAll_nil r3
    obtain rfl : args = #[v0, v1, v2, v3] := by
      subst hz
      subst ha3
      subst ha2
      subst ha1
      cases args; simpa using ha0
    obtain ⟨x0, rfl, rfl, rfl, w0⟩ := open_int Try.underlying3 (hval 0 3 v0 rfl rfl) h0
    obtain ⟨x1, rfl, rfl, rfl, w1⟩ := open_int Try.underlying3 (hval 1 3 v1 rfl rfl) h1
    obtain ⟨x2, rfl, rfl, rfl, w2⟩ := open_int Try.underlying3 (hval 2 3 v2 rfl rfl) h2
    obtain ⟨x3, rfl, rfl, rfl, w3⟩ := open_int Try.underlying3 (hval 3 3 v3 rfl rfl) h3
    exact delayLimits_walk x0 x1 x2 x3 W

theorem delayLimits_holds : Rows.DelayLimitsSaid :=
  OpenClaim.holds_of_wide 6 Try.f6 rfl rfl rfl rfl rfl rfl rfl ⟨rfl, rfl, rfl, rfl, rfl⟩ rfl rfl rfl rfl rfl (by kernel_rfl) Try.func6 (by kernel_rfl)
    (of_decide_eq_true (by kernel_rfl)) (by unfold Func.isWrapper; first | (rw [if_pos (by decide +kernel)]; kernel_rfl) | (rw [if_neg (by decide +kernel)]; exact ⟨rfl, rfl⟩))
    (fun os started H enc _ => delayLimits_lifted os started H enc)
#print axioms delayLimits_holds

end Go.Proofs.Ytpbolnieclbdmaa
