/-
  The walks of package delay: the closures, firstError, Ratio.
-/
import Derived.Test.YtkencmijghigiaaGreatMDelay
namespace Go.Proofs.YtkencmijghigiaaGreat
open Go.RowKit Go.Lib Plain

def demE (h : Bool) (e : Int) : Int := if h = true then 0 else e

/-- delay.demand's closure -/
theorem demand1_any (h : Bool) (e : Int) (b1 b2 : Nat) (w : World) (h1 : w.cell? ⟨b1, 0, none⟩ = some (.bool h)) (h2 : w.cell? ⟨b2, 0, none⟩ = some (.int .i64 e)) :
    Calls Tryz.prog 102 #[.pointer (some ⟨b1, 0, none⟩), .pointer (some ⟨b2, 0, none⟩)] w fun y w' => y = .returned (.int .i64 (demE h e)) ∧ Below w.heap.size w w' := by
  cases h
  · show Calls _ _ _ _ fun y w' => y = .returned (.int .i64 e) ∧ _
    go_enter Tryz.func102, Tryz.ntmps102
    go_wp2
    go_ret
    exact ⟨rfl, Below.refl _ _⟩
  · show Calls _ _ _ _ fun y w' => y = .returned (.int .i64 0) ∧ _
    go_enter Tryz.func102, Tryz.ntmps102
    go_wp2
    go_ret
    exact ⟨rfl, Below.refl _ _⟩

/-- delay.demand -/
theorem demand_any (h : Bool) (e : Int) (w : World) :
    Calls Tryz.prog 82 #[.bool h, .int .i64 e] w fun y w' => y = .returned (.func (.func 102) #[] #[.pointer (some ⟨w.heap.size, 0, none⟩), .pointer (some ⟨w.heap.size + 1, 0, none⟩)]) ∧
      Below w.heap.size w w' ∧ w'.cell? ⟨w.heap.size, 0, none⟩ = some (.bool h) ∧ w'.cell? ⟨w.heap.size + 1, 0, none⟩ = some (.int .i64 e) := by
  go_enter Tryz.func82, Tryz.ntmps82
  go_wp2
  go_ret
  exact ⟨rfl, below_alloc (below_alloc (Below.refl _ _) _) _, by simp [go_sem], by simp [go_sem]⟩

def firstE (e1 e2 e3 : Int) : Int := if e1 = 0 then if e2 = 0 then e3 else e2 else e1

def firstE2 (e1 e2 : Int) : Int := if e1 = 0 then e2 else e1

set_option maxHeartbeats 1000000 in
/-- delay.firstError of the closures of first_ratio -/
theorem first_ratio (e0 e1 e2 : Int) (b00 b10 b20 b21 b : Nat) (w : World)
    (h0 : w.cell? ⟨b, 0, none⟩ = some (.func (.func 80) #[] #[.pointer (some ⟨b00, 0, none⟩)])) (h1 : w.cell? ⟨b, 1, none⟩ = some (.func (.func 81) #[] #[.pointer (some ⟨b10, 0, none⟩)])) (h2 : w.cell? ⟨b, 2, none⟩ = some (.func (.func 102) #[] #[.pointer (some ⟨b20, 0, none⟩), .pointer (some ⟨b21, 0, none⟩)]))
    (H0 : Hid (∀ W, Below w.heap.size w W → Calls Tryz.prog 80 #[.pointer (some ⟨b00, 0, none⟩)] W fun e W' => e = .returned (.int .i64 e0) ∧ Below W.heap.size W W'))
    (H1 : Hid (∀ W, Below w.heap.size w W → Calls Tryz.prog 81 #[.pointer (some ⟨b10, 0, none⟩)] W fun e W' => e = .returned (.int .i64 e1) ∧ Below W.heap.size W W'))
    (H2 : Hid (∀ W, Below w.heap.size w W → Calls Tryz.prog 102 #[.pointer (some ⟨b20, 0, none⟩), .pointer (some ⟨b21, 0, none⟩)] W fun e W' => e = .returned (.int .i64 e2) ∧ Below W.heap.size W W')) :
    Calls Tryz.prog 73 #[.slice (some ⟨b, 0, none⟩) 3 3] w fun e w' => e = .returned (.int .i64 (firstE e0 e1 e2)) ∧ Below w.heap.size w w' := by
  by_cases k0 : e0 = 0
  · subst k0
    by_cases k1 : e1 = 0
    · subst k1
      show Calls _ _ _ _ fun e w' => e = .returned (.int .i64 e2) ∧ _
      by_cases k2 : e2 = 0
      · subst k2
        go_enter Tryz.func73, Tryz.ntmps73
        go_wp2
        go_step3
        go_wp2
        go_step3
        go_wp2
        refine wp_loop_rounds 4 ?_
        rw [rounds_succ]
        go_wp2_with fail
        refine (H0.out _ (Below.refl _ _)).mono ?_
        rintro e w1 ⟨rfl, hb⟩
        have h1 := below_keep hb h1
        have h2 := below_keep hb h2
        have G1 := Lib.hid (hb)
        clear hb
        go_wp2
        rw [rounds_succ]
        go_wp2_with fail
        refine (H1.out _ (G1.out)).mono ?_
        rintro e w2 ⟨rfl, hb⟩
        have h2 := below_keep hb h2
        have G2 := Lib.hid (below_step G1.out hb)
        clear hb
        go_wp2
        rw [rounds_succ]
        go_wp2_with fail
        refine (H2.out _ (G2.out)).mono ?_
        rintro e w3 ⟨rfl, hb⟩
        have G3 := Lib.hid (below_step G2.out hb)
        clear hb
        go_wp2
        rw [rounds_succ]
        go_wp2
        rw [Exit.noGoto_ret]
        go_ret
        exact ⟨rfl, G3.out⟩
      · have q2 : (e2 == 0) = false := beq_eq_false_iff_ne.2 k2
        clear k2
        go_enter Tryz.func73, Tryz.ntmps73
        go_wp2
        go_step3
        go_wp2
        go_step3
        go_wp2
        refine wp_loop_rounds 3 ?_
        rw [rounds_succ]
        go_wp2_with fail
        refine (H0.out _ (Below.refl _ _)).mono ?_
        rintro e w1 ⟨rfl, hb⟩
        have h1 := below_keep hb h1
        have h2 := below_keep hb h2
        have G1 := Lib.hid (hb)
        clear hb
        go_wp2
        rw [rounds_succ]
        go_wp2_with fail
        refine (H1.out _ (G1.out)).mono ?_
        rintro e w2 ⟨rfl, hb⟩
        have h2 := below_keep hb h2
        have G2 := Lib.hid (below_step G1.out hb)
        clear hb
        go_wp2
        rw [rounds_succ]
        go_wp2_with fail
        refine (H2.out _ (G2.out)).mono ?_
        rintro e w3 ⟨rfl, hb⟩
        have G3 := Lib.hid (below_step G2.out hb)
        clear hb
        go_wp2
        rw [Exit.noGoto_ret]
        go_ret
        exact ⟨rfl, G3.out⟩
    · have q1 : (e1 == 0) = false := beq_eq_false_iff_ne.2 k1
      rw [show firstE 0 e1 e2 = e1 from if_neg k1]
      clear k1
      go_enter Tryz.func73, Tryz.ntmps73
      go_wp2
      go_step3
      go_wp2
      go_step3
      go_wp2
      refine wp_loop_rounds 2 ?_
      rw [rounds_succ]
      go_wp2_with fail
      refine (H0.out _ (Below.refl _ _)).mono ?_
      rintro e w1 ⟨rfl, hb⟩
      have h1 := below_keep hb h1
      have h2 := below_keep hb h2
      have G1 := Lib.hid (hb)
      clear hb
      go_wp2
      rw [rounds_succ]
      go_wp2_with fail
      refine (H1.out _ (G1.out)).mono ?_
      rintro e w2 ⟨rfl, hb⟩
      have h2 := below_keep hb h2
      have G2 := Lib.hid (below_step G1.out hb)
      clear hb
      go_wp2
      rw [Exit.noGoto_ret]
      go_ret
      exact ⟨rfl, G2.out⟩
  · have q0 : (e0 == 0) = false := beq_eq_false_iff_ne.2 k0
    rw [show firstE e0 e1 e2 = e0 from if_neg k0]
    clear k0
    go_enter Tryz.func73, Tryz.ntmps73
    go_wp2
    go_step3
    go_wp2
    go_step3
    go_wp2
    refine wp_loop_rounds 1 ?_
    rw [rounds_succ]
    go_wp2_with fail
    refine (H0.out _ (Below.refl _ _)).mono ?_
    rintro e w1 ⟨rfl, hb⟩
    have h1 := below_keep hb h1
    have h2 := below_keep hb h2
    have G1 := Lib.hid (hb)
    clear hb
    go_wp2
    rw [Exit.noGoto_ret]
    go_ret
    exact ⟨rfl, G1.out⟩

set_option maxHeartbeats 1000000 in
/-- delay.firstError of the closures of first_meet -/
theorem first_meet (e0 e1 e2 : Int) (b00 b10 b20 b : Nat) (w : World)
    (h0 : w.cell? ⟨b, 0, none⟩ = some (.func (.func 74) #[] #[.pointer (some ⟨b00, 0, none⟩)])) (h1 : w.cell? ⟨b, 1, none⟩ = some (.func (.func 75) #[] #[.pointer (some ⟨b10, 0, none⟩)])) (h2 : w.cell? ⟨b, 2, none⟩ = some (.func (.func 101) #[] #[.pointer (some ⟨b20, 0, none⟩)]))
    (H0 : Hid (∀ W, Below w.heap.size w W → Calls Tryz.prog 74 #[.pointer (some ⟨b00, 0, none⟩)] W fun e W' => e = .returned (.int .i64 e0) ∧ Below W.heap.size W W'))
    (H1 : Hid (∀ W, Below w.heap.size w W → Calls Tryz.prog 75 #[.pointer (some ⟨b10, 0, none⟩)] W fun e W' => e = .returned (.int .i64 e1) ∧ Below W.heap.size W W'))
    (H2 : Hid (∀ W, Below w.heap.size w W → Calls Tryz.prog 101 #[.pointer (some ⟨b20, 0, none⟩)] W fun e W' => e = .returned (.int .i64 e2) ∧ Below W.heap.size W W')) :
    Calls Tryz.prog 73 #[.slice (some ⟨b, 0, none⟩) 3 3] w fun e w' => e = .returned (.int .i64 (firstE e0 e1 e2)) ∧ Below w.heap.size w w' := by
  by_cases k0 : e0 = 0
  · subst k0
    by_cases k1 : e1 = 0
    · subst k1
      show Calls _ _ _ _ fun e w' => e = .returned (.int .i64 e2) ∧ _
      by_cases k2 : e2 = 0
      · subst k2
        go_enter Tryz.func73, Tryz.ntmps73
        go_wp2
        go_step3
        go_wp2
        go_step3
        go_wp2
        refine wp_loop_rounds 4 ?_
        rw [rounds_succ]
        go_wp2_with fail
        refine (H0.out _ (Below.refl _ _)).mono ?_
        rintro e w1 ⟨rfl, hb⟩
        have h1 := below_keep hb h1
        have h2 := below_keep hb h2
        have G1 := Lib.hid (hb)
        clear hb
        go_wp2
        rw [rounds_succ]
        go_wp2_with fail
        refine (H1.out _ (G1.out)).mono ?_
        rintro e w2 ⟨rfl, hb⟩
        have h2 := below_keep hb h2
        have G2 := Lib.hid (below_step G1.out hb)
        clear hb
        go_wp2
        rw [rounds_succ]
        go_wp2_with fail
        refine (H2.out _ (G2.out)).mono ?_
        rintro e w3 ⟨rfl, hb⟩
        have G3 := Lib.hid (below_step G2.out hb)
        clear hb
        go_wp2
        rw [rounds_succ]
        go_wp2
        rw [Exit.noGoto_ret]
        go_ret
        exact ⟨rfl, G3.out⟩
      · have q2 : (e2 == 0) = false := beq_eq_false_iff_ne.2 k2
        clear k2
        go_enter Tryz.func73, Tryz.ntmps73
        go_wp2
        go_step3
        go_wp2
        go_step3
        go_wp2
        refine wp_loop_rounds 3 ?_
        rw [rounds_succ]
        go_wp2_with fail
        refine (H0.out _ (Below.refl _ _)).mono ?_
        rintro e w1 ⟨rfl, hb⟩
        have h1 := below_keep hb h1
        have h2 := below_keep hb h2
        have G1 := Lib.hid (hb)
        clear hb
        go_wp2
        rw [rounds_succ]
        go_wp2_with fail
        refine (H1.out _ (G1.out)).mono ?_
        rintro e w2 ⟨rfl, hb⟩
        have h2 := below_keep hb h2
        have G2 := Lib.hid (below_step G1.out hb)
        clear hb
        go_wp2
        rw [rounds_succ]
        go_wp2_with fail
        refine (H2.out _ (G2.out)).mono ?_
        rintro e w3 ⟨rfl, hb⟩
        have G3 := Lib.hid (below_step G2.out hb)
        clear hb
        go_wp2
        rw [Exit.noGoto_ret]
        go_ret
        exact ⟨rfl, G3.out⟩
    · have q1 : (e1 == 0) = false := beq_eq_false_iff_ne.2 k1
      rw [show firstE 0 e1 e2 = e1 from if_neg k1]
      clear k1
      go_enter Tryz.func73, Tryz.ntmps73
      go_wp2
      go_step3
      go_wp2
      go_step3
      go_wp2
      refine wp_loop_rounds 2 ?_
      rw [rounds_succ]
      go_wp2_with fail
      refine (H0.out _ (Below.refl _ _)).mono ?_
      rintro e w1 ⟨rfl, hb⟩
      have h1 := below_keep hb h1
      have h2 := below_keep hb h2
      have G1 := Lib.hid (hb)
      clear hb
      go_wp2
      rw [rounds_succ]
      go_wp2_with fail
      refine (H1.out _ (G1.out)).mono ?_
      rintro e w2 ⟨rfl, hb⟩
      have h2 := below_keep hb h2
      have G2 := Lib.hid (below_step G1.out hb)
      clear hb
      go_wp2
      rw [Exit.noGoto_ret]
      go_ret
      exact ⟨rfl, G2.out⟩
  · have q0 : (e0 == 0) = false := beq_eq_false_iff_ne.2 k0
    rw [show firstE e0 e1 e2 = e0 from if_neg k0]
    clear k0
    go_enter Tryz.func73, Tryz.ntmps73
    go_wp2
    go_step3
    go_wp2
    go_step3
    go_wp2
    refine wp_loop_rounds 1 ?_
    rw [rounds_succ]
    go_wp2_with fail
    refine (H0.out _ (Below.refl _ _)).mono ?_
    rintro e w1 ⟨rfl, hb⟩
    have h1 := below_keep hb h1
    have h2 := below_keep hb h2
    have G1 := Lib.hid (hb)
    clear hb
    go_wp2
    rw [Exit.noGoto_ret]
    go_ret
    exact ⟨rfl, G1.out⟩

set_option maxHeartbeats 1000000 in
/-- delay.firstError of the closures of first_db -/
theorem first_db (e0 e1 : Int) (b00 b01 b10 b : Nat) (w : World)
    (h0 : w.cell? ⟨b, 0, none⟩ = some (.func (.func 102) #[] #[.pointer (some ⟨b00, 0, none⟩), .pointer (some ⟨b01, 0, none⟩)])) (h1 : w.cell? ⟨b, 1, none⟩ = some (.func (.func 101) #[] #[.pointer (some ⟨b10, 0, none⟩)]))
    (H0 : Hid (∀ W, Below w.heap.size w W → Calls Tryz.prog 102 #[.pointer (some ⟨b00, 0, none⟩), .pointer (some ⟨b01, 0, none⟩)] W fun e W' => e = .returned (.int .i64 e0) ∧ Below W.heap.size W W'))
    (H1 : Hid (∀ W, Below w.heap.size w W → Calls Tryz.prog 101 #[.pointer (some ⟨b10, 0, none⟩)] W fun e W' => e = .returned (.int .i64 e1) ∧ Below W.heap.size W W')) :
    Calls Tryz.prog 73 #[.slice (some ⟨b, 0, none⟩) 2 2] w fun e w' => e = .returned (.int .i64 (firstE2 e0 e1)) ∧ Below w.heap.size w w' := by
  by_cases k0 : e0 = 0
  · subst k0
    show Calls _ _ _ _ fun e w' => e = .returned (.int .i64 e1) ∧ _
    by_cases k1 : e1 = 0
    · subst k1
      go_enter Tryz.func73, Tryz.ntmps73
      go_wp2
      go_step3
      go_wp2
      go_step3
      go_wp2
      refine wp_loop_rounds 3 ?_
      rw [rounds_succ]
      go_wp2_with fail
      refine (H0.out _ (Below.refl _ _)).mono ?_
      rintro e w1 ⟨rfl, hb⟩
      have h1 := below_keep hb h1
      have G1 := Lib.hid (hb)
      clear hb
      go_wp2
      rw [rounds_succ]
      go_wp2_with fail
      refine (H1.out _ (G1.out)).mono ?_
      rintro e w2 ⟨rfl, hb⟩
      have G2 := Lib.hid (below_step G1.out hb)
      clear hb
      go_wp2
      rw [rounds_succ]
      go_wp2
      rw [Exit.noGoto_ret]
      go_ret
      exact ⟨rfl, G2.out⟩
    · have q1 : (e1 == 0) = false := beq_eq_false_iff_ne.2 k1
      clear k1
      go_enter Tryz.func73, Tryz.ntmps73
      go_wp2
      go_step3
      go_wp2
      go_step3
      go_wp2
      refine wp_loop_rounds 2 ?_
      rw [rounds_succ]
      go_wp2_with fail
      refine (H0.out _ (Below.refl _ _)).mono ?_
      rintro e w1 ⟨rfl, hb⟩
      have h1 := below_keep hb h1
      have G1 := Lib.hid (hb)
      clear hb
      go_wp2
      rw [rounds_succ]
      go_wp2_with fail
      refine (H1.out _ (G1.out)).mono ?_
      rintro e w2 ⟨rfl, hb⟩
      have G2 := Lib.hid (below_step G1.out hb)
      clear hb
      go_wp2
      rw [Exit.noGoto_ret]
      go_ret
      exact ⟨rfl, G2.out⟩
  · have q0 : (e0 == 0) = false := beq_eq_false_iff_ne.2 k0
    rw [show firstE2 e0 e1 = e0 from if_neg k0]
    clear k0
    go_enter Tryz.func73, Tryz.ntmps73
    go_wp2
    go_step3
    go_wp2
    go_step3
    go_wp2
    refine wp_loop_rounds 1 ?_
    rw [rounds_succ]
    go_wp2_with fail
    refine (H0.out _ (Below.refl _ _)).mono ?_
    rintro e w1 ⟨rfl, hb⟩
    have h1 := below_keep hb h1
    have G1 := Lib.hid (hb)
    clear hb
    go_wp2
    rw [Exit.noGoto_ret]
    go_ret
    exact ⟨rfl, G1.out⟩

end Go.Proofs.YtkencmijghigiaaGreat
