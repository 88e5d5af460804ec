/-
  DelayRatios: for every input the law returns true, and its arguments read as before. No conditions.
-/
import Derived.Test.YtpbolnieclbdmaaDelayWorks
import Derived.Test.YtpbolnieclbdmaaDelayRef
import Derived.Test.YtpbolnieclbdmaaOpen12
import Derived.Lib.QuietBelow
import Derived.BigQuiet
namespace Go.Proofs.Ytpbolnieclbdmaa
open Go.RowKit Go.Lib Plain
open Go.ChangeShapes Go.WideShapes Go.ChangeAt

theorem xpair_0 : ∀ (a b c d e f g h a' b' c' d' e' f' g' h' : Value) (w : World), (Instr.index 32 (.agg #[a, b, c, d, e, f, g, h, a', b', c', d', e', f', g', h']) (.int .i64 0)).run Try.prog w = .ok (.agg #[a, b, c, d, e, f, g, h]) w := fun _ _ _ _ _ _ _ _ _ _ _ _ _ _ _ _ _ => by kernel_rfl
theorem xpair_1 : ∀ (a b c d e f g h a' b' c' d' e' f' g' h' : Value) (w : World), (Instr.index 32 (.agg #[a, b, c, d, e, f, g, h, a', b', c', d', e', f', g', h']) (.int .i64 1)).run Try.prog w = .ok (.agg #[a', b', c', d', e', f', g', h']) w := fun _ _ _ _ _ _ _ _ _ _ _ _ _ _ _ _ _ => by kernel_rfl
theorem xpair_any (a b c d e f g h a' b' c' d' e' f' g' h' : Int) (k : Nat) (hk : k < 2) : ∃ x0 x1 x2 x3 y0 y1 y2 y3 : Int, ∀ W, (Instr.index 32 (.agg #[.int .i64 a, .int .i64 b, .int .i64 c, .int .i64 d, .int .i64 e, .int .i64 f, .int .i64 g, .int .i64 h, .int .i64 a', .int .i64 b', .int .i64 c', .int .i64 d', .int .i64 e', .int .i64 f', .int .i64 g', .int .i64 h']) (.int .i64 (k : Int))).run Try.prog W =
    .ok (.agg #[.int .i64 x0, .int .i64 x1, .int .i64 x2, .int .i64 x3, .int .i64 y0, .int .i64 y1, .int .i64 y2, .int .i64 y3]) W := by
  rcases (show k = 0 ∨ k = 1 by omega) with rfl | rfl
  · exact ⟨_, _, _, _, _, _, _, _, fun W => xpair_0 _ _ _ _ _ _ _ _ _ _ _ _ _ _ _ _ W⟩
  · exact ⟨_, _, _, _, _, _, _, _, fun W => xpair_1 _ _ _ _ _ _ _ _ _ _ _ _ _ _ _ _ W⟩

set_option maxHeartbeats 4000000 in
set_option maxRecDepth 100000 in
theorem delayRatios_walk (a b c d a' b' c' d' : Int) (w : World) : Calls Try.prog 4 #[.agg #[.int .i64 a, .int .i64 b, .int .i64 c, .int .i64 d], .agg #[.int .i64 a', .int .i64 b', .int .i64 c', .int .i64 d']] w fun y w' => y = .returned (.bool true) ∧ Below w.heap.size w w' := by
  go_enter Try.func4, Try.ntmps4
  go_wp2_with fail
  refine (works_any _).mono ?_
  rintro e w1 ⟨rfl, hb1⟩
  have c1 : w1.cell? ⟨w.heap.size, 0, none⟩ = some (.int .i64 a) := below_keep hb1 (by simp [go_sem])
  have c2 : w1.cell? ⟨w.heap.size, 1, none⟩ = some (.int .i64 b) := below_keep hb1 (by simp [go_sem])
  have c3 : w1.cell? ⟨w.heap.size, 2, none⟩ = some (.int .i64 c) := below_keep hb1 (by simp [go_sem])
  have c4 : w1.cell? ⟨w.heap.size, 3, none⟩ = some (.int .i64 d) := below_keep hb1 (by simp [go_sem])
  have c5 : w1.cell? ⟨w.heap.size + 1, 0, none⟩ = some (.int .i64 a') := below_keep hb1 (by simp [go_sem])
  have c6 : w1.cell? ⟨w.heap.size + 1, 1, none⟩ = some (.int .i64 b') := below_keep hb1 (by simp [go_sem])
  have c7 : w1.cell? ⟨w.heap.size + 1, 2, none⟩ = some (.int .i64 c') := below_keep hb1 (by simp [go_sem])
  have c8 : w1.cell? ⟨w.heap.size + 1, 3, none⟩ = some (.int .i64 d') := below_keep hb1 (by simp [go_sem])
  have H1 := Lib.hid (below_step (below_alloc (below_alloc (Below.refl _ _) _) _) hb1)
  clear hb1
  go_wp2
  clear c1 c2 c3 c4 c5 c6 c7 c8
  go_loopw [20] (fun i wr => ∃ k : Nat, k ≤ 2 ∧ i = .int .i64 k ∧ Below w.heap.size w wr) (fun i _ => 2 - (RowKit.intOf i).toNat)
  case atStart => exact ⟨0, by omega, rfl, H1.out⟩
  case round =>
    clear H1
    obtain ⟨k, hk, rfl, hB⟩ := hrel
    have HB := Lib.hid hB
    clear hB
    by_cases hlt : k < 2
    · obtain ⟨x0, x1, x2, x3, y0, y1, y2, y3, hi⟩ := xpair_any a b c d a' b' c' d' a' b' c' d' a b c d k hlt
      by_cases h : OkX x0 x1 x2 x3
      · by_cases h' : OkX y0 y1 y2 y3
        · have c1 : okX x0 x1 x2 x3 = true := decide_eq_true h
          have c2 : okX y0 y1 y2 y3 = true := decide_eq_true h'
          have HX := Lib.hid h
          have HX' := Lib.hid h'
          clear h h'
          go_wp2_with fail
          refine (ratio_any x0 x1 x2 x3 y0 y1 y2 y3 _).mono ?_
          unfold RtPost
          rintro e w2 ⟨rfl, hb2⟩
          have c1 : w2.cell? ⟨wr.heap.size, 0, none⟩ = some (.int .i64 x0) := below_keep hb2 (by simp [go_sem])
          have c2 : w2.cell? ⟨wr.heap.size, 1, none⟩ = some (.int .i64 x1) := below_keep hb2 (by simp [go_sem])
          have c3 : w2.cell? ⟨wr.heap.size, 2, none⟩ = some (.int .i64 x2) := below_keep hb2 (by simp [go_sem])
          have c4 : w2.cell? ⟨wr.heap.size, 3, none⟩ = some (.int .i64 x3) := below_keep hb2 (by simp [go_sem])
          have c5 : w2.cell? ⟨wr.heap.size, 4, none⟩ = some (.int .i64 y0) := below_keep hb2 (by simp [go_sem])
          have c6 : w2.cell? ⟨wr.heap.size, 5, none⟩ = some (.int .i64 y1) := below_keep hb2 (by simp [go_sem])
          have c7 : w2.cell? ⟨wr.heap.size, 6, none⟩ = some (.int .i64 y2) := below_keep hb2 (by simp [go_sem])
          have c8 : w2.cell? ⟨wr.heap.size, 7, none⟩ = some (.int .i64 y3) := below_keep hb2 (by simp [go_sem])
          have H2 := Lib.hid (below_step (below_alloc (HB.out) _) hb2)
          clear hb2 HB
          generalize hrv : rtV (OkX x0 x1 x2 x3 ∧ OkX y0 y1 y2 y3) (y3 - x3) (y2 - x2) = rv at *
          generalize hre : rtE (OkX x0 x1 x2 x3 ∧ OkX y0 y1 y2 y3) (y3 - x3) (y2 - x2) = re at *
          have RV := Lib.hid hrv
          have RE := Lib.hid hre
          clear hrv hre
          go_wp2_with fail
          refine (xRight_any x0 x1 x2 x3 _).mono ?_
          rintro e w3 ⟨rfl, hb3⟩
          have c9 : w3.cell? ⟨wr.heap.size, 0, none⟩ = some (.int .i64 x0) := below_keep hb3 (c1)
          have c10 : w3.cell? ⟨wr.heap.size, 1, none⟩ = some (.int .i64 x1) := below_keep hb3 (c2)
          have c11 : w3.cell? ⟨wr.heap.size, 2, none⟩ = some (.int .i64 x2) := below_keep hb3 (c3)
          have c12 : w3.cell? ⟨wr.heap.size, 3, none⟩ = some (.int .i64 x3) := below_keep hb3 (c4)
          have c13 : w3.cell? ⟨wr.heap.size, 4, none⟩ = some (.int .i64 y0) := below_keep hb3 (c5)
          have c14 : w3.cell? ⟨wr.heap.size, 5, none⟩ = some (.int .i64 y1) := below_keep hb3 (c6)
          have c15 : w3.cell? ⟨wr.heap.size, 6, none⟩ = some (.int .i64 y2) := below_keep hb3 (c7)
          have c16 : w3.cell? ⟨wr.heap.size, 7, none⟩ = some (.int .i64 y3) := below_keep hb3 (c8)
          have H3 := Lib.hid (below_step (H2.out) hb3)
          clear hb3 c1 c2 c3 c4 c5 c6 c7 c8 H2
          go_wp2_with fail
          refine (xRight_any y0 y1 y2 y3 _).mono ?_
          rintro e w4 ⟨rfl, hb4⟩
          have c17 : w4.cell? ⟨wr.heap.size, 0, none⟩ = some (.int .i64 x0) := below_keep hb4 (c9)
          have c18 : w4.cell? ⟨wr.heap.size, 1, none⟩ = some (.int .i64 x1) := below_keep hb4 (c10)
          have c19 : w4.cell? ⟨wr.heap.size, 2, none⟩ = some (.int .i64 x2) := below_keep hb4 (c11)
          have c20 : w4.cell? ⟨wr.heap.size, 3, none⟩ = some (.int .i64 x3) := below_keep hb4 (c12)
          have c21 : w4.cell? ⟨wr.heap.size, 4, none⟩ = some (.int .i64 y0) := below_keep hb4 (c13)
          have c22 : w4.cell? ⟨wr.heap.size, 5, none⟩ = some (.int .i64 y1) := below_keep hb4 (c14)
          have c23 : w4.cell? ⟨wr.heap.size, 6, none⟩ = some (.int .i64 y2) := below_keep hb4 (c15)
          have c24 : w4.cell? ⟨wr.heap.size, 7, none⟩ = some (.int .i64 y3) := below_keep hb4 (c16)
          have H4 := Lib.hid (below_step (H3.out) hb4)
          clear hb4 c9 c10 c11 c12 c13 c14 c15 c16 H3
          go_wp2_with fail
          refine (ratioRef_any x0 x1 x2 x3 y0 y1 y2 y3 HX.out HX'.out _).mono ?_
          unfold RtPost
          rw [RV.out, RE.out]
          rintro e w5 ⟨rfl, hb5⟩
          have c25 : w5.cell? ⟨wr.heap.size, 0, none⟩ = some (.int .i64 x0) := below_keep hb5 (c17)
          have c26 : w5.cell? ⟨wr.heap.size, 1, none⟩ = some (.int .i64 x1) := below_keep hb5 (c18)
          have c27 : w5.cell? ⟨wr.heap.size, 2, none⟩ = some (.int .i64 x2) := below_keep hb5 (c19)
          have c28 : w5.cell? ⟨wr.heap.size, 3, none⟩ = some (.int .i64 x3) := below_keep hb5 (c20)
          have c29 : w5.cell? ⟨wr.heap.size, 4, none⟩ = some (.int .i64 y0) := below_keep hb5 (c21)
          have c30 : w5.cell? ⟨wr.heap.size, 5, none⟩ = some (.int .i64 y1) := below_keep hb5 (c22)
          have c31 : w5.cell? ⟨wr.heap.size, 6, none⟩ = some (.int .i64 y2) := below_keep hb5 (c23)
          have c32 : w5.cell? ⟨wr.heap.size, 7, none⟩ = some (.int .i64 y3) := below_keep hb5 (c24)
          have H5 := Lib.hid (below_step (H4.out) hb5)
          clear hb5 c17 c18 c19 c20 c21 c22 c23 c24 H4
          go_wp2
          go_roundw
          case rel => exact ⟨k + 1, by omega, by go_num, H5.out⟩
          case measure => simp [RowKit.intOf]; omega
        · have c1 : okX x0 x1 x2 x3 = true := decide_eq_true h
          have c2 : okX y0 y1 y2 y3 = false := decide_eq_false h'
          have n1 : Hid (rtV (OkX x0 x1 x2 x3 ∧ OkX y0 y1 y2 y3) (y3 - x3) (y2 - x2) = 0) := if_neg (fun x => h' x.2)
          have n2 : Hid (rtE (OkX x0 x1 x2 x3 ∧ OkX y0 y1 y2 y3) (y3 - x3) (y2 - x2) = 220) := if_neg (fun x => h' x.2)
          clear h h'
          go_wp2_with fail
          refine (ratio_any x0 x1 x2 x3 y0 y1 y2 y3 _).mono ?_
          unfold RtPost
          rw [n1.out, n2.out]
          rintro e w2 ⟨rfl, hb2⟩
          have c1 : w2.cell? ⟨wr.heap.size, 0, none⟩ = some (.int .i64 x0) := below_keep hb2 (by simp [go_sem])
          have c2 : w2.cell? ⟨wr.heap.size, 1, none⟩ = some (.int .i64 x1) := below_keep hb2 (by simp [go_sem])
          have c3 : w2.cell? ⟨wr.heap.size, 2, none⟩ = some (.int .i64 x2) := below_keep hb2 (by simp [go_sem])
          have c4 : w2.cell? ⟨wr.heap.size, 3, none⟩ = some (.int .i64 x3) := below_keep hb2 (by simp [go_sem])
          have c5 : w2.cell? ⟨wr.heap.size, 4, none⟩ = some (.int .i64 y0) := below_keep hb2 (by simp [go_sem])
          have c6 : w2.cell? ⟨wr.heap.size, 5, none⟩ = some (.int .i64 y1) := below_keep hb2 (by simp [go_sem])
          have c7 : w2.cell? ⟨wr.heap.size, 6, none⟩ = some (.int .i64 y2) := below_keep hb2 (by simp [go_sem])
          have c8 : w2.cell? ⟨wr.heap.size, 7, none⟩ = some (.int .i64 y3) := below_keep hb2 (by simp [go_sem])
          have H2 := Lib.hid (below_step (below_alloc (HB.out) _) hb2)
          clear hb2 HB
          go_wp2_with fail
          refine (xRight_any x0 x1 x2 x3 _).mono ?_
          rintro e w3 ⟨rfl, hb3⟩
          have c9 : w3.cell? ⟨wr.heap.size, 0, none⟩ = some (.int .i64 x0) := below_keep hb3 (c1)
          have c10 : w3.cell? ⟨wr.heap.size, 1, none⟩ = some (.int .i64 x1) := below_keep hb3 (c2)
          have c11 : w3.cell? ⟨wr.heap.size, 2, none⟩ = some (.int .i64 x2) := below_keep hb3 (c3)
          have c12 : w3.cell? ⟨wr.heap.size, 3, none⟩ = some (.int .i64 x3) := below_keep hb3 (c4)
          have c13 : w3.cell? ⟨wr.heap.size, 4, none⟩ = some (.int .i64 y0) := below_keep hb3 (c5)
          have c14 : w3.cell? ⟨wr.heap.size, 5, none⟩ = some (.int .i64 y1) := below_keep hb3 (c6)
          have c15 : w3.cell? ⟨wr.heap.size, 6, none⟩ = some (.int .i64 y2) := below_keep hb3 (c7)
          have c16 : w3.cell? ⟨wr.heap.size, 7, none⟩ = some (.int .i64 y3) := below_keep hb3 (c8)
          have H3 := Lib.hid (below_step (H2.out) hb3)
          clear hb3 c1 c2 c3 c4 c5 c6 c7 c8 H2
          go_wp2_with fail
          refine (xRight_any y0 y1 y2 y3 _).mono ?_
          rintro e w4 ⟨rfl, hb4⟩
          have c17 : w4.cell? ⟨wr.heap.size, 0, none⟩ = some (.int .i64 x0) := below_keep hb4 (c9)
          have c18 : w4.cell? ⟨wr.heap.size, 1, none⟩ = some (.int .i64 x1) := below_keep hb4 (c10)
          have c19 : w4.cell? ⟨wr.heap.size, 2, none⟩ = some (.int .i64 x2) := below_keep hb4 (c11)
          have c20 : w4.cell? ⟨wr.heap.size, 3, none⟩ = some (.int .i64 x3) := below_keep hb4 (c12)
          have c21 : w4.cell? ⟨wr.heap.size, 4, none⟩ = some (.int .i64 y0) := below_keep hb4 (c13)
          have c22 : w4.cell? ⟨wr.heap.size, 5, none⟩ = some (.int .i64 y1) := below_keep hb4 (c14)
          have c23 : w4.cell? ⟨wr.heap.size, 6, none⟩ = some (.int .i64 y2) := below_keep hb4 (c15)
          have c24 : w4.cell? ⟨wr.heap.size, 7, none⟩ = some (.int .i64 y3) := below_keep hb4 (c16)
          have H4 := Lib.hid (below_step (H3.out) hb4)
          clear hb4 c9 c10 c11 c12 c13 c14 c15 c16 H3
          go_wp2
          go_roundw
          case rel => exact ⟨k + 1, by omega, by go_num, H4.out⟩
          case measure => simp [RowKit.intOf]; omega
      · have c1 : okX x0 x1 x2 x3 = false := decide_eq_false h
        have n1 : Hid (rtV (OkX x0 x1 x2 x3 ∧ OkX y0 y1 y2 y3) (y3 - x3) (y2 - x2) = 0) := if_neg (fun x => h x.1)
        have n2 : Hid (rtE (OkX x0 x1 x2 x3 ∧ OkX y0 y1 y2 y3) (y3 - x3) (y2 - x2) = 220) := if_neg (fun x => h x.1)
        clear h
        go_wp2_with fail
        refine (ratio_any x0 x1 x2 x3 y0 y1 y2 y3 _).mono ?_
        unfold RtPost
        rw [n1.out, n2.out]
        rintro e w2 ⟨rfl, hb2⟩
        have c1 : w2.cell? ⟨wr.heap.size, 0, none⟩ = some (.int .i64 x0) := below_keep hb2 (by simp [go_sem])
        have c2 : w2.cell? ⟨wr.heap.size, 1, none⟩ = some (.int .i64 x1) := below_keep hb2 (by simp [go_sem])
        have c3 : w2.cell? ⟨wr.heap.size, 2, none⟩ = some (.int .i64 x2) := below_keep hb2 (by simp [go_sem])
        have c4 : w2.cell? ⟨wr.heap.size, 3, none⟩ = some (.int .i64 x3) := below_keep hb2 (by simp [go_sem])
        have c5 : w2.cell? ⟨wr.heap.size, 4, none⟩ = some (.int .i64 y0) := below_keep hb2 (by simp [go_sem])
        have c6 : w2.cell? ⟨wr.heap.size, 5, none⟩ = some (.int .i64 y1) := below_keep hb2 (by simp [go_sem])
        have c7 : w2.cell? ⟨wr.heap.size, 6, none⟩ = some (.int .i64 y2) := below_keep hb2 (by simp [go_sem])
        have c8 : w2.cell? ⟨wr.heap.size, 7, none⟩ = some (.int .i64 y3) := below_keep hb2 (by simp [go_sem])
        have H2 := Lib.hid (below_step (below_alloc (HB.out) _) hb2)
        clear hb2 HB
        go_wp2_with fail
        refine (xRight_any x0 x1 x2 x3 _).mono ?_
        rintro e w3 ⟨rfl, hb3⟩
        have c9 : w3.cell? ⟨wr.heap.size, 0, none⟩ = some (.int .i64 x0) := below_keep hb3 (c1)
        have c10 : w3.cell? ⟨wr.heap.size, 1, none⟩ = some (.int .i64 x1) := below_keep hb3 (c2)
        have c11 : w3.cell? ⟨wr.heap.size, 2, none⟩ = some (.int .i64 x2) := below_keep hb3 (c3)
        have c12 : w3.cell? ⟨wr.heap.size, 3, none⟩ = some (.int .i64 x3) := below_keep hb3 (c4)
        have c13 : w3.cell? ⟨wr.heap.size, 4, none⟩ = some (.int .i64 y0) := below_keep hb3 (c5)
        have c14 : w3.cell? ⟨wr.heap.size, 5, none⟩ = some (.int .i64 y1) := below_keep hb3 (c6)
        have c15 : w3.cell? ⟨wr.heap.size, 6, none⟩ = some (.int .i64 y2) := below_keep hb3 (c7)
        have c16 : w3.cell? ⟨wr.heap.size, 7, none⟩ = some (.int .i64 y3) := below_keep hb3 (c8)
        have H3 := Lib.hid (below_step (H2.out) hb3)
        clear hb3 c1 c2 c3 c4 c5 c6 c7 c8 H2
        go_wp2
        go_roundw
        case rel => exact ⟨k + 1, by omega, by go_num, H3.out⟩
        case measure => simp [RowKit.intOf]; omega
    · go_wp2
      go_ret
      exact ⟨rfl, HB.out⟩

set_option maxRecDepth 100000 in
theorem delayRatios_lifted (os : Os) (started : os.Started) (H : Type) (enc : TypeId × Value → H) :
    ReturnsInHanded {} Try.checked os 4 .any (Rows.delayRatiosSpec.pre6 enc Try.prog Try.f4 [] false) (Rows.delayRatiosSpec.post enc Try.prog Try.f4 false true false false) := by
  refine law_lifted started Try.func4 (by kernel_rfl)
    (ChangeSpec.witness6 (enc := enc) (C := Try.checked) false ⟨#[], #[.agg #[.int .i64 0, .int .i64 0, .int .i64 0, .int .i64 0], .agg #[.int .i64 0, .int .i64 0, .int .i64 0, .int .i64 0]], []⟩ 8 (by kernel_rfl) (by kernel_rfl) (by kernel_rfl) (by kernel_rfl))
    rfl (by kernel_rfl) (by kernel_rfl) (fun ds hd => ?_) ?_
  · rw [Try.params4] at hd
    match ds, hd with
    | [_, _], _ => exact ⟨rfl, rfl, rfl⟩
  · intro W base args ds p hval hA
    rw [Try.params4] at hA hval
    obtain ⟨v0, vs0, d0, ds0, p0, q0, ha0, rfl, rfl, h0, r0⟩ := trodAll_cons hA
    obtain ⟨v1, vs1, d1, ds1, p1, q1, ha1, rfl, rfl, h1, r1⟩ := trodAll_cons r0
    obtain ⟨hz, rfl, rfl⟩ := trodAll_nil r1
    obtain rfl : args = #[v0, v1] := by
      subst hz
      subst ha1
      cases args; simpa using ha0
    obtain ⟨x0_0, x0_1, x0_2, x0_3, rfl⟩ := open_exch (hval 0 23 v0 rfl rfl) h0
    obtain ⟨x1_0, x1_1, x1_2, x1_3, rfl⟩ := open_exch (hval 1 23 v1 rfl rfl) h1
    exact delayRatios_walk x0_0 x0_1 x0_2 x0_3 x1_0 x1_1 x1_2 x1_3 W

theorem delayRatios_holds : Rows.DelayRatiosSaid :=
  OpenClaim.holds_of_wide 4 Try.f4 rfl rfl rfl rfl rfl rfl rfl ⟨rfl, rfl, rfl, rfl, rfl⟩ rfl rfl rfl rfl rfl (by kernel_rfl) Try.func4 (by kernel_rfl)
    (of_decide_eq_true (by kernel_rfl)) (by unfold Func.isWrapper; first | (rw [if_pos (by decide +kernel)]; kernel_rfl) | (rw [if_neg (by decide +kernel)]; exact ⟨rfl, rfl⟩))
    (fun os started H enc _ => delayRatios_lifted os started H enc)
#print axioms delayRatios_holds

end Go.Proofs.Ytpbolnieclbdmaa
