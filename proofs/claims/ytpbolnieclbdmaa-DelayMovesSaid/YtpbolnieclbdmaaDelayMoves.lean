/-
  DelayMoves: for every input the law returns true, and its arguments read as before. No conditions.
-/
import Derived.Test.YtpbolnieclbdmaaDelayWorks
import Derived.Test.YtpbolnieclbdmaaDelayRef
import Derived.Test.YtpbolnieclbdmaaOpen12
import Derived.Lib.QuietBelow
import Derived.BigQuiet
namespace Go.Proofs.Ytpbolnieclbdmaa
open Go.RowKit Go.Lib Plain
open Go.ChangeShapes Go.WideShapes Go.ChangeAt

theorem u64_nonneg (x : Int) : 0 ≤ IntKind.u64.wrap x := by rw [IntKind.wrap_u64]; omega

theorem mpair_0 : ∀ (a b c d e f g h : Value) (w : World), (Instr.index 31 (.agg #[a, b, c, d, e, f, g, h]) (.int .i64 0)).run Try.prog w = .ok (.agg #[a, b, c, d]) w := fun _ _ _ _ _ _ _ _ _ => by kernel_rfl
theorem mpair_1 : ∀ (a b c d e f g h : Value) (w : World), (Instr.index 31 (.agg #[a, b, c, d, e, f, g, h]) (.int .i64 1)).run Try.prog w = .ok (.agg #[e, f, g, h]) w := fun _ _ _ _ _ _ _ _ _ => by kernel_rfl

set_option maxHeartbeats 8000000 in
set_option maxRecDepth 100000 in
theorem delayMoves_core (a b c d a' b' c' d' own far A B A' B' vc vd vc' vd' C D C' D' : Int) (hA : a.tmod 1099511627776 = A) (hB : b.tmod 1099511627776 = B) (hA' : a'.tmod 1099511627776 = A') (hB' : b'.tmod 1099511627776 = B')
    (hvc : IntKind.u64.wrap c = vc) (hvd : IntKind.u64.wrap d = vd) (hvc' : IntKind.u64.wrap c' = vc') (hvd' : IntKind.u64.wrap d' = vd') (pc : 0 ≤ vc) (pd : 0 ≤ vd) (pc' : 0 ≤ vc') (pd' : 0 ≤ vd')
    (hC : vc % 1099511627776 = C) (hD : vd % 1099511627776 = D) (hC' : vc' % 1099511627776 = C') (hD' : vd' % 1099511627776 = D')
    (k1 : -1099511627776 ≤ A) (k2 : A ≤ 1099511627776) (k3 : -1099511627776 ≤ B) (k4 : B ≤ 1099511627776) (k5 : -1099511627776 ≤ A') (k6 : A' ≤ 1099511627776) (k7 : -1099511627776 ≤ B') (k8 : B' ≤ 1099511627776)
    (o1 : -2147483648 ≤ own) (o2 : own ≤ 2147483647) (f1 : -2147483648 ≤ far) (f2 : far ≤ 2147483647) (w : World) :
    Calls Try.prog 9 #[.agg #[.int .i64 a, .int .i64 b, .int .i64 c, .int .i64 d], .agg #[.int .i64 a', .int .i64 b', .int .i64 c', .int .i64 d'], .int .i32 own, .int .i32 far] w fun y w' => y = .returned (.bool true) ∧ Below w.heap.size w w' := by
  have i0 := mpair_0
  have i1 := mpair_1
  go_enter Try.func9, Try.ntmps9
  go_wp2_with fail
  refine (works_any _).mono ?_
  rintro y w1 ⟨rfl, hb1⟩
  have c1 : w1.cell? ⟨w.heap.size, 0, none⟩ = some (.int .i64 a) := below_keep hb1 (by simp [go_sem])
  have c2 : w1.cell? ⟨w.heap.size, 1, none⟩ = some (.int .i64 b) := below_keep hb1 (by simp [go_sem])
  have c3 : w1.cell? ⟨w.heap.size, 2, none⟩ = some (.int .i64 c) := below_keep hb1 (by simp [go_sem])
  have c4 : w1.cell? ⟨w.heap.size, 3, none⟩ = some (.int .i64 d) := below_keep hb1 (by simp [go_sem])
  have c5 : w1.cell? ⟨w.heap.size + 1, 0, none⟩ = some (.int .i64 a') := below_keep hb1 (by simp [go_sem])
  have c6 : w1.cell? ⟨w.heap.size + 1, 1, none⟩ = some (.int .i64 b') := below_keep hb1 (by simp [go_sem])
  have c7 : w1.cell? ⟨w.heap.size + 1, 2, none⟩ = some (.int .i64 c') := below_keep hb1 (by simp [go_sem])
  have c8 : w1.cell? ⟨w.heap.size + 1, 3, none⟩ = some (.int .i64 d') := below_keep hb1 (by simp [go_sem])
  have H1 := Lib.hid (below_step (below_alloc (below_alloc (Below.refl _ _) _) _) hb1)
  clear hb1
  have hz0 : w.heap.size < w1.heap.size := World.block_lt_of_cell? _ _ c1
  have hz1 : w.heap.size + 1 < w1.heap.size := World.block_lt_of_cell? _ _ c5
  go_wp2
  refine wp_loop_rounds 3 ?_
  rw [rounds_succ]
  go_wp2
  rw [rounds_succ]
  go_wp2
  rw [rounds_succ]

  clear hz0 hz1 c1 c2 c3 c4 c5 c6 c7 c8
  have h1 : OkX A B (B + C) (A + D) := ⟨⟨by omega, by omega⟩, ⟨by omega, by omega⟩, ⟨by omega, by omega⟩, ⟨by omega, by omega⟩, by omega, by omega⟩
  have h2 : OkX A' B' (B' + C') (A' + D') := ⟨⟨by omega, by omega⟩, ⟨by omega, by omega⟩, ⟨by omega, by omega⟩, ⟨by omega, by omega⟩, by omega, by omega⟩
  have h3 : OkX (A + own) (B + far) (B + C + far) (A + D + own) := ⟨⟨by omega, by omega⟩, ⟨by omega, by omega⟩, ⟨by omega, by omega⟩, ⟨by omega, by omega⟩, by omega, by omega⟩
  have h4 : OkX (A' + own) (B' + far) (B' + C' + far) (A' + D' + own) := ⟨⟨by omega, by omega⟩, ⟨by omega, by omega⟩, ⟨by omega, by omega⟩, ⟨by omega, by omega⟩, by omega, by omega⟩
  have e1 : Hid (delV A B (B + C) (A + D) = dlV A B (B + C) (A + D)) := if_pos h1
  have e2 : Hid (xV A B (B + C) (A + D) = 0) := if_pos h1
  have e3 : Hid (delV (A + own) (B + far) (B + C + far) (A + D + own) = dlV A B (B + C) (A + D)) := by show delV _ _ _ _ = _; rw [show delV (A + own) (B + far) (B + C + far) (A + D + own) = dlV (A + own) (B + far) (B + C + far) (A + D + own) from if_pos h3]; unfold dlV; congr 1; omega
  have e4 : Hid (xV (A + own) (B + far) (B + C + far) (A + D + own) = 0) := if_pos h3
  have v1 : Hid (rtV (OkX A B (B + C) (A + D) ∧ OkX A' B' (B' + C') (A' + D')) (A' + D' - (A + D)) (B' + C' - (B + C)) = rtV True (A' + D' - (A + D)) (B' + C' - (B + C))) := by show rtV _ _ _ = _; unfold rtV; rw [if_pos (And.intro h1 h2), if_pos trivial]
  have v2 : Hid (rtV (OkX (A + own) (B + far) (B + C + far) (A + D + own) ∧ OkX (A' + own) (B' + far) (B' + C' + far) (A' + D' + own)) (A' + D' + own - (A + D + own)) (B' + C' + far - (B + C + far)) = rtV True (A' + D' - (A + D)) (B' + C' - (B + C))) := by show rtV _ _ _ = _; rw [show A' + D' + own - (A + D + own) = A' + D' - (A + D) by omega, show B' + C' + far - (B + C + far) = B' + C' - (B + C) by omega]; unfold rtV; rw [if_pos (And.intro h3 h4), if_pos trivial]
  have v3 : Hid (rtE (OkX A B (B + C) (A + D) ∧ OkX A' B' (B' + C') (A' + D')) (A' + D' - (A + D)) (B' + C' - (B + C)) = rtE True (A' + D' - (A + D)) (B' + C' - (B + C))) := by show rtE _ _ _ = _; unfold rtE; rw [if_pos (And.intro h1 h2), if_pos trivial]
  have v4 : Hid (rtE (OkX (A + own) (B + far) (B + C + far) (A + D + own) ∧ OkX (A' + own) (B' + far) (B' + C' + far) (A' + D' + own)) (A' + D' + own - (A + D + own)) (B' + C' + far - (B + C + far)) = rtE True (A' + D' - (A + D)) (B' + C' - (B + C))) := by show rtE _ _ _ = _; rw [show A' + D' + own - (A + D + own) = A' + D' - (A + D) by omega, show B' + C' + far - (B + C + far) = B' + C' - (B + C) by omega]; unfold rtE; rw [if_pos (And.intro h3 h4), if_pos trivial]
  clear h1 h2 h3 h4
  go_wp2_with fail
  refine (delay_any A B (B + C) (A + D) _).mono ?_
  rw [e1.out, e2.out]
  rintro y w2 ⟨rfl, hb2⟩
  have c9 : w2.cell? ⟨w1.heap.size, 0, none⟩ = some (.int .i64 A) := below_keep hb2 (by simp [go_sem])
  have c10 : w2.cell? ⟨w1.heap.size, 1, none⟩ = some (.int .i64 B) := below_keep hb2 (by simp [go_sem])
  have c11 : w2.cell? ⟨w1.heap.size, 2, none⟩ = some (.int .i64 (B + C)) := below_keep hb2 (by simp [go_sem])
  have c12 : w2.cell? ⟨w1.heap.size, 3, none⟩ = some (.int .i64 (A + D)) := below_keep hb2 (by simp [go_sem])
  have c13 : w2.cell? ⟨w1.heap.size, 4, none⟩ = some (.int .i64 A') := below_keep hb2 (by simp [go_sem])
  have c14 : w2.cell? ⟨w1.heap.size, 5, none⟩ = some (.int .i64 B') := below_keep hb2 (by simp [go_sem])
  have c15 : w2.cell? ⟨w1.heap.size, 6, none⟩ = some (.int .i64 (B' + C')) := below_keep hb2 (by simp [go_sem])
  have c16 : w2.cell? ⟨w1.heap.size, 7, none⟩ = some (.int .i64 (A' + D')) := below_keep hb2 (by simp [go_sem])
  have c17 : w2.cell? ⟨w1.heap.size, 8, none⟩ = some (.int .i64 (A + own)) := below_keep hb2 (by simp [go_sem])
  have c18 : w2.cell? ⟨w1.heap.size, 9, none⟩ = some (.int .i64 (B + far)) := below_keep hb2 (by simp [go_sem])
  have c19 : w2.cell? ⟨w1.heap.size, 10, none⟩ = some (.int .i64 (B + C + far)) := below_keep hb2 (by simp [go_sem])
  have c20 : w2.cell? ⟨w1.heap.size, 11, none⟩ = some (.int .i64 (A + D + own)) := below_keep hb2 (by simp [go_sem])
  have c21 : w2.cell? ⟨w1.heap.size, 12, none⟩ = some (.int .i64 (A' + own)) := below_keep hb2 (by simp [go_sem])
  have c22 : w2.cell? ⟨w1.heap.size, 13, none⟩ = some (.int .i64 (B' + far)) := below_keep hb2 (by simp [go_sem])
  have c23 : w2.cell? ⟨w1.heap.size, 14, none⟩ = some (.int .i64 (B' + C' + far)) := below_keep hb2 (by simp [go_sem])
  have c24 : w2.cell? ⟨w1.heap.size, 15, none⟩ = some (.int .i64 (A' + D' + own)) := below_keep hb2 (by simp [go_sem])
  have H2 := Lib.hid (below_step (below_alloc (below_alloc (below_alloc (H1.out) _) _) _) hb2)
  clear hb2 H1
  go_wp2_with fail
  refine (delay_any (A + own) (B + far) (B + C + far) (A + D + own) _).mono ?_
  rw [e3.out, e4.out]
  rintro y w3 ⟨rfl, hb3⟩
  have c25 : w3.cell? ⟨w1.heap.size, 0, none⟩ = some (.int .i64 A) := below_keep hb3 (c9)
  have c26 : w3.cell? ⟨w1.heap.size, 1, none⟩ = some (.int .i64 B) := below_keep hb3 (c10)
  have c27 : w3.cell? ⟨w1.heap.size, 2, none⟩ = some (.int .i64 (B + C)) := below_keep hb3 (c11)
  have c28 : w3.cell? ⟨w1.heap.size, 3, none⟩ = some (.int .i64 (A + D)) := below_keep hb3 (c12)
  have c29 : w3.cell? ⟨w1.heap.size, 4, none⟩ = some (.int .i64 A') := below_keep hb3 (c13)
  have c30 : w3.cell? ⟨w1.heap.size, 5, none⟩ = some (.int .i64 B') := below_keep hb3 (c14)
  have c31 : w3.cell? ⟨w1.heap.size, 6, none⟩ = some (.int .i64 (B' + C')) := below_keep hb3 (c15)
  have c32 : w3.cell? ⟨w1.heap.size, 7, none⟩ = some (.int .i64 (A' + D')) := below_keep hb3 (c16)
  have c33 : w3.cell? ⟨w1.heap.size, 8, none⟩ = some (.int .i64 (A + own)) := below_keep hb3 (c17)
  have c34 : w3.cell? ⟨w1.heap.size, 9, none⟩ = some (.int .i64 (B + far)) := below_keep hb3 (c18)
  have c35 : w3.cell? ⟨w1.heap.size, 10, none⟩ = some (.int .i64 (B + C + far)) := below_keep hb3 (c19)
  have c36 : w3.cell? ⟨w1.heap.size, 11, none⟩ = some (.int .i64 (A + D + own)) := below_keep hb3 (c20)
  have c37 : w3.cell? ⟨w1.heap.size, 12, none⟩ = some (.int .i64 (A' + own)) := below_keep hb3 (c21)
  have c38 : w3.cell? ⟨w1.heap.size, 13, none⟩ = some (.int .i64 (B' + far)) := below_keep hb3 (c22)
  have c39 : w3.cell? ⟨w1.heap.size, 14, none⟩ = some (.int .i64 (B' + C' + far)) := below_keep hb3 (c23)
  have c40 : w3.cell? ⟨w1.heap.size, 15, none⟩ = some (.int .i64 (A' + D' + own)) := below_keep hb3 (c24)
  have H3 := Lib.hid (below_step (H2.out) hb3)
  clear hb3 c9 c10 c11 c12 c13 c14 c15 c16 c17 c18 c19 c20 c21 c22 c23 c24 H2
  go_wp2_with fail
  refine (ratio_any A B (B + C) (A + D) A' B' (B' + C') (A' + D') _).mono ?_
  unfold RtPost
  rw [v1.out, v3.out]
  rintro y w4 ⟨rfl, hb4⟩
  have c41 : w4.cell? ⟨w1.heap.size, 0, none⟩ = some (.int .i64 A) := below_keep hb4 (c25)
  have c42 : w4.cell? ⟨w1.heap.size, 1, none⟩ = some (.int .i64 B) := below_keep hb4 (c26)
  have c43 : w4.cell? ⟨w1.heap.size, 2, none⟩ = some (.int .i64 (B + C)) := below_keep hb4 (c27)
  have c44 : w4.cell? ⟨w1.heap.size, 3, none⟩ = some (.int .i64 (A + D)) := below_keep hb4 (c28)
  have c45 : w4.cell? ⟨w1.heap.size, 4, none⟩ = some (.int .i64 A') := below_keep hb4 (c29)
  have c46 : w4.cell? ⟨w1.heap.size, 5, none⟩ = some (.int .i64 B') := below_keep hb4 (c30)
  have c47 : w4.cell? ⟨w1.heap.size, 6, none⟩ = some (.int .i64 (B' + C')) := below_keep hb4 (c31)
  have c48 : w4.cell? ⟨w1.heap.size, 7, none⟩ = some (.int .i64 (A' + D')) := below_keep hb4 (c32)
  have c49 : w4.cell? ⟨w1.heap.size, 8, none⟩ = some (.int .i64 (A + own)) := below_keep hb4 (c33)
  have c50 : w4.cell? ⟨w1.heap.size, 9, none⟩ = some (.int .i64 (B + far)) := below_keep hb4 (c34)
  have c51 : w4.cell? ⟨w1.heap.size, 10, none⟩ = some (.int .i64 (B + C + far)) := below_keep hb4 (c35)
  have c52 : w4.cell? ⟨w1.heap.size, 11, none⟩ = some (.int .i64 (A + D + own)) := below_keep hb4 (c36)
  have c53 : w4.cell? ⟨w1.heap.size, 12, none⟩ = some (.int .i64 (A' + own)) := below_keep hb4 (c37)
  have c54 : w4.cell? ⟨w1.heap.size, 13, none⟩ = some (.int .i64 (B' + far)) := below_keep hb4 (c38)
  have c55 : w4.cell? ⟨w1.heap.size, 14, none⟩ = some (.int .i64 (B' + C' + far)) := below_keep hb4 (c39)
  have c56 : w4.cell? ⟨w1.heap.size, 15, none⟩ = some (.int .i64 (A' + D' + own)) := below_keep hb4 (c40)
  have H4 := Lib.hid (below_step (H3.out) hb4)
  clear hb4 c25 c26 c27 c28 c29 c30 c31 c32 c33 c34 c35 c36 c37 c38 c39 c40 H3
  go_wp2_with fail
  refine (ratio_any (A + own) (B + far) (B + C + far) (A + D + own) (A' + own) (B' + far) (B' + C' + far) (A' + D' + own) _).mono ?_
  unfold RtPost
  rw [v2.out, v4.out]
  rintro y w5 ⟨rfl, hb5⟩
  have c57 : w5.cell? ⟨w1.heap.size, 0, none⟩ = some (.int .i64 A) := below_keep hb5 (c41)
  have c58 : w5.cell? ⟨w1.heap.size, 1, none⟩ = some (.int .i64 B) := below_keep hb5 (c42)
  have c59 : w5.cell? ⟨w1.heap.size, 2, none⟩ = some (.int .i64 (B + C)) := below_keep hb5 (c43)
  have c60 : w5.cell? ⟨w1.heap.size, 3, none⟩ = some (.int .i64 (A + D)) := below_keep hb5 (c44)
  have c61 : w5.cell? ⟨w1.heap.size, 4, none⟩ = some (.int .i64 A') := below_keep hb5 (c45)
  have c62 : w5.cell? ⟨w1.heap.size, 5, none⟩ = some (.int .i64 B') := below_keep hb5 (c46)
  have c63 : w5.cell? ⟨w1.heap.size, 6, none⟩ = some (.int .i64 (B' + C')) := below_keep hb5 (c47)
  have c64 : w5.cell? ⟨w1.heap.size, 7, none⟩ = some (.int .i64 (A' + D')) := below_keep hb5 (c48)
  have c65 : w5.cell? ⟨w1.heap.size, 8, none⟩ = some (.int .i64 (A + own)) := below_keep hb5 (c49)
  have c66 : w5.cell? ⟨w1.heap.size, 9, none⟩ = some (.int .i64 (B + far)) := below_keep hb5 (c50)
  have c67 : w5.cell? ⟨w1.heap.size, 10, none⟩ = some (.int .i64 (B + C + far)) := below_keep hb5 (c51)
  have c68 : w5.cell? ⟨w1.heap.size, 11, none⟩ = some (.int .i64 (A + D + own)) := below_keep hb5 (c52)
  have c69 : w5.cell? ⟨w1.heap.size, 12, none⟩ = some (.int .i64 (A' + own)) := below_keep hb5 (c53)
  have c70 : w5.cell? ⟨w1.heap.size, 13, none⟩ = some (.int .i64 (B' + far)) := below_keep hb5 (c54)
  have c71 : w5.cell? ⟨w1.heap.size, 14, none⟩ = some (.int .i64 (B' + C' + far)) := below_keep hb5 (c55)
  have c72 : w5.cell? ⟨w1.heap.size, 15, none⟩ = some (.int .i64 (A' + D' + own)) := below_keep hb5 (c56)
  have H5 := Lib.hid (below_step (H4.out) hb5)
  clear hb5 c41 c42 c43 c44 c45 c46 c47 c48 c49 c50 c51 c52 c53 c54 c55 c56 H4
  go_wp2
  go_ret
  exact ⟨ret_bool (by first | rfl | (simp; omega)), H5.out⟩

theorem delayMoves_walk (a b c d a' b' c' d' own : Int) (w1 : (Lit.int .i32 own).wf = true) (far : Int) (w2 : (Lit.int .i32 far).wf = true) (w : World) :
    Calls Try.prog 9 #[.agg #[.int .i64 a, .int .i64 b, .int .i64 c, .int .i64 d], .agg #[.int .i64 a', .int .i64 b', .int .i64 c', .int .i64 d'], .int .i32 own, .int .i32 far] w fun y w' => y = .returned (.bool true) ∧ Below w.heap.size w w' := by
  simp [Lit.wf, IntKind.min, IntKind.max, IntKind.signed, IntKind.bits] at w1 w2
  have ba := ctmod_bd a 1099511627776 (by decide)
  have bb := ctmod_bd b 1099511627776 (by decide)
  have ba' := ctmod_bd a' 1099511627776 (by decide)
  have bb' := ctmod_bd b' 1099511627776 (by decide)
  exact delayMoves_core a b c d a' b' c' d' own far _ _ _ _ _ _ _ _ _ _ _ _ rfl rfl rfl rfl rfl rfl rfl rfl (u64_nonneg _) (u64_nonneg _) (u64_nonneg _) (u64_nonneg _) rfl rfl rfl rfl
    (by omega) (by omega) (by omega) (by omega) (by omega) (by omega) (by omega) (by omega) (by omega) (by omega) (by omega) (by omega) w

set_option maxRecDepth 100000 in
theorem delayMoves_lifted (os : Os) (started : os.Started) (H : Type) (enc : TypeId × Value → H) :
    ReturnsInHanded {} Try.checked os 9 .any (Rows.delayMovesSpec.pre6 enc Try.prog Try.f9 [] false) (Rows.delayMovesSpec.post enc Try.prog Try.f9 false true false false) := by
  refine law_lifted started Try.func9 (by kernel_rfl)
    (ChangeSpec.witness6 (enc := enc) (C := Try.checked) false ⟨#[], #[.agg #[.int .i64 0, .int .i64 0, .int .i64 0, .int .i64 0], .agg #[.int .i64 0, .int .i64 0, .int .i64 0, .int .i64 0], .int .i32 0, .int .i32 0], []⟩ 8 (by kernel_rfl) (by kernel_rfl) (by kernel_rfl) (by kernel_rfl))
    rfl (by kernel_rfl) (by kernel_rfl) (fun ds hd => ?_) ?_
  · rw [Try.params9] at hd
    match ds, hd with
    | [_, _, _, _], _ => exact ⟨rfl, rfl, rfl⟩
  · intro W base args ds p hval hA
    rw [Try.params9] at hA hval
    obtain ⟨v0, vs0, d0, ds0, p0, q0, ha0, rfl, rfl, h0, r0⟩ := trodAll_cons hA
    obtain ⟨v1, vs1, d1, ds1, p1, q1, ha1, rfl, rfl, h1, r1⟩ := trodAll_cons r0
    obtain ⟨v2, vs2, d2, ds2, p2, q2, ha2, rfl, rfl, h2, r2⟩ := trodAll_cons r1
    obtain ⟨v3, vs3, d3, ds3, p3, q3, ha3, rfl, rfl, h3, r3⟩ := trodAll_cons r2
    obtain ⟨hz, rfl, rfl⟩ := trodAll_nil r3
    obtain rfl : args = #[v0, v1, v2, v3] := by
      subst hz
      subst ha3
      subst ha2
      subst ha1
      cases args; simpa using ha0
    obtain ⟨x0_0, x0_1, x0_2, x0_3, rfl⟩ := open_exch (hval 0 23 v0 rfl rfl) h0
    obtain ⟨x1_0, x1_1, x1_2, x1_3, rfl⟩ := open_exch (hval 1 23 v1 rfl rfl) h1
    obtain ⟨x2, rfl, rfl, rfl, w2⟩ := open_int Try.underlying21 (hval 2 21 v2 rfl rfl) h2
    obtain ⟨x3, rfl, rfl, rfl, w3⟩ := open_int Try.underlying21 (hval 3 21 v3 rfl rfl) h3
    exact delayMoves_walk x0_0 x0_1 x0_2 x0_3 x1_0 x1_1 x1_2 x1_3 x2 w2 x3 w3 W

theorem delayMoves_holds : Rows.DelayMovesSaid :=
  OpenClaim.holds_of_wide 9 Try.f9 rfl rfl rfl rfl rfl rfl rfl ⟨rfl, rfl, rfl, rfl, rfl⟩ rfl rfl rfl rfl rfl (by kernel_rfl) Try.func9 (by kernel_rfl)
    (of_decide_eq_true (by kernel_rfl)) (by unfold Func.isWrapper; first | (rw [if_pos (by decide +kernel)]; kernel_rfl) | (rw [if_neg (by decide +kernel)]; exact ⟨rfl, rfl⟩))
    (fun os started H enc _ => delayMoves_lifted os started H enc)
#print axioms delayMoves_holds

end Go.Proofs.Ytpbolnieclbdmaa
