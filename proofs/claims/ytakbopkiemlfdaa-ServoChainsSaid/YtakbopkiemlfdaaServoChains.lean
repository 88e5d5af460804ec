/-
  ServoChains: for every input the law returns true, and its arguments read as before. No conditions.
-/
import Derived.Test.YtakbopkiemlfdaaServoBack
namespace Go.Proofs.Ytakbopkiemlfdaa
open Go.RowKit Go.Lib Plain
open Go.ChangeShapes Go.WideShapes Go.ChangeAt

theorem tdiv4_bd (x : Int) (h : -4398046511104 ≤ x) (h' : x ≤ 4398046511104) : -1099511627776 ≤ x.tdiv 4 ∧ x.tdiv 4 ≤ 1099511627776 := by
  rcases Int.le_total 0 x with k | k
  · rw [Int.tdiv_eq_ediv_of_nonneg k]; omega
  · obtain ⟨n, rfl⟩ : ∃ n, x = -n := ⟨-x, by omega⟩
    rw [Int.neg_tdiv, Int.tdiv_eq_ediv_of_nonneg (by omega)]; omega

theorem share_add (x y p : Int) : 0 ≤ share (x + y) p - share x p - share y p ∧ share (x + y) p - share x p - share y p ≤ 1 := by
  unfold share
  rw [Int.add_mul]
  omega

theorem share_bd32 {x p : Int} (h1 : 0 ≤ x) (h2 : x ≤ 8589934590) (h3 : -8388608 ≤ p) (h4 : p ≤ 8388608) : -72057594 - 1 ≤ share x p ∧ share x p ≤ 72057594 := by
  have h := mul_bd (x := x) (p := p) (X := 8589934590) (P := 8388608) (by omega) h2 h3 h4
  unfold share
  omega

set_option maxHeartbeats 2000000 in
theorem servoChains_core (a b c f g L M : Int) (f0 : 0 ≤ f) (f1 : f ≤ 4294967295) (g0 : 0 ≤ g) (g1 : g ≤ 4294967295) (hL : (a.tmod 4398046511105).tdiv 4 = L) (hM : (b.tmod 4398046511105).tdiv 4 = M)
    (L0 : -1099511627776 ≤ L) (L1 : L ≤ 1099511627776) (M0 : -1099511627776 ≤ M) (M1 : M ≤ 1099511627776) (w : World) :
    Calls Try.prog 8 #[.agg #[.int .i64 a, .int .i64 b, .int .i32 c], .int .u32 f, .int .u32 g] w fun y w' => y = .returned (.bool true) ∧ Below w.heap.size w w' := by
  have hok := draft_ok a b c
  go_enter Try.func8, Try.ntmps8
  go_wp2_with fail
  refine (works_any _).mono ?_
  rintro y w1 ⟨rfl, hb1⟩
  have d0 : w1.cell? ⟨w.heap.size, 0, none⟩ = some (.int .i64 a) := below_keep hb1 (by simp [go_sem])
  have d1 : w1.cell? ⟨w.heap.size, 1, none⟩ = some (.int .i64 b) := below_keep hb1 (by simp [go_sem])
  have d2 : w1.cell? ⟨w.heap.size, 2, none⟩ = some (.int .i32 c) := below_keep hb1 (by simp [go_sem])
  have H1 := Lib.hid (below_step (below_alloc (Below.refl _ _) _) hb1)
  clear hb1
  go_wp2_with fail
  refine (draft_any a b c _).mono ?_
  rintro y w2 ⟨rfl, hb2⟩
  have H2 := Lib.hid (below_step H1.out hb2)
  clear hb2 H1 d0 d1 d2
  generalize a.tmod 4398046511105 = L' at *
  generalize b.tmod 4398046511105 = M' at *
  generalize c.tmod 8388609 = P at *
  obtain ⟨_, _, _, _, p5, p6⟩ := hok
  have hS : OkS L M P := ⟨by omega, by omega, by omega, by omega, p5, p6⟩
  have s1 : Stamp (L + f) := ⟨by omega, by omega⟩
  have s2 : Stamp (L + f + g) := ⟨by omega, by omega⟩
  obtain ⟨b1, b2⟩ := share_bd32 (x := f) (p := P) f0 (by omega) p5 p6
  obtain ⟨b3, b4⟩ := share_bd32 (x := g) (p := P) g0 (by omega) p5 p6
  obtain ⟨b5, b6⟩ := share_add f g P
  have v1 : atV L M P (L + f) = M + f + share f P := by unfold atV; rw [show L + f - L = f by omega]
  have v2 : atV L M P (L + f + g) = M + (f + g) + share (f + g) P := by unfold atV; rw [show L + f + g - L = f + g by omega]
  have hX : OkS (L + f) (M + f + share f P) P := ⟨by omega, by omega, by omega, by omega, p5, p6⟩
  have v3 : atV (L + f) (M + f + share f P) P (L + f + g) = M + f + share f P + g + share g P := by unfold atV; rw [show L + f + g - (L + f) = g by omega]
  have E1 : Hid (timeV L M P (L + f) = M + f + share f P) := by show _ = _; rw [← v1]; exact if_pos ⟨hS, s1⟩
  have E2 : Hid (timeE L M P (L + f) = 0) := by show _ = _; unfold timeE; rw [if_pos hS, if_pos s1]
  have E3 : Hid (timeV L M P (L + f + g) = M + (f + g) + share (f + g) P) := by show _ = _; rw [← v2]; exact if_pos ⟨hS, s2⟩
  have E4 : Hid (timeE L M P (L + f + g) = 0) := by show _ = _; unfold timeE; rw [if_pos hS, if_pos s2]
  have E5 : Hid (timeV (L + f) (M + f + share f P) P (L + f + g) = M + f + share f P + g + share g P) := by show _ = _; rw [← v3]; exact if_pos ⟨hX, s2⟩
  have E6 : Hid (timeE (L + f) (M + f + share f P) P (L + f + g) = 0) := by show _ = _; unfold timeE; rw [if_pos hX, if_pos s2]
  have hsy := Lib.hid (sync_ok L M P (L + f) (M + f + share f P) P hS (by omega) hX)
  have v1' := Lib.hid v1
  clear hS s1 s2 hX v1 v2 v3
  go_wp2_with fail
  refine (time_any L M P _ _).mono ?_
  rw [E1.out, E2.out]
  rintro y w3 ⟨rfl, hb3⟩
  have e0 : w3.cell? ⟨w2.heap.size, 0, none⟩ = some (.int .i64 L) := below_keep hb3 (by simp [go_sem])
  have e1 : w3.cell? ⟨w2.heap.size, 1, none⟩ = some (.int .i64 M) := below_keep hb3 (by simp [go_sem])
  have e2 : w3.cell? ⟨w2.heap.size, 2, none⟩ = some (.int .i64 P) := below_keep hb3 (by simp [go_sem])
  have H3 := Lib.hid (below_step (below_alloc H2.out _) hb3)
  clear hb3 H2 E1 E2
  go_wp2_with fail
  refine (hsy.out _).mono ?_
  rw [v1'.out, Int.sub_self]
  rintro y w4 ⟨rfl, hb4⟩
  have f0 := below_keep hb4 e0
  have f1 := below_keep hb4 e1
  have f2 := below_keep hb4 e2
  have z4 := World.block_lt_of_cell? _ _ f0
  have H4 := Lib.hid (below_step H3.out hb4)
  clear hb4 H3 e0 e1 e2 hsy v1'
  go_wp2_with fail
  refine (time_any L M P _ _).mono ?_
  rw [E3.out, E4.out]
  rintro y w5 ⟨rfl, hb5⟩
  have g0 : w5.cell? ⟨w4.heap.size, 0, none⟩ = some (.int .i64 (L + f)) := below_keep hb5 (by simp [go_sem])
  have g1 : w5.cell? ⟨w4.heap.size, 1, none⟩ = some (.int .i64 (M + f + share f P)) := below_keep hb5 (by simp [go_sem])
  have g2 : w5.cell? ⟨w4.heap.size, 2, none⟩ = some (.int .i64 P) := below_keep hb5 (by simp [go_sem])
  have H5 := Lib.hid (below_step (below_alloc H4.out _) hb5)
  clear hb5 H4 f0 f1 f2 E3 E4
  go_wp2_with fail
  refine (time_any _ _ P _ _).mono ?_
  rw [E5.out, E6.out]
  rintro y w6 ⟨rfl, hb6⟩
  have H6 := Lib.hid (below_step H5.out hb6)
  clear hb6 H5 g0 g1 g2 E5 E6
  have k1 : 0 ≤ M + (f + g) + share (f + g) P - (M + f + share f P + g + share g P) := by omega
  have k2 : M + (f + g) + share (f + g) P - (M + f + share f P + g + share g P) ≤ 1 := by omega
  go_wp2
  go_ret
  exact ⟨ret_bool (by first | rfl | (simp; omega)), H6.out⟩

theorem servoChains_walk (a b c f : Int) (wf : (Lit.int .u32 f).wf = true) (g : Int) (wg : (Lit.int .u32 g).wf = true) (w : World) :
    Calls Try.prog 8 #[.agg #[.int .i64 a, .int .i64 b, .int .i32 c], .int .u32 f, .int .u32 g] w fun y w' => y = .returned (.bool true) ∧ Below w.heap.size w w' := by
  simp [Lit.wf, IntKind.min, IntKind.max, IntKind.signed, IntKind.bits] at wf wg
  obtain ⟨h1, h2, h3, h4, _, _⟩ := draft_ok a b c
  obtain ⟨k1, k2⟩ := tdiv4_bd _ h1 h2
  obtain ⟨k3, k4⟩ := tdiv4_bd _ h3 h4
  exact servoChains_core a b c f g _ _ (by omega) (by omega) (by omega) (by omega) rfl rfl k1 k2 k3 k4 w

set_option maxRecDepth 100000 in
theorem servoChains_lifted (os : Os) (started : os.Started) (H : Type) (enc : TypeId × Value → H) :
    ReturnsInHanded {} Try.checked os 8 .any (Rows.servoChainsSpec.pre6 enc Try.prog Try.f8 [] false) (Rows.servoChainsSpec.post enc Try.prog Try.f8 false true false false) := by
  refine law_lifted started Try.func8 (by kernel_rfl)
    (ChangeSpec.witness6 (enc := enc) (C := Try.checked) false ⟨#[], #[.agg #[.int .i64 0, .int .i64 0, .int .i32 0], .int .u32 0, .int .u32 0], []⟩ 8 (by kernel_rfl) (by kernel_rfl) (by kernel_rfl) (by kernel_rfl))
    rfl (by kernel_rfl) (by kernel_rfl) (fun ds hd => ?_) ?_
  · rw [Try.params8] at hd
    match ds, hd with
    | [_, _, _], _ => exact ⟨rfl, rfl, rfl⟩
  · intro W base args ds p hval hA
    rw [Try.params8] at hA hval
    obtain ⟨v0, vs0, d0, ds0, p0, q0, ha0, rfl, rfl, h0, r0⟩ := trodAll_cons hA
    obtain ⟨v1, vs1, d1, ds1, p1, q1, ha1, rfl, rfl, h1, r1⟩ := trodAll_cons r0
    obtain ⟨v2, vs2, d2, ds2, p2, q2, ha2, rfl, rfl, h2, r2⟩ := trodAll_cons r1
    obtain ⟨hz, rfl, rfl⟩ := trodAll_nil r2
    obtain rfl : args = #[v0, v1, v2] := by
      subst hz
      subst ha2
      subst ha1
      cases args; simpa using ha0
    obtain ⟨x0_0, x0_1, x0_2, rfl⟩ := open_draft13 (hval 0 25 v0 rfl rfl) h0
    obtain ⟨x1, rfl, rfl, rfl, w1⟩ := open_int Try.underlying43 (hval 1 43 v1 rfl rfl) h1
    obtain ⟨x2, rfl, rfl, rfl, w2⟩ := open_int Try.underlying43 (hval 2 43 v2 rfl rfl) h2
    exact servoChains_walk x0_0 x0_1 x0_2 x1 w1 x2 w2 W

theorem servoChains_holds : Rows.ServoChainsSaid :=
  OpenClaim.holds_of_wide 8 Try.f8 rfl rfl rfl rfl rfl rfl rfl ⟨rfl, rfl, rfl, rfl, rfl⟩ rfl rfl rfl rfl rfl (by kernel_rfl) Try.func8 (by kernel_rfl)
    (of_decide_eq_true (by kernel_rfl)) (by unfold Func.isWrapper; first | (rw [if_pos (by decide +kernel)]; kernel_rfl) | (rw [if_neg (by decide +kernel)]; exact ⟨rfl, rfl⟩))
    (fun os started H enc _ => servoChains_lifted os started H enc)
#print axioms servoChains_holds

end Go.Proofs.Ytakbopkiemlfdaa
