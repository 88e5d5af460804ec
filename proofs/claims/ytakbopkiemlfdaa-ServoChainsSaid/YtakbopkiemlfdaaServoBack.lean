/-
  ServoBack: for every input the law returns true, and its arguments read as before. No conditions.
-/
import Derived.Test.YtakbopkiemlfdaaServoWorks
import Derived.Test.YtakbopkiemlfdaaServoRef2
import Derived.Test.YtakbopkiemlfdaaOpen13
namespace Go.Proofs.Ytakbopkiemlfdaa
open Go.RowKit Go.Lib Plain
open Go.ChangeShapes Go.WideShapes Go.ChangeAt

theorem draft_ok (a b c : Int) : OkS (a.tmod 4398046511105) (b.tmod 4398046511105) (c.tmod 8388609) := by
  have h1 := tmod_bd a 4398046511105 (by decide)
  have h2 := tmod_bd b 4398046511105 (by decide)
  have h3 := tmod_bd c 8388609 (by decide)
  exact ⟨by omega, by omega, by omega, by omega, by omega, by omega⟩

theorem u64_nonneg (x : Int) : 0 ≤ IntKind.u64.wrap x := by rw [IntKind.wrap_u64]; omega
theorem beq_false {a b : Int} (h : a ≠ b) : (a == b) = false := beq_eq_false_iff_ne.2 h
theorem beq_true {a b : Int} (h : a = b) : (a == b) = true := beq_iff_eq.2 h
theorem least_le {f : Int → Int} {lo hi r l : Int} (h : IsLeast f lo hi (f l) r) (h0 : lo ≤ l) : r ≤ l := by
  obtain ⟨h1, h2, h3, h4⟩ := h
  rcases Int.lt_or_le l r with x | x
  · have := h4 l h0 x; omega
  · exact x

set_option maxHeartbeats 2000000 in
theorem servoBack_core (a b c at1 more u v l r : Int) (hu : IntKind.u64.wrap at1 = u) (hu0 : 0 ≤ u) (hv : IntKind.u64.wrap more = v) (hv0 : 0 ≤ v) (hl : u % 8796093022209 - 4398046511104 = l) (l0 : -4398046511104 ≤ l) (l1 : l ≤ 4398046511104)
    (hr : v % (4398046511104 - l + 1) = r) (r0 : 0 ≤ r) (r1 : r ≤ 4398046511104 - l) (w : World) : Calls Try.prog 7 #[.agg #[.int .i64 a, .int .i64 b, .int .i32 c], .int .i64 at1, .int .i64 more] w fun y w' => y = .returned (.bool true) ∧ Below w.heap.size w w' := by
  have hok := draft_ok a b c
  go_enter Try.func7, Try.ntmps7
  go_wp2_with fail
  refine (works_any _).mono ?_
  rintro y w1 ⟨rfl, hb1⟩
  have d0 : w1.cell? ⟨w.heap.size, 0, none⟩ = some (.int .i64 a) := below_keep hb1 (by simp [go_sem])
  have d1 : w1.cell? ⟨w.heap.size, 1, none⟩ = some (.int .i64 b) := below_keep hb1 (by simp [go_sem])
  have d2 : w1.cell? ⟨w.heap.size, 2, none⟩ = some (.int .i32 c) := below_keep hb1 (by simp [go_sem])
  have H1 := Lib.hid (below_step (below_alloc (Below.refl _ _) _) hb1)
  clear hb1
  go_wp2_with fail
  refine (draft_any a b c _).mono ?_
  rintro y w2 ⟨rfl, hb2⟩
  have H2 := Lib.hid (below_step H1.out hb2)
  clear hb2 H1 d0 d1 d2
  generalize a.tmod 4398046511105 = L at *
  generalize b.tmod 4398046511105 = M at *
  generalize c.tmod 8388609 = P at *
  have HS := Lib.hid hok
  have hP : -1000000000 ≤ P := by obtain ⟨_, _, _, _, h5, _⟩ := hok; omega
  have sl : Stamp l := ⟨l0, l1⟩
  have sr : Stamp (l + r) := ⟨by omega, by omega⟩
  have E1 : timeV L M P l = atV L M P l := if_pos ⟨hok, sl⟩
  have E2 : timeE L M P l = 0 := by unfold timeE; rw [if_pos hok, if_pos sl]
  have E3 : timeV L M P (l + r) = atV L M P (l + r) := if_pos ⟨hok, sr⟩
  have E4 : timeE L M P (l + r) = 0 := by unfold timeE; rw [if_pos hok, if_pos sr]
  have M1 : atV L M P l ≤ atV L M P (l + r) := at_mono (by omega) hP
  have M2 : atV L M P l ≤ atV L M P 4398046511104 := at_mono l1 hP
  have HE1 := Lib.hid E1
  have HE2 := Lib.hid E2
  have HE3 := Lib.hid E3
  have HE4 := Lib.hid E4
  have HM2 := Lib.hid M2
  clear hok sl sr E1 E2 E3 E4 M2
  go_wp2_with fail
  refine (time_any L M P _ _).mono ?_
  rw [HE1.out, HE2.out]
  rintro y w3 ⟨rfl, hb3⟩
  have e0 : w3.cell? ⟨w2.heap.size, 0, none⟩ = some (.int .i64 L) := below_keep hb3 (by simp [go_sem])
  have e1 : w3.cell? ⟨w2.heap.size, 1, none⟩ = some (.int .i64 M) := below_keep hb3 (by simp [go_sem])
  have e2 : w3.cell? ⟨w2.heap.size, 2, none⟩ = some (.int .i64 P) := below_keep hb3 (by simp [go_sem])
  have H3 := Lib.hid (below_step (below_alloc H2.out _) hb3)
  clear hb3 H2 HE1 HE2
  go_wp2_with fail
  refine (time_any L M P _ _).mono ?_
  rw [HE3.out, HE4.out]
  rintro y w4 ⟨rfl, hb4⟩
  have f0 := below_keep hb4 e0
  have f1 := below_keep hb4 e1
  have f2 := below_keep hb4 e2
  have H4 := Lib.hid (below_step H3.out hb4)
  clear hb4 H3 HE3 HE4 e0 e1 e2
  go_wp2_with fail
  refine (when_any L M P _ _).mono ?_
  rintro y w5 ⟨q, k, rfl, hw, hb5⟩
  have g0 := below_keep hb5 f0
  have g1 := below_keep hb5 f1
  have g2 := below_keep hb5 f2
  have H5 := Lib.hid (below_step H4.out hb5)
  clear hb5 H4 f0 f1 f2
  have hw' : IsLeast (atV L M P) (-4398046511104) 4398046511104 (atV L M P l) q ∧ k = 0 := by
    rcases hw with ⟨_, _, h, h'⟩ | ⟨_, h, _⟩ | ⟨h, _⟩
    · exact ⟨h, h'⟩
    · exact absurd HM2.out (by omega)
    · exact absurd HS.out h
  clear hw HM2
  obtain ⟨hw, rfl⟩ := hw'
  have ql := least_le hw l0
  have q0 := hw.1
  have q1 := hw.2.1
  have q2 := hw.2.2.1
  have HW := Lib.hid hw
  clear hw
  have S1 : timeV L M P q = atV L M P q := if_pos ⟨HS.out, q0, q1⟩
  have S2 : timeE L M P q = 0 := by unfold timeE; rw [if_pos HS.out, if_pos ⟨q0, q1⟩]
  have HS1 := Lib.hid S1
  have HS2 := Lib.hid S2
  clear S1 S2
  go_wp2_with fail
  refine (time_any L M P _ _).mono ?_
  rw [HS1.out, HS2.out]
  rintro y w6 ⟨rfl, hb6⟩
  have h0 := below_keep hb6 g0
  have h1 := below_keep hb6 g1
  have h2 := below_keep hb6 g2
  have H6 := Lib.hid (below_step H5.out hb6)
  clear hb6 H5 g0 g1 g2 HS1 HS2
  by_cases hq : q = -4398046511104
  · subst hq
    go_wp2
    go_ret
    exact ⟨rfl, H6.out⟩
  · have hq' := beq_false hq
    have q3 : -4398046511104 ≤ q - 1 := by omega
    have B1 : atV L M P (q - 1) < atV L M P l := HW.out.2.2.2 (q - 1) q3 (by omega)
    have S1 : timeV L M P (q - 1) = atV L M P (q - 1) := if_pos ⟨HS.out, q3, by omega⟩
    have S2 : timeE L M P (q - 1) = 0 := by unfold timeE; rw [if_pos HS.out, if_pos ⟨q3, by omega⟩]
    have HS1 := Lib.hid S1
    have HS2 := Lib.hid S2
    clear S1 S2 hq
    go_wp2_with fail
    refine (time_any L M P _ _).mono ?_
    rw [HS1.out, HS2.out]
    rintro y w7 ⟨rfl, hb7⟩
    have H7 := Lib.hid (below_step H6.out hb7)
    clear hb7 H6 h0 h1 h2 HS1 HS2
    go_wp2
    go_ret
    exact ⟨ret_bool (by first | rfl | simpa using B1), H7.out⟩

theorem servoBack_walk (a b c at1 more : Int) (w : World) : Calls Try.prog 7 #[.agg #[.int .i64 a, .int .i64 b, .int .i32 c], .int .i64 at1, .int .i64 more] w fun y w' => y = .returned (.bool true) ∧ Below w.heap.size w w' := by
  have h1 := u64_nonneg at1
  have h2 := u64_nonneg more
  obtain ⟨u, hu⟩ : ∃ u, IntKind.u64.wrap at1 = u := ⟨_, rfl⟩
  obtain ⟨v, hv⟩ : ∃ v, IntKind.u64.wrap more = v := ⟨_, rfl⟩
  rw [hu] at h1
  rw [hv] at h2
  obtain ⟨l, hl⟩ : ∃ l, u % 8796093022209 - 4398046511104 = l := ⟨_, rfl⟩
  obtain ⟨r, hr⟩ : ∃ r, v % (4398046511104 - l + 1) = r := ⟨_, rfl⟩
  have e0 := Int.emod_nonneg v (show 4398046511104 - l + 1 ≠ 0 by omega)
  have e1 := Int.emod_lt_of_pos v (show 0 < 4398046511104 - l + 1 by omega)
  exact servoBack_core a b c at1 more u v l r hu h1 hv h2 hl (by omega) (by omega) hr (by omega) (by omega) w

set_option maxRecDepth 100000 in
theorem servoBack_lifted (os : Os) (started : os.Started) (H : Type) (enc : TypeId × Value → H) :
    ReturnsInHanded {} Try.checked os 7 .any (Rows.servoBackSpec.pre6 enc Try.prog Try.f7 [] false) (Rows.servoBackSpec.post enc Try.prog Try.f7 false true false false) := by
  refine law_lifted started Try.func7 (by kernel_rfl)
    (ChangeSpec.witness6 (enc := enc) (C := Try.checked) false ⟨#[], #[.agg #[.int .i64 0, .int .i64 0, .int .i32 0], .int .i64 0, .int .i64 0], []⟩ 8 (by kernel_rfl) (by kernel_rfl) (by kernel_rfl) (by kernel_rfl))
    rfl (by kernel_rfl) (by kernel_rfl) (fun ds hd => ?_) ?_
  · rw [Try.params7] at hd
    match ds, hd with
    | [_, _, _], _ => exact ⟨rfl, rfl, rfl⟩
  · intro W base args ds p hval hA
    rw [Try.params7] at hA hval
    obtain ⟨v0, vs0, d0, ds0, p0, q0, ha0, rfl, rfl, h0, r0⟩ := trodAll_cons hA
    obtain ⟨v1, vs1, d1, ds1, p1, q1, ha1, rfl, rfl, h1, r1⟩ := trodAll_cons r0
    obtain ⟨v2, vs2, d2, ds2, p2, q2, ha2, rfl, rfl, h2, r2⟩ := trodAll_cons r1
    obtain ⟨hz, rfl, rfl⟩ := trodAll_nil r2
    obtain rfl : args = #[v0, v1, v2] := by
      subst hz
      subst ha2
      subst ha1
      cases args; simpa using ha0
    obtain ⟨x0_0, x0_1, x0_2, rfl⟩ := open_draft13 (hval 0 25 v0 rfl rfl) h0
    obtain ⟨x1, rfl, rfl, rfl, w1⟩ := open_int Try.underlying3 (hval 1 3 v1 rfl rfl) h1
    obtain ⟨x2, rfl, rfl, rfl, w2⟩ := open_int Try.underlying3 (hval 2 3 v2 rfl rfl) h2
    exact servoBack_walk x0_0 x0_1 x0_2 x1 x2 W

theorem servoBack_holds : Rows.ServoBackSaid :=
  OpenClaim.holds_of_wide 7 Try.f7 rfl rfl rfl rfl rfl rfl rfl ⟨rfl, rfl, rfl, rfl, rfl⟩ rfl rfl rfl rfl rfl (by kernel_rfl) Try.func7 (by kernel_rfl)
    (of_decide_eq_true (by kernel_rfl)) (by unfold Func.isWrapper; first | (rw [if_pos (by decide +kernel)]; kernel_rfl) | (rw [if_neg (by decide +kernel)]; exact ⟨rfl, rfl⟩))
    (fun os started H enc _ => servoBack_lifted os started H enc)
#print axioms servoBack_holds

end Go.Proofs.Ytakbopkiemlfdaa
