/-
  TimenetLimits: for every input the law returns true, and its arguments read as before. No conditions.
-/
import Derived.Test.YtkencmijghigiaaMOpen15d
import Derived.Test.YtkencmijghigiaaMWrks15
import Derived.Test.YtkencmijghigiaaMRef15
namespace Go.Proofs.Ytkencmijghigiaa
open Go.RowKit Go.Lib Go.Shelf Plain
open Go.ChangeShapes Go.WideShapes Go.ChangeAt

theorem agg_drn15 : ∀ w, (isAgg 27).run Try.prog w = .ok true w := fun w => by kernel_rfl
theorem size_drn15 : ∀ w, (sizeOf 27).run Try.prog w = .ok 8 w := fun w => by kernel_rfl

/-- The arguments are bad. -/
def limBad (n : Nt) (i mi : Int) : Prop := i < 0 ∨ (n.m : Int) ≤ i ∨ mi < 0 ∨ 1099511627776 / n.iv < mi + 1
instance (n : Nt) (i mi : Int) : Decidable (limBad n i mi) := inferInstanceAs (Decidable (_ ∨ _))

set_option maxHeartbeats 16000000 in
set_option maxRecDepth 100000 in
theorem timenetLimits_walk (D : Dr) (hb : D.Bd) (i : Int) (hi : (Lit.int .i64 i).wf = true) (mi : Int) (hmi : (Lit.int .i64 mi).wf = true) (w : World) (hin : D.In w) :
    Calls Try.prog 3 #[.agg D.vs.toArray, .int .i64 i, .int .i64 mi] w fun e w' => e = .returned (.bool true) ∧ Below w.heap.size w w' := by
  have ha := Lib.hid (show ∀ w, (isAgg 32).run Try.prog w = .ok true w from fun w => by kernel_rfl)
  have hs0 := Lib.hid (show ∀ n : Nt, ∀ w, (sizeOf 32).run Try.prog w = .ok n.vs.length w from fun n w => by kernel_rfl)
  have HI := Lib.hid hin
  have HB := Lib.hid hb
  simp [Lit.wf, IntKind.min, IntKind.max, IntKind.signed, IntKind.bits] at hi hmi
  obtain ⟨i0, i1⟩ := hi
  obtain ⟨m0, m1⟩ := hmi
  clear hin hb
  go_enter Try.func3, Try.ntmps3
  rw [D.lit]
  go_wp2_with fail
  refine (works_any _).mono ?_
  rintro y w0 ⟨rfl, hb0⟩
  have HD := Lib.hid ((holds_alloc w D.vs 27 rfl).keep hb0)
  have H0 := Lib.hid (below_step (below_alloc (Below.refl _ _) _) hb0)
  clear hb0
  go_wp2_with ((with_reducible refine at_load 27 (.tmp 3) ?_); refine wpList_load_whole rfl (.tmp 3) 27 rfl w.heap.size 0 D.vs rfl agg_drn15 size_drn15 HD.out ?_; simp only [Act.put, List.setIfInBounds_toArray, List.set_cons_succ, List.set_cons_zero])
  refine (net_any D HB.out _ (HI.out.keep H0.out)).mono ?_
  rintro y w1 ⟨n, par, rfl, hN1, hdn, hb1⟩
  have H1 := Lib.hid (below_step H0.out hb1)
  have HN1 := Lib.hid hN1
  obtain ⟨hok, hbd, hclk, hpar, -, -, -⟩ := hdn
  have hs := Lib.hid (hs0.out n)
  have hv0 := hbd.iv0
  have hv1 := hbd.iv1
  have hm12 := hbd.m12
  have hm1 := hN1.m1
  clear hb1 hN1 H0 HD HI HB hs0
  go_upto_region 4 with ((with_reducible refine at_store 32 (.tmp 7) (.tmp 13) ?_); refine wpList_store_whole rfl (.tmp 7) (.tmp 13) 32 rfl w1.heap.size 0 n.vs rfl rfl hs.out (fun j hj => (holds_alloc w1 zT 32 rfl).some j hj) (fun j _ => frozen_new _ _ _ _ rfl) n.vs_one ?_; intro w2 hw2)
  have M2 := Lib.hid (show Holds w2 w1.heap.size n.vs from hw2.here)
  have H2 := Lib.hid (hw2.below _ _ H1.out.size (below_alloc H1.out _))
  have N2 := Lib.hid (HN1.out.keep (hw2.below _ _ (Nat.le_refl _) (below_alloc (Below.refl w1.heap.size w1) _)))
  clear hw2 H1 HN1
  have hq0 : 0 ≤ 1099511627776 / n.iv := Int.ediv_nonneg (by omega) (by omega)
  have hq1 : 1099511627776 / n.iv ≤ 1099511627776 := Int.ediv_le_self _ (by omega)
  have htd : Int.tdiv 1099511627776 n.iv = 1099511627776 / n.iv := Int.tdiv_eq_ediv_of_nonneg (by omega)
  obtain ⟨q, hq⟩ : ∃ q, 1099511627776 / n.iv = q := ⟨_, rfl⟩
  -- what Bound answers
  obtain ⟨r, e, hre⟩ : ∃ r e : Int, (limBad n i mi ∧ r = 0 ∧ e = 2) ∨ (¬ limBad n i mi ∧ i = 0 ∧ r = 0 ∧ e = 0) ∨ (¬ limBad n i mi ∧ ∃ j : Fin n.m, 0 < j.val ∧ i = (j.val : Int) ∧ r = boundV (errV n par j) ((mi + 1) * n.iv + drV ((mi + 1) * n.iv)) (rhoV n par j) ∧ e = 0) := by
    by_cases hbad : limBad n i mi
    · exact ⟨0, 2, .inl ⟨hbad, rfl, rfl⟩⟩
    · by_cases h0 : i = 0
      · exact ⟨0, 0, .inr (.inl ⟨hbad, h0, rfl, rfl⟩)⟩
      · have hj : i.toNat < n.m := by unfold limBad at hbad; omega
        exact ⟨_, 0, .inr (.inr ⟨hbad, ⟨i.toNat, hj⟩, by show 0 < i.toNat; unfold limBad at hbad; omega, by show i = (i.toNat : Int); unfold limBad at hbad; omega, rfl, rfl⟩)⟩
  have HBo := Lib.hid (fun W (hW : n.In W) => tBound_any n hok hbd par hpar i mi W hW r e (by
    rcases hre with ⟨h1, h2, h3⟩ | ⟨h1, h2, h3, h4⟩ | ⟨h1, j, h2, h3, h4, h5⟩
    · by_cases hr : 0 ≤ i ∧ i < (n.m : Int)
      · refine .inr (.inl ⟨hr, ?_, h2, h3⟩)
        unfold limBad at h1
        rw [hq] at h1 ⊢
        omega
      · exact .inl ⟨hr, h2, h3⟩
    · refine .inr (.inr (.inl ⟨h2, ?_, h3, h4⟩))
      unfold limBad at h1
      omega
    · refine .inr (.inr (.inr ⟨j, h2, h3, ?_, h4, h5⟩))
      unfold limBad at h1
      omega))
  have HRf := Lib.hid (show ∀ W, n.In W → ¬ limBad n i mi → i ≠ 0 → Calls Try.prog 10 #[.agg n.vs.toArray, .int .i64 i, .int .i64 mi] W fun y w' => y = .returned (.int .i64 r) ∧ Below W.heap.size W w' from fun W hW h1 h2 => by
    rcases hre with ⟨h3, _⟩ | ⟨_, h3, _⟩ | ⟨_, j, j0, rfl, rfl, _⟩
    · exact absurd h3 h1
    · exact absurd h3 h2
    · unfold limBad at h1
      exact bound15Ref_any n hbd par hpar j j0 mi (by omega) (span_bd hbd (by omega) (by omega)).2 W hW)
  have he : (limBad n i mi ∧ r = 0 ∧ e = 2) ∨ (¬ limBad n i mi ∧ i = 0 ∧ r = 0 ∧ e = 0) ∨ (¬ limBad n i mi ∧ i ≠ 0 ∧ e = 0) := by
    rcases hre with h | h | ⟨h, j, h2, h3, _, h5⟩
    · exact .inl h
    · exact .inr (.inl h)
    · exact .inr (.inr ⟨h, by omega, h5⟩)
  clear hre hok hbd hclk hpar
  go_wp2_with ((with_reducible refine at_load 32 (.tmp 7) ?_); refine wpList_load_whole rfl (.tmp 7) 32 rfl w1.heap.size 0 n.vs rfl ha.out hs.out M2.out ?_; simp only [Act.put, List.setIfInBounds_toArray, List.set_cons_succ, List.set_cons_zero])
  refine (HBo.out _ N2.out).mono ?_
  rintro y w3 ⟨rfl, hb3⟩
  have M3 := Lib.hid (M2.out.keep hb3)
  have H3 := Lib.hid (below_step H2.out hb3)
  have N3 := Lib.hid (N2.out.keep hb3)
  have k0 : w3.cell? ⟨w1.heap.size, 0, none⟩ = some (.slice (some ⟨n.bc, n.oc, none⟩) n.m n.kc) := M3.out 0 _ rfl
  have k6 : w3.cell? ⟨w1.heap.size, 6, none⟩ = some (.int .i64 n.iv) := M3.out 6 _ rfl
  clear hb3 M2 H2 N2 HBo
  have hvz : ¬ n.iv = 0 := by omega
  have hlb : limBad n i mi ↔ (i < 0 ∨ (n.m : Int) ≤ i ∨ mi < 0 ∨ q < mi + 1) := by unfold limBad; rw [hq]
  rw [hq] at htd hq0 hq1
  obtain ⟨bad, hbad⟩ : ∃ b : Bool, b = decide (limBad n i mi) := ⟨_, rfl⟩
  go_upto_region 5 with fail
  go_cut [21] (fun s21 wx => s21 = .bool bad ∧ wx = w3)
  case first =>
    by_cases c1 : i < 0
    · have hb' : bad = true := by rw [hbad, decide_eq_true_eq, hlb]; omega
      clear hbad hlb he
      go_wp2
      go_meet
      exact ⟨by rw [hb'], rfl⟩
    · by_cases c2 : (n.m : Int) ≤ i
      · have hb' : bad = true := by rw [hbad, decide_eq_true_eq, hlb]; omega
        clear hbad hlb he
        go_wp2
        go_meet
        exact ⟨by rw [hb'], rfl⟩
      · by_cases c3 : mi < 0
        · have hb' : bad = true := by rw [hbad, decide_eq_true_eq, hlb]; omega
          clear hbad hlb he
          go_wp2
          go_meet
          exact ⟨by rw [hb'], rfl⟩
        · by_cases c4 : mi = 9223372036854775807
          · have hb' : bad = true := by rw [hbad, decide_eq_true_eq, hlb]; omega
            have hwr : wrap64 (mi + 1) = -9223372036854775808 := by rw [c4]; unfold wrap64; omega
            have hgt : ¬ q < -9223372036854775808 := by omega
            have hwq : wrap64 q = q := by unfold wrap64; omega
            have cb : (mi == 9223372036854775807) = true := by rw [c4]; rfl
            clear hbad hlb he c4
            go_wp2
            go_meet
            exact ⟨by rw [hb'], rfl⟩
          · have hwr : wrap64 (mi + 1) = mi + 1 := by unfold wrap64; omega
            have hwq : wrap64 q = q := by unfold wrap64; omega
            by_cases c5 : q < mi + 1
            · have hb' : bad = true := by rw [hbad, decide_eq_true_eq, hlb]; omega
              clear hbad hlb he
              go_wp2
              go_meet
              exact ⟨by rw [hb'], rfl⟩
            · have hb' : bad = false := by rw [hbad, decide_eq_false_iff_not, hlb]; omega
              clear hbad hlb he
              go_wp2
              go_meet
              exact ⟨by simp [hb', c4], rfl⟩
  case rest =>
    obtain ⟨rfl, hwc⟩ := hcut
    rw [hwc]
    clear hwc wc k0 k6
    rename_i K' hK'
    refine hK' _ _ ?_
    clear hK' K'
    rcases he with ⟨h1, rfl, rfl⟩ | ⟨h1, rfl, rfl, rfl⟩ | ⟨h1, h2, rfl⟩
    · have hb' : bad = true := by rw [hbad, decide_eq_true_eq]; exact h1
      subst hb'
      clear hbad hlb h1
      go_wp2
      go_ret
      exact ⟨rfl, H3.out⟩
    · have hb' : bad = false := by rw [hbad, decide_eq_false_iff_not]; exact h1
      subst hb'
      clear hbad hlb h1
      go_wp2
      go_ret
      exact ⟨rfl, H3.out⟩
    · have hb' : bad = false := by rw [hbad, decide_eq_false_iff_not]; exact h1
      have HR := Lib.hid (fun W hW => HRf.out W hW h1 h2)
      have h2b : (i == 0) = false := beq_eq_false_iff_ne.2 h2
      subst hb'
      clear hbad hlb h1
      go_wp2_with (refine wpList_load_wanted (by rfl) (.tmp 7) 32 rfl w1.heap.size 0 n.vs rfl ha.out hs.out M3.out ?_)
      refine (HR.out _ N3.out).mono ?_
      rintro y w4 ⟨rfl, hb4⟩
      have H4 := Lib.hid (below_step H3.out hb4)
      go_wp2
      go_ret
      exact ⟨rfl, H4.out⟩

set_option maxRecDepth 100000 in
theorem timenetLimits_lifted (os : Os) (started : os.Started) (H : Type) (enc : TypeId × Value → H) :
    ReturnsInHanded {} Try.checked os 3 .any (Rows.timenetLimitsSpec.pre6 enc Try.prog Try.f3 [] false) (Rows.timenetLimitsSpec.post enc Try.prog Try.f3 false true false false) := by
  refine law_lifted started Try.func3 (by kernel_rfl)
    (ChangeSpec.witness6 (enc := enc) (C := Try.checked) false ⟨#[], #[.agg #[.slice none 0 0, .slice none 0 0, .slice none 0 0, .int .u32 0, .int .u32 0, .int .u32 0, .int .u32 0, .int .u32 0], .int .i64 0, .int .i64 0], []⟩ 8 (by kernel_rfl) (by kernel_rfl) (by kernel_rfl) (by kernel_rfl))
    rfl (by kernel_rfl) (by kernel_rfl) (fun ds hd => ?_) ?_
  · rw [Try.params3] at hd
    match ds, hd with
    | [_, _, _], _ => exact ⟨rfl, rfl, rfl⟩
  · intro W base args ds p hval hA
    rw [Try.params3] at hA hval
    obtain ⟨v0, vs0, d0, ds0, p0, q0, ha0, rfl, rfl, h0, r0⟩ := trodAll_cons hA
    obtain ⟨v1, vs1, d1, ds1, p1, q1, ha1, rfl, rfl, h1, r1⟩ := trodAll_cons r0
    obtain ⟨v2, vs2, d2, ds2, p2, q2, ha2, rfl, rfl, h2, r2⟩ := trodAll_cons r1
    obtain ⟨hz, rfl, rfl⟩ := trodAll_nil r2
    obtain rfl : args = #[v0, v1, v2] := by
      subst hz
      subst ha2
      subst ha1
      cases args; simpa using ha0
    obtain ⟨D, rfl, hDin, hDb⟩ := open_draft15 (hval 0 27 v0 rfl rfl) h0
    obtain ⟨x1, rfl, rfl, rfl, w1⟩ := open_int Try.underlying3 (hval 1 3 v1 rfl rfl) h1
    obtain ⟨x2, rfl, rfl, rfl, w2⟩ := open_int Try.underlying3 (hval 2 3 v2 rfl rfl) h2
    exact timenetLimits_walk D hDb x1 w1 x2 w2 W hDin

theorem timenetLimits_holds : Rows.TimenetLimitsSaid :=
  OpenClaim.holds_of_wide 3 Try.f3 rfl rfl rfl rfl rfl rfl rfl ⟨rfl, rfl, rfl, rfl, rfl⟩ rfl rfl rfl rfl rfl (by kernel_rfl) Try.func3 (by kernel_rfl)
    (of_decide_eq_true (by kernel_rfl)) (by unfold Func.isWrapper; first | (rw [if_pos (by decide +kernel)]; kernel_rfl) | (rw [if_neg (by decide +kernel)]; exact ⟨rfl, rfl⟩))
    (fun os started H enc _ => timenetLimits_lifted os started H enc)
#print axioms timenetLimits_holds

end Go.Proofs.Ytkencmijghigiaa
