/-
  ClockDrifts: for every input the law returns true, and its arguments read as before. No conditions.
-/
import Derived.Test.YtjdiecinelapeaaClockWorks
import Derived.Test.YtjdiecinelapeaaOpen09
import Derived.Lib.QuietBelow
import Derived.BigQuiet
namespace Go.Proofs.Ytjdiecinelapeaa
open Go.RowKit Go.Lib Plain
open Go.ChangeShapes Go.WideShapes Go.ChangeAt

theorem u64_nonneg (x : Int) : 0 ≤ IntKind.u64.wrap x := by rw [IntKind.wrap_u64]; omega

/-- In n ticks a clock advances by n, up to the bound more or less. -/
theorem drift_law {O P p t n : Int} (h : OkC O P) (hn : 0 ≤ n) (hp : (0 ≤ P ∧ p = P) ∨ (P < 0 ∧ p = -P)) :
    n - -share (-n) p ≤ locV O P (t + n) - locV O P t ∧ locV O P (t + n) - locV O P t ≤ n + -share (-n) p := by
  have e : (t + n) * P = t * P + n * P := Int.add_mul _ _ _
  unfold locV share
  rw [e]
  rcases hp with ⟨k, rfl⟩ | ⟨k, rfl⟩
  · rw [Int.neg_mul]
    have := Int.mul_nonneg hn k
    omega
  · rw [Int.neg_mul_neg]
    have : n * P ≤ 0 := Int.mul_nonpos_of_nonneg_of_nonpos hn (by omega)
    omega

set_option maxHeartbeats 2000000 in
theorem clockDrifts_core (a b at1 long v n : Int) (hv : IntKind.u64.wrap long = v) (hv0 : 0 ≤ v) (hn : v % (1099511627776 - tmV at1 + 1) = n) (n0 : 0 ≤ n) (n1 : n ≤ 1099511627776 - tmV at1) (w : World) :
    Calls Try.prog 7 #[.agg #[.int .i64 a, .int .i32 b], .int .i64 at1, .int .i64 long] w fun y w' => y = .returned (.bool true) ∧ Below w.heap.size w w' := by
  have hok := clockDraft_ok a b
  have ht := tm_tick at1
  go_enter Try.func7, Try.ntmps7
  go_wp2_with fail
  refine (works_any _).mono ?_
  rintro y w1 ⟨rfl, hb1⟩
  have d0 : w1.cell? ⟨w.heap.size, 0, none⟩ = some (.int .i64 a) := below_keep hb1 (by simp [go_sem])
  have d1 : w1.cell? ⟨w.heap.size, 1, none⟩ = some (.int .i32 b) := below_keep hb1 (by simp [go_sem])
  have H1 := Lib.hid (below_step (below_alloc (Below.refl _ _) _) hb1)
  clear hb1
  go_wp2_with fail
  refine (clockDraft_any a b _).mono ?_
  rintro y w2 ⟨rfl, hb2⟩
  have H2 := Lib.hid (below_step H1.out hb2)
  clear hb2 H1 d0 d1
  generalize a.tmod 1099511627777 = O at *
  generalize b.tmod 200001 = P at *
  go_wp2_with fail
  refine (tm_any at1 _).mono ?_
  rintro y w' ⟨rfl, rfl⟩
  generalize tmV at1 = t at *
  have HM := Lib.hid (loc_mono (O := O) (P := P) (x := t) (y := t + n) hok.2.2.1 (by omega))
  have HS := Lib.hid hok
  obtain ⟨k1, k2⟩ := id ht
  have hel : ElOk t n := ⟨ht, ⟨n0, by omega⟩, ⟨by omega, by omega⟩⟩
  obtain ⟨b1, b2, _, _⟩ := loc_bd hok ht
  obtain ⟨b3, b4, _, _⟩ := loc_bd hok hel.2.2
  have E1 : Hid (elV O P t n = locV O P (t + n) - locV O P t) := if_pos ⟨hok, hel⟩
  have E2 : Hid (elE O P t n = 0) := by show elE O P t n = 0; unfold elE; rw [if_pos hok, if_pos hel]
  obtain ⟨_, _, p0, p1⟩ := hok
  have hpp : ∃ p, max P (-P) = p ∧ ((0 ≤ P ∧ p = P) ∨ (P < 0 ∧ p = -P)) := ⟨_, rfl, by omega⟩
  obtain ⟨p, hp, hpc⟩ := hpp
  have hbo : BndOk p n := ⟨by omega, by omega, n0, by omega⟩
  have F1 : Hid (bndV p n = -share (-n) p) := if_pos hbo
  have F2 : Hid (bndE p n = 0) := if_pos hbo
  have HD := drift_law (t := t) HS.out n0 hpc
  obtain ⟨_, _, m1, m2⟩ := part_bd' (x := -n) (p := p) (by omega) (by omega) (by omega) (by omega)
  have HP := Lib.hid hpc
  clear hel ht hbo hpc
  go_wp2_with fail
  refine (elapsed_any O P t n _).mono ?_
  rw [E1.out, E2.out]
  rintro y w3 ⟨rfl, hb3⟩
  have e0 : w3.cell? ⟨w2.heap.size, 0, none⟩ = some (.int .i64 O) := below_keep hb3 (by simp [go_sem])
  have e1 : w3.cell? ⟨w2.heap.size, 1, none⟩ = some (.int .i64 P) := below_keep hb3 (by simp [go_sem])
  have H3 := Lib.hid (below_step (below_alloc H2.out _) hb3)
  clear hb3 H2 E1 E2
  go_wp2_with fail
  refine (cbound_any p n _).mono ?_
  rw [F1.out, F2.out]
  rintro y w4 ⟨rfl, hb4⟩
  have H4 := Lib.hid (below_step H3.out hb4)
  clear hb4 H3 e0 e1 F1 F2
  have HM' := HM.out
  generalize share (-n) p = sh at *
  generalize locV O P (t + n) = q1 at *
  generalize locV O P t = q2 at *
  obtain ⟨g1, g2⟩ := HD
  have g3 : 0 ≤ q1 - q2 := by omega
  go_wp2
  go_ret
  exact ⟨ret_bool (by first | rfl | (simp; omega)), H4.out⟩

theorem clockDrifts_walk (a b at1 long : Int) (w : World) :
    Calls Try.prog 7 #[.agg #[.int .i64 a, .int .i32 b], .int .i64 at1, .int .i64 long] w fun y w' => y = .returned (.bool true) ∧ Below w.heap.size w w' := by
  have h2 := u64_nonneg long
  obtain ⟨v, hv⟩ : ∃ v, IntKind.u64.wrap long = v := ⟨_, rfl⟩
  rw [hv] at h2
  obtain ⟨k1, k2⟩ := tm_tick at1
  obtain ⟨n, hn⟩ : ∃ n, v % (1099511627776 - tmV at1 + 1) = n := ⟨_, rfl⟩
  have e0 := Int.emod_nonneg v (show 1099511627776 - tmV at1 + 1 ≠ 0 by omega)
  have e1 := Int.emod_lt_of_pos v (show 0 < 1099511627776 - tmV at1 + 1 by omega)
  exact clockDrifts_core a b at1 long v n hv h2 hn (by omega) (by omega) w

set_option maxRecDepth 100000 in
theorem clockDrifts_lifted (os : Os) (started : os.Started) (H : Type) (enc : TypeId × Value → H) :
    ReturnsInHanded {} Try.checked os 7 .any (Rows.clockDriftsSpec.pre6 enc Try.prog Try.f7 [] false) (Rows.clockDriftsSpec.post enc Try.prog Try.f7 false true false false) := by
  refine law_lifted started Try.func7 (by kernel_rfl)
    (ChangeSpec.witness6 (enc := enc) (C := Try.checked) false ⟨#[], #[.agg #[.int .i64 0, .int .i32 0], .int .i64 0, .int .i64 0], []⟩ 8 (by kernel_rfl) (by kernel_rfl) (by kernel_rfl) (by kernel_rfl))
    rfl (by kernel_rfl) (by kernel_rfl) (fun ds hd => ?_) ?_
  · rw [Try.params7] at hd
    match ds, hd with
    | [_, _, _], _ => exact ⟨rfl, rfl, rfl⟩
  · intro W base args ds p hval hA
    rw [Try.params7] at hA hval
    obtain ⟨v0, vs0, d0, ds0, p0, q0, ha0, rfl, rfl, h0, r0⟩ := trodAll_cons hA
    obtain ⟨v1, vs1, d1, ds1, p1, q1, ha1, rfl, rfl, h1, r1⟩ := trodAll_cons r0
    obtain ⟨v2, vs2, d2, ds2, p2, q2, ha2, rfl, rfl, h2, r2⟩ := trodAll_cons r1
    obtain ⟨hz, rfl, rfl⟩ := trodAll_nil r2
    obtain rfl : args = #[v0, v1, v2] := by
      subst hz
      subst ha2
      subst ha1
      cases args; simpa using ha0
    obtain ⟨x0_0, x0_1, rfl⟩ := open_draft09 (hval 0 25 v0 rfl rfl) h0
    obtain ⟨x1, rfl, rfl, rfl, w1⟩ := open_int Try.underlying3 (hval 1 3 v1 rfl rfl) h1
    obtain ⟨x2, rfl, rfl, rfl, w2⟩ := open_int Try.underlying3 (hval 2 3 v2 rfl rfl) h2
    exact clockDrifts_walk x0_0 x0_1 x1 x2 W

theorem clockDrifts_holds : Rows.ClockDriftsSaid :=
  OpenClaim.holds_of_wide 7 Try.f7 rfl rfl rfl rfl rfl rfl rfl ⟨rfl, rfl, rfl, rfl, rfl⟩ rfl rfl rfl rfl rfl (by kernel_rfl) Try.func7 (by kernel_rfl)
    (of_decide_eq_true (by kernel_rfl)) (by unfold Func.isWrapper; first | (rw [if_pos (by decide +kernel)]; kernel_rfl) | (rw [if_neg (by decide +kernel)]; exact ⟨rfl, rfl⟩))
    (fun os started H enc _ => clockDrifts_lifted os started H enc)
#print axioms clockDrifts_holds

end Go.Proofs.Ytjdiecinelapeaa
