/-
  ClockBack: for every input the law returns true, and its arguments read as before. No conditions.
-/
import Derived.Test.YtjdiecinelapeaaClockWorks
import Derived.Test.YtjdiecinelapeaaOpen09
import Derived.Lib.QuietBelow
import Derived.BigQuiet
namespace Go.Proofs.Ytjdiecinelapeaa
open Go.RowKit Go.Lib Plain
open Go.ChangeShapes Go.WideShapes Go.ChangeAt

theorem least_le {f : Int → Int} {lo hi r l : Int} (h : IsLeast f lo hi (f l) r) (h0 : lo ≤ l) : r ≤ l := by
  obtain ⟨h1, h2, h3, h4⟩ := h
  rcases Int.lt_or_le l r with x | x
  · have := h4 l h0 x; omega
  · exact x

set_option maxHeartbeats 2000000 in
theorem clockBack_walk (a b at1 : Int) (w : World) : Calls Try.prog 6 #[.agg #[.int .i64 a, .int .i32 b], .int .i64 at1] w fun y w' => y = .returned (.bool true) ∧ Below w.heap.size w w' := by
  have hok := clockDraft_ok a b
  have ht := tm_tick at1
  go_enter Try.func6, Try.ntmps6
  go_wp2_with fail
  refine (works_any _).mono ?_
  rintro y w1 ⟨rfl, hb1⟩
  have d0 : w1.cell? ⟨w.heap.size, 0, none⟩ = some (.int .i64 a) := below_keep hb1 (by simp [go_sem])
  have d1 : w1.cell? ⟨w.heap.size, 1, none⟩ = some (.int .i32 b) := below_keep hb1 (by simp [go_sem])
  have H1 := Lib.hid (below_step (below_alloc (Below.refl _ _) _) hb1)
  clear hb1
  go_wp2_with fail
  refine (clockDraft_any a b _).mono ?_
  rintro y w2 ⟨rfl, hb2⟩
  have H2 := Lib.hid (below_step H1.out hb2)
  clear hb2 H1 d0 d1
  generalize a.tmod 1099511627777 = O at *
  generalize b.tmod 200001 = P at *
  go_wp2_with fail
  refine (tm_any at1 _).mono ?_
  rintro y w' ⟨rfl, rfl⟩
  generalize tmV at1 = t at *
  have HS := Lib.hid hok
  have HT := Lib.hid ht
  have HM := Lib.hid (fun x y (k : x ≤ y) => loc_mono (O := O) (P := P) hok.2.2.1 k)
  obtain ⟨k1, k2⟩ := ht
  clear hok
  go_wp2_with fail
  refine (local_ok O P t HS.out HT.out _).mono ?_
  rintro y w3 ⟨rfl, hb3⟩
  have e0 : w3.cell? ⟨w2.heap.size, 0, none⟩ = some (.int .i64 O) := below_keep hb3 (by simp [go_sem])
  have e1 : w3.cell? ⟨w2.heap.size, 1, none⟩ = some (.int .i64 P) := below_keep hb3 (by simp [go_sem])
  have H3 := Lib.hid (below_step (below_alloc H2.out _) hb3)
  clear hb3 H2
  go_wp2_with fail
  refine (true_any O P _ _).mono ?_
  rintro y w4 ⟨q, k, rfl, hw, hb4⟩
  have f0 := below_keep hb4 e0
  have f1 := below_keep hb4 e1
  have H4 := Lib.hid (below_step H3.out hb4)
  clear hb4 H3 e0 e1
  have hw' : IsLeast (locV O P) 0 1099511627776 (locV O P t) q ∧ k = 0 := by
    rcases hw with ⟨_, _, h, h'⟩ | ⟨_, h, _⟩ | ⟨h, _⟩
    · exact ⟨h, h'⟩
    · exact absurd (HM.out t 1099511627776 k2) (by omega)
    · exact absurd HS.out h
  clear hw
  obtain ⟨hw, rfl⟩ := hw'
  have ql := least_le hw k1
  have q0 := hw.1
  have q1 := hw.2.1
  have q2 := hw.2.2.1
  have HW := Lib.hid hw
  clear hw
  go_wp2_with fail
  refine (local_ok O P q HS.out ⟨q0, q1⟩ _).mono ?_
  rintro y w5 ⟨rfl, hb5⟩
  have g0 := below_keep hb5 f0
  have g1 := below_keep hb5 f1
  have H5 := Lib.hid (below_step H4.out hb5)
  clear hb5 H4 f0 f1
  by_cases hq : q = 0
  · subst hq
    go_wp2
    go_ret
    exact ⟨rfl, H5.out⟩
  · have hq' : (q == 0) = false := beq_eq_false_iff_ne.2 hq
    have q3 : 0 ≤ q - 1 := by omega
    have B1 : locV O P (q - 1) < locV O P t := HW.out.2.2.2 (q - 1) q3 (by omega)
    have B2 : locV O P q = locV O P t := by have := HM.out q t ql; omega
    clear hq
    go_wp2_with fail
    refine (local_ok O P (q - 1) HS.out ⟨q3, by omega⟩ _).mono ?_
    rintro y w6 ⟨rfl, hb6⟩
    have H6 := Lib.hid (below_step H5.out hb6)
    clear hb6 H5 g0 g1
    go_wp2
    go_ret
    exact ⟨ret_bool (by first | rfl | simpa using B1 | (simp; omega)), H6.out⟩

set_option maxRecDepth 100000 in
theorem clockBack_lifted (os : Os) (started : os.Started) (H : Type) (enc : TypeId × Value → H) :
    ReturnsInHanded {} Try.checked os 6 .any (Rows.clockBackSpec.pre6 enc Try.prog Try.f6 [] false) (Rows.clockBackSpec.post enc Try.prog Try.f6 false true false false) := by
  refine law_lifted started Try.func6 (by kernel_rfl)
    (ChangeSpec.witness6 (enc := enc) (C := Try.checked) false ⟨#[], #[.agg #[.int .i64 0, .int .i32 0], .int .i64 0], []⟩ 8 (by kernel_rfl) (by kernel_rfl) (by kernel_rfl) (by kernel_rfl))
    rfl (by kernel_rfl) (by kernel_rfl) (fun ds hd => ?_) ?_
  · rw [Try.params6] at hd
    match ds, hd with
    | [_, _], _ => exact ⟨rfl, rfl, rfl⟩
  · intro W base args ds p hval hA
    rw [Try.params6] at hA hval
    obtain ⟨v0, vs0, d0, ds0, p0, q0, ha0, rfl, rfl, h0, r0⟩ := trodAll_cons hA
    obtain ⟨v1, vs1, d1, ds1, p1, q1, ha1, rfl, rfl, h1, r1⟩ := trodAll_cons r0
    obtain ⟨hz, rfl, rfl⟩ := trodAll_nil r1
    obtain rfl : args = #[v0, v1] := by
      subst hz
      subst ha1
      cases args; simpa using ha0
    obtain ⟨x0_0, x0_1, rfl⟩ := open_draft09 (hval 0 25 v0 rfl rfl) h0
    obtain ⟨x1, rfl, rfl, rfl, w1⟩ := open_int Try.underlying3 (hval 1 3 v1 rfl rfl) h1
    exact clockBack_walk x0_0 x0_1 x1 W

theorem clockBack_holds : Rows.ClockBackSaid :=
  OpenClaim.holds_of_wide 6 Try.f6 rfl rfl rfl rfl rfl rfl rfl ⟨rfl, rfl, rfl, rfl, rfl⟩ rfl rfl rfl rfl rfl (by kernel_rfl) Try.func6 (by kernel_rfl)
    (of_decide_eq_true (by kernel_rfl)) (by unfold Func.isWrapper; first | (rw [if_pos (by decide +kernel)]; kernel_rfl) | (rw [if_neg (by decide +kernel)]; exact ⟨rfl, rfl⟩))
    (fun os started H enc _ => clockBack_lifted os started H enc)
#print axioms clockBack_holds

end Go.Proofs.Ytjdiecinelapeaa
