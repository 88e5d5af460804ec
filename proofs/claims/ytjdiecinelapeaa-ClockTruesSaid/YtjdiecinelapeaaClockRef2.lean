/-
  The walks of the reference of package clock: True, Elapsed, Offset, Drift, Bound.
-/
import Derived.Test.YtjdiecinelapeaaClockRef
import Derived.Test.YtjdiecinelapeaaClockTrue
namespace Go.Proofs.Ytjdiecinelapeaa
open Go.RowKit Go.Lib Plain

set_option maxHeartbeats 1000000 in
theorem trueRef_ok (O P l : Int) (h : OkC O P) (hm : l ≤ locV O P 1099511627776) (w : World) :
    Calls Try.prog 17 #[.agg #[.int .i64 O, .int .i64 P], .int .i64 l] w fun e w' => ∃ r, e = .returned (.tuple #[.int .i64 r, .int .i64 0]) ∧ IsLeast (locV O P) 0 1099511627776 l r ∧ Below w.heap.size w w' := by
  have c : okC O P = true := decide_eq_true h
  have HS := Lib.hid h
  have HM := Lib.hid (fun x y (k : x ≤ y) => loc_mono (O := O) (P := P) h.2.2.1 k)
  clear h
  go_enter Try.func17, Try.ntmps17
  go_wp2_with fail
  refine (clkRight_any O P _).mono ?_
  rintro e w1 ⟨rfl, hb1⟩
  have c0 : w1.cell? ⟨w.heap.size, 0, none⟩ = some (.int .i64 O) := below_keep hb1 (by simp [go_sem])
  have c1 : w1.cell? ⟨w.heap.size, 1, none⟩ = some (.int .i64 P) := below_keep hb1 (by simp [go_sem])
  have H1 := Lib.hid (below_step (below_alloc (Below.refl _ _) _) hb1)
  clear hb1
  go_wp2_with fail
  refine (clkAt_any O P _ HS.out ⟨by omega, by omega⟩ _).mono ?_
  rintro e w2 ⟨rfl, hb2⟩
  have d0 := below_keep hb2 c0
  have d1 := below_keep hb2 c1
  have H2 := Lib.hid (below_step H1.out hb2)
  clear hb2 c0 c1 H1
  go_wp2
  go_loopw [6, 7] (fun lo hi wr => ∃ a b : Int, lo = .int .i64 a ∧ hi = .int .i64 b ∧ -1 ≤ a ∧ Between (locV O P) 0 1099511627776 l (a + 1) b ∧
      wr.cell? ⟨w.heap.size, 0, none⟩ = some (.int .i64 O) ∧ wr.cell? ⟨w.heap.size, 1, none⟩ = some (.int .i64 P) ∧ Below w.heap.size w wr)
    (fun lo hi _ => (RowKit.intOf hi - RowKit.intOf lo).toNat)
  case atStart => exact ⟨_, _, rfl, rfl, by omega, Between.start (by omega) hm, d0, d1, H2.out⟩
  case round =>
    clear d0 d1 H2
    obtain ⟨a, b, rfl, rfl, a0, hbt, e0, e1, hb3⟩ := hrel
    obtain ⟨t1, t2, t3, t4, t5⟩ := id hbt
    clear t4 t5
    have HT := Lib.hid hbt
    have HB := Lib.hid hb3
    clear hbt hb3
    by_cases hlt : 1 < b - a
    · have k1 : a + 1 ≤ a + (b - a) / 2 := by omega
      have k2 : a + (b - a) / 2 < b := by omega
      by_cases hr : l ≤ locV O P (a + (b - a) / 2)
      · go_wp2_with fail
        refine (clkAt_any O P _ HS.out ⟨by omega, by omega⟩ _).mono ?_
        rintro e w3 ⟨rfl, hb4⟩
        have f0 := below_keep hb4 e0
        have f1 := below_keep hb4 e1
        have HB2 := Lib.hid (below_step HB.out hb4)
        clear hb4
        go_wp2
        go_roundw
        case rel => exact ⟨_, _, rfl, rfl, a0, HT.out.hit k1 (by omega) hr, f0, f1, HB2.out⟩
        case measure => simp [RowKit.intOf]; omega
      · have hr' : locV O P (a + (b - a) / 2) < l := by omega
        clear hr
        go_wp2_with fail
        refine (clkAt_any O P _ HS.out ⟨by omega, by omega⟩ _).mono ?_
        rintro e w3 ⟨rfl, hb4⟩
        have f0 := below_keep hb4 e0
        have f1 := below_keep hb4 e1
        have HB2 := Lib.hid (below_step HB.out hb4)
        clear hb4
        go_wp2
        go_roundw
        case rel => exact ⟨_, _, rfl, rfl, by omega, HT.out.miss HM.out k1 k2 hr', f0, f1, HB2.out⟩
        case measure => simp [RowKit.intOf]; omega
    · go_wp2
      go_ret2
      exact ⟨_, rfl, HT.out.done' (by omega), HB.out⟩

theorem trueRef_none (O P l : Int) (h : OkC O P) (hm : locV O P 1099511627776 < l) (w : World) :
    Calls Try.prog 17 #[.agg #[.int .i64 O, .int .i64 P], .int .i64 l] w fun e w' => e = .returned (.tuple #[.int .i64 0, .int .i64 4]) ∧ Below w.heap.size w w' := by
  have c : okC O P = true := decide_eq_true h
  have HS := Lib.hid h
  clear h
  go_enter Try.func17, Try.ntmps17
  go_wp2_with fail
  refine (clkRight_any O P _).mono ?_
  rintro e w1 ⟨rfl, hb1⟩
  have c0 : w1.cell? ⟨w.heap.size, 0, none⟩ = some (.int .i64 O) := below_keep hb1 (by simp [go_sem])
  have c1 : w1.cell? ⟨w.heap.size, 1, none⟩ = some (.int .i64 P) := below_keep hb1 (by simp [go_sem])
  have H1 := Lib.hid (below_step (below_alloc (Below.refl _ _) _) hb1)
  clear hb1
  go_wp2_with fail
  refine (clkAt_any O P _ HS.out ⟨by omega, by omega⟩ _).mono ?_
  rintro e w2 ⟨rfl, hb2⟩
  have H2 := Lib.hid (below_step H1.out hb2)
  clear hb2 c0 c1 H1
  go_wp2
  go_ret2
  exact ⟨rfl, H2.out⟩

theorem trueRef_bad (O P l : Int) (h : ¬ OkC O P) (w : World) :
    Calls Try.prog 17 #[.agg #[.int .i64 O, .int .i64 P], .int .i64 l] w fun e w' => e = .returned (.tuple #[.int .i64 0, .int .i64 190]) ∧ Below w.heap.size w w' := by
  have c : okC O P = false := decide_eq_false h
  clear h
  go_enter Try.func17, Try.ntmps17
  go_wp2_with fail
  refine (clkRight_any O P _).mono ?_
  rintro e w1 ⟨rfl, hb1⟩
  have H1 := Lib.hid (below_step (below_alloc (Below.refl _ _) _) hb1)
  clear hb1
  go_wp2
  go_ret2
  exact ⟨rfl, H1.out⟩

/-- isochronref09.True -/
theorem trueRef_any (O P l : Int) (w : World) :
    Calls Try.prog 17 #[.agg #[.int .i64 O, .int .i64 P], .int .i64 l] w (TruePost O P l w) := by
  by_cases h : OkC O P
  · by_cases hm : l ≤ locV O P 1099511627776
    · exact (trueRef_ok O P l h hm w).mono fun e w' ⟨r, he, hl, hb⟩ => ⟨r, 0, he, .inl ⟨h, hm, hl, rfl⟩, hb⟩
    · exact (trueRef_none O P l h (by omega) w).mono fun e w' ⟨he, hb⟩ => ⟨0, 4, he, .inr (.inl ⟨h, by omega, rfl, rfl⟩), hb⟩
  · exact (trueRef_bad O P l h w).mono fun e w' ⟨he, hb⟩ => ⟨0, 190, he, .inr (.inr ⟨h, rfl, rfl⟩), hb⟩

end Go.Proofs.Ytjdiecinelapeaa
