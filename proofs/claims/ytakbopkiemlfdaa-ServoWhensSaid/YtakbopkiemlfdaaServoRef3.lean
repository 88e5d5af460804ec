/-
  The walks of the reference's When and Sync.
-/
import Derived.Test.YtakbopkiemlfdaaServoRef2
import Derived.Lib.QuietBelow
import Derived.BigQuiet
namespace Go.Proofs.Ytakbopkiemlfdaa
open Go.RowKit Go.Lib Plain

set_option maxHeartbeats 1000000 in
theorem whenRef_ok (L M P m : Int) (h : OkS L M P) (hm : m ≤ atV L M P 4398046511104) (w : World) :
    Calls Try.prog 18 #[.agg #[.int .i64 L, .int .i64 M, .int .i64 P], .int .i64 m] w (WhenOk L M P m w) := by
  have c : okS L M P = true := decide_eq_true h
  have HS := Lib.hid h
  have HM := Lib.hid (fun x y (k : x ≤ y) => at_mono (L := L) (M := M) (P := P) k (by obtain ⟨_, _, _, _, h5, _⟩ := h; omega))
  clear h
  go_enter Try.func18, Try.ntmps18
  go_wp2_with fail
  refine (right_any L M P _).mono ?_
  rintro e w1 ⟨rfl, hb1⟩
  have c0 : w1.cell? ⟨w.heap.size, 0, none⟩ = some (.int .i64 L) := below_keep hb1 (by simp [go_sem])
  have c1 : w1.cell? ⟨w.heap.size, 1, none⟩ = some (.int .i64 M) := below_keep hb1 (by simp [go_sem])
  have c2 : w1.cell? ⟨w.heap.size, 2, none⟩ = some (.int .i64 P) := below_keep hb1 (by simp [go_sem])
  have H1 := Lib.hid (below_step (below_alloc (Below.refl _ _) _) hb1)
  clear hb1
  go_wp2_with fail
  refine (atRef_any L M P _ HS.out ⟨by omega, by omega⟩ _).mono ?_
  rintro e w2 ⟨rfl, hb2⟩
  have d0 := below_keep hb2 c0
  have d1 := below_keep hb2 c1
  have d2 := below_keep hb2 c2
  have H2 := Lib.hid (below_step H1.out hb2)
  clear hb2 c0 c1 c2 H1
  go_wp2
  go_loopw [6, 7] (fun lo hi wr => ∃ a b : Int, lo = .int .i64 a ∧ hi = .int .i64 b ∧ Between (atV L M P) (-4398046511104) 4398046511104 m (a + 1) b ∧
      wr.cell? ⟨w.heap.size, 0, none⟩ = some (.int .i64 L) ∧ wr.cell? ⟨w.heap.size, 1, none⟩ = some (.int .i64 M) ∧ wr.cell? ⟨w.heap.size, 2, none⟩ = some (.int .i64 P) ∧ Below w.heap.size w wr)
    (fun lo hi _ => (RowKit.intOf hi - RowKit.intOf lo).toNat)
  case atStart => exact ⟨_, _, rfl, rfl, Between.start (by omega) hm, d0, d1, d2, H2.out⟩
  case round =>
    clear d0 d1 d2 H2
    obtain ⟨a, b, rfl, rfl, hbt, e0, e1, e2, hb3⟩ := hrel
    obtain ⟨t1, t2, t3, t4, t5⟩ := id hbt
    clear t4 t5
    have HT := Lib.hid hbt
    have HB := Lib.hid hb3
    clear hbt hb3
    by_cases hlt : 1 < b - a
    · have k1 : a + 1 ≤ a + (b - a) / 2 := by omega
      have k2 : a + (b - a) / 2 < b := by omega
      by_cases hr : m ≤ atV L M P (a + (b - a) / 2)
      · go_wp2_with fail
        refine (atRef_any L M P _ HS.out ⟨by omega, by omega⟩ _).mono ?_
        rintro e w3 ⟨rfl, hb4⟩
        have f0 := below_keep hb4 e0
        have f1 := below_keep hb4 e1
        have f2 := below_keep hb4 e2
        have HB2 := Lib.hid (below_step HB.out hb4)
        clear hb4
        go_wp2
        go_roundw
        case rel => exact ⟨_, _, rfl, rfl, HT.out.hit k1 (by omega) hr, f0, f1, f2, HB2.out⟩
        case measure => simp [RowKit.intOf]; omega
      · have hr' : atV L M P (a + (b - a) / 2) < m := by omega
        clear hr
        go_wp2_with fail
        refine (atRef_any L M P _ HS.out ⟨by omega, by omega⟩ _).mono ?_
        rintro e w3 ⟨rfl, hb4⟩
        have f0 := below_keep hb4 e0
        have f1 := below_keep hb4 e1
        have f2 := below_keep hb4 e2
        have HB2 := Lib.hid (below_step HB.out hb4)
        clear hb4
        go_wp2
        go_roundw
        case rel => exact ⟨_, _, rfl, rfl, HT.out.miss HM.out k1 k2 hr', f0, f1, f2, HB2.out⟩
        case measure => simp [RowKit.intOf]; omega
    · go_wp2
      go_ret2
      exact ⟨_, rfl, HT.out.done' (by omega), HB.out⟩

theorem whenRef_none (L M P m : Int) (h : OkS L M P) (hm : atV L M P 4398046511104 < m) (w : World) :
    Calls Try.prog 18 #[.agg #[.int .i64 L, .int .i64 M, .int .i64 P], .int .i64 m] w fun e w' => e = .returned (.tuple #[.int .i64 0, .int .i64 4]) ∧ Below w.heap.size w w' := by
  have c : okS L M P = true := decide_eq_true h
  have HS := Lib.hid h
  clear h
  go_enter Try.func18, Try.ntmps18
  go_wp2_with fail
  refine (right_any L M P _).mono ?_
  rintro e w1 ⟨rfl, hb1⟩
  have c0 : w1.cell? ⟨w.heap.size, 0, none⟩ = some (.int .i64 L) := below_keep hb1 (by simp [go_sem])
  have c1 : w1.cell? ⟨w.heap.size, 1, none⟩ = some (.int .i64 M) := below_keep hb1 (by simp [go_sem])
  have c2 : w1.cell? ⟨w.heap.size, 2, none⟩ = some (.int .i64 P) := below_keep hb1 (by simp [go_sem])
  have H1 := Lib.hid (below_step (below_alloc (Below.refl _ _) _) hb1)
  clear hb1
  go_wp2_with fail
  refine (atRef_any L M P _ HS.out ⟨by omega, by omega⟩ _).mono ?_
  rintro e w2 ⟨rfl, hb2⟩
  have H2 := Lib.hid (below_step H1.out hb2)
  clear hb2 c0 c1 c2 H1
  go_wp2
  go_ret2
  exact ⟨rfl, H2.out⟩

theorem whenRef_bad (L M P m : Int) (h : ¬ OkS L M P) (w : World) :
    Calls Try.prog 18 #[.agg #[.int .i64 L, .int .i64 M, .int .i64 P], .int .i64 m] w fun e w' => e = .returned (.tuple #[.int .i64 0, .int .i64 230]) ∧ Below w.heap.size w w' := by
  have c : okS L M P = false := decide_eq_false h
  clear h
  go_enter Try.func18, Try.ntmps18
  go_wp2_with fail
  refine (right_any L M P _).mono ?_
  rintro e w1 ⟨rfl, hb1⟩
  have H1 := Lib.hid (below_step (below_alloc (Below.refl _ _) _) hb1)
  clear hb1
  go_wp2
  go_ret2
  exact ⟨rfl, H1.out⟩

/-- isochronref13.When -/
theorem whenRef_any (L M P m : Int) (w : World) :
    Calls Try.prog 18 #[.agg #[.int .i64 L, .int .i64 M, .int .i64 P], .int .i64 m] w (WhenPost L M P m w) := by
  by_cases h : OkS L M P
  · by_cases hm : m ≤ atV L M P 4398046511104
    · exact (whenRef_ok L M P m h hm w).mono fun e w' ⟨r, he, hl, hb⟩ => ⟨r, 0, he, .inl ⟨h, hm, hl, rfl⟩, hb⟩
    · exact (whenRef_none L M P m h (by omega) w).mono fun e w' ⟨he, hb⟩ => ⟨0, 4, he, .inr (.inl ⟨h, by omega, rfl, rfl⟩), hb⟩
  · exact (whenRef_bad L M P m h w).mono fun e w' ⟨he, hb⟩ => ⟨0, 230, he, .inr (.inr ⟨h, rfl, rfl⟩), hb⟩

end Go.Proofs.Ytakbopkiemlfdaa
