/-
  The walks of servo.When and of its closure.
-/
import Derived.Test.YtakbopkiemlfdaaServo
namespace Go.Proofs.Ytakbopkiemlfdaa
open Go.RowKit Go.Lib Plain

/-- servo.When's closure 'reached' -/
theorem reached_any (L M P m l : Int) (h : OkS L M P) (hl : Stamp l) (bt bm : Nat) (w : World)
    (h1 : w.cell? ⟨bt, 0, none⟩ = some (.func (.func 26) #[.agg #[.int .i64 L, .int .i64 M, .int .i64 P]] #[])) (h2 : w.cell? ⟨bm, 0, none⟩ = some (.int .i64 m)) :
    Calls Try.prog 29 #[.int .i64 l, .pointer (some ⟨bt, 0, none⟩), .pointer (some ⟨bm, 0, none⟩)] w fun e w' => e = .returned (.bool (decide (m ≤ atV L M P l))) ∧ Below w.heap.size w w' := by
  have HS := Lib.hid h
  have HL := Lib.hid hl
  clear h hl
  go_enter Try.func29, Try.ntmps29
  go_wp2
  go_region_held3 (fun w' => w'.cell? ⟨bt, 0, none⟩ = some (.func (.func 26) #[.agg #[.int .i64 L, .int .i64 M, .int .i64 P]] #[]) ∧ w'.cell? ⟨bm, 0, none⟩ = some (.int .i64 m))
    (first | (go_keep; done) | (refine ⟨below_keep (by assumption) ?_, below_keep (by assumption) ?_⟩ <;> go_keep))
    (first | (go_at_call 26; refine (at_any L M P l HS.out HL.out _).mono ?_; rintro e w1 ⟨rfl, hb1⟩))
  go_wp2
  go_ret
  exact ⟨rfl, below_step (Below.refl _ _).drew hb1⟩

/-- What servo.When answers where m is reached. -/
def WhenOk (L M P m : Int) (w : World) (e : Ending) (w' : World) : Prop := ∃ r, e = .returned (.tuple #[.int .i64 r, .int .i64 0]) ∧ IsLeast (atV L M P) (-4398046511104) 4398046511104 m r ∧ Below w.heap.size w w'

set_option maxHeartbeats 1000000 in
theorem when_ok (L M P m : Int) (h : OkS L M P) (hm : m ≤ atV L M P 4398046511104) (w : World) :
    Calls Try.prog 17 #[.agg #[.int .i64 L, .int .i64 M, .int .i64 P], .int .i64 m] w (WhenOk L M P m w) := by
  have c : chkV L M P = 0 := if_pos h
  have HS := Lib.hid h
  have HM := Lib.hid (fun x y (k : x ≤ y) => at_mono (L := L) (M := M) (P := P) k (by obtain ⟨_, _, _, _, h5, _⟩ := h; omega))
  clear h
  go_enter Try.func17, Try.ntmps17
  go_wp2_with fail
  refine (check_any L M P _).mono ?_
  rintro e w1 ⟨rfl, hb1⟩
  have hz : w.heap.size + 1 < w1.heap.size := by have := hb1.size; simp at this; omega
  have c1 : w1.cell? ⟨w.heap.size + 1, 0, none⟩ = some (.int .i64 m) := by rw [(bcell hb1).1 _ _ (by simp)]; simp [go_sem]
  have c0 : w1.cell? ⟨w.heap.size, 0, none⟩ = some (.int .i64 L) := by rw [(bcell hb1).1 _ _ (by simp; omega)]; simp [go_sem]
  have c0' : w1.cell? ⟨w.heap.size, 1, none⟩ = some (.int .i64 M) := by rw [(bcell hb1).1 _ _ (by simp; omega)]; simp [go_sem]
  have c0'' : w1.cell? ⟨w.heap.size, 2, none⟩ = some (.int .i64 P) := by rw [(bcell hb1).1 _ _ (by simp; omega)]; simp [go_sem]
  have hb : Below w.heap.size w w1 := below_step (below_alloc (below_alloc (Below.refl _ _) _) _) hb1
  clear hb1
  have HB := Lib.hid hb
  clear hb
  go_wp2_with fail
  have d1 : (w1.alloc (.cells #[.func (.func 26) #[.agg #[.int .i64 L, .int .i64 M, .int .i64 P]] #[]] 58)).cell? ⟨w.heap.size + 1, 0, none⟩ = some (.int .i64 m) := by
    rw [World.cell?_alloc_lt _ _ _ hz]; exact c1
  refine (reached_any L M P m _ HS.out ⟨by omega, by omega⟩ _ _ _ (by simp [go_sem]) d1).mono ?_
  rintro e w2 ⟨rfl, hb2⟩
  have e1 : w2.cell? ⟨w1.heap.size, 0, none⟩ = some (.func (.func 26) #[.agg #[.int .i64 L, .int .i64 M, .int .i64 P]] #[]) := below_keep hb2 (by simp [go_sem])
  have e2 : w2.cell? ⟨w.heap.size + 1, 0, none⟩ = some (.int .i64 m) := below_keep hb2 d1
  have hb3 : Below w.heap.size w w2 := below_step (below_alloc HB.out _) hb2
  clear hb2 d1 c0 c0' c0'' c1 HB
  go_wp2
  go_loopw [9, 10] (fun lo hi wr => ∃ a b : Int, lo = .int .i64 a ∧ hi = .int .i64 b ∧ Between (atV L M P) (-4398046511104) 4398046511104 m a b ∧
      wr.cell? ⟨w1.heap.size, 0, none⟩ = some (.func (.func 26) #[.agg #[.int .i64 L, .int .i64 M, .int .i64 P]] #[]) ∧ wr.cell? ⟨w.heap.size + 1, 0, none⟩ = some (.int .i64 m) ∧ Below w.heap.size w wr)
    (fun lo hi _ => (RowKit.intOf hi - RowKit.intOf lo).toNat)
  case atStart => exact ⟨_, _, rfl, rfl, Between.start (by omega) hm, e1, e2, hb3⟩
  case round =>
    clear e1 e2 hb3
    obtain ⟨a, b, rfl, rfl, hbt, e1, e2, hb3⟩ := hrel
    obtain ⟨t1, t2, t3, t4, t5⟩ := id hbt
    clear t4 t5
    have HT := Lib.hid hbt
    have HB := Lib.hid hb3
    clear hbt hb3
    by_cases hlt : a < b
    · have k1 : a ≤ a + (b - a) / 2 := by omega
      have k2 : a + (b - a) / 2 < b := by omega
      by_cases hr : m ≤ atV L M P (a + (b - a) / 2)
      · go_wp2_with fail
        refine (reached_any L M P m _ HS.out ⟨by omega, by omega⟩ _ _ _ e1 e2).mono ?_
        rintro e w3 ⟨rfl, hb4⟩
        have f1 := below_keep hb4 e1
        have f2 := below_keep hb4 e2
        have HB2 := Lib.hid (below_step HB.out hb4)
        clear hb4
        go_wp2
        go_roundw
        case rel => exact ⟨_, _, rfl, rfl, HT.out.hit k1 (by omega) hr, f1, f2, HB2.out⟩
        case measure => simp [RowKit.intOf]; omega
      · have hr' : atV L M P (a + (b - a) / 2) < m := by omega
        clear hr
        go_wp2_with fail
        refine (reached_any L M P m _ HS.out ⟨by omega, by omega⟩ _ _ _ e1 e2).mono ?_
        rintro e w3 ⟨rfl, hb4⟩
        have f1 := below_keep hb4 e1
        have f2 := below_keep hb4 e2
        have HB2 := Lib.hid (below_step HB.out hb4)
        clear hb4
        go_wp2
        go_roundw
        case rel => exact ⟨_, _, rfl, rfl, HT.out.miss HM.out k1 k2 hr', f1, f2, HB2.out⟩
        case measure => simp [RowKit.intOf]; omega
    · obtain rfl : a = b := by omega
      go_wp2
      go_ret2
      exact ⟨_, rfl, HT.out.done, HB.out⟩

theorem when_none (L M P m : Int) (h : OkS L M P) (hm : atV L M P 4398046511104 < m) (w : World) :
    Calls Try.prog 17 #[.agg #[.int .i64 L, .int .i64 M, .int .i64 P], .int .i64 m] w fun e w' => e = .returned (.tuple #[.int .i64 0, .int .i64 4]) ∧ Below w.heap.size w w' := by
  have c : chkV L M P = 0 := if_pos h
  have hm' : decide (m ≤ atV L M P 4398046511104) = false := by simpa using hm
  have HS := Lib.hid h
  clear h
  go_enter Try.func17, Try.ntmps17
  go_wp2_with fail
  refine (check_any L M P _).mono ?_
  rintro e w1 ⟨rfl, hb1⟩
  have hz : w.heap.size + 1 < w1.heap.size := by have := hb1.size; simp at this; omega
  have c1 : w1.cell? ⟨w.heap.size + 1, 0, none⟩ = some (.int .i64 m) := by rw [(bcell hb1).1 _ _ (by simp)]; simp [go_sem]
  have c0 : w1.cell? ⟨w.heap.size, 0, none⟩ = some (.int .i64 L) := by rw [(bcell hb1).1 _ _ (by simp; omega)]; simp [go_sem]
  have c0' : w1.cell? ⟨w.heap.size, 1, none⟩ = some (.int .i64 M) := by rw [(bcell hb1).1 _ _ (by simp; omega)]; simp [go_sem]
  have c0'' : w1.cell? ⟨w.heap.size, 2, none⟩ = some (.int .i64 P) := by rw [(bcell hb1).1 _ _ (by simp; omega)]; simp [go_sem]
  have hb : Below w.heap.size w w1 := below_step (below_alloc (below_alloc (Below.refl _ _) _) _) hb1
  clear hb1
  have HB := Lib.hid hb
  clear hb
  go_wp2_with fail
  have d1 : (w1.alloc (.cells #[.func (.func 26) #[.agg #[.int .i64 L, .int .i64 M, .int .i64 P]] #[]] 58)).cell? ⟨w.heap.size + 1, 0, none⟩ = some (.int .i64 m) := by
    rw [World.cell?_alloc_lt _ _ _ hz]; exact c1
  refine (reached_any L M P m _ HS.out ⟨by omega, by omega⟩ _ _ _ (by simp [go_sem]) d1).mono ?_
  rintro e w2 ⟨rfl, hb2⟩
  have hb3 := Lib.hid (below_step (below_alloc HB.out _) hb2)
  clear hb2 d1 c0 c0' c0'' c1 HB
  go_wp2
  go_ret2
  exact ⟨rfl, hb3.out⟩

theorem when_bad (L M P m : Int) (h : ¬ OkS L M P) (w : World) :
    Calls Try.prog 17 #[.agg #[.int .i64 L, .int .i64 M, .int .i64 P], .int .i64 m] w fun e w' => e = .returned (.tuple #[.int .i64 0, .int .i64 230]) ∧ Below w.heap.size w w' := by
  have c : chkV L M P = 230 := if_neg h
  clear h
  go_enter Try.func17, Try.ntmps17
  go_wp2_with fail
  refine (check_any L M P _).mono ?_
  rintro e w1 ⟨rfl, hb1⟩
  have HB := Lib.hid (below_step (below_alloc (below_alloc (Below.refl _ _) _) _) hb1)
  clear hb1
  go_wp2
  go_ret2
  exact ⟨rfl, HB.out⟩

/-- What both Whens answer. -/
def WhenIs (L M P m r k : Int) : Prop :=
  (OkS L M P ∧ m ≤ atV L M P 4398046511104 ∧ IsLeast (atV L M P) (-4398046511104) 4398046511104 m r ∧ k = 0) ∨ (OkS L M P ∧ atV L M P 4398046511104 < m ∧ r = 0 ∧ k = 4) ∨ (¬ OkS L M P ∧ r = 0 ∧ k = 230)

theorem WhenIs.unique {L M P m r k r' k' : Int} (h : WhenIs L M P m r k) (h' : WhenIs L M P m r' k') : r' = r ∧ k' = k := by
  rcases h with ⟨a, b, c, rfl⟩ | ⟨a, b, rfl, rfl⟩ | ⟨a, rfl, rfl⟩ <;> rcases h' with ⟨a', b', c', rfl⟩ | ⟨a', b', rfl, rfl⟩ | ⟨a', rfl, rfl⟩
  · exact ⟨c'.unique c, rfl⟩
  · omega
  · exact absurd a a'
  · omega
  · exact ⟨rfl, rfl⟩
  · exact absurd a a'
  · exact absurd a' a
  · exact absurd a' a
  · exact ⟨rfl, rfl⟩

def WhenPost (L M P m : Int) (w : World) (e : Ending) (w' : World) : Prop := ∃ r k, e = .returned (.tuple #[.int .i64 r, .int .i64 k]) ∧ WhenIs L M P m r k ∧ Below w.heap.size w w'

/-- servo.When -/
theorem when_any (L M P m : Int) (w : World) :
    Calls Try.prog 17 #[.agg #[.int .i64 L, .int .i64 M, .int .i64 P], .int .i64 m] w (WhenPost L M P m w) := by
  by_cases h : OkS L M P
  · by_cases hm : m ≤ atV L M P 4398046511104
    · exact (when_ok L M P m h hm w).mono fun e w' ⟨r, he, hl, hb⟩ => ⟨r, 0, he, .inl ⟨h, hm, hl, rfl⟩, hb⟩
    · exact (when_none L M P m h (by omega) w).mono fun e w' ⟨he, hb⟩ => ⟨0, 4, he, .inr (.inl ⟨h, by omega, rfl, rfl⟩), hb⟩
  · exact (when_bad L M P m h w).mono fun e w' ⟨he, hb⟩ => ⟨0, 230, he, .inr (.inr ⟨h, rfl, rfl⟩), hb⟩

end Go.Proofs.Ytakbopkiemlfdaa
