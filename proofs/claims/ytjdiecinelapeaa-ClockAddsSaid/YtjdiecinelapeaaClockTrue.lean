/-
  The walks of clock.True, of least[int] and of its closure; Bound.
-/
import Derived.Test.YtjdiecinelapeaaClock
import Derived.Lib.QuietBelow
import Derived.BigQuiet
import Derived.Laws.EntriesVeiled
namespace Go.Proofs.Ytjdiecinelapeaa
open Go.RowKit Go.Lib Plain

/-- clock.True's closure -/
theorem atLeast_any (O P l t : Int) (h : OkC O P) (ht : Tick t) (bt bm : Nat) (w : World)
    (h1 : w.cell? ⟨bt, 0, none⟩ = some (.func (.func 26) #[.agg #[.int .i64 O, .int .i64 P]] #[])) (h2 : w.cell? ⟨bm, 0, none⟩ = some (.int .i64 l)) :
    Calls Try.prog 29 #[.int .i64 t, .pointer (some ⟨bt, 0, none⟩), .pointer (some ⟨bm, 0, none⟩)] w fun e w' => e = .returned (.bool (decide (l ≤ locV O P t))) ∧ Below w.heap.size w w' := by
  have HS := Lib.hid h
  have HL := Lib.hid ht
  clear h ht
  go_enter Try.func29, Try.ntmps29
  go_wp2
  have r1 := fun p : Regrown => cell_regrown h1 p.d p.os
  have r2 := fun p : Regrown => cell_regrown h2 p.d p.os
  refine wp_region_quiet_below (by kernel_rfl) (by kernel_rfl) ?_
  repeat (go_big_quiet_step (exact Calls.regrown_of (ticker_any O P t HS.out HL.out _)))
  refine wpQuiet_nil ?_
  intro w3 hw
  have H3 : Below w.heap.size w w3 := by obtain ⟨p, rfl⟩ := hw; exact below_regrown _ _ _
  clear hw r1 r2 h1 h2
  go_wp2
  go_ret
  exact ⟨rfl, H3⟩

/-- What clock.least finds. -/
def LeastPost (O P l : Int) (w : World) (e : Ending) (w' : World) : Prop := ∃ r, e = .returned (.int .i64 r) ∧ IsLeast (locV O P) 0 1099511627776 l r ∧ Below w.heap.size w w'

theorem least_any (O P l : Int) (h : OkC O P) (hm : l ≤ locV O P 1099511627776) (bt bm : Nat) (w : World)
    (h1 : w.cell? ⟨bt, 0, none⟩ = some (.func (.func 26) #[.agg #[.int .i64 O, .int .i64 P]] #[])) (h2 : w.cell? ⟨bm, 0, none⟩ = some (.int .i64 l)) :
    Calls Try.prog 28 #[.int .i64 0, .int .i64 1099511627776, .func (.func 29) #[] #[.pointer (some ⟨bt, 0, none⟩), .pointer (some ⟨bm, 0, none⟩)]] w (LeastPost O P l w) := by
  have HS := Lib.hid h
  have HM := Lib.hid (fun x y (k : x ≤ y) => loc_mono (O := O) (P := P) h.2.2.1 k)
  clear h
  go_enter Try.func28, Try.ntmps28
  go_wp2
  go_loopw [0, 1] (fun lo hi wr => ∃ a b : Int, lo = .int .i64 a ∧ hi = .int .i64 b ∧ Between (locV O P) 0 1099511627776 l a b ∧
      wr.cell? ⟨bt, 0, none⟩ = some (.func (.func 26) #[.agg #[.int .i64 O, .int .i64 P]] #[]) ∧ wr.cell? ⟨bm, 0, none⟩ = some (.int .i64 l) ∧ Below w.heap.size w wr)
    (fun lo hi _ => (RowKit.intOf hi - RowKit.intOf lo).toNat)
  case atStart => exact ⟨_, _, rfl, rfl, Between.start (by omega) hm, h1, h2, Below.refl _ _⟩
  case round =>
    clear h1 h2
    obtain ⟨a, b, rfl, rfl, hbt, e1, e2, hb3⟩ := hrel
    obtain ⟨t1, t2, t3, t4, t5⟩ := id hbt
    clear t4 t5
    have HT := Lib.hid hbt
    have HB := Lib.hid hb3
    clear hbt hb3
    by_cases hlt : a < b
    · have k1 : a ≤ a + (b - a) / 2 := by omega
      have k2 : a + (b - a) / 2 < b := by omega
      by_cases hr : l ≤ locV O P (a + (b - a) / 2)
      · go_wp2_with fail
        refine (atLeast_any O P l _ HS.out ⟨by omega, by omega⟩ _ _ _ e1 e2).mono ?_
        rintro e w3 ⟨rfl, hb4⟩
        have f1 := below_keep hb4 e1
        have f2 := below_keep hb4 e2
        have HB2 := Lib.hid (below_step HB.out hb4)
        clear hb4
        go_wp2
        go_roundw
        case rel => exact ⟨_, _, rfl, rfl, HT.out.hit k1 (by omega) hr, f1, f2, HB2.out⟩
        case measure => simp [RowKit.intOf]; omega
      · have hr' : locV O P (a + (b - a) / 2) < l := by omega
        clear hr
        go_wp2_with fail
        refine (atLeast_any O P l _ HS.out ⟨by omega, by omega⟩ _ _ _ e1 e2).mono ?_
        rintro e w3 ⟨rfl, hb4⟩
        have f1 := below_keep hb4 e1
        have f2 := below_keep hb4 e2
        have HB2 := Lib.hid (below_step HB.out hb4)
        clear hb4
        go_wp2
        go_roundw
        case rel => exact ⟨_, _, rfl, rfl, HT.out.miss HM.out k1 k2 hr', f1, f2, HB2.out⟩
        case measure => simp [RowKit.intOf]; omega
    · obtain rfl : a = b := by omega
      go_wp2
      go_ret
      exact ⟨_, rfl, HT.out.done, HB.out⟩

/-- What both Trues answer. -/
def TrueIs (O P l r k : Int) : Prop :=
  (OkC O P ∧ l ≤ locV O P 1099511627776 ∧ IsLeast (locV O P) 0 1099511627776 l r ∧ k = 0) ∨ (OkC O P ∧ locV O P 1099511627776 < l ∧ r = 0 ∧ k = 4) ∨ (¬ OkC O P ∧ r = 0 ∧ k = 190)

theorem TrueIs.unique {O P l r k r' k' : Int} (h : TrueIs O P l r k) (h' : TrueIs O P l r' k') : r' = r ∧ k' = k := by
  rcases h with ⟨a, b, c, rfl⟩ | ⟨a, b, rfl, rfl⟩ | ⟨a, rfl, rfl⟩ <;> rcases h' with ⟨a', b', c', rfl⟩ | ⟨a', b', rfl, rfl⟩ | ⟨a', rfl, rfl⟩
  · exact ⟨c'.unique c, rfl⟩
  · omega
  · exact absurd a a'
  · omega
  · exact ⟨rfl, rfl⟩
  · exact absurd a a'
  · exact absurd a' a
  · exact absurd a' a
  · exact ⟨rfl, rfl⟩

def TruePost (O P l : Int) (w : World) (e : Ending) (w' : World) : Prop := ∃ r k, e = .returned (.tuple #[.int .i64 r, .int .i64 k]) ∧ TrueIs O P l r k ∧ Below w.heap.size w w'

set_option maxHeartbeats 1000000 in
/-- clock.True -/
theorem true_any (O P l : Int) (w : World) :
    Calls Try.prog 16 #[.agg #[.int .i64 O, .int .i64 P], .int .i64 l] w (TruePost O P l w) := by
  by_cases h : OkC O P
  · have c : clkV O P = 0 := if_pos h
    have HS := Lib.hid h
    clear h
    go_enter Try.func16, Try.ntmps16
    go_wp2_with fail
    refine (clkCheck_any O P _).mono ?_
    rintro e w1 ⟨rfl, hb1⟩
    have hz : w.heap.size + 1 < w1.heap.size := by have := hb1.size; simp at this; omega
    have c1 : w1.cell? ⟨w.heap.size + 1, 0, none⟩ = some (.int .i64 l) := below_keep hb1 (by simp [go_sem])
    have c0 : w1.cell? ⟨w.heap.size, 0, none⟩ = some (.int .i64 O) := below_keep hb1 (by simp [go_sem])
    have c0' : w1.cell? ⟨w.heap.size, 1, none⟩ = some (.int .i64 P) := below_keep hb1 (by simp [go_sem])
    have HB := Lib.hid (below_step (below_alloc (below_alloc (Below.refl _ _) _) _) hb1)
    clear hb1
    have d1 : (w1.alloc (.cells #[.func (.func 26) #[.agg #[.int .i64 O, .int .i64 P]] #[]] 40)).cell? ⟨w.heap.size + 1, 0, none⟩ = some (.int .i64 l) := by
      rw [World.cell?_alloc_lt _ _ _ hz]; exact c1
    have d2 : (w1.alloc (.cells #[.func (.func 26) #[.agg #[.int .i64 O, .int .i64 P]] #[]] 40)).cell? ⟨w1.heap.size, 0, none⟩ = some (.func (.func 26) #[.agg #[.int .i64 O, .int .i64 P]] #[]) := by simp [go_sem]
    have r1 := fun p : Regrown => cell_regrown d1 p.d p.os
    have r2 := fun p : Regrown => cell_regrown d2 p.d p.os
    go_wp2
    refine wp_region_quiet_below (by kernel_rfl) (by kernel_rfl) ?_
    repeat (go_big_quiet_step (exact Calls.regrown_of (ticker_any O P 1099511627776 HS.out ⟨by decide, by decide⟩ _)))
    refine wpQuiet_nil ?_
    intro w3 hw
    have hb3 : Below (w1.alloc (.cells #[.func (.func 26) #[.agg #[.int .i64 O, .int .i64 P]] #[]] 40)).heap.size (w1.alloc (.cells #[.func (.func 26) #[.agg #[.int .i64 O, .int .i64 P]] #[]] 40)) w3 := by obtain ⟨p, rfl⟩ := hw; exact below_regrown _ _ _
    have e1 := below_keep hb3 d1
    have e2 := below_keep hb3 d2
    have H3 := Lib.hid (below_step (below_alloc HB.out _) hb3)
    clear hw r1 r2 d1 d2 hb3 c0 c0' c1 HB
    by_cases hm : l ≤ locV O P 1099511627776
    · go_wp2_with fail
      refine (least_any O P l HS.out hm _ _ _ e2 e1).mono ?_
      rintro e w4 ⟨r, rfl, hi, hb4⟩
      have HI := Lib.hid hi
      have H4 := Lib.hid (below_step H3.out hb4)
      clear hi hb4
      go_wp2
      go_ret2
      exact ⟨r, 0, rfl, .inl ⟨HS.out, hm, HI.out, rfl⟩, H4.out⟩
    · have hm' : locV O P 1099511627776 < l := by omega
      clear hm
      go_wp2
      go_ret2
      exact ⟨0, 4, rfl, .inr (.inl ⟨HS.out, hm', rfl, rfl⟩), H3.out⟩
  · have c : clkV O P = 190 := if_neg h
    have HS := Lib.hid h
    clear h
    go_enter Try.func16, Try.ntmps16
    go_wp2_with fail
    refine (clkCheck_any O P _).mono ?_
    rintro e w1 ⟨rfl, hb1⟩
    have HB := Lib.hid (below_step (below_alloc (below_alloc (Below.refl _ _) _) _) hb1)
    clear hb1
    go_wp2
    go_ret2
    exact ⟨0, 190, rfl, .inr (.inr ⟨HS.out, rfl, rfl⟩), HB.out⟩

end Go.Proofs.Ytjdiecinelapeaa
