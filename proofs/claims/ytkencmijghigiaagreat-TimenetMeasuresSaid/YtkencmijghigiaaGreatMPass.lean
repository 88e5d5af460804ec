/-
  The walks of package pass: within, the limits, Check.
-/
import Derived.WalkMore
import Derived.Laws.EntriesVeiled
import Derived.Test.YtkencmijghigiaaGreatMNums
import Derived.Test.YtkencmijghigiaaGreatMBase
namespace Go.Proofs.YtkencmijghigiaaGreat
open Go.RowKit Go.Lib Plain

def WiOk (vs ls ms : Nat → Int) (n : Nat) : Prop := ∀ j, j < n → ls j ≤ vs j ∧ vs j ≤ ms j
instance (vs ls ms : Nat → Int) (n : Nat) : Decidable (WiOk vs ls ms n) := inferInstanceAs (Decidable (∀ j, j < n → _))

set_option maxHeartbeats 1000000 in
/-- pass.within: all values are within their limits. -/
theorem within_yes (vs ls ms : Nat → Int) (n b : Nat) (hn : n ≤ 4) (w : World) (h0 : ∀ k, k < n → w.cell? ⟨b, k * 3, none⟩ = some (.int .i64 (vs k))) (h1 : ∀ k, k < n → w.cell? ⟨b, k * 3 + 1, none⟩ = some (.int .i64 (ls k))) (h2 : ∀ k, k < n → w.cell? ⟨b, k * 3 + 2, none⟩ = some (.int .i64 (ms k)))
    (h : WiOk vs ls ms n) :
    Calls Tryz.prog 63 #[.slice (some ⟨b, 0, none⟩) n n] w fun e w' => e = .returned (.bool true) ∧ Below w.heap.size w w' := by
  have A0 := Lib.hid h0
  have A1 := Lib.hid h1
  have A2 := Lib.hid h2
  have HS := Lib.hid h
  clear h0 h1 h2 h
  go_enter Tryz.func63, Tryz.ntmps63
  go_wp2
  go_loopw [7] (fun i wr => ∃ k : Nat, k ≤ n ∧ i = .int .i64 k ∧ Below w.heap.size w wr) (fun i _ => n - (RowKit.intOf i).toNat)
  case atStart => exact ⟨0, Nat.zero_le _, rfl, Below.refl _ _⟩
  case round =>
    obtain ⟨k, hk, rfl, hB⟩ := hrel
    by_cases hlt : k < n
    · have c0 := below_keep hB (A0.out k hlt)
      have c1 := below_keep hB (A1.out k hlt)
      have c2 := below_keep hB (A2.out k hlt)
      obtain ⟨z0, z1⟩ := HS.out k hlt
      have HB := Lib.hid hB
      clear hB
      go_wp2
      go_roundw
      case rel => exact ⟨k + 1, by omega, by go_num, below_alloc HB.out _⟩
      case measure => simp [RowKit.intOf]; omega
    · have HB := Lib.hid hB
      clear hB
      go_wp2
      go_ret
      exact ⟨rfl, HB.out⟩

set_option maxHeartbeats 1000000 in
theorem within_no (vs ls ms : Nat → Int) (n b : Nat) (hn : n ≤ 4) (w : World) (h0 : ∀ k, k < n → w.cell? ⟨b, k * 3, none⟩ = some (.int .i64 (vs k))) (h1 : ∀ k, k < n → w.cell? ⟨b, k * 3 + 1, none⟩ = some (.int .i64 (ls k))) (h2 : ∀ k, k < n → w.cell? ⟨b, k * 3 + 2, none⟩ = some (.int .i64 (ms k)))
    (h : ¬ WiOk vs ls ms n) :
    Calls Tryz.prog 63 #[.slice (some ⟨b, 0, none⟩) n n] w fun e w' => e = .returned (.bool false) ∧ Below w.heap.size w w' := by
  have A0 := Lib.hid h0
  have A1 := Lib.hid h1
  have A2 := Lib.hid h2
  have HS := Lib.hid h
  clear h0 h1 h2 h
  go_enter Tryz.func63, Tryz.ntmps63
  go_wp2
  go_loopw [7] (fun i wr => ∃ k : Nat, k ≤ n ∧ i = .int .i64 k ∧ Hid (∀ j, j < k → ls j ≤ vs j ∧ vs j ≤ ms j) ∧ Below w.heap.size w wr) (fun i _ => n - (RowKit.intOf i).toNat)
  case atStart => exact ⟨0, Nat.zero_le _, rfl, fun j hj => absurd hj (by omega), Below.refl _ _⟩
  case round =>
    obtain ⟨k, hk, rfl, ht, hB⟩ := hrel
    by_cases hlt : k < n
    · have c0 := below_keep hB (A0.out k hlt)
      have c1 := below_keep hB (A1.out k hlt)
      have c2 := below_keep hB (A2.out k hlt)
      have HB := Lib.hid hB
      clear hB
      rcases (show vs k < ls k ∨ (ls k ≤ vs k ∧ ms k < vs k) ∨ (ls k ≤ vs k ∧ vs k ≤ ms k) by omega) with z | ⟨z, z'⟩ | ⟨z, z'⟩
      · go_wp2
        go_ret
        exact ⟨rfl, below_alloc HB.out _⟩
      · go_wp2
        go_ret
        exact ⟨rfl, below_alloc HB.out _⟩
      · have ht2 : Hid (∀ j, j < k + 1 → ls j ≤ vs j ∧ vs j ≤ ms j) := by
          intro j hj
          rcases (show j < k ∨ j = k by omega) with x | rfl
          · exact ht.out j x
          · exact ⟨z, z'⟩
        clear ht
        go_wp2
        go_roundw
        case rel => exact ⟨k + 1, by omega, by go_num, ht2, below_alloc HB.out _⟩
        case measure => simp [RowKit.intOf]; omega
    · obtain rfl : k = n := by omega
      exact absurd ht.out HS.out

def wiB (vs ls ms : Nat → Int) (n : Nat) : Bool := decide (WiOk vs ls ms n)
theorem within_any (vs ls ms : Nat → Int) (n b : Nat) (hn : n ≤ 4) (w : World) (h0 : ∀ k, k < n → w.cell? ⟨b, k * 3, none⟩ = some (.int .i64 (vs k))) (h1 : ∀ k, k < n → w.cell? ⟨b, k * 3 + 1, none⟩ = some (.int .i64 (ls k))) (h2 : ∀ k, k < n → w.cell? ⟨b, k * 3 + 2, none⟩ = some (.int .i64 (ms k))) :
    Calls Tryz.prog 63 #[.slice (some ⟨b, 0, none⟩) n n] w fun e w' => e = .returned (.bool (wiB vs ls ms n)) ∧ Below w.heap.size w w' := by
  by_cases h : WiOk vs ls ms n
  · rw [show wiB vs ls ms n = true from decide_eq_true h]; exact within_yes vs ls ms n b hn w h0 h1 h2 h
  · rw [show wiB vs ls ms n = false from decide_eq_false h]; exact within_no vs ls ms n b hn w h0 h1 h2 h

/-- pass.stamp -/
theorem pstamp_any (v : Int) (w : World) :
    Calls Tryz.prog 64 #[.int .i64 v] w fun e w' => e = .returned (.agg #[.int .i64 v, .int .i64 (-4398046511104), .int .i64 4398046511104]) ∧ Below w.heap.size w w' := by
  go_enter Tryz.func64, Tryz.ntmps64
  go_wp2
  refine bodyPost_ret (v := .agg #[.int .i64 v, .int .i64 (-4398046511104), .int .i64 4398046511104]) (by simp [results, Tryz.results64, go_sem]) rfl ⟨rfl, ?_⟩
  exact below_alloc (Below.refl _ _) _
/-- pass.ratio -/
theorem pratio_any (v : Int) (w : World) :
    Calls Tryz.prog 90 #[.int .i64 v] w fun e w' => e = .returned (.agg #[.int .i64 v, .int .i64 (-8388608), .int .i64 8388608]) ∧ Below w.heap.size w w' := by
  go_enter Tryz.func90, Tryz.ntmps90
  go_wp2
  refine bodyPost_ret (v := .agg #[.int .i64 v, .int .i64 (-8388608), .int .i64 8388608]) (by simp [results, Tryz.results90, go_sem]) rfl ⟨rfl, ?_⟩
  exact below_alloc (Below.refl _ _) _

def nth (l : List Int) (k : Nat) : Int := l.getD k 0
theorem wi_info (O C P : Int) : WiOk (nth [O, C, P]) (nth [-4398046511104, -4398046511104, -8388608]) (nth [4398046511104, 4398046511104, 8388608]) 3 ↔ OkI O C P := by
  constructor
  · intro h
    exact ⟨h 0 (by decide), h 1 (by decide), h 2 (by decide)⟩
  · rintro ⟨h0, h1, h2⟩ j hj
    match j, hj with
    | 0, _ => exact h0
    | 1, _ => exact h1
    | 2, _ => exact h2

set_option maxHeartbeats 2000000 in
/-- pass.Check -/
theorem pCheck_any (O C P : Int) (w : World) :
    Calls Tryz.prog 94 #[.agg #[.int .i64 O, .int .i64 C, .int .i64 P]] w fun e w' => e = .returned (.int .i64 (infV O C P)) ∧ Below w.heap.size w w' := by
  have hcase : (wiB (nth [O, C, P]) (nth [-4398046511104, -4398046511104, -8388608]) (nth [4398046511104, 4398046511104, 8388608]) 3 = true ∧ infV O C P = 0) ∨ (wiB (nth [O, C, P]) (nth [-4398046511104, -4398046511104, -8388608]) (nth [4398046511104, 4398046511104, 8388608]) 3 = false ∧ infV O C P = 240) := by
    by_cases h : OkI O C P
    · exact .inl ⟨decide_eq_true ((wi_info O C P).2 h), if_pos h⟩
    · exact .inr ⟨decide_eq_false (fun x => h ((wi_info O C P).1 x)), if_neg h⟩
  rcases hcase with ⟨q, e⟩ | ⟨q, e⟩
  all_goals
    rw [e]
    have Q := Lib.hid q
    clear e q
    go_enter Tryz.func94, Tryz.ntmps94
    go_wp2
    refine wp_world ?_
    intro W hW
    have x0 : W.cell? ⟨w.heap.size, 0, none⟩ = some (.int .i64 O) := by subst hW; simp [go_sem]
    have x1 : W.cell? ⟨w.heap.size, 1, none⟩ = some (.int .i64 C) := by subst hW; simp [go_sem]
    have x2 : W.cell? ⟨w.heap.size, 2, none⟩ = some (.int .i64 P) := by subst hW; simp [go_sem]
    have HB := Lib.hid (show Below w.heap.size w W by subst hW; exact below_alloc (Below.refl _ _) _)
    clear hW
    have r0 := fun p : Regrown => cell_regrown x0 p.d p.os
    have r1 := fun p : Regrown => cell_regrown x1 p.d p.os
    have r2 := fun p : Regrown => cell_regrown x2 p.d p.os
    refine wp_region_quiet_tail 9 (by kernel_rfl) (by kernel_rfl) ?_
    simp only [List.take_succ_cons, List.take_zero, List.drop_succ_cons, List.drop_zero]
    repeat (go_big_quiet_step (first | with_reducible exact Calls.regrown_of (pstamp_any O _) | with_reducible exact Calls.regrown_of (pstamp_any C _) | with_reducible exact Calls.regrown_of (pratio_any P _)))
    refine wpQuiet_nil ?_
    intro w6 hw
    have H6 := Lib.hid (below_step HB.out (show Below W.heap.size W w6 by obtain ⟨p, rfl⟩ := hw; exact below_regrown _ _ _))
    clear hw r0 r1 r2 x0 x1 x2 HB
    go_wp2_with fail
    refine (within_any (nth [O, C, P]) (nth [-4398046511104, -4398046511104, -8388608]) (nth [4398046511104, 4398046511104, 8388608]) 3 _ (by omega) _ (fun k hk => by
      match k, hk with
      | 0, _ => simp [go_sem]; rfl
      | 1, _ => simp [go_sem]; rfl
      | 2, _ => simp [go_sem]; rfl) (fun k hk => by
      match k, hk with
      | 0, _ => simp [go_sem]; rfl
      | 1, _ => simp [go_sem]; rfl
      | 2, _ => simp [go_sem]; rfl) (fun k hk => by
      match k, hk with
      | 0, _ => simp [go_sem]; rfl
      | 1, _ => simp [go_sem]; rfl
      | 2, _ => simp [go_sem]; rfl)).mono ?_
    rw [Q.out]
    rintro e w7 ⟨rfl, hb⟩
    have H7 := Lib.hid (below_step (below_alloc H6.out _) hb)
    clear hb H6
    go_wp2
    go_ret
    exact ⟨rfl, H7.out⟩

end Go.Proofs.YtkencmijghigiaaGreat
