/-
  (tree).arrival and timenet.Arrival. No conditions.
-/
import Derived.Test.YtkencmijghigiaaMTBnd15
namespace Go.Proofs.Ytkencmijghigiaa
open Go.RowKit Go.Lib Go.Shelf Plain

theorem first_bd {n : Nt} (hb : n.Bd) {par : Fin n.m → Fin n.m} (hp : n.Par par) (j : Fin n.m) : -1048576 ≤ firstV n par j ∧ firstV n par j ≤ 4307670208 := by
  have h := stays_bd hb (ups par j)
  have h1 := ups_len hp.lt j
  have h2 := j.isLt
  have h3 := hb.m12
  unfold firstV
  omega
/-- The number of the last sync that arrives by MaxTime. -/
def lastK (n : Nt) (par : Fin n.m → Fin n.m) (j : Fin n.m) : Int := (1099511627776 - firstV n par j) / n.iv
def arrV (n : Nt) (par : Fin n.m → Fin n.m) (j : Fin n.m) (k : Int) : Int := firstV n par j + k * n.iv
theorem arr_bd {n : Nt} (hb : n.Bd) {par : Fin n.m → Fin n.m} (hp : n.Par par) {j : Fin n.m} {k : Int} (h0 : 0 ≤ k) (h1 : k ≤ lastK n par j) : 0 ≤ k * n.iv ∧ k * n.iv ≤ 1099511627776 - firstV n par j ∧ k ≤ 1099512676352 := by
  have hv := hb.iv0
  obtain ⟨f0, f1⟩ := first_bd hb hp j
  have h2 : k * n.iv ≤ lastK n par j * n.iv := Int.mul_le_mul_of_nonneg_right h1 (by omega)
  have h3 : lastK n par j * n.iv ≤ 1099511627776 - firstV n par j := Int.ediv_mul_le _ (by omega)
  have h4 : lastK n par j ≤ 1099511627776 - firstV n par j := Int.ediv_le_self _ (by omega)
  exact ⟨Int.mul_nonneg h0 (by omega), by omega, by omega⟩
/-- What arrival answers. -/
def ArrCase (n : Nt) (par : Fin n.m → Fin n.m) (j : Fin n.m) (k r e : Int) : Prop :=
  ((j.val = 0 ∨ (0 < j.val ∧ k < 0)) ∧ r = 0 ∧ e = 2) ∨ ((0 < j.val ∧ 0 ≤ k ∧ lastK n par j < k) ∧ r = 0 ∧ e = 2) ∨ ((0 < j.val ∧ 0 ≤ k ∧ k ≤ lastK n par j) ∧ r = arrV n par j k ∧ e = 0)

set_option maxHeartbeats 8000000 in
set_option maxRecDepth 100000 in
theorem arrival_any (n : Nt) (hb : n.Bd) (par : Fin n.m → Fin n.m) (hp : n.Par par) (j : Fin n.m) (k : Int) (w : World) (hn : n.In w) (r e : Int) (h : ArrCase n par j k r e) :
    Calls Try.prog 32 #[.agg n.vs.toArray, .int .i64 (j.val : Int), .int .i64 k] w fun y w' => y = .returned (.tuple #[.int .i64 r, .int .i64 e]) ∧ Below w.heap.size w w' := by
  have ha := Lib.hid (show ∀ w, (isAgg 62).run Try.prog w = .ok true w from fun w => by kernel_rfl)
  have hs := Lib.hid (show ∀ w, (sizeOf 62).run Try.prog w = .ok n.vs.length w from fun w => by kernel_rfl)
  have hv0 := hb.iv0
  have hv1 := hb.iv1
  have hvz : ¬ n.iv = 0 := by omega
  obtain ⟨f0, f1⟩ := first_bd hb hp j
  have hK : lastK n par j = (1099511627776 - firstV n par j) / n.iv := rfl
  have hq0 : 0 ≤ lastK n par j := by rw [hK]; exact Int.ediv_nonneg (by omega) (by omega)
  have hq1 : lastK n par j ≤ 1099511627776 - firstV n par j := by rw [hK]; exact Int.ediv_le_self _ (by omega)
  have htd : Int.tdiv (1099511627776 - firstV n par j) n.iv = lastK n par j := by rw [hK]; exact Int.tdiv_eq_ediv_of_nonneg (by omega)
  have hwq : wrap64 (lastK n par j) = lastK n par j := by
    unfold wrap64
    omega
  have hF := Lib.hid (fun W (hW : n.In W) => first_any n hb par hp j W hW)
  have HN := Lib.hid hn
  clear hn
  rcases h with ⟨h1, rfl, rfl⟩ | ⟨⟨j0, k0, h1⟩, rfl, rfl⟩ | ⟨⟨j0, k0, h1⟩, hr, rfl⟩
  · rcases h1 with h1 | ⟨h1, h2⟩
    · have h1' : (j.val : Int) = 0 := by omega
      go_enter Try.func32, Try.ntmps32
      rw [n.lit]
      go_wp2
      go_ret2
      exact ⟨rfl, below_alloc (Below.refl _ _) _⟩
    · have h1' : ¬ (j.val : Int) = 0 := by omega
      have h1'' : ((j.val : Int) == 0) = false := beq_eq_false_iff_ne.2 h1'
      go_enter Try.func32, Try.ntmps32
      rw [n.lit]
      go_wp2
      go_ret2
      exact ⟨rfl, below_alloc (Below.refl _ _) _⟩
  · have h1' : ¬ (j.val : Int) = 0 := by omega
    have h1'' : ((j.val : Int) == 0) = false := beq_eq_false_iff_ne.2 h1'
    go_enter Try.func32, Try.ntmps32
    rw [n.lit]
    go_wp2_with ((with_reducible refine at_load 62 (.tmp 3) ?_); refine wpList_load_whole rfl (.tmp 3) 62 rfl w.heap.size 0 n.vs rfl ha.out hs.out (holds_alloc w n.vs 62 rfl) ?_; simp only [Act.put, List.setIfInBounds_toArray, List.set_cons_succ, List.set_cons_zero])
    refine (hF.out _ (HN.out.keep (below_alloc (Below.refl _ _) _))).mono ?_
    rintro y w1 ⟨rfl, hb1⟩
    have M1 := Lib.hid ((holds_alloc w n.vs 62 rfl).keep hb1)
    have H1 := Lib.hid (below_step (below_alloc (Below.refl _ _) _) hb1)
    have m6 : w1.cell? ⟨w.heap.size, 6, none⟩ = some (.int .i64 n.iv) := M1.out 6 _ rfl
    clear hb1 hF HN
    clear hK htd
    unfold lastK at *
    generalize firstV n par j = f at *
    go_wp2
    go_ret2
    exact ⟨rfl, H1.out⟩
  · have h1' : ¬ (j.val : Int) = 0 := by omega
    have h1'' : ((j.val : Int) == 0) = false := beq_eq_false_iff_ne.2 h1'
    obtain ⟨p0, p1, p2⟩ := arr_bd hb hp k0 h1
    have hr' : r = firstV n par j + k * n.iv := hr
    go_enter Try.func32, Try.ntmps32
    rw [n.lit]
    go_wp2_with ((with_reducible refine at_load 62 (.tmp 3) ?_); refine wpList_load_whole rfl (.tmp 3) 62 rfl w.heap.size 0 n.vs rfl ha.out hs.out (holds_alloc w n.vs 62 rfl) ?_; simp only [Act.put, List.setIfInBounds_toArray, List.set_cons_succ, List.set_cons_zero])
    refine (hF.out _ (HN.out.keep (below_alloc (Below.refl _ _) _))).mono ?_
    rintro y w1 ⟨rfl, hb1⟩
    have M1 := Lib.hid ((holds_alloc w n.vs 62 rfl).keep hb1)
    have H1 := Lib.hid (below_step (below_alloc (Below.refl _ _) _) hb1)
    have m6 : w1.cell? ⟨w.heap.size, 6, none⟩ = some (.int .i64 n.iv) := M1.out 6 _ rfl
    clear hb1 hF HN hr
    clear hK htd
    unfold lastK at *
    generalize firstV n par j = f at *
    have hsum : f + k * n.iv = r := hr'.symm
    have hr0 : -1048576 ≤ r := by omega
    have hr1 : r ≤ 1099511627776 := by omega
    clear hr'
    go_wp2
    go_ret2
    exact ⟨rfl, H1.out⟩

end Go.Proofs.Ytkencmijghigiaa
