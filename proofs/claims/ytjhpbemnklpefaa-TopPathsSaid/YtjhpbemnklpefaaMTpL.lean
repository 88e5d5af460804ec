/-
  isochronref16.link: the walk. No conditions.
-/
import Derived.Test.YtjhpbemnklpefaaMTpN
namespace Go.Proofs.Ytjhpbemnklpefaa
open Go.RowKit Go.Lib Plain

set_option maxHeartbeats 8000000 in
set_option maxRecDepth 100000 in
theorem link_any (n br bs os ks : Nat) (v2 : Value) (h2 : v2.oneCell' = true) (l : Lk) (p1 : 1 ≤ l.per) (p2 : l.per ≤ 1000) (hd : l.dly ≤ 10000) (w : World) (hs : ∀ k, k < n → w.cell? ⟨bs, os + k, none⟩ = some (.bool (decide (br ≤ k)))) :
    Calls Try.prog 26 #[.agg #[.int .i64 (n : Int), .slice (some ⟨bs, os, none⟩) n ks, v2], .agg #[.int .i64 (l.a : Int), .int .i64 (l.b : Int), .int .i64 (l.per : Int), .int .i64 (l.dly : Int)]] w fun e w' => e = .returned (.bool (lkB ⟨n, br, []⟩ l)) ∧ Below w.heap.size w w' := by
  obtain ⟨la, lb, lp, ld⟩ := l
  simp only at p1 p2 hd
  unfold lkB Tp.st
  dsimp only
  have HN := Lib.hid (fun x W => node16_any n (.slice (some ⟨bs, os, none⟩) n ks) v2 rfl h2 x W)
  have p1' : (lp : Int) ≥ 1 := by omega
  have p2' : (lp : Int) ≤ 1000 := by omega
  have hd' : (ld : Int) ≤ 10000 := by omega
  have hd0 : (ld : Int) ≥ 0 := by omega
  go_enter Try.func26, Try.ntmps26
  go_wp2_with fail
  refine (HN.out la _).mono ?_
  rintro e w1 ⟨rfl, hb1⟩
  have B1 := Lib.hid (below_step (below_alloc (below_alloc (Below.refl _ w) _) _) hb1)
  have z1 := hb1.size
  simp at z1
  have c0 : w1.cell? ⟨w.heap.size, 0, none⟩ = some (.int .i64 (n : Int)) := below_keep hb1 (by simp [go_sem])
  have c1 : w1.cell? ⟨w.heap.size, 1, none⟩ = some (.slice (some ⟨bs, os, none⟩) n ks) := below_keep hb1 (by simp [go_sem])
  have c2 : w1.cell? ⟨w.heap.size, 2, none⟩ = some v2 := below_keep hb1 (by simp [go_sem])
  have d0 : w1.cell? ⟨w.heap.size + 1, 0, none⟩ = some (.int .i64 (la : Int)) := below_keep hb1 (by simp [go_sem])
  have d1 : w1.cell? ⟨w.heap.size + 1, 1, none⟩ = some (.int .i64 (lb : Int)) := below_keep hb1 (by simp [go_sem])
  have d2 : w1.cell? ⟨w.heap.size + 1, 2, none⟩ = some (.int .i64 (lp : Int)) := below_keep hb1 (by simp [go_sem])
  have d3 : w1.cell? ⟨w.heap.size + 1, 3, none⟩ = some (.int .i64 (ld : Int)) := below_keep hb1 (by simp [go_sem])
  clear hb1
  by_cases ha : la < n
  · rw [decide_eq_true ha]
    go_wp2_with fail
    refine (HN.out lb _).mono ?_
    rintro e w2 ⟨rfl, hb2⟩
    have B2 := Lib.hid (below_step B1.out hb2)
    have c0 := below_keep hb2 c0
    have c1 := below_keep hb2 c1
    have d0 := below_keep hb2 d0
    have d1 := below_keep hb2 d1
    have d2 := below_keep hb2 d2
    have d3 := below_keep hb2 d3
    clear hb2 c2
    by_cases hb : lb < n
    · rw [decide_eq_true hb]
      by_cases he : la = lb
      · subst he
        go_wp2
        go_ret
        exact ⟨ret_bool (by simp_all), B2.out⟩
      · have he' : ¬ (la : Int) = (lb : Int) := by omega
        have s1 := below_keep B2.out (hs la ha)
        have s2 := below_keep B2.out (hs lb hb)
        have ha' : (la : Int) < (n : Int) := by omega
        have hb' : (lb : Int) < (n : Int) := by omega
        by_cases h1 : br ≤ la
        · rw [decide_eq_true h1] at s1
          by_cases h2 : br ≤ lb
          · rw [decide_eq_true h2] at s2
            go_wp2
            go_ret
            exact ⟨ret_bool (by simp_all), B2.out⟩
          · rw [decide_eq_false h2] at s2
            go_wp2
            go_ret
            exact ⟨ret_bool (by simp_all), B2.out⟩
        · rw [decide_eq_false h1] at s1
          go_wp2
          go_ret
          exact ⟨ret_bool (by simp_all), B2.out⟩
    · rw [decide_eq_false hb]
      go_wp2
      go_ret
      exact ⟨ret_bool (by simp [hb]), B2.out⟩
  · rw [decide_eq_false ha]
    go_wp2
    go_ret
    exact ⟨ret_bool (by simp [ha]), B1.out⟩

end Go.Proofs.Ytjhpbemnklpefaa
