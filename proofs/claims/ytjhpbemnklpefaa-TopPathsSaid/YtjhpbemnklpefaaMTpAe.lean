/-
  Sorting the routes: choosePivot. No conditions.
-/
import Derived.Deep.CutRange
import Derived.Deep.DeepCutAuto
import Derived.Test.YtjhpbemnklpefaaMTpAd
namespace Go.Proofs.Ytjhpbemnklpefaa
open Go.RowKit Go.Lib Plain

def PivQ (g : Tg) (w : World) (q n : Nat) (f : Nat → Rt) (a b : Nat) (e : Ending) (W' : World) : Prop :=
  ∃ (x : Nat) (h : Int), e = .returned (.tuple #[.int .i64 (x : Int), .int .i64 h]) ∧ (a ≤ x ∧ x < b) ∧ (h = 0 ∨ h = 1 ∨ h = 2) ∧ SR g w q n f W'

theorem wrapN {x : Nat} (h : x ≤ 1000000000000) : wrap64 (x : Int) = (x : Int) := by unfold wrap64; omega
theorem piv_facts (a b : Nat) (hab : a + 12 < b) : ∃ l d d2 d3 I J K : Nat, ((b : Int) - (a : Int) = (l : Int) ∧ Int.tdiv (l : Int) 4 = (d : Int) ∧ (d : Int) * 2 = (d2 : Int) ∧ (d : Int) * 3 = (d3 : Int) ∧ (a : Int) + (d : Int) = (I : Int) ∧ (a : Int) + (d2 : Int) = (J : Int) ∧ (a : Int) + (d3 : Int) = (K : Int)) ∧
    (l ≤ b ∧ d ≤ b ∧ d2 ≤ b ∧ d3 ≤ b) ∧ ((a + 1 ≤ I ∧ I + 1 < b) ∧ (a + 1 ≤ J ∧ J + 1 < b) ∧ (a + 1 ≤ K ∧ K + 1 < b)) ∧ 8 ≤ l := by
  refine ⟨b - a, (b - a) / 4, (b - a) / 4 * 2, (b - a) / 4 * 3, a + (b - a) / 4, a + (b - a) / 4 * 2, a + (b - a) / 4 * 3, ⟨by omega, ?_, by omega, by omega, by omega, by omega, by omega⟩, ⟨by omega, by omega, by omega, by omega⟩, by omega, by omega⟩
  rw [Int.tdiv_eq_ediv_of_nonneg (by omega)]
  omega
set_option maxHeartbeats 16000000 in
set_option maxRecDepth 100000 in
theorem pivot_any (g : Tg) (hk : OkT g.T) (w : World) (hg : g.In w) (q n cap : Nat) (hn : n ≤ 110075314176) (f : Nat → Rt) (W : World) (hS : SR g w q n f W) (a b : Nat) (hab : a + 12 < b) (hb : b ≤ n) :
    Calls Try.prog 84 #[.slice (some ⟨q, 0, none⟩) n cap, .int .i64 (a : Int), .int .i64 (b : Int), .func (.func 16) #[.agg (Sv g).toArray] #[]] W (PivQ g w q n f a b) := by
  have HM := Lib.hid (fun s hs W hS x hx y => medianAdj_any g hk w hg q n cap hn f W.heap.size s hs W hS a b hb x hx y)
  have HA := Lib.hid (fun sb s hs W1 hS1 x hx y => medianAdj_any g hk w hg q n cap hn f sb s hs W1 hS1 a b hb x hx y)
  have HD := Lib.hid (fun sb s hs W1 hS1 x y z hy hx hz => median_any g hk w hg q n cap hn f sb s hs W1 hS1 a b hb x y z hy hx hz)
  have SB0 := Lib.hid (show SB g w q n f W.heap.size 0 (W.alloc (.cells #[.int .i64 0] 3)) from ⟨hS.keep (below_alloc (Below.refl _ _) _), by simp [go_sem], by simp [go_sem], by have := hS.lt; omega, fun i hi hx => by
    have h1 := (hS.r i hi).1 0 (List.length_pos_iff.2 hx)
    have := World.block_lt_of_cell? _ _ h1
    change (f i).b < _ at this
    omega, Nat.le_trans hS.b.size (Nat.le_refl _)⟩)
  clear hS hg HM
  generalize Value.agg (Sv g).toArray = S at *
  obtain ⟨l, d, d2, d3, I, J, K, ⟨el, ed, e2, e3, eI, eJ, eK⟩, ⟨bl, bd, bd2, bd3⟩, hB, h8'⟩ := piv_facts a b hab
  have HB := Lib.hid hB
  have h8 : (l : Int) ≥ 8 := Int.ofNat_le.2 h8'
  have hbn : b ≤ 1000000000000 := Nat.le_trans hb (Nat.le_trans hn (by decide))
  have wl := wrapN (Nat.le_trans bl hbn)
  have wd := wrapN (Nat.le_trans bd hbn)
  have w2 := wrapN (Nat.le_trans bd2 hbn)
  have w3 := wrapN (Nat.le_trans bd3 hbn)
  have wI := wrapN (Nat.le_trans (Nat.le_of_lt (Nat.lt_of_succ_lt hB.1.2)) hbn)
  have wJ := wrapN (Nat.le_trans (Nat.le_of_lt (Nat.lt_of_succ_lt hB.2.1.2)) hbn)
  have wK := wrapN (Nat.le_trans (Nat.le_of_lt (Nat.lt_of_succ_lt hB.2.2.2)) hbn)
  clear bl bd bd2 bd3 hB h8' hbn
  have F := Lib.hid (And.intro (And.intro wl (And.intro ed wd)) (And.intro (And.intro eI wI) (And.intro (And.intro e2 (And.intro w2 (And.intro eJ wJ))) (And.intro e3 (And.intro w3 (And.intro eK wK))))))
  have F8 := Lib.hid h8
  clear e3 eK w3 wK e2 eJ w2 wJ ed eI wd wI h8 hab hn hb wl
  obtain ⟨V, hV⟩ : ∃ V, V = W.alloc (.cells #[.int .i64 0] 3) := ⟨_, rfl⟩
  rw [← hV] at SB0
  go_enter Try.func84, Try.ntmps84
  go_upto_region 6 with fail
  simp only [F.out.1.1, F.out.1.2.1, F.out.1.2.2, F.out.2.1.1, F.out.2.1.2, F.out.2.2.1.1, F.out.2.2.1.2.1, F.out.2.2.1.2.2.1, F.out.2.2.1.2.2.2, F.out.2.2.2.1, F.out.2.2.2.2.1, F.out.2.2.2.2.2.1, F.out.2.2.2.2.2.2]
  clear F el
  rw [← hV]
  clear hV
  generalize W.heap.size = sb at *
  have h8 := F8.out
  obtain ⟨⟨i1, i2⟩, ⟨j1, j2⟩, ⟨k1, k2⟩⟩ := HB.out
  by_cases h50 : (l : Int) ≥ 50
  · go_wp2_with fail
    refine (HA.out sb 0 (by omega) V SB0.out I i1 i2).mono ?_
    rintro e W1 ⟨x1, s1, rfl, hx1, hs1, S1⟩
    have S1' := Lib.hid S1
    clear S1
    go_wp2_with fail
    refine (HA.out sb s1 (by omega) W1 S1'.out J j1 j2).mono ?_
    rintro e W2 ⟨x2, s2, rfl, hx2, hs2, S2⟩
    have S2' := Lib.hid S2
    clear S2
    go_wp2_with fail
    refine (HA.out sb s2 (by omega) W2 S2'.out K k1 k2).mono ?_
    rintro e W3 ⟨x3, s3, rfl, hx3, hs3, S3⟩
    have S3' := Lib.hid S3
    clear S3
    go_wp2_with fail
    refine (HD.out sb s3 (by omega) W3 S3'.out x1 x2 x3 (by omega) (by omega) (by omega)).mono ?_
    rintro e W9 ⟨x, s9, rfl, hx, hs9, S9⟩
    have S9' := Lib.hid S9
    have kc := S9'.out.c
    clear S9 HD HA
    by_cases e0 : s9 = 0
    · subst e0
      go_wp2
      go_ret2
      exact ⟨x, 1, rfl, hx, .inr (.inl rfl), S9'.out.r⟩
    · have n0 : ¬ (s9 : Int) = 0 := by omega
      have n0' : ((s9 : Int) == 0) = false := beq_eq_false_iff_ne.2 n0
      by_cases e12 : s9 = 12
      · subst e12
        go_wp2
        go_ret2
        exact ⟨x, 2, rfl, hx, .inr (.inr rfl), S9'.out.r⟩
      · have n1 : ¬ (s9 : Int) = 12 := by omega
        have n1' : ((s9 : Int) == 12) = false := beq_eq_false_iff_ne.2 n1
        go_wp2
        go_ret2
        exact ⟨x, 0, rfl, hx, .inl rfl, S9'.out.r⟩
  · go_wp2_with fail
    refine (HD.out sb 0 (by omega) V SB0.out I J K (by omega) (by omega) (by omega)).mono ?_
    rintro e W9 ⟨x, s9, rfl, hx, hs9, S9⟩
    have S9' := Lib.hid S9
    have kc := S9'.out.c
    clear S9 HD HA
    by_cases e0 : s9 = 0
    · subst e0
      go_wp2
      go_ret2
      exact ⟨x, 1, rfl, hx, .inr (.inl rfl), S9'.out.r⟩
    · have n0 : ¬ (s9 : Int) = 0 := by omega
      have n0' : ((s9 : Int) == 0) = false := beq_eq_false_iff_ne.2 n0
      by_cases e12 : s9 = 12
      · subst e12
        go_wp2
        go_ret2
        exact ⟨x, 2, rfl, hx, .inr (.inr rfl), S9'.out.r⟩
      · have n1 : ¬ (s9 : Int) = 12 := by omega
        have n1' : ((s9 : Int) == 12) = false := beq_eq_false_iff_ne.2 n1
        go_wp2
        go_ret2
        exact ⟨x, 0, rfl, hx, .inl rfl, S9'.out.r⟩

end Go.Proofs.Ytjhpbemnklpefaa
