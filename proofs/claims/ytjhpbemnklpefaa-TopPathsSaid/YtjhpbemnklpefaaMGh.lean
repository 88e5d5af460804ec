/-
  Texts of this claim laid together: TpAg, TpAh.
-/
import Derived.Test.YtjhpbemnklpefaaMTpAf
namespace Go.Proofs.Ytjhpbemnklpefaa
open Go.RowKit Go.Lib Plain

theorem meas_lt {n r c : Nat} (h : r < c) (hc : c ≤ n) : n - (RowKit.intOf (.int .i64 (c : Int))).toNat < n - (RowKit.intOf (.int .i64 (r : Int))).toNat := by
  simp [RowKit.intOf]
  omega
theorem sift_facts {n first hi c r : Nat} (hn : n ≤ 110075314176) (hf : first + hi ≤ n) (hrc : r < c) (hch : c < hi) : ∃ P R c1 P1 : Nat,
    ((first : Int) + (c : Int) = (P : Int) ∧ (first : Int) + (r : Int) = (R : Int) ∧ (c : Int) + 1 = (c1 : Int) ∧ (P : Int) + 1 = (P1 : Int) ∧ (first : Int) + (c1 : Int) = (P1 : Int)) ∧
    (Sm P ∧ Sm R ∧ Sm c1 ∧ Sm P1) ∧
    (P < n ∧ R < n ∧ (c1 < hi → P1 < n) ∧ r < c1 ∧ r < c ∧ c ≤ n ∧ (c1 < hi → c1 ≤ n)) ∧ (P : Int) < (n : Int) ∧ (R : Int) < (n : Int) := by
  refine ⟨first + c, first + r, c + 1, first + c + 1, ⟨by omega, by omega, by omega, by omega, by omega⟩, ⟨sm hn (by omega), sm hn (by omega), sm hn (by omega), sm hn (by omega)⟩, ?_, by omega, by omega⟩
  omega

set_option maxHeartbeats 16000000 in
set_option maxRecDepth 100000 in
theorem siftDown_any (g : Tg) (w : World) (S : Value) (hx : SX g w S) (q n cap : Nat) (hn : n ≤ 110075314176) (f : Nat → Rt) (W : World) (hS : SS g w q n f W) (lo hi first : Nat) (hf : first + hi ≤ n) (hlo : lo ≤ n) :
    Calls Try.prog 92 #[.slice (some ⟨q, 0, none⟩) n cap, .int .i64 (lo : Int), .int .i64 (hi : Int), .int .i64 (first : Int), .func (.func 16) #[S] #[]] W (SP g w q n f) := by
  have HK := Lib.hid hx
  have S0 := Lib.hid hS
  have wA := smA
  have mixed : Try.prog.follows .mixedOrders = true := by kernel_rfl
  clear hS hx
  go_enter Try.func92, Try.ntmps92
  go_wp2
  go_loopw [10] (fun p wr => ∃ r : Nat, p = .int .i64 (r : Int) ∧ r ≤ n ∧ Hid (SS g w q n f wr)) (fun p _ => n - (RowKit.intOf p).toNat)
  case atStart => exact ⟨lo, rfl, hlo, S0⟩
  case round =>
    clear S0
    obtain ⟨r, rfl, hr, S1⟩ := hrel
    obtain ⟨d, hd⟩ : ∃ d : Nat, d = 2 * r := ⟨_, rfl⟩
    obtain ⟨c, hc⟩ : ∃ c : Nat, c = d + 1 := ⟨_, rfl⟩
    have HF := Lib.hid (show 2 * (r : Int) = (d : Int) ∧ wrap64 (d : Int) = (d : Int) ∧ (d : Int) + 1 = (c : Int) ∧ wrap64 (c : Int) = (c : Int) by unfold wrap64; omega)
    have HG := Lib.hid (show r < c ∧ c ≤ 2 * n + 1 by omega)
    clear hd hc
    go_upto_region 2 with fail
    simp only [HF.out.1, HF.out.2.1, HF.out.2.2.1, HF.out.2.2.2]
    clear HF
    by_cases hch : c < hi
    · have hch1 : ¬ (c : Int) ≥ (hi : Int) := by omega
      obtain ⟨P, R, c1, P1, ⟨eP, eR, ec, eP1, eQ1⟩, ⟨wP, wR, wc, wP1⟩, hB, bP, bR⟩ := sift_facts hn hf HG.out.1 hch
      have HB := Lib.hid hB
      clear hB HG hf hlo hn hr hch
      by_cases h1 : c1 < hi
      · have h1z : (c1 : Int) < (hi : Int) := lt_int h1
        have bP1 : (P1 : Int) < (n : Int) := lt_int (HB.out.2.2.1 h1)
        have HH := Lib.hid h1
        clear h1
        obtain ⟨b1, o1, l1, k1, b2, o2, l2, k2, z6, ca, cb, HC2⟩ := S1.out.pair HK.out HB.out.1 (HB.out.2.2.1 HH.out)
        have r0 := fun p : Regrown => cell_regrown ca p.d p.os
        have r1 := fun p : Regrown => cell_regrown cb p.d p.os
        go_upto_region 3 with fail
        refine wp_region_quiet_below (by kernel_rfl) (by kernel_rfl) ?_
        repeat (go_big_quiet_step (with_reducible exact Calls.regrown_of (HC2.out _ _)))
        refine wpQuiet_nil ?_
        rintro W6 ⟨pr, hpr⟩
        have B6 : Below wr.heap.size wr W6 := by rw [hpr]; exact below_regrown wr pr.d pr.os
        have S6 := Lib.hid (S1.out.keep B6)
        clear hpr r0 r1 ca cb HC2 B6 S1
        by_cases hz6 : z6 < 0
        · have q1 := hz6
          obtain ⟨b1, o1, l1, k1, b2, o2, l2, k2, z7b, ca, cb, HC2⟩ := S6.out.pair HK.out HB.out.2.1 (HB.out.2.2.1 HH.out)
          have r0 := fun p : Regrown => cell_regrown ca p.d p.os
          have r1 := fun p : Regrown => cell_regrown cb p.d p.os
          go_upto_region 5 with fail
          simp only [wA _ wc]
          refine wp_region_quiet_below (by kernel_rfl) (by kernel_rfl) ?_
          repeat (go_big_quiet_step (with_reducible exact Calls.regrown_of (HC2.out _ _)))
          refine wpQuiet_nil ?_
          rintro W7b ⟨pr, hpr⟩
          have B6 : Below W6.heap.size W6 W7b := by rw [hpr]; exact below_regrown W6 pr.d pr.os
          have S7b := Lib.hid (S6.out.keep B6)
          clear hpr r0 r1 ca cb HC2 B6 S6
          by_cases hz7b : z7b < 0
          · have hd7 : (!decide (z7b < 0)) = false := by rw [decide_eq_true hz7b]; rfl
            simp only [hd7]
            obtain ⟨b1, o1, l1, k1, b2, o2, l2, k2, u, ca, cb, fa, fb, cc, S7c⟩ := S7b.out.exch HB.out.2.1 (HB.out.2.2.1 HH.out)
            clear S7b
            go_upto_region 6 with fail
            go_big_region_o
            clear ca cb cc fa fb
            generalize World.drew _ = W7c at S7c ⊢
            go_wp2
            go_roundw
            case rel => exact ⟨c1, rfl, HB.out.2.2.2.2.2.2 HH.out, S7c⟩
            case measure => exact meas_lt HB.out.2.2.2.1 (HB.out.2.2.2.2.2.2 HH.out)
          · have hd7 : (!decide (z7b < 0)) = true := by rw [decide_eq_false hz7b]; rfl
            simp only [hd7]
            go_wp2
            go_end0
            exact ⟨rfl, S7b.out⟩
        · have q1 := hz6
          obtain ⟨b1, o1, l1, k1, b2, o2, l2, k2, z8b, ca, cb, HC2⟩ := S6.out.pair HK.out HB.out.2.1 HB.out.1
          have r0 := fun p : Regrown => cell_regrown ca p.d p.os
          have r1 := fun p : Regrown => cell_regrown cb p.d p.os
          go_upto_region 5 with fail
          refine wp_region_quiet_below (by kernel_rfl) (by kernel_rfl) ?_
          repeat (go_big_quiet_step (with_reducible exact Calls.regrown_of (HC2.out _ _)))
          refine wpQuiet_nil ?_
          rintro W8b ⟨pr, hpr⟩
          have B6 : Below W6.heap.size W6 W8b := by rw [hpr]; exact below_regrown W6 pr.d pr.os
          have S8b := Lib.hid (S6.out.keep B6)
          clear hpr r0 r1 ca cb HC2 B6 S6
          by_cases hz8b : z8b < 0
          · have hd8 : (!decide (z8b < 0)) = false := by rw [decide_eq_true hz8b]; rfl
            simp only [hd8]
            obtain ⟨b1, o1, l1, k1, b2, o2, l2, k2, u, ca, cb, fa, fb, cc, S8c⟩ := S8b.out.exch HB.out.2.1 HB.out.1
            clear S8b
            go_upto_region 6 with fail
            go_big_region_o
            clear ca cb cc fa fb
            generalize World.drew _ = W8c at S8c ⊢
            go_wp2
            go_roundw
            case rel => exact ⟨c, rfl, HB.out.2.2.2.2.2.1, S8c⟩
            case measure => exact meas_lt HB.out.2.2.2.2.1 HB.out.2.2.2.2.2.1
          · have hd8 : (!decide (z8b < 0)) = true := by rw [decide_eq_false hz8b]; rfl
            simp only [hd8]
            go_wp2
            go_end0
            exact ⟨rfl, S8b.out⟩
      · have h1z : ¬ (c1 : Int) < (hi : Int) := by omega
        go_upto_region 3 with fail
        refine wp_region_quiet_below (by kernel_rfl) (by kernel_rfl) ?_
        repeat (go_big_quiet_step (fail))
        refine wpQuiet_nil ?_
        rintro W6 ⟨pr, hpr⟩
        have B6 : Below wr.heap.size wr W6 := by rw [hpr]; exact below_regrown wr pr.d pr.os
        have S6 := Lib.hid (S1.out.keep B6)
        clear hpr B6 S1
        obtain ⟨b1, o1, l1, k1, b2, o2, l2, k2, z9b, ca, cb, HC2⟩ := S6.out.pair HK.out HB.out.2.1 HB.out.1
        have r0 := fun p : Regrown => cell_regrown ca p.d p.os
        have r1 := fun p : Regrown => cell_regrown cb p.d p.os
        go_upto_region 5 with fail
        refine wp_region_quiet_below (by kernel_rfl) (by kernel_rfl) ?_
        repeat (go_big_quiet_step (with_reducible exact Calls.regrown_of (HC2.out _ _)))
        refine wpQuiet_nil ?_
        rintro W9b ⟨pr, hpr⟩
        have B6 : Below W6.heap.size W6 W9b := by rw [hpr]; exact below_regrown W6 pr.d pr.os
        have S9b := Lib.hid (S6.out.keep B6)
        clear hpr r0 r1 ca cb HC2 B6 S6
        by_cases hz9b : z9b < 0
        · have hd9 : (!decide (z9b < 0)) = false := by rw [decide_eq_true hz9b]; rfl
          simp only [hd9]
          obtain ⟨b1, o1, l1, k1, b2, o2, l2, k2, u, ca, cb, fa, fb, cc, S9c⟩ := S9b.out.exch HB.out.2.1 HB.out.1
          clear S9b
          go_upto_region 6 with fail
          go_big_region_o
          clear ca cb cc fa fb
          generalize World.drew _ = W9c at S9c ⊢
          go_wp2
          go_roundw
          case rel => exact ⟨c, rfl, HB.out.2.2.2.2.2.1, S9c⟩
          case measure => exact meas_lt HB.out.2.2.2.2.1 HB.out.2.2.2.2.2.1
        · have hd9 : (!decide (z9b < 0)) = true := by rw [decide_eq_false hz9b]; rfl
          simp only [hd9]
          go_wp2
          go_end0
          exact ⟨rfl, S9b.out⟩
    · have hch1 : (c : Int) ≥ (hi : Int) := by omega
      go_wp2
      go_end0
      exact ⟨rfl, S1.out⟩


end Go.Proofs.Ytjhpbemnklpefaa

namespace Go.Proofs.Ytjhpbemnklpefaa
open Go.RowKit Go.Lib Plain

theorem heap_facts {n a b : Nat} (hn : n ≤ 110075314176) (hab : a < b) (hb : b ≤ n) : ∃ l m d : Nat,
    ((b : Int) - (a : Int) = (l : Int) ∧ (l : Int) - 1 = (m : Int) ∧ Int.tdiv (m : Int) 2 = (d : Int)) ∧ (Sm l ∧ Sm m ∧ Sm d) ∧ (a + l ≤ n ∧ d + 1 ≤ n ∧ m + 1 = l) := by
  refine ⟨b - a, b - a - 1, (b - a - 1) / 2, ⟨by omega, by omega, ?_⟩, ⟨sm hn (by omega), sm hn (by omega), sm hn (by omega)⟩, by omega, by omega, by omega⟩
  rw [Int.tdiv_eq_ediv_of_nonneg (by omega)]
  omega
theorem meas_dn {j : Nat} : (RowKit.intOf (.int .i64 ((j : Int) - 1)) + 1).toNat < (RowKit.intOf (.int .i64 (j : Int)) + 1).toNat := by
  simp [RowKit.intOf]
theorem succ_dn (j : Nat) : ((j + 1 : Nat) : Int) - 1 = (j : Int) := by omega
theorem heap_idx {n a l j : Nat} (hn : n ≤ 110075314176) (h : a + l ≤ n) (hj : j + 1 ≤ l) : ∃ J : Nat, (a : Int) + (j : Int) = (J : Int) ∧ Sm J ∧ J < n ∧ (J : Int) < (n : Int) ∧ (a : Int) < (n : Int) ∧ a < n ∧ Sm j ∧ a + j ≤ n :=
  ⟨a + j, by omega, sm hn (by omega), by omega, by omega, by omega, by omega, sm hn (by omega), by omega⟩

set_option maxHeartbeats 16000000 in
set_option maxRecDepth 100000 in
theorem heapSort_any (g : Tg) (w : World) (S : Value) (hx : SX g w S) (q n cap : Nat) (hn : n ≤ 110075314176) (f : Nat → Rt) (W : World) (hS : SS g w q n f W) (a b : Nat) (hab : a < b) (hb : b ≤ n) :
    Calls Try.prog 82 #[.slice (some ⟨q, 0, none⟩) n cap, .int .i64 (a : Int), .int .i64 (b : Int), .func (.func 16) #[S] #[]] W (SP g w q n f) := by
  have HD := Lib.hid (fun lo hi first W hS hf hlo => siftDown_any g w S hx q n cap hn f W hS lo hi first hf hlo)
  have HK := Lib.hid hx
  have S0 := Lib.hid hS
  have wA := smA
  have mixed : Try.prog.follows .mixedOrders = true := by kernel_rfl
  clear hS hx
  obtain ⟨l, m, d, ⟨el, em, ed⟩, ⟨sl, sM, sd⟩, hb3⟩ := heap_facts hn hab hb
  have F := Lib.hid (And.intro el (And.intro (smA l sl) (And.intro em (And.intro (smA m sM) (And.intro ed (smA d sd))))))
  have HB := Lib.hid hb3
  have HN := Lib.hid hn
  clear el em ed sl sM sd hb3 hn hab hb
  go_enter Try.func82, Try.ntmps82
  go_upto_region 3 with fail
  simp only [F.out.1, F.out.2.1, F.out.2.2.1, F.out.2.2.2.1, F.out.2.2.2.2.1, F.out.2.2.2.2.2]
  go_wp2
  go_loopw [11] (fun p wr => ∃ k : Nat, p = .int .i64 ((k : Int) - 1) ∧ k ≤ n ∧ Hid (SS g w q n f wr)) (fun p _ => (RowKit.intOf p + 1).toNat)
  case atStart => exact ⟨d + 1, by simp only [F.out.2.2.1, F.out.2.2.2.1, F.out.2.2.2.2.1, F.out.2.2.2.2.2]; rw [succ_dn], HB.out.2.1, S0⟩
  case round =>
    clear S0
    obtain ⟨k, rfl, hk, S1⟩ := hrel
    rcases k with _ | j
    · have h0 : ¬ ((0 : Nat) : Int) - 1 ≥ 0 := by omega
      go_upto_region 7 with fail
      simp only [F.out.2.2.1, F.out.2.2.2.1]
      go_wp2
      go_loopw [12] (fun p wx => ∃ k : Nat, p = .int .i64 ((k : Int) - 1) ∧ k ≤ l ∧ Hid (SS g w q n f wx)) (fun p _ => (RowKit.intOf p + 1).toNat)
      case atStart => exact ⟨m + 1, by simp only [F.out.2.2.1, F.out.2.2.2.1]; rw [succ_dn], Nat.le_of_eq HB.out.2.2, S1⟩
      case round =>
        clear S1
        obtain ⟨k, rfl, hk2, S2⟩ := hrel
        rcases k with _ | j
        · have h1 : ¬ ((0 : Nat) : Int) - 1 ≥ 0 := by omega
          go_wp2
          go_end0
          exact ⟨rfl, S2.out⟩
        · rw [succ_dn]
          have hge : (j : Int) ≥ 0 := Int.natCast_nonneg j
          obtain ⟨J, eJ, sJ, hJ, bJ, ba, ha, sj, haj⟩ := heap_idx HN.out HB.out.1 hk2
          have HJ := Lib.hid (And.intro hJ (And.intro ha haj))
          clear hJ ha haj
          obtain ⟨b1, o1, l1, k1, b2, o2, l2, k2, u, ca, cb, fa, fb, cc, S3⟩ := S2.out.exch HJ.out.2.1 HJ.out.1
          clear S2
          go_upto_region 10 with fail
          go_big_region_o
          clear ca cb cc fa fb
          generalize World.drew _ = W3 at S3 ⊢
          clear eJ bJ ba sJ
          go_wp2_with fail
          refine (HD.out 0 j a W3 S3.out HJ.out.2.2 (Nat.zero_le n)).mono ?_
          rintro e W4 ⟨rfl, S4⟩
          have S4 := Lib.hid S4
          clear S3
          have w1 := smB j sj
          go_wp2
          go_roundw
          case rel => exact ⟨j, by rw [w1], Nat.le_of_succ_le hk2, S4⟩
          case measure => (rw [w1]; exact meas_dn)
    · rw [succ_dn]
      have hge : (j : Int) ≥ 0 := Int.natCast_nonneg j
      have sj : Sm j := sm HN.out (Nat.le_trans (Nat.le_of_succ_le hk) (by omega))
      go_wp2_with fail
      refine (HD.out j l a wr S1.out HB.out.1 (Nat.le_of_succ_le hk)).mono ?_
      rintro e W4 ⟨rfl, S4⟩
      have S4 := Lib.hid S4
      clear S1
      have w1 := smB j sj
      go_wp2
      go_roundw
      case rel => exact ⟨j, by rw [w1], Nat.le_of_succ_le hk, S4⟩
      case measure => (rw [w1]; exact meas_dn)


end Go.Proofs.Ytjhpbemnklpefaa
