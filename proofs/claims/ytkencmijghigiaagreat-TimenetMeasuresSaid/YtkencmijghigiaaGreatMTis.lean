/-
  Texts of this claim laid together: TimP15, Tim15, TimG15, TErr15.
-/
import Derived.Test.YtkencmijghigiaaGreatMLast15
import Derived.Test.YtkencmijghigiaaGreatMInfP15
import Derived.Test.YtkencmijghigiaaGreatMTms
import Derived.Test.YtkencmijghigiaaGreatMPau
namespace Go.Proofs.YtkencmijghigiaaGreat
open Go.RowKit Go.Lib Plain

theorem lstK_bd (p : Int → Bool) : ∀ k : Nat, -1 ≤ lstK p k ∧ lstK p k ≤ (k : Int)
  | 0 => by unfold lstK; split <;> omega
  | k + 1 => by
    unfold lstK
    have := lstK_bd p k
    split <;> omega
theorem lastV_bd {n : Nt} (hb : n.Bd) {par : Fin n.m → Fin n.m} {ls : List (Int × Int)} {i : Fin n.m} {t : Int} (h0 : 0 ≤ lastV n par ls i t) : firstV n par i ≤ t ∧ lastV n par ls i t ≤ (t - firstV n par i) / n.iv := by
  unfold lastV at h0 ⊢
  by_cases h : t < firstV n par i
  · rw [if_pos h] at h0; omega
  · rw [if_neg h] at h0 ⊢
    have hv := hb.iv0
    have hq : 0 ≤ (t - firstV n par i) / n.iv := Int.ediv_nonneg (by omega) (by omega)
    have := (lstK_bd (lostB n par ls i) ((t - firstV n par i) / n.iv).toNat).2
    omega
/-- The last sync arrives by t. -/
theorem lastV_arr {n : Nt} (hb : n.Bd) {par : Fin n.m → Fin n.m} {ls : List (Int × Int)} {i : Fin n.m} {t : Int} (h0 : 0 ≤ lastV n par ls i t) (t1 : t ≤ 1099511627776) : lastV n par ls i t ≤ lastK n par i ∧ arrV n par i (lastV n par ls i t) ≤ t := by
  obtain ⟨h1, h2⟩ := lastV_bd hb h0
  have hv := hb.iv0
  constructor
  · refine Int.le_trans h2 ?_
    unfold lastK
    exact Int.ediv_le_ediv (by omega) (by omega)
  · have h3 : lastV n par ls i t * n.iv ≤ (t - firstV n par i) / n.iv * n.iv := Int.mul_le_mul_of_nonneg_right h2 (by omega)
    have h4 := Int.ediv_mul_le (t - firstV n par i) (show n.iv ≠ 0 by omega)
    unfold arrV
    omega

/-- The time by sync k. -/
def setL (n : Nt) (par : Fin n.m → Fin n.m) (j : Fin n.m) (k : Int) : Int := locV (n.cO j.val) (n.cP j.val) (arrV n par j k)
def setM (n : Nt) (par : Fin n.m → Fin n.m) (j : Fin n.m) (k : Int) : Int := orgV n k + (arI n par k j).1
def syV (n : Nt) (par : Fin n.m → Fin n.m) (j : Fin n.m) (k t : Int) : Int := atV (setL n par j k) (setM n par j k) (arI n par k j).2 (locV (n.cO j.val) (n.cP j.val) t)
theorem set_ok {n : Nt} (hb : n.Bd) (hc : n.Clk) {par : Fin n.m → Fin n.m} (hp : n.Par par) {i : Fin n.m} (h : 0 < i.val) {k : Int} (k0 : 0 ≤ k) (k1 : k ≤ lastK n par i) :
    OkI (orgV n k) (arI n par k i).1 (arI n par k i).2 ∧ Stamp (setL n par i k) ∧ Stamp (setM n par i k) ∧ OkS (setL n par i k) (setM n par i k) (arI n par k i).2 ∧ Tick (arrV n par i k) := by
  obtain ⟨ht, _⟩ := arr_tick hb hp h k0 k1
  obtain ⟨hi, p0, p1⟩ := arI_ok hb hc hp h k0 k1
  obtain ⟨ho, _⟩ := org_bd hb hc hp h k0 k1
  obtain ⟨-, a2, a3⟩ := arI_bd hb hc hp k i.val i rfl h
  have hm := hb.m12
  have hlt := i.isLt
  have l1 := loc_bd (hc i.val i.isLt) ht
  have l2 := loc_bd (hc 0 (Nat.lt_of_le_of_lt (Nat.zero_le _) i.isLt)) ho
  have s1 : Stamp (setL n par i k) := by unfold setL Stamp; omega
  have s2 : Stamp (setM n par i k) := by unfold setM orgV Stamp; omega
  exact ⟨hi, s1, s2, ⟨s1.1, s1.2, s2.1, s2.2, by omega, by omega⟩, ht⟩

end Go.Proofs.YtkencmijghigiaaGreat

namespace Go.Proofs.YtkencmijghigiaaGreat
open Go.RowKit Go.Lib Go.Shelf Plain

theorem set_go {O C P l : Int} (h : OkI O C P) (hl : Stamp l) (hm : Stamp (O + C)) (w : World) :
    Calls Tryz.prog 37 #[.agg #[.int .i64 O, .int .i64 C, .int .i64 P], .int .i64 l] w fun e w' => e = .returned (.tuple #[.agg #[.int .i64 l, .int .i64 (O + C), .int .i64 P], .int .i64 0]) ∧ Below w.heap.size w w' := by
  have h0 := set_any O C P l w
  simpa only [apV, apE, stV, stE, if_pos h, if_pos hl, if_pos hm] using h0
theorem time_go {L M P l : Int} (h : OkS L M P) (hl : Stamp l) (w : World) :
    Calls Tryz.prog 38 #[.agg #[.int .i64 L, .int .i64 M, .int .i64 P], .int .i64 l] w fun e w' => e = .returned (.tuple #[.int .i64 (atV L M P l), .int .i64 0]) ∧ Below w.heap.size w w' := by
  have h0 := time_any L M P l w
  rwa [show timeV L M P l = atV L M P l from if_pos ⟨h, hl⟩, show timeE L M P l = 0 by unfold timeE; rw [if_pos h, if_pos hl]] at h0

/-- What Time answers. -/
def TimCase (n : Nt) (par : Fin n.m → Fin n.m) (ls : List (Int × Int)) (i t r e : Int) : Prop :=
  (¬ (0 ≤ i ∧ i < (n.m : Int)) ∧ r = 0 ∧ e = 2) ∨ ((0 ≤ i ∧ i < (n.m : Int)) ∧ 256 < ls.length ∧ r = 0 ∧ e = 3) ∨ ((0 ≤ i ∧ i < (n.m : Int)) ∧ ls.length ≤ 256 ∧ (t < 0 ∨ (0 ≤ t ∧ 1099511627776 < t)) ∧ r = 0 ∧ e = 2) ∨
    (i = 0 ∧ ls.length ≤ 256 ∧ (0 ≤ t ∧ t ≤ 1099511627776) ∧ r = locV (n.cO 0) (n.cP 0) t ∧ e = 0) ∨
    (∃ j : Fin n.m, 0 < j.val ∧ i = (j.val : Int) ∧ ls.length ≤ 256 ∧ (0 ≤ t ∧ t ≤ 1099511627776) ∧ lastV n par ls j t < 0 ∧ r = 0 ∧ e = 4) ∨
    (∃ j : Fin n.m, 0 < j.val ∧ i = (j.val : Int) ∧ ls.length ≤ 256 ∧ (0 ≤ t ∧ t ≤ 1099511627776) ∧ 0 ≤ lastV n par ls j t ∧ r = syV n par j (lastV n par ls j t) t ∧ e = 0)

set_option maxHeartbeats 8000000 in
set_option maxRecDepth 100000 in
/-- .. at node 0 and at the errors. -/
theorem tTime_head (n : Nt) (hok : netOk n) (hb : n.Bd) (hc : n.Clk) (pa : Option Addr) (cap : Nat) (ls : List (Int × Int)) (i t : Int) (w : World) (hn : n.In w) (r e : Int)
    (h : (¬ (0 ≤ i ∧ i < (n.m : Int)) ∧ r = 0 ∧ e = 2) ∨ ((0 ≤ i ∧ i < (n.m : Int)) ∧ 256 < ls.length ∧ r = 0 ∧ e = 3) ∨ ((0 ≤ i ∧ i < (n.m : Int)) ∧ ls.length ≤ 256 ∧ (t < 0 ∨ (0 ≤ t ∧ 1099511627776 < t)) ∧ r = 0 ∧ e = 2) ∨
    (i = 0 ∧ ls.length ≤ 256 ∧ (0 ≤ t ∧ t ≤ 1099511627776) ∧ r = locV (n.cO 0) (n.cP 0) t ∧ e = 0)) :
    Calls Tryz.prog 18 #[.agg n.vs.toArray, .slice pa ls.length cap, .int .i64 i, .int .i64 t] w fun y w' => y = .returned (.tuple #[.int .i64 r, .int .i64 e]) ∧ Below w.heap.size w w' := by
  have ha2 := Lib.hid (show ∀ w, (isAgg 25).run Tryz.prog w = .ok true w from fun w => by kernel_rfl)
  have hs := Lib.hid (show ∀ w, (sizeOf 67).run Tryz.prog w = .ok n.vs.length w from fun w => by kernel_rfl)
  have hs2 := Lib.hid (show ∀ w, (sizeOf 25).run Tryz.prog w = .ok n.vs.length w from fun w => by kernel_rfl)
  have hs0 := Lib.hid (show ∀ w, (sizeOf 67).run Tryz.prog w = .ok zT.length w from fun w => by kernel_rfl)
  have hm := hb.m12
  have hm1 := hn.m1
  have HN := Lib.hid hn
  clear hn
  by_cases hr : 0 ≤ i ∧ i < (n.m : Int)
  · have HO := Lib.hid (fun W (hW : n.In W) => open_any n hm i W hW n.vs 0 (.inr (.inr ⟨hok, hr, rfl, rfl⟩)))
    go_enter Tryz.func18, Tryz.ntmps18
    rw [n.lit]
    go_wp2_with ((with_reducible refine at_load 25 (.tmp 4) ?_); refine wpList_load_whole rfl (.tmp 4) 25 rfl w.heap.size 0 n.vs rfl ha2.out hs2.out (holds_alloc w n.vs 25 rfl) ?_; simp only [Act.put, List.setIfInBounds_toArray, List.set_cons_succ, List.set_cons_zero])
    refine (HO.out _ (HN.out.keep (below_alloc (Below.refl _ _) _))).mono ?_
    rintro y w1 ⟨rfl, hb1⟩
    have H1 := Lib.hid (below_step (below_alloc (Below.refl _ _) _) hb1)
    have z1 := H1.out.size
    clear hb1 HO
    go_upto_region 2 with ((with_reducible refine at_store 67 (.tmp 10) (.tmp 23) ?_); refine wpList_store_whole rfl (.tmp 10) (.tmp 23) 67 rfl w1.heap.size 0 n.vs rfl rfl hs.out (zT_new _ rfl) (fun j _ => frozen_new _ _ _ _ rfl) n.vs_one ?_; intro w2 hw2)
    have M2 := Lib.hid (show Holds w2 w1.heap.size n.vs from hw2.here)
    have H2 := Lib.hid (hw2.below _ _ z1 (below_alloc H1.out _))
    have N2 := Lib.hid (HN.out.keep H2.out)
    have c0 : w2.cell? ⟨w1.heap.size, 0, none⟩ = some (.slice (some ⟨n.bc, n.oc, none⟩) n.m n.kc) := M2.out 0 _ rfl
    clear hw2 H1 HN
    rcases h with ⟨h1, _⟩ | ⟨_, h2, rfl, rfl⟩ | ⟨_, h2, h3, rfl, rfl⟩ | ⟨rfl, h2, ht, hr', rfl⟩
    · exact absurd hr h1
    · have h2' : (256 : Int) < (ls.length : Int) := by omega
      go_wp2
      go_ret2
      exact ⟨rfl, H2.out⟩
    · have h2' : ¬ (256 : Int) < (ls.length : Int) := by omega
      rcases h3 with h4 | ⟨t0, h4⟩
      all_goals
        go_wp2
        go_ret2
        exact ⟨rfl, H2.out⟩
    · have h2' : ¬ (256 : Int) < (ls.length : Int) := by omega
      have HF := Lib.hid (fun W => face_ok (n.cO 0) (n.cP 0) t (hc 0 hm1) ht W)
      rw [← hr'] at HF
      obtain ⟨t0, t1⟩ := ht
      have x1 : (0 : Int) < (n.m : Int) := by omega
      have e0 : w2.cell? ⟨n.bc, n.oc + 0 * 2, none⟩ = some (.int .i64 (n.cO 0)) := N2.out.c0 _ hm1
      have e1 : w2.cell? ⟨n.bc, n.oc + 0 * 2 + 1, none⟩ = some (.int .i64 (n.cP 0)) := N2.out.c1 _ hm1
      rw [Nat.zero_mul, Nat.add_zero] at e0 e1
      clear hr'
      go_wp2_with fail
      refine (HF.out _).mono ?_
      rintro y w3 ⟨rfl, hb3⟩
      have H3 := Lib.hid (below_step H2.out hb3)
      go_wp2
      go_ret2
      exact ⟨rfl, H3.out⟩
  · have HO := Lib.hid (fun W (hW : n.In W) => open_any n hm i W hW zT 2 (.inr (.inl ⟨hok, hr, rfl, rfl⟩)))
    obtain ⟨rfl, rfl⟩ : r = 0 ∧ e = 2 := by
      rcases h with ⟨_, h2, h3⟩ | ⟨h1, _⟩ | ⟨h1, _⟩ | ⟨h1, _⟩
      · exact ⟨h2, h3⟩
      · exact absurd h1 hr
      · exact absurd h1 hr
      · exact absurd ⟨by omega, by omega⟩ hr
    clear h hr
    go_enter Tryz.func18, Tryz.ntmps18
    rw [n.lit]
    go_wp2_with ((with_reducible refine at_load 25 (.tmp 4) ?_); refine wpList_load_whole rfl (.tmp 4) 25 rfl w.heap.size 0 n.vs rfl ha2.out hs2.out (holds_alloc w n.vs 25 rfl) ?_; simp only [Act.put, List.setIfInBounds_toArray, List.set_cons_succ, List.set_cons_zero])
    refine (HO.out _ (HN.out.keep (below_alloc (Below.refl _ _) _))).mono ?_
    rintro y w1 ⟨rfl, hb1⟩
    have H1 := Lib.hid (below_step (below_alloc (Below.refl _ _) _) hb1)
    have z1 := H1.out.size
    clear hb1 HO
    go_wp2_with ((with_reducible refine at_store 67 (.tmp 10) (.tmp 23) ?_); refine wpList_store_whole rfl (.tmp 10) (.tmp 23) 67 rfl w1.heap.size 0 zT rfl rfl hs0.out (zT_new _ rfl) (fun j _ => frozen_new _ _ _ _ rfl) zT_one ?_; intro w2 hw2)
    go_ret2
    exact ⟨rfl, hw2.below _ _ z1 (below_alloc H1.out _)⟩

end Go.Proofs.YtkencmijghigiaaGreat

namespace Go.Proofs.YtkencmijghigiaaGreat
open Go.RowKit Go.Lib Go.Shelf Plain

theorem size_srv : ∀ w, (sizeOf 86).run Tryz.prog w = .ok 3 w := fun w => by kernel_rfl
theorem agg_srv : ∀ w, (isAgg 86).run Tryz.prog w = .ok true w := fun w => by kernel_rfl

set_option maxHeartbeats 8000000 in
set_option maxRecDepth 100000 in
theorem tTime_go (n : Nt) (hok : netOk n) (hb : n.Bd) (hc : n.Clk) (par : Fin n.m → Fin n.m) (hp : n.Par par) (pa : Option Addr) (cap : Nat) (ls : List (Int × Int)) (hw : ∀ y ∈ ls, WfL y) (h256 : ls.length ≤ 256) (j : Fin n.m) (j0 : 0 < j.val) (t : Int) (t0 : 0 ≤ t) (t1 : t ≤ 1099511627776) (w : World) (hn : n.In w) (hl : LsIn pa ls w) (r e : Int)
    (h : (lastV n par ls j t < 0 ∧ r = 0 ∧ e = 4) ∨ (0 ≤ lastV n par ls j t ∧ r = syV n par j (lastV n par ls j t) t ∧ e = 0)) :
    Calls Tryz.prog 18 #[.agg n.vs.toArray, .slice pa ls.length cap, .int .i64 (j.val : Int), .int .i64 t] w fun y w' => y = .returned (.tuple #[.int .i64 r, .int .i64 e]) ∧ Below w.heap.size w w' := by
  have ha := Lib.hid (show ∀ w, (isAgg 67).run Tryz.prog w = .ok true w from fun w => by kernel_rfl)
  have hs := Lib.hid (show ∀ w, (sizeOf 67).run Tryz.prog w = .ok n.vs.length w from fun w => by kernel_rfl)
  have ha2 := Lib.hid (show ∀ w, (isAgg 25).run Tryz.prog w = .ok true w from fun w => by kernel_rfl)
  have hs2 := Lib.hid (show ∀ w, (sizeOf 25).run Tryz.prog w = .ok n.vs.length w from fun w => by kernel_rfl)
  have hm := hb.m12
  have hr : 0 ≤ (j.val : Int) ∧ (j.val : Int) < (n.m : Int) := ⟨by omega, by have := j.isLt; omega⟩
  have HO := Lib.hid (fun W (hW : n.In W) => open_any n hm (j.val : Int) W hW n.vs 0 (.inr (.inr ⟨hok, hr, rfl, rfl⟩)))
  have HFt := Lib.hid (fun W => face_ok (n.cO j.val) (n.cP j.val) t (hc j.val j.isLt) ⟨t0, t1⟩ W)
  have hj := j.isLt
  obtain ⟨i0, i1⟩ := hr
  have h2' : ¬ (256 : Int) < (ls.length : Int) := by omega
  have jz : ¬ (j.val : Int) = 0 := by omega
  have jz2 : ¬ j.val = 0 := by omega
  have jzb : ((j.val : Int) == 0) = false := beq_eq_false_iff_ne.2 jz
  have HN := Lib.hid hn
  have HL := Lib.hid hl
  clear hn hl
  obtain ⟨k, hk⟩ : ∃ k, lastV n par ls j t = k := ⟨_, rfl⟩
  rw [hk] at h
  obtain ⟨now, hnow⟩ : ∃ v, locV (n.cO j.val) (n.cP j.val) t = v := ⟨_, rfl⟩
  rw [hnow] at HFt
  have HLa := Lib.hid (fun W (hW : n.In W) (hX : LsIn pa ls W) (r e : Int) (hr : LastCase n par ls j t r e) => last_any n hb par hp j pa cap ls hw h256 t t0 t1 W hW hX r e hr)
  rcases h with ⟨k0, rfl, rfl⟩ | ⟨k0, hr', rfl⟩
  · have HLb := Lib.hid (fun W (hW : n.In W) (hX : LsIn pa ls W) => HLa.out W hW hX 0 4 (.inl ⟨by omega, rfl, rfl⟩))
    clear HLa
    go_enter Tryz.func18, Tryz.ntmps18
    rw [n.lit]
    go_wp2_with ((with_reducible refine at_load 25 (.tmp 4) ?_); refine wpList_load_whole rfl (.tmp 4) 25 rfl w.heap.size 0 n.vs rfl ha2.out hs2.out (holds_alloc w n.vs 25 rfl) ?_; simp only [Act.put, List.setIfInBounds_toArray, List.set_cons_succ, List.set_cons_zero])
    refine (HO.out _ (HN.out.keep (below_alloc (Below.refl _ _) _))).mono ?_
    rintro y w1 ⟨rfl, hb1⟩
    have H1 := Lib.hid (below_step (below_alloc (Below.refl _ _) _) hb1)
    have z1 := H1.out.size
    clear hb1 HO
    go_upto_region 2 with ((with_reducible refine at_store 67 (.tmp 10) (.tmp 23) ?_); refine wpList_store_whole rfl (.tmp 10) (.tmp 23) 67 rfl w1.heap.size 0 n.vs rfl rfl hs.out (zT_new _ rfl) (fun j _ => frozen_new _ _ _ _ rfl) n.vs_one ?_; intro w2 hw2)
    have M2 := Lib.hid (show Holds w2 w1.heap.size n.vs from hw2.here)
    have H2 := Lib.hid (hw2.below _ _ z1 (below_alloc H1.out _))
    have N2 := Lib.hid (HN.out.keep H2.out)
    have L2 := Lib.hid (HL.out.keep H2.out)
    have c0 : w2.cell? ⟨w1.heap.size, 0, none⟩ = some (.slice (some ⟨n.bc, n.oc, none⟩) n.m n.kc) := M2.out 0 _ rfl
    have e0 : w2.cell? ⟨n.bc, n.oc + j.val * 2, none⟩ = some (.int .i64 (n.cO j.val)) := N2.out.c0 _ hj
    have e1 : w2.cell? ⟨n.bc, n.oc + j.val * 2 + 1, none⟩ = some (.int .i64 (n.cP j.val)) := N2.out.c1 _ hj
    clear hw2 H1 HN HL
    go_wp2_with fail
    refine (HFt.out _).mono ?_
    rintro y w3 ⟨rfl, hb3⟩
    have M3 := Lib.hid (M2.out.keep hb3)
    have H3 := Lib.hid (below_step H2.out hb3)
    have N3 := Lib.hid (N2.out.keep hb3)
    have L3 := Lib.hid (L2.out.keep hb3)
    clear hb3 M2 H2 N2 L2 c0 e0 e1 HFt
    go_wp2_with ((with_reducible refine at_load 67 (.tmp 10) ?_); refine wpList_load_whole rfl (.tmp 10) 67 rfl w1.heap.size 0 n.vs rfl ha.out hs.out M3.out ?_; simp only [Act.put, List.setIfInBounds_toArray, List.set_cons_succ, List.set_cons_zero])
    refine (HLb.out _ N3.out L3.out).mono ?_
    rintro y w4 ⟨rfl, hb4⟩
    have H4 := Lib.hid (below_step H3.out hb4)
    go_wp2
    go_ret2
    exact ⟨rfl, H4.out⟩
  · have hk0 : 0 ≤ lastV n par ls j t := by omega
    obtain ⟨k1, k2⟩ := lastV_arr hb hk0 t1
    rw [hk] at k1 k2
    obtain ⟨oi, ol, om, os, ot⟩ := set_ok hb hc hp j0 k0 k1
    have oc := hc j.val j.isLt
    have hnw := loc_bd oc (t := t) ⟨t0, t1⟩
    rw [hnow] at hnw
    have HLb := Lib.hid (fun W (hW : n.In W) (hX : LsIn pa ls W) => HLa.out W hW hX k 0 (.inr ⟨by omega, hk.symm, rfl⟩))
    have HA := Lib.hid (fun W (hW : n.In W) => arrival_any n hb par hp j k W hW (arrV n par j k) 0 (.inr (.inr ⟨⟨j0, k0, k1⟩, rfl, rfl⟩)))
    have HFa := Lib.hid (fun W => face_ok (n.cO j.val) (n.cP j.val) (arrV n par j k) oc ot W)
    have HI := Lib.hid (fun W (hW : n.In W) => info_any n hb hc par hp k j j0 k0 k1 W hW)
    have HS := Lib.hid (fun W => set_go oi ol om W)
    have HT := Lib.hid (show ∀ W, Calls Tryz.prog 38 #[.agg #[.int .i64 (setL n par j k), .int .i64 (orgV n k + (arI n par k j).1), .int .i64 (arI n par k j).2], .int .i64 now] W fun y w' => y = .returned (.tuple #[.int .i64 r, .int .i64 0]) ∧ Below W.heap.size W w' from fun W => by
      rw [hr']
      unfold syV
      rw [hnow]
      exact time_go os ⟨by omega, by omega⟩ W)
    have hsz := Lib.hid (fun (a b c : Int) => show ∀ w, (sizeOf 44).run Tryz.prog w = .ok [Value.int .i64 a, .int .i64 b, .int .i64 c].length w from size_inf)
    have hai := Lib.hid agg_inf
    have hsv := Lib.hid (fun (a b c : Int) => show ∀ w, (sizeOf 86).run Tryz.prog w = .ok [Value.int .i64 a, .int .i64 b, .int .i64 c].length w from size_srv)
    have hav := Lib.hid agg_srv
    clear HLa hr' hnow oi om os ot oc hnw k1 k2 hk0
    have hsl : setL n par j k = locV (n.cO j.val) (n.cP j.val) (arrV n par j k) := rfl
    rw [← hsl] at HFa
    clear hsl ol
    generalize setL n par j k = sl at *
    generalize (arI n par k j).1 = C at *
    generalize (arI n par k j).2 = P at *
    generalize orgV n k = O at *
    generalize arrV n par j k = av at *
    go_enter Tryz.func18, Tryz.ntmps18
    rw [n.lit]
    go_wp2_with ((with_reducible refine at_load 25 (.tmp 4) ?_); refine wpList_load_whole rfl (.tmp 4) 25 rfl w.heap.size 0 n.vs rfl ha2.out hs2.out (holds_alloc w n.vs 25 rfl) ?_; simp only [Act.put, List.setIfInBounds_toArray, List.set_cons_succ, List.set_cons_zero])
    refine (HO.out _ (HN.out.keep (below_alloc (Below.refl _ _) _))).mono ?_
    rintro y w1 ⟨rfl, hb1⟩
    have H1 := Lib.hid (below_step (below_alloc (Below.refl _ _) _) hb1)
    have z1 := H1.out.size
    clear hb1 HO
    go_upto_region 2 with ((with_reducible refine at_store 67 (.tmp 10) (.tmp 23) ?_); refine wpList_store_whole rfl (.tmp 10) (.tmp 23) 67 rfl w1.heap.size 0 n.vs rfl rfl hs.out (zT_new _ rfl) (fun j _ => frozen_new _ _ _ _ rfl) n.vs_one ?_; intro w2 hw2)
    have M2 := Lib.hid (show Holds w2 w1.heap.size n.vs from hw2.here)
    have H2 := Lib.hid (hw2.below _ _ z1 (below_alloc H1.out _))
    have N2 := Lib.hid (HN.out.keep H2.out)
    have L2 := Lib.hid (HL.out.keep H2.out)
    have c0 : w2.cell? ⟨w1.heap.size, 0, none⟩ = some (.slice (some ⟨n.bc, n.oc, none⟩) n.m n.kc) := M2.out 0 _ rfl
    have e0 : w2.cell? ⟨n.bc, n.oc + j.val * 2, none⟩ = some (.int .i64 (n.cO j.val)) := N2.out.c0 _ hj
    have e1 : w2.cell? ⟨n.bc, n.oc + j.val * 2 + 1, none⟩ = some (.int .i64 (n.cP j.val)) := N2.out.c1 _ hj
    clear hw2 H1 HN HL
    go_wp2_with fail
    refine (HFt.out _).mono ?_
    rintro y w3 ⟨rfl, hb3⟩
    have M3 := Lib.hid (M2.out.keep hb3)
    have H3 := Lib.hid (below_step H2.out hb3)
    have N3 := Lib.hid (N2.out.keep hb3)
    have L3 := Lib.hid (L2.out.keep hb3)
    clear hb3 M2 H2 N2 L2 c0 e0 e1 HFt
    go_wp2_with ((with_reducible refine at_load 67 (.tmp 10) ?_); refine wpList_load_whole rfl (.tmp 10) 67 rfl w1.heap.size 0 n.vs rfl ha.out hs.out M3.out ?_; simp only [Act.put, List.setIfInBounds_toArray, List.set_cons_succ, List.set_cons_zero])
    refine (HLb.out _ N3.out L3.out).mono ?_
    rintro y w4 ⟨rfl, hb4⟩
    have M4 := Lib.hid (M3.out.keep hb4)
    have H4 := Lib.hid (below_step H3.out hb4)
    have N4 := Lib.hid (N3.out.keep hb4)
    clear hb4 M3 H3 N3 L3 HLb
    go_wp2_with ((with_reducible refine at_load 67 (.tmp 10) ?_); refine wpList_load_whole rfl (.tmp 10) 67 rfl w1.heap.size 0 n.vs rfl ha.out hs.out M4.out ?_; simp only [Act.put, List.setIfInBounds_toArray, List.set_cons_succ, List.set_cons_zero])
    refine (HA.out _ N4.out).mono ?_
    rintro y w5 ⟨rfl, hb5⟩
    have M5 := Lib.hid (M4.out.keep hb5)
    have H5 := Lib.hid (below_step H4.out hb5)
    have N5 := Lib.hid (N4.out.keep hb5)
    clear hb5 M4 H4 N4 HA
    go_wp2_with fail
    refine (HFa.out _).mono ?_
    rintro y w6 ⟨rfl, hb6⟩
    have M6 := Lib.hid (M5.out.keep hb6)
    have H6 := Lib.hid (below_step H5.out hb6)
    have N6 := Lib.hid (N5.out.keep hb6)
    clear hb6 M5 H5 N5 HFa
    go_wp2_with ((with_reducible refine at_load 67 (.tmp 10) ?_); refine wpList_load_whole rfl (.tmp 10) 67 rfl w1.heap.size 0 n.vs rfl ha.out hs.out M6.out ?_; simp only [Act.put, List.setIfInBounds_toArray, List.set_cons_succ, List.set_cons_zero])
    refine (HI.out _ N6.out).mono ?_
    rintro y w7 ⟨rfl, hb7⟩
    have H7 := Lib.hid (below_step H6.out hb7)
    clear hb7 M6 H6 N6 HI
    go_wp2_with fail
    refine (HS.out _).mono ?_
    rintro y w8 ⟨rfl, hb8⟩
    have H8 := Lib.hid (below_step H7.out (Below.trans (below_alloc (Below.refl _ _) _) (hb8.mono (by simp))))
    clear hb8 H7 HS
    go_wp2_with fail
    refine (HT.out _).mono ?_
    rintro y w9 ⟨rfl, hb9⟩
    have H9 := Lib.hid (below_step H8.out (Below.trans (below_alloc (Below.refl _ _) _) (hb9.mono (by simp))))
    go_wp2
    go_ret2
    exact ⟨rfl, H9.out⟩

end Go.Proofs.YtkencmijghigiaaGreat

namespace Go.Proofs.YtkencmijghigiaaGreat
open Go.RowKit Go.Lib Go.Shelf Plain

/-- Time, all of it. -/
theorem tTime_any (n : Nt) (hok : netOk n) (hb : n.Bd) (hc : n.Clk) (par : Fin n.m → Fin n.m) (hp : n.Par par) (pa : Option Addr) (cap : Nat) (ls : List (Int × Int)) (hw : ∀ y ∈ ls, WfL y) (i t : Int) (w : World) (hn : n.In w) (hl : LsIn pa ls w) (r e : Int) (h : TimCase n par ls i t r e) :
    Calls Tryz.prog 18 #[.agg n.vs.toArray, .slice pa ls.length cap, .int .i64 i, .int .i64 t] w fun y w' => y = .returned (.tuple #[.int .i64 r, .int .i64 e]) ∧ Below w.heap.size w w' := by
  rcases h with h | h | h | h | ⟨j, j0, rfl, h2, ht, h3⟩ | ⟨j, j0, rfl, h2, ht, h3⟩
  · exact tTime_head n hok hb hc pa cap ls i t w hn r e (.inl h)
  · exact tTime_head n hok hb hc pa cap ls i t w hn r e (.inr (.inl h))
  · exact tTime_head n hok hb hc pa cap ls i t w hn r e (.inr (.inr (.inl h)))
  · exact tTime_head n hok hb hc pa cap ls i t w hn r e (.inr (.inr (.inr h)))
  · exact tTime_go n hok hb hc par hp pa cap ls hw h2 j j0 t ht.1 ht.2 w hn hl r e (.inl h3)
  · exact tTime_go n hok hb hc par hp pa cap ls hw h2 j j0 t ht.1 ht.2 w hn hl r e (.inr h3)

theorem tim_bd {n : Nt} (hb : n.Bd) (hc : n.Clk) {par : Fin n.m → Fin n.m} (hp : n.Par par) (hm : 1 ≤ n.m) {ls : List (Int × Int)} {i t r e : Int} (h : TimCase n par ls i t r e) : -14000000000000 ≤ r ∧ r ≤ 14000000000000 := by
  rcases h with ⟨_, rfl, _⟩ | ⟨_, _, rfl, _⟩ | ⟨_, _, _, rfl, _⟩ | ⟨_, _, ht, rfl, _⟩ | ⟨j, _, _, _, _, _, rfl, _⟩ | ⟨j, j0, _, _, ht, k0, rfl, _⟩
  · omega
  · omega
  · omega
  · have := loc_bd (hc 0 hm) (t := t) ht
    omega
  · omega
  · obtain ⟨k1, _⟩ := lastV_arr hb k0 ht.2
    obtain ⟨_, _, _, os, _⟩ := set_ok hb hc hp j0 k0 k1
    have hl := loc_bd (hc j.val j.isLt) (t := t) ht
    have := at_bd os (l := locV (n.cO j.val) (n.cP j.val) t) ⟨by omega, by omega⟩
    unfold syV
    omega

set_option maxHeartbeats 8000000 in
set_option maxRecDepth 100000 in
theorem tError_any (n : Nt) (hok : netOk n) (hb : n.Bd) (hc : n.Clk) (par : Fin n.m → Fin n.m) (hp : n.Par par) (pa : Option Addr) (cap : Nat) (ls : List (Int × Int)) (hw : ∀ y ∈ ls, WfL y) (i t : Int) (w : World) (hn : n.In w) (hl : LsIn pa ls w) (v r e : Int) (h : TimCase n par ls i t v e)
    (hr : (e ≠ 0 ∧ r = 0) ∨ (e = 0 ∧ (0 ≤ t ∧ t ≤ 1099511627776) ∧ r = v - locV (n.cO 0) (n.cP 0) t)) :
    Calls Tryz.prog 19 #[.agg n.vs.toArray, .slice pa ls.length cap, .int .i64 i, .int .i64 t] w fun y w' => y = .returned (.tuple #[.int .i64 r, .int .i64 e]) ∧ Below w.heap.size w w' := by
  have ha2 := Lib.hid (show ∀ w, (isAgg 25).run Tryz.prog w = .ok true w from fun w => by kernel_rfl)
  have hs2 := Lib.hid (show ∀ w, (sizeOf 25).run Tryz.prog w = .ok n.vs.length w from fun w => by kernel_rfl)
  have hm1 := hn.m1
  have hvb := tim_bd hb hc hp hm1 h
  have HT := Lib.hid (fun W (hW : n.In W) (hX : LsIn pa ls W) => tTime_any n hok hb hc par hp pa cap ls hw i t W hW hX v e h)
  have HN := Lib.hid hn
  have HL := Lib.hid hl
  clear hn hl h
  rcases hr with ⟨h1, rfl⟩ | ⟨rfl, ht, hr⟩
  · go_enter Tryz.func19, Tryz.ntmps19
    rw [n.lit]
    go_wp2_with ((with_reducible refine at_load 25 (.tmp 4) ?_); refine wpList_load_whole rfl (.tmp 4) 25 rfl w.heap.size 0 n.vs rfl ha2.out hs2.out (holds_alloc w n.vs 25 rfl) ?_; simp only [Act.put, List.setIfInBounds_toArray, List.set_cons_succ, List.set_cons_zero])
    refine (HT.out _ (HN.out.keep (below_alloc (Below.refl _ _) _)) (HL.out.keep (below_alloc (Below.refl _ _) _))).mono ?_
    rintro y w1 ⟨rfl, hb1⟩
    have H1 := Lib.hid (below_step (below_alloc (Below.refl _ _) _) hb1)
    go_wp2
    go_ret2
    exact ⟨rfl, H1.out⟩
  · have HF := Lib.hid (fun W => face_ok (n.cO 0) (n.cP 0) t (hc 0 hm1) ht W)
    have hlb := loc_bd (hc 0 hm1) (t := t) ht
    obtain ⟨q, hq⟩ : ∃ q, locV (n.cO 0) (n.cP 0) t = q := ⟨_, rfl⟩
    rw [hq] at HF hr hlb
    clear hq
    obtain ⟨t0, t1⟩ := ht
    obtain ⟨v0, v1⟩ := hvb
    obtain ⟨l0, l1, -, -⟩ := hlb
    have hqr : v - q = r := hr.symm
    have hr0 : -17000000000000 ≤ r := by omega
    have hr1 : r ≤ 17000000000000 := by omega
    clear hr
    have x1 : (0 : Int) < (n.m : Int) := by omega
    go_enter Tryz.func19, Tryz.ntmps19
    rw [n.lit]
    go_wp2_with ((with_reducible refine at_load 25 (.tmp 4) ?_); refine wpList_load_whole rfl (.tmp 4) 25 rfl w.heap.size 0 n.vs rfl ha2.out hs2.out (holds_alloc w n.vs 25 rfl) ?_; simp only [Act.put, List.setIfInBounds_toArray, List.set_cons_succ, List.set_cons_zero])
    refine (HT.out _ (HN.out.keep (below_alloc (Below.refl _ _) _)) (HL.out.keep (below_alloc (Below.refl _ _) _))).mono ?_
    rintro y w1 ⟨rfl, hb1⟩
    have M1 := Lib.hid ((holds_alloc w n.vs 25 rfl).keep hb1)
    have H1 := Lib.hid (below_step (below_alloc (Below.refl _ _) _) hb1)
    have N1 := Lib.hid (HN.out.keep H1.out)
    have c0 : w1.cell? ⟨w.heap.size, 0, none⟩ = some (.slice (some ⟨n.bc, n.oc, none⟩) n.m n.kc) := M1.out 0 _ rfl
    have e0 : w1.cell? ⟨n.bc, n.oc + 0 * 2, none⟩ = some (.int .i64 (n.cO 0)) := N1.out.c0 _ hm1
    have e1 : w1.cell? ⟨n.bc, n.oc + 0 * 2 + 1, none⟩ = some (.int .i64 (n.cP 0)) := N1.out.c1 _ hm1
    rw [Nat.zero_mul, Nat.add_zero] at e0 e1
    clear hb1 HT HN HL M1
    go_wp2_with fail
    refine (HF.out _).mono ?_
    rintro y w3 ⟨rfl, hb3⟩
    have H3 := Lib.hid (below_step H1.out hb3)
    go_wp2
    go_ret2
    exact ⟨rfl, H3.out⟩

end Go.Proofs.YtkencmijghigiaaGreat
