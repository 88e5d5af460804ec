/-
  Sorting the routes: partial insertion sort. No conditions.
-/
import Derived.Test.YtjhpbemnklpefaaMTpAj
namespace Go.Proofs.Ytjhpbemnklpefaa
open Go.RowKit Go.Lib Plain

def BQ (g : Tg) (w : World) (q n : Nat) (f : Nat → Rt) (e : Ending) (W' : World) : Prop := ∃ x : Bool, e = .returned (.bool x) ∧ SS g w q n f W'
theorem pred_facts {n i : Nat} (hn : n ≤ 110075314176) (h1 : 1 ≤ i) (hi : i ≤ n) : ∃ k : Nat, (i : Int) - 1 = (k : Int) ∧ Sm k ∧ k < n ∧ (k : Int) < (n : Int) ∧ k + 1 = i :=
  ⟨i - 1, by omega, sm hn (by omega), by omega, by omega, by omega⟩
theorem diff_facts {n a b : Nat} (hn : n ≤ 110075314176) (hab : a ≤ b) (hb : b ≤ n) : ∃ l : Nat, (b : Int) - (a : Int) = (l : Int) ∧ Sm l :=
  ⟨b - a, by omega, sm hn (by omega)⟩
theorem eq_ff {a b : Nat} (h : ¬ a = b) : ((a : Int) == (b : Int)) = false := beq_eq_false_iff_ne.2 (by omega)
theorem meas5 {j : Nat} (h : j < 5) : 5 - (RowKit.intOf (.int .i64 ((j + 1 : Nat) : Int))).toNat < 5 - (RowKit.intOf (.int .i64 (j : Int))).toNat := by
  simp only [RowKit.intOf, Int.toNat_natCast]
  omega
theorem measD {j k : Nat} (h : k + 1 = j) : (RowKit.intOf (.int .i64 (k : Int))).toNat < (RowKit.intOf (.int .i64 (j : Int))).toNat := by
  simp only [RowKit.intOf, Int.toNat_natCast]
  omega
theorem measU {b j : Nat} (h : j < b) : b - (RowKit.intOf (.int .i64 ((j + 1 : Nat) : Int))).toNat < b - (RowKit.intOf (.int .i64 (j : Int))).toNat := by
  simp only [RowKit.intOf, Int.toNat_natCast]
  omega

set_option maxHeartbeats 16000000 in
set_option maxRecDepth 100000 in
theorem pis_any (g : Tg) (w : World) (S : Value) (hx : SX g w S) (q n cap : Nat) (hn : n ≤ 110075314176) (f : Nat → Rt) (W : World) (hS : SS g w q n f W) (a b : Nat) (hab : a + 12 < b) (hb : b ≤ n) :
    Calls Try.prog 86 #[.slice (some ⟨q, 0, none⟩) n cap, .int .i64 (a : Int), .int .i64 (b : Int), .func (.func 16) #[S] #[]] W (BQ g w q n f) := by
  have HK := Lib.hid hx
  have S0 := Lib.hid hS
  have wA := smA
  have mixed : Try.prog.follows .mixedOrders = true := by kernel_rfl
  clear hS hx
  have HN := Lib.hid (And.intro hn hb)
  obtain ⟨a1, w0, ha1⟩ : ∃ a1 : Nat, wrap64 ((a : Int) + 1) = (a1 : Int) ∧ Hid (a + 1 ≤ a1 ∧ a1 ≤ b) := ⟨a + 1, smC a (sm hn (by omega)), Lib.hid (by omega)⟩
  have HA := Lib.hid (show a ≤ b by omega)
  clear hn hb hab
  go_enter Try.func86, Try.ntmps86
  go_wp2
  simp only [w0]
  clear w0
  go_loopw [9, 10] (fun p r wr => ∃ i j : Nat, p = .int .i64 (i : Int) ∧ r = .int .i64 (j : Int) ∧ Hid (a + 1 ≤ i ∧ i ≤ b) ∧ j ≤ 5 ∧ Hid (SS g w q n f wr)) (fun _ r _ => 5 - (RowKit.intOf r).toNat)
  case atStart => exact ⟨a1, 0, rfl, rfl, ha1, Nat.zero_le _, S0⟩
  case round =>
    clear S0
    obtain ⟨i0, j, rfl, rfl, Hi0, hj, S1⟩ := hrel
    by_cases hj5 : j < 5
    · have hjz : (j : Int) < 5 := Int.ofNat_lt.2 hj5
      have HJ5 := Lib.hid hj5
      clear hj hj5
      go_wp2
      go_loopw [9] (fun p wr => ∃ i : Nat, p = .int .i64 (i : Int) ∧ Hid (a + 1 ≤ i ∧ i ≤ b) ∧ Hid (SS g w q n f wr)) (fun p _ => b - (RowKit.intOf p).toNat)
      case atStart => exact ⟨i0, rfl, Hi0, S1⟩
      case round =>
        clear S1
        obtain ⟨i, rfl, Hi, S2⟩ := hrel
        go_upto_region 5 with fail
        go_cut [36] (fun sx wx => ∃ x : Bool, sx = .bool x ∧ Hid ((x = true → i < b) ∧ SS g w q n f wx))
        case first =>
          by_cases hij : i < b
          · have hz : (i : Int) < (b : Int) := lt_int hij
            obtain ⟨k, ei, sk, hk, bk, hk1⟩ := pred_facts HN.out.1 (Nat.le_trans (Nat.le_add_left 1 a) Hi.out.1) (Nat.le_trans Hi.out.2 HN.out.2)
            have bi : (i : Int) < (n : Int) := lt_int (Nat.lt_of_lt_of_le hij HN.out.2)
            have HKI := Lib.hid hk
            clear hk hk1
            have HIJ := Lib.hid hij
            clear hij
            obtain ⟨b1, o1, l1, k1, b2, o2, l2, k2, z2g, ca, cb, HC2⟩ := S2.out.pair HK.out (Nat.lt_of_lt_of_le HIJ.out HN.out.2) HKI.out
            have r0 := fun p : Regrown => cell_regrown ca p.d p.os
            have r1 := fun p : Regrown => cell_regrown cb p.d p.os
            refine wp_region_quiet_below (by kernel_rfl) (by kernel_rfl) ?_
            repeat (go_big_quiet_step (with_reducible exact Calls.regrown_of (HC2.out _ _)))
            refine wpQuiet_nil ?_
            rintro W2g ⟨pr, hpr⟩
            have B6 : Below wr.heap.size wr W2g := by rw [hpr]; exact below_regrown wr pr.d pr.os
            have S2g := Lib.hid (S2.out.keep B6)
            clear hpr r0 r1 ca cb HC2 B6 S2
            rename_i hKq
            refine hKq _ _ ?_
            go_meet
            exact ⟨_, rfl, Lib.hid ⟨fun _ => HIJ.out, S2g.out⟩⟩
          · have hz : ¬ (i : Int) < (b : Int) := fun h => hij (Int.ofNat_lt.1 h)
            refine wp_region_quiet_below (by kernel_rfl) (by kernel_rfl) ?_
            repeat (go_big_quiet_step (fail))
            refine wpQuiet_nil ?_
            rintro W2g ⟨pr, hpr⟩
            have B6 : Below wr.heap.size wr W2g := by rw [hpr]; exact below_regrown wr pr.d pr.os
            have S2g := Lib.hid (S2.out.keep B6)
            clear hpr B6 S2
            rename_i hKq
            refine hKq _ _ ?_
            go_meet
            exact ⟨false, rfl, Lib.hid ⟨(fun h => by cases h), S2g.out⟩⟩
        case rest =>
          obtain ⟨x, rfl, Sx⟩ := hcut
          cases x
          · have S2x := Lib.hid Sx.out.2
            clear Sx S2
            obtain ⟨l, el, sl⟩ := diff_facts HN.out.1 HA.out HN.out.2
            by_cases hib : i = b
            · subst hib
              go_wp2
              go_ret
              exact ⟨true, rfl, S2x.out⟩
            · have e1 := eq_ff hib
              have hlt : i < b := Nat.lt_of_le_of_ne Hi.out.2 hib
              have HLT := Lib.hid hlt
              have hne : ¬ (i : Int) = (b : Int) := fun h => hib (Int.ofNat.inj h)
              clear hib hlt
              by_cases h50 : (l : Int) < 50
              · go_wp2
                go_ret
                exact ⟨false, rfl, S2x.out⟩
              · obtain ⟨k, ei, sk, hk, bk, hk1⟩ := pred_facts HN.out.1 (Nat.le_trans (Nat.le_add_left 1 a) Hi.out.1) (Nat.le_trans Hi.out.2 HN.out.2)
                have bi : (i : Int) < (n : Int) := lt_int (Nat.lt_of_lt_of_le HLT.out HN.out.2)
                have HKI := Lib.hid (And.intro hk hk1)
                clear hk hk1
                obtain ⟨b1, o1, l1, k1, b2, o2, l2, k2, u, ca, cb, fa, fb, cc, S3⟩ := S2x.out.exch (Nat.lt_of_lt_of_le HLT.out HN.out.2) HKI.out.1
                clear S2x
                go_upto_region 11 with fail
                go_big_region_o
                clear ca cb cc fa fb
                generalize World.drew _ = W3 at S3 ⊢
                obtain ⟨m, em, sM⟩ := diff_facts HN.out.1 (Nat.le_of_succ_le Hi.out.1) (Nat.le_trans Hi.out.2 HN.out.2)
                go_upto_if 65 with fail
                simp only [em, wA _ sM]
                go_cut [] (fun wx => Hid (SS g w q n f wx))
                case first =>
                  have hk := HKI.out.1
                  by_cases hm : (m : Int) ≥ 2
                  · go_wp2
                    go_loopw [11] (fun p wr => ∃ j : Nat, p = .int .i64 (j : Int) ∧ Hid (j < n) ∧ Hid (SS g w q n f wr)) (fun p _ => (RowKit.intOf p).toNat)
                    case atStart => exact ⟨k, by first | rfl | rw [wA _ sk], Lib.hid hk, S3⟩
                    case round =>
                      clear S3
                      obtain ⟨j4, rfl, Hj4, S4⟩ := hrel
                      by_cases hj : 1 ≤ j4
                      · have hjz : (j4 : Int) ≥ 1 := Int.ofNat_le.2 hj
                        have HJ := Lib.hid hj
                        clear hj
                        obtain ⟨kk, ek, sK, hkk, bkk, hk1⟩ := pred_facts HN.out.1 HJ.out (Nat.le_of_lt Hj4.out)
                        have bj : (j4 : Int) < (n : Int) := lt_int Hj4.out
                        have HKK := Lib.hid (And.intro hkk hk1)
                        clear hkk hk1
                        obtain ⟨b1, o1, l1, k1, b2, o2, l2, k2, z4c, ca, cb, HC2⟩ := S4.out.pair HK.out Hj4.out HKK.out.1
                        have r0 := fun p : Regrown => cell_regrown ca p.d p.os
                        have r1 := fun p : Regrown => cell_regrown cb p.d p.os
                        go_upto_region 16 with fail
                        refine wp_region_quiet_below (by kernel_rfl) (by kernel_rfl) ?_
                        repeat (go_big_quiet_step (with_reducible exact Calls.regrown_of (HC2.out _ _)))
                        refine wpQuiet_nil ?_
                        rintro W4c ⟨pr, hpr⟩
                        have B6 : Below wr.heap.size wr W4c := by rw [hpr]; exact below_regrown wr pr.d pr.os
                        have S4c := Lib.hid (S4.out.keep B6)
                        clear hpr r0 r1 ca cb HC2 B6 S4
                        by_cases hc : z4c < 0
                        · have hd : (!decide (z4c < 0)) = false := by rw [decide_eq_true hc]; rfl
                          simp only [hd]
                          obtain ⟨b1, o1, l1, k1, b2, o2, l2, k2, u, ca, cb, fa, fb, cc, S4w⟩ := S4c.out.exch Hj4.out HKK.out.1
                          clear S4c
                          go_upto_region 17 with fail
                          go_big_region_o
                          clear ca cb cc fa fb
                          generalize World.drew _ = W4w at S4w ⊢
                          go_wp2
                          go_roundw
                          case rel => exact ⟨kk, by first | rfl | rw [wA _ sK], Lib.hid HKK.out.1, S4w⟩
                          case measure => (first | exact measD HKK.out.2 | (rw [wA _ sK]; exact measD HKK.out.2))
                        · have hd : (!decide (z4c < 0)) = true := by rw [decide_eq_false hc]; rfl
                          simp only [hd]
                          go_wp2
                          go_meet
                          exact S4c
                      · have hjz : ¬ (j4 : Int) ≥ 1 := fun h => hj (Int.ofNat_le.1 h)
                        go_wp2
                        go_meet
                        exact S4
                  · go_wp2
                    go_meet
                    exact S3
                case rest =>
                  have S5 := hcut
                  clear hcut S3
                  obtain ⟨m2, em2, sM2⟩ := diff_facts HN.out.1 Hi.out.2 HN.out.2
                  go_upto_if 104 with fail
                  simp only [em2, wA _ sM2]
                  have wu := Lib.hid (smC i (sml HN.out.1 (Nat.le_trans Hi.out.2 HN.out.2)))
                  have w5 := Lib.hid (smC j (smk HN.out.1 (Nat.lt_trans HJ5.out (by decide))))
                  have HU : Hid (i + 1 ≤ b) := HLT
                  by_cases hm2 : (m2 : Int) ≥ 2
                  · go_wp2
                    go_loopw [12] (fun p wr => ∃ j : Nat, p = .int .i64 (j : Int) ∧ Hid (1 ≤ j ∧ j ≤ b) ∧ Hid (SS g w q n f wr)) (fun p _ => b - (RowKit.intOf p).toNat)
                    case atStart => exact ⟨i + 1, by first | rw [wu.out] | rfl, Lib.hid ⟨Nat.le_add_left 1 i, HU.out⟩, S5⟩
                    case round =>
                      clear S5
                      obtain ⟨j6, rfl, Hj6, S6⟩ := hrel
                      by_cases hj : j6 < b
                      · have hjz : (j6 : Int) < (b : Int) := lt_int hj
                        have HJ := Lib.hid hj
                        clear hj
                        obtain ⟨kk, ek, sK, hkk, bkk, hk1⟩ := pred_facts HN.out.1 Hj6.out.1 (Nat.le_of_lt (Nat.lt_of_lt_of_le HJ.out HN.out.2))
                        have bj : (j6 : Int) < (n : Int) := lt_int (Nat.lt_of_lt_of_le HJ.out HN.out.2)
                        have HKK := Lib.hid (And.intro hkk hk1)
                        clear hkk hk1
                        obtain ⟨b1, o1, l1, k1, b2, o2, l2, k2, z6c, ca, cb, HC2⟩ := S6.out.pair HK.out (Nat.lt_of_lt_of_le HJ.out HN.out.2) HKK.out.1
                        have r0 := fun p : Regrown => cell_regrown ca p.d p.os
                        have r1 := fun p : Regrown => cell_regrown cb p.d p.os
                        go_upto_region 22 with fail
                        refine wp_region_quiet_below (by kernel_rfl) (by kernel_rfl) ?_
                        repeat (go_big_quiet_step (with_reducible exact Calls.regrown_of (HC2.out _ _)))
                        refine wpQuiet_nil ?_
                        rintro W6c ⟨pr, hpr⟩
                        have B6 : Below wr.heap.size wr W6c := by rw [hpr]; exact below_regrown wr pr.d pr.os
                        have S6c := Lib.hid (S6.out.keep B6)
                        clear hpr r0 r1 ca cb HC2 B6 S6
                        by_cases hc : z6c < 0
                        · have hd : (!decide (z6c < 0)) = false := by rw [decide_eq_true hc]; rfl
                          simp only [hd]
                          obtain ⟨b1, o1, l1, k1, b2, o2, l2, k2, u, ca, cb, fa, fb, cc, S6w⟩ := S6c.out.exch (Nat.lt_of_lt_of_le HJ.out HN.out.2) HKK.out.1
                          clear S6c
                          go_upto_region 23 with fail
                          go_big_region_o
                          clear ca cb cc fa fb
                          generalize World.drew _ = W6w at S6w ⊢
                          have w1 := smC j6 (sml HN.out.1 (Nat.le_of_lt (Nat.lt_of_lt_of_le HJ.out HN.out.2)))
                          go_wp2
                          go_roundw
                          case rel => exact ⟨j6 + 1, by first | rw [w1] | rfl, Lib.hid ⟨Nat.le_add_left 1 j6, HJ.out⟩, S6w⟩
                          case measure => (first | (rw [w1]; exact measU HJ.out) | exact measU HJ.out)
                        · have hd : (!decide (z6c < 0)) = true := by rw [decide_eq_false hc]; rfl
                          simp only [hd]
                          go_wp2
                          go_roundw
                          case rel => exact ⟨i, j + 1, rfl, by first | rw [w5.out] | rfl, Hi, HJ5.out, S6c⟩
                          case measure => (first | (rw [w5.out]; exact meas5 HJ5.out) | exact meas5 HJ5.out)
                      · have hjz : ¬ (j6 : Int) < (b : Int) := fun h => hj (Int.ofNat_lt.1 h)
                        go_wp2
                        go_roundw
                        case rel => exact ⟨i, j + 1, rfl, by first | rw [w5.out] | rfl, Hi, HJ5.out, S6⟩
                        case measure => (first | (rw [w5.out]; exact meas5 HJ5.out) | exact meas5 HJ5.out)
                  · go_wp2
                    go_roundw
                    case rel => exact ⟨i, j + 1, rfl, by first | rw [w5.out] | rfl, Hi, HJ5.out, S5⟩
                    case measure => (first | (rw [w5.out]; exact meas5 HJ5.out) | exact meas5 HJ5.out)
          · clear S2
            have w1 := smC i (sml HN.out.1 (Nat.le_trans Hi.out.2 HN.out.2))
            go_wp2
            go_roundw
            case rel => exact ⟨i + 1, by first | rw [w1] | rfl, Lib.hid ⟨Nat.le_succ_of_le Hi.out.1, Sx.out.1 rfl⟩, Lib.hid Sx.out.2⟩
            case measure => (first | (rw [w1]; exact measU (Sx.out.1 rfl)) | exact measU (Sx.out.1 rfl))
    · have hjz : ¬ (j : Int) < 5 := fun h => hj5 (Int.ofNat_lt.1 h)
      go_wp2
      go_ret
      exact ⟨false, rfl, S1.out⟩


end Go.Proofs.Ytjhpbemnklpefaa
