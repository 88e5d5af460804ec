/-
  Sorting the routes: pdqsort. No conditions.
-/
import Derived.Test.YtjhpbemnklpefaaMLm
namespace Go.Proofs.Ytjhpbemnklpefaa
open Go.RowKit Go.Lib Plain

theorem insertion_ss (g : Tg) (w : World) (S : Value) (hx : SX g w S) (q n cap : Nat) (hn : n ≤ 110075314176) (f : Nat → Rt) (W : World) (hS : SS g w q n f W) (a b : Nat) (hb : b ≤ n) (ha : a ≤ n) :
    Calls Try.prog 81 #[.slice (some ⟨q, 0, none⟩) n cap, .int .i64 (a : Int), .int .i64 (b : Int), .func (.func 16) #[S] #[]] W (SP g w q n f) := by
  obtain ⟨hk, hg, rfl⟩ := hx
  obtain ⟨f1, h1, h2⟩ := hS
  exact (insertion_any g hk w hg q n cap hn f1 W h2 a b hb ha).mono fun e w' ⟨he, h⟩ => ⟨he, SS.sub h1 h⟩
theorem reverse_ss (g : Tg) (w : World) (S : Value) (q n cap : Nat) (hn : n ≤ 110075314176) (f : Nat → Rt) (W : World) (hS : SS g w q n f W) (a b : Nat) (hb : b ≤ n) (ha : a ≤ n) :
    Calls Try.prog 85 #[.slice (some ⟨q, 0, none⟩) n cap, .int .i64 (a : Int), .int .i64 (b : Int), .func (.func 16) #[S] #[]] W (SP g w q n f) := by
  obtain ⟨f1, h1, h2⟩ := hS
  exact (reverse_any g w q n cap hn f1 W h2 S a b hb ha).mono fun e w' ⟨he, h⟩ => ⟨he, SS.sub h1 h⟩
def PvQ (g : Tg) (w : World) (q n : Nat) (f : Nat → Rt) (a b : Nat) (e : Ending) (W' : World) : Prop :=
  ∃ (x : Nat) (h : Int), e = .returned (.tuple #[.int .i64 (x : Int), .int .i64 h]) ∧ (a ≤ x ∧ x < b) ∧ (h = 0 ∨ h = 1 ∨ h = 2) ∧ SS g w q n f W'
theorem pivot_ss (g : Tg) (w : World) (S : Value) (hx : SX g w S) (q n cap : Nat) (hn : n ≤ 110075314176) (f : Nat → Rt) (W : World) (hS : SS g w q n f W) (a b : Nat) (hab : a + 12 < b) (hb : b ≤ n) :
    Calls Try.prog 84 #[.slice (some ⟨q, 0, none⟩) n cap, .int .i64 (a : Int), .int .i64 (b : Int), .func (.func 16) #[S] #[]] W (PvQ g w q n f a b) := by
  obtain ⟨hk, hg, rfl⟩ := hx
  obtain ⟨f1, h1, h2⟩ := hS
  exact (pivot_any g hk w hg q n cap hn f1 W h2 a b hab hb).mono fun e w' ⟨x, h, he, hx, hh, hs⟩ => ⟨x, h, he, hx, hh, f1, h1, hs⟩

/-- What stands between the rounds. -/
def PR (n N a b : Nat) : Prop := a ≤ b ∧ b ≤ n ∧ b - a ≤ N
theorem len_facts {n N a b : Nat} (hn : n ≤ 110075314176) (h : PR n N a b) : ∃ l : Nat, (b : Int) - (a : Int) = (l : Int) ∧ Sm l ∧ a + l = b :=
  ⟨b - a, by unfold PR at h; omega, sm hn (by unfold PR at h; omega), by unfold PR at h; omega⟩
theorem turn_facts {n a b x : Nat} (hn : n ≤ 110075314176) (hb : b ≤ n) (hx : a ≤ x ∧ x < b) : ∃ B X Y : Nat, ((b : Int) - 1 = (B : Int) ∧ (x : Int) - (a : Int) = (X : Int) ∧ (B : Int) - (X : Int) = (Y : Int)) ∧ (Sm B ∧ Sm X ∧ Sm Y) ∧ (a ≤ Y ∧ Y < b) :=
  ⟨b - 1, x - a, b - 1 - (x - a), ⟨by omega, by omega, by omega⟩, ⟨sm hn (by omega), sm hn (by omega), sm hn (by omega)⟩, by omega⟩
theorem side_facts {n a b m : Nat} (hn : n ≤ 110075314176) (hb : b ≤ n) (hx : a ≤ m ∧ m < b) : ∃ L R M : Nat, ((m : Int) - (a : Int) = (L : Int) ∧ (b : Int) - (m : Int) = (R : Int) ∧ (m : Int) + 1 = (M : Int)) ∧ (Sm L ∧ Sm R ∧ Sm M) ∧ M = m + 1 :=
  ⟨m - a, b - m, m + 1, ⟨by omega, by omega, by omega⟩, ⟨sm hn (by omega), sm hn (by omega), sm hn (by omega)⟩, rfl⟩
theorem measP {a b a' b' : Nat} (h : b' - a' < b - a) : (RowKit.intOf (.int .i64 (b' : Int)) - RowKit.intOf (.int .i64 (a' : Int))).toNat < (RowKit.intOf (.int .i64 (b : Int)) - RowKit.intOf (.int .i64 (a : Int))).toNat := by
  simp only [RowKit.intOf]
  omega
theorem PR.eq {n N a b m : Nat} (h : PR n N a b) (hm : a < m ∧ m ≤ b) : PR n N m b ∧ b - m < b - a := by unfold PR at *; omega
theorem PR.lo {n N a b m : Nat} (h : PR n N a b) (hm : a ≤ m ∧ m < b) : PR n N (m + 1) b ∧ b - (m + 1) < b - a ∧ a ≤ m ∧ m ≤ n ∧ m - a < N := by unfold PR at *; omega
theorem PR.hi {n N a b m : Nat} (h : PR n N a b) (hm : a ≤ m ∧ m < b) : PR n N a m ∧ m - a < b - a ∧ m + 1 ≤ b ∧ b ≤ n ∧ b - (m + 1) < N := by unfold PR at *; omega

set_option maxHeartbeats 16000000 in
set_option maxRecDepth 100000 in
theorem pdq_step (g : Tg) (w : World) (S : Value) (hx : SX g w S) (q n cap : Nat) (hn : n ≤ 110075314176) (f : Nat → Rt) (W : World) (hS : SS g w q n f W) (N : Nat) (ih : ∀ a b, b - a < N → a ≤ b → b ≤ n → ∀ k : Nat, k ≤ 64 → ∀ W, SS g w q n f W → Calls Try.prog 61 #[.slice (some ⟨q, 0, none⟩) n cap, .int .i64 (a : Int), .int .i64 (b : Int), .int .i64 (k : Int), .func (.func 16) #[S] #[]] W (SP g w q n f)) (a0 b0 k0 : Nat) (hab : a0 ≤ b0) (hb : b0 ≤ n) (hN : b0 - a0 ≤ N) (hk0 : k0 ≤ 64) :
    Calls Try.prog 61 #[.slice (some ⟨q, 0, none⟩) n cap, .int .i64 (a0 : Int), .int .i64 (b0 : Int), .int .i64 (k0 : Int), .func (.func 16) #[S] #[]] W (SP g w q n f) := by
  have HI := Lib.hid (fun W hS a b hb ha => insertion_ss g w S hx q n cap hn f W hS a b hb ha)
  have HH := Lib.hid (fun W hS a b hab hb => heapSort_any g w S hx q n cap hn f W hS a b hab hb)
  have HBP := Lib.hid (fun W hS a b hab hb => breakPatterns_any g w S hx q n cap hn f W hS a b hab hb)
  have HPV := Lib.hid (fun W hS a b hab hb => pivot_ss g w S hx q n cap hn f W hS a b hab hb)
  have HRV := Lib.hid (fun W hS a b hb ha => reverse_ss g w S q n cap hn f W hS a b hb ha)
  have HPI := Lib.hid (fun W hS a b hab hb => pis_any g w S hx q n cap hn f W hS a b hab hb)
  have HPE := Lib.hid (fun W hS a b p hap hpb hb => partitionEqual_any g w S hx q n cap hn f W hS a b p hap hpb hb)
  have HPT := Lib.hid (fun W hS a b p hap hpb hb => partition_any g w S hx q n cap hn f W hS a b p hap hpb hb)
  have IHH := Lib.hid ih
  clear ih
  have HK := Lib.hid hx
  have S0 := Lib.hid hS
  have wA := smA
  have mixed : Try.prog.follows .mixedOrders = true := by kernel_rfl
  clear hS hx
  have HN := Lib.hid hn
  have HPR : Hid (PR n N a0 b0) := Lib.hid ⟨hab, hb, hN⟩
  clear hn hab hb hN
  go_enter Try.func61, Try.ntmps61
  go_wp2
  go_loopw [1, 2, 3, 10, 11] (fun p1 p2 p3 p4 p5 wr => ∃ (a b k : Nat) (x y : Bool), p1 = .int .i64 (a : Int) ∧ p2 = .int .i64 (b : Int) ∧ p3 = .int .i64 (k : Int) ∧ p4 = .bool x ∧ p5 = .bool y ∧ Hid (PR n N a b) ∧ Hid (k ≤ 64) ∧ Hid (SS g w q n f wr)) (fun p1 p2 _ _ _ _ => (RowKit.intOf p2 - RowKit.intOf p1).toNat)
  case atStart => exact ⟨a0, b0, k0, true, true, rfl, rfl, rfl, rfl, rfl, HPR, Lib.hid hk0, S0⟩
  case round =>
    clear S0 HPR hk0
    obtain ⟨a, b, k, x, y, rfl, rfl, rfl, rfl, rfl, HP, Hk, S1⟩ := hrel
    obtain ⟨l, el, sl, hal⟩ := len_facts HN.out HP.out
    have HL := Lib.hid hal
    clear hal
    go_upto_if 25 with fail
    simp only [el, wA _ sl]
    clear el
    by_cases h12 : l ≤ 12
    · have hz : (l : Int) ≤ 12 := Int.ofNat_le.2 h12
      go_wp2_with fail
      refine (HI.out wr S1.out a b HP.out.2.1 (Nat.le_trans HP.out.1 HP.out.2.1)).mono ?_
      rintro e W2 ⟨rfl, S2⟩
      have S2 := Lib.hid S2
      go_wp2
      go_end0
      exact ⟨rfl, S2.out⟩
    · have hz : ¬ (l : Int) ≤ 12 := fun h => h12 (Int.ofNat_le.1 h)
      have HG : Hid (a + 12 < b) := Lib.hid (by have := HL.out; omega)
      clear h12
      by_cases hk0 : k = 0
      · subst hk0
        go_wp2_with fail
        refine (HH.out wr S1.out a b (Nat.lt_of_le_of_lt (Nat.le_add_right a 12) HG.out) HP.out.2.1).mono ?_
        rintro e W2 ⟨rfl, S2⟩
        have S2 := Lib.hid S2
        go_wp2
        go_end0
        exact ⟨rfl, S2.out⟩
      · have n0 : ¬ (k : Int) = 0 := fun h => hk0 (Int.ofNat.inj h)
        have n0b : ((k : Int) == 0) = false := beq_eq_false_iff_ne.2 n0
        have Hk1 : Hid (1 ≤ k) := Lib.hid (Nat.pos_of_ne_zero hk0)
        clear hk0
        go_upto_if 39 with fail
        go_cut [3] (fun s3 wx => ∃ k1 : Nat, s3 = .int .i64 (k1 : Int) ∧ Hid (k1 ≤ 64) ∧ Hid (SS g w q n f wx))
        case first =>
          cases x
          · go_wp2_with fail
            refine (HBP.out wr S1.out a b HG.out HP.out.2.1).mono ?_
            rintro e W2 ⟨rfl, S2⟩
            have S2 := Lib.hid S2
            have w1 := smD k (smk HN.out (Nat.lt_of_le_of_lt Hk.out (by decide))) Hk1.out
            go_wp2
            go_meet
            exact ⟨k - 1, by first | rw [w1] | rfl, Lib.hid (Nat.le_trans (Nat.sub_le k 1) Hk.out), S2⟩
          · go_wp2
            go_meet
            exact ⟨k, rfl, Hk, S1⟩
        case rest =>
          obtain ⟨k1, rfl, Hk2, S3⟩ := hcut
          clear S1 n0 n0b
          go_wp2_with fail
          refine (HPV.out wc S3.out a b HG.out HP.out.2.1).mono ?_
          rintro e W4 ⟨p, h, rfl, hp, hh, S4⟩
          have S4 := Lib.hid S4
          have HX := Lib.hid hp
          have HH2 := Lib.hid hh
          clear S3 hp hh
          go_upto_if 56 with fail
          go_cut [13, 14] (fun s13 s14 wx => ∃ (p : Nat) (z : Bool), s13 = .int .i64 (p : Int) ∧ (∃ h : Int, s14 = .int .i64 h ∧ (h == 1) = z) ∧ Hid (a ≤ p ∧ p < b) ∧ Hid (SS g w q n f wx))
          case first =>
            rcases HH2.out with rfl | rfl | rfl
            · go_wp2
              go_meet
              exact ⟨p, _, rfl, ⟨_, rfl, rfl⟩, HX, S4⟩
            · go_wp2
              go_meet
              exact ⟨p, _, rfl, ⟨_, rfl, rfl⟩, HX, S4⟩
            · obtain ⟨B, X, Y, ⟨eB, eX, eY⟩, ⟨sB, sX, sY⟩, hY⟩ := turn_facts HN.out HP.out.2.1 HX.out
              have HY := Lib.hid hY
              clear hY
              go_wp2_with fail
              refine (HRV.out W4 S4.out a b HP.out.2.1 (Nat.le_trans HP.out.1 HP.out.2.1)).mono ?_
              rintro e W5 ⟨rfl, S5⟩
              have S5 := Lib.hid S5
              go_upto_region 14 with fail
              simp only [eB, wA _ sB, eX, wA _ sX, eY, wA _ sY]
              go_wp2
              go_meet
              exact ⟨Y, _, rfl, ⟨_, rfl, rfl⟩, HY, S5⟩
          case rest =>
            obtain ⟨p2, z, rfl, ⟨h2, rfl, hz2⟩, HX2, S6⟩ := hcut
            clear S4 HX HH2
            go_upto_region 15 with fail
            go_cut [75] (fun s wx => ∃ z : Bool, s = .bool z ∧ Hid (SS g w q n f wx))
            case first =>
              cases x <;> cases y <;> go_wp2 <;> go_meet <;> exact ⟨_, rfl, S6⟩
            case rest =>
              obtain ⟨z3, rfl, S7⟩ := hcut
              clear S6
              go_upto_if 75 with fail
              go_cut [] (fun wx => Hid (SS g w q n f wx))
              case first =>
                cases z3
                · go_wp2
                  go_meet
                  exact S7
                · go_wp2_with fail
                  refine (HPI.out _ S7.out a b HG.out HP.out.2.1).mono ?_
                  rintro e W8 ⟨z4, rfl, S8⟩
                  have S8 := Lib.hid S8
                  cases z4
                  · go_wp2
                    go_meet
                    exact S8
                  · go_wp2
                    go_end0
                    exact ⟨rfl, S8.out⟩
              case rest =>
                have S9 := hcut
                clear hcut S7
                go_upto_region 17 with fail
                go_cut [97] (fun sx wx => ∃ x : Bool, sx = .bool x ∧ Hid ((x = true → 0 < a) ∧ SS g w q n f wx))
                case first =>
                  by_cases hij : 0 < a
                  · have hz : (a : Int) > 0 := Int.ofNat_lt.2 hij
                    have hpa : 0 < a := hij
                    obtain ⟨k, ea, sk, hk, bk, hk1⟩ := pred_facts HN.out hij (Nat.le_trans HP.out.1 HP.out.2.1)
                    have bp : (p2 : Int) < (n : Int) := lt_int (Nat.lt_of_lt_of_le HX2.out.2 HP.out.2.1)
                    have HKK := Lib.hid hk
                    clear hk hk1
                    have HIJ := Lib.hid hij
                    clear hij
                    obtain ⟨b1, o1, l1, k1, b2, o2, l2, k2, z10, ca, cb, HC2⟩ := S9.out.pair HK.out HKK.out (Nat.lt_of_lt_of_le HX2.out.2 HP.out.2.1)
                    have r0 := fun p : Regrown => cell_regrown ca p.d p.os
                    have r1 := fun p : Regrown => cell_regrown cb p.d p.os
                    refine wp_region_quiet_below (by kernel_rfl) (by kernel_rfl) ?_
                    repeat (go_big_quiet_step (with_reducible exact Calls.regrown_of (HC2.out _ _)))
                    refine wpQuiet_nil ?_
                    rintro W10 ⟨pr, hpr⟩
                    have B6 : Below wc.heap.size wc W10 := by rw [hpr]; exact below_regrown wc pr.d pr.os
                    have S10 := Lib.hid (S9.out.keep B6)
                    clear hpr r0 r1 ca cb HC2 B6 S9
                    rename_i hKq
                    refine hKq _ _ ?_
                    go_meet
                    exact ⟨_, rfl, Lib.hid ⟨fun _ => HIJ.out, S10.out⟩⟩
                  · have hz : ¬ (a : Int) > 0 := fun h => hij (Int.ofNat_lt.1 h)
                    refine wp_region_quiet_below (by kernel_rfl) (by kernel_rfl) ?_
                    repeat (go_big_quiet_step (fail))
                    refine wpQuiet_nil ?_
                    rintro W10 ⟨pr, hpr⟩
                    have B6 : Below wc.heap.size wc W10 := by rw [hpr]; exact below_regrown wc pr.d pr.os
                    have S10 := Lib.hid (S9.out.keep B6)
                    clear hpr B6 S9
                    rename_i hKq
                    refine hKq _ _ ?_
                    go_meet
                    exact ⟨false, rfl, Lib.hid ⟨(fun h => by cases h), S10.out⟩⟩
                case rest =>
                  obtain ⟨z5, rfl, Sx⟩ := hcut
                  have S11 := Lib.hid Sx.out.2
                  clear Sx S9
                  cases z5
                  · go_wp2_with fail
                    refine (HPT.out wc S11.out a b p2 HX2.out.1 HX2.out.2 HP.out.2.1).mono ?_
                    rintro e W12 ⟨m, z6, rfl, hm, S12⟩
                    have S12 := Lib.hid S12
                    have HM := Lib.hid hm
                    clear hm S11
                    obtain ⟨L, R, M, ⟨eL, eR, eM⟩, ⟨sL, sR, sM⟩, hM⟩ := side_facts HN.out HP.out.2.1 HM.out
                    have HMM := Lib.hid hM
                    clear hM
                    go_upto_if 125 with fail
                    simp only [eL, wA _ sL, eR, wA _ sR]
                    clear eL eR
                    by_cases hLR : L < R
                    · have hz3 : (L : Int) < (R : Int) := lt_int hLR
                      go_wp2_with fail
                      refine (IHH.out a m (HP.out.lo HM.out).2.2.2.2 (HP.out.lo HM.out).2.2.1 (HP.out.lo HM.out).2.2.2.1 k1 Hk2.out W12 S12.out).mono ?_
                      rintro e W13 ⟨rfl, S13⟩
                      have S13 := Lib.hid S13
                      clear S12
                      go_wp2
                      try simp only [eM, wA _ sM]
                      subst M
                      go_roundw
                      case rel => exact ⟨m + 1, b, k1, _, _, rfl, rfl, rfl, rfl, rfl, Lib.hid (HP.out.lo HM.out).1, Hk2, S13⟩
                      case measure => exact measP (HP.out.lo HM.out).2.1
                    · have hz3 : ¬ (L : Int) < (R : Int) := fun h => hLR (Int.ofNat_lt.1 h)
                      go_wp2_with fail
                      try simp only [eM, wA _ sM]
                      refine (IHH.out M b (by rw [HMM.out]; exact (HP.out.hi HM.out).2.2.2.2) (by rw [HMM.out]; exact (HP.out.hi HM.out).2.2.1) (HP.out.hi HM.out).2.2.2.1 k1 Hk2.out W12 S12.out).mono ?_
                      rintro e W13 ⟨rfl, S13⟩
                      have S13 := Lib.hid S13
                      clear S12
                      go_wp2
                      go_roundw
                      case rel => exact ⟨a, m, k1, _, _, rfl, rfl, rfl, rfl, rfl, Lib.hid (HP.out.hi HM.out).1, Hk2, S13⟩
                      case measure => exact measP (HP.out.hi HM.out).2.1
                  · go_wp2_with fail
                    refine (HPE.out wc S11.out a b p2 HX2.out.1 HX2.out.2 HP.out.2.1).mono ?_
                    rintro e W12 ⟨m, rfl, hm, S12⟩
                    have S12 := Lib.hid S12
                    have HM := Lib.hid hm
                    clear hm S11
                    go_wp2
                    go_roundw
                    case rel => exact ⟨m, b, k1, x, y, rfl, rfl, rfl, rfl, rfl, Lib.hid (HP.out.eq HM.out).1, Hk2, S12⟩
                    case measure => exact measP (HP.out.eq HM.out).2


end Go.Proofs.Ytjhpbemnklpefaa
