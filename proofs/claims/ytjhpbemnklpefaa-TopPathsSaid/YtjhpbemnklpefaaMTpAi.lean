/-
  Sorting the routes: partition. No conditions.
-/
import Derived.Deep.CutRange
import Derived.Deep.DeepCutAuto
import Derived.Test.YtjhpbemnklpefaaMGh
namespace Go.Proofs.Ytjhpbemnklpefaa
open Go.RowKit Go.Lib Plain

/-- Where both hands of a partition stand. -/
def IJ (a b i j : Nat) : Prop := a + 1 ≤ i ∧ i ≤ b ∧ a ≤ j ∧ j < b
section
variable {n a b i j i0 : Nat}
theorem IJ.lti (h : IJ a b i j) (hb : b ≤ n) (hij : i ≤ j) : i < n := by unfold IJ at h; omega
theorem IJ.ltj (h : IJ a b i j) (hb : b ≤ n) : j < n := by unfold IJ at h; omega
theorem IJ.si (h : IJ a b i j) (hb : b ≤ n) (hn : n ≤ 110075314176) : Sm i := sm hn (by unfold IJ at h; omega)
theorem IJ.sj (h : IJ a b i j) (hb : b ≤ n) (hn : n ≤ 110075314176) : Sm j := sm hn (by unfold IJ at h; omega)
theorem IJ.j1 (h : IJ a b i j) (hij : i ≤ j) : 1 ≤ j := by unfold IJ at h; omega
theorem IJ.up (h : i0 ≤ i ∧ IJ a b i j) (hij : i ≤ j) : i0 ≤ i + 1 ∧ IJ a b (i + 1) j := by unfold IJ at *; omega
theorem IJ.dn (h : IJ a b i j) (hij : i ≤ j) : IJ a b i (j - 1) := by unfold IJ at *; omega
theorem IJ.both (h : IJ a b i j) (hij : i ≤ j) : IJ a b (i + 1) (j - 1) := by unfold IJ at *; omega
theorem IJ.mi (h : IJ a b i j) (hij : i ≤ j) (h0 : i0 ≤ i) : b + 1 - (RowKit.intOf (.int .i64 ((i + 1 : Nat) : Int))).toNat < b + 1 - (RowKit.intOf (.int .i64 (i0 : Int))).toNat := by
  unfold IJ at h
  simp only [RowKit.intOf, Int.toNat_natCast]
  omega
theorem IJ.mj (h : IJ a b i j) (hij : i ≤ j) : (RowKit.intOf (.int .i64 ((j - 1 : Nat) : Int))).toNat < (RowKit.intOf (.int .i64 (j : Int))).toNat := by
  unfold IJ at h
  simp only [RowKit.intOf, Int.toNat_natCast]
  omega
end
def PtQ (g : Tg) (w : World) (q n : Nat) (f : Nat → Rt) (a b : Nat) (e : Ending) (W' : World) : Prop := ∃ (m : Nat) (x : Bool), e = .returned (.tuple #[.int .i64 (m : Int), .bool x]) ∧ (a ≤ m ∧ m < b) ∧ SS g w q n f W'

set_option maxHeartbeats 16000000 in
set_option maxRecDepth 100000 in
theorem partition_any (g : Tg) (w : World) (S : Value) (hx : SX g w S) (q n cap : Nat) (hn : n ≤ 110075314176) (f : Nat → Rt) (W : World) (hS : SS g w q n f W) (a b p : Nat) (hap : a ≤ p) (hpb : p < b) (hb : b ≤ n) :
    Calls Try.prog 88 #[.slice (some ⟨q, 0, none⟩) n cap, .int .i64 (a : Int), .int .i64 (b : Int), .int .i64 (p : Int), .func (.func 16) #[S] #[]] W (PtQ g w q n f a b) := by
  have HK := Lib.hid hx
  have S0 := Lib.hid hS
  have wA := smA
  have mixed : Try.prog.follows .mixedOrders = true := by kernel_rfl
  clear hS hx
  have HN := Lib.hid (And.intro hn (And.intro hap (And.intro hpb hb)))
  have ba : (a : Int) < (n : Int) := by omega
  have bp : (p : Int) < (n : Int) := by omega
  have ha : a < n := by omega
  have hp : p < n := by omega
  have HA := Lib.hid (And.intro ha hp)
  have HI0 : Hid (IJ a b (a + 1) (b - 1)) := Lib.hid (by unfold IJ; omega)
  have F := Lib.hid (And.intro (smC a (sm hn (by omega))) (smD b (sm hn (by omega)) (by omega)))
  clear ha hp hn hap hpb hb
  go_enter Try.func88, Try.ntmps88
  obtain ⟨b1, o1, l1, k1, b2, o2, l2, k2, u, ca, cb, fa, fb, cc, S1⟩ := S0.out.exch HA.out.1 HA.out.2
  clear S0
  go_upto_region 1 with fail
  go_big_region_o
  clear ca cb cc fa fb
  generalize World.drew _ = W1 at S1 ⊢
  clear bp
  go_wp2
  simp only [F.out.1, F.out.2]
  clear F
  generalize b - 1 = j0 at *
  go_loopw [12] (fun p wr => ∃ i : Nat, p = .int .i64 (i : Int) ∧ Hid ((a + 1) ≤ i ∧ IJ a b i j0) ∧ Hid (SS g w q n f wr)) (fun p _ => b + 1 - (RowKit.intOf p).toNat)
  case atStart => exact ⟨(a + 1), rfl, Lib.hid ⟨Nat.le_refl _, HI0.out⟩, S1⟩
  case round =>
    clear S1
    obtain ⟨i1, rfl, Hi1, S1⟩ := hrel
    go_upto_region 3 with fail
    go_cut [47] (fun sx wx => ∃ x : Bool, sx = .bool x ∧ Hid ((x = true → i1 ≤ j0) ∧ SS g w q n f wx))
    case first =>
      by_cases hij : i1 ≤ j0
      · have hz : (i1 : Int) ≤ (j0 : Int) := Int.ofNat_le.2 hij
        have bi : (i1 : Int) < (n : Int) := lt_int (Hi1.out.2.lti HN.out.2.2.2 hij)
        have HIJ := Lib.hid hij
        clear hij
        obtain ⟨b1, o1, l1, k1, b2, o2, l2, k2, z1g, ca, cb, HC2⟩ := S1.out.pair HK.out (Hi1.out.2.lti HN.out.2.2.2 HIJ.out) HA.out.1
        have r0 := fun p : Regrown => cell_regrown ca p.d p.os
        have r1 := fun p : Regrown => cell_regrown cb p.d p.os
        refine wp_region_quiet_below (by kernel_rfl) (by kernel_rfl) ?_
        repeat (go_big_quiet_step (with_reducible exact Calls.regrown_of (HC2.out _ _)))
        refine wpQuiet_nil ?_
        rintro W1g ⟨pr, hpr⟩
        have B6 : Below wr.heap.size wr W1g := by rw [hpr]; exact below_regrown wr pr.d pr.os
        have S1g := Lib.hid (S1.out.keep B6)
        clear hpr r0 r1 ca cb HC2 B6 S1
        rename_i hKq
        refine hKq _ _ ?_
        go_meet
        exact ⟨_, rfl, Lib.hid ⟨fun _ => HIJ.out, S1g.out⟩⟩
      · have hz : ¬ (i1 : Int) ≤ (j0 : Int) := fun h => hij (Int.ofNat_le.1 h)
        refine wp_region_quiet_below (by kernel_rfl) (by kernel_rfl) ?_
        repeat (go_big_quiet_step (fail))
        refine wpQuiet_nil ?_
        rintro W1g ⟨pr, hpr⟩
        have B6 : Below wr.heap.size wr W1g := by rw [hpr]; exact below_regrown wr pr.d pr.os
        have S1g := Lib.hid (S1.out.keep B6)
        clear hpr B6 S1
        rename_i hKq
        refine hKq _ _ ?_
        go_meet
        exact ⟨false, rfl, Lib.hid ⟨(fun h => by cases h), S1g.out⟩⟩
    case rest =>
      obtain ⟨x, rfl, Sx⟩ := hcut
      cases x
      · have S1x := Lib.hid Sx.out.2
        clear Sx S1
        go_wp2
        go_loopw [13] (fun p wr => ∃ j : Nat, p = .int .i64 (j : Int) ∧ Hid (IJ a b i1 j) ∧ Hid (SS g w q n f wr)) (fun p _ => (RowKit.intOf p).toNat)
        case atStart => exact ⟨j0, rfl, Lib.hid Hi1.out.2, S1x⟩
        case round =>
          clear S1x
          obtain ⟨j2, rfl, Hj2, S2⟩ := hrel
          go_upto_region 5 with fail
          go_cut [66] (fun sx wx => ∃ x : Bool, sx = .bool x ∧ Hid ((x = true → i1 ≤ j2) ∧ SS g w q n f wx))
          case first =>
            by_cases hij : i1 ≤ j2
            · have hz : (i1 : Int) ≤ (j2 : Int) := Int.ofNat_le.2 hij
              have bj : (j2 : Int) < (n : Int) := lt_int (Hj2.out.ltj HN.out.2.2.2)
              have HIJ := Lib.hid hij
              clear hij
              obtain ⟨b1, o1, l1, k1, b2, o2, l2, k2, z2g, ca, cb, HC2⟩ := S2.out.pair HK.out (Hj2.out.ltj HN.out.2.2.2) HA.out.1
              have r0 := fun p : Regrown => cell_regrown ca p.d p.os
              have r1 := fun p : Regrown => cell_regrown cb p.d p.os
              refine wp_region_quiet_below (by kernel_rfl) (by kernel_rfl) ?_
              repeat (go_big_quiet_step (with_reducible exact Calls.regrown_of (HC2.out _ _)))
              refine wpQuiet_nil ?_
              rintro W2g ⟨pr, hpr⟩
              have B6 : Below wr.heap.size wr W2g := by rw [hpr]; exact below_regrown wr pr.d pr.os
              have S2g := Lib.hid (S2.out.keep B6)
              clear hpr r0 r1 ca cb HC2 B6 S2
              rename_i hKq
              refine hKq _ _ ?_
              go_meet
              exact ⟨_, rfl, Lib.hid ⟨fun _ => HIJ.out, S2g.out⟩⟩
            · have hz : ¬ (i1 : Int) ≤ (j2 : Int) := fun h => hij (Int.ofNat_le.1 h)
              refine wp_region_quiet_below (by kernel_rfl) (by kernel_rfl) ?_
              repeat (go_big_quiet_step (fail))
              refine wpQuiet_nil ?_
              rintro W2g ⟨pr, hpr⟩
              have B6 : Below wr.heap.size wr W2g := by rw [hpr]; exact below_regrown wr pr.d pr.os
              have S2g := Lib.hid (S2.out.keep B6)
              clear hpr B6 S2
              rename_i hKq
              refine hKq _ _ ?_
              go_meet
              exact ⟨false, rfl, Lib.hid ⟨(fun h => by cases h), S2g.out⟩⟩
          case rest =>
            obtain ⟨x, rfl, Sx⟩ := hcut
            cases x
            · have S2x := Lib.hid Sx.out.2
              clear Sx S2
              by_cases hgt : j2 < i1
              · have hz : (i1 : Int) > (j2 : Int) := lt_int hgt
                have bj : (j2 : Int) < (n : Int) := lt_int (Hj2.out.ltj HN.out.2.2.2)
                obtain ⟨b1, o1, l1, k1, b2, o2, l2, k2, u, ca, cb, fa, fb, cc, S2xe⟩ := S2x.out.exch (Hj2.out.ltj HN.out.2.2.2) HA.out.1
                clear S2x
                go_upto_region 8 with fail
                go_big_region_o
                clear ca cb cc fa fb
                generalize World.drew _ = W2xe at S2xe ⊢
                go_wp2
                go_ret2
                exact ⟨j2, true, rfl, ⟨Hj2.out.2.2.1, Hj2.out.2.2.2⟩, S2xe.out⟩
              · have hz : ¬ (i1 : Int) > (j2 : Int) := fun h => hgt (Int.ofNat_lt.1 h)
                have bj : (j2 : Int) < (n : Int) := lt_int (Hj2.out.ltj HN.out.2.2.2)
                have bi : (i1 : Int) < (n : Int) := lt_int (Hj2.out.lti HN.out.2.2.2 (Nat.le_of_not_lt hgt))
                have HGT := Lib.hid (Nat.le_of_not_lt hgt)
                clear hgt
                obtain ⟨b1, o1, l1, k1, b2, o2, l2, k2, u, ca, cb, fa, fb, cc, S2xe⟩ := S2x.out.exch (Hj2.out.lti HN.out.2.2.2 HGT.out) (Hj2.out.ltj HN.out.2.2.2)
                clear S2x
                go_upto_region 10 with fail
                go_big_region_o
                clear ca cb cc fa fb
                generalize World.drew _ = W2xe at S2xe ⊢
                have w1 := smC i1 (Hi1.out.2.si HN.out.2.2.2 HN.out.1)
                have w2 := smD j2 (Hj2.out.sj HN.out.2.2.2 HN.out.1) (Hj2.out.j1 HGT.out)
                go_wp2
                go_loopw [12, 13] (fun p r wr => ∃ i j : Nat, p = .int .i64 (i : Int) ∧ r = .int .i64 (j : Int) ∧ Hid (IJ a b i j) ∧ Hid (SS g w q n f wr)) (fun p _ _ => b + 1 - (RowKit.intOf p).toNat)
                case atStart => exact ⟨i1 + 1, j2 - 1, by first | rw [w1] | rfl, by first | rw [w2] | rfl, Lib.hid (Hj2.out.both HGT.out), S2xe⟩
                case round =>
                  clear S2xe
                  obtain ⟨i3, j3, rfl, rfl, H3, S3⟩ := hrel
                  go_wp2
                  go_loopw [12] (fun p wr => ∃ i : Nat, p = .int .i64 (i : Int) ∧ Hid (i3 ≤ i ∧ IJ a b i j3) ∧ Hid (SS g w q n f wr)) (fun p _ => b + 1 - (RowKit.intOf p).toNat)
                  case atStart => exact ⟨i3, rfl, Lib.hid ⟨Nat.le_refl _, H3.out⟩, S3⟩
                  case round =>
                    clear S3
                    obtain ⟨i4, rfl, Hi4, S4⟩ := hrel
                    go_upto_region 13 with fail
                    go_cut [120] (fun sx wx => ∃ x : Bool, sx = .bool x ∧ Hid ((x = true → i4 ≤ j3) ∧ SS g w q n f wx))
                    case first =>
                      by_cases hij : i4 ≤ j3
                      · have hz : (i4 : Int) ≤ (j3 : Int) := Int.ofNat_le.2 hij
                        have bi : (i4 : Int) < (n : Int) := lt_int (Hi4.out.2.lti HN.out.2.2.2 hij)
                        have HIJ := Lib.hid hij
                        clear hij
                        obtain ⟨b1, o1, l1, k1, b2, o2, l2, k2, z4g, ca, cb, HC2⟩ := S4.out.pair HK.out (Hi4.out.2.lti HN.out.2.2.2 HIJ.out) HA.out.1
                        have r0 := fun p : Regrown => cell_regrown ca p.d p.os
                        have r1 := fun p : Regrown => cell_regrown cb p.d p.os
                        refine wp_region_quiet_below (by kernel_rfl) (by kernel_rfl) ?_
                        repeat (go_big_quiet_step (with_reducible exact Calls.regrown_of (HC2.out _ _)))
                        refine wpQuiet_nil ?_
                        rintro W4g ⟨pr, hpr⟩
                        have B6 : Below wr.heap.size wr W4g := by rw [hpr]; exact below_regrown wr pr.d pr.os
                        have S4g := Lib.hid (S4.out.keep B6)
                        clear hpr r0 r1 ca cb HC2 B6 S4
                        rename_i hKq
                        refine hKq _ _ ?_
                        go_meet
                        exact ⟨_, rfl, Lib.hid ⟨fun _ => HIJ.out, S4g.out⟩⟩
                      · have hz : ¬ (i4 : Int) ≤ (j3 : Int) := fun h => hij (Int.ofNat_le.1 h)
                        refine wp_region_quiet_below (by kernel_rfl) (by kernel_rfl) ?_
                        repeat (go_big_quiet_step (fail))
                        refine wpQuiet_nil ?_
                        rintro W4g ⟨pr, hpr⟩
                        have B6 : Below wr.heap.size wr W4g := by rw [hpr]; exact below_regrown wr pr.d pr.os
                        have S4g := Lib.hid (S4.out.keep B6)
                        clear hpr B6 S4
                        rename_i hKq
                        refine hKq _ _ ?_
                        go_meet
                        exact ⟨false, rfl, Lib.hid ⟨(fun h => by cases h), S4g.out⟩⟩
                    case rest =>
                      obtain ⟨x, rfl, Sx⟩ := hcut
                      cases x
                      · have S4x := Lib.hid Sx.out.2
                        clear Sx S4
                        go_wp2
                        go_loopw [13] (fun p wr => ∃ j : Nat, p = .int .i64 (j : Int) ∧ Hid (IJ a b i4 j) ∧ Hid (SS g w q n f wr)) (fun p _ => (RowKit.intOf p).toNat)
                        case atStart => exact ⟨j3, rfl, Lib.hid Hi4.out.2, S4x⟩
                        case round =>
                          clear S4x
                          obtain ⟨j5, rfl, Hj5, S5⟩ := hrel
                          go_upto_region 15 with fail
                          go_cut [139] (fun sx wx => ∃ x : Bool, sx = .bool x ∧ Hid ((x = true → i4 ≤ j5) ∧ SS g w q n f wx))
                          case first =>
                            by_cases hij : i4 ≤ j5
                            · have hz : (i4 : Int) ≤ (j5 : Int) := Int.ofNat_le.2 hij
                              have bj : (j5 : Int) < (n : Int) := lt_int (Hj5.out.ltj HN.out.2.2.2)
                              have HIJ := Lib.hid hij
                              clear hij
                              obtain ⟨b1, o1, l1, k1, b2, o2, l2, k2, z5g, ca, cb, HC2⟩ := S5.out.pair HK.out (Hj5.out.ltj HN.out.2.2.2) HA.out.1
                              have r0 := fun p : Regrown => cell_regrown ca p.d p.os
                              have r1 := fun p : Regrown => cell_regrown cb p.d p.os
                              refine wp_region_quiet_below (by kernel_rfl) (by kernel_rfl) ?_
                              repeat (go_big_quiet_step (with_reducible exact Calls.regrown_of (HC2.out _ _)))
                              refine wpQuiet_nil ?_
                              rintro W5g ⟨pr, hpr⟩
                              have B6 : Below wr.heap.size wr W5g := by rw [hpr]; exact below_regrown wr pr.d pr.os
                              have S5g := Lib.hid (S5.out.keep B6)
                              clear hpr r0 r1 ca cb HC2 B6 S5
                              rename_i hKq
                              refine hKq _ _ ?_
                              go_meet
                              exact ⟨_, rfl, Lib.hid ⟨fun _ => HIJ.out, S5g.out⟩⟩
                            · have hz : ¬ (i4 : Int) ≤ (j5 : Int) := fun h => hij (Int.ofNat_le.1 h)
                              refine wp_region_quiet_below (by kernel_rfl) (by kernel_rfl) ?_
                              repeat (go_big_quiet_step (fail))
                              refine wpQuiet_nil ?_
                              rintro W5g ⟨pr, hpr⟩
                              have B6 : Below wr.heap.size wr W5g := by rw [hpr]; exact below_regrown wr pr.d pr.os
                              have S5g := Lib.hid (S5.out.keep B6)
                              clear hpr B6 S5
                              rename_i hKq
                              refine hKq _ _ ?_
                              go_meet
                              exact ⟨false, rfl, Lib.hid ⟨(fun h => by cases h), S5g.out⟩⟩
                          case rest =>
                            obtain ⟨x, rfl, Sx⟩ := hcut
                            cases x
                            · have S5x := Lib.hid Sx.out.2
                              clear Sx S5
                              by_cases hgt : j5 < i4
                              · have hz : (i4 : Int) > (j5 : Int) := lt_int hgt
                                have bj : (j5 : Int) < (n : Int) := lt_int (Hj5.out.ltj HN.out.2.2.2)
                                obtain ⟨b1, o1, l1, k1, b2, o2, l2, k2, u, ca, cb, fa, fb, cc, S5xe⟩ := S5x.out.exch (Hj5.out.ltj HN.out.2.2.2) HA.out.1
                                clear S5x
                                go_upto_region 21 with fail
                                go_big_region_o
                                clear ca cb cc fa fb
                                generalize World.drew _ = W5xe at S5xe ⊢
                                go_wp2
                                go_ret2
                                exact ⟨j5, false, rfl, ⟨Hj5.out.2.2.1, Hj5.out.2.2.2⟩, S5xe.out⟩
                              · have hz : ¬ (i4 : Int) > (j5 : Int) := fun h => hgt (Int.ofNat_lt.1 h)
                                have bj : (j5 : Int) < (n : Int) := lt_int (Hj5.out.ltj HN.out.2.2.2)
                                have bi : (i4 : Int) < (n : Int) := lt_int (Hj5.out.lti HN.out.2.2.2 (Nat.le_of_not_lt hgt))
                                have HGT := Lib.hid (Nat.le_of_not_lt hgt)
                                clear hgt
                                obtain ⟨b1, o1, l1, k1, b2, o2, l2, k2, u, ca, cb, fa, fb, cc, S5xe⟩ := S5x.out.exch (Hj5.out.lti HN.out.2.2.2 HGT.out) (Hj5.out.ltj HN.out.2.2.2)
                                clear S5x
                                go_upto_region 18 with fail
                                go_big_region_o
                                clear ca cb cc fa fb
                                generalize World.drew _ = W5xe at S5xe ⊢
                                have w1 := smC i4 (Hi4.out.2.si HN.out.2.2.2 HN.out.1)
                                have w2 := smD j5 (Hj5.out.sj HN.out.2.2.2 HN.out.1) (Hj5.out.j1 HGT.out)
                                go_wp2
                                go_roundw
                                case rel => exact ⟨i4 + 1, j5 - 1, by first | rw [w1] | rfl, by first | rw [w2] | rfl, Lib.hid (Hj5.out.both HGT.out), S5xe⟩
                                case measure => (first | (rw [w1]; exact Hj5.out.mi HGT.out Hi4.out.1) | exact Hj5.out.mi HGT.out Hi4.out.1)
                            · clear S5
                              have w1 := smD j5 (Hj5.out.sj HN.out.2.2.2 HN.out.1) (Hj5.out.j1 (Sx.out.1 rfl))
                              go_wp2
                              go_roundw
                              case rel => exact ⟨j5 - 1, by first | rw [w1] | rfl, Lib.hid (Hj5.out.dn (Sx.out.1 rfl)), Lib.hid Sx.out.2⟩
                              case measure => (first | (rw [w1]; exact Hj5.out.mj (Sx.out.1 rfl)) | exact Hj5.out.mj (Sx.out.1 rfl))
                      · clear S4
                        have w1 := smC i4 (Hi4.out.2.si HN.out.2.2.2 HN.out.1)
                        go_wp2
                        go_roundw
                        case rel => exact ⟨i4 + 1, by first | rw [w1] | rfl, Lib.hid (IJ.up Hi4.out (Sx.out.1 rfl)), Lib.hid Sx.out.2⟩
                        case measure => (first | (rw [w1]; exact Hi4.out.2.mi (Sx.out.1 rfl) (Nat.le_refl _)) | exact Hi4.out.2.mi (Sx.out.1 rfl) (Nat.le_refl _))
            · clear S2
              have w1 := smD j2 (Hj2.out.sj HN.out.2.2.2 HN.out.1) (Hj2.out.j1 (Sx.out.1 rfl))
              go_wp2
              go_roundw
              case rel => exact ⟨j2 - 1, by first | rw [w1] | rfl, Lib.hid (Hj2.out.dn (Sx.out.1 rfl)), Lib.hid Sx.out.2⟩
              case measure => (first | (rw [w1]; exact Hj2.out.mj (Sx.out.1 rfl)) | exact Hj2.out.mj (Sx.out.1 rfl))
      · clear S1
        have w1 := smC i1 (Hi1.out.2.si HN.out.2.2.2 HN.out.1)
        go_wp2
        go_roundw
        case rel => exact ⟨i1 + 1, by first | rw [w1] | rfl, Lib.hid (IJ.up Hi1.out (Sx.out.1 rfl)), Lib.hid Sx.out.2⟩
        case measure => (first | (rw [w1]; exact Hi1.out.2.mi (Sx.out.1 rfl) (Nat.le_refl _)) | exact Hi1.out.2.mi (Sx.out.1 rfl) (Nat.le_refl _))


end Go.Proofs.Ytjhpbemnklpefaa
