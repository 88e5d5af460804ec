/-
  timenet.Time at a node other than 0; timenet.Error.
-/
import Derived.Test.YtkencmijghigiaaMTim15
namespace Go.Proofs.Ytkencmijghigiaa
open Go.RowKit Go.Lib Go.Shelf Plain

theorem size_srv : ∀ w, (sizeOf 77).run Try.prog w = .ok 3 w := fun w => by kernel_rfl
theorem agg_srv : ∀ w, (isAgg 77).run Try.prog w = .ok true w := fun w => by kernel_rfl

set_option maxHeartbeats 8000000 in
set_option maxRecDepth 100000 in
theorem tTime_go (n : Nt) (hok : netOk n) (hb : n.Bd) (hc : n.Clk) (par : Fin n.m → Fin n.m) (hp : n.Par par) (pa : Option Addr) (cap : Nat) (ls : List (Int × Int)) (hw : ∀ y ∈ ls, WfL y) (h256 : ls.length ≤ 256) (j : Fin n.m) (j0 : 0 < j.val) (t : Int) (t0 : 0 ≤ t) (t1 : t ≤ 1099511627776) (w : World) (hn : n.In w) (hl : LsIn pa ls w) (r e : Int)
    (h : (lastV n par ls j t < 0 ∧ r = 0 ∧ e = 4) ∨ (0 ≤ lastV n par ls j t ∧ r = syV n par j (lastV n par ls j t) t ∧ e = 0)) :
    Calls Try.prog 16 #[.agg n.vs.toArray, .slice pa ls.length cap, .int .i64 (j.val : Int), .int .i64 t] w fun y w' => y = .returned (.tuple #[.int .i64 r, .int .i64 e]) ∧ Below w.heap.size w w' := by
  have ha := Lib.hid (show ∀ w, (isAgg 62).run Try.prog w = .ok true w from fun w => by kernel_rfl)
  have hs := Lib.hid (show ∀ w, (sizeOf 62).run Try.prog w = .ok n.vs.length w from fun w => by kernel_rfl)
  have ha2 := Lib.hid (show ∀ w, (isAgg 32).run Try.prog w = .ok true w from fun w => by kernel_rfl)
  have hs2 := Lib.hid (show ∀ w, (sizeOf 32).run Try.prog w = .ok n.vs.length w from fun w => by kernel_rfl)
  have hm := hb.m12
  have hr : 0 ≤ (j.val : Int) ∧ (j.val : Int) < (n.m : Int) := ⟨by omega, by have := j.isLt; omega⟩
  have HO := Lib.hid (fun W (hW : n.In W) => open_any n hm (j.val : Int) W hW n.vs 0 (.inr (.inr ⟨hok, hr, rfl, rfl⟩)))
  have HFt := Lib.hid (fun W => face_ok (n.cO j.val) (n.cP j.val) t (hc j.val j.isLt) ⟨t0, t1⟩ W)
  have hj := j.isLt
  obtain ⟨i0, i1⟩ := hr
  have h2' : ¬ (256 : Int) < (ls.length : Int) := by omega
  have jz : ¬ (j.val : Int) = 0 := by omega
  have jz2 : ¬ j.val = 0 := by omega
  have jzb : ((j.val : Int) == 0) = false := beq_eq_false_iff_ne.2 jz
  have HN := Lib.hid hn
  have HL := Lib.hid hl
  clear hn hl
  obtain ⟨k, hk⟩ : ∃ k, lastV n par ls j t = k := ⟨_, rfl⟩
  rw [hk] at h
  obtain ⟨now, hnow⟩ : ∃ v, locV (n.cO j.val) (n.cP j.val) t = v := ⟨_, rfl⟩
  rw [hnow] at HFt
  have HLa := Lib.hid (fun W (hW : n.In W) (hX : LsIn pa ls W) (r e : Int) (hr : LastCase n par ls j t r e) => last_any n hb par hp j pa cap ls hw h256 t t0 t1 W hW hX r e hr)
  rcases h with ⟨k0, rfl, rfl⟩ | ⟨k0, hr', rfl⟩
  · have HLb := Lib.hid (fun W (hW : n.In W) (hX : LsIn pa ls W) => HLa.out W hW hX 0 4 (.inl ⟨by omega, rfl, rfl⟩))
    clear HLa
    go_enter Try.func16, Try.ntmps16
    rw [n.lit]
    go_wp2_with ((with_reducible refine at_load 32 (.tmp 4) ?_); refine wpList_load_whole rfl (.tmp 4) 32 rfl w.heap.size 0 n.vs rfl ha2.out hs2.out (holds_alloc w n.vs 32 rfl) ?_; simp only [Act.put, List.setIfInBounds_toArray, List.set_cons_succ, List.set_cons_zero])
    refine (HO.out _ (HN.out.keep (below_alloc (Below.refl _ _) _))).mono ?_
    rintro y w1 ⟨rfl, hb1⟩
    have H1 := Lib.hid (below_step (below_alloc (Below.refl _ _) _) hb1)
    have z1 := H1.out.size
    clear hb1 HO
    go_upto_region 2 with ((with_reducible refine at_store 62 (.tmp 10) (.tmp 23) ?_); refine wpList_store_whole rfl (.tmp 10) (.tmp 23) 62 rfl w1.heap.size 0 n.vs rfl rfl hs.out (zT_new _ rfl) (fun j _ => frozen_new _ _ _ _ rfl) n.vs_one ?_; intro w2 hw2)
    have M2 := Lib.hid (show Holds w2 w1.heap.size n.vs from hw2.here)
    have H2 := Lib.hid (hw2.below _ _ z1 (below_alloc H1.out _))
    have N2 := Lib.hid (HN.out.keep H2.out)
    have L2 := Lib.hid (HL.out.keep H2.out)
    have c0 : w2.cell? ⟨w1.heap.size, 0, none⟩ = some (.slice (some ⟨n.bc, n.oc, none⟩) n.m n.kc) := M2.out 0 _ rfl
    have e0 : w2.cell? ⟨n.bc, n.oc + j.val * 2, none⟩ = some (.int .i64 (n.cO j.val)) := N2.out.c0 _ hj
    have e1 : w2.cell? ⟨n.bc, n.oc + j.val * 2 + 1, none⟩ = some (.int .i64 (n.cP j.val)) := N2.out.c1 _ hj
    clear hw2 H1 HN HL
    go_wp2_with fail
    refine (HFt.out _).mono ?_
    rintro y w3 ⟨rfl, hb3⟩
    have M3 := Lib.hid (M2.out.keep hb3)
    have H3 := Lib.hid (below_step H2.out hb3)
    have N3 := Lib.hid (N2.out.keep hb3)
    have L3 := Lib.hid (L2.out.keep hb3)
    clear hb3 M2 H2 N2 L2 c0 e0 e1 HFt
    go_wp2_with ((with_reducible refine at_load 62 (.tmp 10) ?_); refine wpList_load_whole rfl (.tmp 10) 62 rfl w1.heap.size 0 n.vs rfl ha.out hs.out M3.out ?_; simp only [Act.put, List.setIfInBounds_toArray, List.set_cons_succ, List.set_cons_zero])
    refine (HLb.out _ N3.out L3.out).mono ?_
    rintro y w4 ⟨rfl, hb4⟩
    have H4 := Lib.hid (below_step H3.out hb4)
    go_wp2
    go_ret2
    exact ⟨rfl, H4.out⟩
  · have hk0 : 0 ≤ lastV n par ls j t := by omega
    obtain ⟨k1, k2⟩ := lastV_arr hb hk0 t1
    rw [hk] at k1 k2
    obtain ⟨oi, ol, om, os, ot⟩ := set_ok hb hc hp j0 k0 k1
    have oc := hc j.val j.isLt
    have hnw := loc_bd oc (t := t) ⟨t0, t1⟩
    rw [hnow] at hnw
    have HLb := Lib.hid (fun W (hW : n.In W) (hX : LsIn pa ls W) => HLa.out W hW hX k 0 (.inr ⟨by omega, hk.symm, rfl⟩))
    have HA := Lib.hid (fun W (hW : n.In W) => arrival_any n hb par hp j k W hW (arrV n par j k) 0 (.inr (.inr ⟨⟨j0, k0, k1⟩, rfl, rfl⟩)))
    have HFa := Lib.hid (fun W => face_ok (n.cO j.val) (n.cP j.val) (arrV n par j k) oc ot W)
    have HI := Lib.hid (fun W (hW : n.In W) => info_any n hb hc par hp k j j0 k0 k1 W hW)
    have HS := Lib.hid (fun W => set_go oi ol om W)
    have HT := Lib.hid (show ∀ W, Calls Try.prog 35 #[.agg #[.int .i64 (setL n par j k), .int .i64 (orgV n k + (arI n par k j).1), .int .i64 (arI n par k j).2], .int .i64 now] W fun y w' => y = .returned (.tuple #[.int .i64 r, .int .i64 0]) ∧ Below W.heap.size W w' from fun W => by
      rw [hr']
      unfold syV
      rw [hnow]
      exact time_go os ⟨by omega, by omega⟩ W)
    have hsz := Lib.hid (fun (a b c : Int) => show ∀ w, (sizeOf 48).run Try.prog w = .ok [Value.int .i64 a, .int .i64 b, .int .i64 c].length w from size_inf)
    have hai := Lib.hid agg_inf
    have hsv := Lib.hid (fun (a b c : Int) => show ∀ w, (sizeOf 77).run Try.prog w = .ok [Value.int .i64 a, .int .i64 b, .int .i64 c].length w from size_srv)
    have hav := Lib.hid agg_srv
    clear HLa hr' hnow oi om os ot oc hnw k1 k2 hk0
    have hsl : setL n par j k = locV (n.cO j.val) (n.cP j.val) (arrV n par j k) := rfl
    rw [← hsl] at HFa
    clear hsl ol
    generalize setL n par j k = sl at *
    generalize (arI n par k j).1 = C at *
    generalize (arI n par k j).2 = P at *
    generalize orgV n k = O at *
    generalize arrV n par j k = av at *
    go_enter Try.func16, Try.ntmps16
    rw [n.lit]
    go_wp2_with ((with_reducible refine at_load 32 (.tmp 4) ?_); refine wpList_load_whole rfl (.tmp 4) 32 rfl w.heap.size 0 n.vs rfl ha2.out hs2.out (holds_alloc w n.vs 32 rfl) ?_; simp only [Act.put, List.setIfInBounds_toArray, List.set_cons_succ, List.set_cons_zero])
    refine (HO.out _ (HN.out.keep (below_alloc (Below.refl _ _) _))).mono ?_
    rintro y w1 ⟨rfl, hb1⟩
    have H1 := Lib.hid (below_step (below_alloc (Below.refl _ _) _) hb1)
    have z1 := H1.out.size
    clear hb1 HO
    go_upto_region 2 with ((with_reducible refine at_store 62 (.tmp 10) (.tmp 23) ?_); refine wpList_store_whole rfl (.tmp 10) (.tmp 23) 62 rfl w1.heap.size 0 n.vs rfl rfl hs.out (zT_new _ rfl) (fun j _ => frozen_new _ _ _ _ rfl) n.vs_one ?_; intro w2 hw2)
    have M2 := Lib.hid (show Holds w2 w1.heap.size n.vs from hw2.here)
    have H2 := Lib.hid (hw2.below _ _ z1 (below_alloc H1.out _))
    have N2 := Lib.hid (HN.out.keep H2.out)
    have L2 := Lib.hid (HL.out.keep H2.out)
    have c0 : w2.cell? ⟨w1.heap.size, 0, none⟩ = some (.slice (some ⟨n.bc, n.oc, none⟩) n.m n.kc) := M2.out 0 _ rfl
    have e0 : w2.cell? ⟨n.bc, n.oc + j.val * 2, none⟩ = some (.int .i64 (n.cO j.val)) := N2.out.c0 _ hj
    have e1 : w2.cell? ⟨n.bc, n.oc + j.val * 2 + 1, none⟩ = some (.int .i64 (n.cP j.val)) := N2.out.c1 _ hj
    clear hw2 H1 HN HL
    go_wp2_with fail
    refine (HFt.out _).mono ?_
    rintro y w3 ⟨rfl, hb3⟩
    have M3 := Lib.hid (M2.out.keep hb3)
    have H3 := Lib.hid (below_step H2.out hb3)
    have N3 := Lib.hid (N2.out.keep hb3)
    have L3 := Lib.hid (L2.out.keep hb3)
    clear hb3 M2 H2 N2 L2 c0 e0 e1 HFt
    go_wp2_with ((with_reducible refine at_load 62 (.tmp 10) ?_); refine wpList_load_whole rfl (.tmp 10) 62 rfl w1.heap.size 0 n.vs rfl ha.out hs.out M3.out ?_; simp only [Act.put, List.setIfInBounds_toArray, List.set_cons_succ, List.set_cons_zero])
    refine (HLb.out _ N3.out L3.out).mono ?_
    rintro y w4 ⟨rfl, hb4⟩
    have M4 := Lib.hid (M3.out.keep hb4)
    have H4 := Lib.hid (below_step H3.out hb4)
    have N4 := Lib.hid (N3.out.keep hb4)
    clear hb4 M3 H3 N3 L3 HLb
    go_wp2_with ((with_reducible refine at_load 62 (.tmp 10) ?_); refine wpList_load_whole rfl (.tmp 10) 62 rfl w1.heap.size 0 n.vs rfl ha.out hs.out M4.out ?_; simp only [Act.put, List.setIfInBounds_toArray, List.set_cons_succ, List.set_cons_zero])
    refine (HA.out _ N4.out).mono ?_
    rintro y w5 ⟨rfl, hb5⟩
    have M5 := Lib.hid (M4.out.keep hb5)
    have H5 := Lib.hid (below_step H4.out hb5)
    have N5 := Lib.hid (N4.out.keep hb5)
    clear hb5 M4 H4 N4 HA
    go_wp2_with fail
    refine (HFa.out _).mono ?_
    rintro y w6 ⟨rfl, hb6⟩
    have M6 := Lib.hid (M5.out.keep hb6)
    have H6 := Lib.hid (below_step H5.out hb6)
    have N6 := Lib.hid (N5.out.keep hb6)
    clear hb6 M5 H5 N5 HFa
    go_wp2_with ((with_reducible refine at_load 62 (.tmp 10) ?_); refine wpList_load_whole rfl (.tmp 10) 62 rfl w1.heap.size 0 n.vs rfl ha.out hs.out M6.out ?_; simp only [Act.put, List.setIfInBounds_toArray, List.set_cons_succ, List.set_cons_zero])
    refine (HI.out _ N6.out).mono ?_
    rintro y w7 ⟨rfl, hb7⟩
    have H7 := Lib.hid (below_step H6.out hb7)
    clear hb7 M6 H6 N6 HI
    go_wp2_with fail
    refine (HS.out _).mono ?_
    rintro y w8 ⟨rfl, hb8⟩
    have H8 := Lib.hid (below_step H7.out (Below.trans (below_alloc (Below.refl _ _) _) (hb8.mono (by simp))))
    clear hb8 H7 HS
    go_wp2_with fail
    refine (HT.out _).mono ?_
    rintro y w9 ⟨rfl, hb9⟩
    have H9 := Lib.hid (below_step H8.out (Below.trans (below_alloc (Below.refl _ _) _) (hb9.mono (by simp))))
    go_wp2
    go_ret2
    exact ⟨rfl, H9.out⟩

end Go.Proofs.Ytkencmijghigiaa
