/-
  TimenetHolds: for every input the law returns true, and its arguments read as before. No conditions.
-/
import Derived.Test.YtkencmijghigiaaMOpen15m
import Derived.Test.YtkencmijghigiaaMWrks15
import Derived.Test.YtkencmijghigiaaMHld15
namespace Go.Proofs.Ytkencmijghigiaa
open Go.RowKit Go.Lib Go.Shelf Plain
open Go.ChangeShapes Go.WideShapes Go.ChangeAt

theorem agg_drn15 : ∀ w, (isAgg 27).run Try.prog w = .ok true w := fun w => by kernel_rfl
theorem size_drn15 : ∀ w, (sizeOf 27).run Try.prog w = .ok 8 w := fun w => by kernel_rfl

theorem mx2_15 (x y : Int) : (if y > x then y else x) = max x y := by
  rw [Int.max_def]
  split <;> split <;> omega
theorem run_max2_15 (W : World) (ts : Array TypeId) (t : TypeId) (x y : Int) : (Builtin.max_ ts t #[.int .i64 x, .int .i64 y]).run Try.prog W = .ok (.int .i64 (max x y)) W := by
  simp [Builtin.max_, Builtin.max2, mx2_15]

/-- The number of syncs that are missed. -/
def misV (x iv : Int) : Int := max 0 ((x + iv - 1) / iv - 1)
theorem mis_bd {x iv : Int} (x0 : 0 ≤ x) (v0 : 1 ≤ iv) (hx : x + iv ≤ 1099511627776) : 0 ≤ misV x iv ∧ misV x iv < 1099511627776 / iv ∧ x ≤ (misV x iv + 1) * iv ∧ (misV x iv + 1) * iv ≤ 1099511627776 ∧ 0 ≤ (x + iv - 1) / iv ∧ (x + iv - 1) / iv ≤ x + iv - 1 := by
  have h1 : (x + iv - 1) / iv * iv ≤ x + iv - 1 := Int.ediv_mul_le _ (by omega)
  have h2 : x + iv - 1 < ((x + iv - 1) / iv + 1) * iv := Int.lt_ediv_add_one_mul_self _ (by omega)
  have h3 : 0 ≤ (x + iv - 1) / iv := Int.ediv_nonneg (by omega) (by omega)
  have h4 : (x + iv - 1) / iv ≤ x + iv - 1 := Int.ediv_le_self _ (by omega)
  unfold misV
  generalize (x + iv - 1) / iv = q at *
  rw [Int.add_mul] at h2
  have hle : (max 0 (q - 1) + 1) * iv ≤ 1099511627776 := by
    rcases Int.le_total q 1 with h | h
    · rw [show max 0 (q - 1) = 0 by omega]; omega
    · rw [show max 0 (q - 1) + 1 = q by omega]; omega
  refine ⟨by omega, ?_, ?_, hle, h3, h4⟩
  · have := (Int.le_ediv_iff_mul_le (show 0 < iv by omega)).2 hle
    omega
  · rcases Int.le_total q 1 with h | h
    · rw [show max 0 (q - 1) = 0 by omega]
      have : q * iv ≤ 1 * iv := Int.mul_le_mul_of_nonneg_right h (by omega)
      omega
    · rw [show max 0 (q - 1) + 1 = q by omega]
      omega

set_option maxHeartbeats 16000000 in
set_option maxRecDepth 100000 in
theorem timenetHolds_walk (D : Dr) (hb : D.Bd) (pm : Option Addr) (lm km : Nat) (u q : Nat → Int) (hab : ∀ j, j < lm → (0 ≤ u j ∧ u j ≤ 255) ∧ (0 ≤ q j ∧ q j ≤ 255)) (i : Int) (hi : (Lit.int .u8 i).wf = true) (t : Int) (ht : (Lit.int .u32 t).wf = true) (w : World) (hin : D.In w)
    (hmis : ∀ j, j < lm → ∃ bm om, pm = some ⟨bm, om, none⟩ ∧ w.cell? ⟨bm, om + j * 2, none⟩ = some (.int .u8 (u j)) ∧ w.cell? ⟨bm, om + j * 2 + 1, none⟩ = some (.int .u8 (q j))) :
    Calls Try.prog 4 #[.agg D.vs.toArray, .slice pm lm km, .int .u8 i, .int .u32 t] w fun e w' => e = .returned (.bool true) ∧ Below w.heap.size w w' := by
  have ha := Lib.hid (show ∀ w, (isAgg 32).run Try.prog w = .ok true w from fun w => by kernel_rfl)
  have hs0 := Lib.hid (show ∀ n : Nt, ∀ w, (sizeOf 32).run Try.prog w = .ok n.vs.length w from fun n w => by kernel_rfl)
  have HI := Lib.hid hin
  have HB := Lib.hid hb
  have HMi := Lib.hid hmis
  have HAb := Lib.hid hab
  simp [Lit.wf, IntKind.min, IntKind.max, IntKind.signed, IntKind.bits] at hi ht
  obtain ⟨i0, i1⟩ := hi
  obtain ⟨t0, t1⟩ := ht
  clear hin hb hmis hab
  go_enter Try.func4, Try.ntmps4
  rw [D.lit]
  go_wp2_with fail
  refine (works_any _).mono ?_
  rintro y w0 ⟨rfl, hb0⟩
  have HD := Lib.hid ((holds_alloc w D.vs 27 rfl).keep hb0)
  have H0 := Lib.hid (below_step (below_alloc (Below.refl _ _) _) hb0)
  clear hb0
  go_wp2_with ((with_reducible refine at_load 27 (.tmp 4) ?_); refine wpList_load_whole rfl (.tmp 4) 27 rfl w.heap.size 0 D.vs rfl agg_drn15 size_drn15 HD.out ?_; simp only [Act.put, List.setIfInBounds_toArray, List.set_cons_succ, List.set_cons_zero])
  refine (net_any D HB.out _ (HI.out.keep H0.out)).mono ?_
  rintro y w1 ⟨n, par, rfl, hN1, hdn, hb1⟩
  have H1 := Lib.hid (below_step H0.out hb1)
  have HN1 := Lib.hid hN1
  obtain ⟨hok, hbd, hclk, hpar, hv, -, -⟩ := hdn
  have hs := Lib.hid (hs0.out n)
  have hm12 := hbd.m12
  have hm1 := hN1.m1
  have v0 := hbd.iv0
  have hmz : ¬ (n.m : Int) = 0 := by omega
  obtain ⟨x, hx⟩ : ∃ x, i % (n.m : Int) = x := ⟨_, rfl⟩
  have hx0 : 0 ≤ x := by rw [← hx]; exact Int.emod_nonneg _ hmz
  have hx1 : x < (n.m : Int) := by rw [← hx]; exact Int.emod_lt_of_pos _ (by omega)
  have hxt : Int.tmod i (n.m : Int) = x := by rw [Int.tmod_eq_emod_of_nonneg (by omega)]; exact hx
  clear hb1 hN1 H0 HD HI HB hs0 hx
  go_upto_region 4 with ((with_reducible refine at_store 32 (.tmp 9) (.tmp 25) ?_); refine wpList_store_whole rfl (.tmp 9) (.tmp 25) 32 rfl w1.heap.size 0 n.vs rfl rfl hs.out (fun j hj => (holds_alloc w1 zT 32 rfl).some j hj) (fun j _ => frozen_new _ _ _ _ rfl) n.vs_one ?_; intro w2 hw2)
  have M2 := Lib.hid (show Holds w2 w1.heap.size n.vs from hw2.here)
  have H2 := Lib.hid (hw2.below _ _ H1.out.size (below_alloc H1.out _))
  have N2 := Lib.hid (HN1.out.keep (hw2.below _ _ (Nat.le_refl _) (below_alloc (Below.refl w1.heap.size w1) _)))
  clear hw2 H1 HN1
  go_wp2_with ((with_reducible refine at_load 32 (.tmp 9) ?_); refine wpList_load_whole rfl (.tmp 9) 32 rfl w1.heap.size 0 n.vs rfl ha.out hs.out M2.out ?_; simp only [Act.put, List.setIfInBounds_toArray, List.set_cons_succ, List.set_cons_zero])
  refine (losses_any n hm12 pm lm km u q HAb.out _ N2.out (fun j hj => by
    obtain ⟨b, o, e, c0, c1⟩ := HMi.out j hj
    exact ⟨b, o, e, below_keep H2.out c0, below_keep H2.out c1⟩)).mono ?_
  rintro y w3 ⟨pa, cap, ls, rfl, h256, hwl, hLs, hb3⟩
  have M3 := Lib.hid (M2.out.keep hb3)
  have H3 := Lib.hid (below_step H2.out hb3)
  have N3 := Lib.hid (N2.out.keep hb3)
  have L3 := Lib.hid hLs
  have k0 : w3.cell? ⟨w1.heap.size, 0, none⟩ = some (.slice (some ⟨n.bc, n.oc, none⟩) n.m n.kc) := M3.out 0 _ rfl
  clear hb3 M2 H2 N2 hLs HMi HAb
  -- what the calls answer
  have ht40 : 0 ≤ t ∧ t ≤ 1099511627776 := by omega
  have HE := Lib.hid (fun (W : World) (hW : n.In W) (hX : LsIn pa ls W) (v r e : Int) (h : TimCase n par ls x t v e) (hr : (e ≠ 0 ∧ r = 0) ∨ (e = 0 ∧ (0 ≤ t ∧ t ≤ 1099511627776) ∧ r = v - locV (n.cO 0) (n.cP 0) t)) => tError_any n hok hbd hclk par hpar pa cap ls hwl x t W hW hX v r e h hr)
  by_cases hz : x = 0
  · have HE0 := Lib.hid (fun W hW hX => HE.out W hW hX (locV (n.cO 0) (n.cP 0) t) 0 0 (.inr (.inr (.inr (.inl ⟨hz, h256, ht40, rfl, rfl⟩)))) (.inr ⟨rfl, ht40, by omega⟩))
    clear HE
    subst hz
    go_wp2_with ((with_reducible refine at_load 32 (.tmp 9) ?_); refine wpList_load_whole rfl (.tmp 9) 32 rfl w1.heap.size 0 n.vs rfl ha.out hs.out M3.out ?_; simp only [Act.put, List.setIfInBounds_toArray, List.set_cons_succ, List.set_cons_zero])
    refine (HE0.out _ N3.out L3.out).mono ?_
    rintro y w4 ⟨rfl, hb4⟩
    have H4 := Lib.hid (below_step H3.out hb4)
    go_wp2
    go_ret
    exact ⟨rfl, H4.out⟩
  · have hzb : (x == 0) = false := beq_eq_false_iff_ne.2 hz
    obtain ⟨j, hj⟩ : ∃ j : Fin n.m, (j.val : Int) = x := ⟨⟨x.toNat, by omega⟩, by show (x.toNat : Int) = x; omega⟩
    have j0 : 0 < j.val := by omega
    obtain ⟨k, hk⟩ : ∃ k, lastV n par ls j t = k := ⟨_, rfl⟩
    have HLs := Lib.hid (fun (W : World) (hW : n.In W) (hX : LsIn pa ls W) (r e : Int) (h : LstCase n par ls x t r e) => tLast_any n hok hbd par hpar pa cap ls hwl x t W hW (fun _ => hX) r e h)
    by_cases k0' : k < 0
    · have HE0 := Lib.hid (fun W hW hX => HE.out W hW hX 0 0 4 (.inr (.inr (.inr (.inr (.inl ⟨j, j0, hj.symm, h256, ht40, by omega, rfl, rfl⟩))))) (.inl ⟨by omega, rfl⟩))
      have HL0 := Lib.hid (fun W hW hX => HLs.out W hW hX 0 4 (.inr (.inr (.inr ⟨j, j0, hj.symm, h256, ht40, .inl ⟨by omega, rfl, rfl⟩⟩))))
      clear HE HLs hj
      go_wp2_with ((with_reducible refine at_load 32 (.tmp 9) ?_); refine wpList_load_whole rfl (.tmp 9) 32 rfl w1.heap.size 0 n.vs rfl ha.out hs.out M3.out ?_; simp only [Act.put, List.setIfInBounds_toArray, List.set_cons_succ, List.set_cons_zero])
      refine (HE0.out _ N3.out L3.out).mono ?_
      rintro y w4 ⟨rfl, hb4⟩
      have M4 := Lib.hid (M3.out.keep hb4)
      have H4 := Lib.hid (below_step H3.out hb4)
      have N4 := Lib.hid (N3.out.keep hb4)
      have L4 := Lib.hid (L3.out.keep hb4)
      clear hb4 M3 H3 N3 L3 HE0 k0
      go_wp2_with ((with_reducible refine at_load 32 (.tmp 9) ?_); refine wpList_load_whole rfl (.tmp 9) 32 rfl w1.heap.size 0 n.vs rfl ha.out hs.out M4.out ?_; simp only [Act.put, List.setIfInBounds_toArray, List.set_cons_succ, List.set_cons_zero])
      refine (HL0.out _ N4.out L4.out).mono ?_
      rintro y w5 ⟨rfl, hb5⟩
      have H5 := Lib.hid (below_step H4.out hb5)
      go_wp2
      go_ret
      exact ⟨rfl, H5.out⟩
    · have hkk : 0 ≤ lastV n par ls j t := by omega
      obtain ⟨k1, k2⟩ := lastV_arr hbd hkk ht40.2
      rw [hk] at k1 k2
      obtain ⟨⟨a0, a1⟩, a2⟩ := arr_tick hbd hpar j0 (show 0 ≤ k by omega) k1
      obtain ⟨av, hav⟩ : ∃ a, arrV n par j k = a := ⟨_, rfl⟩
      rw [hav] at k2 a0 a1 a2
      obtain ⟨c0, c1, c2, c3, c4, c5⟩ := mis_bd (x := t - av) (iv := n.iv) (by omega) v0 (by omega)
      have hT4 := t4_plain hbd hclk hpar j0 (show 0 ≤ k by omega) k1 (t := t) (X := (misV (t - av) n.iv + 1) * n.iv) (by rw [hav]; exact k2) (by rw [hav]; exact c2) c3
      have htimb := tim_bd hbd hclk hpar hm1 (ls := ls) (i := x) (t := t) (r := syV n par j k t) (e := 0) (.inr (.inr (.inr (.inr (.inr ⟨j, j0, hj.symm, h256, ht40, hkk, by rw [hk], rfl⟩)))))
      have hlb := loc_bd (hclk 0 hm1) (t := t) ht40
      obtain ⟨bv, hbv⟩ : ∃ b, boundV (errV n par j) ((misV (t - av) n.iv + 1) * n.iv + drV ((misV (t - av) n.iv + 1) * n.iv)) (rhoV n par j) = b := ⟨_, rfl⟩
      rw [hbv] at hT4
      obtain ⟨xv, hxv⟩ : ∃ v, syV n par j k t - locV (n.cO 0) (n.cP 0) t = v := ⟨_, rfl⟩
      have hxm : syV n par j k t - mst n t = xv := hxv
      rw [hxm] at hT4
      have HE0 := Lib.hid (fun W hW hX => HE.out W hW hX (syV n par j k t) xv 0 (.inr (.inr (.inr (.inr (.inr ⟨j, j0, hj.symm, h256, ht40, hkk, by rw [hk], rfl⟩))))) (.inr ⟨rfl, ht40, hxv.symm⟩))
      have HL0 := Lib.hid (fun W hW hX => HLs.out W hW hX k 0 (.inr (.inr (.inr ⟨j, j0, hj.symm, h256, ht40, .inr ⟨hkk, hk.symm, rfl⟩⟩))))
      have HAr := Lib.hid (fun W hW => tArrival_any n hok hbd par hpar x k W hW av 0 (.inr ⟨j, hj.symm, .inr (.inr ⟨⟨j0, by omega, k1⟩, hav.symm, rfl⟩)⟩))
      have HBn := Lib.hid (fun W hW => tBound_any n hok hbd par hpar x (misV (t - av) n.iv) W hW bv 0 (.inr (.inr (.inr ⟨j, j0, hj.symm, ⟨c0, c1⟩, hbv.symm, rfl⟩))))
      obtain ⟨h41, h42⟩ := hT4
      have hx61 : -17000000000000 ≤ xv := by omega
      have hx62 : xv ≤ 17000000000000 := by omega
      have hb0' : 0 ≤ bv := by omega
      have hb1' : bv ≤ 1099511627776000 := by
        rw [← hbv]
        obtain ⟨-, d0, d1⟩ := drV_bd (x := (misV (t - av) n.iv + 1) * n.iv) (by omega) c3
        obtain ⟨e0, e1⟩ := err_bd hbd hpar j.val j rfl j0
        obtain ⟨q0, q1⟩ := rho_bd hbd hpar j
        have jm := j.isLt
        have hsb := shr_bd (x := (misV (t - av) n.iv + 1) * n.iv + drV ((misV (t - av) n.iv + 1) * n.iv)) (q := rhoV n par j + 82) (X := 1200000000000) (Q := 2202557) (by omega) (by omega) (by omega) (by omega)
        unfold boundV
        omega
      have hmx : misV (t - av) n.iv = max 0 ((t - av + n.iv - 1) / n.iv - 1) := rfl
      obtain ⟨qq, hqq⟩ : ∃ z, (t - av + n.iv - 1) / n.iv = z := ⟨_, rfl⟩
      rw [hqq] at hmx c4 c5
      have htd : Int.tdiv (t - av + n.iv - 1) n.iv = qq := by rw [Int.tdiv_eq_ediv_of_nonneg (by omega)]; exact hqq
      have hvz : ¬ n.iv = 0 := by omega
      obtain ⟨ms, hms⟩ : ∃ z, misV (t - av) n.iv = z := ⟨_, rfl⟩
      rw [hms] at HBn hmx
      have iv1 := hbd.iv1
      clear HE HLs hj hbv hxv hxm htimb hlb hqq c0 c1 c2 c3 hms hav k1 a2 hok hbd hclk hpar hkk hk
      go_wp2_with ((with_reducible refine at_load 32 (.tmp 9) ?_); refine wpList_load_whole rfl (.tmp 9) 32 rfl w1.heap.size 0 n.vs rfl ha.out hs.out M3.out ?_; simp only [Act.put, List.setIfInBounds_toArray, List.set_cons_succ, List.set_cons_zero])
      refine (HE0.out _ N3.out L3.out).mono ?_
      rintro y w4 ⟨rfl, hb4⟩
      have M4 := Lib.hid (M3.out.keep hb4)
      have H4 := Lib.hid (below_step H3.out hb4)
      have N4 := Lib.hid (N3.out.keep hb4)
      have L4 := Lib.hid (L3.out.keep hb4)
      clear hb4 M3 H3 N3 L3 HE0 k0
      go_wp2_with ((with_reducible refine at_load 32 (.tmp 9) ?_); refine wpList_load_whole rfl (.tmp 9) 32 rfl w1.heap.size 0 n.vs rfl ha.out hs.out M4.out ?_; simp only [Act.put, List.setIfInBounds_toArray, List.set_cons_succ, List.set_cons_zero])
      refine (HL0.out _ N4.out L4.out).mono ?_
      rintro y w5 ⟨rfl, hb5⟩
      have M5 := Lib.hid (M4.out.keep hb5)
      have H5 := Lib.hid (below_step H4.out hb5)
      have N5 := Lib.hid (N4.out.keep hb5)
      clear hb5 M4 H4 N4 L4 HL0
      go_wp2_with ((with_reducible refine at_load 32 (.tmp 9) ?_); refine wpList_load_whole rfl (.tmp 9) 32 rfl w1.heap.size 0 n.vs rfl ha.out hs.out M5.out ?_; simp only [Act.put, List.setIfInBounds_toArray, List.set_cons_succ, List.set_cons_zero])
      refine (HAr.out _ N5.out).mono ?_
      rintro y w6 ⟨rfl, hb6⟩
      have M6 := Lib.hid (M5.out.keep hb6)
      have H6 := Lib.hid (below_step H5.out hb6)
      have N6 := Lib.hid (N5.out.keep hb6)
      have k6 : w6.cell? ⟨w1.heap.size, 6, none⟩ = some (.int .i64 n.iv) := M6.out 6 _ rfl
      clear hb6 M5 H5 N5 HAr
      have hrm := run_max2_15
      have hmx' : max 0 (qq - 1) = ms := hmx.symm
      clear hmx
      go_wp2_with ((with_reducible refine at_load 32 (.tmp 9) ?_); refine wpList_load_whole rfl (.tmp 9) 32 rfl w1.heap.size 0 n.vs rfl ha.out hs.out M6.out ?_; simp only [Act.put, List.setIfInBounds_toArray, List.set_cons_succ, List.set_cons_zero])
      refine (HBn.out _ N6.out).mono ?_
      rintro y w7 ⟨rfl, hb7⟩
      have H7 := Lib.hid (below_step H6.out hb7)
      clear hb7 M6 H6 N6 hrm
      go_wp2
      go_ret
      exact ⟨rfl, H7.out⟩

set_option maxRecDepth 100000 in
theorem timenetHolds_lifted (os : Os) (started : os.Started) (H : Type) (enc : TypeId × Value → H) :
    ReturnsInHanded {} Try.checked os 4 .any (Rows.timenetHoldsSpec.pre6 enc Try.prog Try.f4 [] false) (Rows.timenetHoldsSpec.post enc Try.prog Try.f4 false true false false) := by
  refine law_lifted started Try.func4 (by kernel_rfl)
    (ChangeSpec.witness6 (enc := enc) (C := Try.checked) false ⟨#[], #[.agg #[.slice none 0 0, .slice none 0 0, .slice none 0 0, .int .u32 0, .int .u32 0, .int .u32 0, .int .u32 0, .int .u32 0], .slice none 0 0, .int .u8 0, .int .u32 0], []⟩ 8 (by kernel_rfl) (by kernel_rfl) (by kernel_rfl) (by kernel_rfl))
    rfl (by kernel_rfl) (by kernel_rfl) (fun ds hd => ?_) ?_
  · rw [Try.params4] at hd
    match ds, hd with
    | [_, _, _, _], _ => exact ⟨rfl, rfl, rfl⟩
  · intro W base args ds p hval hA
    rw [Try.params4] at hA hval
    obtain ⟨v0, vs0, d0, ds0, p0, q0, ha0, rfl, rfl, h0, r0⟩ := trodAll_cons hA
    obtain ⟨v1, vs1, d1, ds1, p1, q1, ha1, rfl, rfl, h1, r1⟩ := trodAll_cons r0
    obtain ⟨v2, vs2, d2, ds2, p2, q2, ha2, rfl, rfl, h2, r2⟩ := trodAll_cons r1
    obtain ⟨v3, vs3, d3, ds3, p3, q3, ha3, rfl, rfl, h3, r3⟩ := trodAll_cons r2
    obtain ⟨hz, rfl, rfl⟩ := trodAll_nil r3
    obtain rfl : args = #[v0, v1, v2, v3] := by
      subst hz
      subst ha3
      subst ha2
      subst ha1
      cases args; simpa using ha0
    obtain ⟨D, rfl, hDin, hDb⟩ := open_draft15 (hval 0 27 v0 rfl rfl) h0
    obtain ⟨pm, lm, km, u, q, rfl, hu, hc⟩ := open_missing15 (hval 1 40 v1 rfl rfl) h1
    obtain ⟨x2, rfl, rfl, rfl, w2⟩ := open_int Try.underlying5 (hval 2 5 v2 rfl rfl) h2
    obtain ⟨x3, rfl, rfl, rfl, w3⟩ := open_int Try.underlying25 (hval 3 25 v3 rfl rfl) h3
    exact timenetHolds_walk D hDb pm lm km u q hu x2 w2 x3 w3 W hDin hc

theorem timenetHolds_holds : Rows.TimenetHoldsSaid :=
  OpenClaim.holds_of_wide 4 Try.f4 rfl rfl rfl rfl rfl rfl rfl ⟨rfl, rfl, rfl, rfl, rfl⟩ rfl rfl rfl rfl rfl (by kernel_rfl) Try.func4 (by kernel_rfl)
    (of_decide_eq_true (by kernel_rfl)) (by unfold Func.isWrapper; first | (rw [if_pos (by decide +kernel)]; kernel_rfl) | (rw [if_neg (by decide +kernel)]; exact ⟨rfl, rfl⟩))
    (fun os started H enc _ => timenetHolds_lifted os started H enc)
#print axioms timenetHolds_holds

end Go.Proofs.Ytkencmijghigiaa
