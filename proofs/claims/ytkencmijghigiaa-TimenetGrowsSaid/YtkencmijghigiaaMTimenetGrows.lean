/-
  TimenetGrows: for every input the law returns true, and its arguments read as before. No conditions.
-/
import Derived.Test.YtkencmijghigiaaMOpen15d
import Derived.Test.YtkencmijghigiaaMWrks15
namespace Go.Proofs.Ytkencmijghigiaa
open Go.RowKit Go.Lib Go.Shelf Plain
open Go.ChangeShapes Go.WideShapes Go.ChangeAt

theorem agg_drn15 : ∀ w, (isAgg 27).run Try.prog w = .ok true w := fun w => by kernel_rfl
theorem size_drn15 : ∀ w, (sizeOf 27).run Try.prog w = .ok 8 w := fun w => by kernel_rfl

/-- The share that is taken off grows with both. -/
theorem shr_mono {x y p q : Int} (x0 : 0 ≤ x) (h : x ≤ y) (p0 : 0 ≤ p) (hp : p ≤ q) : -share (-x) p ≤ -share (-y) q := by
  have h1 : x * p ≤ y * q := Int.mul_le_mul h hp p0 (by omega)
  unfold share
  rw [Int.neg_mul, Int.neg_mul]
  omega
theorem drV_mono {x y : Int} (x0 : 0 ≤ x) (h : x ≤ y) (y1 : y ≤ 1099511627776) : x + drV x ≤ y + drV y := by
  rw [(drV_bd x0 (by omega)).1, (drV_bd (by omega) y1).1]
  have := shr_mono x0 h (show (0 : Int) ≤ 200000 by omega) (Int.le_refl _)
  omega
theorem bound_mono {e e' x x' r r' : Int} (he : e ≤ e') (x0 : 0 ≤ x) (hx : x ≤ x') (r0 : 0 ≤ r) (hr : r ≤ r') : boundV e x r ≤ boundV e' x' r' := by
  have := shr_mono x0 hx (show (0 : Int) ≤ r + 82 by omega) (show r + 82 ≤ r' + 82 by omega)
  unfold boundV
  omega
theorem bound_ge {e x r : Int} (x0 : 0 ≤ x) (r0 : 0 ≤ r) : e ≤ boundV e x r := by
  have h : -share (-0) 0 ≤ -share (-x) (r + 82) := shr_mono (Int.le_refl 0) x0 (Int.le_refl 0) (by omega)
  have h0 : share (-0) 0 = 0 := by decide
  unfold boundV
  omega
theorem pb_ge {e t d r : Int} (t0 : 0 ≤ t) (d0 : 0 ≤ d) (r0 : 0 ≤ r) : e ≤ pbV e t d r := by
  have h : -share (-0) 0 ≤ -share (-(d + t)) (r + 600000) := shr_mono (Int.le_refl 0) (by omega) (Int.le_refl 0) (by omega)
  have h0 : share (-0) 0 = 0 := by decide
  unfold pbV
  omega

/-- What Bound answers at a node. -/
def bvV (n : Nt) (par : Fin n.m → Fin n.m) (j : Fin n.m) (mi : Int) : Int := if j.val = 0 then 0 else boundV (errV n par j) ((mi + 1) * n.iv + drV ((mi + 1) * n.iv)) (rhoV n par j)
section
variable {n : Nt} (hb : n.Bd) {par : Fin n.m → Fin n.m} (hp : n.Par par)
include hb
theorem mi_ok (hv : n.iv ≤ 4194304) {mi : Int} (h0 : 0 ≤ mi) (h1 : mi ≤ 131070) : mi < 1099511627776 / n.iv ∧ 0 ≤ (mi + 1) * n.iv ∧ (mi + 1) * n.iv ≤ 1099511627776 := by
  have hv0 := hb.iv0
  have h2 : (mi + 1) * n.iv ≤ 131071 * 4194304 := Int.mul_le_mul (by omega) hv (by omega) (by omega)
  have h3 : mi + 1 ≤ 1099511627776 / n.iv := (Int.le_ediv_iff_mul_le (by omega)).2 (by omega)
  exact ⟨by omega, Int.mul_nonneg (by omega) (by omega), by omega⟩
include hp
theorem bv_pos (hv : n.iv ≤ 4194304) (j : Fin n.m) {mi : Int} (h0 : 0 ≤ mi) (h1 : mi ≤ 131070) : 0 ≤ bvV n par j mi := by
  unfold bvV
  split
  · omega
  · obtain ⟨_, x0, x1⟩ := mi_ok hb hv h0 h1
    obtain ⟨_, d0, _⟩ := drV_bd x0 x1
    obtain ⟨e0, _⟩ := err_bd hb hp j.val j rfl (by omega)
    obtain ⟨q0, _⟩ := rho_bd hb hp j
    have := bound_ge (e := errV n par j) (show 0 ≤ (mi + 1) * n.iv + drV ((mi + 1) * n.iv) by omega) q0
    omega
theorem bv_le (hv : n.iv ≤ 4194304) (j : Fin n.m) {mi mj : Int} (h0 : 0 ≤ mi) (h : mi ≤ mj) (h1 : mj ≤ 131070) : bvV n par j mi ≤ bvV n par j mj := by
  unfold bvV
  split
  · omega
  · obtain ⟨_, x0, x1⟩ := mi_ok hb hv h0 (by omega)
    obtain ⟨_, y0, y1⟩ := mi_ok hb hv (mi := mj) (by omega) h1
    have hv0 := hb.iv0
    have hxy : (mi + 1) * n.iv ≤ (mj + 1) * n.iv := Int.mul_le_mul_of_nonneg_right (by omega) (by omega)
    obtain ⟨_, d0, _⟩ := drV_bd x0 x1
    obtain ⟨q0, _⟩ := rho_bd hb hp j
    exact bound_mono (Int.le_refl _) (by omega) (drV_mono x0 hxy y1) q0 (Int.le_refl _)
theorem bv_par (hv : n.iv ≤ 4194304) (j : Fin n.m) (j0 : 0 < j.val) {mi : Int} (h0 : 0 ≤ mi) (h1 : mi ≤ 131070) : bvV n par (par j) mi ≤ bvV n par j mi := by
  by_cases hz : (par j).val = 0
  · have := bv_pos hb hp hv j h0 h1
    rw [show bvV n par (par j) mi = 0 from if_pos hz]
    exact this
  · obtain ⟨_, x0, x1⟩ := mi_ok hb hv h0 h1
    obtain ⟨_, d0, _⟩ := drV_bd x0 x1
    obtain ⟨q0, _⟩ := rho_bd hb hp (par j)
    obtain ⟨r0, _⟩ := rho_bd hb hp j
    obtain ⟨s0, _⟩ := stay_bd hb
    obtain ⟨t0, _⟩ := db_bd hb j.isLt
    have dd := hb.de0 j.val j.isLt
    obtain ⟨-, -, -, -, k0, -⟩ := rateK_bd hb
    have hrho : rhoV n par (par j) ≤ rhoV n par j := by
      unfold rhoV
      rw [ups_pos hp.lt j j0, Int.natCast_add, Int.add_mul]
      simp
      omega
    have herr : errV n par (par j) ≤ errV n par j := by
      rw [errV_step hp j0]
      have h1 := pb_ge (e := sentV n par (errV n par (par j)) j) t0 dd r0
      have h2 : errV n par (par j) ≤ sentV n par (errV n par (par j)) j := by
        unfold sentV
        rw [if_neg hz]
        exact bound_ge s0 q0
      omega
    unfold bvV
    rw [if_neg hz, if_neg (by omega)]
    exact bound_mono herr (by omega) (Int.le_refl _) q0 hrho
theorem bv_bd (hv : n.iv ≤ 4194304) (j : Fin n.m) {mi : Int} (h0 : 0 ≤ mi) (h1 : mi ≤ 131070) : bvV n par j mi ≤ 1099511627776000 := by
  unfold bvV
  split
  · omega
  · obtain ⟨_, x0, x1⟩ := mi_ok hb hv h0 h1
    obtain ⟨_, d0, d1⟩ := drV_bd x0 x1
    obtain ⟨e0, e1⟩ := err_bd hb hp j.val j rfl (by omega)
    obtain ⟨q0, q1⟩ := rho_bd hb hp j
    have jm := j.isLt
    have hm := hb.m12
    have hs := shr_bd (x := (mi + 1) * n.iv + drV ((mi + 1) * n.iv)) (q := rhoV n par j + 82) (X := 1200000000000) (Q := 2202557) (by omega) (by omega) (by omega) (by omega)
    unfold boundV
    omega
theorem tBv (hok : netOk n) (hv : n.iv ≤ 4194304) (j : Fin n.m) {mi : Int} (h0 : 0 ≤ mi) (h1 : mi ≤ 131070) (W : World) (hW : n.In W) :
    Calls Try.prog 9 #[.agg n.vs.toArray, .int .i64 (j.val : Int), .int .i64 mi] W fun y w' => y = .returned (.tuple #[.int .i64 (bvV n par j mi), .int .i64 0]) ∧ Below W.heap.size W w' := by
  obtain ⟨x, _, _⟩ := mi_ok hb hv h0 h1
  refine tBound_any n hok hb par hp (j.val : Int) mi W hW _ 0 ?_
  by_cases hz : j.val = 0
  · exact .inr (.inr (.inl ⟨by omega, ⟨h0, x⟩, if_pos hz, rfl⟩))
  · exact .inr (.inr (.inr ⟨j, by omega, rfl, ⟨h0, x⟩, if_neg hz, rfl⟩))
end

set_option maxHeartbeats 16000000 in
set_option maxRecDepth 100000 in
theorem timenetGrows_walk (D : Dr) (hb : D.Bd) (i : Int) (hi : (Lit.int .u8 i).wf = true) (mi : Int) (hmi : (Lit.int .u16 mi).wf = true) (mo : Int) (hmo : (Lit.int .u16 mo).wf = true) (w : World) (hin : D.In w) :
    Calls Try.prog 5 #[.agg D.vs.toArray, .int .u8 i, .int .u16 mi, .int .u16 mo] w fun e w' => e = .returned (.bool true) ∧ Below w.heap.size w w' := by
  have ha := Lib.hid (show ∀ w, (isAgg 32).run Try.prog w = .ok true w from fun w => by kernel_rfl)
  have hs0 := Lib.hid (show ∀ n : Nt, ∀ w, (sizeOf 32).run Try.prog w = .ok n.vs.length w from fun n w => by kernel_rfl)
  have HI := Lib.hid hin
  have HB := Lib.hid hb
  simp [Lit.wf, IntKind.min, IntKind.max, IntKind.signed, IntKind.bits] at hi hmi hmo
  obtain ⟨i0, i1⟩ := hi
  obtain ⟨m0, m1⟩ := hmi
  obtain ⟨o0, o1⟩ := hmo
  clear hin hb
  go_enter Try.func5, Try.ntmps5
  rw [D.lit]
  go_wp2_with fail
  refine (works_any _).mono ?_
  rintro y w0 ⟨rfl, hb0⟩
  have HD := Lib.hid ((holds_alloc w D.vs 27 rfl).keep hb0)
  have H0 := Lib.hid (below_step (below_alloc (Below.refl _ _) _) hb0)
  clear hb0
  go_wp2_with ((with_reducible refine at_load 27 (.tmp 4) ?_); refine wpList_load_whole rfl (.tmp 4) 27 rfl w.heap.size 0 D.vs rfl agg_drn15 size_drn15 HD.out ?_; simp only [Act.put, List.setIfInBounds_toArray, List.set_cons_succ, List.set_cons_zero])
  refine (net_any D HB.out _ (HI.out.keep H0.out)).mono ?_
  rintro y w1 ⟨n, par, rfl, hN1, hdn, hb1⟩
  have H1 := Lib.hid (below_step H0.out hb1)
  have HN1 := Lib.hid hN1
  obtain ⟨hok, hbd, hclk, hpar, hv, -, -⟩ := hdn
  have hs := Lib.hid (hs0.out n)
  have hm12 := hbd.m12
  have hm1 := hN1.m1
  have hmz : ¬ (n.m : Int) = 0 := by omega
  obtain ⟨x, hx⟩ : ∃ x, i % (n.m : Int) = x := ⟨_, rfl⟩
  have hx0 : 0 ≤ x := by rw [← hx]; exact Int.emod_nonneg _ hmz
  have hx1 : x < (n.m : Int) := by rw [← hx]; exact Int.emod_lt_of_pos _ (by omega)
  have hxt : Int.tmod i (n.m : Int) = x := by rw [Int.tmod_eq_emod_of_nonneg (by omega)]; exact hx
  obtain ⟨j, hj⟩ : ∃ j : Fin n.m, (j.val : Int) = x := ⟨⟨x.toNat, by omega⟩, by show (x.toNat : Int) = x; omega⟩
  have b0 := bv_pos hbd hpar hv j m0 (show mi ≤ 131070 by omega)
  have b1 := bv_le hbd hpar hv j m0 (show mi ≤ mi + mo by omega) (show mi + mo ≤ 131070 by omega)
  have b2 := bv_bd hbd hpar hv j (mi := mi + mo) (by omega) (by omega)
  have HBa := Lib.hid (fun W hW => tBv hbd hpar hok hv j m0 (show mi ≤ 131070 by omega) W hW)
  have HBb := Lib.hid (fun W hW => tBv hbd hpar hok hv j (show 0 ≤ mi + mo by omega) (show mi + mo ≤ 131070 by omega) W hW)
  have HBp := Lib.hid (show 0 < j.val → ∃ p : Int, p ≤ bvV n par j mi ∧ -1099511627776000 ≤ p ∧ n.pa j.val = ((par j).val : Int) ∧ ∀ W, n.In W → Calls Try.prog 9 #[.agg n.vs.toArray, .int .i64 ((par j).val : Int), .int .i64 mi] W fun y w' => y = .returned (.tuple #[.int .i64 p, .int .i64 0]) ∧ Below W.heap.size W w' from fun j0 =>
    ⟨_, bv_par hbd hpar hv j j0 m0 (by omega), by have := bv_pos hbd hpar hv (par j) m0 (show mi ≤ 131070 by omega); omega, hpar.eq j j0, fun W hW => tBv hbd hpar hok hv (par j) m0 (by omega) W hW⟩)
  have hz0 : j.val = 0 → bvV n par j mi = 0 ∧ bvV n par j (mi + mo) = 0 := fun h => ⟨if_pos h, if_pos h⟩
  have HZ := Lib.hid hz0
  clear hb1 hN1 H0 HD HI HB hs0 hok hbd hclk hpar hv hz0 hx
  rw [hj] at HBa HBb
  generalize bvV n par j mi = av at *
  generalize bvV n par j (mi + mo) = bv at *
  go_upto_region 4 with ((with_reducible refine at_store 32 (.tmp 9) (.tmp 20) ?_); refine wpList_store_whole rfl (.tmp 9) (.tmp 20) 32 rfl w1.heap.size 0 n.vs rfl rfl hs.out (fun j hj => (holds_alloc w1 zT 32 rfl).some j hj) (fun j _ => frozen_new _ _ _ _ rfl) n.vs_one ?_; intro w2 hw2)
  have M2 := Lib.hid (show Holds w2 w1.heap.size n.vs from hw2.here)
  have H2 := Lib.hid (hw2.below _ _ H1.out.size (below_alloc H1.out _))
  have N2 := Lib.hid (HN1.out.keep (hw2.below _ _ (Nat.le_refl _) (below_alloc (Below.refl w1.heap.size w1) _)))
  have k0 : w2.cell? ⟨w1.heap.size, 0, none⟩ = some (.slice (some ⟨n.bc, n.oc, none⟩) n.m n.kc) := M2.out 0 _ rfl
  clear hw2 H1 HN1
  go_wp2_with ((with_reducible refine at_load 32 (.tmp 9) ?_); refine wpList_load_whole rfl (.tmp 9) 32 rfl w1.heap.size 0 n.vs rfl ha.out hs.out M2.out ?_; simp only [Act.put, List.setIfInBounds_toArray, List.set_cons_succ, List.set_cons_zero])
  refine (HBa.out _ N2.out).mono ?_
  rintro y w3 ⟨rfl, hb3⟩
  have M3 := Lib.hid (M2.out.keep hb3)
  have H3 := Lib.hid (below_step H2.out hb3)
  have N3 := Lib.hid (N2.out.keep hb3)
  clear hb3 M2 H2 N2 HBa k0
  go_wp2_with ((with_reducible refine at_load 32 (.tmp 9) ?_); refine wpList_load_whole rfl (.tmp 9) 32 rfl w1.heap.size 0 n.vs rfl ha.out hs.out M3.out ?_; simp only [Act.put, List.setIfInBounds_toArray, List.set_cons_succ, List.set_cons_zero])
  refine (HBb.out _ N3.out).mono ?_
  rintro y w4 ⟨rfl, hb4⟩
  have M4 := Lib.hid (M3.out.keep hb4)
  have H4 := Lib.hid (below_step H3.out hb4)
  have N4 := Lib.hid (N3.out.keep hb4)
  clear hb4 M3 H3 N3 HBb
  have g1 : ¬ bv < av := by omega
  have g2 : ¬ av < 0 := by omega
  by_cases hz : x = 0
  · obtain ⟨z1, z2⟩ := HZ.out (by omega)
    subst hz
    subst z2
    clear hj z1 HZ HBp
    go_wp2
    go_ret
    exact ⟨rfl, H4.out⟩
  · have hzb : (x == 0) = false := beq_eq_false_iff_ne.2 hz
    obtain ⟨p, p1, p2, p3, HP⟩ := HBp.out (by omega)
    have HPh := Lib.hid HP
    have hxj : x.toNat = j.val := by omega
    have cp : w4.cell? ⟨n.bp, n.op + x.toNat, none⟩ = some (.int .i64 ((par j).val : Int)) := by rw [hxj, N4.out.p j.val j.isLt, p3]
    have m1' : w4.cell? ⟨w1.heap.size, 1, none⟩ = some (.slice (some ⟨n.bp, n.op, none⟩) n.m n.kp) := M4.out 1 _ rfl
    clear HBp HP HZ hj p3 hxj
    have r0 := fun p : Regrown => cell_regrown cp p.d p.os
    have r1 := fun p : Regrown => cell_regrown m1' p.d p.os
    go_upto_region 11 with fail
    refine wp_region_quiet_below (by kernel_rfl) (by kernel_rfl) ?_
    repeat (first | ((with_reducible refine at_qload 32 (.tmp 9) ?_); refine wpQuiet_load_whole rfl (.tmp 9) 32 rfl w1.heap.size 0 n.vs rfl ha.out hs.out (holds_regrown M4.out) ?_; simp only [Act.put, List.setIfInBounds_toArray, List.set_cons_succ, List.set_cons_zero]) | go_big_quiet_step (first | with_reducible exact Calls.regrown_of (HPh.out _ (N4.out.keep (below_regrown _ _ _)))))
    refine wpQuiet_nil ?_
    intro w6 hw
    have b6 : Below w4.heap.size w4 w6 := by obtain ⟨p, rfl⟩ := hw; exact below_regrown _ _ _
    have H6 := Lib.hid (below_step H4.out b6)
    go_wp2
    go_ret
    exact ⟨rfl, H6.out⟩

set_option maxRecDepth 100000 in
theorem timenetGrows_lifted (os : Os) (started : os.Started) (H : Type) (enc : TypeId × Value → H) :
    ReturnsInHanded {} Try.checked os 5 .any (Rows.timenetGrowsSpec.pre6 enc Try.prog Try.f5 [] false) (Rows.timenetGrowsSpec.post enc Try.prog Try.f5 false true false false) := by
  refine law_lifted started Try.func5 (by kernel_rfl)
    (ChangeSpec.witness6 (enc := enc) (C := Try.checked) false ⟨#[], #[.agg #[.slice none 0 0, .slice none 0 0, .slice none 0 0, .int .u32 0, .int .u32 0, .int .u32 0, .int .u32 0, .int .u32 0], .int .u8 0, .int .u16 0, .int .u16 0], []⟩ 8 (by kernel_rfl) (by kernel_rfl) (by kernel_rfl) (by kernel_rfl))
    rfl (by kernel_rfl) (by kernel_rfl) (fun ds hd => ?_) ?_
  · rw [Try.params5] at hd
    match ds, hd with
    | [_, _, _, _], _ => exact ⟨rfl, rfl, rfl⟩
  · intro W base args ds p hval hA
    rw [Try.params5] at hA hval
    obtain ⟨v0, vs0, d0, ds0, p0, q0, ha0, rfl, rfl, h0, r0⟩ := trodAll_cons hA
    obtain ⟨v1, vs1, d1, ds1, p1, q1, ha1, rfl, rfl, h1, r1⟩ := trodAll_cons r0
    obtain ⟨v2, vs2, d2, ds2, p2, q2, ha2, rfl, rfl, h2, r2⟩ := trodAll_cons r1
    obtain ⟨v3, vs3, d3, ds3, p3, q3, ha3, rfl, rfl, h3, r3⟩ := trodAll_cons r2
    obtain ⟨hz, rfl, rfl⟩ := trodAll_nil r3
    obtain rfl : args = #[v0, v1, v2, v3] := by
      subst hz
      subst ha3
      subst ha2
      subst ha1
      cases args; simpa using ha0
    obtain ⟨D, rfl, hDin, hDb⟩ := open_draft15 (hval 0 27 v0 rfl rfl) h0
    obtain ⟨x1, rfl, rfl, rfl, w1⟩ := open_int Try.underlying5 (hval 1 5 v1 rfl rfl) h1
    obtain ⟨x2, rfl, rfl, rfl, w2⟩ := open_int Try.underlying45 (hval 2 45 v2 rfl rfl) h2
    obtain ⟨x3, rfl, rfl, rfl, w3⟩ := open_int Try.underlying45 (hval 3 45 v3 rfl rfl) h3
    exact timenetGrows_walk D hDb x1 w1 x2 w2 x3 w3 W hDin

theorem timenetGrows_holds : Rows.TimenetGrowsSaid :=
  OpenClaim.holds_of_wide 5 Try.f5 rfl rfl rfl rfl rfl rfl rfl ⟨rfl, rfl, rfl, rfl, rfl⟩ rfl rfl rfl rfl rfl (by kernel_rfl) Try.func5 (by kernel_rfl)
    (of_decide_eq_true (by kernel_rfl)) (by unfold Func.isWrapper; first | (rw [if_pos (by decide +kernel)]; kernel_rfl) | (rw [if_neg (by decide +kernel)]; exact ⟨rfl, rfl⟩))
    (fun os started H enc _ => timenetGrows_lifted os started H enc)
#print axioms timenetGrows_holds

end Go.Proofs.Ytkencmijghigiaa
