/-
  Texts of this claim laid together: Rho15, Err15.
-/
import Derived.Lib.QuietBelow
import Derived.BigQuiet
import Derived.Deep.RegionHeld3
import Derived.Deep.DeepCutAuto
import Derived.Test.YtkencmijghigiaaGreatMNets
import Derived.Test.YtkencmijghigiaaGreatMDelayBnd
import Derived.Test.YtkencmijghigiaaGreatMBase
namespace Go.Proofs.YtkencmijghigiaaGreat
open Go.RowKit Go.Lib Go.Shelf Plain
attribute [local go_sem] Oper.semAt_some

def drV (x : Int) : Int := bndV 200000 x
set_option maxRecDepth 100000 in
theorem drift_any (x : Int) (w : World) : Calls Tryz.prog 41 #[.int .i64 x] w fun e w' => e = .returned (.int .i64 (drV x)) ∧ Below w.heap.size w w' := by
  go_enter Tryz.func41, Tryz.ntmps41
  go_wp2_with fail
  refine (cbound_any _ _ _).mono ?_
  rintro e w1 ⟨rfl, hb1⟩
  go_wp2
  go_ret
  exact ⟨rfl, hb1⟩

/-- The drift of x ticks. -/
theorem drV_bd {x : Int} (h0 : 0 ≤ x) (h1 : x ≤ 1099511627776) : drV x = -share (-x) 200000 ∧ 0 ≤ drV x ∧ drV x * 5000 < x + 5000 := by
  have e : drV x = -share (-x) 200000 := if_pos ⟨by omega, by omega, h0, h1⟩
  rw [e]
  unfold share
  refine ⟨rfl, by omega, by omega⟩
/-- The bound of one link's rate. -/
def rateK (n : Nt) : Int := rblV (n.ga - drV n.ga)
theorem rateK_bd {n : Nt} (h : n.Bd) : n.ga - drV n.ga = n.ga - drV n.ga ∧ 9998 ≤ n.ga - drV n.ga ∧ n.ga - drV n.ga ≤ 1073741824 ∧ rateK n = rbV (n.ga - drV n.ga) ∧ 82 ≤ rateK n ∧ rateK n ≤ 200225 := by
  have g0 := h.ga0
  have g1 := h.ga1
  obtain ⟨_, d0, d1⟩ := drV_bd (x := n.ga) (by omega) (by omega)
  have hy : 9998 ≤ n.ga - drV n.ga := by omega
  have hy1 : n.ga - drV n.ga ≤ 1073741824 := by omega
  have e : rateK n = rbV (n.ga - drV n.ga) := if_pos ⟨by omega, by omega⟩
  refine ⟨rfl, hy, hy1, e, ?_, ?_⟩
  · rw [e]
    unfold rbV
    have : (-2001000000 : Int) / (n.ga - drV n.ga) < 0 := Int.ediv_lt_of_lt_mul (by omega) (by omega)
    omega
  · rw [e]
    unfold rbV
    have : -200143 ≤ (-2001000000 : Int) / (n.ga - drV n.ga) := by
      refine (Int.le_ediv_iff_mul_le (by omega)).2 ?_
      omega
    omega
/-- .. and of a node's rate. -/
def rhoV (n : Nt) (par : Fin n.m → Fin n.m) (i : Fin n.m) : Int := ((ups par i).length : Int) * rateK n

set_option maxHeartbeats 4000000 in
set_option maxRecDepth 100000 in
theorem rho_any (n : Nt) (hb : n.Bd) (par : Fin n.m → Fin n.m) (hp : n.Par par) (i : Fin n.m) (w : World) (hn : n.In w) :
    Calls Tryz.prog 42 #[.agg n.vs.toArray, .int .i64 (i.val : Int)] w fun e w' => e = .returned (.int .i64 (rhoV n par i)) ∧ Below w.heap.size w w' := by
  have ha := Lib.hid (show ∀ w, (isAgg 67).run Tryz.prog w = .ok true w from fun w => by kernel_rfl)
  have hs := Lib.hid (show ∀ w, (sizeOf 67).run Tryz.prog w = .ok n.vs.length w from fun w => by kernel_rfl)
  obtain ⟨-, y0, y1, -, r0', r1'⟩ := rateK_bd hb
  have g0 := hb.ga0
  have g1 := hb.ga1
  obtain ⟨-, d0, d1⟩ := drV_bd (x := n.ga) (by omega) (by omega)
  refine (callsIn_wide (n := 4)).1 ?_
  refine callsIn_of_wp_marks Tryz.func42 rfl trivial ?_ rfl
  refine wpIn_wide.2 ?_
  simp only [Tryz.ntmps42, List.size_toArray, List.length_cons, List.length_nil, Nat.reduceAdd, Nat.reduceSub, Array.replicate_succ, Array.replicate_zero, List.push_toArray, List.append_toArray, List.nil_append, List.cons_append]
  rw [n.lit]
  go_upto_region 1 with fail
  refine wp_world ?_
  intro V hV
  have c4 : V.cell? ⟨w.heap.size, 4, none⟩ = some (.int .i64 n.ga) := by subst hV; simp [go_sem]
  have hM := Lib.hid (show Holds V w.heap.size n.vs by subst hV; exact holds_alloc w n.vs 67 rfl)
  have HV := Lib.hid (show Below w.heap.size w V by subst hV; exact below_alloc (Below.refl _ _) _)
  clear hV
  have q0 := fun p : Regrown => cell_regrown c4 p.d p.os
  have hw1 : IntKind.i64.wrap (n.ga - drV n.ga) = n.ga - drV n.ga := by simp [IntKind.wrap, IntKind.signed, IntKind.bits]; omega
  refine wp_region_quiet_below (by kernel_rfl) (by kernel_rfl) ?_
  repeat (go_big_quiet_step (first | with_reducible exact Calls.regrown_of (drift_any _ _) | with_reducible exact Calls.regrown_of (ratioBound_any _ _)))
  refine wpQuiet_nil ?_
  intro w6 hw
  have b6 : Below V.heap.size V w6 := by obtain ⟨p, rfl⟩ := hw; exact below_regrown _ _ _
  have hM6 := Lib.hid (hM.out.keep b6)
  have H6 := Lib.hid (below_step HV.out b6)
  have l6 : w.heap.size < w6.heap.size := World.block_lt_of_cell? _ _ (hM6.out 0 _ rfl)
  clear hw q0 b6 hM HV c4 hw1
  obtain ⟨kr, hkr⟩ : ∃ k, rblV (n.ga - drV n.ga) = k := ⟨_, rfl⟩
  have hkr' : rateK n = kr := hkr
  rw [hkr'] at r0' r1'
  rw [hkr]
  go_wp2_with ((with_reducible refine at_load 67 (.tmp 2) ?_); refine wpList_load_whole rfl (.tmp 2) 67 rfl w.heap.size 0 n.vs rfl ha.out hs.out (hM6.out.alloc l6 _) ?_; simp only [Act.put, List.setIfInBounds_toArray, List.set_cons_succ, List.set_cons_zero])
  refine (up_any n _ _).mono ?_
  rintro e w7 ⟨rfl, rfl⟩
  go_wp2_with fail
  refine (wpIn_wide (n := 4)).1 ?_
  refine wpIn_world' ?_
  intro W0 hW0
  have zW : w6.heap.size + 3 ≤ W0.heap.size := by subst hW0; simp
  have B0 : Below w6.heap.size w6 W0 := by subst hW0; exact below_alloc (below_alloc (below_alloc (Below.refl _ _) _) _) _
  have B1 : Below w.heap.size w W0 := below_step H6.out B0
  have ci : W0.cell? ⟨w6.heap.size + 1 + 1, 0, none⟩ = some (.int .i64 (i.val : Int)) := by subst hW0; simp [go_sem]
  have ct : W0.cell? ⟨w6.heap.size + 1, 1, none⟩ = some (.slice (some ⟨n.bp, n.op, none⟩) n.m n.kp) := by subst hW0; simp [go_sem, Nt.vs]
  have cs : W0.cell? ⟨w6.heap.size, 0, none⟩ = some (.int .i64 0) := by subst hW0; simp [go_sem]
  have fs : W0.frozen? ⟨w6.heap.size, 0, none⟩ = false := by subst hW0; simp [go_sem]
  have zw := H6.out.size
  clear hW0
  have hN : (ups par i).length ≤ 12 := by have := ups_len hp.lt i; have := i.isLt; have := hb.m12; omega
  refine wpIn_rangeFunc_ownF rfl (by omega) (gf := 93) (lb := #[.pointer (some ⟨w6.heap.size + 1 + 1, 0, none⟩), .pointer (some ⟨w6.heap.size + 1, 0, none⟩)]) rfl trivial (enters_of Tryz.func93 (by kernel_rfl) rfl)
    (up1_stops Fence.wide _ trivial rfl (by omega) (w6.heap.size + 1 + 1) (w6.heap.size + 1) w6.heap.size n par hp i (by omega) (by have := hn.lp; omega) W0 ci ct (fun j hj => below_keep B1 (hn.p j hj))) keepC_t (keepC_b (n₀ := W0.heap.size)) (Below.refl _ _) (fun _ => rfl)
    (fun pre W => (W.cell? ⟨w6.heap.size, 0, none⟩ = some (.int .i64 (pre.length : Int)) ∧ W.frozen? ⟨w6.heap.size, 0, none⟩ = false) ∧ Below w.heap.size w W)
    (fun _ _ _ => False)
    (OwnFrom.and (Own.from (fun s A B row hs hg hr => ⟨cell_kept hs.1 hg hr, (frozen_kept hs.1 hg hr).trans hs.2⟩) _) (ownFrom_below (Nat.le_refl _) (by omega)))
    (fun _ _ _ _ _ hs _ _ => hs)
    ⟨⟨cs, fs⟩, B1⟩
    (fun x => { tmps := #[.agg #[.slice (some ⟨n.bc, n.oc, none⟩) n.m n.kc, .slice (some ⟨n.bp, n.op, none⟩) n.m n.kp, .slice (some ⟨n.bd, n.od, none⟩) n.m n.kd, .int .i64 n.tu, .int .i64 n.ga, .int .i64 n.st, .int .i64 n.iv, .int .i64 n.sy], .int .i64 (i.val : Int), .pointer (some ⟨w.heap.size, 0, none⟩), undef, .int .i64 0, .int .i64 kr, .int .i64 (rblE (n.ga - drV n.ga)), .pointer (some ⟨w6.heap.size, 0, none⟩), .tuple #[.int .i64 kr, .int .i64 (rblE (n.ga - drV n.ga))], .pointer (some ⟨w.heap.size, 0, none⟩), .pointer (some ⟨w.heap.size, 4, none⟩), .int .i64 n.ga, .pointer (some ⟨w.heap.size, 0, none⟩), .pointer (some ⟨w.heap.size, 4, none⟩), .int .i64 n.ga, .int .i64 (drV n.ga), .int .i64 (n.ga - drV n.ga), .tuple #[.int .i64 kr, .int .i64 (rblE (n.ga - drV n.ga))], .int .i64 kr, .int .i64 (rblE (n.ga - drV n.ga)), .agg n.vs.toArray, .int .i64 (i.val : Int), .func (.func 93) #[] #[.pointer (some ⟨w6.heap.size + 1 + 1, 0, none⟩), .pointer (some ⟨w6.heap.size + 1, 0, none⟩)], .int .i64 (x.val : Int), undef, undef, undef, undef, undef], defers := [] }) ?assign ?body ?done ?stop
  case assign =>
    intro l x W K hK
    gi_wp2
    simpa using hK
  case body =>
    rintro l pre x W ⟨⟨hc, hf⟩, hB⟩ hlen
    have hlb : (pre.length : Int) ≤ 12 := by omega
    gi_wp2
    exact ⟨KeepsOthers.setCell _ _ _, (KeepC.refl _ _).setCell 0 _, ⟨by rw [World.cell?_setCell_same' _ _ _ (by rw [hc]; rfl)]; simp, by rw [World.frozen?_setCell]; exact hf⟩, hB.setCell (p := ⟨w6.heap.size, 0, none⟩) (by show w.heap.size ≤ w6.heap.size; omega) _⟩
  case done =>
    rintro D ys W hD rfl ⟨⟨hc, _⟩, hB⟩ hK
    have hm : ((ups par i).length : Int) * kr = rhoV n par i := by unfold rhoV; rw [hkr']
    have hm0 : 0 ≤ ((ups par i).length : Int) * kr := Int.mul_nonneg (by omega) (by omega)
    have hm1 : ((ups par i).length : Int) * kr ≤ 12 * 200225 := Int.mul_le_mul (by omega) r1' (by omega) (by omega)
    go_wp2
    refine ⟨by simp, .inl ⟨_, _, rfl, run_takeDeferred hK, ?_⟩⟩
    exact ⟨_, results_tmp rfl _ _ _, rfl, hB.trans (belowK_b (w := w) (Nat.le_refl _) W D _ _ (by omega) hK rfl rfl)⟩
  case stop =>
    rintro D c pre W _ _ h _
    exact h.elim

end Go.Proofs.YtkencmijghigiaaGreat

namespace Go.Proofs.YtkencmijghigiaaGreat
open Go.RowKit Go.Lib Plain

theorem shr_bd {x q X Q : Int} (x0 : 0 ≤ x) (x1 : x ≤ X) (q0 : 0 ≤ q) (q1 : q ≤ Q) : 0 ≤ -share (-x) q ∧ -share (-x) q * 1000000000 ≤ X * Q + 999999999 := by
  have h1 : x * q ≤ X * Q := Int.mul_le_mul x1 q1 q0 (by omega)
  have h2 : 0 ≤ x * q := Int.mul_nonneg x0 q0
  unfold share
  rw [Int.neg_mul]
  generalize x * q = p at *
  omega
theorem ups_pos {m : Nat} {par : Fin m → Fin m} (hp : ∀ i : Fin m, 0 < i.val → (par i).val < i.val) (i : Fin m) (h : 0 < i.val) : (ups par i).length = (ups par (par i)).length + 1 := by
  rw [ups_cons hp h]
  rfl
/-- What leaves at a node's parent, and what arrives. -/
def sentV (n : Nt) (par : Fin n.m → Fin n.m) (e : Int) (i : Fin n.m) : Int := if (par i).val = 0 then 0 else boundV e (n.sy + drV n.sy) (rhoV n par (par i))
def errF (n : Nt) (par : Fin n.m → Fin n.m) : Nat → Fin n.m → Int
  | 0, _ => 0
  | f + 1, i => pbV (sentV n par (errF n par f (par i)) i) (dbV 200000 (n.de i.val) n.tu) (n.de i.val) (rhoV n par i)
theorem errF_more {n : Nt} {par : Fin n.m → Fin n.m} (hp : n.Par par) : ∀ (f g : Nat) (i : Fin n.m), 0 < i.val → i.val ≤ f → i.val ≤ g → errF n par f i = errF n par g i
  | 0, _, _, _, _, _ => by omega
  | _ + 1, 0, _, _, _, _ => by omega
  | f + 1, g + 1, i, h0, hf, hg => by
    have hl := hp.lt i h0
    rw [errF, errF]
    unfold sentV
    by_cases hz : (par i).val = 0
    · rw [if_pos hz, if_pos hz]
    · rw [if_neg hz, if_neg hz, errF_more hp f g (par i) (by omega) (by omega) (by omega)]
/-- The bound of the error when information arrives. -/
def errV (n : Nt) (par : Fin n.m → Fin n.m) (i : Fin n.m) : Int := errF n par i.val i
theorem errV_step {n : Nt} {par : Fin n.m → Fin n.m} (hp : n.Par par) {i : Fin n.m} (h : 0 < i.val) : errV n par i = pbV (sentV n par (errV n par (par i)) i) (dbV 200000 (n.de i.val) n.tu) (n.de i.val) (rhoV n par i) := by
  have hl := hp.lt i h
  unfold errV
  obtain ⟨k, hk⟩ : ∃ k, i.val = k + 1 := ⟨i.val - 1, by omega⟩
  rw [show errF n par i.val i = errF n par (k + 1) i from congrArg (fun f => errF n par f i) hk, errF]
  unfold sentV
  by_cases hz : (par i).val = 0
  · rw [if_pos hz, if_pos hz]
  · rw [if_neg hz, if_neg hz, errF_more hp k (par i).val (par i) (by omega) (by omega) (by omega)]

theorem rho_bd {n : Nt} (hb : n.Bd) {par : Fin n.m → Fin n.m} (hp : n.Par par) (i : Fin n.m) : 0 ≤ rhoV n par i ∧ rhoV n par i ≤ 2202475 := by
  obtain ⟨-, -, -, -, k0, k1⟩ := rateK_bd hb
  have hl := ups_len hp.lt i
  have hi := i.isLt
  have hm := hb.m12
  unfold rhoV
  refine ⟨Int.mul_nonneg (by omega) (by omega), ?_⟩
  have : ((ups par i).length : Int) * rateK n ≤ 11 * 200225 := Int.mul_le_mul (by omega) k1 (by omega) (by omega)
  omega
theorem stay_bd {n : Nt} (hb : n.Bd) : 0 ≤ n.sy + drV n.sy ∧ n.sy + drV n.sy ≤ 1048787 := by
  have h0 := hb.sy0
  have h1 := hb.sy1
  obtain ⟨-, d0, d1⟩ := drV_bd (x := n.sy) h0 (by omega)
  omega
theorem db_ok {n : Nt} (hb : n.Bd) {j : Nat} (hj : j < n.m) : DbOk 200000 (n.de j) n.tu := by
  have := hb.de0 j hj; have := hb.de1 j hj; have := hb.tu0; have := hb.tu1
  refine ⟨⟨by omega, by omega⟩, ⟨by omega, by omega⟩, ⟨by omega, by omega⟩, ⟨by omega, by omega⟩, by omega⟩
theorem db_bd {n : Nt} (hb : n.Bd) {j : Nat} (hj : j < n.m) : 0 ≤ dbV 200000 (n.de j) n.tu ∧ dbV 200000 (n.de j) n.tu ≤ 430 := by
  have h1 := hb.de0 j hj; have h2 := hb.de1 j hj; have h3 := hb.tu0; have h4 := hb.tu1
  obtain ⟨a0, a1⟩ := shr_bd (x := 2 * n.de j + n.tu) (q := 200000) (X := 1068576) (Q := 200000) (by omega) (by omega) (by omega) (by omega)
  obtain ⟨b0, b1⟩ := shr_bd (x := n.tu) (q := 200000) (X := 1048576) (Q := 200000) (by omega) (by omega) (by omega) (by omega)
  unfold dbV
  generalize -share (-(2 * n.de j + n.tu)) 200000 = a at *
  generalize -share (-n.tu) 200000 = b at *
  omega
theorem bound_le {e x r E : Int} (e0 : 0 ≤ e) (e1 : e ≤ E) (x0 : 0 ≤ x) (x1 : x ≤ 1048787) (r0 : 0 ≤ r) (r1 : r ≤ 2202475) : 0 ≤ boundV e x r ∧ boundV e x r ≤ E + 2320 := by
  obtain ⟨a0, a1⟩ := shr_bd (x := x) (q := r + 82) (X := 1048787) (Q := 2202557) x0 x1 (by omega) (by omega)
  unfold boundV
  generalize share (-x) (r + 82) = a at *
  omega
theorem pb_le {e t d r E : Int} (e0 : 0 ≤ e) (e1 : e ≤ E) (t0 : 0 ≤ t) (t1 : t ≤ 430) (d0 : 0 ≤ d) (d1 : d ≤ 10000) (r0 : 0 ≤ r) (r1 : r ≤ 2202475) : 0 ≤ pbV e t d r ∧ pbV e t d r ≤ E + 470 := by
  obtain ⟨a0, a1⟩ := shr_bd (x := d + t) (q := r + 600000) (X := 10430) (Q := 2802475) (by omega) (by omega) (by omega) (by omega)
  unfold pbV
  generalize share (-(d + t)) (r + 600000) = a at *
  omega
theorem err_bd {n : Nt} (hb : n.Bd) {par : Fin n.m → Fin n.m} (hp : n.Par par) : ∀ (k : Nat) (i : Fin n.m), i.val = k → 0 < i.val → 0 ≤ errV n par i ∧ errV n par i ≤ 3000 * (i.val : Int) := by
  intro k
  induction k using Nat.strongRecOn with
  | ind k ih =>
    intro i hk h0
    have hl := hp.lt i h0
    obtain ⟨s0, s1⟩ := stay_bd hb
    obtain ⟨t0, t1⟩ := db_bd hb i.isLt
    obtain ⟨r0, r1⟩ := rho_bd hb hp i
    obtain ⟨q0, q1⟩ := rho_bd hb hp (par i)
    have d0 := hb.de0 i.val i.isLt
    have d1 := hb.de1 i.val i.isLt
    rw [errV_step hp h0]
    have hs : 0 ≤ sentV n par (errV n par (par i)) i ∧ sentV n par (errV n par (par i)) i ≤ 3000 * ((i.val : Int) - 1) + 2320 := by
      unfold sentV
      by_cases hz : (par i).val = 0
      · rw [if_pos hz]; omega
      · rw [if_neg hz]
        obtain ⟨e0, e1⟩ := ih (par i).val (by omega) (par i) rfl (by omega)
        obtain ⟨b0, b1⟩ := bound_le e0 e1 s0 s1 q0 q1
        omega
    obtain ⟨p0, p1⟩ := pb_le hs.1 hs.2 t0 t1 d0 d1 r0 r1
    omega

end Go.Proofs.YtkencmijghigiaaGreat
