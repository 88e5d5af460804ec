/-
  Routes in memory; their cost; how they are compared. No conditions.
-/
import Derived.Test.YtjhpbemnklpefaaMTpO
import Derived.Test.YtjhpbemnklpefaaMBase
namespace Go.Proofs.Ytjhpbemnklpefaa
open Go.RowKit Go.Lib Plain

/-- A route in memory. -/
structure Rt where
  b : Nat
  o : Nat
  k : Nat
  xs : List Nat
def Rt.v (r : Rt) : Value := .slice (some ⟨r.b, r.o, none⟩) r.xs.length r.k
def Rt.f (r : Rt) (i : Nat) : Nat := r.xs.getD i 0
def Rt.In (r : Rt) (w : World) : Prop := ∀ i, i < r.xs.length → w.cell? ⟨r.b, r.o + i, none⟩ = some (.int .i64 (r.f i : Int))
theorem Rt.In.keep {r : Rt} {w W : World} (h : r.In w) (hb : Below w.heap.size w W) : r.In W := fun i hi => below_keep hb (h i hi)

namespace Plain
def costR (T : Tp) (xs : List Nat) : Nat := xs.length + (xs.map fun p => (T.lk (p / 2)).dly).sum
def cmpI (a b : Int) : Int := if a < b then -1 else if b < a then 1 else 0
/-- slices.Compare. -/
def cmpL : List Nat → List Nat → Int
  | [], [] => 0
  | [], _ :: _ => -1
  | _ :: _, [] => 1
  | a :: r, b :: s => if cmpI a b ≠ 0 then cmpI a b else cmpL r s
def cmpR (T : Tp) (a b : List Nat) : Int := if cmpI (costR T a) (costR T b) ≠ 0 then cmpI (costR T a) (costR T b) else cmpL a b
theorem cmpR_neg {T : Tp} {a b : List Nat} (h : cmpR T a b < 0) : costR T a ≤ costR T b := by
  unfold cmpR cmpI at h
  by_cases e : (costR T b : Int) < (costR T a : Int)
  · have e' : ¬ (costR T a : Int) < (costR T b : Int) := by omega
    rw [if_neg e', if_pos e] at h
    simp at h
  · omega
end Plain

set_option maxHeartbeats 4000000 in
set_option maxRecDepth 100000 in
theorem isNaN_any (x : Int) (w : World) : Calls Try.prog 63 #[.int .i64 x] w fun e w' => e = .returned (.bool false) ∧ w' = w := by
  go_enter Try.func63, Try.ntmps63
  go_wp2
  go_ret
  exact ⟨by simp, rfl⟩

set_option maxHeartbeats 4000000 in
set_option maxRecDepth 100000 in
theorem cmpI_any (x y : Int) (w : World) : Calls Try.prog 35 #[.int .i64 x, .int .i64 y] w fun e w' => e = .returned (.int .i64 (cmpI x y)) ∧ w' = w := by
  have H1 := Lib.hid (isNaN_any x w)
  have H2 := Lib.hid (isNaN_any y w)
  have HC : cmpI x y = if x < y then -1 else if y < x then 1 else 0 := rfl
  by_cases h1 : x < y
  · rw [if_pos h1] at HC
    rw [HC]
    clear HC
    go_enter Try.func35, Try.ntmps35
    go_wp2_with (first | (go_at_call 63; refine H1.out.mono ?_; rintro e W' ⟨rfl, rfl⟩; clear H1) | (go_at_call 63; refine H2.out.mono ?_; rintro e W' ⟨rfl, rfl⟩; clear H2))
    go_ret
    exact ⟨rfl, rfl⟩
  · rw [if_neg h1] at HC
    by_cases h2 : y < x
    · rw [if_pos h2] at HC
      rw [HC]
      clear HC
      go_enter Try.func35, Try.ntmps35
      go_wp2_with (first | (go_at_call 63; refine H1.out.mono ?_; rintro e W' ⟨rfl, rfl⟩; clear H1) | (go_at_call 63; refine H2.out.mono ?_; rintro e W' ⟨rfl, rfl⟩; clear H2))
      go_ret
      exact ⟨rfl, rfl⟩
    · rw [if_neg h2] at HC
      rw [HC]
      clear HC
      go_enter Try.func35, Try.ntmps35
      go_wp2_with (first | (go_at_call 63; refine H1.out.mono ?_; rintro e W' ⟨rfl, rfl⟩; clear H1) | (go_at_call 63; refine H2.out.mono ?_; rintro e W' ⟨rfl, rfl⟩; clear H2))
      go_ret
      exact ⟨rfl, rfl⟩

/-- The first of two numbers that is not 0. -/
def or2 (x y : Int) : Int := if x ≠ 0 then x else y

set_option maxHeartbeats 4000000 in
set_option maxRecDepth 100000 in
theorem or_any (x y : Int) (b k : Nat) (w : World) (h0 : w.cell? ⟨b, 0, none⟩ = some (.int .i64 x)) (h1 : w.cell? ⟨b, 1, none⟩ = some (.int .i64 y)) :
    Calls Try.prog 34 #[.slice (some ⟨b, 0, none⟩) 2 k] w fun e w' => e = .returned (.int .i64 (or2 x y)) ∧ w' = w := by
  go_enter Try.func34, Try.ntmps34
  go_wp2
  go_loopw [8] (fun p wr => ∃ i : Nat, p = .int .i64 (i : Int) ∧ i ≤ 2 ∧ wr = w ∧ (1 ≤ i → x = 0) ∧ (2 ≤ i → y = 0)) (fun p _ => 2 - (RowKit.intOf p).toNat)
  case atStart => exact ⟨0, rfl, by omega, rfl, fun h => absurd h (by omega), fun h => absurd h (by omega)⟩
  case round =>
    obtain ⟨i, rfl, hi, rfl, hx, hy⟩ := hrel
    rcases (show i = 0 ∨ i = 1 ∨ i = 2 by omega) with rfl | rfl | rfl
    · clear hx hy
      by_cases ex : x = 0
      · have ex' := Lib.hid ex
        rw [ex] at h0
        clear ex
        go_wp2
        go_roundw
        case rel => exact ⟨1, rfl, by omega, trivial, fun _ => ex'.out, fun h => absurd h (by omega)⟩
        case measure => simp [RowKit.intOf]
      · have ho := Lib.hid (show or2 x y = x from if_pos ex)
        go_wp2
        go_ret
        exact ⟨ret_int ho.out.symm, rfl⟩
    · have ex := hx (by omega)
      clear hx hy
      by_cases ey : y = 0
      · have ex' := Lib.hid ex
        have ey' := Lib.hid ey
        rw [ey] at h1
        clear ex ey
        go_wp2
        go_roundw
        case rel => exact ⟨2, rfl, by omega, trivial, fun _ => ex'.out, fun _ => ey'.out⟩
        case measure => simp [RowKit.intOf]
      · have ho := Lib.hid (show or2 x y = y from if_neg (fun h => h ex))
        clear ex
        go_wp2
        go_ret
        exact ⟨ret_int ho.out.symm, rfl⟩
    · have ho := Lib.hid (show or2 x y = 0 from by rw [or2, if_neg (fun h => h (hx (by omega)))]; exact hy (by omega))
      clear hx hy
      go_wp2
      go_ret
      exact ⟨ret_int ho.out.symm, rfl⟩

set_option maxHeartbeats 8000000 in
set_option maxRecDepth 100000 in
theorem compareL_any (r s : Rt) (hr : r.xs.length ≤ 12) (hs : s.xs.length ≤ 12) (w : World) (Hr : r.In w) (Hs : s.In w) :
    Calls Try.prog 37 #[.slice (some ⟨r.b, r.o, none⟩) r.xs.length r.k, .slice (some ⟨s.b, s.o, none⟩) s.xs.length s.k] w fun e w' => e = .returned (.int .i64 (cmpL r.xs s.xs)) ∧ w' = w := by
  have HR := Lib.hid Hr
  have HS := Lib.hid Hs
  clear Hr Hs
  go_enter Try.func37, Try.ntmps37
  go_wp2
  go_loopw [11] (fun p wr => ∃ i : Nat, p = .int .i64 (i : Int) ∧ i ≤ r.xs.length ∧ i ≤ s.xs.length ∧ wr = w ∧ Hid (cmpL r.xs s.xs = cmpL (r.xs.drop i) (s.xs.drop i))) (fun p _ => r.xs.length - (RowKit.intOf p).toNat)
  case atStart => exact ⟨0, rfl, by omega, by omega, rfl, Lib.hid rfl⟩
  case round =>
    obtain ⟨i, rfl, hi, hi2, rfl, HD⟩ := hrel
    by_cases hlt : i < r.xs.length
    · have c1 : (i : Int) < (r.xs.length : Int) := by omega
      have k0 := HR.out i hlt
      have d1 : r.xs.drop i = r.f i :: r.xs.drop (i + 1) := by
        rw [List.drop_eq_getElem_cons hlt]
        simp [Rt.f, List.getD_eq_getElem?_getD, hlt]
      by_cases hls : i < s.xs.length
      · have c2 : ¬ (i : Int) ≥ (s.xs.length : Int) := by omega
        have k1 := HS.out i hls
        have d2 : s.xs.drop i = s.f i :: s.xs.drop (i + 1) := by
          rw [List.drop_eq_getElem_cons hls]
          simp [Rt.f, List.getD_eq_getElem?_getD, hls]
        have HI := Lib.hid (cmpI_any (r.f i : Int) (s.f i : Int) wr)
        have hd := HD.out
        rw [d1, d2] at hd
        by_cases hz : cmpI (r.f i) (s.f i) = 0
        · have hn : cmpL r.xs s.xs = cmpL (r.xs.drop (i + 1)) (s.xs.drop (i + 1)) := by rw [hd, cmpL, if_neg (fun h => h hz)]
          have HN := Lib.hid hn
          rw [hz] at HI
          clear hn hd hz d1 d2 HD
          go_wp2_with (go_at_call 35; refine HI.out.mono ?_; rintro e W' ⟨rfl, rfl⟩)
          go_roundw
          case rel => exact ⟨i + 1, by rw [Int.natCast_add]; rfl, by omega, by omega, trivial, HN⟩
          case measure =>
            simp [RowKit.intOf]
            omega
        · have hn : cmpL r.xs s.xs = cmpI (r.f i) (s.f i) := by rw [hd, cmpL, if_pos hz]
          have HN := Lib.hid hn
          clear hn hd d1 d2 HD
          generalize cmpI (r.f i : Int) (s.f i : Int) = c at *
          go_wp2_with (go_at_call 35; refine HI.out.mono ?_; rintro e W' ⟨rfl, rfl⟩)
          go_ret
          exact ⟨ret_int HN.out.symm, rfl⟩
      · have c2 : (i : Int) ≥ (s.xs.length : Int) := by omega
        have d2 : s.xs.drop i = [] := List.drop_eq_nil_of_le (by omega)
        have hd := HD.out
        rw [d1, d2, cmpL] at hd
        have HN := Lib.hid hd
        clear hd d1 d2 HD
        go_wp2
        go_ret
        exact ⟨ret_int HN.out.symm, rfl⟩
    · have c1 : ¬ (i : Int) < (r.xs.length : Int) := by omega
      have d1 : r.xs.drop i = [] := List.drop_eq_nil_of_le (by omega)
      have hir : i = r.xs.length := by omega
      by_cases hls : r.xs.length < s.xs.length
      · have c2 : (r.xs.length : Int) < (s.xs.length : Int) := by omega
        obtain ⟨y, l, d2⟩ : ∃ y l, s.xs.drop i = y :: l := ⟨_, _, List.drop_eq_getElem_cons (by omega)⟩
        have hd := HD.out
        rw [d1, d2, cmpL] at hd
        have HN := Lib.hid hd
        clear hd d1 d2 HD hir
        go_wp2
        go_ret
        exact ⟨ret_int HN.out.symm, rfl⟩
      · have c2 : ¬ (r.xs.length : Int) < (s.xs.length : Int) := by omega
        have d2 : s.xs.drop i = [] := List.drop_eq_nil_of_le (by omega)
        have hd := HD.out
        rw [d1, d2, cmpL] at hd
        have HN := Lib.hid hd
        clear hd d1 d2 HD hir
        go_wp2
        go_ret
        exact ⟨ret_int HN.out.symm, rfl⟩

/-- A route of ports of the topology, none of whose links is slow. -/
structure CostOk (T : Tp) (xs : List Nat) : Prop where
  len : xs.length ≤ 12
  pt : ∀ i, i < xs.length → xs.getD i 0 < T.pn
theorem cost_take {T : Tp} {xs : List Nat} {i : Nat} (h : i < xs.length) : ((xs.take (i + 1)).map fun p => (T.lk (p / 2)).dly).sum = ((xs.take i).map fun p => (T.lk (p / 2)).dly).sum + (T.lk (xs.getD i 0 / 2)).dly := by
  have e : xs.getD i 0 = xs[i] := by simp [List.getD_eq_getElem?_getD, h]
  rw [e, List.take_succ_eq_append_getElem h, List.map_append, List.sum_append]
  rfl
theorem cost_bd {T : Tp} (hk : OkT T) {xs : List Nat} (hc : CostOk T xs) : ∀ i, i ≤ xs.length → ((xs.take i).map fun p => (T.lk (p / 2)).dly).sum ≤ 10000 * i
  | 0, _ => by simp
  | i + 1, h => by
    have := cost_bd hk hc i (by omega)
    rw [cost_take (by omega)]
    have hp := hc.pt i (by omega)
    unfold Tp.pn at hp
    have := (hk.ok (xs.getD i 0 / 2) (by omega)).d
    omega

set_option maxHeartbeats 8000000 in
set_option maxRecDepth 100000 in
theorem cost_any (g : Tg) (hk : OkT g.T) (r : Rt) (hc : CostOk g.T r.xs) (w : World) (hg : g.In w) (Hr : r.In w) :
    Calls Try.prog 36 #[.agg (Sv g).toArray, .slice (some ⟨r.b, r.o, none⟩) r.xs.length r.k] w fun e w' => e = .returned (.int .i64 (costR g.T r.xs : Int)) ∧ Below w.heap.size w w' := by
  have HR := Lib.hid (Hr.keep (below_alloc (Below.refl _ _) (.cells (Sv g).toArray 55)))
  have HS := Lib.hid (SAt.new hg 55)
  have c2 := HS.out.c2
  have hl := hc.len
  have HB := Lib.hid (below_alloc (Below.refl _ w) (.cells (Sv g).toArray 55))
  clear Hr hg
  go_enter Try.func36, Try.ntmps36
  have hbd := Lib.hid (cost_bd hk hc)
  go_wp2
  generalize (Sv g).toArray = A99 at *
  go_loopw [5, 12] (fun v p wr => ∃ i : Nat, p = .int .i64 (i : Int) ∧ v = .int .i64 ((r.xs.length + ((r.xs.take i).map fun q => (g.T.lk (q / 2)).dly).sum : Nat) : Int) ∧ i ≤ r.xs.length ∧ wr = w.alloc (.cells A99 55)) (fun _ p _ => r.xs.length - (RowKit.intOf p).toNat)
  case atStart => exact ⟨0, rfl, rfl, by omega, rfl⟩
  case round =>
    obtain ⟨i, rfl, rfl, hi, rfl⟩ := hrel
    by_cases hlt : i < r.xs.length
    · have c1 : (i : Int) < (r.xs.length : Int) := by omega
      have k0 := HR.out i hlt
      have hp := hc.pt i hlt
      unfold Tp.pn at hp
      change r.f i < 2 * g.T.ls.length at hp
      have hj : r.f i / 2 < g.T.ls.length := by omega
      have k1 := HS.out.i.d (r.f i / 2) hj
      have hq : Int.tdiv (r.f i : Int) 2 = ((r.f i / 2 : Nat) : Int) := by rw [Int.tdiv_eq_ediv_of_nonneg (by omega)]; omega
      have hq2 : ((r.f i / 2 : Nat) : Int) < (g.T.ls.length : Int) := by omega
      have hb := hbd.out i (by omega)
      have hd := (hk.ok _ hj).d
      have ht := cost_take (T := g.T) hlt
      change _ = _ + (g.T.lk (r.f i / 2)).dly at ht
      have HT := Lib.hid ht
      clear ht
      generalize (g.T.lk (r.f i / 2)).dly = dl at *
      generalize r.f i / 2 = j at *
      obtain ⟨S, hS⟩ : ∃ S, ((r.xs.take i).map fun q => (g.T.lk (q / 2)).dly).sum = S := ⟨_, rfl⟩
      rw [hS] at hb HT ⊢
      have e1 : ((r.xs.length + S : Nat) : Int) = (r.xs.length : Int) + (S : Int) := by omega
      obtain ⟨y, hy⟩ : ∃ y, (r.xs.length : Int) + (S : Int) = y := ⟨_, rfl⟩
      rw [e1, hy]
      have HY := Lib.hid hy
      have yb : y ≤ 130000 := by omega
      have y0 : 0 ≤ y := by omega
      clear hS e1 hy hb
      have hl24 := hk.l24
      have hw1 : wrap64 (j : Int) = (j : Int) := by unfold wrap64; omega
      have hw2 : wrap64 (y + (dl : Int)) = y + (dl : Int) := by unfold wrap64; omega
      have HN := Lib.hid (show y + (dl : Int) = ((r.xs.length + ((r.xs.take (i + 1)).map fun q => (g.T.lk (q / 2)).dly).sum : Nat) : Int) from by rw [HT.out]; have := HY.out; omega)
      go_wp2
      go_roundw
      case rel => exact ⟨i + 1, by rw [Int.natCast_add]; rfl, int_eq HN.out, by omega, trivial⟩
      case measure =>
        simp [RowKit.intOf]
        omega
    · have c1 : ¬ (i : Int) < (r.xs.length : Int) := by omega
      have hir : i = r.xs.length := by omega
      have HE := Lib.hid (show ((r.xs.length + ((r.xs.take i).map fun q => (g.T.lk (q / 2)).dly).sum : Nat) : Int) = (costR g.T r.xs : Int) from by rw [hir, List.take_length]; rfl)
      clear hir
      generalize ((r.xs.length + ((r.xs.take i).map fun q => (g.T.lk (q / 2)).dly).sum : Nat) : Int) = y at *
      go_wp2
      go_ret
      exact ⟨ret_int HE.out, HB.out⟩

/-- .. of two routes. -/
def Cmp2 (g : Tg) (r s : Rt) : Prop := CostOk g.T r.xs ∧ CostOk g.T s.xs
theorem cmpR_or (T : Tp) (a b : List Nat) : cmpR T a b = or2 (cmpI (costR T a) (costR T b)) (cmpL a b) := rfl

set_option maxHeartbeats 8000000 in
set_option maxRecDepth 100000 in
theorem compare_any (g : Tg) (hk : OkT g.T) (r s : Rt) (hr : CostOk g.T r.xs) (hs : CostOk g.T s.xs) (w : World) (hg : g.In w) (Hr : r.In w) (Hs : s.In w) :
    Calls Try.prog 16 #[.agg (Sv g).toArray, .slice (some ⟨r.b, r.o, none⟩) r.xs.length r.k, .slice (some ⟨s.b, s.o, none⟩) s.xs.length s.k] w fun e w' => e = .returned (.int .i64 (cmpR g.T r.xs s.xs)) ∧ Below w.heap.size w w' := by
  have HC := Lib.hid (fun W (hW : Below w.heap.size w W) => cost_any g hk r hr W (hg.keep hW) (Hr.keep hW))
  have HD := Lib.hid (fun W (hW : Below w.heap.size w W) => cost_any g hk s hs W (hg.keep hW) (Hs.keep hW))
  have HL := Lib.hid (fun W (hW : Below w.heap.size w W) => compareL_any r s hr.len hs.len W (Hr.keep hW) (Hs.keep hW))
  have HS := Lib.hid (holds_alloc w (Sv g) 55 rfl)
  have HB := Lib.hid (below_alloc (Below.refl _ w) (.cells (Sv g).toArray 55))
  clear hg Hr Hs
  go_enter Try.func16, Try.ntmps16
  go_upto_region 1 with fail
  refine wp_world ?_
  intro V hV
  rw [← hV] at HS HB
  clear hV
  have HC2 := Lib.hid (fun d os => HC.out _ (below_step HB.out (below_regrown V d os)))
  have HD2 := Lib.hid (fun d os => HD.out _ (below_step HB.out (below_regrown V d os)))
  have HL2 := Lib.hid (fun d os => (HL.out _ (below_step HB.out (below_regrown V d os))).mono fun e w' h => (show e = .returned (.int .i64 (cmpL r.xs s.xs)) ∧ Below (Go.Sort.grow (redrawn V d) os).heap.size (Go.Sort.grow (redrawn V d) os) w' from ⟨h.1, by rw [h.2]; exact Below.refl _ _⟩))
  have HI2 := Lib.hid (fun d os => (cmpI_any (costR g.T r.xs : Int) (costR g.T s.xs : Int) (Go.Sort.grow (redrawn V d) os)).mono fun e w' h => (show e = .returned (.int .i64 (cmpI (costR g.T r.xs : Int) (costR g.T s.xs : Int))) ∧ Below (Go.Sort.grow (redrawn V d) os).heap.size (Go.Sort.grow (redrawn V d) os) w' from ⟨h.1, by rw [h.2]; exact Below.refl _ _⟩))
  clear HC HD HL
  have ho := cmpR_or g.T r.xs s.xs
  have HO := Lib.hid ho
  clear ho
  refine wp_region_quiet_tail 10 (by kernel_rfl) (by kernel_rfl) ?_
  simp only [List.take_succ_cons, List.take_zero, List.drop_succ_cons, List.drop_zero]
  refine wpQuiet_load_whole rfl (.tmp 3) 55 rfl w.heap.size 0 (Sv g) rfl agg55 (size55 g _ _) (holds_regrown HS.out) ?_
  simp only [Act.put, List.setIfInBounds_toArray, List.set_cons_succ, List.set_cons_zero]
  go_big_quiet_step (fail)
  go_big_quiet_step (with_reducible exact Calls.regrown_of (HC2.out _ _))
  refine wpQuiet_load_whole rfl (.tmp 3) 55 rfl w.heap.size 0 (Sv g) rfl agg55 (size55 g _ _) (holds_regrown HS.out) ?_
  simp only [Act.put, List.setIfInBounds_toArray, List.set_cons_succ, List.set_cons_zero]
  go_big_quiet_step (fail)
  go_big_quiet_step (with_reducible exact Calls.regrown_of (HD2.out _ _))
  go_big_quiet_step (with_reducible exact Calls.regrown_of (HI2.out _ _))
  go_big_quiet_step (fail)
  go_big_quiet_step (fail)
  go_big_quiet_step (with_reducible exact Calls.regrown_of (HL2.out _ _))
  refine wpQuiet_nil ?_
  rintro W6 ⟨pr, hpr⟩
  have B6 := Lib.hid (below_step HB.out (show Below V.heap.size V W6 by rw [hpr]; exact below_regrown V pr.d pr.os))
  clear hpr HC2 HD2 HL2 HI2 HS HB
  generalize cmpL r.xs s.xs = y at *
  generalize cmpI (costR g.T r.xs : Int) (costR g.T s.xs : Int) = x at *
  have HOr := Lib.hid (or_any x y W6.heap.size 2 (W6.alloc (.cells #[.int .i64 x, .int .i64 y] 3)) (by simp [go_sem]) (by simp [go_sem]))
  go_wp2_with fail
  trace_state
  refine HOr.out.mono ?_
  rintro e W7 ⟨rfl, rfl⟩
  go_wp2
  go_ret
  exact ⟨ret_int HO.out.symm, below_alloc B6.out _⟩

end Go.Proofs.Ytjhpbemnklpefaa
