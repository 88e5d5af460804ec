/-
  The walks of the bounds of package delay and of its reference; a node's clock; Timed.
-/
import Derived.Test.YtkencmijghigiaaGreatMDelay3
import Derived.Test.YtkencmijghigiaaGreatMBase
namespace Go.Proofs.YtkencmijghigiaaGreat
open Go.RowKit Go.Lib Plain

/-- delay.RatioBound -/
theorem ratioBound_any (y : Int) (w : World) :
    Calls Tryz.prog 72 #[.int .i64 y] w fun e w' => e = .returned (.tuple #[.int .i64 (rblV y), .int .i64 (rblE y)]) ∧ Below w.heap.size w w' := by
  by_cases h : RbOk y
  · rw [show rblV y = rbV y from if_pos h, show rblE y = 0 from if_pos h]
    have q : inB y 1 4398046511104 = true := inB_yes h
    obtain ⟨h1, h2⟩ := h
    have b1 : -2001000000 ≤ -2001000000 / y := Int.le_ediv_of_mul_le (by omega) (by have := Int.mul_le_mul_of_nonneg_left h1 (show (0 : Int) ≤ 2001000000 by decide); omega)
    have b2 : -2001000000 / y ≤ 0 := by
      have := Int.ediv_lt_of_lt_mul (a := -2001000000) (b := 1) (c := y) (by omega) (by omega)
      omega
    rw [show rbV y = 82 + -(-2001000000 / y) by unfold rbV; omega]
    have HC := Lib.hid (fun W => ceilDiv_any 2001000000 y (by omega) (by omega) h1 (by omega) W)
    obtain ⟨m, hm⟩ : ∃ m, -2001000000 / y = m := ⟨_, rfl⟩
    have HM := Lib.hid hm
    rw [hm] at b1 b2 ⊢
    clear hm
    go_enter Tryz.func72, Tryz.ntmps72
    go_wp2_with fail
    refine (inside_any _ _ _ _).mono ?_
    rintro e w' ⟨rfl, rfl⟩
    go_wp2_with fail
    refine (HC.out _).mono ?_
    rw [show (-2001000000 : Int) / y = m from HM.out]
    rintro e w1 ⟨rfl, hb1⟩
    go_wp2
    go_ret2
    exact ⟨rfl, hb1⟩
  · rw [show rblV y = 0 from if_neg h, show rblE y = 2 from if_neg h]
    have q : inB y 1 4398046511104 = false := inB_no h
    clear h
    go_enter Tryz.func72, Tryz.ntmps72
    go_wp2_with fail
    refine (inside_any _ _ _ _).mono ?_
    rintro e w' ⟨rfl, rfl⟩
    go_wp2
    go_ret2
    exact ⟨rfl, Below.refl _ _⟩

def spB (t d u : Int) : Bool := decide (Spn t d u)
/-- delay.node.read -/
theorem read_any (O P t : Int) (h : OkC O P) (ht : Tick t) (w : World) :
    Calls Tryz.prog 77 #[.agg #[.int .i64 O, .int .i64 P], .int .i64 t] w fun e w' => e = .returned (.int .i64 (locV O P t)) ∧ Below w.heap.size w w' := by
  have HS := Lib.hid h
  have HT := Lib.hid ht
  clear h ht
  go_enter Tryz.func77, Tryz.ntmps77
  go_wp2_with fail
  refine (local_ok O P t HS.out HT.out _).mono ?_
  rintro e w1 ⟨rfl, hb1⟩
  have H1 := Lib.hid (below_step (below_alloc (Below.refl _ _) _) hb1)
  clear hb1
  go_wp2
  go_ret
  exact ⟨rfl, H1.out⟩

/-- The durations of DelayBound. -/
def dbz (d u : Int) (k : Nat) : Int := [d, d, u].getD k 0
theorem dbz_iff (d u : Int) : SpOk (dbz d u) 3 ↔ Spn 0 d u := by
  have e : sumTo (dbz d u) 3 = 0 + d + d + u := rfl
  unfold SpOk Spn
  rw [e]
  constructor
  · rintro ⟨h, k⟩
    exact ⟨⟨by decide, by decide⟩, h 0 (by decide), h 2 (by decide), by omega⟩
  · rintro ⟨_, h1, h2, k⟩
    refine ⟨fun j hj => ?_, by omega⟩
    match j, hj with
    | 0, _ => exact h1
    | 1, _ => exact h1
    | 2, _ => exact h2

theorem firstE2_no (e2 : Int) : firstE2 2 e2 = 2 := if_neg (by decide)
theorem firstE2_go (e2 : Int) : firstE2 0 e2 = e2 := if_pos rfl

instance (zs : Nat → Int) (n : Nat) : Decidable (SpOk zs n) := inferInstanceAs (Decidable (_ ∧ _))

theorem spans1_any (zs : Nat → Int) (n bs b : Nat) (hn : n ≤ 4) (w : World) (h1 : w.cell? ⟨bs, 0, none⟩ = some (.slice (some ⟨b, 0, none⟩) n n)) (hc : ∀ k, k < n → w.cell? ⟨b, k, none⟩ = some (.int .i64 (zs k))) :
    Calls Tryz.prog 101 #[.pointer (some ⟨bs, 0, none⟩)] w fun y w' => y = .returned (.int .i64 (if SpOk zs n then 0 else 2)) ∧ Below w.heap.size w w' := by
  by_cases h : SpOk zs n
  · rw [if_pos h]; exact spans1_yes zs n bs b hn w h1 hc h
  · rw [if_neg h]; exact spans1_no zs n bs b hn w h1 hc h

set_option maxHeartbeats 2000000 in
theorem delayBound_bad1 (p d u : Int) (h : ¬ (0 ≤ p ∧ p ≤ 200000)) (w : World) :
    Calls Tryz.prog 68 #[.int .i64 p, .int .i64 d, .int .i64 u] w fun e w' => e = .returned (.tuple #[.int .i64 0, .int .i64 2]) ∧ Below w.heap.size w w' := by
  have q : inB p 0 200000 = false := inB_no h
  clear h
  go_enter Tryz.func68, Tryz.ntmps68
  go_wp2_with fail
  refine (inside_any _ _ _ _).mono ?_
  rintro e w' ⟨rfl, rfl⟩
  go_wp2_with fail
  refine (demand_any _ _ _).mono ?_
  rintro e w1 ⟨rfl, hb1, q1, q2⟩
  have H1 := Lib.hid hb1
  clear hb1
  go_wp2_with fail
  refine (spans_any _ 3 _).mono ?_
  rintro e w2 ⟨rfl, hb2, q3⟩
  have z0 : w2.cell? ⟨w1.heap.size, 0, none⟩ = some (.int .i64 d) := below_keep hb2 (by simp [go_sem])
  have z1 : w2.cell? ⟨w1.heap.size, 1, none⟩ = some (.int .i64 d) := below_keep hb2 (by simp [go_sem])
  have z2 : w2.cell? ⟨w1.heap.size, 2, none⟩ = some (.int .i64 u) := below_keep hb2 (by simp [go_sem])
  have q1' := below_keep hb2 (show (w1.alloc _).cell? _ = _ by rw [World.cell?_alloc_lt _ _ _ (World.block_lt_of_cell? _ _ q1)]; exact q1)
  have q2' := below_keep hb2 (show (w1.alloc _).cell? _ = _ by rw [World.cell?_alloc_lt _ _ _ (World.block_lt_of_cell? _ _ q2)]; exact q2)
  have HD := Lib.hid (fun W (hB : Below w2.heap.size w2 W) => demand1_any _ _ _ _ W (below_keep hB q1') (below_keep hB q2'))
  have HS := Lib.hid (fun W (hB : Below w2.heap.size w2 W) => spans1_any (dbz d u) 3 _ _ (by omega) W (below_keep hB q3) (fun k hk => by
    match k, hk with
    | 0, _ => exact below_keep hB z0
    | 1, _ => exact below_keep hB z1
    | 2, _ => exact below_keep hB z2))
  have H2 := Lib.hid (below_step (below_alloc H1.out _) hb2)
  clear hb2 q1 q2 q3 q1' q2' z0 z1 z2 H1
  go_wp2_with fail
  refine (first_db _ _ _ _ _ _ _ (by simp [go_sem]) (by simp [go_sem])
    (Lib.hid fun W hB => HD.out W (below_step (below_alloc (Below.refl _ _) _) hB)) (Lib.hid fun W hB => HS.out W (below_step (below_alloc (Below.refl _ _) _) hB))).mono ?_
  rw [show demE false 2 = 2 from rfl, firstE2_no]
  rintro e w3 ⟨rfl, hb3⟩
  have H3 := Lib.hid (below_step (below_alloc H2.out _) hb3)
  clear hb3 H2 HD HS
  go_wp2
  go_ret2
  exact ⟨rfl, H3.out⟩

set_option maxHeartbeats 2000000 in
theorem delayBound_bad2 (p d u : Int) (h : 0 ≤ p ∧ p ≤ 200000) (h' : ¬ SpOk (dbz d u) 3) (w : World) :
    Calls Tryz.prog 68 #[.int .i64 p, .int .i64 d, .int .i64 u] w fun e w' => e = .returned (.tuple #[.int .i64 0, .int .i64 2]) ∧ Below w.heap.size w w' := by
  have q : inB p 0 200000 = true := inB_yes h
  have HN := Lib.hid h'
  clear h h'
  go_enter Tryz.func68, Tryz.ntmps68
  go_wp2_with fail
  refine (inside_any _ _ _ _).mono ?_
  rintro e w' ⟨rfl, rfl⟩
  go_wp2_with fail
  refine (demand_any _ _ _).mono ?_
  rintro e w1 ⟨rfl, hb1, q1, q2⟩
  have H1 := Lib.hid hb1
  clear hb1
  go_wp2_with fail
  refine (spans_any _ 3 _).mono ?_
  rintro e w2 ⟨rfl, hb2, q3⟩
  have z0 : w2.cell? ⟨w1.heap.size, 0, none⟩ = some (.int .i64 d) := below_keep hb2 (by simp [go_sem])
  have z1 : w2.cell? ⟨w1.heap.size, 1, none⟩ = some (.int .i64 d) := below_keep hb2 (by simp [go_sem])
  have z2 : w2.cell? ⟨w1.heap.size, 2, none⟩ = some (.int .i64 u) := below_keep hb2 (by simp [go_sem])
  have q1' := below_keep hb2 (show (w1.alloc _).cell? _ = _ by rw [World.cell?_alloc_lt _ _ _ (World.block_lt_of_cell? _ _ q1)]; exact q1)
  have q2' := below_keep hb2 (show (w1.alloc _).cell? _ = _ by rw [World.cell?_alloc_lt _ _ _ (World.block_lt_of_cell? _ _ q2)]; exact q2)
  have HD := Lib.hid (fun W (hB : Below w2.heap.size w2 W) => demand1_any _ _ _ _ W (below_keep hB q1') (below_keep hB q2'))
  have HS := Lib.hid (fun W (hB : Below w2.heap.size w2 W) => spans1_any (dbz d u) 3 _ _ (by omega) W (below_keep hB q3) (fun k hk => by
    match k, hk with
    | 0, _ => exact below_keep hB z0
    | 1, _ => exact below_keep hB z1
    | 2, _ => exact below_keep hB z2))
  have H2 := Lib.hid (below_step (below_alloc H1.out _) hb2)
  clear hb2 q1 q2 q3 q1' q2' z0 z1 z2 H1
  go_wp2_with fail
  refine (first_db _ _ _ _ _ _ _ (by simp [go_sem]) (by simp [go_sem])
    (Lib.hid fun W hB => HD.out W (below_step (below_alloc (Below.refl _ _) _) hB)) (Lib.hid fun W hB => HS.out W (below_step (below_alloc (Below.refl _ _) _) hB))).mono ?_
  rw [show demE true 2 = 0 from rfl, firstE2_go, if_neg HN.out]
  rintro e w3 ⟨rfl, hb3⟩
  have H3 := Lib.hid (below_step (below_alloc H2.out _) hb3)
  clear hb3 H2 HD HS
  go_wp2
  go_ret2
  exact ⟨rfl, H3.out⟩

set_option maxHeartbeats 2000000 in
theorem delayBound_ok (p d u : Int) (h : 0 ≤ p ∧ p ≤ 200000) (h' : SpOk (dbz d u) 3) (w : World) :
    Calls Tryz.prog 68 #[.int .i64 p, .int .i64 d, .int .i64 u] w fun e w' => e = .returned (.tuple #[.int .i64 (dbV p d u), .int .i64 0]) ∧ Below w.heap.size w w' := by
  have q : inB p 0 200000 = true := inB_yes h
  have HN := Lib.hid h'
  obtain ⟨_, ⟨d1, d2⟩, ⟨u1, u2⟩, k⟩ := (dbz_iff d u).1 h'
  obtain ⟨p1, p2⟩ := h
  have E1 : Hid (bndV p (2 * d + u) = -share (-(2 * d + u)) p) := if_pos ⟨p1, p2, by omega, by omega⟩
  have E2 : Hid (bndE p (2 * d + u) = 0) := if_pos ⟨p1, p2, by omega, by omega⟩
  have E3 : Hid (bndV p u = -share (-u) p) := if_pos ⟨p1, p2, by omega, by omega⟩
  have E4 : Hid (bndE p u = 0) := if_pos ⟨p1, p2, by omega, by omega⟩
  obtain ⟨_, _, m1, m2⟩ := part_bd' (x := -(2 * d + u)) (p := p) (by omega) (by omega) (by omega) p2
  obtain ⟨_, _, m3, m4⟩ := part_bd' (x := -u) (p := p) (by omega) (by omega) (by omega) p2
  unfold dbV
  generalize share (-(2 * d + u)) p = s1 at *
  generalize share (-u) p = s2 at *
  clear h'
  go_enter Tryz.func68, Tryz.ntmps68
  go_wp2_with fail
  refine (inside_any _ _ _ _).mono ?_
  rintro e w' ⟨rfl, rfl⟩
  go_wp2_with fail
  refine (demand_any _ _ _).mono ?_
  rintro e w1 ⟨rfl, hb1, q1, q2⟩
  have H1 := Lib.hid hb1
  clear hb1
  go_wp2_with fail
  refine (spans_any _ 3 _).mono ?_
  rintro e w2 ⟨rfl, hb2, q3⟩
  have z0 : w2.cell? ⟨w1.heap.size, 0, none⟩ = some (.int .i64 d) := below_keep hb2 (by simp [go_sem])
  have z1 : w2.cell? ⟨w1.heap.size, 1, none⟩ = some (.int .i64 d) := below_keep hb2 (by simp [go_sem])
  have z2 : w2.cell? ⟨w1.heap.size, 2, none⟩ = some (.int .i64 u) := below_keep hb2 (by simp [go_sem])
  have q1' := below_keep hb2 (show (w1.alloc _).cell? _ = _ by rw [World.cell?_alloc_lt _ _ _ (World.block_lt_of_cell? _ _ q1)]; exact q1)
  have q2' := below_keep hb2 (show (w1.alloc _).cell? _ = _ by rw [World.cell?_alloc_lt _ _ _ (World.block_lt_of_cell? _ _ q2)]; exact q2)
  have HD := Lib.hid (fun W (hB : Below w2.heap.size w2 W) => demand1_any _ _ _ _ W (below_keep hB q1') (below_keep hB q2'))
  have HS := Lib.hid (fun W (hB : Below w2.heap.size w2 W) => spans1_any (dbz d u) 3 _ _ (by omega) W (below_keep hB q3) (fun k hk => by
    match k, hk with
    | 0, _ => exact below_keep hB z0
    | 1, _ => exact below_keep hB z1
    | 2, _ => exact below_keep hB z2))
  have H2 := Lib.hid (below_step (below_alloc H1.out _) hb2)
  clear hb2 q1 q2 q3 q1' q2' z0 z1 z2 H1
  go_wp2_with fail
  refine (first_db _ _ _ _ _ _ _ (by simp [go_sem]) (by simp [go_sem])
    (Lib.hid fun W hB => HD.out W (below_step (below_alloc (Below.refl _ _) _) hB)) (Lib.hid fun W hB => HS.out W (below_step (below_alloc (Below.refl _ _) _) hB))).mono ?_
  rw [show demE true 2 = 0 from rfl, firstE2_go, if_pos HN.out]
  rintro e w3 ⟨rfl, hb3⟩
  have H3 := Lib.hid (below_step (below_alloc H2.out _) hb3)
  clear hb3 H2 HD HS
  go_wp2_with fail
  refine (cbound_any _ _ _).mono ?_
  rw [E1.out, E2.out]
  rintro e w4 ⟨rfl, hb4⟩
  have H4 := Lib.hid (below_step H3.out hb4)
  clear hb4 H3
  go_wp2_with fail
  refine (cbound_any _ _ _).mono ?_
  rw [E3.out, E4.out]
  rintro e w5 ⟨rfl, hb5⟩
  have H5 := Lib.hid (below_step H4.out hb5)
  clear hb5 H4
  go_wp2_with fail
  refine (ceilDiv_any _ 2 (by omega) (by omega) (by omega) (by omega) _).mono ?_
  rintro e w6 ⟨rfl, hb6⟩
  have H6 := Lib.hid (below_step H5.out hb6)
  clear hb6 H5
  go_wp2
  go_ret2
  exact ⟨rfl, H6.out⟩

/-- delay.DelayBound -/
theorem delayBound_any (p d u : Int) (w : World) :
    Calls Tryz.prog 68 #[.int .i64 p, .int .i64 d, .int .i64 u] w fun e w' => e = .returned (.tuple #[.int .i64 (dblV p d u), .int .i64 (dblE p d u)]) ∧ Below w.heap.size w w' := by
  by_cases h : 0 ≤ p ∧ p ≤ 200000
  · by_cases h' : SpOk (dbz d u) 3
    · have hd : DbOk p d u := ⟨h, (dbz_iff d u).1 h'⟩
      rw [show dblV p d u = dbV p d u from if_pos hd, show dblE p d u = 0 from if_pos hd]
      exact delayBound_ok p d u h h' w
    · have hd : ¬ DbOk p d u := fun x => h' ((dbz_iff d u).2 x.2)
      rw [show dblV p d u = 0 from if_neg hd, show dblE p d u = 2 from if_neg hd]
      exact delayBound_bad2 p d u h h' w
  · have hd : ¬ DbOk p d u := fun x => h x.1
    rw [show dblV p d u = 0 from if_neg hd, show dblE p d u = 2 from if_neg hd]
    exact delayBound_bad1 p d u h w

end Go.Proofs.YtkencmijghigiaaGreat
