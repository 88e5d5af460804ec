/-
  PassStays: for every input the law returns true, and its arguments read as before. No conditions.
-/
import Derived.Test.YtkbadnehngogjaaPassWorks
import Derived.Test.YtkbadnehngogjaaPassRef
import Derived.Test.YtkbadnehngogjaaOpen14
import Derived.Lib.QuietBelow
import Derived.BigQuiet
namespace Go.Proofs.Ytkbadnehngogjaa
open Go.RowKit Go.Lib Plain
open Go.ChangeShapes Go.WideShapes Go.ChangeAt

theorem tdiv4 (x : Int) (h : -4398046511104 ≤ x) (h' : x ≤ 4398046511104) : -1099511627776 ≤ x.tdiv 4 ∧ x.tdiv 4 ≤ 1099511627776 := by
  rcases Int.le_total 0 x with k | k
  · rw [Int.tdiv_eq_ediv_of_nonneg k]; omega
  · obtain ⟨n, rfl⟩ : ∃ n, x = -n := ⟨-x, by omega⟩
    rw [Int.neg_tdiv, Int.tdiv_eq_ediv_of_nonneg (by omega)]; omega

set_option maxHeartbeats 8000000 in
set_option maxRecDepth 100000 in
theorem passStays_core (a b c l x O C L : Int) (x0 : 0 ≤ x) (x1 : x ≤ 4294967295) (hO : (a.tmod 4398046511105).tdiv 4 = O) (hC : (b.tmod 4398046511105).tdiv 4 = C) (hL : l.tmod 1099511627776 = L)
    (k1 : -1099511627776 ≤ O) (k2 : O ≤ 1099511627776) (k3 : -1099511627776 ≤ C) (k4 : C ≤ 1099511627776) (k5 : -1099511627776 ≤ L) (k6 : L ≤ 1099511627776) (w : World) :
    Calls Try.prog 9 #[.agg #[.int .i64 a, .int .i64 b, .int .i32 c], .int .i64 l, .int .u32 x] w fun y w' => y = .returned (.bool true) ∧ Below w.heap.size w w' := by
  obtain ⟨_, _, ⟨p1, p2⟩⟩ := infoDraft_ok a b c
  go_enter Try.func9, Try.ntmps9
  go_wp2_with fail
  refine (works_any _).mono ?_
  rintro y w1 ⟨rfl, hb1⟩
  have c1 : w1.cell? ⟨w.heap.size, 0, none⟩ = some (.int .i64 a) := below_keep hb1 (by simp [go_sem])
  have c2 : w1.cell? ⟨w.heap.size, 1, none⟩ = some (.int .i64 b) := below_keep hb1 (by simp [go_sem])
  have c3 : w1.cell? ⟨w.heap.size, 2, none⟩ = some (.int .i32 c) := below_keep hb1 (by simp [go_sem])
  have H1 := Lib.hid (below_step (below_alloc (Below.refl _ _) _) hb1)
  clear hb1
  go_wp2_with fail
  refine (infoDraft_any a b c _).mono ?_
  rintro y w2 ⟨rfl, hb2⟩
  have c4 : w2.cell? ⟨w.heap.size, 0, none⟩ = some (.int .i64 a) := below_keep hb2 (c1)
  have c5 : w2.cell? ⟨w.heap.size, 1, none⟩ = some (.int .i64 b) := below_keep hb2 (c2)
  have c6 : w2.cell? ⟨w.heap.size, 2, none⟩ = some (.int .i32 c) := below_keep hb2 (c3)
  have H2 := Lib.hid (below_step (H1.out) hb2)
  clear hb2 c1 c2 c3 H1
  clear c4 c5 c6
  generalize c.tmod 8388609 = P at *
  obtain ⟨s1, s2⟩ := part_bd (x := x) (p := P) (by omega) (by omega) (by omega) (by omega)
  have hoc : OkI O C P := ⟨⟨by omega, by omega⟩, ⟨by omega, by omega⟩, ⟨p1, p2⟩⟩
  have hst : Stamp L := ⟨by omega, by omega⟩
  have hsum : Stamp (O + C) := ⟨by omega, by omega⟩
  have hx : Tick x := ⟨x0, by omega⟩
  have hok2 : OkI O (corV C x P) P := ⟨⟨by omega, by omega⟩, ⟨by unfold corV; omega, by unfold corV; omega⟩, ⟨p1, p2⟩⟩
  have hsv : OkS L (O + C) P := ⟨by omega, by omega, by omega, by omega, by omega, by omega⟩
  have hsl : Stamp (L + x) := ⟨by omega, by omega⟩
  have hat : Hid (O + corV C x P = atV L (O + C) P (L + x)) := by show _ = _; unfold corV atV; rw [show L + x - L = x by omega]; omega
  have hcb : -2199023255552 ≤ corV C x P ∧ corV C x P ≤ 2199023255552 := by unfold corV; omega
  have e0 : Hid ((apV (OkI O C P) (Stamp L) (stV O C L L)) = L) := by show (apV (OkI O C P) (Stamp L) (stV O C L L)) = _; unfold apV stV; rw [if_pos hoc, if_pos hst, if_pos hsum]
  have e1 : Hid ((apV (OkI O C P) (Stamp L) (stV O C L (O + C))) = O + C) := by show (apV (OkI O C P) (Stamp L) (stV O C L (O + C))) = _; unfold apV stV; rw [if_pos hoc, if_pos hst, if_pos hsum]
  have e2 : Hid ((apV (OkI O C P) (Stamp L) (stV O C L P)) = P) := by show (apV (OkI O C P) (Stamp L) (stV O C L P)) = _; unfold apV stV; rw [if_pos hoc, if_pos hst, if_pos hsum]
  have e3 : Hid ((apE (OkI O C P) (Stamp L) (stE O C)) = 0) := by show (apE (OkI O C P) (Stamp L) (stE O C)) = _; unfold apE stE; rw [if_pos hoc, if_pos hst, if_pos hsum]
  have f0 : Hid ((apV (OkI O C P) (Tick x) (dnV O (corV C x P) P O)) = O) := by show (apV (OkI O C P) (Tick x) (dnV O (corV C x P) P O)) = _; unfold apV dnV; rw [if_pos hoc, if_pos hx, if_pos hok2]
  have f1 : Hid ((apV (OkI O C P) (Tick x) (dnV O (corV C x P) P (corV C x P))) = corV C x P) := by show (apV (OkI O C P) (Tick x) (dnV O (corV C x P) P (corV C x P))) = _; unfold apV dnV; rw [if_pos hoc, if_pos hx, if_pos hok2]
  have f2 : Hid ((apV (OkI O C P) (Tick x) (dnV O (corV C x P) P P)) = P) := by show (apV (OkI O C P) (Tick x) (dnV O (corV C x P) P P)) = _; unfold apV dnV; rw [if_pos hoc, if_pos hx, if_pos hok2]
  have f3 : Hid ((apE (OkI O C P) (Tick x) (dnE O (corV C x P) P)) = 0) := by show (apE (OkI O C P) (Tick x) (dnE O (corV C x P) P)) = _; unfold apE dnE; rw [if_pos hoc, if_pos hx, if_pos hok2]
  have g0 : Hid (timeV L (O + C) P (L + x) = atV L (O + C) P (L + x)) := if_pos ⟨hsv, hsl⟩
  have g1 : Hid (timeE L (O + C) P (L + x) = 0) := by show timeE _ _ _ _ = 0; unfold timeE; rw [if_pos hsv, if_pos hsl]
  obtain ⟨hcb1, hcb2⟩ := hcb
  clear hoc hst hsum hx hok2 hsv hsl
  go_wp2_with fail
  refine (set_any O C P L _).mono ?_
  rw [e0.out, e1.out, e2.out, e3.out]
  rintro y w3 ⟨rfl, hb3⟩
  have c7 : w3.cell? ⟨w2.heap.size, 0, none⟩ = some (.int .i64 O) := below_keep hb3 (by simp [go_sem])
  have c8 : w3.cell? ⟨w2.heap.size, 1, none⟩ = some (.int .i64 C) := below_keep hb3 (by simp [go_sem])
  have c9 : w3.cell? ⟨w2.heap.size, 2, none⟩ = some (.int .i64 P) := below_keep hb3 (by simp [go_sem])
  have H3 := Lib.hid (below_step (below_alloc (H2.out) _) hb3)
  clear hb3 H2
  have hz10 : w2.heap.size < w3.heap.size := World.block_lt_of_cell? _ _ c7
  go_wp2_with fail
  refine (leave_any O C P x _).mono ?_
  rw [f0.out, f1.out, f2.out, f3.out]
  rintro y w4 ⟨rfl, hb4⟩
  have c11 : w4.cell? ⟨w2.heap.size, 0, none⟩ = some (.int .i64 O) := below_keep hb4 (by rw [World.cell?_alloc_lt _ _ _ (by first | exact World.block_lt_of_cell? _ _ c7 | (have := World.block_lt_of_cell? _ _ c7; simp; omega))]; exact c7)
  have c12 : w4.cell? ⟨w2.heap.size, 1, none⟩ = some (.int .i64 C) := below_keep hb4 (by rw [World.cell?_alloc_lt _ _ _ (by first | exact World.block_lt_of_cell? _ _ c8 | (have := World.block_lt_of_cell? _ _ c8; simp; omega))]; exact c8)
  have c13 : w4.cell? ⟨w2.heap.size, 2, none⟩ = some (.int .i64 P) := below_keep hb4 (by rw [World.cell?_alloc_lt _ _ _ (by first | exact World.block_lt_of_cell? _ _ c9 | (have := World.block_lt_of_cell? _ _ c9; simp; omega))]; exact c9)
  have c14 : w4.cell? ⟨w3.heap.size, 0, none⟩ = some (.int .i64 L) := below_keep hb4 (by simp [go_sem])
  have c15 : w4.cell? ⟨w3.heap.size, 1, none⟩ = some (.int .i64 (O + C)) := below_keep hb4 (by simp [go_sem])
  have c16 : w4.cell? ⟨w3.heap.size, 2, none⟩ = some (.int .i64 P) := below_keep hb4 (by simp [go_sem])
  have H4 := Lib.hid (below_step (below_alloc (H3.out) _) hb4)
  clear hb4 c7 c8 c9 H3 hz10
  generalize corV C x P = V at *
  have hz17 : w2.heap.size < w4.heap.size := World.block_lt_of_cell? _ _ c11
  have hz18 : w3.heap.size < w4.heap.size := World.block_lt_of_cell? _ _ c14
  go_wp2_with fail
  refine (time_any L (O + C) P (L + x) _).mono ?_
  rw [g0.out, g1.out, ← hat.out]
  rintro y w5 ⟨rfl, hb5⟩
  have c19 : w5.cell? ⟨w2.heap.size, 0, none⟩ = some (.int .i64 O) := below_keep hb5 (by rw [World.cell?_alloc_lt _ _ _ (by first | exact World.block_lt_of_cell? _ _ c11 | (have := World.block_lt_of_cell? _ _ c11; simp; omega))]; exact c11)
  have c20 : w5.cell? ⟨w2.heap.size, 1, none⟩ = some (.int .i64 C) := below_keep hb5 (by rw [World.cell?_alloc_lt _ _ _ (by first | exact World.block_lt_of_cell? _ _ c12 | (have := World.block_lt_of_cell? _ _ c12; simp; omega))]; exact c12)
  have c21 : w5.cell? ⟨w2.heap.size, 2, none⟩ = some (.int .i64 P) := below_keep hb5 (by rw [World.cell?_alloc_lt _ _ _ (by first | exact World.block_lt_of_cell? _ _ c13 | (have := World.block_lt_of_cell? _ _ c13; simp; omega))]; exact c13)
  have c22 : w5.cell? ⟨w3.heap.size, 0, none⟩ = some (.int .i64 L) := below_keep hb5 (by rw [World.cell?_alloc_lt _ _ _ (by first | exact World.block_lt_of_cell? _ _ c14 | (have := World.block_lt_of_cell? _ _ c14; simp; omega))]; exact c14)
  have c23 : w5.cell? ⟨w3.heap.size, 1, none⟩ = some (.int .i64 (O + C)) := below_keep hb5 (by rw [World.cell?_alloc_lt _ _ _ (by first | exact World.block_lt_of_cell? _ _ c15 | (have := World.block_lt_of_cell? _ _ c15; simp; omega))]; exact c15)
  have c24 : w5.cell? ⟨w3.heap.size, 2, none⟩ = some (.int .i64 P) := below_keep hb5 (by rw [World.cell?_alloc_lt _ _ _ (by first | exact World.block_lt_of_cell? _ _ c16 | (have := World.block_lt_of_cell? _ _ c16; simp; omega))]; exact c16)
  have c25 : w5.cell? ⟨w4.heap.size, 0, none⟩ = some (.int .i64 O) := below_keep hb5 (by simp [go_sem])
  have c26 : w5.cell? ⟨w4.heap.size, 1, none⟩ = some (.int .i64 V) := below_keep hb5 (by simp [go_sem])
  have c27 : w5.cell? ⟨w4.heap.size, 2, none⟩ = some (.int .i64 P) := below_keep hb5 (by simp [go_sem])
  have H5 := Lib.hid (below_step (below_alloc (H4.out) _) hb5)
  clear hb5 c11 c12 c13 c14 c15 c16 H4 hz17 hz18
  go_wp2
  go_ret
  exact ⟨ret_bool (by first | rfl | (simp; omega)), H5.out⟩

theorem passStays_walk (a b c l x : Int) (wx : (Lit.int .u32 x).wf = true) (w : World) :
    Calls Try.prog 9 #[.agg #[.int .i64 a, .int .i64 b, .int .i32 c], .int .i64 l, .int .u32 x] w fun y w' => y = .returned (.bool true) ∧ Below w.heap.size w w' := by
  simp [Lit.wf, IntKind.min, IntKind.max, IntKind.signed, IntKind.bits] at wx
  obtain ⟨⟨h1, h2⟩, ⟨h3, h4⟩, _⟩ := infoDraft_ok a b c
  obtain ⟨k1, k2⟩ := tdiv4 _ h1 h2
  obtain ⟨k3, k4⟩ := tdiv4 _ h3 h4
  have k5 := ctmod_bd l 1099511627776 (by decide)
  exact passStays_core a b c l x _ _ _ (by omega) (by omega) rfl rfl rfl k1 k2 k3 k4 (by omega) (by omega) w

set_option maxRecDepth 100000 in
theorem passStays_lifted (os : Os) (started : os.Started) (H : Type) (enc : TypeId × Value → H) :
    ReturnsInHanded {} Try.checked os 9 .any (Rows.passStaysSpec.pre6 enc Try.prog Try.f9 [] false) (Rows.passStaysSpec.post enc Try.prog Try.f9 false true false false) := by
  refine law_lifted started Try.func9 (by kernel_rfl)
    (ChangeSpec.witness6 (enc := enc) (C := Try.checked) false ⟨#[], #[.agg #[.int .i64 0, .int .i64 0, .int .i32 0], .int .i64 0, .int .u32 0], []⟩ 8 (by kernel_rfl) (by kernel_rfl) (by kernel_rfl) (by kernel_rfl))
    rfl (by kernel_rfl) (by kernel_rfl) (fun ds hd => ?_) ?_
  · rw [Try.params9] at hd
    match ds, hd with
    | [_, _, _], _ => exact ⟨rfl, rfl, rfl⟩
  · intro W base args ds p hval hA
    rw [Try.params9] at hA hval
    obtain ⟨v0, vs0, d0, ds0, p0, q0, ha0, rfl, rfl, h0, r0⟩ := trodAll_cons hA
    obtain ⟨v1, vs1, d1, ds1, p1, q1, ha1, rfl, rfl, h1, r1⟩ := trodAll_cons r0
    obtain ⟨v2, vs2, d2, ds2, p2, q2, ha2, rfl, rfl, h2, r2⟩ := trodAll_cons r1
    obtain ⟨hz, rfl, rfl⟩ := trodAll_nil r2
    obtain rfl : args = #[v0, v1, v2] := by
      subst hz
      subst ha2
      subst ha1
      cases args; simpa using ha0
    obtain ⟨x0_0, x0_1, x0_2, rfl⟩ := open_draft14 (hval 0 25 v0 rfl rfl) h0
    obtain ⟨x1, rfl, rfl, rfl, w1⟩ := open_int Try.underlying2 (hval 1 2 v1 rfl rfl) h1
    obtain ⟨x2, rfl, rfl, rfl, w2⟩ := open_int Try.underlying63 (hval 2 63 v2 rfl rfl) h2
    exact passStays_walk x0_0 x0_1 x0_2 x1 x2 w2 W

theorem passStays_holds : Rows.PassStaysSaid :=
  OpenClaim.holds_of_wide 9 Try.f9 rfl rfl rfl rfl rfl rfl rfl ⟨rfl, rfl, rfl, rfl, rfl⟩ rfl rfl rfl rfl rfl (by kernel_rfl) Try.func9 (by kernel_rfl)
    (of_decide_eq_true (by kernel_rfl)) (by unfold Func.isWrapper; first | (rw [if_pos (by decide +kernel)]; kernel_rfl) | (rw [if_neg (by decide +kernel)]; exact ⟨rfl, rfl⟩))
    (fun os started H enc _ => passStays_lifted os started H enc)
#print axioms passStays_holds

end Go.Proofs.Ytkbadnehngogjaa
