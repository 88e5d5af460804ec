/-
  PassSets: for every input the law returns true, and its arguments read as before. No conditions.
-/
import Derived.Test.YtkbadnehngogjaaPassWorks
import Derived.Test.YtkbadnehngogjaaPassRef2
import Derived.Test.YtkbadnehngogjaaOpen14
import Derived.Lib.QuietBelow
import Derived.BigQuiet
namespace Go.Proofs.Ytkbadnehngogjaa
open Go.RowKit Go.Lib Plain
open Go.ChangeShapes Go.WideShapes Go.ChangeAt

theorem ipair_0 : ∀ (a b c d e f : Value) (w : World), (Instr.index 28 (.agg #[a, b, c, d, e, f]) (.int .i64 0)).run Try.prog w = .ok (.agg #[a, b, c]) w := fun _ _ _ _ _ _ _ => by kernel_rfl
theorem ipair_1 : ∀ (a b c d e f : Value) (w : World), (Instr.index 28 (.agg #[a, b, c, d, e, f]) (.int .i64 1)).run Try.prog w = .ok (.agg #[d, e, f]) w := fun _ _ _ _ _ _ _ => by kernel_rfl
theorem ipair_any (a b c d e f : Int) (k : Nat) (hk : k < 2) : ∃ x y z : Int, ∀ W, (Instr.index 28 (.agg #[.int .i64 a, .int .i64 b, .int .i64 c, .int .i64 d, .int .i64 e, .int .i64 f]) (.int .i64 (k : Int))).run Try.prog W = .ok (.agg #[.int .i64 x, .int .i64 y, .int .i64 z]) W := by
  rcases (show k = 0 ∨ k = 1 by omega) with rfl | rfl
  · exact ⟨_, _, _, fun W => ipair_0 _ _ _ _ _ _ W⟩
  · exact ⟨_, _, _, fun W => ipair_1 _ _ _ _ _ _ W⟩

set_option maxHeartbeats 8000000 in
set_option maxRecDepth 100000 in
theorem passSets_walk (O C P a b c l : Int) (w : World) : Calls Try.prog 4 #[.agg #[.int .i64 O, .int .i64 C, .int .i64 P], .agg #[.int .i64 a, .int .i64 b, .int .i32 c], .int .i64 l] w fun y w' => y = .returned (.bool true) ∧ Below w.heap.size w w' := by
  go_enter Try.func4, Try.ntmps4
  go_wp2_with fail
  refine (works_any _).mono ?_
  rintro y w1 ⟨rfl, hb1⟩
  have c1 : w1.cell? ⟨w.heap.size, 0, none⟩ = some (.int .i64 O) := below_keep hb1 (by simp [go_sem])
  have c2 : w1.cell? ⟨w.heap.size, 1, none⟩ = some (.int .i64 C) := below_keep hb1 (by simp [go_sem])
  have c3 : w1.cell? ⟨w.heap.size, 2, none⟩ = some (.int .i64 P) := below_keep hb1 (by simp [go_sem])
  have c4 : w1.cell? ⟨w.heap.size + 1, 0, none⟩ = some (.int .i64 a) := below_keep hb1 (by simp [go_sem])
  have c5 : w1.cell? ⟨w.heap.size + 1, 1, none⟩ = some (.int .i64 b) := below_keep hb1 (by simp [go_sem])
  have c6 : w1.cell? ⟨w.heap.size + 1, 2, none⟩ = some (.int .i32 c) := below_keep hb1 (by simp [go_sem])
  have H1 := Lib.hid (below_step (below_alloc (below_alloc (Below.refl _ _) _) _) hb1)
  clear hb1
  go_wp2
  have r0 := fun p : Regrown => cell_regrown c1 p.d p.os
  have r1 := fun p : Regrown => cell_regrown c2 p.d p.os
  have r2 := fun p : Regrown => cell_regrown c3 p.d p.os
  have r3 := fun p : Regrown => cell_regrown c4 p.d p.os
  have r4 := fun p : Regrown => cell_regrown c5 p.d p.os
  have r5 := fun p : Regrown => cell_regrown c6 p.d p.os
  refine wp_region_quiet_below (by kernel_rfl) (by kernel_rfl) ?_
  repeat (go_big_quiet_step (exact Calls.regrown_of (infoDraft_any a b c _)))
  refine wpQuiet_nil ?_
  intro wq hw
  have HQ := Lib.hid (below_step H1.out (show Below w1.heap.size w1 wq by obtain ⟨p, rfl⟩ := hw; exact below_regrown _ _ _))
  clear hw r0 r1 r2 r3 r4 r5 c1 c2 c3 c4 c5 c6 H1
  go_wp2
  generalize a.tmod 4398046511105 = dO
  generalize b.tmod 4398046511105 = dC
  generalize c.tmod 8388609 = dP
  go_loopw [19] (fun i wr => ∃ k : Nat, k ≤ 2 ∧ i = .int .i64 k ∧ Below w.heap.size w wr) (fun i _ => 2 - (RowKit.intOf i).toNat)
  case atStart => exact ⟨0, by omega, rfl, HQ.out⟩
  case round =>
    clear HQ
    obtain ⟨k, hk, rfl, hB⟩ := hrel
    have HB := Lib.hid hB
    clear hB
    by_cases hlt : k < 2
    · obtain ⟨x0, x1, x2, hi⟩ := ipair_any O C P dO dC dP k hlt
      go_wp2_with fail
      refine (set_any x0 x1 x2 l _).mono ?_
      rintro y w2 ⟨rfl, hb2⟩
      have c11 : w2.cell? ⟨wr.heap.size, 0, none⟩ = some (.int .i64 x0) := below_keep hb2 (by simp [go_sem])
      have c12 : w2.cell? ⟨wr.heap.size, 1, none⟩ = some (.int .i64 x1) := below_keep hb2 (by simp [go_sem])
      have c13 : w2.cell? ⟨wr.heap.size, 2, none⟩ = some (.int .i64 x2) := below_keep hb2 (by simp [go_sem])
      have H2 := Lib.hid (below_step (below_alloc (HB.out) _) hb2)
      clear hb2 HB
      generalize hs0 : (apV (OkI x0 x1 x2) (Stamp l) (stV x0 x1 l l)) = s0 at *
      generalize hs1 : (apV (OkI x0 x1 x2) (Stamp l) (stV x0 x1 l (x0 + x1))) = s1 at *
      generalize hs2 : (apV (OkI x0 x1 x2) (Stamp l) (stV x0 x1 l x2)) = s2 at *
      generalize hs3 : (apE (OkI x0 x1 x2) (Stamp l) (stE x0 x1)) = s3 at *
      have E0 := Lib.hid hs0
      have E1 := Lib.hid hs1
      have E2 := Lib.hid hs2
      have E3 := Lib.hid hs3
      clear hs0 hs1 hs2 hs3
      have hz14 : wr.heap.size < w2.heap.size := World.block_lt_of_cell? _ _ c11
      go_wp2_with fail
      refine (rSet_any x0 x1 x2 l _).mono ?_
      rw [E0.out, E1.out, E2.out, E3.out]
      rintro y w3 ⟨rfl, hb3⟩
      have c15 : w3.cell? ⟨wr.heap.size, 0, none⟩ = some (.int .i64 x0) := below_keep hb3 (by rw [World.cell?_alloc_lt _ _ _ (by first | exact World.block_lt_of_cell? _ _ c11 | (have := World.block_lt_of_cell? _ _ c11; simp; omega))]; exact c11)
      have c16 : w3.cell? ⟨wr.heap.size, 1, none⟩ = some (.int .i64 x1) := below_keep hb3 (by rw [World.cell?_alloc_lt _ _ _ (by first | exact World.block_lt_of_cell? _ _ c12 | (have := World.block_lt_of_cell? _ _ c12; simp; omega))]; exact c12)
      have c17 : w3.cell? ⟨wr.heap.size, 2, none⟩ = some (.int .i64 x2) := below_keep hb3 (by rw [World.cell?_alloc_lt _ _ _ (by first | exact World.block_lt_of_cell? _ _ c13 | (have := World.block_lt_of_cell? _ _ c13; simp; omega))]; exact c13)
      have c18 : w3.cell? ⟨w2.heap.size, 0, none⟩ = some (.int .i64 s0) := below_keep hb3 (by simp [go_sem])
      have c19 : w3.cell? ⟨w2.heap.size, 1, none⟩ = some (.int .i64 s1) := below_keep hb3 (by simp [go_sem])
      have c20 : w3.cell? ⟨w2.heap.size, 2, none⟩ = some (.int .i64 s2) := below_keep hb3 (by simp [go_sem])
      have H3 := Lib.hid (below_step (below_alloc (H2.out) _) hb3)
      clear hb3 c11 c12 c13 H2 hz14
      have hz21 : wr.heap.size < w3.heap.size := World.block_lt_of_cell? _ _ c15
      have hz22 : w2.heap.size < w3.heap.size := World.block_lt_of_cell? _ _ c18
      go_wp2
      go_roundw
      case rel => exact ⟨k + 1, by omega, by go_num, below_alloc H3.out _⟩
      case measure => simp [RowKit.intOf]; omega
    · go_wp2
      go_ret
      exact ⟨rfl, HB.out⟩

set_option maxRecDepth 100000 in
theorem passSets_lifted (os : Os) (started : os.Started) (H : Type) (enc : TypeId × Value → H) :
    ReturnsInHanded {} Try.checked os 4 .any (Rows.passSetsSpec.pre6 enc Try.prog Try.f4 [] false) (Rows.passSetsSpec.post enc Try.prog Try.f4 false true false false) := by
  refine law_lifted started Try.func4 (by kernel_rfl)
    (ChangeSpec.witness6 (enc := enc) (C := Try.checked) false ⟨#[], #[.agg #[.int .i64 0, .int .i64 0, .int .i64 0], .agg #[.int .i64 0, .int .i64 0, .int .i32 0], .int .i64 0], []⟩ 8 (by kernel_rfl) (by kernel_rfl) (by kernel_rfl) (by kernel_rfl))
    rfl (by kernel_rfl) (by kernel_rfl) (fun ds hd => ?_) ?_
  · rw [Try.params4] at hd
    match ds, hd with
    | [_, _, _], _ => exact ⟨rfl, rfl, rfl⟩
  · intro W base args ds p hval hA
    rw [Try.params4] at hA hval
    obtain ⟨v0, vs0, d0, ds0, p0, q0, ha0, rfl, rfl, h0, r0⟩ := trodAll_cons hA
    obtain ⟨v1, vs1, d1, ds1, p1, q1, ha1, rfl, rfl, h1, r1⟩ := trodAll_cons r0
    obtain ⟨v2, vs2, d2, ds2, p2, q2, ha2, rfl, rfl, h2, r2⟩ := trodAll_cons r1
    obtain ⟨hz, rfl, rfl⟩ := trodAll_nil r2
    obtain rfl : args = #[v0, v1, v2] := by
      subst hz
      subst ha2
      subst ha1
      cases args; simpa using ha0
    obtain ⟨x0_0, x0_1, x0_2, rfl⟩ := open_info (hval 0 23 v0 rfl rfl) h0
    obtain ⟨x1_0, x1_1, x1_2, rfl⟩ := open_draft14 (hval 1 25 v1 rfl rfl) h1
    obtain ⟨x2, rfl, rfl, rfl, w2⟩ := open_int Try.underlying3 (hval 2 3 v2 rfl rfl) h2
    exact passSets_walk x0_0 x0_1 x0_2 x1_0 x1_1 x1_2 x2 W

theorem passSets_holds : Rows.PassSetsSaid :=
  OpenClaim.holds_of_wide 4 Try.f4 rfl rfl rfl rfl rfl rfl rfl ⟨rfl, rfl, rfl, rfl, rfl⟩ rfl rfl rfl rfl rfl (by kernel_rfl) Try.func4 (by kernel_rfl)
    (of_decide_eq_true (by kernel_rfl)) (by unfold Func.isWrapper; first | (rw [if_pos (by decide +kernel)]; kernel_rfl) | (rw [if_neg (by decide +kernel)]; exact ⟨rfl, rfl⟩))
    (fun os started H enc _ => passSets_lifted os started H enc)
#print axioms passSets_holds

end Go.Proofs.Ytkbadnehngogjaa
