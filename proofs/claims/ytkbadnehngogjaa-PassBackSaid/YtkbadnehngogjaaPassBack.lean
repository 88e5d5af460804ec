/-
  PassBack: for every input the law returns true, and its arguments read as before. No conditions.
-/
import Derived.Test.YtkbadnehngogjaaPassWorks
import Derived.Test.YtkbadnehngogjaaPassRef
import Derived.Test.YtkbadnehngogjaaOpen14
import Derived.Lib.QuietBelow
import Derived.BigQuiet
namespace Go.Proofs.Ytkbadnehngogjaa
open Go.RowKit Go.Lib Plain
open Go.ChangeShapes Go.WideShapes Go.ChangeAt

theorem msg_eql (D C i p S T P : Int) (W : World) : (binOp .eql 46 (.agg (folM D C i p S T P).toArray) (.agg (folM D C i p S T P).toArray)).run Try.prog W = .ok (.bool true) W := by
  simp [folM, go_sem]

set_option maxHeartbeats 8000000 in
set_option maxRecDepth 100000 in
theorem passBack_core (a b c D n q S d i p : Int) (w : World) (hD : D.tmod 128 = d) (hn : n.tmod 281474976710656 = i) (hq : q.tmod 65535 = p) (d0 : 0 ≤ d) (d1 : d ≤ 127) (i0 : 0 ≤ i) (i1 : i ≤ 281474976710655) (p0 : 0 ≤ p) (p1 : p ≤ 65534) (s0 : 0 ≤ S) (s1 : S ≤ 65535) :
    Calls Try.prog 7 #[.agg #[.int .i64 a, .int .i64 b, .int .i32 c], .int .u8 D, .int .u64 n, .int .u16 q, .int .u16 S] w fun y w' => y = .returned (.bool true) ∧ Below w.heap.size w w' := by
  have ha := Lib.hid agg_msg
  have hs := Lib.hid size_msg
  have hoc := infoDraft_ok a b c
  go_enter Try.func7, Try.ntmps7
  go_wp2_with fail
  refine (works_any _).mono ?_
  rintro y w1 ⟨rfl, hb1⟩
  have c1 : w1.cell? ⟨w.heap.size, 0, none⟩ = some (.int .i64 a) := below_keep hb1 (by simp [go_sem])
  have c2 : w1.cell? ⟨w.heap.size, 1, none⟩ = some (.int .i64 b) := below_keep hb1 (by simp [go_sem])
  have c3 : w1.cell? ⟨w.heap.size, 2, none⟩ = some (.int .i32 c) := below_keep hb1 (by simp [go_sem])
  have H1 := Lib.hid (below_step (below_alloc (Below.refl _ _) _) hb1)
  clear hb1
  go_wp2_with fail
  refine (infoDraft_any a b c _).mono ?_
  rintro y w2 ⟨rfl, hb2⟩
  have H2 := Lib.hid (below_step H1.out hb2)
  clear hb2 c1 c2 c3 H1
  generalize a.tmod 4398046511105 = O at *
  generalize b.tmod 4398046511105 = C at *
  generalize c.tmod 8388609 = P at *
  have hfo : FolOk d C i (1 + p) S O P := ⟨⟨⟨d0, d1⟩, hoc.2.1, ⟨⟨i0, i1⟩, ⟨by omega, by omega⟩⟩, ⟨s0, s1⟩⟩, hoc.1, hoc.2.2⟩
  have m1 : Hid (msL O C P d i (1 + p) S = folM d C i (1 + p) S O P) := if_pos ⟨hoc, hfo⟩
  have m2 : Hid (msE O C P d i (1 + p) S = 0) := by show msE O C P d i (1 + p) S = 0; unfold msE; rw [if_pos hoc, if_pos hfo]
  have HF := Lib.hid hfo
  clear hfo hoc
  go_wp2_with fail
  refine (message_any O C P d i (1 + p) S _).mono ?_
  rw [m1.out, m2.out]
  rintro y w3 ⟨rfl, hb3⟩
  have c4 : w3.cell? ⟨w2.heap.size, 0, none⟩ = some (.int .i64 O) := below_keep hb3 (by simp [go_sem])
  have c5 : w3.cell? ⟨w2.heap.size, 1, none⟩ = some (.int .i64 C) := below_keep hb3 (by simp [go_sem])
  have c6 : w3.cell? ⟨w2.heap.size, 2, none⟩ = some (.int .i64 P) := below_keep hb3 (by simp [go_sem])
  have H3 := Lib.hid (below_step (below_alloc (below_alloc H2.out _) _) hb3)
  have z3 := H3.out.size
  have z4 : w2.heap.size < w3.heap.size := World.block_lt_of_cell? _ _ c4
  clear hb3 H2
  go_wp2_with (first | (refine wpList_store_whole rfl (.tmp 13) (.tmp 40) 46 rfl w3.heap.size 0 (folM d C i (1 + p) S O P) rfl rfl hs.out (fun j hj => (holds_alloc _ z17 46 (by simp)).some j (by simpa [z17, folM] using hj)) (fun j _ => frozen_new _ _ _ _ (by simp)) (folM_one _ _ _ _ _ _ _) ?_; intro w4 hw4) | refine wpList_load_whole rfl (.tmp 13) 46 rfl w3.heap.size 0 (folM d C i (1 + p) S O P) rfl ha.out hs.out hw4.here ?_)
  refine (of_ok d C i (1 + p) S O P HF.out _).mono ?_
  rintro y w5 ⟨rfl, hb5⟩
  have d4 : w5.cell? ⟨w2.heap.size, 0, none⟩ = some (.int .i64 O) := below_keep hb5 ((hw4.far _ _ (by omega)).trans (by rw [World.cell?_alloc_lt _ _ _ z4]; exact c4))
  have d5 : w5.cell? ⟨w2.heap.size, 1, none⟩ = some (.int .i64 C) := below_keep hb5 ((hw4.far _ _ (by omega)).trans (by rw [World.cell?_alloc_lt _ _ _ z4]; exact c5))
  have d6 : w5.cell? ⟨w2.heap.size, 2, none⟩ = some (.int .i64 P) := below_keep hb5 ((hw4.far _ _ (by omega)).trans (by rw [World.cell?_alloc_lt _ _ _ z4]; exact c6))
  have HM := Lib.hid (show Holds w5 w3.heap.size (folM d C i (1 + p) S O P) from Holds.keep hw4.here hb5)
  have e1 : w5.cell? ⟨w3.heap.size, 1, none⟩ = some (.int .i64 d) := HM.out 1 _ rfl
  have e3 : w5.cell? ⟨w3.heap.size, 3, none⟩ = some (.int .i64 i) := HM.out 3 _ rfl
  have e4 : w5.cell? ⟨w3.heap.size, 4, none⟩ = some (.int .i64 (1 + p)) := HM.out 4 _ rfl
  have e5 : w5.cell? ⟨w3.heap.size, 5, none⟩ = some (.int .i64 S) := HM.out 5 _ rfl
  have H5 := Lib.hid (below_step (hw4.below _ _ z3 (below_alloc H3.out _)) hb5)
  have z6 : w3.heap.size < w5.heap.size := World.block_lt_of_cell? _ _ e1
  have z6a : w2.heap.size < w5.heap.size := World.block_lt_of_cell? _ _ d4
  have z6b : w3.heap.size < w5.heap.size + 1 := by omega
  clear hb5 hw4 c4 c5 c6 H3
  go_wp2_with fail
  refine (message_any O C P d i (1 + p) S _).mono ?_
  rw [m1.out, m2.out]
  rintro y w6 ⟨rfl, hb6⟩
  have f4 : w6.cell? ⟨w2.heap.size, 0, none⟩ = some (.int .i64 O) := below_keep hb6 (by rw [World.cell?_alloc_lt _ _ _ z6a]; exact d4)
  have f5 : w6.cell? ⟨w2.heap.size, 1, none⟩ = some (.int .i64 C) := below_keep hb6 (by rw [World.cell?_alloc_lt _ _ _ z6a]; exact d5)
  have f6 : w6.cell? ⟨w2.heap.size, 2, none⟩ = some (.int .i64 P) := below_keep hb6 (by rw [World.cell?_alloc_lt _ _ _ z6a]; exact d6)
  have g4 : w6.cell? ⟨w5.heap.size, 0, none⟩ = some (.int .i64 O) := below_keep hb6 (by simp [go_sem])
  have g5 : w6.cell? ⟨w5.heap.size, 1, none⟩ = some (.int .i64 C) := below_keep hb6 (by simp [go_sem])
  have g6 : w6.cell? ⟨w5.heap.size, 2, none⟩ = some (.int .i64 P) := below_keep hb6 (by simp [go_sem])
  have HN := Lib.hid (show Holds w6 w3.heap.size (folM d C i (1 + p) S O P) from (HM.out.alloc z6 _).keep hb6)
  have e6 : w6.cell? ⟨w3.heap.size, 0, none⟩ = some (.int .i64 8) := HN.out 0 _ rfl
  have H6 := Lib.hid (below_step (below_alloc H5.out _) hb6)
  have z7 := H6.out.size
  have z8 : w3.heap.size < w6.heap.size := World.block_lt_of_cell? _ _ e6
  have z9 : w2.heap.size < w6.heap.size := World.block_lt_of_cell? _ _ f4
  have z10 : w5.heap.size < w6.heap.size := World.block_lt_of_cell? _ _ g4
  have heq := fun W => msg_eql d C i (1 + p) S O P W
  clear hb6 d4 d5 d6 e1 e3 e4 e5 HM H5 m1 m2 HF
  go_wp2_with (first | (refine wpList_store_whole rfl (.tmp 17) (.tmp 56) 46 rfl w6.heap.size 0 (folM d C i (1 + p) S O P) rfl rfl hs.out (fun j hj => (holds_alloc _ z17 46 (by simp)).some j (by simpa [z17, folM] using hj)) (fun j _ => frozen_new _ _ _ _ (by simp)) (folM_one _ _ _ _ _ _ _) ?_; intro w7 hw7; have l4 : w7.cell? ⟨w2.heap.size, 0, none⟩ = some (.int .i64 O) := (hw7.far _ _ (by omega)).trans (by rw [World.cell?_alloc_lt _ _ _ z9]; exact f4); have l5 : w7.cell? ⟨w2.heap.size, 1, none⟩ = some (.int .i64 C) := (hw7.far _ _ (by omega)).trans (by rw [World.cell?_alloc_lt _ _ _ z9]; exact f5); have l6 : w7.cell? ⟨w2.heap.size, 2, none⟩ = some (.int .i64 P) := (hw7.far _ _ (by omega)).trans (by rw [World.cell?_alloc_lt _ _ _ z9]; exact f6); have n4 : w7.cell? ⟨w5.heap.size, 0, none⟩ = some (.int .i64 O) := (hw7.far _ _ (by omega)).trans (by rw [World.cell?_alloc_lt _ _ _ z10]; exact g4); have n5 : w7.cell? ⟨w5.heap.size, 1, none⟩ = some (.int .i64 C) := (hw7.far _ _ (by omega)).trans (by rw [World.cell?_alloc_lt _ _ _ z10]; exact g5); have n6 : w7.cell? ⟨w5.heap.size, 2, none⟩ = some (.int .i64 P) := (hw7.far _ _ (by omega)).trans (by rw [World.cell?_alloc_lt _ _ _ z10]; exact g6); have e7 : w7.cell? ⟨w3.heap.size, 0, none⟩ = some (.int .i64 8) := (hw7.far _ _ (by omega)).trans (by rw [World.cell?_alloc_lt _ _ _ z8]; exact e6)) | refine wpList_load_wanted (by rfl) (.tmp 17) 46 rfl w6.heap.size 0 (folM d C i (1 + p) S O P) rfl ha.out hs.out hw7.here ?_ | refine wpList_load_wanted (by rfl) (.tmp 13) 46 rfl w3.heap.size 0 (folM d C i (1 + p) S O P) rfl ha.out hs.out (Holds.wrote (HN.out.alloc z8 _) hw7 (by omega)) ?_)
  go_ret
  exact ⟨rfl, hw7.below _ _ z7 (below_alloc H6.out _)⟩

theorem passBack_walk (a b c D : Int) (wD : (Lit.int .u8 D).wf = true) (n : Int) (wn : (Lit.int .u64 n).wf = true) (q : Int) (wq : (Lit.int .u16 q).wf = true) (S : Int) (wS : (Lit.int .u16 S).wf = true) (w : World) :
    Calls Try.prog 7 #[.agg #[.int .i64 a, .int .i64 b, .int .i32 c], .int .u8 D, .int .u64 n, .int .u16 q, .int .u16 S] w fun y w' => y = .returned (.bool true) ∧ Below w.heap.size w w' := by
  simp [Lit.wf, IntKind.min, IntKind.max, IntKind.signed, IntKind.bits] at wD wn wq wS
  have h1 : D.tmod 128 = D % 128 := Int.tmod_eq_emod_of_nonneg (by omega)
  have h2 : n.tmod 281474976710656 = n % 281474976710656 := Int.tmod_eq_emod_of_nonneg (by omega)
  have h3 : q.tmod 65535 = q % 65535 := Int.tmod_eq_emod_of_nonneg (by omega)
  exact passBack_core a b c D n q S _ _ _ w rfl rfl rfl (by omega) (by omega) (by omega) (by omega) (by omega) (by omega) (by omega) (by omega)

set_option maxRecDepth 100000 in
theorem passBack_lifted (os : Os) (started : os.Started) (H : Type) (enc : TypeId × Value → H) :
    ReturnsInHanded {} Try.checked os 7 .any (Rows.passBackSpec.pre6 enc Try.prog Try.f7 [] false) (Rows.passBackSpec.post enc Try.prog Try.f7 false true false false) := by
  refine law_lifted started Try.func7 (by kernel_rfl)
    (ChangeSpec.witness6 (enc := enc) (C := Try.checked) false ⟨#[], #[.agg #[.int .i64 0, .int .i64 0, .int .i32 0], .int .u8 0, .int .u64 0, .int .u16 0, .int .u16 0], []⟩ 8 (by kernel_rfl) (by kernel_rfl) (by kernel_rfl) (by kernel_rfl))
    rfl (by kernel_rfl) (by kernel_rfl) (fun ds hd => ?_) ?_
  · rw [Try.params7] at hd
    match ds, hd with
    | [_, _, _, _, _], _ => exact ⟨rfl, rfl, rfl⟩
  · intro W base args ds p hval hA
    rw [Try.params7] at hA hval
    obtain ⟨v0, vs0, d0, ds0, p0, q0, ha0, rfl, rfl, h0, r0⟩ := trodAll_cons hA
    obtain ⟨v1, vs1, d1, ds1, p1, q1, ha1, rfl, rfl, h1, r1⟩ := trodAll_cons r0
    obtain ⟨v2, vs2, d2, ds2, p2, q2, ha2, rfl, rfl, h2, r2⟩ := trodAll_cons r1
    obtain ⟨v3, vs3, d3, ds3, p3, q3, ha3, rfl, rfl, h3, r3⟩ := trodAll_cons r2
    obtain ⟨v4, vs4, d4, ds4, p4, q4, ha4, rfl, rfl, h4, r4⟩ := trodAll_cons r3
    obtain ⟨hz, rfl, rfl⟩ := trodAll_nil r4
    obtain rfl : args = #[v0, v1, v2, v3, v4] := by
      subst hz
      subst ha4
      subst ha3
      subst ha2
      subst ha1
      cases args; simpa using ha0
    obtain ⟨x0_0, x0_1, x0_2, rfl⟩ := open_draft14 (hval 0 25 v0 rfl rfl) h0
    obtain ⟨x1, rfl, rfl, rfl, w1⟩ := open_int Try.underlying5 (hval 1 5 v1 rfl rfl) h1
    obtain ⟨x2, rfl, rfl, rfl, w2⟩ := open_int Try.underlying47 (hval 2 47 v2 rfl rfl) h2
    obtain ⟨x3, rfl, rfl, rfl, w3⟩ := open_int Try.underlying48 (hval 3 48 v3 rfl rfl) h3
    obtain ⟨x4, rfl, rfl, rfl, w4⟩ := open_int Try.underlying48 (hval 4 48 v4 rfl rfl) h4
    exact passBack_walk x0_0 x0_1 x0_2 x1 w1 x2 w2 x3 w3 x4 w4 W

theorem passBack_holds : Rows.PassBackSaid :=
  OpenClaim.holds_of_wide 7 Try.f7 rfl rfl rfl rfl rfl rfl rfl ⟨rfl, rfl, rfl, rfl, rfl⟩ rfl rfl rfl rfl rfl (by kernel_rfl) Try.func7 (by kernel_rfl)
    (of_decide_eq_true (by kernel_rfl)) (by unfold Func.isWrapper; first | (rw [if_pos (by decide +kernel)]; kernel_rfl) | (rw [if_neg (by decide +kernel)]; exact ⟨rfl, rfl⟩))
    (fun os started H enc _ => passBack_lifted os started H enc)
#print axioms passBack_holds

end Go.Proofs.Ytkbadnehngogjaa
