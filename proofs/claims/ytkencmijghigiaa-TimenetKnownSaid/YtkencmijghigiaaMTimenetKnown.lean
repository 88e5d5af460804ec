/-
  TimenetKnown: for every input the law returns true, and its arguments read as before. No conditions.
-/
import Derived.OwnWalk
import Derived.Test.YtkencmijghigiaaMWrks15
import Derived.Test.YtkencmijghigiaaMBase
namespace Go.Proofs.Ytkencmijghigiaa
open Go.RowKit Go.Lib Go.Shelf Plain
open Go.ChangeShapes Go.WideShapes Go.ChangeAt

theorem infoLoss15 : ((Try.prog).info? 52).map (fun i => (i.zero, i.size, i.bytes)) = some (some (.agg #[.int .i64 0, .int .i64 0]), 2, 16) := by kernel_rfl
def exS (b : Nat) (s : Int) : Nt := { exN b with st := s }
theorem exS_in {b : Nat} {s : Int} {W : World} (h : (exN b).In W) : (exS b s).In W := ⟨h.m1, h.c0, h.c1, h.p, h.d⟩
theorem exSChk {b : Nat} {s c : Int} (hc : chkN (exS b s) = c) (W : World) (hW : (exN b).In W) : Calls Try.prog 18 #[.agg (exS b s).vs.toArray] W fun y w' => y = .returned (.int .i64 c) ∧ Below W.heap.size W w' := by
  have h := chkNet_any (exS b s) (by show 3 ≤ 12; omega) W (exS_in hW)
  rwa [hc] at h
theorem exSNodes (b : Nat) (s : Int) : ∀ j, j < (exS b s).m → nodeOk (exS b s) j := (exOk b).1
theorem holds_set5 {W : World} {B : Nat} {n : Nt} (s : Int) (h : Holds W B n.vs) : Holds (W.setCell ⟨B, 5, none⟩ (.int .i64 s)) B ({ n with st := s } : Nt).vs := by
  intro j v hj
  match j, hj with
  | 0, hj => cases hj; exact (World.cell?_setCell_other _ _ _ _ (by simp)).trans (h 0 _ rfl)
  | 1, hj => cases hj; exact (World.cell?_setCell_other _ _ _ _ (by simp)).trans (h 1 _ rfl)
  | 2, hj => cases hj; exact (World.cell?_setCell_other _ _ _ _ (by simp)).trans (h 2 _ rfl)
  | 3, hj => cases hj; exact (World.cell?_setCell_other _ _ _ _ (by simp)).trans (h 3 _ rfl)
  | 4, hj => cases hj; exact (World.cell?_setCell_other _ _ _ _ (by simp)).trans (h 4 _ rfl)
  | 5, hj => cases hj; exact World.cell?_setCell_same' _ _ _ (h.some 5 (by show 5 < 8; omega))
  | 6, hj => cases hj; exact (World.cell?_setCell_other _ _ _ _ (by simp)).trans (h 6 _ rfl)
  | 7, hj => cases hj; exact (World.cell?_setCell_other _ _ _ _ (by simp)).trans (h 7 _ rfl)
  | j + 8, hj => cases hj

theorem kn0 (b : Nat) (B : Nat) (W : World) (hW : (exN b).In W) : Calls Try.prog 16 #[.agg (exN b).vs.toArray, .slice (some ⟨B, 0, none⟩) 257 257, .int .i64 0, .int .i64 (-1)] W fun y w' => y = .returned (.tuple #[.int .i64 0, .int .i64 3]) ∧ Below W.heap.size W w' := by
  have h := tTime_head (exN b) (exOk b) (exBd b) (exClk b) (some ⟨B, 0, none⟩) 257 (List.replicate 257 ((0 : Int), (0 : Int))) 0 (-1) W hW 0 3 (.inr (.inl ⟨⟨by omega, by show (0 : Int) < 3; omega⟩, by rw [List.length_replicate]; omega, rfl, rfl⟩))
  rwa [List.length_replicate] at h
theorem kn1 (b : Nat) (B : Nat) (W : World) (hW : (exN b).In W) : Calls Try.prog 13 #[.agg (exN b).vs.toArray, .slice (some ⟨B, 0, none⟩) 257 257, .int .i64 3, .int .i64 0] W fun y w' => y = .returned (.tuple #[.int .i64 0, .int .i64 2]) ∧ Below W.heap.size W w' := by
  have h := tLast_any (exN b) (exOk b) (exBd b) (exP b) (exPar b) (some ⟨B, 0, none⟩) 257 (List.replicate 257 ((0 : Int), (0 : Int))) (fun y hy => by cases (List.mem_replicate.1 hy).2; exact ⟨wf64 (by omega) (by omega), wf64 (by omega) (by omega)⟩) 3 0 W hW (fun h => absurd h (by rw [List.length_replicate]; omega)) 0 2 (.inl ⟨fun h => absurd h.2 (by show ¬ (3 : Int) < 3; omega), rfl, rfl⟩)
  rwa [List.length_replicate] at h
theorem kn2 (b : Nat) (W : World) (hW : (exN b).In W) : Calls Try.prog 13 #[.agg (exN b).vs.toArray, .slice none 0 0, .int .i64 0, .int .i64 0] W fun y w' => y = .returned (.tuple #[.int .i64 0, .int .i64 2]) ∧ Below W.heap.size W w' := 
  tLast_any (exN b) (exOk b) (exBd b) (exP b) (exPar b) none 0 [] (fun y hy => by cases hy) 0 0 W hW (fun _ => noLs _ _) 0 2 (.inr (.inr (.inl ⟨⟨by omega, by show (0 : Int) < 3; omega⟩, by simp, .inl rfl, rfl, rfl⟩)))
theorem kn3 (b : Nat) (W : World) (hW : (exN b).In W) : Calls Try.prog 16 #[.agg (exN b).vs.toArray, .slice none 0 0, .int .i64 2, .int .i64 1099511627777] W fun y w' => y = .returned (.tuple #[.int .i64 0, .int .i64 2]) ∧ Below W.heap.size W w' := 
  tTime_any (exN b) (exOk b) (exBd b) (exClk b) (exP b) (exPar b) none 0 [] (fun y hy => by cases hy) 2 1099511627777 W hW (noLs _ _) 0 2 (.inr (.inr (.inl ⟨⟨by omega, by show (2 : Int) < 3; omega⟩, by simp, .inr ⟨by omega, by omega⟩, rfl, rfl⟩)))
theorem kn4 (b : Nat) (W : World) (hW : (exN b).In W) : Calls Try.prog 12 #[.agg (exN b).vs.toArray, .slice none 0 0, .int .i64 2, .int .i64 0] W fun y w' => y = .returned (.tuple #[.int .i64 0, .int .i64 4]) ∧ Below W.heap.size W w' := 
  tError_any (exN b) (exOk b) (exBd b) (exClk b) (exP b) (exPar b) none 0 [] (fun y hy => by cases hy) 2 0 W hW (noLs _ _) 0 0 4 (.inr (.inr (.inr (.inr (.inl ⟨⟨2, by show 2 < 3; omega⟩, by show 0 < 2; omega, rfl, by simp, ⟨by omega, by omega⟩, by rw [show lastV (exN b) (exP b) [] ⟨2, by show 2 < 3; omega⟩ 0 = -1 by kernel_rfl]; omega, rfl, rfl⟩))))) (.inl ⟨by omega, rfl⟩)
theorem kn5 (b : Nat) (W : World) (hW : (exN b).In W) : Calls Try.prog 14 #[.agg (exN b).vs.toArray, .int .i64 2, .int .i64 1099511627776] W fun y w' => y = .returned (.tuple #[.int .i64 0, .int .i64 2]) ∧ Below W.heap.size W w' := 
  tArrival_any (exN b) (exOk b) (exBd b) (exP b) (exPar b) 2 1099511627776 W hW 0 2 (.inr ⟨⟨2, by show 2 < 3; omega⟩, rfl, .inr (.inl ⟨⟨by show 0 < 2; omega, by omega, by rw [show lastK (exN b) (exP b) ⟨2, by show 2 < 3; omega⟩ = 1099511587 by kernel_rfl]; omega⟩, rfl, rfl⟩)⟩)
theorem kn6 (b : Nat) (W : World) (hW : (exN b).In W) : Calls Try.prog 17 #[.agg (exN b).vs.toArray, .int .i64 1, .int .i64 (-1)] W fun y w' => y = .returned (.tuple #[.agg #[.int .i64 0, .int .i64 0, .int .i64 0], .int .i64 2]) ∧ Below W.heap.size W w' := 
  tInfo_any (exN b) (exOk b) (exBd b) (exClk b) (exP b) (exPar b) 1 (-1) W hW 0 0 0 2 (.inr (.inl ⟨⟨1, by show 1 < 3; omega⟩, rfl, .inl ⟨.inr ⟨by show 0 < 1; omega, by omega⟩, rfl, rfl⟩, ⟨rfl, rfl, rfl⟩, rfl⟩))
theorem kn7 (b : Nat) (W : World) (hW : (exN b).In W) : Calls Try.prog 9 #[.agg (exN b).vs.toArray, .int .i64 1, .int .i64 1099511627] W fun y w' => y = .returned (.tuple #[.int .i64 0, .int .i64 2]) ∧ Below W.heap.size W w' := 
  tBound_any (exN b) (exOk b) (exBd b) (exP b) (exPar b) 1 1099511627 W hW 0 2 (.inr (.inl ⟨⟨by omega, by show (1 : Int) < 3; omega⟩, .inr ⟨by omega, by rw [show 1099511627776 / (exN b).iv = 1099511627 by kernel_rfl]; omega⟩, rfl, rfl⟩))
def knB (b : Nat) : Int := boundV (errV (exN b) (exP b) ⟨1, by show 1 < 3; omega⟩) ((1099511626 + 1) * (exN b).iv + drV ((1099511626 + 1) * (exN b).iv)) (rhoV (exN b) (exP b) ⟨1, by show 1 < 3; omega⟩)
theorem knB_pos (b : Nat) : 0 < knB b := of_decide_eq_true (by kernel_rfl)
theorem kn8 (b : Nat) (W : World) (hW : (exN b).In W) : Calls Try.prog 9 #[.agg (exN b).vs.toArray, .int .i64 1, .int .i64 1099511626] W fun y w' => y = .returned (.tuple #[.int .i64 (knB b), .int .i64 0]) ∧ Below W.heap.size W w' := 
  tBound_any (exN b) (exOk b) (exBd b) (exP b) (exPar b) 1 1099511626 W hW (knB b) 0 (.inr (.inr (.inr ⟨⟨1, by show 1 < 3; omega⟩, by show 0 < 1; omega, rfl, ⟨by omega, by rw [show 1099511627776 / (exN b).iv = 1099511627 by kernel_rfl]; omega⟩, rfl, rfl⟩)))
theorem knLs (B : Nat) (W : World) (h0 : W.cell? ⟨B, 0, none⟩ = some (.int .i64 1)) (h1 : W.cell? ⟨B, 1, none⟩ = some (.int .i64 2)) (h2 : W.cell? ⟨B, 2, none⟩ = some (.int .i64 2)) (h3 : W.cell? ⟨B, 3, none⟩ = some (.int .i64 1)) : LsIn (some ⟨B, 0, none⟩) [(1, 2), (2, 1)] W := fun x h => by
  have hx : x = 0 ∨ x = 1 := by simp at h; omega
  rcases hx with rfl | rfl
  · exact ⟨B, 0, rfl, by simpa using h0, by simpa using h1⟩
  · exact ⟨B, 0, rfl, by simpa using h2, by simpa using h3⟩
theorem knWf : ∀ y ∈ ([(1, 2), (2, 1)] : List (Int × Int)), WfL y := fun y hy => by
  simp only [List.mem_cons, List.not_mem_nil, or_false] at hy
  rcases hy with rfl | rfl <;> exact ⟨wf64 (by omega) (by omega), wf64 (by omega) (by omega)⟩
theorem kn9 (b B : Nat) (W : World) (hW : (exN b).In W) (hl : LsIn (some ⟨B, 0, none⟩) [(1, 2), (2, 1)] W) : Calls Try.prog 16 #[.agg (exN b).vs.toArray, .slice (some ⟨B, 0, none⟩) 2 2, .int .i64 2, .int .i64 42500] W fun y w' => y = .returned (.tuple #[.int .i64 42500, .int .i64 0]) ∧ Below W.heap.size W w' :=
  tTime_any (exN b) (exOk b) (exBd b) (exClk b) (exP b) (exPar b) (some ⟨B, 0, none⟩) 2 [(1, 2), (2, 1)] knWf 2 42500 W hW hl 42500 0 (.inr (.inr (.inr (.inr (.inr ⟨⟨2, by show 2 < 3; omega⟩, by show 0 < 2; omega, rfl, by simp, ⟨by omega, by omega⟩, by rw [show lastV (exN b) (exP b) [(1, 2), (2, 1)] ⟨2, by show 2 < 3; omega⟩ 42500 = 0 by kernel_rfl]; omega, by kernel_rfl, rfl⟩)))))
theorem kn10 (b B : Nat) (W : World) (hW : (exN b).In W) (hl : LsIn (some ⟨B, 0, none⟩) [(1, 2), (2, 1)] W) : Calls Try.prog 13 #[.agg (exN b).vs.toArray, .slice (some ⟨B, 0, none⟩) 2 2, .int .i64 2, .int .i64 42500] W fun y w' => y = .returned (.tuple #[.int .i64 0, .int .i64 0]) ∧ Below W.heap.size W w' :=
  tLast_any (exN b) (exOk b) (exBd b) (exP b) (exPar b) (some ⟨B, 0, none⟩) 2 [(1, 2), (2, 1)] knWf 2 42500 W hW (fun _ => hl) 0 0 (.inr (.inr (.inr ⟨⟨2, by show 2 < 3; omega⟩, by show 0 < 2; omega, rfl, by simp, ⟨by omega, by omega⟩, .inr ⟨by rw [show lastV (exN b) (exP b) [(1, 2), (2, 1)] ⟨2, by show 2 < 3; omega⟩ 42500 = 0 by kernel_rfl]; omega, by kernel_rfl, rfl⟩⟩)))
theorem knEarly (b : Nat) : chkN (exS b 30004) = 250 := chkN_nums (of_decide_eq_true (by kernel_rfl))
theorem knRight (b : Nat) : chkN (exS b 30005) = 0 := if_pos ⟨exSNodes b _, of_decide_eq_true (by kernel_rfl)⟩

set_option maxHeartbeats 16000000 in
set_option maxRecDepth 100000 in
theorem timenetKnown_walk (w : World) : Calls Try.prog 6 #[] w fun e w' => e = .returned (.bool true) ∧ Below w.heap.size w w' := by
  have ha := Lib.hid (show ∀ w, (isAgg 32).run Try.prog w = .ok true w from fun w => by kernel_rfl)
  have hs0 := Lib.hid (show ∀ n : Nt, ∀ w, (sizeOf 32).run Try.prog w = .ok n.vs.length w from fun n w => by kernel_rfl)
  go_enter Try.func6, Try.ntmps6
  go_wp2_with fail
  refine (works_any _).mono ?_
  rintro y w0 ⟨rfl, hb0⟩
  have H0 := Lib.hid hb0
  clear hb0
  go_wp2_with fail
  refine (example_any _).mono ?_
  rintro y w1 ⟨rfl, hN1, hb1⟩
  have D0 := Lib.hid (fun B W hW => kn0 (w0.heap.size + 1) B W hW)
  have D1 := Lib.hid (fun B W hW => kn1 (w0.heap.size + 1) B W hW)
  have D2 := Lib.hid (fun W hW => kn2 (w0.heap.size + 1) W hW)
  have D3 := Lib.hid (fun W hW => kn3 (w0.heap.size + 1) W hW)
  have D4 := Lib.hid (fun W hW => kn4 (w0.heap.size + 1) W hW)
  have D5 := Lib.hid (fun W hW => kn5 (w0.heap.size + 1) W hW)
  have D6 := Lib.hid (fun W hW => kn6 (w0.heap.size + 1) W hW)
  have D7 := Lib.hid (fun W hW => kn7 (w0.heap.size + 1) W hW)
  have D8 := Lib.hid (fun W hW => kn8 (w0.heap.size + 1) W hW)
  have D9 := Lib.hid (fun B W hW hl => kn9 (w0.heap.size + 1) B W hW hl)
  have D10 := Lib.hid (fun B W hW hl => kn10 (w0.heap.size + 1) B W hW hl)
  have E0 := Lib.hid (fun W hW => exSChk (b := (w0.heap.size + 1)) (knEarly _) W hW)
  have E1 := Lib.hid (fun W hW => exSChk (b := (w0.heap.size + 1)) (knRight _) W hW)
  have hkp := knB_pos (w0.heap.size + 1)
  obtain ⟨kb, hkb⟩ : ∃ kb, knB (w0.heap.size + 1) = kb := ⟨_, rfl⟩
  rw [hkb] at D8 hkp
  clear hkb
  have e0 : ∀ s, exS (w0.heap.size + 1) s = { exN (w0.heap.size + 1) with st := s } := fun _ => rfl
  rw [e0] at E0 E1
  clear e0
  obtain ⟨n, hn⟩ : ∃ n, exN (w0.heap.size + 1) = n := ⟨_, rfl⟩
  rw [hn] at hN1 E0 E1
  simp only [hn]
  rw [hn] at D0
  rw [hn] at D1
  rw [hn] at D2
  rw [hn] at D3
  rw [hn] at D4
  rw [hn] at D5
  rw [hn] at D6
  rw [hn] at D7
  rw [hn] at D8
  rw [hn] at D9
  rw [hn] at D10
  clear hn
  have hs := Lib.hid (hs0.out n)
  have hsE := Lib.hid (hs0.out { n with st := 30004 })
  have hsR := Lib.hid (hs0.out { n with st := 30005 })
  have H1 := Lib.hid (below_step H0.out hb1)
  have HN1 := Lib.hid hN1
  clear hb1 hN1 H0
  go_upto_region 4 with ((with_reducible refine at_store 32 (.tmp 1) (.tmp 30) ?_); refine wpList_store_whole rfl (.tmp 1) (.tmp 30) 32 rfl w1.heap.size 0 n.vs rfl rfl hs.out (fun j hj => (holds_alloc w1 zT 32 rfl).some j hj) (fun j _ => frozen_new _ _ _ _ rfl) n.vs_one ?_; intro w2 hw2)
  have M2 := Lib.hid (show Holds w2 w1.heap.size n.vs from hw2.here)
  have H2 := Lib.hid (hw2.below _ _ H1.out.size (below_alloc H1.out _))
  have N2 := Lib.hid (HN1.out.keep (hw2.below _ _ (Nat.le_refl _) (below_alloc (Below.refl w1.heap.size w1) _)))
  clear hw2 H1 HN1
  have l1 : w1.heap.size < w2.heap.size := World.block_lt_of_cell? _ _ (M2.out 0 _ rfl)
  obtain ⟨i0, hi0, hz0, hz1, hz2⟩ := info_parts infoLoss15
  go_upto_region 5 with (at_make; refine wpList_make_full _ rfl _ _ 41 rfl (w2.heap.size) 52 i0 _ 2 Try.underlying41 hi0 hz0 hz1 _ _ _ _ 257 rfl rfl rfl rfl (by rw [hz2]; decide) (by decide) (by simp) ?_; intro w3 _ hgrow)
  have b3 := Below.grown (Below.refl w2.heap.size w2) hgrow (Nat.le_refl _) (fun j hj => by cases hj)
  have M3 := Lib.hid (M2.out.keep b3)
  have H3 := Lib.hid (below_step H2.out b3)
  have N3 := Lib.hid (N2.out.keep b3)
  clear b3 hgrow M2 H2 N2 l1
  obtain ⟨mb, hmb⟩ : ∃ mb, w2.heap.size = mb := ⟨_, rfl⟩
  simp only [hmb]
  clear hmb
  go_wp2_with ((with_reducible refine at_load 32 (.tmp 1) ?_); refine wpList_load_whole rfl (.tmp 1) 32 rfl w1.heap.size 0 n.vs rfl ha.out hs.out (M3.out) ?_; simp only [Act.put, List.setIfInBounds_toArray, List.set_cons_succ, List.set_cons_zero])
  refine (D0.out mb _ N3.out).mono ?_
  rintro y w4 ⟨rfl, hb4⟩
  have M4 := Lib.hid (M3.out.keep hb4)
  have H4 := Lib.hid (below_step H3.out hb4)
  have N4 := Lib.hid (N3.out.keep hb4)
  clear hb4 M3 H3 N3 D0
  go_wp2_with ((with_reducible refine at_load 32 (.tmp 1) ?_); refine wpList_load_whole rfl (.tmp 1) 32 rfl w1.heap.size 0 n.vs rfl ha.out hs.out (M4.out) ?_; simp only [Act.put, List.setIfInBounds_toArray, List.set_cons_succ, List.set_cons_zero])
  refine (D1.out mb _ N4.out).mono ?_
  rintro y w5 ⟨rfl, hb5⟩
  have M5 := Lib.hid (M4.out.keep hb5)
  have H5 := Lib.hid (below_step H4.out hb5)
  have N5 := Lib.hid (N4.out.keep hb5)
  clear hb5 M4 H4 N4 D1
  go_wp2_with ((with_reducible refine at_load 32 (.tmp 1) ?_); refine wpList_load_whole rfl (.tmp 1) 32 rfl w1.heap.size 0 n.vs rfl ha.out hs.out (M5.out) ?_; simp only [Act.put, List.setIfInBounds_toArray, List.set_cons_succ, List.set_cons_zero])
  refine (D2.out _ N5.out).mono ?_
  rintro y w6 ⟨rfl, hb6⟩
  have M6 := Lib.hid (M5.out.keep hb6)
  have H6 := Lib.hid (below_step H5.out hb6)
  have N6 := Lib.hid (N5.out.keep hb6)
  clear hb6 M5 H5 N5 D2
  go_wp2_with ((with_reducible refine at_load 32 (.tmp 1) ?_); refine wpList_load_whole rfl (.tmp 1) 32 rfl w1.heap.size 0 n.vs rfl ha.out hs.out (M6.out) ?_; simp only [Act.put, List.setIfInBounds_toArray, List.set_cons_succ, List.set_cons_zero])
  refine (D3.out _ N6.out).mono ?_
  rintro y w7 ⟨rfl, hb7⟩
  have M7 := Lib.hid (M6.out.keep hb7)
  have H7 := Lib.hid (below_step H6.out hb7)
  have N7 := Lib.hid (N6.out.keep hb7)
  clear hb7 M6 H6 N6 D3
  go_wp2_with ((with_reducible refine at_load 32 (.tmp 1) ?_); refine wpList_load_whole rfl (.tmp 1) 32 rfl w1.heap.size 0 n.vs rfl ha.out hs.out (M7.out) ?_; simp only [Act.put, List.setIfInBounds_toArray, List.set_cons_succ, List.set_cons_zero])
  refine (D4.out _ N7.out).mono ?_
  rintro y w8 ⟨rfl, hb8⟩
  have M8 := Lib.hid (M7.out.keep hb8)
  have H8 := Lib.hid (below_step H7.out hb8)
  have N8 := Lib.hid (N7.out.keep hb8)
  clear hb8 M7 H7 N7 D4
  go_wp2_with ((with_reducible refine at_load 32 (.tmp 1) ?_); refine wpList_load_whole rfl (.tmp 1) 32 rfl w1.heap.size 0 n.vs rfl ha.out hs.out (M8.out) ?_; simp only [Act.put, List.setIfInBounds_toArray, List.set_cons_succ, List.set_cons_zero])
  refine (D5.out _ N8.out).mono ?_
  rintro y w9 ⟨rfl, hb9⟩
  have M9 := Lib.hid (M8.out.keep hb9)
  have H9 := Lib.hid (below_step H8.out hb9)
  have N9 := Lib.hid (N8.out.keep hb9)
  clear hb9 M8 H8 N8 D5
  go_wp2_with ((with_reducible refine at_load 32 (.tmp 1) ?_); refine wpList_load_whole rfl (.tmp 1) 32 rfl w1.heap.size 0 n.vs rfl ha.out hs.out (M9.out) ?_; simp only [Act.put, List.setIfInBounds_toArray, List.set_cons_succ, List.set_cons_zero])
  refine (D6.out _ N9.out).mono ?_
  rintro y w10 ⟨rfl, hb10⟩
  have M10 := Lib.hid (M9.out.keep hb10)
  have H10 := Lib.hid (below_step H9.out hb10)
  have N10 := Lib.hid (N9.out.keep hb10)
  clear hb10 M9 H9 N9 D6
  have z10 : w1.heap.size < w10.heap.size := World.block_lt_of_cell? _ _ (M10.out 0 _ rfl)
  go_wp2_with ((with_reducible refine at_load 32 (.tmp 1) ?_); refine wpList_load_whole rfl (.tmp 1) 32 rfl w1.heap.size 0 n.vs rfl ha.out hs.out (M10.out.alloc z10 _) ?_; simp only [Act.put, List.setIfInBounds_toArray, List.set_cons_succ, List.set_cons_zero])
  refine (D7.out _ (N10.out.keep (below_alloc (Below.refl _ _) _))).mono ?_
  rintro y w11 ⟨rfl, hb11⟩
  have BB := Below.trans (below_alloc (Below.refl w10.heap.size w10) (.cells #[.int .i64 0, .int .i64 0, .int .i64 0] 48)) (hb11.mono (by simp))
  have M11 := Lib.hid (M10.out.keep BB)
  have H11 := Lib.hid (below_step H10.out BB)
  have N11 := Lib.hid (N10.out.keep BB)
  clear hb11 M10 H10 N10 D7 BB z10
  go_wp2_with ((with_reducible refine at_load 32 (.tmp 1) ?_); refine wpList_load_whole rfl (.tmp 1) 32 rfl w1.heap.size 0 n.vs rfl ha.out hs.out (M11.out) ?_; simp only [Act.put, List.setIfInBounds_toArray, List.set_cons_succ, List.set_cons_zero])
  refine (D8.out _ N11.out).mono ?_
  rintro y w12 ⟨rfl, hb12⟩
  have M12 := Lib.hid (M11.out.keep hb12)
  have H12 := Lib.hid (below_step H11.out hb12)
  have N12 := Lib.hid (N11.out.keep hb12)
  clear hb12 M11 H11 N11 D8
  have z12 : w1.heap.size < w12.heap.size := World.block_lt_of_cell? _ _ (M12.out 0 _ rfl)
  go_wp2_with ((with_reducible refine at_load 32 (.tmp 1) ?_); refine wpList_load_whole rfl (.tmp 1) 32 rfl w1.heap.size 0 n.vs rfl ha.out hs.out (M12.out) ?_; simp only [Act.put, List.setIfInBounds_toArray, List.set_cons_succ, List.set_cons_zero])
  refine (D9.out w12.heap.size _ (N12.out.keep (below_alloc (Below.refl _ _) _)) (knLs _ _ (by simp [go_sem]) (by simp [go_sem]) (by simp [go_sem]) (by simp [go_sem]))).mono ?_
  rintro y w13 ⟨rfl, hb13⟩
  have BB := Below.trans (below_alloc (Below.refl w12.heap.size w12) (.cells #[.int .i64 1, .int .i64 2, .int .i64 2, .int .i64 1] 52)) (hb13.mono (by simp))
  have M13 := Lib.hid (M12.out.keep BB)
  have H13 := Lib.hid (below_step H12.out BB)
  have N13 := Lib.hid (N12.out.keep BB)
  clear hb13 M12 H12 N12 D9 BB z12
  have z13 : w1.heap.size < w13.heap.size := World.block_lt_of_cell? _ _ (M13.out 0 _ rfl)
  go_wp2_with ((with_reducible refine at_load 32 (.tmp 1) ?_); refine wpList_load_whole rfl (.tmp 1) 32 rfl w1.heap.size 0 n.vs rfl ha.out hs.out (M13.out) ?_; simp only [Act.put, List.setIfInBounds_toArray, List.set_cons_succ, List.set_cons_zero])
  refine (D10.out w13.heap.size _ (N13.out.keep (below_alloc (Below.refl _ _) _)) (knLs _ _ (by simp [go_sem]) (by simp [go_sem]) (by simp [go_sem]) (by simp [go_sem]))).mono ?_
  rintro y w14 ⟨rfl, hb14⟩
  have BB := Below.trans (below_alloc (Below.refl w13.heap.size w13) (.cells #[.int .i64 1, .int .i64 2, .int .i64 2, .int .i64 1] 52)) (hb14.mono (by simp))
  have M14 := Lib.hid (M13.out.keep BB)
  have H14 := Lib.hid (below_step H13.out BB)
  have N14 := Lib.hid (N13.out.keep BB)
  clear hb14 M13 H13 N13 D10 BB z13
  go_upto_region 17 with (first | ((with_reducible refine at_load 32 (.tmp 1) ?_); refine wpList_load_whole rfl (.tmp 1) 32 rfl w1.heap.size 0 n.vs rfl ha.out hs.out (M14.out) ?_; simp only [Act.put, List.setIfInBounds_toArray, List.set_cons_succ, List.set_cons_zero]) | ((with_reducible refine at_store 32 (.tmp 25) (.tmp 95) ?_); refine wpList_store_whole rfl (.tmp 25) (.tmp 95) 32 rfl w14.heap.size 0 n.vs rfl rfl hs.out (fun j hj => (holds_alloc w14 zT 32 rfl).some j hj) (fun j _ => frozen_new _ _ _ _ rfl) n.vs_one ?_; intro wa hwa))
  have Ba := hwa.below _ _ (Nat.le_refl _) (below_alloc (Below.refl w14.heap.size w14) _)
  have Pa := Lib.hid (show Holds wa w14.heap.size n.vs from hwa.here)
  have f5 : wa.frozen? ⟨w14.heap.size, 5, none⟩ = false := by rw [hwa.frozen]; exact frozen_new _ _ _ _ rfl
  have c5 : wa.cell? ⟨w14.heap.size, 5, none⟩ = some (.int .i64 n.st) := Pa.out 5 _ rfl
  have la : w14.heap.size < wa.heap.size := World.block_lt_of_cell? _ _ c5
  have l1 : w1.heap.size < w14.heap.size := World.block_lt_of_cell? _ _ (M14.out 0 _ rfl)
  clear hwa
  go_upto_region 18 with fail
  refine wp_world ?_
  intro wb hwb
  have Bb := Lib.hid (show Below w14.heap.size w14 wb by subst hwb; exact Ba.setCell (p := ⟨w14.heap.size, 5, none⟩) (by simp) _)
  have Pb := Lib.hid (show Holds wb w14.heap.size ({ n with st := 30004 } : Nt).vs by subst hwb; exact holds_set5 30004 Pa.out)
  clear hwb c5 f5 la Ba Pa
  have M15 := Lib.hid (M14.out.keep Bb.out)
  have H15 := Lib.hid (below_step H14.out Bb.out)
  have N15 := Lib.hid (N14.out.keep Bb.out)
  clear M14 H14 N14 Bb
  go_upto_region 19 with (first | ((with_reducible refine at_load 32 (.tmp 1) ?_); refine wpList_load_whole rfl (.tmp 1) 32 rfl w1.heap.size 0 n.vs rfl ha.out hs.out (M15.out) ?_; simp only [Act.put, List.setIfInBounds_toArray, List.set_cons_succ, List.set_cons_zero]) | ((with_reducible refine at_store 32 (.tmp 26) (.tmp 97) ?_); refine wpList_store_whole rfl (.tmp 26) (.tmp 97) 32 rfl wb.heap.size 0 n.vs rfl rfl hs.out (fun j hj => (holds_alloc wb zT 32 rfl).some j hj) (fun j _ => frozen_new _ _ _ _ rfl) n.vs_one ?_; intro wc hwc))
  have Bc := hwc.below _ _ (Nat.le_refl _) (below_alloc (Below.refl wb.heap.size wb) _)
  have Pc := Lib.hid (show Holds wc wb.heap.size n.vs from hwc.here)
  have f5 : wc.frozen? ⟨wb.heap.size, 5, none⟩ = false := by rw [hwc.frozen]; exact frozen_new _ _ _ _ rfl
  have c5 : wc.cell? ⟨wb.heap.size, 5, none⟩ = some (.int .i64 n.st) := Pc.out 5 _ rfl
  have lc : wb.heap.size < wc.heap.size := World.block_lt_of_cell? _ _ c5
  clear hwc
  go_upto_region 20 with fail
  refine wp_world ?_
  intro wd hwd
  have Bd := Lib.hid (show Below wb.heap.size wb wd by subst hwd; exact Bc.setCell (p := ⟨wb.heap.size, 5, none⟩) (by simp) _)
  have Qd := Lib.hid (show Holds wd wb.heap.size ({ n with st := 30005 } : Nt).vs by subst hwd; exact holds_set5 30005 Pc.out)
  clear hwd c5 f5 lc Bc Pc
  have Pd := Lib.hid (Pb.out.keep Bd.out)
  have Hd := Lib.hid (below_step H15.out Bd.out)
  have Nd := Lib.hid (N15.out.keep Bd.out)
  clear M15 H15 N15 Bd Pb
  go_wp2_with (refine wpList_load_wanted (by rfl) (.tmp 25) 32 rfl w14.heap.size 0 ({ n with st := 30004 } : Nt).vs rfl ha.out hsE.out Pd.out ?_)
  refine (E0.out _ Nd.out).mono ?_
  rintro y we ⟨rfl, hbe⟩
  have He := Lib.hid (below_step Hd.out hbe)
  have Qe := Lib.hid (Qd.out.keep hbe)
  have Ne := Lib.hid (Nd.out.keep hbe)
  clear Hd Qd Nd hbe Pd E0
  go_wp2_with (refine wpList_load_wanted (by rfl) (.tmp 26) 32 rfl wb.heap.size 0 ({ n with st := 30005 } : Nt).vs rfl ha.out hsR.out Qe.out ?_)
  refine (E1.out _ Ne.out).mono ?_
  rintro y wf ⟨rfl, hbf⟩
  have Hf := Lib.hid (below_step He.out hbf)
  go_wp2
  go_ret
  exact ⟨rfl, Hf.out⟩

set_option maxRecDepth 100000 in
theorem timenetKnown_lifted (os : Os) (started : os.Started) (H : Type) (enc : TypeId × Value → H) :
    ReturnsInHanded {} Try.checked os 6 .any (Rows.timenetKnownSpec.pre6 enc Try.prog Try.f6 [] false) (Rows.timenetKnownSpec.post enc Try.prog Try.f6 false true false false) := by
  refine law_lifted started Try.func6 (by kernel_rfl)
    (ChangeSpec.witness6 (enc := enc) (C := Try.checked) false ⟨#[], #[], []⟩ 8 (by kernel_rfl) (by kernel_rfl) (by kernel_rfl) (by kernel_rfl))
    rfl (by kernel_rfl) (by kernel_rfl) (fun ds hd => ?_) ?_
  · rw [Try.params6] at hd
    match ds, hd with
    | [], _ => exact ⟨rfl, rfl, rfl⟩
  · intro W base args ds p hval hA
    rw [Try.params6] at hA hval
    obtain ⟨hz, rfl, rfl⟩ := trodAll_nil hA
    obtain rfl : args = #[] := by
      cases args; simp_all
    exact timenetKnown_walk W

theorem timenetKnown_holds : Rows.TimenetKnownSaid :=
  OpenClaim.holds_of_wide 6 Try.f6 rfl rfl rfl rfl rfl rfl rfl ⟨rfl, rfl, rfl, rfl, rfl⟩ rfl rfl rfl rfl rfl (by kernel_rfl) Try.func6 (by kernel_rfl)
    (of_decide_eq_true (by kernel_rfl)) (by unfold Func.isWrapper; first | (rw [if_pos (by decide +kernel)]; kernel_rfl) | (rw [if_neg (by decide +kernel)]; exact ⟨rfl, rfl⟩))
    (fun os started H enc _ => timenetKnown_lifted os started H enc)
#print axioms timenetKnown_holds

end Go.Proofs.Ytkencmijghigiaa
