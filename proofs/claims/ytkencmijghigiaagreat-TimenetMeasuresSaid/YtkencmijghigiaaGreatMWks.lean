/-
  Texts of this claim laid together: Work15, Wrks15.
-/
import Derived.Test.YtkencmijghigiaaGreatMTis
import Derived.Test.YtkencmijghigiaaGreatMTms
namespace Go.Proofs.YtkencmijghigiaaGreat
open Go.RowKit Go.Lib Go.Shelf Plain

/-- The network of the examples. -/
def exN (b : Nat) : Nt := { bc := b, oc := 0, kc := 3, bp := b + 1, op := 0, kp := 3, bd := b + 1 + 1, od := 0, kd := 3, m := 3, tu := 5, ga := 10000, st := 40000, iv := 1000, sy := 10, cO := fun j => if j = 0 then 0 else if j = 1 then 50 else 7, cP := fun _ => 0, pa := fun j => if j = 0 then -1 else if j = 1 then 0 else 1, de := fun j => if j = 0 then 0 else if j = 1 then 3 else 4 }
def exP (b : Nat) (i : Fin (exN b).m) : Fin (exN b).m := ⟨if i.val = 2 then 1 else 0, by split <;> (show _ < 3; omega)⟩
theorem exPar (b : Nat) : (exN b).Par (exP b) := by
  constructor
  · intro i h
    have hi : i.val < 3 := i.isLt
    have : i.val = 1 ∨ i.val = 2 := by omega
    rcases this with e | e <;> simp [exN, exP, e]
  · intro i h
    have hi : i.val < 3 := i.isLt
    have : i.val = 1 ∨ i.val = 2 := by omega
    rcases this with e | e <;> simp [exP, e]
theorem exBd (b : Nat) : (exN b).Bd := by
  constructor
  case de0 =>
    intro j hj
    have hj3 : j < 3 := hj
    simp only [exN]
    split <;> (try split) <;> omega
  case de1 =>
    intro j hj
    have hj3 : j < 3 := hj
    simp only [exN]
    split <;> (try split) <;> omega
  all_goals
    simp only [exN]
    omega
theorem exClk (b : Nat) : (exN b).Clk := by
  intro j hj
  have hj3 : j < 3 := hj
  unfold OkC
  simp only [exN]
  split <;> (try split) <;> omega
theorem exOk (b : Nat) : netOk (exN b) := by
  refine ⟨?_, of_decide_eq_true (by kernel_rfl)⟩
  intro j hj
  have hj3 : j < 3 := hj
  have : j = 0 ∨ j = 1 ∨ j = 2 := by omega
  rcases this with rfl | rfl | rfl <;> exact of_decide_eq_true (by kernel_rfl)

set_option maxHeartbeats 8000000 in
set_option maxRecDepth 100000 in
theorem example_any (w : World) : Calls Tryz.prog 16 #[] w fun e w' => e = .returned (.agg (exN (w.heap.size + 1)).vs.toArray) ∧ (exN (w.heap.size + 1)).In w' ∧ Below w.heap.size w w' := by
  have ha := Lib.hid (show ∀ w, (isAgg 25).run Tryz.prog w = .ok true w from fun w => by kernel_rfl)
  have hs := Lib.hid (show ∀ w, (sizeOf 25).run Tryz.prog w = .ok (exN 0).vs.length w from fun w => by kernel_rfl)
  go_enter Tryz.func16, Tryz.ntmps16
  go_wp2
  have hL : ∀ (W : World), Holds W w.heap.size (exN (w.heap.size + 1)).vs → (loadVar 25 ⟨w.heap.size, 0, none⟩).run Tryz.prog W = .ok (.agg (exN (w.heap.size + 1)).vs.toArray) W := fun W hW => run_loadVar_whole (P := Tryz.prog) (w := W) 25 w.heap.size 0 (exN (w.heap.size + 1)).vs ha.out hs.out hW
  refine bodyPost_ret (v := .agg (exN (w.heap.size + 1)).vs.toArray) (results_cell 0 25 Tryz.results16 w.heap.size 0 _ rfl (hL _ ?_)) rfl ⟨rfl, ?_, below_alloc (below_alloc (below_alloc (below_alloc (Below.refl _ _) _) _) _) _⟩
  · exact (((holds_alloc w (exN (w.heap.size + 1)).vs 25 rfl).alloc (by simp) _).alloc (by simp; omega) _).alloc (by simp; omega) _
  · constructor
    · exact (by decide : 1 ≤ 3)
    all_goals
      intro j hj
      have hj3 : j < 3 := hj
      have : j = 0 ∨ j = 1 ∨ j = 2 := by omega
      rcases this with rfl | rfl | rfl <;> simp [go_sem, exN]

end Go.Proofs.YtkencmijghigiaaGreat

namespace Go.Proofs.YtkencmijghigiaaGreat
open Go.RowKit Go.Lib Go.Shelf Plain

theorem exMeas (b : Nat) (W : World) (hW : (exN b).In W) : Calls Tryz.prog 9 #[.agg (exN b).vs.toArray, .int .i64 1] W fun y w' => y = .returned (.tuple #[.int .i64 3, .int .i64 0, .int .i64 0]) ∧ Below W.heap.size W w' :=
  tMeasure_any (exN b) (exOk b) (exBd b) (exClk b) (exP b) (exPar b) 1 W hW 3 0 0 (.inr (.inr ⟨⟨1, by show 1 < 3; omega⟩, by show 0 < 1; omega, rfl, by kernel_rfl, by kernel_rfl, rfl⟩))
theorem exArr1 (b : Nat) (W : World) (hW : (exN b).In W) : Calls Tryz.prog 10 #[.agg (exN b).vs.toArray, .int .i64 1, .int .i64 0] W fun y w' => y = .returned (.tuple #[.int .i64 40003, .int .i64 0]) ∧ Below W.heap.size W w' :=
  tArrival_any (exN b) (exOk b) (exBd b) (exP b) (exPar b) 1 0 W hW 40003 0 (.inr ⟨⟨1, by show 1 < 3; omega⟩, rfl, .inr (.inr ⟨⟨by show 0 < 1; omega, by omega, by rw [show lastK (exN b) (exP b) ⟨1, by show 1 < 3; omega⟩ = 1099511587 by kernel_rfl]; omega⟩, by kernel_rfl, rfl⟩)⟩)
theorem exArr2 (b : Nat) (W : World) (hW : (exN b).In W) : Calls Tryz.prog 10 #[.agg (exN b).vs.toArray, .int .i64 2, .int .i64 1] W fun y w' => y = .returned (.tuple #[.int .i64 41017, .int .i64 0]) ∧ Below W.heap.size W w' :=
  tArrival_any (exN b) (exOk b) (exBd b) (exP b) (exPar b) 2 1 W hW 41017 0 (.inr ⟨⟨2, by show 2 < 3; omega⟩, rfl, .inr (.inr ⟨⟨by show 0 < 2; omega, by omega, by rw [show lastK (exN b) (exP b) ⟨2, by show 2 < 3; omega⟩ = 1099511587 by kernel_rfl]; omega⟩, by kernel_rfl, rfl⟩)⟩)
theorem exInf (b : Nat) (W : World) (hW : (exN b).In W) : Calls Tryz.prog 11 #[.agg (exN b).vs.toArray, .int .i64 2, .int .i64 0] W fun y w' => y = .returned (.tuple #[.agg #[.int .i64 40000, .int .i64 17, .int .i64 0], .int .i64 0]) ∧ Below W.heap.size W w' :=
  tInfo_any (exN b) (exOk b) (exBd b) (exClk b) (exP b) (exPar b) 2 0 W hW 40000 17 0 0 (.inr (.inr ⟨⟨2, by show 2 < 3; omega⟩, rfl, ⟨by show 0 < 2; omega, by omega, by rw [show lastK (exN b) (exP b) ⟨2, by show 2 < 3; omega⟩ = 1099511587 by kernel_rfl]; omega⟩, ⟨by kernel_rfl, by kernel_rfl, by kernel_rfl⟩, rfl⟩))
theorem noLs (pa : Option Addr) (W : World) : LsIn pa [] W := fun x h => absurd h (by simp)
theorem exLst (b : Nat) (W : World) (hW : (exN b).In W) : Calls Tryz.prog 17 #[.agg (exN b).vs.toArray, .slice none 0 0, .int .i64 2, .int .i64 41016] W fun y w' => y = .returned (.tuple #[.int .i64 0, .int .i64 0]) ∧ Below W.heap.size W w' :=
  tLast_any (exN b) (exOk b) (exBd b) (exP b) (exPar b) none 0 [] (fun y hy => by cases hy) 2 41016 W hW (fun _ => noLs _ _) 0 0 (.inr (.inr (.inr ⟨⟨2, by show 2 < 3; omega⟩, by show 0 < 2; omega, rfl, by simp, ⟨by omega, by omega⟩, .inr ⟨by rw [show lastV (exN b) (exP b) [] ⟨2, by show 2 < 3; omega⟩ 41016 = 0 by kernel_rfl]; omega, by kernel_rfl, rfl⟩⟩)))
theorem exLst1 (b : Nat) (B : Nat) (W : World) (hW : (exN b).In W) (h0 : W.cell? ⟨B, 0, none⟩ = some (.int .i64 0)) (h1 : W.cell? ⟨B, 1, none⟩ = some (.int .i64 1)) : Calls Tryz.prog 17 #[.agg (exN b).vs.toArray, .slice (some ⟨B, 0, none⟩) 1 1, .int .i64 2, .int .i64 41016] W fun y w' => y = .returned (.tuple #[.int .i64 0, .int .i64 4]) ∧ Below W.heap.size W w' :=
  tLast_any (exN b) (exOk b) (exBd b) (exP b) (exPar b) (some ⟨B, 0, none⟩) 1 [(0, 1)] (fun y hy => by cases List.mem_singleton.1 hy; exact ⟨wf64 (by omega) (by omega), wf64 (by omega) (by omega)⟩) 2 41016 W hW (fun _ x h => by
    have hx : x = 0 := by simp at h; exact h
    subst hx
    exact ⟨B, 0, rfl, by simpa using h0, by simpa using h1⟩) 0 4 (.inr (.inr (.inr ⟨⟨2, by show 2 < 3; omega⟩, by show 0 < 2; omega, rfl, by simp, ⟨by omega, by omega⟩, .inl ⟨by rw [show lastV (exN b) (exP b) [(0, 1)] ⟨2, by show 2 < 3; omega⟩ 41016 = -1 by kernel_rfl]; omega, rfl, rfl⟩⟩)))
theorem exTim2 (b : Nat) : TimCase (exN b) (exP b) [] 2 42000 42000 0 :=
  .inr (.inr (.inr (.inr (.inr ⟨⟨2, by show 2 < 3; omega⟩, by show 0 < 2; omega, rfl, by simp, ⟨by omega, by omega⟩, by rw [show lastV (exN b) (exP b) [] ⟨2, by show 2 < 3; omega⟩ 42000 = 1 by kernel_rfl]; omega, by kernel_rfl, rfl⟩))))
theorem exTim (b : Nat) (W : World) (hW : (exN b).In W) : Calls Tryz.prog 18 #[.agg (exN b).vs.toArray, .slice none 0 0, .int .i64 2, .int .i64 42000] W fun y w' => y = .returned (.tuple #[.int .i64 42000, .int .i64 0]) ∧ Below W.heap.size W w' :=
  tTime_any (exN b) (exOk b) (exBd b) (exClk b) (exP b) (exPar b) none 0 [] (fun y hy => by cases hy) 2 42000 W hW (noLs _ _) 42000 0 (exTim2 b)
theorem exErr (b : Nat) (W : World) (hW : (exN b).In W) : Calls Tryz.prog 19 #[.agg (exN b).vs.toArray, .slice none 0 0, .int .i64 2, .int .i64 42000] W fun y w' => y = .returned (.tuple #[.int .i64 0, .int .i64 0]) ∧ Below W.heap.size W w' :=
  tError_any (exN b) (exOk b) (exBd b) (exClk b) (exP b) (exPar b) none 0 [] (fun y hy => by cases hy) 2 42000 W hW (noLs _ _) 42000 0 0 (exTim2 b) (.inr ⟨rfl, ⟨by omega, by omega⟩, by kernel_rfl⟩)
theorem exTim0 (b : Nat) (W : World) (hW : (exN b).In W) : Calls Tryz.prog 18 #[.agg (exN b).vs.toArray, .slice none 0 0, .int .i64 0, .int .i64 5] W fun y w' => y = .returned (.tuple #[.int .i64 5, .int .i64 0]) ∧ Below W.heap.size W w' :=
  tTime_any (exN b) (exOk b) (exBd b) (exClk b) (exP b) (exPar b) none 0 [] (fun y hy => by cases hy) 0 5 W hW (noLs _ _) 5 0 (.inr (.inr (.inr (.inl ⟨rfl, by simp, ⟨by omega, by omega⟩, by kernel_rfl, rfl⟩))))
theorem exBnd (b : Nat) (W : World) (hW : (exN b).In W) : Calls Tryz.prog 20 #[.agg (exN b).vs.toArray, .int .i64 0, .int .i64 9] W fun y w' => y = .returned (.tuple #[.int .i64 0, .int .i64 0]) ∧ Below W.heap.size W w' :=
  tBound_any (exN b) (exOk b) (exBd b) (exP b) (exPar b) 0 9 W hW 0 0 (.inr (.inr (.inl ⟨rfl, ⟨by omega, by rw [show 1099511627776 / (exN b).iv = 1099511627 by kernel_rfl]; omega⟩, rfl, rfl⟩)))
theorem exBnd1 (b : Nat) (W : World) (hW : (exN b).In W) : Calls Tryz.prog 20 #[.agg (exN b).vs.toArray, .int .i64 1, .int .i64 (-1)] W fun y w' => y = .returned (.tuple #[.int .i64 0, .int .i64 2]) ∧ Below W.heap.size W w' :=
  tBound_any (exN b) (exOk b) (exBd b) (exP b) (exPar b) 1 (-1) W hW 0 2 (.inr (.inl ⟨⟨by omega, by show (1 : Int) < 3; omega⟩, .inl (by omega), rfl, rfl⟩))
theorem chkZero_any (W : World) : Calls Tryz.prog 8 #[.agg #[.slice none 0 0, .slice none 0 0, .slice none 0 0, .int .i64 0, .int .i64 0, .int .i64 0, .int .i64 0, .int .i64 0]] W fun y w' => y = .returned (.int .i64 250) ∧ Below W.heap.size W w' := by
  go_enter Tryz.func8, Tryz.ntmps8
  go_wp2
  go_ret
  exact ⟨rfl, below_alloc (Below.refl _ _) _⟩

set_option maxHeartbeats 8000000 in
set_option maxRecDepth 100000 in
theorem works_any (w : World) : Calls Tryz.prog 4 #[] w fun e w' => e = .returned (.bool true) ∧ Below w.heap.size w w' := by
  have ha := Lib.hid (show ∀ w, (isAgg 25).run Tryz.prog w = .ok true w from fun w => by kernel_rfl)
  have hs := Lib.hid (show ∀ n : Nt, ∀ w, (sizeOf 25).run Tryz.prog w = .ok n.vs.length w from fun n w => by kernel_rfl)
  have C0 := Lib.hid (fun b W (hW : (exN b).In W) => exMeas b W hW)
  have C1 := Lib.hid (fun b W (hW : (exN b).In W) => exArr1 b W hW)
  have C2 := Lib.hid (fun b W (hW : (exN b).In W) => exArr2 b W hW)
  have C3 := Lib.hid (fun b W (hW : (exN b).In W) => exInf b W hW)
  have C4 := Lib.hid (fun b W (hW : (exN b).In W) => exLst b W hW)
  have C5 := Lib.hid (fun b B W (hW : (exN b).In W) h0 h1 => exLst1 b B W hW h0 h1)
  have C6 := Lib.hid (fun b W (hW : (exN b).In W) => exTim b W hW)
  have C7 := Lib.hid (fun b W (hW : (exN b).In W) => exErr b W hW)
  have C8 := Lib.hid (fun b W (hW : (exN b).In W) => exTim0 b W hW)
  have C9 := Lib.hid (fun b W (hW : (exN b).In W) => exBnd b W hW)
  have C10 := Lib.hid (fun b W (hW : (exN b).In W) => exBnd1 b W hW)
  have CZ := Lib.hid chkZero_any
  go_enter Tryz.func4, Tryz.ntmps4
  go_wp2_with fail
  refine (example_any _).mono ?_
  rintro y w1 ⟨rfl, hN1, hb1⟩
  have D0 := Lib.hid (C0.out (w.heap.size + 1))
  clear C0
  have D1 := Lib.hid (C1.out (w.heap.size + 1))
  clear C1
  have D2 := Lib.hid (C2.out (w.heap.size + 1))
  clear C2
  have D3 := Lib.hid (C3.out (w.heap.size + 1))
  clear C3
  have D4 := Lib.hid (C4.out (w.heap.size + 1))
  clear C4
  have D5 := Lib.hid (C5.out (w.heap.size + 1))
  clear C5
  have D6 := Lib.hid (C6.out (w.heap.size + 1))
  clear C6
  have D7 := Lib.hid (C7.out (w.heap.size + 1))
  clear C7
  have D8 := Lib.hid (C8.out (w.heap.size + 1))
  clear C8
  have D9 := Lib.hid (C9.out (w.heap.size + 1))
  clear C9
  have D10 := Lib.hid (C10.out (w.heap.size + 1))
  clear C10
  obtain ⟨n, hn⟩ : ∃ n, exN (w.heap.size + 1) = n := ⟨_, rfl⟩
  rw [hn] at hN1
  simp only [hn]
  rw [hn] at D0
  rw [hn] at D1
  rw [hn] at D2
  rw [hn] at D3
  rw [hn] at D4
  rw [hn] at D5
  rw [hn] at D6
  rw [hn] at D7
  rw [hn] at D8
  rw [hn] at D9
  rw [hn] at D10
  clear hn
  have hs := Lib.hid (hs.out n)
  have H1 := Lib.hid hb1
  have HN1 := Lib.hid hN1
  clear hb1 hN1
  go_upto_region 2 with ((with_reducible refine at_store 25 (.tmp 1) (.tmp 26) ?_); refine wpList_store_whole rfl (.tmp 1) (.tmp 26) 25 rfl w1.heap.size 0 n.vs rfl rfl hs.out (fun j hj => (holds_alloc w1 zT 25 rfl).some j hj) (fun j _ => frozen_new _ _ _ _ rfl) n.vs_one ?_; intro w2 hw2)
  have M2 := Lib.hid (show Holds w2 w1.heap.size n.vs from hw2.here)
  have H2 := Lib.hid (hw2.below _ _ H1.out.size (below_alloc H1.out _))
  have N2 := Lib.hid (HN1.out.keep (hw2.below _ _ (Nat.le_refl _) (below_alloc (Below.refl w1.heap.size w1) _)))
  clear hw2 H1 HN1
  go_wp2_with ((with_reducible refine at_load 25 (.tmp 1) ?_); refine wpList_load_whole rfl (.tmp 1) 25 rfl w1.heap.size 0 n.vs rfl ha.out hs.out (M2.out) ?_; simp only [Act.put, List.setIfInBounds_toArray, List.set_cons_succ, List.set_cons_zero])
  refine (D0.out _ N2.out).mono ?_
  rintro y w3 ⟨rfl, hb3⟩
  have M3 := Lib.hid (M2.out.keep (hb3))
  have H3 := Lib.hid (below_step H2.out hb3)
  have N3 := Lib.hid (N2.out.keep hb3)
  clear hb3 M2 H2 N2 D0
  go_wp2_with ((with_reducible refine at_load 25 (.tmp 1) ?_); refine wpList_load_whole rfl (.tmp 1) 25 rfl w1.heap.size 0 n.vs rfl ha.out hs.out (M3.out) ?_; simp only [Act.put, List.setIfInBounds_toArray, List.set_cons_succ, List.set_cons_zero])
  refine (D1.out _ N3.out).mono ?_
  rintro y w4 ⟨rfl, hb4⟩
  have M4 := Lib.hid (M3.out.keep (hb4))
  have H4 := Lib.hid (below_step H3.out hb4)
  have N4 := Lib.hid (N3.out.keep hb4)
  clear hb4 M3 H3 N3 D1
  go_wp2_with ((with_reducible refine at_load 25 (.tmp 1) ?_); refine wpList_load_whole rfl (.tmp 1) 25 rfl w1.heap.size 0 n.vs rfl ha.out hs.out (M4.out) ?_; simp only [Act.put, List.setIfInBounds_toArray, List.set_cons_succ, List.set_cons_zero])
  refine (D2.out _ N4.out).mono ?_
  rintro y w5 ⟨rfl, hb5⟩
  have M5 := Lib.hid (M4.out.keep (hb5))
  have H5 := Lib.hid (below_step H4.out hb5)
  have N5 := Lib.hid (N4.out.keep hb5)
  clear hb5 M4 H4 N4 D2
  go_wp2_with ((with_reducible refine at_load 25 (.tmp 1) ?_); refine wpList_load_whole rfl (.tmp 1) 25 rfl w1.heap.size 0 n.vs rfl ha.out hs.out (M5.out) ?_; simp only [Act.put, List.setIfInBounds_toArray, List.set_cons_succ, List.set_cons_zero])
  refine (D3.out _ N5.out).mono ?_
  rintro y w6 ⟨rfl, hb6⟩
  have M6 := Lib.hid (M5.out.keep (hb6))
  have H6 := Lib.hid (below_step H5.out hb6)
  have N6 := Lib.hid (N5.out.keep hb6)
  clear hb6 M5 H5 N5 D3
  have z6 : w1.heap.size < w6.heap.size := World.block_lt_of_cell? _ _ (M6.out 0 _ rfl)
  go_wp2_with ((with_reducible refine at_load 25 (.tmp 1) ?_); refine wpList_load_whole rfl (.tmp 1) 25 rfl w1.heap.size 0 n.vs rfl ha.out hs.out (M6.out.alloc z6 _) ?_; simp only [Act.put, List.setIfInBounds_toArray, List.set_cons_succ, List.set_cons_zero])
  refine (D4.out _ (N6.out.keep (below_alloc (Below.refl _ _) _))).mono ?_
  rintro y w7 ⟨rfl, hb7⟩
  have I07 := below_keep hb7 (show (w6.alloc (.cells #[.int .i64 40000, .int .i64 17, .int .i64 0] 44)).cell? ⟨w6.heap.size, 0, none⟩ = some (.int .i64 40000) by simp [go_sem])
  have I17 := below_keep hb7 (show (w6.alloc (.cells #[.int .i64 40000, .int .i64 17, .int .i64 0] 44)).cell? ⟨w6.heap.size, 1, none⟩ = some (.int .i64 17) by simp [go_sem])
  have I27 := below_keep hb7 (show (w6.alloc (.cells #[.int .i64 40000, .int .i64 17, .int .i64 0] 44)).cell? ⟨w6.heap.size, 2, none⟩ = some (.int .i64 0) by simp [go_sem])
  have BB := Below.trans (below_alloc (Below.refl w6.heap.size w6) (.cells #[.int .i64 40000, .int .i64 17, .int .i64 0] 44)) (hb7.mono (by simp))
  obtain ⟨bI, hbI⟩ : ∃ b, w6.heap.size = b := ⟨_, rfl⟩
  simp only [hbI] at I07 I17 I27 ⊢
  have M7 := Lib.hid (M6.out.keep (BB))
  have H7 := Lib.hid (below_step H6.out BB)
  have N7 := Lib.hid (N6.out.keep BB)
  clear hb7 M6 H6 N6 D4 BB hbI
  have z7 : w1.heap.size < w7.heap.size := World.block_lt_of_cell? _ _ (M7.out 0 _ rfl)
  go_wp2_with ((with_reducible refine at_load 25 (.tmp 1) ?_); refine wpList_load_whole rfl (.tmp 1) 25 rfl w1.heap.size 0 n.vs rfl ha.out hs.out (M7.out) ?_; simp only [Act.put, List.setIfInBounds_toArray, List.set_cons_succ, List.set_cons_zero])
  refine (D5.out w7.heap.size _ (N7.out.keep (below_alloc (Below.refl _ _) _)) (by simp [go_sem]) (by simp [go_sem])).mono ?_
  rintro y w8 ⟨rfl, hb8⟩
  have BB := Below.trans (below_alloc (Below.refl w7.heap.size w7) (.cells #[.int .i64 0, .int .i64 1] 55)) (hb8.mono (by simp))
  have M8 := Lib.hid (M7.out.keep (BB))
  have H8 := Lib.hid (below_step H7.out BB)
  have N8 := Lib.hid (N7.out.keep BB)
  have I08 := below_keep BB I07
  have I18 := below_keep BB I17
  have I28 := below_keep BB I27
  clear I07 I17 I27
  clear hb8 M7 H7 N7 D5 BB
  go_wp2_with ((with_reducible refine at_load 25 (.tmp 1) ?_); refine wpList_load_whole rfl (.tmp 1) 25 rfl w1.heap.size 0 n.vs rfl ha.out hs.out (M8.out) ?_; simp only [Act.put, List.setIfInBounds_toArray, List.set_cons_succ, List.set_cons_zero])
  refine (D6.out _ N8.out).mono ?_
  rintro y w9 ⟨rfl, hb9⟩
  have M9 := Lib.hid (M8.out.keep (hb9))
  have H9 := Lib.hid (below_step H8.out hb9)
  have N9 := Lib.hid (N8.out.keep hb9)
  have I09 := below_keep hb9 I08
  have I19 := below_keep hb9 I18
  have I29 := below_keep hb9 I28
  clear I08 I18 I28
  clear hb9 M8 H8 N8 D6
  go_wp2_with ((with_reducible refine at_load 25 (.tmp 1) ?_); refine wpList_load_whole rfl (.tmp 1) 25 rfl w1.heap.size 0 n.vs rfl ha.out hs.out (M9.out) ?_; simp only [Act.put, List.setIfInBounds_toArray, List.set_cons_succ, List.set_cons_zero])
  refine (D7.out _ N9.out).mono ?_
  rintro y w10 ⟨rfl, hb10⟩
  have M10 := Lib.hid (M9.out.keep (hb10))
  have H10 := Lib.hid (below_step H9.out hb10)
  have N10 := Lib.hid (N9.out.keep hb10)
  have I010 := below_keep hb10 I09
  have I110 := below_keep hb10 I19
  have I210 := below_keep hb10 I29
  clear I09 I19 I29
  clear hb10 M9 H9 N9 D7
  go_wp2_with ((with_reducible refine at_load 25 (.tmp 1) ?_); refine wpList_load_whole rfl (.tmp 1) 25 rfl w1.heap.size 0 n.vs rfl ha.out hs.out (M10.out) ?_; simp only [Act.put, List.setIfInBounds_toArray, List.set_cons_succ, List.set_cons_zero])
  refine (D8.out _ N10.out).mono ?_
  rintro y w11 ⟨rfl, hb11⟩
  have M11 := Lib.hid (M10.out.keep (hb11))
  have H11 := Lib.hid (below_step H10.out hb11)
  have N11 := Lib.hid (N10.out.keep hb11)
  have I011 := below_keep hb11 I010
  have I111 := below_keep hb11 I110
  have I211 := below_keep hb11 I210
  clear I010 I110 I210
  clear hb11 M10 H10 N10 D8
  go_wp2_with ((with_reducible refine at_load 25 (.tmp 1) ?_); refine wpList_load_whole rfl (.tmp 1) 25 rfl w1.heap.size 0 n.vs rfl ha.out hs.out (M11.out) ?_; simp only [Act.put, List.setIfInBounds_toArray, List.set_cons_succ, List.set_cons_zero])
  refine (D9.out _ N11.out).mono ?_
  rintro y w12 ⟨rfl, hb12⟩
  have M12 := Lib.hid (M11.out.keep (hb12))
  have H12 := Lib.hid (below_step H11.out hb12)
  have N12 := Lib.hid (N11.out.keep hb12)
  have I012 := below_keep hb12 I011
  have I112 := below_keep hb12 I111
  have I212 := below_keep hb12 I211
  clear I011 I111 I211
  clear hb12 M11 H11 N11 D9
  go_wp2_with ((with_reducible refine at_load 25 (.tmp 1) ?_); refine wpList_load_whole rfl (.tmp 1) 25 rfl w1.heap.size 0 n.vs rfl ha.out hs.out (M12.out) ?_; simp only [Act.put, List.setIfInBounds_toArray, List.set_cons_succ, List.set_cons_zero])
  refine (D10.out _ N12.out).mono ?_
  rintro y w13 ⟨rfl, hb13⟩
  have M13 := Lib.hid (M12.out.keep (hb13))
  have H13 := Lib.hid (below_step H12.out hb13)
  have N13 := Lib.hid (N12.out.keep hb13)
  have I013 := below_keep hb13 I012
  have I113 := below_keep hb13 I112
  have I213 := below_keep hb13 I212
  clear I012 I112 I212
  clear hb13 M12 H12 N12 D10
  go_wp2_with fail
  refine (CZ.out _).mono ?_
  rintro y w14 ⟨rfl, hb14⟩
  have HE := Lib.hid (below_step H13.out hb14)
  go_wp2
  go_ret
  exact ⟨rfl, HE.out⟩

end Go.Proofs.YtkencmijghigiaaGreat
