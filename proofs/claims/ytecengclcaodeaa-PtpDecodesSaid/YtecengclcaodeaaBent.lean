/-
  The law's bent: twelve messages, each with one field changed. No conditions.
-/
import Derived.Test.YtecengclcaodeaaDraft
import Derived.Test.YtecengclcaodeaaAt
namespace Go.Proofs.Ytecengclcaodeaa
open Go.RowKit Go.Lib Plain

section
variable {P : Program} {w w' : World} {ops : Array Oper} {rest : List Oper} {o : Oper} {a : Act} {Q : Exit → Act → World → Prop} {x : Value}
theorem wpList_run (hgd : o.guard = none) (h : (execOp a.eval o).run P w = .ok (.value x) w') (hn : wpList P ops Q rest (a.put o.dst x) w') : wpList P ops Q (o :: rest) a w := by
  refine wpList_plain hgd fun K hK => ?_
  unfold Oper.wp
  rw [h]
  exact hK _ _ hn
theorem run_alloc {t : TypeId} (ho : o.op = .alloc t) (h : (Instr.alloc t true (.tuple #[])).run P w = .ok x w') : (execOp a.eval o).run P w = .ok (.value x) w' := by simp [execOp, ho, h, Result.andThen]
theorem run_build {t : TypeId} {ps : Array (Nat × Operand)} {qs : Array (Nat × Value)} (ho : o.op = .build t ps) (hq : ps.map (fun (i, x) => (i, a.eval x)) = qs) (h : (Instr.build t qs).run P w = .ok x w') : (execOp a.eval o).run P w = .ok (.value x) w' := by
  subst hq
  simp [execOp, ho, h, Result.andThen]
end

def rep12 (l : List Value) : List Value := l ++ (l ++ (l ++ (l ++ (l ++ (l ++ (l ++ (l ++ (l ++ (l ++ (l ++ l))))))))))
def bentL (K D C i p S T P r q a b c v e g s n : Int) : List Value := mMsg n D C i p S T P r q a b c v e g s ++ (mMsg K n C i p S T P r q a b c v e g s ++ (mMsg K D n i p S T P r q a b c v e g s ++ (mMsg K D C n p S T P r q a b c v e g s ++ (mMsg K D C i n S T P r q a b c v e g s ++ (mMsg K D C i p n T P r q a b c v e g s ++ (mMsg K D C i p S n P r q a b c v e g s ++ (mMsg K D C i p S T n r q a b c v e g s ++ (mMsg K D C i p S T P r n a b c v e g s ++ (mMsg K D C i p S T P r q a b c n e g s ++ (mMsg K D C i p S T P r q a b c v e g n ++ (mMsg K D C i p S T P n q a b c v e g s)))))))))))
set_option maxRecDepth 100000 in
theorem build_12 (a0 a1 a2 a3 a4 a5 a6 a7 a8 a9 a10 a11 a12 a13 a14 a15 a16 : Value) (w : World) : (Instr.build 38 #[(0, .agg #[a0, a1, a2, a3, a4, a5, a6, a7, a8, a9, a10, a11, a12, a13, a14, a15, a16]), (1, .agg #[a0, a1, a2, a3, a4, a5, a6, a7, a8, a9, a10, a11, a12, a13, a14, a15, a16]), (2, .agg #[a0, a1, a2, a3, a4, a5, a6, a7, a8, a9, a10, a11, a12, a13, a14, a15, a16]), (3, .agg #[a0, a1, a2, a3, a4, a5, a6, a7, a8, a9, a10, a11, a12, a13, a14, a15, a16]), (4, .agg #[a0, a1, a2, a3, a4, a5, a6, a7, a8, a9, a10, a11, a12, a13, a14, a15, a16]), (5, .agg #[a0, a1, a2, a3, a4, a5, a6, a7, a8, a9, a10, a11, a12, a13, a14, a15, a16]), (6, .agg #[a0, a1, a2, a3, a4, a5, a6, a7, a8, a9, a10, a11, a12, a13, a14, a15, a16]), (7, .agg #[a0, a1, a2, a3, a4, a5, a6, a7, a8, a9, a10, a11, a12, a13, a14, a15, a16]), (8, .agg #[a0, a1, a2, a3, a4, a5, a6, a7, a8, a9, a10, a11, a12, a13, a14, a15, a16]), (9, .agg #[a0, a1, a2, a3, a4, a5, a6, a7, a8, a9, a10, a11, a12, a13, a14, a15, a16]), (10, .agg #[a0, a1, a2, a3, a4, a5, a6, a7, a8, a9, a10, a11, a12, a13, a14, a15, a16]), (11, .agg #[a0, a1, a2, a3, a4, a5, a6, a7, a8, a9, a10, a11, a12, a13, a14, a15, a16])]).run Try.prog w = .ok (.agg (rep12 [a0, a1, a2, a3, a4, a5, a6, a7, a8, a9, a10, a11, a12, a13, a14, a15, a16]).toArray) w := by kernel_rfl
theorem agg_12 : ∀ w, (isAgg 38).run Try.prog w = .ok true w := fun w => by kernel_rfl
theorem size_12 : ∀ w, (sizeOf 38).run Try.prog w = .ok 204 w := fun w => by kernel_rfl
set_option maxRecDepth 100000 in
theorem bent_sets (K D C i p S T P r q a b c v e g s n : Int) : ((((((((((((rep12 (mMsg K D C i p S T P r q a b c v e g s)).set 0 (.int .i64 n)).set 18 (.int .i64 n)).set 36 (.int .i64 n)).set 54 (.int .i64 n)).set 72 (.int .i64 n)).set 90 (.int .i64 n)).set 108 (.int .i64 n)).set 126 (.int .i64 n)).set 145 (.int .i64 n)).set 166 (.int .i64 n)).set 186 (.int .i64 n)).set 195 (.int .i64 n) = bentL K D C i p S T P r q a b c v e g s n := rfl
set_option maxRecDepth 100000 in
theorem rep_len (K D C i p S T P r q a b c v e g s : Int) : (rep12 (mMsg K D C i p S T P r q a b c v e g s)).length = 204 := rfl
set_option maxRecDepth 100000 in
theorem bent_len (K D C i p S T P r q a b c v e g s n : Int) : (bentL K D C i p S T P r q a b c v e g s n).length = 204 := rfl
theorem rep_one (K D C i p S T P r q a b c v e g s : Int) : ∀ x ∈ rep12 (mMsg K D C i p S T P r q a b c v e g s), x.oneCell' = true := by
  intro x hx
  simp only [rep12, List.mem_append, or_self] at hx
  exact mMsg_one _ _ _ _ _ _ _ _ _ _ _ _ _ _ _ _ _ x hx
theorem bent_one (K D C i p S T P r q a b c v e g s n : Int) : ∀ x ∈ bentL K D C i p S T P r q a b c v e g s n, x.oneCell' = true := by
  intro x hx
  simp only [bentL, List.mem_append] at hx
  rcases hx with hx | hx | hx | hx | hx | hx | hx | hx | hx | hx | hx | hx <;> exact mMsg_one _ _ _ _ _ _ _ _ _ _ _ _ _ _ _ _ _ x hx
def z204 : List Value := rep12 (mMsg 0 0 0 0 0 0 0 0 0 0 0 0 0 0 0 0 0)
set_option maxRecDepth 100000 in
theorem alloc_12 (w : World) : (Instr.alloc 38 true (.tuple #[])).run Try.prog w = .ok (.pointer (some ⟨w.heap.size, 0, none⟩)) (w.alloc (.cells z204.toArray 38)) := by kernel_rfl
theorem z204_here {w : World} {b : Nat} (h : Holds w b z204) : ∀ j, j < 204 → (w.cell? ⟨b, 0 + j, none⟩).isSome = true := fun j hj => h.some j (by rw [show z204.length = 204 from rep_len ..]; exact hj)

theorem frozen_alB {w : World} {b u : Nat} {f : Bool} (h : w.frozen? ⟨b, u, none⟩ = f) (hb : b < w.heap.size) (o : Obj) : (w.alloc o).frozen? ⟨b, u, none⟩ = f := (World.frozen?_alloc_old _ _ _ (Nat.ne_of_lt hb)).trans h
set_option maxHeartbeats 16000000 in
set_option maxRecDepth 100000 in
theorem bent_core (n : Int) (L R B : List Value) (hL : L.length = 17) (hRl : R.length = 204) (hR1 : ∀ x ∈ R, x.oneCell' = true) (hBl : B.length = 204) (hB1 : ∀ x ∈ B, x.oneCell' = true) (hR : ∀ W, (Instr.build 38 #[(0, .agg L.toArray), (1, .agg L.toArray), (2, .agg L.toArray), (3, .agg L.toArray), (4, .agg L.toArray), (5, .agg L.toArray), (6, .agg L.toArray), (7, .agg L.toArray), (8, .agg L.toArray), (9, .agg L.toArray), (10, .agg L.toArray), (11, .agg L.toArray)]).run Try.prog W = .ok (.agg R.toArray) W) {u0 : Value} (q0 : R[0]? = some u0) {u1 : Value} (q1 : R[18]? = some u1) {u2 : Value} (q2 : R[36]? = some u2) {u3 : Value} (q3 : R[54]? = some u3) {u4 : Value} (q4 : R[72]? = some u4) {u5 : Value} (q5 : R[90]? = some u5) {u6 : Value} (q6 : R[108]? = some u6) {u7 : Value} (q7 : R[126]? = some u7) {u8 : Value} (q8 : R[145]? = some u8) {u9 : Value} (q9 : R[166]? = some u9) {u10 : Value} (q10 : R[186]? = some u10) {u11 : Value} (q11 : R[195]? = some u11) (hB : ((((((((((((R.set 0 (.int .i64 n)).set 18 (.int .i64 n)).set 36 (.int .i64 n)).set 54 (.int .i64 n)).set 72 (.int .i64 n)).set 90 (.int .i64 n)).set 108 (.int .i64 n)).set 126 (.int .i64 n)).set 145 (.int .i64 n)).set 166 (.int .i64 n)).set 186 (.int .i64 n)).set 195 (.int .i64 n)) = B) (w : World) :
    Calls Try.prog 15 #[.agg L.toArray, .int .i64 n] w fun e1 w' => e1 = .returned (.agg B.toArray) ∧ Below w.heap.size w w' := by
  have ha := Lib.hid agg_msg
  have hs := Lib.hid (show ∀ w, (sizeOf 27).run Try.prog w = .ok L.length w from fun w => by rw [hL]; exact size_msg w)
  have ha2 := Lib.hid agg_12
  have hs2 := Lib.hid (show ∀ w, (sizeOf 38).run Try.prog w = .ok R.length w from fun w => by rw [hRl]; exact size_12 w)
  have hs3 := Lib.hid (show ∀ w, (sizeOf 38).run Try.prog w = .ok B.length w from fun w => by rw [hBl]; exact size_12 w)
  have HBU := Lib.hid hR
  have HB := Lib.hid hB
  clear hR hB
  go_enter Try.func15, Try.ntmps15
  go_upto_region 1 with ((with_reducible refine at_op (.alloc 38) ?_); refine wpList_run rfl (run_alloc rfl (alloc_12 _)) ?_; simp only [Act.put, List.setIfInBounds_toArray, List.set_cons_succ, List.set_cons_zero])
  refine wp_world ?_
  intro V hV
  have HM := Lib.hid (show Holds V w.heap.size L by subst hV; exact (holds_alloc w L 27 rfl).alloc (by simp) _)
  have sV : w.heap.size + 2 ≤ V.heap.size := by subst hV; simp
  have HZ0 := Lib.hid (show Holds V (w.heap.size + 1) z204 by subst hV; exact holds_alloc _ z204 38 (by simp))
  have FZ0 := Lib.hid (show ∀ j, V.frozen? ⟨w.heap.size + 1, j, none⟩ = false by subst hV; intro j; exact frozen_new _ _ _ _ (by simp))
  have HV := Lib.hid (show Below w.heap.size w V by subst hV; exact below_alloc (below_alloc (Below.refl _ _) _) _)
  clear hV
  go_upto_region 2 with (first | ((with_reducible refine at_op (.alloc 38) ?_); refine wpList_run rfl (run_alloc rfl (alloc_12 _)) ?_; simp only [Act.put, List.setIfInBounds_toArray, List.set_cons_succ, List.set_cons_zero]) | ((with_reducible refine at_load 27 (.tmp 2) ?_); refine wpList_load_whole rfl (.tmp 2) 27 rfl w.heap.size 0 L rfl ha.out hs.out HM.out ?_; simp only [Act.put, List.setIfInBounds_toArray, List.set_cons_succ, List.set_cons_zero]) | ((with_reducible refine at_op (.build 38 #[(0, .tmp 6), (1, .tmp 7), (2, .tmp 8), (3, .tmp 9), (4, .tmp 10), (5, .tmp 11), (6, .tmp 12), (7, .tmp 13), (8, .tmp 14), (9, .tmp 15), (10, .tmp 16), (11, .tmp 17)]) ?_); refine wpList_run rfl (run_build (qs := #[(0, .agg L.toArray), (1, .agg L.toArray), (2, .agg L.toArray), (3, .agg L.toArray), (4, .agg L.toArray), (5, .agg L.toArray), (6, .agg L.toArray), (7, .agg L.toArray), (8, .agg L.toArray), (9, .agg L.toArray), (10, .agg L.toArray), (11, .agg L.toArray)]) rfl (by simp only [List.map_toArray, List.map_cons, List.map_nil]; rfl) (HBU.out _)) ?_; simp only [Act.put, List.setIfInBounds_toArray, List.set_cons_succ, List.set_cons_zero]) | ((with_reducible refine at_store 38 (.tmp 5) (.tmp 18) ?_); refine wpList_store_whole rfl (.tmp 5) (.tmp 18) 38 rfl V.heap.size 0 R rfl rfl hs2.out (by rw [hRl]; exact z204_here (holds_alloc _ _ _ rfl)) (fun j _ => frozen_new _ _ _ _ (by simp)) hR1 ?_; intro w5 hw5))
  have e0 : w5.cell? ⟨V.heap.size, 0, none⟩ = some u0 := by simpa using hw5.here 0 _ q0
  have f0 : w5.frozen? ⟨V.heap.size, 0, none⟩ = false := (hw5.frozen _).trans (frozen_new _ _ _ _ (by simp))
  have e1 : w5.cell? ⟨V.heap.size, 18, none⟩ = some u1 := by simpa using hw5.here 18 _ q1
  have f1 : w5.frozen? ⟨V.heap.size, 18, none⟩ = false := (hw5.frozen _).trans (frozen_new _ _ _ _ (by simp))
  have e2 : w5.cell? ⟨V.heap.size, 36, none⟩ = some u2 := by simpa using hw5.here 36 _ q2
  have f2 : w5.frozen? ⟨V.heap.size, 36, none⟩ = false := (hw5.frozen _).trans (frozen_new _ _ _ _ (by simp))
  have e3 : w5.cell? ⟨V.heap.size, 54, none⟩ = some u3 := by simpa using hw5.here 54 _ q3
  have f3 : w5.frozen? ⟨V.heap.size, 54, none⟩ = false := (hw5.frozen _).trans (frozen_new _ _ _ _ (by simp))
  have e4 : w5.cell? ⟨V.heap.size, 72, none⟩ = some u4 := by simpa using hw5.here 72 _ q4
  have f4 : w5.frozen? ⟨V.heap.size, 72, none⟩ = false := (hw5.frozen _).trans (frozen_new _ _ _ _ (by simp))
  have e5 : w5.cell? ⟨V.heap.size, 90, none⟩ = some u5 := by simpa using hw5.here 90 _ q5
  have f5 : w5.frozen? ⟨V.heap.size, 90, none⟩ = false := (hw5.frozen _).trans (frozen_new _ _ _ _ (by simp))
  have e6 : w5.cell? ⟨V.heap.size, 108, none⟩ = some u6 := by simpa using hw5.here 108 _ q6
  have f6 : w5.frozen? ⟨V.heap.size, 108, none⟩ = false := (hw5.frozen _).trans (frozen_new _ _ _ _ (by simp))
  have e7 : w5.cell? ⟨V.heap.size, 126, none⟩ = some u7 := by simpa using hw5.here 126 _ q7
  have f7 : w5.frozen? ⟨V.heap.size, 126, none⟩ = false := (hw5.frozen _).trans (frozen_new _ _ _ _ (by simp))
  have e8 : w5.cell? ⟨V.heap.size, 145, none⟩ = some u8 := by simpa using hw5.here 145 _ q8
  have f8 : w5.frozen? ⟨V.heap.size, 145, none⟩ = false := (hw5.frozen _).trans (frozen_new _ _ _ _ (by simp))
  have e9 : w5.cell? ⟨V.heap.size, 166, none⟩ = some u9 := by simpa using hw5.here 166 _ q9
  have f9 : w5.frozen? ⟨V.heap.size, 166, none⟩ = false := (hw5.frozen _).trans (frozen_new _ _ _ _ (by simp))
  have e10 : w5.cell? ⟨V.heap.size, 186, none⟩ = some u10 := by simpa using hw5.here 186 _ q10
  have f10 : w5.frozen? ⟨V.heap.size, 186, none⟩ = false := (hw5.frozen _).trans (frozen_new _ _ _ _ (by simp))
  have e11 : w5.cell? ⟨V.heap.size, 195, none⟩ = some u11 := by simpa using hw5.here 195 _ q11
  have f11 : w5.frozen? ⟨V.heap.size, 195, none⟩ = false := (hw5.frozen _).trans (frozen_new _ _ _ _ (by simp))
  have HR := Lib.hid (show Holds w5 V.heap.size R from hw5.here)
  have HZ := Lib.hid (show Holds w5 (w.heap.size + 1) z204 from Holds.wrote (HZ0.out.alloc (by omega) _) hw5 (by omega))
  have FZ := Lib.hid (show ∀ j, w5.frozen? ⟨w.heap.size + 1, j, none⟩ = false from fun j => (hw5.frozen _).trans (frozen_alB (FZ0.out j) (by omega) _))
  have H5 := Lib.hid (show Below w.heap.size w w5 from hw5.below _ _ (by omega) (below_alloc HV.out _))

  go_upto_region 4 with fail
  refine wp_world ?_
  intro V2 hV2
  have HB2 := Lib.hid (show Holds V2 V.heap.size B by subst hV2; exact HB.out ▸ (Holds.set (Holds.set (Holds.set (Holds.set (Holds.set (Holds.set (Holds.set (Holds.set (Holds.set (Holds.set (Holds.set (Holds.set HR.out 0 (.int .i64 n)) 18 (.int .i64 n)) 36 (.int .i64 n)) 54 (.int .i64 n)) 72 (.int .i64 n)) 90 (.int .i64 n)) 108 (.int .i64 n)) 126 (.int .i64 n)) 145 (.int .i64 n)) 166 (.int .i64 n)) 186 (.int .i64 n)) 195 (.int .i64 n)))
  have HZ2 := Lib.hid (show Holds V2 (w.heap.size + 1) z204 by subst hV2; exact (Holds.far (Holds.far (Holds.far (Holds.far (Holds.far (Holds.far (Holds.far (Holds.far (Holds.far (Holds.far (Holds.far (Holds.far HZ.out (b' := V.heap.size) (by omega) _) (b' := V.heap.size) (by omega) _) (b' := V.heap.size) (by omega) _) (b' := V.heap.size) (by omega) _) (b' := V.heap.size) (by omega) _) (b' := V.heap.size) (by omega) _) (b' := V.heap.size) (by omega) _) (b' := V.heap.size) (by omega) _) (b' := V.heap.size) (by omega) _) (b' := V.heap.size) (by omega) _) (b' := V.heap.size) (by omega) _) (b' := V.heap.size) (by omega) _))
  have FZ2 := Lib.hid (show ∀ j, V2.frozen? ⟨w.heap.size + 1, j, none⟩ = false by subst hV2; intro j; simpa [go_sem] using FZ.out j)
  have H2 := Lib.hid (show Below w.heap.size w V2 by subst hV2; exact (Below.setCell (p := ⟨V.heap.size, 195, none⟩) (Below.setCell (p := ⟨V.heap.size, 186, none⟩) (Below.setCell (p := ⟨V.heap.size, 166, none⟩) (Below.setCell (p := ⟨V.heap.size, 145, none⟩) (Below.setCell (p := ⟨V.heap.size, 126, none⟩) (Below.setCell (p := ⟨V.heap.size, 108, none⟩) (Below.setCell (p := ⟨V.heap.size, 90, none⟩) (Below.setCell (p := ⟨V.heap.size, 72, none⟩) (Below.setCell (p := ⟨V.heap.size, 54, none⟩) (Below.setCell (p := ⟨V.heap.size, 36, none⟩) (Below.setCell (p := ⟨V.heap.size, 18, none⟩) (Below.setCell (p := ⟨V.heap.size, 0, none⟩) H5.out (by show _ ≤ V.heap.size; omega) _) (by show _ ≤ V.heap.size; omega) _) (by show _ ≤ V.heap.size; omega) _) (by show _ ≤ V.heap.size; omega) _) (by show _ ≤ V.heap.size; omega) _) (by show _ ≤ V.heap.size; omega) _) (by show _ ≤ V.heap.size; omega) _) (by show _ ≤ V.heap.size; omega) _) (by show _ ≤ V.heap.size; omega) _) (by show _ ≤ V.heap.size; omega) _) (by show _ ≤ V.heap.size; omega) _) (by show _ ≤ V.heap.size; omega) _))
  clear hV2 HR HZ FZ H5
  go_wp2_with (first | ((with_reducible refine at_load 38 (.tmp 5) ?_); refine wpList_load_whole rfl (.tmp 5) 38 rfl V.heap.size 0 B rfl ha2.out hs3.out HB2.out ?_; simp only [Act.put, List.setIfInBounds_toArray, List.set_cons_succ, List.set_cons_zero]) | ((with_reducible refine at_store 38 (.tmp 4) (.tmp 60) ?_); refine wpList_store_whole rfl (.tmp 4) (.tmp 60) 38 rfl (w.heap.size + 1) 0 B rfl rfl hs3.out (by rw [hBl]; exact z204_here HZ2.out) (fun j _ => FZ2.out _) hB1 ?_; intro w6 hw6))
  have hL2 := run_loadVar_whole (P := Try.prog) (w := w6) 38 (w.heap.size + 1) 0 B ha2.out hs3.out hw6.here
  exact bodyPost_ret (v := .agg B.toArray) (results_cell 4 38 Try.results15 (w.heap.size + 1) 0 _ rfl hL2) rfl ⟨rfl, hw6.below _ _ (by omega) H2.out⟩

/-- The twelve messages, as lists. -/
def bentM : List Int → Int → List (List Int)
  | [K, D, C, i, p, S, T, P, r, q, a, b, c, v, e, g, s], n => [[n, D, C, i, p, S, T, P, r, q, a, b, c, v, e, g, s], [K, n, C, i, p, S, T, P, r, q, a, b, c, v, e, g, s], [K, D, n, i, p, S, T, P, r, q, a, b, c, v, e, g, s], [K, D, C, n, p, S, T, P, r, q, a, b, c, v, e, g, s], [K, D, C, i, n, S, T, P, r, q, a, b, c, v, e, g, s], [K, D, C, i, p, n, T, P, r, q, a, b, c, v, e, g, s], [K, D, C, i, p, S, n, P, r, q, a, b, c, v, e, g, s], [K, D, C, i, p, S, T, n, r, q, a, b, c, v, e, g, s], [K, D, C, i, p, S, T, P, r, n, a, b, c, v, e, g, s], [K, D, C, i, p, S, T, P, r, q, a, b, c, n, e, g, s], [K, D, C, i, p, S, T, P, r, q, a, b, c, v, e, g, n], [K, D, C, i, p, S, T, P, n, q, a, b, c, v, e, g, s]]
  | _, _ => []
theorem bentM_len {M : List Int} (h : M.length = 17) (n : Int) : (bentM M n).length = 12 := by
  match M, h with
  | [K, D, C, i, p, S, T, P, r, q, a, b, c, v, e, g, s], _ => rfl
theorem bentM_each {M : List Int} (h : M.length = 17) (n : Int) : ∀ N ∈ bentM M n, N.length = 17 := by
  match M, h with
  | [K, D, C, i, p, S, T, P, r, q, a, b, c, v, e, g, s], _ =>
    intro N hN
    simp only [bentM, List.mem_cons, List.not_mem_nil, or_false] at hN
    rcases hN with h | h | h | h | h | h | h | h | h | h | h | h <;> subst h <;> rfl
set_option maxRecDepth 100000 in
theorem bentL_flat (K D C i p S T P r q a b c v e g s n : Int) : bentL K D C i p S T P r q a b c v e g s n = (bentM [K, D, C, i, p, S, T, P, r, q, a, b, c, v, e, g, s] n).flatten.map (Value.int .i64) := rfl
set_option maxRecDepth 100000 in
theorem bent_any {M : List Int} (h : M.length = 17) (n : Int) (w : World) : Calls Try.prog 15 #[.agg (M.map (Value.int .i64)).toArray, .int .i64 n] w fun e1 w' => e1 = .returned (.agg ((bentM M n).flatten.map (Value.int .i64)).toArray) ∧ Below w.heap.size w w' := by
  match M, h with
  | [K, D, C, i, p, S, T, P, r, q, a, b, c, v, e, g, s], _ =>
    rw [← bentL_flat]
    exact bent_core n (mMsg K D C i p S T P r q a b c v e g s) (rep12 (mMsg K D C i p S T P r q a b c v e g s)) (bentL K D C i p S T P r q a b c v e g s n) rfl (rep_len K D C i p S T P r q a b c v e g s) (rep_one K D C i p S T P r q a b c v e g s) (bent_len K D C i p S T P r q a b c v e g s n) (bent_one K D C i p S T P r q a b c v e g s n) (fun W => build_12 (.int .i64 K) (.int .i64 D) (.int .i64 C) (.int .i64 i) (.int .i64 p) (.int .i64 S) (.int .i64 T) (.int .i64 P) (.int .i64 r) (.int .i64 q) (.int .i64 a) (.int .i64 b) (.int .i64 c) (.int .i64 v) (.int .i64 e) (.int .i64 g) (.int .i64 s) W) rfl rfl rfl rfl rfl rfl rfl rfl rfl rfl rfl rfl (bent_sets K D C i p S T P r q a b c v e g s n) w

end Go.Proofs.Ytecengclcaodeaa
