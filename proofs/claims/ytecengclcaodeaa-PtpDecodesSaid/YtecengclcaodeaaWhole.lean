/-
  A whole struct read and written in one step of the walk: whatever the number of its cells.
-/
import Derived.Laws.IdiomCopy
import Derived.Laws.Cells
import Derived.Deep.RegionLaw
import Derived.Deep.RegionHeld
import Derived.Test.YtecengclcaodeaaKit
namespace Go.Proofs.Ytecengclcaodeaa
open Go.RowKit Go.Lib

section
variable {P : Program} {w : World} {ops : Array Oper} {rest : List Oper} {o : Oper} {a : Act} {Q : Exit → Act → World → Prop}

theorem add_off (b i j : Nat) : (⟨b, i, none⟩ : Addr).add j = ⟨b, i + j, none⟩ := by unfold Addr.add; split <;> simp_all

theorem run_loadVar_whole (t : TypeId) (b off : Nat) (c : List Value) (hagg : ∀ w, (isAgg t).run P w = .ok true w) (hsz : ∀ w, (sizeOf t).run P w = .ok c.length w) (hc : ∀ j v, c[j]? = some v → w.cell? ⟨b, off + j, none⟩ = some v) :
    (loadVar t ⟨b, off, none⟩).run P w = .ok (.agg c.toArray) w := by
  have h := run_loadCells_list (P := P) w ⟨b, off, none⟩ c (fun j v hv => by rw [add_off]; exact hc j v hv)
  simp [loadVar, hagg, hsz, h]

theorem wpList_load_whole (hgd : o.guard = none) (x : Operand) (t : TypeId) (ho : o.op = .load t x) (b off : Nat) (c : List Value) (hx : a.eval x = .pointer (some ⟨b, off, none⟩)) (hagg : ∀ w, (isAgg t).run P w = .ok true w) (hsz : ∀ w, (sizeOf t).run P w = .ok c.length w)
    (hc : ∀ j v, c[j]? = some v → w.cell? ⟨b, off + j, none⟩ = some v) (h : wpList P ops Q rest (a.put o.dst (.agg c.toArray)) w) : wpList P ops Q (o :: rest) a w := by
  refine wpList_plain hgd fun K hK => ?_
  have hrun := run_loadVar_whole (P := P) (w := w) t b off c hagg hsz hc
  unfold Oper.wp
  simp [execOp, ho, hx, Instr.loadAt, Instr.sureAddr, hrun, Result.andThen]
  exact hK _ _ h

theorem below_setCells {B b : Nat} {w0 : World} (hB : B ≤ b) : ∀ (vs : List Value) (o : Nat) (w : World), Below B w0 w → Below B w0 (w.setCells b o vs)
  | [], _, _, h => h
  | v :: r, o, _, h => below_setCells hB r (o + 1) _ (h.setCell hB v)

/-- What is left behind the write: the block's cells; all else as it was. -/
structure Wrote (b off : Nat) (c : List Value) (w w' : World) : Prop where
  here : ∀ j v, c[j]? = some v → w'.cell? ⟨b, off + j, none⟩ = some v
  far : ∀ k o, k ≠ b → w'.cell? ⟨k, o, none⟩ = w.cell? ⟨k, o, none⟩
  frozen : ∀ x, w'.frozen? x = w.frozen? x
  size : w'.heap.size = w.heap.size
  below : ∀ B w0, B ≤ b → Below B w0 w → Below B w0 w'

theorem size_setCells (b : Nat) : ∀ (vs : List Value) (o : Nat) (w : World), (w.setCells b o vs).heap.size = w.heap.size
  | [], _, _ => rfl
  | v :: r, o, w => by rw [World.setCells, size_setCells b r (o + 1)]; simp

theorem wrote_setCells (b off : Nat) (c : List Value) (w : World) (hc : ∀ j, j < c.length → (w.cell? ⟨b, off + j, none⟩).isSome = true) : Wrote b off c w (w.setCells b off c) where
  here j v hv := by
    obtain ⟨hj, rfl⟩ := List.getElem?_eq_some_iff.1 hv
    exact World.cell?_setCells_in b c off w hc j hj
  far k o hk := World.cell?_setCells_out b c off w ⟨k, o, none⟩ (fun e => absurd e hk)
  frozen x := World.frozen?_setCells b c off w x
  size := size_setCells b c off w
  below B w0 hB h := below_setCells hB c off w h

theorem run_storeVar_whole (t : TypeId) (b off : Nat) (c : List Value) (hsz : ∀ w, (sizeOf t).run P w = .ok c.length w) (hc : ∀ j, j < c.length → (w.cell? ⟨b, off + j, none⟩).isSome = true) (hf : ∀ j, j < c.length → w.frozen? ⟨b, off + j, none⟩ = false) (h1 : ∀ v ∈ c, v.oneCell' = true) :
    (storeVar t ⟨b, off, none⟩ (.agg c.toArray)).run P w = .ok () (w.setCells b off c) := by
  have h := run_storeCells_cells (P := P) b off c 0 w (by simpa using hc) (by simpa using hf) h1
  simp at h
  simp [storeVar, hsz, Value.cells, h]

theorem wpList_store_whole (hgd : o.guard = none) (x v : Operand) (t : TypeId) (ho : o.op = .store t x v) (b off : Nat) (c : List Value) (hx : a.eval x = .pointer (some ⟨b, off, none⟩)) (hv : a.eval v = .agg c.toArray) (hsz : ∀ w, (sizeOf t).run P w = .ok c.length w)
    (hc : ∀ j, j < c.length → (w.cell? ⟨b, off + j, none⟩).isSome = true) (hf : ∀ j, j < c.length → w.frozen? ⟨b, off + j, none⟩ = false) (h1 : ∀ v ∈ c, v.oneCell' = true)
    (h : ∀ w', Wrote b off c w w' → wpList P ops Q rest (a.put o.dst undef) w') : wpList P ops Q (o :: rest) a w := by
  refine wpList_plain hgd fun K hK => ?_
  have hrun := run_storeVar_whole (P := P) (w := w) t b off c hsz hc hf h1
  unfold Oper.wp
  simp [execOp, ho, hx, hv, Instr.storeAt, Instr.sureAddr, hrun, Result.andThen]
  exact hK _ _ (h _ (wrote_setCells b off c w hc))

/-- The cells of a block, as a list. -/
def Holds (w : World) (b : Nat) (c : List Value) : Prop := ∀ j v, c[j]? = some v → w.cell? ⟨b, 0 + j, none⟩ = some v
theorem holds_alloc (w : World) (c : List Value) (t : TypeId) {b : Nat} (hb : b = w.heap.size) : Holds (w.alloc (.cells c.toArray t)) b c := fun j v hv => by
  subst hb
  simp [go_sem, hv]
theorem Holds.alloc {b : Nat} {c : List Value} (h : Holds w b c) (hb : b < w.heap.size) (o : Obj) : Holds (w.alloc o) b c := fun j v hv => by
  rw [World.cell?_alloc_lt _ _ _ hb]; exact h j v hv
theorem Holds.keep {W : World} {b : Nat} {c : List Value} (h : Holds w b c) (hb : Below w.heap.size w W) : Holds W b c := fun j v hv => below_keep hb (h j v hv)
theorem Holds.some {b : Nat} {c : List Value} (h : Holds w b c) (j : Nat) (hj : j < c.length) : (w.cell? ⟨b, 0 + j, none⟩).isSome = true := by
  rw [h j _ (List.getElem?_eq_getElem hj)]; rfl
theorem Holds.wrote {W : World} {b b' off : Nat} {c c' : List Value} (h : Holds w b c) (k : Wrote b' off c' w W) (hne : b ≠ b') : Holds W b c := fun j v hv => by
  rw [k.far _ _ hne]; exact h j v hv
theorem frozen_new (w : World) (c : Array Value) (t : TypeId) (o : Nat) {b : Nat} (hb : b = w.heap.size) : (w.alloc (.cells c t)).frozen? ⟨b, o, none⟩ = false := by
  subst hb
  simp [go_sem]

theorem results_cell_tmp {fn : Func} {tmps : Array Value} (s s2 : Nat) (t : TypeId) (hr : fn.results = #[.cell s t, .tmp s2]) (b off : Nat) (v x : Value) (hs : tmps.getD s undef = .pointer (some ⟨b, off, none⟩)) (hL : (loadVar t ⟨b, off, none⟩).run P w = .ok v w) (hx : tmps.getD s2 undef = x) :
    (results fn tmps).run P w = .ok (.tuple #[v, x]) w := by
  simp only [Array.getD_eq_getD_getElem?] at hs hx
  simp [results, hr, hs, hx, hL, asAddr]
theorem results_cell {fn : Func} {tmps : Array Value} (s : Nat) (t : TypeId) (hr : fn.results = #[.cell s t]) (b off : Nat) (v : Value) (hs : tmps.getD s undef = .pointer (some ⟨b, off, none⟩)) (hL : (loadVar t ⟨b, off, none⟩).run P w = .ok v w) :
    (results fn tmps).run P w = .ok v w := by
  simp only [Array.getD_eq_getD_getElem?] at hs
  simp [results, hr, hs, hL, asAddr]

/-- The same, of an operation that stands under a guard that holds. -/
theorem wpList_load_wanted (hw : Region.wanted o (yielded ops a.tmps) = true) (x : Operand) (t : TypeId) (ho : o.op = .load t x) (b off : Nat) (c : List Value) (hx : a.eval x = .pointer (some ⟨b, off, none⟩)) (hagg : ∀ w, (isAgg t).run P w = .ok true w) (hsz : ∀ w, (sizeOf t).run P w = .ok c.length w)
    (hc : ∀ j v, c[j]? = some v → w.cell? ⟨b, off + j, none⟩ = some v) (h : wpList P ops Q rest (a.put o.dst (.agg c.toArray)) w) : wpList P ops Q (o :: rest) a w := by
  refine wpList_step fun K hK => ?_
  rw [if_pos hw]
  have hrun := run_loadVar_whole (P := P) (w := w) t b off c hagg hsz hc
  unfold Oper.wp
  simp [execOp, ho, hx, Instr.loadAt, Instr.sureAddr, hrun, Result.andThen]
  exact hK _ _ h

theorem Holds.set {b : Nat} {c : List Value} (h : Holds w b c) (k : Nat) (v : Value) : Holds (w.setCell ⟨b, k, none⟩ v) b (c.set k v) := fun j u hu => by
  rw [List.getElem?_set] at hu
  by_cases e : k = j
  · subst e
    by_cases l : k < c.length
    · simp [l] at hu
      subst hu
      have := h k _ (List.getElem?_eq_getElem l)
      simp only [Nat.zero_add] at this ⊢
      exact World.cell?_setCell_same _ _ _ this
    · simp [l] at hu
  · rw [if_neg e] at hu
    rw [World.cell?_setCell_other (h := by intro x; injection x with _ x _; omega)]
    exact h j u hu
theorem Holds.far {b b' o : Nat} {c : List Value} (h : Holds w b c) (hne : b' ≠ b) (v : Value) : Holds (w.setCell ⟨b', o, none⟩ v) b c := fun j u hu => by
  rw [World.cell?_setCell_far _ _ _ _ hne]; exact h j u hu
theorem Holds.drew {b : Nat} {c : List Value} (h : Holds w b c) : Holds w.drew b c := fun j u hu => by
  have := h j u hu
  simpa [go_sem] using this
theorem Holds.drewN {b : Nat} {c : List Value} (h : Holds w b c) (n : Nat) : Holds (w.drewN n) b c := fun j u hu => by
  have := h j u hu
  simpa [go_sem] using this
end

end Go.Proofs.Ytecengclcaodeaa
