/-
  Texts of this claim laid together: Kit, Whole, At, Tail, Step, QLoad, Flag.
-/
import Derived.WalkKit
import Derived.WalkSpells
import Derived.WalkLawsBesides
import Derived.Lib.Hide
import Derived.Laws.IdiomCopy
import Derived.Laws.Cells
import Derived.Deep.RegionLaw
import Derived.Deep.RegionHeld
import Derived.StillTail
import Derived.Lib.QuietBelow
import Derived.BigQuiet
import Derived.Deep.RegionHeld3
import Derived.OrdersHeld
import Derived.Test.YtjhpbemnklpefaaRows
namespace Go.Proofs.Ytjhpbemnklpefaa
open Go.RowKit Go.Lib

theorem ret_int {k : IntKind} {a b : Int} (h : a = b) : Ending.returned (.int k a) = .returned (.int k b) := by rw [h]
theorem ret_bool {a b : Bool} (h : a = b) : Ending.returned (.bool a) = .returned (.bool b) := by rw [h]
theorem int_eq {k : IntKind} {a b : Int} (h : a = b) : Value.int k a = .int k b := by rw [h]

/-- What a contract that ends in 'Below' leaves of the blocks that were there. -/
theorem bcell {W w1 : World} (hb : Below W.heap.size W w1) : (∀ b o, b < W.heap.size → w1.cell? ⟨b, o, none⟩ = W.cell? ⟨b, o, none⟩) ∧ (∀ b o, b < W.heap.size → w1.frozen? ⟨b, o, none⟩ = W.frozen? ⟨b, o, none⟩) :=
  ⟨fun b o h => hb.cell (p := ⟨b, o, none⟩) h, fun b o h => hb.frozen (p := ⟨b, o, none⟩) h⟩

/-- One call behind another. -/
theorem below_step {w a b : World} (h : Below w.heap.size w a) (k : Below a.heap.size a b) : Below w.heap.size w b := h.trans (k.mono h.size)
theorem below_alloc {w a : World} (h : Below w.heap.size w a) (o : Obj) : Below w.heap.size w (a.alloc o) := h.alloc h.size o
theorem below_drewN' {w a : World} (h : Below w.heap.size w a) (n : Nat) : Below w.heap.size w (a.drewN n) := ⟨h.os, h.tape, h.output, h.size, h.block⟩

/-- A cell that is there holds behind the call what it held. -/
theorem below_keep {W w1 : World} (hb : Below W.heap.size W w1) {a : Addr} {v : Value} (h : W.cell? a = some v) : w1.cell? a = some v := by
  rw [hb.cell (World.block_lt_of_cell? W _ h)]
  exact h

end Go.Proofs.Ytjhpbemnklpefaa

namespace Go.Proofs.Ytjhpbemnklpefaa
open Go.RowKit Go.Lib

section
variable {P : Program} {w : World} {ops : Array Oper} {rest : List Oper} {o : Oper} {a : Act} {Q : Exit → Act → World → Prop}

theorem add_off (b i j : Nat) : (⟨b, i, none⟩ : Addr).add j = ⟨b, i + j, none⟩ := by unfold Addr.add; split <;> simp_all

theorem run_loadVar_whole (t : TypeId) (b off : Nat) (c : List Value) (hagg : ∀ w, (isAgg t).run P w = .ok true w) (hsz : ∀ w, (sizeOf t).run P w = .ok c.length w) (hc : ∀ j v, c[j]? = some v → w.cell? ⟨b, off + j, none⟩ = some v) :
    (loadVar t ⟨b, off, none⟩).run P w = .ok (.agg c.toArray) w := by
  have h := run_loadCells_list (P := P) w ⟨b, off, none⟩ c (fun j v hv => by rw [add_off]; exact hc j v hv)
  simp [loadVar, hagg, hsz, h]

theorem wpList_load_whole (hgd : o.guard = none) (x : Operand) (t : TypeId) (ho : o.op = .load t x) (b off : Nat) (c : List Value) (hx : a.eval x = .pointer (some ⟨b, off, none⟩)) (hagg : ∀ w, (isAgg t).run P w = .ok true w) (hsz : ∀ w, (sizeOf t).run P w = .ok c.length w)
    (hc : ∀ j v, c[j]? = some v → w.cell? ⟨b, off + j, none⟩ = some v) (h : wpList P ops Q rest (a.put o.dst (.agg c.toArray)) w) : wpList P ops Q (o :: rest) a w := by
  refine wpList_plain hgd fun K hK => ?_
  have hrun := run_loadVar_whole (P := P) (w := w) t b off c hagg hsz hc
  unfold Oper.wp
  simp [execOp, ho, hx, Instr.loadAt, Instr.sureAddr, hrun, Result.andThen]
  exact hK _ _ h

theorem below_setCells {B b : Nat} {w0 : World} (hB : B ≤ b) : ∀ (vs : List Value) (o : Nat) (w : World), Below B w0 w → Below B w0 (w.setCells b o vs)
  | [], _, _, h => h
  | v :: r, o, _, h => below_setCells hB r (o + 1) _ (h.setCell hB v)

/-- What is left behind the write: the block's cells; all else as it was. -/
structure Wrote (b off : Nat) (c : List Value) (w w' : World) : Prop where
  here : ∀ j v, c[j]? = some v → w'.cell? ⟨b, off + j, none⟩ = some v
  far : ∀ k o, k ≠ b → w'.cell? ⟨k, o, none⟩ = w.cell? ⟨k, o, none⟩
  frozen : ∀ x, w'.frozen? x = w.frozen? x
  size : w'.heap.size = w.heap.size
  below : ∀ B w0, B ≤ b → Below B w0 w → Below B w0 w'

theorem size_setCells (b : Nat) : ∀ (vs : List Value) (o : Nat) (w : World), (w.setCells b o vs).heap.size = w.heap.size
  | [], _, _ => rfl
  | v :: r, o, w => by rw [World.setCells, size_setCells b r (o + 1)]; simp

theorem wrote_setCells (b off : Nat) (c : List Value) (w : World) (hc : ∀ j, j < c.length → (w.cell? ⟨b, off + j, none⟩).isSome = true) : Wrote b off c w (w.setCells b off c) where
  here j v hv := by
    obtain ⟨hj, rfl⟩ := List.getElem?_eq_some_iff.1 hv
    exact World.cell?_setCells_in b c off w hc j hj
  far k o hk := World.cell?_setCells_out b c off w ⟨k, o, none⟩ (fun e => absurd e hk)
  frozen x := World.frozen?_setCells b c off w x
  size := size_setCells b c off w
  below B w0 hB h := below_setCells hB c off w h

theorem run_storeVar_whole (t : TypeId) (b off : Nat) (c : List Value) (hsz : ∀ w, (sizeOf t).run P w = .ok c.length w) (hc : ∀ j, j < c.length → (w.cell? ⟨b, off + j, none⟩).isSome = true) (hf : ∀ j, j < c.length → w.frozen? ⟨b, off + j, none⟩ = false) (h1 : ∀ v ∈ c, v.oneCell' = true) :
    (storeVar t ⟨b, off, none⟩ (.agg c.toArray)).run P w = .ok () (w.setCells b off c) := by
  have h := run_storeCells_cells (P := P) b off c 0 w (by simpa using hc) (by simpa using hf) h1
  simp at h
  simp [storeVar, hsz, Value.cells, h]

theorem wpList_store_whole (hgd : o.guard = none) (x v : Operand) (t : TypeId) (ho : o.op = .store t x v) (b off : Nat) (c : List Value) (hx : a.eval x = .pointer (some ⟨b, off, none⟩)) (hv : a.eval v = .agg c.toArray) (hsz : ∀ w, (sizeOf t).run P w = .ok c.length w)
    (hc : ∀ j, j < c.length → (w.cell? ⟨b, off + j, none⟩).isSome = true) (hf : ∀ j, j < c.length → w.frozen? ⟨b, off + j, none⟩ = false) (h1 : ∀ v ∈ c, v.oneCell' = true)
    (h : ∀ w', Wrote b off c w w' → wpList P ops Q rest (a.put o.dst undef) w') : wpList P ops Q (o :: rest) a w := by
  refine wpList_plain hgd fun K hK => ?_
  have hrun := run_storeVar_whole (P := P) (w := w) t b off c hsz hc hf h1
  unfold Oper.wp
  simp [execOp, ho, hx, hv, Instr.storeAt, Instr.sureAddr, hrun, Result.andThen]
  exact hK _ _ (h _ (wrote_setCells b off c w hc))

/-- The cells of a block, as a list. -/
def Holds (w : World) (b : Nat) (c : List Value) : Prop := ∀ j v, c[j]? = some v → w.cell? ⟨b, 0 + j, none⟩ = some v
theorem holds_alloc (w : World) (c : List Value) (t : TypeId) {b : Nat} (hb : b = w.heap.size) : Holds (w.alloc (.cells c.toArray t)) b c := fun j v hv => by
  subst hb
  simp [go_sem, hv]
theorem Holds.alloc {b : Nat} {c : List Value} (h : Holds w b c) (hb : b < w.heap.size) (o : Obj) : Holds (w.alloc o) b c := fun j v hv => by
  rw [World.cell?_alloc_lt _ _ _ hb]; exact h j v hv
theorem Holds.keep {W : World} {b : Nat} {c : List Value} (h : Holds w b c) (hb : Below w.heap.size w W) : Holds W b c := fun j v hv => below_keep hb (h j v hv)
theorem Holds.some {b : Nat} {c : List Value} (h : Holds w b c) (j : Nat) (hj : j < c.length) : (w.cell? ⟨b, 0 + j, none⟩).isSome = true := by
  rw [h j _ (List.getElem?_eq_getElem hj)]; rfl
theorem Holds.wrote {W : World} {b b' off : Nat} {c c' : List Value} (h : Holds w b c) (k : Wrote b' off c' w W) (hne : b ≠ b') : Holds W b c := fun j v hv => by
  rw [k.far _ _ hne]; exact h j v hv
theorem frozen_new (w : World) (c : Array Value) (t : TypeId) (o : Nat) {b : Nat} (hb : b = w.heap.size) : (w.alloc (.cells c t)).frozen? ⟨b, o, none⟩ = false := by
  subst hb
  simp [go_sem]

theorem results_cell_tmp {fn : Func} {tmps : Array Value} (s s2 : Nat) (t : TypeId) (hr : fn.results = #[.cell s t, .tmp s2]) (b off : Nat) (v x : Value) (hs : tmps.getD s undef = .pointer (some ⟨b, off, none⟩)) (hL : (loadVar t ⟨b, off, none⟩).run P w = .ok v w) (hx : tmps.getD s2 undef = x) :
    (results fn tmps).run P w = .ok (.tuple #[v, x]) w := by
  simp only [Array.getD_eq_getD_getElem?] at hs hx
  simp [results, hr, hs, hx, hL, asAddr]
theorem results_cell {fn : Func} {tmps : Array Value} (s : Nat) (t : TypeId) (hr : fn.results = #[.cell s t]) (b off : Nat) (v : Value) (hs : tmps.getD s undef = .pointer (some ⟨b, off, none⟩)) (hL : (loadVar t ⟨b, off, none⟩).run P w = .ok v w) :
    (results fn tmps).run P w = .ok v w := by
  simp only [Array.getD_eq_getD_getElem?] at hs
  simp [results, hr, hs, hL, asAddr]

/-- The same, of an operation that stands under a guard that holds. -/
theorem wpList_load_wanted (hw : Region.wanted o (yielded ops a.tmps) = true) (x : Operand) (t : TypeId) (ho : o.op = .load t x) (b off : Nat) (c : List Value) (hx : a.eval x = .pointer (some ⟨b, off, none⟩)) (hagg : ∀ w, (isAgg t).run P w = .ok true w) (hsz : ∀ w, (sizeOf t).run P w = .ok c.length w)
    (hc : ∀ j v, c[j]? = some v → w.cell? ⟨b, off + j, none⟩ = some v) (h : wpList P ops Q rest (a.put o.dst (.agg c.toArray)) w) : wpList P ops Q (o :: rest) a w := by
  refine wpList_step fun K hK => ?_
  rw [if_pos hw]
  have hrun := run_loadVar_whole (P := P) (w := w) t b off c hagg hsz hc
  unfold Oper.wp
  simp [execOp, ho, hx, Instr.loadAt, Instr.sureAddr, hrun, Result.andThen]
  exact hK _ _ h

theorem Holds.set {b : Nat} {c : List Value} (h : Holds w b c) (k : Nat) (v : Value) : Holds (w.setCell ⟨b, k, none⟩ v) b (c.set k v) := fun j u hu => by
  rw [List.getElem?_set] at hu
  by_cases e : k = j
  · subst e
    by_cases l : k < c.length
    · simp [l] at hu
      subst hu
      have := h k _ (List.getElem?_eq_getElem l)
      simp only [Nat.zero_add] at this ⊢
      exact World.cell?_setCell_same _ _ _ this
    · simp [l] at hu
  · rw [if_neg e] at hu
    rw [World.cell?_setCell_other (h := by intro x; injection x with _ x _; omega)]
    exact h j u hu
theorem Holds.far {b b' o : Nat} {c : List Value} (h : Holds w b c) (hne : b' ≠ b) (v : Value) : Holds (w.setCell ⟨b', o, none⟩ v) b c := fun j u hu => by
  rw [World.cell?_setCell_far _ _ _ _ hne]; exact h j u hu
theorem Holds.drew {b : Nat} {c : List Value} (h : Holds w b c) : Holds w.drew b c := fun j u hu => by
  have := h j u hu
  simpa [go_sem] using this
theorem Holds.drewN {b : Nat} {c : List Value} (h : Holds w b c) (n : Nat) : Holds (w.drewN n) b c := fun j u hu => by
  have := h j u hu
  simpa [go_sem] using this
end

end Go.Proofs.Ytjhpbemnklpefaa

namespace Go.Proofs.Ytjhpbemnklpefaa

section
variable {P : Program} {w : World} {ops : Array Oper} {rest : List Oper} {a : Act} {Q : Exit → Act → World → Prop} {d : Option Tmp} {ty : TypeId} {pos : String} {af : Array Edge} {g : Option (Tmp × Bool)}
theorem at_load (t : TypeId) (x : Operand) (h : wpList P ops Q (⟨d, .load t x, ty, pos, af, g⟩ :: rest) a w) : wpList P ops Q (⟨d, .load t x, ty, pos, af, g⟩ :: rest) a w := h
theorem at_store (t : TypeId) (x v : Operand) (h : wpList P ops Q (⟨d, .store t x v, ty, pos, af, g⟩ :: rest) a w) : wpList P ops Q (⟨d, .store t x v, ty, pos, af, g⟩ :: rest) a w := h
theorem at_op (o : Op) (h : wpList P ops Q (⟨d, o, ty, pos, af, g⟩ :: rest) a w) : wpList P ops Q (⟨d, o, ty, pos, af, g⟩ :: rest) a w := h
end

end Go.Proofs.Ytjhpbemnklpefaa

namespace Go.Proofs.Ytjhpbemnklpefaa
open Go.RowKit

section
variable {P : Program} {ops : Array Oper} {md : Region.Mode} {C : World → Prop}

/-- f operations of the head come up, whatever the order; then L holds. -/
def HeadQ (P : Program) (md : Region.Mode) (ops : Array Oper) (C : World → Prop) (n : Nat) (L : Array Bool → Act → Prop) : Nat → Array Bool → Act → Prop
  | 0, done, a => L done a
  | f + 1, done, a => Region.ready md ops done ≠ [] ∧ ∀ i ∈ Region.ready md ops done, i < n ∧ qOp P ops C i (HeadQ P md ops C n L f (done.setIfInBounds i true)) a

theorem HeadQ.any {n g : Nat} {L : Array Bool → Act → Prop} {Q' : Exit → Act → World → Prop} (hL : ∀ done a w, C w → L done a → wpAny P md ops Q' g done a w) :
    ∀ (f : Nat) (done : Array Bool) (a : Act) (w : World), C w → HeadQ P md ops C n L f done a → wpAny P md ops Q' (f + g) done a w := by
  intro f
  induction f with
  | zero =>
    intro done a w hw h
    rw [Nat.zero_add]
    exact hL _ _ _ hw h
  | succ f ih =>
    intro done a w hw h
    rw [Nat.succ_add]
    refine ⟨fun e => absurd e h.1, fun i hi => wpOp_of_qOp hw (fun a' w' hw' h' => ih _ a' w' hw' h') (h.2 i hi).2⟩

theorem HeadQ.take {n i : Nat} {oi : Oper} {v : Value} {L : Array Bool → Act → Prop} (hi : ops[i]? = some oi) (hsel : Region.noSelect ops = true)
    (hs : Region.sinkB md ops n = true) (hc : Region.chainB md ops n = true) (hn : n < ops.size) (hin : i < n) (hend : ∀ done a, L done a → ∀ j ∈ Region.ready md ops done, n ≤ j) :
    ∀ (f : Nat) (done : Array Bool) (a : Act), HeadInv md ops n done →
      (∀ j oj, ops[j]? = some oj → j ≠ i → done.getD j true = false → (∀ e ∈ oj.after, Region.binds md e = true → e.on ≠ i) → oi.apart ops oj = true) →
      i ∈ Region.ready md ops done → YieldsIn P ops C oi v a → HeadQ P md ops C n L f (done.setIfInBounds i true) (a.put oi.dst v) → HeadQ P md ops C n L (f + 1) done a := by
  have sel := fun j o cs b (h : ops[j]? = some o) => Region.noSelect_spec hsel j o cs b h
  intro f
  induction f with
  | zero =>
    intro done a inv _ hr hy H
    refine ⟨List.ne_nil_of_mem hr, fun j hj => ?_⟩
    have hjn : j < n := Nat.lt_of_not_le fun x => tail_waits hs hc hn inv _ i rfl hin (mem_ready.1 hr).1 j x hj
    refine ⟨hjn, ?_⟩
    by_cases e : j = i
    · subst e; exact hy.qOp hi H
    · exact absurd (hend _ _ H j (ready_mono hj e)) (by omega)
  | succ f ih =>
    intro done a inv hfree hr hy H
    refine ⟨List.ne_nil_of_mem hr, fun j hj => ?_⟩
    have hun := (mem_ready.1 hr).1
    have hjn : j < n := Nat.lt_of_not_le fun x => tail_waits hs hc hn inv _ i rfl hin hun j x hj
    refine ⟨hjn, ?_⟩
    by_cases e : j = i
    · subst e; exact hy.qOp hi H
    · obtain ⟨hjun, oj, hoj, hall⟩ := mem_ready.1 hj
      have hnot : ∀ x ∈ oj.after, Region.binds md x = true → x.on ≠ i := fun x hx hb he => by
        have := hall x hx hb
        rw [he, getD_both hun] at this
        exact absurd this (by simp)
      have hq := qOp_put hoj (hfree j oj hoj e hjun hnot) (fun cs b => sel i oi cs b hi) (fun cs b => sel j oj cs b hoj) hy (H.2 j (ready_mono hj e)).2
      refine qOp_mono (fun a' h3 => ih _ a' (inv.set hj hjn) (fun k ok hk hki hku hno => ?_) (ready_mono hr (Ne.symm e)) h3.1 (by rw [Array.setIfInBounds_comm _ _ e]; exact h3.2)) hq
      refine hfree k ok hk hki ?_ hno
      by_cases hjk : j = k
      · subst hjk; exact hjun
      · rwa [getD_set_ne true hjk] at hku

theorem HeadQ.lex {n g : Nat} {Lq : Act → Prop} (hsel : Region.noSelect ops = true) (hs : Region.sinkB md ops n = true) (hc : Region.chainB md ops n = true) (hn : n < ops.size) :
    ∀ (l : List Oper) (k : Nat) (done : Array Bool) (a : Act), (∀ j, j < l.length → l[j]? = ops[k + j]?) → k + l.length = n → HeadInv md ops n done →
      Region.lexHead md ops g l.length k done = true → wpQuiet P ops C Lq l a → HeadQ P md ops C n (fun done' a' => Region.seqB md ops g n done' = true ∧ Lq a') l.length done a := by
  intro l
  induction l with
  | nil =>
    intro k done a _ hk _ hB h
    obtain rfl : k = n := by simpa using hk
    exact ⟨by simpa [Region.lexHead] using hB, h⟩
  | cons o l ih =>
    intro k done a hl hk inv hB h
    have h0 : ops[k]? = some o := by simpa using (hl 0 (by simp)).symm
    simp only [List.length_cons, Region.lexHead, Bool.and_eq_true] at hB
    obtain ⟨⟨hr, hf⟩, hB'⟩ := hB
    have hkn : k < n := by simp only [List.length_cons] at hk; omega
    have hr' : k ∈ Region.ready md ops done := by simpa using hr
    have hq : qOp P ops C k (wpQuiet P ops C Lq l) a := by unfold qOp; simp only [h0]; exact h
    obtain ⟨v, hy, hK⟩ := yieldsIn_of_qOp h0 hq
    refine HeadQ.take h0 hsel hs hc hn hkn (fun done' a' hL => seqB_ready hL.1) l.length done a inv (Region.free_spec h0 hf) hr' hy
      (ih (k + 1) _ _ (fun j hj => ?_) (by simp only [List.length_cons] at hk; omega) (inv.set hr' hkn) hB' hK)
    have := hl (j + 1) (by simp; omega)
    simpa [Nat.add_assoc, Nat.add_comm 1 j] using this

theorem wp_region_quiet_tail {id : Nat} {Q : Exit → Act → World → Prop} {a : Act} {w : World} {l : List Oper} (n : Nat) (hm : P.follows .mixedOrders = true) (hB : Region.lexTailB .any l.toArray n = true)
    (h : wpQuiet P l.toArray (fun w' => ∃ p : Regrown, w' = Go.Sort.grow (redrawn w p.d) p.os) (fun a' => ∀ w', (∃ p : Regrown, w' = Go.Sort.grow (redrawn w p.d) p.os) → wpList P l.toArray Q (l.drop n) a' w') (l.take n) a) :
    (Code.region id l.toArray true).wp P Q a w := by
  simp only [Region.lexTailB, Bool.and_eq_true, decide_eq_true_eq] at hB
  obtain ⟨⟨⟨⟨hsel, hn⟩, hs⟩, hc⟩, hlex⟩ := hB
  have hn' : n < l.length := by simpa using hn
  have htl : (l.take n).length = n := by simp; omega
  have hdl : (l.drop n).length = l.toArray.size - n := by simp
  have inv0 : HeadInv .any l.toArray n (Array.replicate l.toArray.size false) :=
    ⟨by simp, fun j oj _ hl => absurd hl (by rw [getD_replicate_false]; simp), fun t _ ht => getD_in (by simpa using ht) (getD_replicate_false _ _)⟩
  have H := HeadQ.lex (md := .any) (g := l.toArray.size - n) hsel hs hc hn (l.take n) 0 _ a (fun j hj => by
    have hj' : j < n := by rw [htl] at hj; exact hj
    simp [hj']) (by simpa using htl) inv0 (by rw [htl]; exact hlex) h
  refine wp_region_any hm ?_
  have := HeadQ.any (Q' := Q) (g := l.toArray.size - n) (fun done a' w' hw hL => by
    have := wpAny_of_seq (md := .any) (Q' := Q) (l.drop n) n done a' w' (fun j => by simp [List.getElem?_drop]) (by rw [hdl]; exact hL.1) (hL.2 w' hw)
    rwa [hdl] at this) _ _ _ { w with drawn := w.drawn + 1 } ⟨⟨w.drawn + 1, #[]⟩, by rw [Go.Sort.grow_empty]; rfl⟩ H
  rw [htl, show n + (l.toArray.size - n) = l.toArray.size by omega] at this
  exact this
end

/-- The world under a name. -/
theorem wp_world {P : Program} {c : Code} {Q : Exit → Act → World → Prop} {a : Act} {w : World} (h : ∀ W, W = w → c.wp P Q a W) : c.wp P Q a w := h w rfl

end Go.Proofs.Ytjhpbemnklpefaa

namespace Go.Proofs.Ytjhpbemnklpefaa
open Go.RowKit Go.Lib

section
variable {P : Program} {ops : Array Oper} {o : Oper} {a : Act} {w : World} {K : Act → World → Prop} {Q : Exit → Act → World → Prop} {E : Prop}
theorem step_load_whole (hgd : o.guard = none) (x : Operand) (t : TypeId) (ho : o.op = .load t x) (b off : Nat) (c : List Value) (hx : a.eval x = .pointer (some ⟨b, off, none⟩)) (hagg : ∀ w, (isAgg t).run P w = .ok true w) (hsz : ∀ w, (sizeOf t).run P w = .ok c.length w)
    (hc : ∀ j v, c[j]? = some v → w.cell? ⟨b, off + j, none⟩ = some v) (h : K (a.put o.dst (.agg c.toArray)) w) : if Region.wanted o (yielded ops a.tmps) = true then Oper.wp P o a w K Q else E := by
  have hw : Region.wanted o (yielded ops a.tmps) = true := by simp [Region.wanted, hgd]
  rw [if_pos hw]
  have hrun := run_loadVar_whole (P := P) (w := w) t b off c hagg hsz hc
  unfold Oper.wp
  simp [execOp, ho, hx, Instr.loadAt, Instr.sureAddr, hrun, Result.andThen]
  exact h
theorem step_store_whole (hgd : o.guard = none) (x v : Operand) (t : TypeId) (ho : o.op = .store t x v) (b off : Nat) (c : List Value) (hx : a.eval x = .pointer (some ⟨b, off, none⟩)) (hv : a.eval v = .agg c.toArray) (hsz : ∀ w, (sizeOf t).run P w = .ok c.length w)
    (hc : ∀ j, j < c.length → (w.cell? ⟨b, off + j, none⟩).isSome = true) (hf : ∀ j, j < c.length → w.frozen? ⟨b, off + j, none⟩ = false) (h1 : ∀ v ∈ c, v.oneCell' = true)
    (h : ∀ w', Wrote b off c w w' → K (a.put o.dst undef) w') : if Region.wanted o (yielded ops a.tmps) = true then Oper.wp P o a w K Q else E := by
  have hw : Region.wanted o (yielded ops a.tmps) = true := by simp [Region.wanted, hgd]
  rw [if_pos hw]
  have hrun := run_storeVar_whole (P := P) (w := w) t b off c hsz hc hf h1
  unfold Oper.wp
  simp [execOp, ho, hx, hv, Instr.storeAt, Instr.sureAddr, hrun, Result.andThen]
  exact h _ (wrote_setCells b off c w hc)
theorem yieldsIf_load_whole {S : World → Prop} (hgd : o.guard = none) (x : Operand) (t : TypeId) (ho : o.op = .load t x) (b : Nat) (c : List Value) (hx : a.eval x = .pointer (some ⟨b, 0, none⟩)) (hagg : ∀ w, (isAgg t).run P w = .ok true w) (hsz : ∀ w, (sizeOf t).run P w = .ok c.length w)
    (hS : ∀ w, S w → Holds w b c) : YieldsIf P ops S o (.agg c.toArray) a :=
  .inl ⟨by simp [Region.wanted, hgd], fun w hw => by
    have hrun := run_loadVar_whole (P := P) (w := w) t b 0 c hagg hsz (hS w hw)
    simp [execOp, ho, hx, Instr.loadAt, Instr.sureAddr, hrun, Result.andThen]⟩
end

end Go.Proofs.Ytjhpbemnklpefaa

namespace Go.Proofs.Ytjhpbemnklpefaa
open Go.RowKit Go.Lib

section
variable {P : Program} {ops : Array Oper} {rest : List Oper} {o : Oper} {a : Act} {C : World → Prop} {Lq : Act → Prop}
theorem wpQuiet_load_whole (hgd : o.guard = none) (x : Operand) (t : TypeId) (ho : o.op = .load t x) (b off : Nat) (c : List Value) (hx : a.eval x = .pointer (some ⟨b, off, none⟩)) (hagg : ∀ w, (isAgg t).run P w = .ok true w) (hsz : ∀ w, (sizeOf t).run P w = .ok c.length w)
    (hc : ∀ w, C w → ∀ j v, c[j]? = some v → w.cell? ⟨b, off + j, none⟩ = some v) (h : wpQuiet P ops C Lq rest (a.put o.dst (.agg c.toArray))) : wpQuiet P ops C Lq (o :: rest) a := by
  refine wpQuiet_step fun K hK => ?_
  rw [if_pos (by simp [Region.wanted, hgd])]
  refine ⟨.agg c.toArray, fun w hw => ?_, hK _ h⟩
  have hrun := run_loadVar_whole (P := P) (w := w) t b off c hagg hsz (hc w hw)
  unfold Oper.quietAt
  simp [execOp, ho, hx, Instr.loadAt, Instr.sureAddr, hrun, Result.andThen, Oper.quietUpon]
theorem wpQuiet_load_wanted (hw : Region.wanted o (yielded ops a.tmps) = true) (x : Operand) (t : TypeId) (ho : o.op = .load t x) (b off : Nat) (c : List Value) (hx : a.eval x = .pointer (some ⟨b, off, none⟩)) (hagg : ∀ w, (isAgg t).run P w = .ok true w) (hsz : ∀ w, (sizeOf t).run P w = .ok c.length w)
    (hc : ∀ w, C w → ∀ j v, c[j]? = some v → w.cell? ⟨b, off + j, none⟩ = some v) (h : wpQuiet P ops C Lq rest (a.put o.dst (.agg c.toArray))) : wpQuiet P ops C Lq (o :: rest) a := by
  refine wpQuiet_step fun K hK => ?_
  rw [if_pos hw]
  refine ⟨.agg c.toArray, fun w hw => ?_, hK _ h⟩
  have hrun := run_loadVar_whole (P := P) (w := w) t b off c hagg hsz (hc w hw)
  unfold Oper.quietAt
  simp [execOp, ho, hx, Instr.loadAt, Instr.sureAddr, hrun, Result.andThen, Oper.quietUpon]
theorem at_qload {d : Option Tmp} {ty : TypeId} {pos : String} {af : Array Edge} {g : Option (Tmp × Bool)} (t : TypeId) (x : Operand) (h : wpQuiet P ops C Lq (⟨d, .load t x, ty, pos, af, g⟩ :: rest) a) : wpQuiet P ops C Lq (⟨d, .load t x, ty, pos, af, g⟩ :: rest) a := h
theorem holds_regrown {w : World} {b : Nat} {c : List Value} (h : Holds w b c) : ∀ w', (∃ p : Regrown, w' = Go.Sort.grow (redrawn w p.d) p.os) → ∀ j v, c[j]? = some v → w'.cell? ⟨b, 0 + j, none⟩ = some v := by
  rintro w' ⟨p, rfl⟩ j v hv
  exact cell_regrown (h j v hv) p.d p.os
end

end Go.Proofs.Ytjhpbemnklpefaa

namespace Go.Proofs.Ytjhpbemnklpefaa
open Go.RowKit

section
variable {P : Program} {ops : Array Oper} {Q : Exit → Act → World → Prop} {md : Region.Mode} {C : World → Prop} {s : Nat}

/-- Whatever order is picked from here on, and C holds behind every operation but number s. -/
def wpAnyG (P : Program) (md : Region.Mode) (ops : Array Oper) (Q : Exit → Act → World → Prop) (C : World → Prop) (s : Nat) : Nat → Array Bool → Act → World → Prop
  | 0, listed, a, w => Region.ready md ops listed = [] ∧ Q .normal a w
  | fuel + 1, listed, a, w =>
    (Region.ready md ops listed = [] → Q .normal a w) ∧
    ∀ i ∈ Region.ready md ops listed, wpOp P ops Q i (fun a' w' => (i ≠ s → C w') ∧ wpAnyG P md ops Q C s fuel (listed.setIfInBounds i true) a' w') a w

theorem wpAny_of_flag : ∀ (fuel : Nat) (listed : Array Bool) (a : Act) (w : World), wpAnyG P md ops Q C s fuel listed a w → wpAny P md ops Q fuel listed a w
  | 0, _, _, _, h => h
  | fuel + 1, _, _, _, h => ⟨h.1, fun i hi => wpOp_mono (fun a' w' h' => wpAny_of_flag fuel _ a' w' h'.2) (h.2 i hi)⟩

/-- Number s waits for number i. -/
def waitsB (md : Region.Mode) (ops : Array Oper) (s i : Nat) : Bool := match ops[s]? with | some o => o.after.any fun e => Region.binds md e && e.on == i | none => false

theorem not_ready {i : Nat} {listed : Array Bool} (hw : waitsB md ops s i = true) (hi : i ∈ Region.ready md ops listed) : ¬ s ∈ Region.ready md ops listed := by
  intro h
  obtain ⟨_, os, hos, hall⟩ := mem_ready.1 h
  unfold waitsB at hw
  rw [hos] at hw
  simp only [Array.any_eq_true, Bool.and_eq_true, beq_iff_eq] at hw
  obtain ⟨k, hk, hb, he⟩ := hw
  have h1 := hall _ (Array.getElem_mem hk) hb
  have h0 := (mem_ready.1 hi).1
  rw [he] at h1
  rcases Nat.lt_or_ge i listed.size with h' | h'
  · simp [h'] at h0 h1; rw [h0] at h1; cases h1
  · simp [Array.getElem?_eq_none h'] at h1

theorem wpAnyG_first {i : Nat} {oi : Oper} {v : Value} (hi : ops[i]? = some oi) (hsel : ∀ (j : Nat) (o : Oper) cs b, ops[j]? = some o → o.op ≠ .select cs b)
    (hQ : ∀ c a w, Q (.panic c) (a.put oi.dst v) w → Q (.panic c) a w) (hws : waitsB md ops s i = true) :
    ∀ (fuel : Nat) (listed : Array Bool) (a : Act) (w : World),
      (∀ j oj, ops[j]? = some oj → j ≠ i → listed.getD j true = false → (∀ e ∈ oj.after, Region.binds md e = true → e.on ≠ i) → oi.apart ops oj = true) →
      i ∈ Region.ready md ops listed → YieldsIf P ops C oi v a → C w →
      wpAnyG P md ops Q C s fuel (listed.setIfInBounds i true) (a.put oi.dst v) w → wpAnyG P md ops Q C s (fuel + 1) listed a w := by
  intro fuel
  induction fuel with
  | zero =>
    intro listed a w _ hr hy hS H
    refine ⟨fun h => (by rw [h] at hr; cases hr), fun j hj => ?_⟩
    by_cases hji : j = i
    · subst hji; exact hy.wpOp hi hS ⟨fun _ => hS, H⟩
    · have := ready_mono hj hji
      rw [H.1] at this
      cases this
  | succ fuel ih =>
    intro listed a w hfree hr hy hS H
    refine ⟨fun h => (by rw [h] at hr; cases hr), fun j hj => ?_⟩
    by_cases hji : j = i
    · subst hji; exact hy.wpOp hi hS ⟨fun _ => hS, H⟩
    · have hjs : j ≠ s := fun e => not_ready hws hr (e ▸ hj)
      have h1 := H.2 j (ready_mono hj hji)
      obtain ⟨hjun, oj, hoj, hall⟩ := mem_ready.1 hj
      have hnot : ∀ e ∈ oj.after, Region.binds md e = true → e.on ≠ i := fun e he hb heq => by
        have h1 := hall e he hb
        have h0 := (mem_ready.1 hr).1
        rw [heq] at h1
        rcases Nat.lt_or_ge i listed.size with h' | h'
        · simp [h'] at h0 h1; rw [h0] at h1; cases h1
        · simp [Array.getElem?_eq_none h'] at h1
      have h2 := wpOp_putIf hoj (hfree j oj hoj hji hjun hnot) (fun cs b => hsel i oi cs b hi) (fun cs b => hsel j oj cs b hoj) hQ hy h1
      have hfree' : ∀ k ok, ops[k]? = some ok → k ≠ i → (listed.setIfInBounds j true).getD k true = false →
          (∀ e ∈ ok.after, Region.binds md e = true → e.on ≠ i) → oi.apart ops ok = true := fun k ok hk hki hun hno => by
        refine hfree k ok hk hki ?_ hno
        by_cases hjk : j = k
        · subst hjk; exact hjun
        · rw [getD_set_ne true hjk] at hun; exact hun
      refine wpOp_mono (fun a' w' h3 => ⟨h3.2.1, ih (listed.setIfInBounds j true) a' w' hfree' (ready_mono hr (Ne.symm hji)) h3.1 (h3.2.1 hjs) ?_⟩) h2
      rw [Array.setIfInBounds_comm _ _ hji]
      exact h3.2.2

/-- Operations that read at most. -/
def readsB : Op → Bool
  | .move _ | .assign _ | .build .. | .load .. | .nilCheck _ | .binOp .. | .unOp .. | .convert .. | .fieldAddr .. | .field .. | .indexAddr .. | .index .. | .extract .. | .slice .. => true
  | _ => false

theorem yields_of_quiet {o : Oper} {v : Value} {a : Act} (hp : readsB o.op = true) (hw : Region.wanted o (yielded ops a.tmps) = true) (h : ∀ w, C w → o.quietAt P a C w v) : YieldsIf P ops C o v a := by
  refine Or.inl ⟨hw, fun w hc => ?_⟩
  have h1 := h w hc
  unfold Oper.quietAt at h1
  have key : ∀ x : Sem Value, execOp a.eval o = (x >>= fun u => pure (Next.value u)) → (execOp a.eval o).run P w = .ok (.value v) w := by
    intro x hx
    rw [hx] at h1 ⊢
    simp only [Sem.run_bind] at h1 ⊢
    generalize x.run P w = r at h1 ⊢
    cases r with
    | ok x w' =>
      simp only [Result.andThen, Sem.run_pure, Oper.quietUpon] at h1 ⊢
      obtain ⟨rfl, rfl⟩ := h1
      rfl
    | halt x w' => simp [Result.andThen, Oper.quietUpon] at h1
  cases ho : o.op <;> simp only [ho, readsB, Bool.false_eq_true] at hp
  case move x =>
    simp only [execOp, ho, Sem.run_pure, Oper.quietUpon] at h1 ⊢
    rw [h1.2]
  case assign x =>
    simp only [execOp, ho, Sem.run_pure, Oper.quietUpon] at h1 ⊢
    rw [h1.2]
  case nilCheck x =>
    simp only [execOp, ho] at h1 ⊢
    split at h1
    · simp [runtimePanic, Oper.quietUpon] at h1
    · simp [runtimePanic, Oper.quietUpon] at h1
    · simp [runtimePanic, Oper.quietUpon] at h1
    · split at h1
      · simp [runtimePanic, Oper.quietUpon] at h1
      · simp only [Sem.run_bind] at h1 ⊢
        generalize program.run P w = r at h1 ⊢
        cases r with
        | halt x w' => simp [Result.andThen, Oper.quietUpon] at h1
        | ok q w' =>
          simp only [Result.andThen] at h1 ⊢
          generalize (nilAhead _ _ _ _).run P w' = r at h1 ⊢
          cases r with
          | halt x w' => simp [Oper.quietUpon] at h1
          | ok b w'' =>
            simp only at h1 ⊢
            split at h1
            · simp [unsupported, Oper.quietUpon] at h1
            · rename_i hb
              rw [if_neg hb]
              simp only [Sem.run_pure, Oper.quietUpon] at h1 ⊢
              rw [h1.1, h1.2]
      · simp only [Sem.run_pure, Oper.quietUpon] at h1 ⊢
        rw [h1.2]
    · simp only [Sem.run_pure, Oper.quietUpon] at h1 ⊢
      rw [h1.2]
  all_goals exact key _ (by simp only [execOp, ho]; rfl)

/-- A nil check of a pointer. -/
theorem yields_of_nilCheck {o : Oper} {v : Value} {a : Act} {x : Operand} {p : Addr} (ho : o.op = .nilCheck x) (hx : a.eval x = .pointer (some p)) (hw : Region.wanted o (yielded ops a.tmps) = true) (hv : v = .pointer (some p)) : YieldsIf P ops C o v a :=
  Or.inl ⟨hw, fun w _ => by simp [execOp, ho, hx, hv]⟩

/-- Carried out in the text's order; C holds behind each but the last. -/
def tailG (P : Program) (Q : Exit → Act → World → Prop) (C : World → Prop) : List Oper → Act → World → Prop
  | [], a, w => Q .normal a w
  | o :: r, a, w => o.wp P a w (fun a' w' => (r ≠ [] → C w') ∧ tailG P Q C r a' w') Q

theorem tail_spec : ∀ (l : List Oper) (k : Nat) (listed : Array Bool) (a : Act) (w : World), (∀ j : Nat, l[j]? = ops[k + j]?) → (l.all fun o => o.guard.isNone) = true → s = k + l.length - 1 → Region.seqB md ops l.length k listed = true → tailG P Q C l a w → wpAnyG P md ops Q C s l.length listed a w
  | [], k, listed, a, w, _, _, _, hB, h => by
    simp only [List.length_nil, Region.seqB, List.isEmpty_iff] at hB
    exact ⟨hB, h⟩
  | o :: r, k, listed, a, w, hl, hg, hs, hB, h => by
    have h0 : ops[k]? = some o := by simpa using (hl 0).symm
    simp only [List.length_cons, Region.seqB, Bool.and_eq_true, decide_eq_true_eq] at hB
    simp only [List.all_cons, Bool.and_eq_true, Option.isNone_iff_eq_none] at hg
    refine ⟨fun h1 => (by rw [hB.1] at h1; cases h1), fun i hi => ?_⟩
    rw [hB.1] at hi
    have hik : i = k := by simpa using hi
    subst hik
    have hw : wpOp P ops Q i (fun a' w' => (r ≠ [] → C w') ∧ tailG P Q C r a' w') a w := by
      unfold wpOp
      simp only [h0]
      rw [if_pos (by simp [Region.wanted, hg.1])]
      exact Or.inl h
    refine wpOp_mono (fun a' w' h' => ⟨fun hne => h'.1 (fun e => hne ?_), tail_spec r (i + 1) _ a' w' (fun j => by have := hl (j + 1); simpa [Nat.add_assoc, Nat.add_comm 1 j] using this) hg.2 (by simp only [List.length_cons] at hs; omega) hB.2 h'.2⟩) hw
    subst e
    simpa using hs.symm

theorem flag_lex {n g : Nat} {Lq : Act → Prop} (hsel : Region.noSelect ops = true) (hQ : ∀ c a w, ¬ Q (.panic c) a w) {w : World} (hC : C w) (hL : ∀ listed a, Region.seqB md ops g n listed = true → Lq a → wpAnyG P md ops Q C s g listed a w) :
    ∀ (l : List Oper) (k : Nat) (listed : Array Bool) (a : Act), (∀ j, j < l.length → l[j]? = ops[k + j]?) → k + l.length = n → (l.all fun o => o.guard.isNone && readsB o.op) = true → (∀ i, i < n → waitsB md ops s i = true) →
      Region.lexHead md ops g l.length k listed = true → wpQuiet P ops C Lq l a → wpAnyG P md ops Q C s (l.length + g) listed a w
  | [], k, listed, a, _, hk, _, _, hB, h => by
    have : k = n := by simpa using hk
    subst this
    have := hL listed a (by simpa [Region.lexHead] using hB) h
    simpa using this
  | o :: l, k, listed, a, hl, hk, hp, hw, hB, h => by
    have h0 : ops[k]? = some o := by simpa using (hl 0 (by simp)).symm
    simp only [List.length_cons, Region.lexHead, Bool.and_eq_true] at hB
    obtain ⟨⟨hr, hf⟩, hB'⟩ := hB
    simp only [List.all_cons, Bool.and_eq_true, Option.isNone_iff_eq_none] at hp
    have hwant : Region.wanted o (yielded ops a.tmps) = true := by simp [Region.wanted, hp.1.1]
    unfold wpQuiet at h
    rw [if_pos hwant] at h
    obtain ⟨v, hv, hK⟩ := h
    rw [List.length_cons, Nat.succ_add]
    refine wpAnyG_first h0 (Region.noSelect_spec hsel) (fun c a w h => absurd h (hQ _ _ _)) (hw k (by simp only [List.length_cons] at hk; omega)) _ _ _ _ (Region.free_spec h0 hf) (by simpa using hr) (yields_of_quiet hp.1.2 hwant hv) hC ?_
    exact flag_lex hsel hQ hC hL l (k + 1) _ _ (fun j hj => by have := hl (j + 1) (by simp; omega); simpa [Nat.add_assoc, Nat.add_comm 1 j] using this) (by simp only [List.length_cons] at hk; omega) hp.2 hw hB' hK

def flagB (md : Region.Mode) (l : List Oper) (n : Nat) : Bool :=
  Region.noSelect l.toArray && decide (n < l.length) && Region.lexHead md l.toArray (l.length - n) n 0 (Array.replicate l.length false) && ((l.take n).all fun o => o.guard.isNone && readsB o.op) && ((l.drop n).all fun o => o.guard.isNone) && (List.range n).all fun i => waitsB md l.toArray (l.length - 1) i

theorem wp_region_flag {id : Nat} {a : Act} {w : World} {l : List Oper} (n : Nat) (hm : P.follows .mixedOrders = true) (hB : flagB .any l n = true) (C : World → Prop) (hC : C { w with drawn := w.drawn + 1 })
    (h : wpQuiet P l.toArray C (fun a' => tailG P (NoPanic Q) C (l.drop n) a' { w with drawn := w.drawn + 1 }) (l.take n) a) : (Code.region id l.toArray true).wp P Q a w := by
  refine wp_region_noPanic (wp_region_any hm (wpAny_of_flag (C := C) (s := l.length - 1) _ _ _ _ ?_))
  simp only [flagB, Bool.and_eq_true, decide_eq_true_eq, List.all_eq_true, List.mem_range] at hB
  obtain ⟨⟨⟨⟨⟨h1, h2⟩, h3⟩, h4⟩, h5⟩, h6⟩ := hB
  have ht : (l.take n).length = n := by simp; omega
  have hd : (l.drop n).length = l.length - n := by simp
  have := flag_lex (Q := NoPanic Q) (g := l.length - n) h1 (fun c a w h => h) hC (fun listed a' hs hL => by
    have := tail_spec (P := P) (Q := NoPanic Q) (C := C) (md := .any) (ops := l.toArray) (s := l.length - 1) (l.drop n) n listed a' _ (fun j => by simp [List.getElem?_drop]) (by simpa [List.all_eq_true] using h5) (by rw [hd]; omega) (by rw [hd]; exact hs) hL
    rw [hd] at this
    exact this) (l.take n) 0 (Array.replicate l.length false) a (fun j hj => by
      have hj' : j < n := by rw [ht] at hj; exact hj
      simp [hj']) (by rw [ht]; omega) (by simpa [List.all_eq_true] using h4) (fun i hi => h6 i hi) (by rw [ht]; exact h3) h
  rw [ht, show n + (l.length - n) = l.length by omega] at this
  simpa using this

/-- One cell read inside a region that draws its order. -/
theorem wpQuiet_load_one {rest : List Oper} {o : Oper} {a : Act} {Lq : Act → Prop} (hgd : o.guard = none) (x : Operand) (t : TypeId) (ho : o.op = .load t x) (ad : Addr) (v : Value) (hx : a.eval x = .pointer (some ad)) (hagg : ∀ w, (isAgg t).run P w = .ok false w)
    (hc : ∀ w, C w → w.cell? ad = some v) (h : wpQuiet P ops C Lq rest (a.put o.dst v)) : wpQuiet P ops C Lq (o :: rest) a := by
  refine wpQuiet_step fun K hK => ?_
  rw [if_pos (by simp [Region.wanted, hgd])]
  refine ⟨v, fun w hw => ?_, hK _ h⟩
  have hcw := hc w hw
  have hrun : (loadVar t ad).run P w = .ok v w := by simp [loadVar, hagg, Result.andThen, go_sem, hcw]
  unfold Oper.quietAt
  simp [execOp, ho, hx, Instr.loadAt, Instr.sureAddr, hrun, Result.andThen, Oper.quietUpon]

theorem wp_of_run {o : Oper} {a : Act} {w w' : World} {K : Act → World → Prop} {v : Value} (h : (execOp a.eval o).run P w = .ok (.value v) w') (hK : K (a.put o.dst v) w') : o.wp P a w K Q := by
  unfold Oper.wp
  rw [h]
  exact hK
theorem wp_of_skip {o : Oper} {a : Act} {w w' : World} {K : Act → World → Prop} (h : (execOp a.eval o).run P w = .ok .skip w') (hK : K (a.put o.dst undef) w') : o.wp P a w K Q := by
  unfold Oper.wp
  rw [h]
  exact hK
end

end Go.Proofs.Ytjhpbemnklpefaa
