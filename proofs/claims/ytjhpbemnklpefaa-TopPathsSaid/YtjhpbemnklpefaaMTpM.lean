/-
  (path.search).least: what holds between the steps. No conditions.
-/
import Derived.Deep.CutRange
import Derived.Deep.DeepCutAuto
import Derived.Test.YtjhpbemnklpefaaMPl
import Derived.Test.YtjhpbemnklpefaaMTpE
import Derived.Test.YtjhpbemnklpefaaMRow
import Derived.Test.YtjhpbemnklpefaaMFlagL
namespace Go.Proofs.Ytjhpbemnklpefaa
open Go.RowKit Go.Lib Plain

def hV : Option Rt → Value
  | none => .slice none 0 0
  | some r => .slice (some ⟨r.b, r.o, none⟩) r.xs.length r.k
theorem hV_one (x : Option Rt) : (hV x).oneCell' = true := by cases x <;> rfl
def PL (H : Nat → Option Rt) : Bst := fun m => (H m).map Rt.xs
def hCs (H : Nat → Option Rt) : List Value := (List.range 12).map fun m => hV (H m)
theorem hCs_len (H : Nat → Option Rt) : (hCs H).length = 12 := by simp [hCs]
theorem hCs_at (H : Nat → Option Rt) {m : Nat} (h : m < 12) : (hCs H)[m]? = some (hV (H m)) := by simp [hCs, h]
theorem hCs_one (H : Nat → Option Rt) : ∀ v ∈ hCs H, v.oneCell' = true := by
  intro v hv
  obtain ⟨m, _, rfl⟩ := List.mem_map.1 hv
  exact hV_one _
theorem hCs_set (H : Nat → Option Rt) (m : Nat) (x : Option Rt) : (hCs H).set m (hV x) = hCs (upd H m x) := by
  unfold hCs
  apply List.ext_getElem?
  intro k
  rw [List.getElem?_set]
  by_cases e : m = k
  · subst e
    rw [if_pos rfl]
    by_cases h : m < 12
    · simp [h, upd]
    · simp [h]
  · rw [if_neg e]
    by_cases h : k < 12
    · simp [h, upd, Ne.symm e]
    · simp [h]
theorem PL_upd (H : Nat → Option Rt) (m : Nat) (r : Rt) : PL (upd H m (some r)) = upd (PL H) m (some r.xs) := by
  funext k
  unfold PL upd
  split <;> rfl

/-- A row of routes, and the routes. -/
structure BH (H : Nat → Option Rt) (bb : Nat) (W : World) : Prop where
  c : Holds W bb (hCs H)
  f : ∀ x, W.frozen? ⟨bb, x, none⟩ = false
  i : ∀ m r, H m = some r → r.In W
  lt : bb < W.heap.size
  k : ∀ m r, H m = some r → r.xs.length ≤ r.k
section
variable {H : Nat → Option Rt} {bb : Nat} {W W' : World}
theorem BH.keep (h : BH H bb W) (hb : Below W.heap.size W W') : BH H bb W' :=
  ⟨h.c.keep hb, fun x => by rw [hb.frozen (p := ⟨bb, x, none⟩) h.lt]; exact h.f x, fun m r e => (h.i m r e).keep hb, Nat.lt_of_lt_of_le h.lt hb.size, h.k⟩
theorem BH.cell (h : BH H bb W) {m : Nat} (hm : m < 12) : W.cell? ⟨bb, m, none⟩ = some (hV (H m)) := by
  have := h.c m _ (hCs_at H hm)
  rwa [Nat.zero_add] at this
/-- A store into another row. -/
theorem BH.far (h : BH H bb W) {nb m : Nat} {v : Value} (hne : nb ≠ bb) (hi : ∀ k r, H k = some r → r.b ≠ nb) : BH H bb (W.setCell ⟨nb, m, none⟩ v) :=
  ⟨h.c.far hne v, fun x => by rw [World.frozen?_setCell]; exact h.f x, fun k r e j hj => by rw [World.cell?_setCell_far _ _ _ _ (Ne.symm (hi k r e))]; exact h.i k r e j hj, by simpa [World.setCell] using h.lt, h.k⟩
theorem BH.set (h : BH H bb W) {m : Nat} {r : Rt} (hr : r.In W) (hi : ∀ k r, H k = some r → r.b ≠ bb) (hrb : r.b ≠ bb) (hrk : r.xs.length ≤ r.k) : BH (upd H m (some r)) bb (W.setCell ⟨bb, m, none⟩ (hV (some r))) := by
  refine ⟨?_, fun x => by rw [World.frozen?_setCell]; exact h.f x, fun k s e j hj => ?_, by simpa [World.setCell] using h.lt, fun k s e => ?_⟩
  · rw [← hCs_set]
    exact h.c.set m _
  · unfold upd at e
    split at e
    · cases e
      rw [World.cell?_setCell_far _ _ _ _ (Ne.symm hrb)]
      exact hr j hj
    · rw [World.cell?_setCell_far _ _ _ _ (Ne.symm (hi k s e))]
      exact h.i k s e j hj
  · unfold upd at e
    split at e
    · cases e
      exact hrk
    · exact h.k k s e
end
theorem agg81 : ∀ w, (isAgg 81).run Try.prog w = .ok true w := fun w => by kernel_rfl
theorem size81 (H : Nat → Option Rt) : ∀ w, (sizeOf 81).run Try.prog w = .ok (hCs H).length w := fun w => by
  rw [hCs_len]
  kernel_rfl
def z12 : List Value := List.replicate 12 (.bool false)
theorem z12_at (i : Nat) (hi : i < 12) : z12[i]? = some (.bool false) := by
  unfold z12
  rw [List.getElem?_replicate, if_pos hi]

/-- What holds all along. -/
structure LI (g : Tg) (w : World) (W : World) : Prop where
  s : SAt g w.heap.size W
  n : ∀ i, i < 12 → W.cell? ⟨w.heap.size + 1, i, none⟩ = some (.bool false)
  l : ∀ i, i < 24 → W.cell? ⟨w.heap.size + 2, i, none⟩ = some (.bool false)
  b : Below w.heap.size w W
  z : w.heap.size + 4 ≤ W.heap.size
section
variable {g : Tg} {w W W' : World}
theorem LI.keep (h : LI g w W) (hb : Below W.heap.size W W') : LI g w W' := ⟨h.s.keep hb, fun i hi => below_keep hb (h.n i hi), fun i hi => below_keep hb (h.l i hi), below_step h.b hb, Nat.le_trans h.z hb.size⟩
theorem LI.set (h : LI g w W) (hg : g.In w) {b m : Nat} {v : Value} (hb : w.heap.size + 3 ≤ b) : LI g w (W.setCell ⟨b, m, none⟩ v) := by
  have hb' : Below w.heap.size w (W.setCell ⟨b, m, none⟩ v) := h.b.setCell (p := ⟨b, m, none⟩) (by show w.heap.size ≤ b; omega) _
  exact ⟨⟨h.s.h.far (by omega) v, hg.keep hb'⟩, fun i hi => by rw [World.cell?_setCell_far _ _ _ _ (show b ≠ w.heap.size + 1 by omega)]; exact h.n i hi, fun i hi => by rw [World.cell?_setCell_far _ _ _ _ (show b ≠ w.heap.size + 2 by omega)]; exact h.l i hi, hb', by simpa [World.setCell] using h.z⟩
theorem LI.wrote (h : LI g w W) (hg : g.In w) {b : Nat} {c : List Value} (hb : w.heap.size + 3 ≤ b) (hw : Wrote b 0 c W W') : LI g w W' := by
  have hb' : Below w.heap.size w W' := hw.below _ _ (by omega) h.b
  exact ⟨⟨h.s.h.wrote hw (by omega), hg.keep hb'⟩, fun i hi => by rw [hw.far _ _ (by omega)]; exact h.n i hi, fun i hi => by rw [hw.far _ _ (by omega)]; exact h.l i hi, hb', by rw [hw.size]; exact h.z⟩
end

theorem own_rt_aux {w : World} {base q cap i : Nat} {xs : List Nat} (hn : 0 < xs.length) (h : w.ownsRow base 3 1 (.slice (some ⟨q, 0, none⟩) xs.length cap) xs.length (xs.map fun p : Nat => Value.int .i64 (p : Int))) (hi : i < xs.length) : w.cell? ⟨q, 0 + i, none⟩ = some (.int .i64 (xs.getD i 0 : Int)) := by
  rw [Nat.zero_add, h.cellAt i (by omega)]
  simp [List.getD_eq_getElem?_getD, hi]
/-- A row of ports of one's own, as a route. -/
theorem owns_rt {w : World} {base n : Nat} {v : Value} {xs : List Nat} (hl : xs.length = n) (hn : 0 < n) (h : w.ownsRow base 3 1 v n (xs.map fun p : Nat => Value.int .i64 (p : Int))) :
    ∃ r : Rt, v = hV (some r) ∧ r.xs = xs ∧ r.In w ∧ base ≤ r.b ∧ r.b < w.heap.size ∧ r.xs.length ≤ r.k := by
  subst hl
  obtain ⟨q, cap, rfl⟩ := own_form15 h hn
  refine ⟨⟨q, 0, cap, xs⟩, rfl, rfl, fun i hi => ?_, (h.lt _ rfl).1, (h.lt _ rfl).2, ?_⟩
  · exact own_rt_aux hn h hi
  · rcases h.2 with ⟨_, e⟩ | ⟨_, _, _, e, _, _, e2, _⟩
    · omega
    · cases e
      exact e2

/-- Between the rounds. -/
structure LO (g : Tg) (a : Nat) (w : World) (i : Nat) (H : Nat → Option Rt) (W : World) : Prop where
  l : LI g w W
  h : BH H (w.heap.size + 3) W
  ne : ∀ m r, H m = some r → r.b ≠ w.heap.size + 3
  bi : BI g.T a i (PL H)
  e : lst g.T a (8 - i) (PL H) = lst g.T a 8 (fun _ => none)
/-- Within a round. -/
structure LN (g : Tg) (a : Nat) (w : World) (i : Nat) (H : Nat → Option Rt) (nb : Nat) (N : Nat → Option Rt) (p : Nat) (bt : Bool) (W : World) : Prop where
  o : LO g a w i H W
  n : BH N nb W
  hne : ∀ m r, H m = some r → r.b ≠ nb
  nne : ∀ m r, N m = some r → r.b ≠ nb ∧ r.b ≠ w.heap.size + 3
  z : w.heap.size + 4 ≤ nb
  r : rnd g.T a (PL H) p = (PL N, bt)
section
variable {g : Tg} {a : Nat} {w : World} {i : Nat} {H N : Nat → Option Rt} {nb p : Nat} {bt : Bool} {W W' : World}
theorem LO.keep (h : LO g a w i H W) (hb : Below W.heap.size W W') : LO g a w i H W' := ⟨h.l.keep hb, h.h.keep hb, h.ne, h.bi, h.e⟩
theorem LN.keep (h : LN g a w i H nb N p bt W) (hb : Below W.heap.size W W') : LN g a w i H nb N p bt W' := ⟨h.o.keep hb, h.n.keep hb, h.hne, h.nne, h.z, h.r⟩
theorem LN.skip (h : LN g a w i H nb N p bt W) (hg : goes g.T a (PL H) p = false) : LN g a w i H nb N (p + 1) bt W :=
  ⟨h.o, h.n, h.hne, h.nne, h.z, by rw [rnd, h.r, rlx, if_neg (fun hc => by rw [hg] at hc; cases hc.1)]⟩
theorem LN.skip2 (h : LN g a w i H nb N p bt W) (ht : takes g.T (PL N) (g.T.to p) (newR g.T (PL H) p) = false) : LN g a w i H nb N (p + 1) bt W :=
  ⟨h.o, h.n, h.hne, h.nne, h.z, by rw [rnd, h.r, rlx, if_neg (fun hc => by have := hc.2; rw [ht] at this; cases this)]⟩
theorem LN.put (h : LN g a w i H nb N p bt W) (hgi : g.In w) {m : Nat} (hm : g.T.to p = m) (hg : goes g.T a (PL H) p = true) (ht : takes g.T (PL N) (g.T.to p) (newR g.T (PL H) p) = true) {r : Rt} (hr : r.In W) (hx : r.xs = newR g.T (PL H) p) (hrb : r.b ≠ nb) (hrb2 : r.b ≠ w.heap.size + 3) (hrk : r.xs.length ≤ r.k) :
    LN g a w i H nb (upd N m (some r)) (p + 1) true (W.setCell ⟨nb, m, none⟩ (hV (some r))) := by
  have hz := h.z
  refine ⟨⟨h.o.l.set hgi (by omega), h.o.h.far (by omega) h.hne, h.o.ne, h.o.bi, h.o.e⟩, h.n.set hr (fun k s e => (h.nne k s e).1) hrb hrk, h.hne, fun k s e => ?_, hz, ?_⟩
  · unfold upd at e
    split at e
    · cases e
      exact ⟨hrb, hrb2⟩
    · exact h.nne k s e
  · rw [rnd, h.r, rlx, if_pos ⟨hg, ht⟩, hm, PL_upd, hx]
theorem LN.pw (h : LN g a w i H nb N p bt W) (hk : OkT g.T) (hi : i < 8) (hp : p ≤ g.T.pn) : NI g.T a i (PL H) p (PL N) := by
  have := rnd_ni hk hi h.o.bi p hp
  rwa [h.r] at this
theorem LN.next (h : LN g a w i H nb N g.T.pn true W) (hgi : g.In w) (hk : OkT g.T) (hi : i < 8) (hw : Wrote (w.heap.size + 3) 0 (hCs N) W W') : LO g a w (i + 1) N W' := by
  have hz := h.z
  refine ⟨h.o.l.wrote hgi (Nat.le_refl _) hw, ⟨hw.here, fun x => by rw [hw.frozen]; exact h.o.h.f x, fun m r e j hj => ?_, by rw [hw.size]; exact h.o.h.lt, h.n.k⟩, fun m r e => (h.nne m r e).2, NI.next h.o.bi (h.pw hk hi (Nat.le_refl _)), ?_⟩
  · rw [hw.far _ _ (h.nne m r e).2]
    exact h.n.i m r e j hj
  · rw [← h.o.e, show 8 - i = (8 - (i + 1)) + 1 by omega, lst, h.r, if_pos rfl]
theorem LN.stop (h : LN g a w i H nb N g.T.pn false W) (hi : i < 8) : lst g.T a 8 (fun _ => none) = PL H := by
  rw [← h.o.e, show 8 - i = (8 - (i + 1)) + 1 by omega, lst, h.r, if_neg Bool.false_ne_true]
theorem LO.begin (h : LO g a w i H W) {nb : Nat} {cs : Array Value} (hnb : nb = W.heap.size) (hw : Wrote nb 0 (hCs H) (W.alloc (.cells cs 81)) W') : LN g a w i H nb H 0 false W' := by
  have hb : Below W.heap.size W W' := hw.below _ _ (by omega) (below_alloc (Below.refl _ _) _)
  have hz := h.l.z
  have hlt : ∀ m r, H m = some r → r.xs ≠ [] → r.b < W.heap.size := fun m r e hx => by
    have := h.h.i m r e 0 (List.length_pos_iff.2 hx)
    exact World.block_lt_of_cell? _ _ this
  have hlt2 : ∀ m r, H m = some r → r.b ≠ nb := fun m r e => by
    have hp := (h.bi.pw m r.xs (by unfold PL; rw [e]; rfl)).2.1
    have := hlt m r e (fun hx => by rw [hx] at hp; simp at hp)
    omega
  exact ⟨h.keep hb, ⟨hw.here, fun x => by rw [hw.frozen]; exact frozen_new _ _ _ _ hnb, fun m r e => (h.h.i m r e).keep hb, by rw [hw.size]; simp; omega, h.h.k⟩, hlt2, fun m r e => ⟨hlt2 m r e, h.ne m r e⟩, by omega, rfl⟩
end
/-- The answer of least. -/
def LeastQ (g : Tg) (a b : Nat) (w : World) (e : Ending) (w' : World) : Prop := ∃ x : Option Rt, e = .returned (hV x) ∧ x.map Rt.xs = leastP g.T a b ∧ (∀ r, x = some r → r.In w') ∧ Below w.heap.size w w'
theorem LO.answer {g : Tg} {a b : Nat} {w : World} {i : Nat} {H : Nat → Option Rt} {W : World} (h : LO g a w i H W) (he : lst g.T a 8 (fun _ => none) = PL H) : LeastQ g a b w (.returned (hV (H b))) W :=
  ⟨H b, rfl, by unfold leastP; rw [he]; rfl, fun r e => h.h.i b r e, h.l.b⟩

section
variable {P : Program} {w w' : World} {ops : Array Oper} {rest : List Oper} {o : Oper} {a : Act} {Q : Exit → Act → World → Prop} {x : Value}
theorem wpList_runT (hgd : o.guard = none) (h : (execOp a.eval o).run P w = .ok (.value x) w') (hn : wpList P ops Q rest (a.put o.dst x) w') : wpList P ops Q (o :: rest) a w := by
  refine wpList_plain hgd fun K hK => ?_
  unfold Oper.wp
  rw [h]
  exact hK _ _ hn
theorem run_allocT {t : TypeId} (ho : o.op = .alloc t) (h : (Instr.alloc t true (.tuple #[])).run P w = .ok x w') : (execOp a.eval o).run P w = .ok (.value x) w' := by simp [execOp, ho, h, Result.andThen]
end
theorem alloc_81 (W : World) : (Instr.alloc 81 true (.tuple #[])).run Try.prog W = .ok (.pointer (some ⟨W.heap.size, 0, none⟩)) (W.alloc (.cells (hCs fun _ => none).toArray 81)) := by kernel_rfl
theorem newR_ok {T : Tp} {a k : Nat} {best : Bst} (hb : BI T a k best) {p : Nat} (hp : p < T.pn) : CostOk T (newR T best p) := by
  have key : ∀ r : List Nat, CostOk T r → r.length ≤ 8 → CostOk T (r ++ [p]) := fun r h h8 => ⟨by simp; omega, fun i hi => by
    by_cases e : i = r.length
    · rw [e, getD_append_end]
      exact hp
    · have hi' : i < r.length := by simp at hi; omega
      rw [getD_append_lt hi']
      exact h.pt i hi'⟩
  unfold newR
  cases e : best (T.fr p) with
  | none => exact key [] ⟨by simp, fun i hi => absurd hi (by simp)⟩ (by simp)
  | some r => exact key r ((hb.pw _ _ e).1.costOk) (hb.pw _ _ e).1.le
theorem eql37 (W : World) (a : Option Addr) (n c : Nat) : (binOp .eql 37 (.slice a n c) (.slice none 0 0)).run Try.prog W = .ok (.bool a.isNone) W := run_eql_slice_nil W 37 3 a n c 0 0 Try.underlying37
theorem noagg37 : ∀ w, (isAgg 37).run Try.prog w = .ok false w := fun w => by kernel_rfl
theorem info3 : ((Try.prog).info? 3).map (fun i => (i.zero, i.size, i.bytes)) = some (some (.int .i64 0), 1, 8) := by kernel_rfl

end Go.Proofs.Ytjhpbemnklpefaa
