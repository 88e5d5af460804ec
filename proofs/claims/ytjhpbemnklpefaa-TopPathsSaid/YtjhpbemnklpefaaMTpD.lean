/-
  What the search for all routes keeps. No conditions.
-/
import Derived.Laws.Rows
import Derived.RangeFuncKeeps
import Derived.RangeFuncBound
import Derived.RangeFuncLeaves
import Derived.Shelf.Abstract
import Derived.Test.YtjhpbemnklpefaaMPl
import Derived.Test.YtjhpbemnklpefaaMTpM
namespace Go.Proofs.Ytjhpbemnklpefaa
open Go.RowKit Go.Lib Plain

/-- Block k holds cells of type t. -/
def Ty (W : World) (k : Nat) (t : TypeId) : Prop := ∃ cur, W.heap[k]? = some (.cells cur t (0, 0))
theorem Ty.lt {W : World} {k : Nat} {t : TypeId} (h : Ty W k t) : k < W.heap.size := by
  obtain ⟨c, h⟩ := h
  exact (Array.getElem?_eq_some_iff.1 h).1
theorem Ty.ne {W : World} {k j : Nat} {t u : TypeId} (h : Ty W k t) (h2 : Ty W j u) (hne : t ≠ u) : k ≠ j := by
  rintro rfl
  obtain ⟨c, h⟩ := h
  obtain ⟨d, h2⟩ := h2
  rw [h] at h2
  cases h2
  exact hne rfl
theorem Ty.set {W : World} {k b o : Nat} {t : TypeId} {v : Value} (h : Ty W k t) : Ty (W.setCell ⟨b, o, none⟩ v) k t := by
  obtain ⟨c, h⟩ := h
  by_cases e : k = b
  · subst e
    exact ⟨_, heap_setCell_same _ _ _ _ _ _ h⟩
  · exact ⟨c, (Below.heap_setCell W ⟨b, o, none⟩ v k e).trans h⟩
theorem Ty.below {W W' : World} {k : Nat} {t : TypeId} (h : Ty W k t) (hb : Below W.heap.size W W') : Ty W' k t := by
  have hl := h.lt
  obtain ⟨c, h⟩ := h
  exact ⟨c, (hb.block k hl).trans h⟩
theorem Ty.fz {W : World} {k : Nat} {t : TypeId} (h : Ty W k t) (x : Nat) : W.frozen? ⟨k, x, none⟩ = false := by
  obtain ⟨c, h⟩ := h
  simp [World.frozen?, h]

/-- Rows of ports are kept. -/
def K3 (W W' : World) : Prop := ∀ (k : Nat) (cur : Array Value), W.heap[k]? = some (Obj.cells cur 3 (0, 0)) → W'.heap[k]? = some (Obj.cells cur 3 (0, 0))
theorem K3.refl (W : World) : K3 W W := fun _ _ h => h
theorem K3.trans {A B C : World} (h : K3 A B) (k : K3 B C) : K3 A C := fun i c hc => k i c (h i c hc)
theorem K3.of {W W' : World} (h : Below W.heap.size W W') : K3 W W' := fun k _ hk => (h.block k (Array.getElem?_eq_some_iff.1 hk).1).trans hk
theorem K3.set {W : World} {b o : Nat} {t : TypeId} (v : Value) (h : Ty W b t) (ht : t ≠ 3) : K3 W (W.setCell ⟨b, o, none⟩ v) := fun k c hk =>
  (Below.heap_setCell W ⟨b, o, none⟩ v k (Ty.ne ⟨c, hk⟩ h (Ne.symm ht))).trans hk

/-- A route in a row of ports. -/
structure RtT (B : Nat) (r : Rt) (W : World) : Prop where
  i : r.In W
  t : Ty W r.b 3
  k : r.xs.length ≤ r.k
  b : B ≤ r.b
theorem RtT.keep {B : Nat} {r : Rt} {W W' : World} (h : RtT B r W) (hk : K3 W W') : RtT B r W' := by
  obtain ⟨c, hc⟩ := h.t
  have hc' := hk _ _ hc
  exact ⟨fun i hi => (World.cell?_of_block (a := ⟨r.b, r.o + i, none⟩) (hc'.trans hc.symm)).trans (h.i i hi), ⟨c, hc'⟩, h.k, h.b⟩
def rx : Option Rt → List Nat
  | none => []
  | some r => r.xs
def RtO (B : Nat) (ro : Option Rt) (W : World) : Prop := ∀ r, ro = some r → RtT B r W
theorem RtO.keep {B : Nat} {ro : Option Rt} {W W' : World} (h : RtO B ro W) (hk : K3 W W') : RtO B ro W' := fun r e => (h r e).keep hk

/-- What a round keeps. -/
structure KT (W W' : World) : Prop where
  t : ∀ (k : Nat) (cur : Array Value) (t : TypeId), W.heap[k]? = some (Obj.cells cur t (0, 0)) → (t = 3 ∨ t = 58 ∨ t = 70 ∨ t = 85) → W'.heap[k]? = some (Obj.cells cur t (0, 0))
  z : W.heap.size ≤ W'.heap.size
theorem KT.k3 {W W' : World} (h : KT W W') : K3 W W' := fun k c hc => h.t k c 3 hc (.inl rfl)
theorem KT.refl (W : World) : KT W W := ⟨fun _ _ _ h _ => h, Nat.le_refl _⟩
theorem KT.trans {A B C : World} (h : KT A B) (k : KT B C) : KT A C := ⟨fun i c t hc ht => k.t i c t (h.t i c t hc ht) ht, Nat.le_trans h.z k.z⟩
theorem KT.grown {W W' : World} {row : Option Nat} (h : W.grownBy W' row) (hr : ∀ (k : Nat), row = some k → ∀ (c : Array Value) (t : TypeId), W.heap[k]? = some (Obj.cells c t (0, 0)) → ¬ (t = 3 ∨ t = 58 ∨ t = 70 ∨ t = 85)) : KT W W' :=
  ⟨fun k c t hc ht => (h.block k (Array.getElem?_eq_some_iff.1 hc).1 (fun e => hr k e.symm c t hc ht)).trans hc, h.size⟩

/-- Where the search's variables lie. -/
structure Vb where
  l : Nat
  bt : Nat
  bf : Nat
  bs : Nat
  y : Nat
  n : Nat
  e : Nat
def Vb.cap (v : Vb) : List Value := [.pointer (some ⟨v.bt, 0, none⟩), .pointer (some ⟨v.y, 0, none⟩), .pointer (some ⟨v.bf, 0, none⟩), .pointer (some ⟨v.bs, 0, none⟩), .pointer (some ⟨v.n, 0, none⟩), .pointer (some ⟨v.e, 0, none⟩)]
/-- What lay there ahead. -/
structure S0 (g : Tg) (a b : Nat) (v : Vb) (w : World) : Prop where
  t : w.cell? ⟨v.bt, 0, none⟩ = some (.int .i64 (b : Int))
  f : w.cell? ⟨v.bf, 0, none⟩ = some (.int .i64 (a : Int))
  s : SAt g v.bs w
/-- What holds all along. -/
structure ES (w : World) (v : Vb) (s : Nat → Bool) (W : World) : Prop where
  b : Below w.heap.size w W
  y : W.heap[v.y]? = some (.cells #[.func (.yield v.l) #[] #[]] 70 (0, 0))
  e : W.heap[v.e]? = some (.cells #[.func (.func 33) #[] v.cap.toArray] 85 (0, 0))
  t : Ty W v.n 58
  c : ∀ m, m < 12 → W.cell? ⟨v.n, m, none⟩ = some (.bool (s m))
  z : w.heap.size ≤ v.n
section
variable {w W W' : World} {v : Vb} {s : Nat → Bool}
theorem ES.keep (h : ES w v s W) (hb : Below W.heap.size W W') : ES w v s W' :=
  ⟨below_step h.b hb, (hb.block _ (Array.getElem?_eq_some_iff.1 h.y).1).trans h.y, (hb.block _ (Array.getElem?_eq_some_iff.1 h.e).1).trans h.e, h.t.below hb, fun m hm => below_keep hb (h.c m hm), h.z⟩
theorem ES.round (h : ES w v s W) (hb : Below w.heap.size W W') (hk : KT W W') : ES w v s W' := by
  obtain ⟨c, hc⟩ := h.t
  have hc' := hk.t _ _ _ hc (.inr (.inl rfl))
  exact ⟨h.b.trans hb, hk.t _ _ _ h.y (.inr (.inr (.inl rfl))), hk.t _ _ _ h.e (.inr (.inr (.inr rfl))), ⟨c, hc'⟩, fun m hm => (World.cell?_of_block (a := ⟨v.n, m, none⟩) (hc'.trans hc.symm)).trans (h.c m hm), h.z⟩
theorem ES.set (h : ES w v s W) {m : Nat} (x : Bool) : ES w v (upd s m x) (W.setCell ⟨v.n, m, none⟩ (.bool x)) := by
  have hy := Ty.ne ⟨_, h.y⟩ h.t (by decide)
  have he := Ty.ne ⟨_, h.e⟩ h.t (by decide)
  refine ⟨h.b.setCell (p := ⟨v.n, m, none⟩) h.z _, (Below.heap_setCell _ _ _ _ hy).trans h.y, (Below.heap_setCell _ _ _ _ he).trans h.e, h.t.set, fun k hk => ?_, h.z⟩
  by_cases e : k = m
  · subst e
    rw [upd_same]
    exact World.cell?_setCell_same _ _ _ (h.c k hk)
  · rw [upd_ne _ _ e, World.cell?_setCell_other (h := by intro x; injection x with _ x _; omega)]
    exact h.c k hk
theorem ES.eq {s' : Nat → Bool} (h : ES w v s W) (e : s = s') : ES w v s' W := e ▸ h
theorem ES.cy (h : ES w v s W) : W.cell? ⟨v.y, 0, none⟩ = some (.func (.yield v.l) #[] #[]) := by simp [World.cell?, h.y]
theorem ES.ce (h : ES w v s W) : W.cell? ⟨v.e, 0, none⟩ = some (.func (.func 33) #[] v.cap.toArray) := by simp [World.cell?, h.e]
end
theorem upd_back {s : Nat → Bool} {n : Nat} (h : s n = false) : upd (upd s n true) n false = s := by
  funext k
  unfold upd
  by_cases e : k = n
  · subst e
    rw [if_pos rfl, h]
  · rw [if_neg e, if_neg e]
/-- What the caller's word abides. -/
def AbI (w : World) (J : List Rt → World → Prop) : Prop := ∀ pre W W' row, J pre W → W.grownBy W' row → (∀ k, row = some k → w.heap.size ≤ k ∧ ∃ t, Ty W k t ∧ (t = 58 ∨ t = 85)) → J pre W'
theorem AbI.keep {w : World} {J : List Rt → World → Prop} (h : AbI w J) {pre : List Rt} {W W' : World} (hj : J pre W) (hb : Below W.heap.size W W') : J pre W' :=
  h pre W W' none hj (Below.grow0 hb) (fun k e => by cases e)
theorem AbI.set {w : World} {J : List Rt → World → Prop} (h : AbI w J) {pre : List Rt} {W : World} (hj : J pre W) {b o : Nat} {t : TypeId} (x : Value) (ht : Ty W b t) (h58 : t = 58 ∨ t = 85) (hz : w.heap.size ≤ b) : J pre (W.setCell ⟨b, o, none⟩ x) :=
  h pre W _ (some b) hj (grownBy_set W b o x) (fun k e => by cases e; exact ⟨hz, t, ht, h58⟩)
/-- What extend answers. -/
def ExtQ (g : Tg) (a b : Nat) (w : World) (v : Vb) (J : List Rt → World → Prop) (k : Nat) (ro : Option Rt) (n : Nat) (s : Nat → Bool) (pre : List Rt) (W : World) (e : Ending) (W' : World) : Prop :=
  e = .returned (.bool true) ∧ ∃ rs : List Rt, rs.map Rt.xs = exts g.T a b k (rx ro) n s ∧ J (pre ++ rs) W' ∧ ES w v s W' ∧ K3 W W'
/-- What a round answers. -/
def RdQ (w : World) (J : List Rt → World → Prop) (pre : List Rt) (r : Rt) (W : World) (e : Ending) (W' : World) : Prop :=
  e = .returned (.bool true) ∧ J (pre ++ [r]) W' ∧ Below w.heap.size W W' ∧ KT W W'

end Go.Proofs.Ytjhpbemnklpefaa
