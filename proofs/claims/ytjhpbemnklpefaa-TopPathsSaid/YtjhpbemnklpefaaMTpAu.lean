/-
  A range over a function that hands over its elements in their order and is never left early. No conditions.
-/
import Derived.Test.YtjhpbemnklpefaaMTpAs
namespace Go.Proofs.Ytjhpbemnklpefaa
open Go.RowKit Go.Lib Go.Shelf Plain
attribute [local go_sem] Oper.semAt_some

/-- Of the blocks below B those from lo on and below hi may turn. -/
def Kx (B lo hi : Nat) (W W' : World) : Prop := Below lo W W' ∧ ∀ k, hi ≤ k → k < B → W'.heap[k]? = W.heap[k]?
theorem Kx.refl (B lo hi : Nat) (W : World) : Kx B lo hi W W := ⟨Below.refl _ _, fun _ _ _ => rfl⟩
theorem Kx.trans {B lo hi : Nat} {A C D : World} (h : Kx B lo hi A C) (k : Kx B lo hi C D) : Kx B lo hi A D := ⟨h.1.trans k.1, fun i h1 h2 => (k.2 i h1 h2).trans (h.2 i h1 h2)⟩
theorem Kx.of {B lo hi : Nat} {W W' : World} (hl : lo ≤ B) (h : Below B W W') : Kx B lo hi W W' := ⟨h.mono hl, fun k _ hk => h.block k hk⟩
theorem Kx.cell {B lo hi : Nat} {W W' : World} (h : Kx B lo hi W W') {b o : Nat} {v : Value} (hc : W.cell? ⟨b, o, none⟩ = some v) (h1 : hi ≤ b) (h2 : b < B) : W'.cell? ⟨b, o, none⟩ = some v := (World.cell?_of_block (a := ⟨b, o, none⟩) (h.2 b h1 h2)).trans hc
theorem kxSet {B lo hi : Nat} {W : World} {b o : Nat} {v : Value} (h1 : lo ≤ b) (h2 : b < hi) : Kx B lo hi W (W.setCell ⟨b, o, none⟩ v) :=
  ⟨(Below.refl _ _).setCell (p := ⟨b, o, none⟩) h1 _, fun k hk _ => Below.heap_setCell W ⟨b, o, none⟩ v k (show k ≠ b by omega)⟩
/-- What a round answers. -/
def RdN (w0 : World) (lo hi : Nat) (J : Nat → World → Prop) (i : Nat) (W : World) (e : Ending) (W' : World) : Prop := e = .returned (.bool true) ∧ J (i + 1) W' ∧ Kx w0.heap.size lo hi W W'
/-- An iterator over N elements. -/
def SeqN (enc : Nat → Array Value) (N : Nat) (gf : Nat) (lb : Array Value) (w0 : World) (lo hi : Nat) : Prop :=
  ∀ (l : Nat) (J : Nat → World → Prop) (W : World), (∀ i W W', J i W → Below W.heap.size W W' → J i W') → Kx w0.heap.size lo hi w0 W → (∀ m i W, J i W → i < N → Kx w0.heap.size lo hi w0 W → YieldAt Fence.wide m Try.prog l (enc i) W (RdN w0 lo hi J i W)) → J 0 W →
    Calls Try.prog gf (#[.func (.yield l) #[] #[]] ++ lb) W fun e W' => (∃ x, e = .returned x) ∧ J N W'
/-- What is kept where none of the blocks that hold cells turns. -/
def AbN (B : Nat) (I : Nat → World → Prop) : Prop := ∀ i W W' row, I i W → W.grownBy W' row → (∀ k, row = some k → B ≤ k ∧ ∃ o, W.heap[k]? = some o ∧ o.isCells = false) → I i W'
theorem AbN.keep {B : Nat} {I : Nat → World → Prop} (h : AbN B I) {i : Nat} {W W' : World} (hi : I i W) (hb : Below W.heap.size W W') : I i W' := h i W W' none hi (Below.grow0 hb) (fun k e => by cases e)
theorem AbN.put {B : Nat} {I : Nat → World → Prop} (h : AbN B I) {i : Nat} {W : World} {l : Nat} {o : Obj} (o' : Obj) (hi : I i W) (hl : W.heap[l]? = some o) (ho : o.isCells = false) (hb : B ≤ l) : I i (W.putObj l o') :=
  h i W _ (some l) hi (grownBy_putObj' W l o') (fun k e => by cases e; exact ⟨hb, o, hl, ho⟩)
/-- What the body of a round owes. -/
def bodyN (w0 : World) (lo hi : Nat) (I : Nat → World → Prop) (i : Nat) (W : World) : Exit → Act → World → Prop
  | .normal, _, W' => KeepsOthers W W' ∧ Kx w0.heap.size lo hi W W' ∧ I (i + 1) W'
  | _, _, _ => False

set_option maxHeartbeats 2000000 in
theorem wpIn_rangeN {enc : Nat → Array Value} {N n : Nat} {g : Operand} {ps : Array Tmp} {assign body : Code} {Q : Exit → Act → World → Prop} {a : Act} {w w0 : World} {lb : Array Value} {gf : Nat} {lo up : Nat} (h1 : 1 ≤ n) (hg : a.eval g = .func (.func gf) #[] lb)
    (eg : ∀ args w, (callFunc gf args).run Try.prog w = .ok (.enter gf args) w) (hseq : SeqN enc N gf lb w0 lo up) (hlo : lo ≤ w0.heap.size) (hb0 : Below w0.heap.size w0 w) (hps : ∀ i, (enc i).size = ps.size) (I : Nat → World → Prop) (hI : AbN w0.heap.size I) (h0 : I 0 w) (Ax : Nat → Act → World → Prop) (hAx : ∀ a', AbN w0.heap.size (fun i W => Ax i a' W))
    (hassign : ∀ (l m i : Nat) (W : World) (K : Act → World → Prop), i < N → Kx w0.heap.size lo up w0 W → w0.heap.size ≤ W.heap.size → (∀ a' W', Below W.heap.size W W' → Ax i a' W' → K a' W') → assign.wpIn (Fence.wide.inRound l) m Try.prog (Exit.then K (fun _ _ _ => False)) { tmps := (ps.zip (enc i)).foldl (fun t (p, v) => t.setIfInBounds p v) a.tmps, defers := [] } W)
    (hbody : ∀ (l m i : Nat) (a' : Act) (W : World), I i W → Ax i a' W → i < N → Kx w0.heap.size lo up w0 W → w0.heap.size ≤ W.heap.size → body.wpIn (Fence.wide.inRound l) m Try.prog (bodyN w0 lo up I i W) a' W)
    (hdone : ∀ (D : Nat) (W : World), w.heap.size ≤ D → I N W → W.heap[D]? = some (.deferred (some [])) → Q .normal { a with defers := { target := .collected D, args := #[] } :: a.defers } W) :
    (Code.rangeFunc g ps assign body).wpIn Fence.wide n Try.prog Q a w := by
  refine wpIn_rangeFunc ?_
  intro fn hfn
  have hro : (Fence.wide).round = none := rfl
  rw [hro]
  obtain ⟨rec, hrec⟩ : ∃ rec : LoopState → Option Code → Loop, rec = fun st pe => { state := st, pending := pe, fn, tmps := a.tmps, params := ps, assign, body, defers := w.heap.size } := ⟨_, rfl⟩
  have hz0 := hb0.size
  obtain ⟨W1, hW1⟩ : ∃ W1, (w.alloc (.deferred (some []))).alloc (.loop (rec .ready none)) = W1 := ⟨_, rfl⟩
  have hL1 : W1.heap[w.heap.size + 1]? = some (.loop (rec .ready none)) := by
    rw [← hW1]
    have := World.alloc_heap_new (w.alloc (.deferred (some []))) (.loop (rec .ready none))
    rwa [World.size_alloc] at this
  have hK1 : W1.heap[w.heap.size]? = some (.deferred (some [])) := by
    rw [← hW1]
    exact (Below.heap_alloc _ _ _ (by simp)).trans (World.alloc_heap_new w _)
  have hB1 : Below w.heap.size w W1 := by rw [← hW1]; exact below_alloc (below_alloc (Below.refl _ _) _) _
  have hI1 : I 0 W1 := hI.keep h0 hB1
  have hb1 : Kx w0.heap.size lo up w0 W1 := Kx.of hlo (hb0.trans (hB1.mono hz0))
  refine ⟨w.heap.size + 1, [{ target := .collected w.heap.size, args := #[] }], W1, { target := .fn (.func gf) lb, args := #[.func (.yield (w.heap.size + 1)) #[] #[]] }, W1, gf,
    #[.func (.yield (w.heap.size + 1)) #[] #[]] ++ lb, W1, ?_, ?_, ?_, ?_, fun _ => h1, ?_⟩
  · rw [← hW1, hrec]
    exact run_enterLoop_outer _ _ _ _ _
  · simp only [resolve, hg]
    simp [go_sem]
  · intro f' hf'
    trivial
  · simp [invoke, go_sem, eg]
  · refine callsIn_wide.2 ?_
    refine (hseq (w.heap.size + 1) (fun i W => I i W ∧ W.heap[w.heap.size + 1]? = some (.loop (rec .ready none)) ∧ W.heap[w.heap.size]? = some (.deferred (some []))) W1 ?_ hb1 ?_ ⟨hI1, hL1, hK1⟩).mono ?_
    · rintro i A B ⟨hi, hl, hd⟩ hgr
      exact ⟨hI.keep hi hgr, (hgr.block _ (Array.getElem?_eq_some_iff.1 hl).1).trans hl, (hgr.block _ (Array.getElem?_eq_some_iff.1 hd).1).trans hd⟩
    · rintro m i W ⟨hi, hl, hd⟩ hlen hbW
      have hlt : w.heap.size + 1 < W.heap.size := (Array.getElem?_eq_some_iff.1 hl).1
      have hy := run_yield (P := Try.prog) (args := enc i) hl (by rw [hrec]; exact hps i)
      rw [hrec] at hy
      refine ⟨fn, _, assign, body, hy, roundIn_of_wpIn hfn (hassign _ _ i W _ hlen hbW (by omega) (fun a' V hV hax => ?_))⟩
      have hlV := (hV.block _ (Array.getElem?_eq_some_iff.1 hl).1).trans hl
      have hdV := (hV.block _ (Array.getElem?_eq_some_iff.1 hd).1).trans hd
      have hltV : w.heap.size + 1 < V.heap.size := (Array.getElem?_eq_some_iff.1 hlV).1
      refine ⟨_, run_beginRound hlV (by rw [hrec]), ?_⟩
      have hl2 : (V.putObj (w.heap.size + 1) (.loop { rec .ready none with state := .busy })).heap[w.heap.size + 1]? = some (.loop { rec .ready none with state := .busy }) := World.putObj_heap_same hltV
      have hk2 : (V.putObj (w.heap.size + 1) (.loop { rec .ready none with state := .busy })).heap[w.heap.size]? = some (.deferred (some [])) := (World.putObj_heap_other (by omega)).trans hdV
      have hbz : w0.heap.size ≤ W.heap.size := by omega
      have bl2 : Kx w0.heap.size lo up W (V.putObj (w.heap.size + 1) (.loop { rec .ready none with state := .busy })) := Kx.of hlo ((hV.mono hbz).trans ((Below.refl _ _).grown (grownBy_putObj' V _ _) (Nat.le_trans hbz hV.size) (fun k e => by cases e; omega)))
      refine wpIn_mono (hbody _ _ i a' _ (hI.put _ (hI.keep hi hV) hlV rfl (by omega)) ((hAx a').put _ hax hlV rfl (by omega)) hlen (hbW.trans bl2) (by have := hV.size; simp; omega)) ?_
      rintro e a3 W3 hp
      cases e with
      | normal =>
        obtain ⟨hko, hbl, hi3⟩ := hp
        have hl3 := hko.same _ _ hl2 rfl
        have hr := run_endRound (P := Try.prog) none hl3
        have hlt3 : w.heap.size + 1 < W3.heap.size := (Array.getElem?_eq_some_iff.1 hl3).1
        refine ⟨_, _, hr, rfl, ⟨hI.put _ hi3 hl3 rfl (by omega), ?_, (World.putObj_heap_other (by omega)).trans (hko.same _ _ hk2 rfl)⟩, (bl2.trans hbl).trans (Kx.of hlo ((Below.refl _ _).grown (grownBy_putObj' W3 _ _) (by omega) (fun k e => by cases e; omega)))⟩
        rw [World.putObj_heap_same hlt3, hrec]
        rfl
      | ret => exact hp.elim
      | exit id => exact hp.elim
      | goto t => exact hp.elim
      | panic ch => exact hp.elim
      | outgrown => exact hp.elim
    · rintro e W2 ⟨⟨v, rfl⟩, hi, hl, hd⟩
      refine ⟨none, _, by have := run_endLoop (P := Try.prog) hl (by rw [hrec]; simp); rw [hrec] at this; exact this, hdone _ _ (Nat.le_refl _) (hI.put _ hi hl rfl (by omega)) ((World.putObj_heap_other (by omega)).trans hd)⟩

theorem wpIn_world' {F : Fence} {n : Nat} {P : Program} {c : Code} {Q : Exit → Act → World → Prop} {a : Act} {w : World} (h : ∀ W, W = w → c.wpIn F n P Q a W) : c.wpIn F n P Q a w := h w rfl
theorem frozenN {W W' : World} {row : Option Nat} {b o : Nat} {v : Value} (h : W.cell? ⟨b, o, none⟩ = some v) (hg : W.grownBy W' row) (hrow : ∀ r, row = some r → ∃ o : Obj, W.heap[r]? = some o ∧ o.isCells = false) (x : Nat) : W'.frozen? ⟨b, x, none⟩ = W.frozen? ⟨b, x, none⟩ := by
  obtain ⟨o, ho, hc⟩ := cells_of_cell h
  exact World.frozen?_of_block (a := ⟨b, x, none⟩) (grownBy_keeps_cells hg hrow ho hc)

end Go.Proofs.Ytjhpbemnklpefaa
