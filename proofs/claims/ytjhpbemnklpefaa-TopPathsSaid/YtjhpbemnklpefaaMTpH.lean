/-
  A range over the routes. No conditions.
-/
import Derived.Shelf.SlIter.Collect
import Derived.OwnWalkIn
import Derived.Test.YtjhpbemnklpefaaMTpG
namespace Go.Proofs.Ytjhpbemnklpefaa
open Go.RowKit Go.Lib Go.Shelf Plain
attribute [local go_sem] Oper.semAt_some

/-- Blocks that are none of the rows that are gathered. -/
def okO (o : Obj) : Prop := o.isCells = false ∨ ∃ c t, o = .cells c t (0, 0) ∧ (t = 58 ∨ t = 85)
def AbO (B : Nat) (I : List Rt → World → Prop) : Prop := ∀ pre W W' row, I pre W → W.grownBy W' row → (∀ k, row = some k → B ≤ k ∧ ∃ o, W.heap[k]? = some o ∧ okO o) → I pre W'
theorem AbO.alloc {B : Nat} {I : List Rt → World → Prop} (h : AbO B I) {pre : List Rt} {W : World} (o : Obj) (hi : I pre W) : I pre (W.alloc o) := h pre W _ none hi (World.grownBy_alloc W o none) (fun k e => by cases e)
theorem AbO.put {B : Nat} {I : List Rt → World → Prop} (h : AbO B I) {pre : List Rt} {W : World} {l : Nat} {o : Obj} (o' : Obj) (hi : I pre W) (hl : W.heap[l]? = some o) (ho : o.isCells = false) (hb : B ≤ l) : I pre (W.putObj l o') :=
  h pre W _ (some l) hi (grownBy_putObj' W l o') (fun k e => by cases e; exact ⟨hb, o, hl, .inl ho⟩)
/-- What the body of a round owes. -/
def bodyRt (w0 : World) (I : List Rt → World → Prop) (rs : List Rt) (W : World) : Exit → Act → World → Prop
  | .normal, _, W' => KeepsOthers W W' ∧ Below w0.heap.size W W' ∧ KT W W' ∧ I rs W'
  | _, _, _ => False
/-- An iterator over the routes. -/
def SeqRt (g : Tg) (a b : Nat) (N : Nat) (gf : Nat) (lb : Array Value) (w0 : World) : Prop :=
  ∀ (l : Nat) (J : List Rt → World → Prop) (W : World), AbI w0 J → Below w0.heap.size w0 W → (∀ m pre r W, J pre W → RtT w0.heap.size r W → pre.length < N → YieldAt Fence.wide m Try.prog l #[r.v] W (RdQ w0 J pre r W)) → J [] W →
    Calls Try.prog gf (#[.func (.yield l) #[] #[]] ++ lb) W fun e W' => (∃ x, e = .returned x) ∧ ∃ rs : List Rt, rs.map Rt.xs = routesP g.T a b ∧ J rs W'
theorem putKT {W : World} {l : Nat} {o : Obj} (o' : Obj) (hl : W.heap[l]? = some o) (ho : o.isCells = false) : KT W (W.putObj l o') :=
  KT.grown (grownBy_putObj' W l o') (fun k e c t hc _ => by cases e; rw [hl] at hc; cases hc; cases ho)

set_option maxHeartbeats 2000000 in
theorem wpIn_rangeRt {g' : Tg} {a' b' N n : Nat} {g : Operand} {ps : Array Tmp} {assign body : Code} {Q : Exit → Act → World → Prop} {a : Act} {w w0 : World} {lb : Array Value} {gf : Nat} (h1 : 1 ≤ n) (hg : a.eval g = .func (.func gf) #[] lb)
    (eg : ∀ args w, (callFunc gf args).run Try.prog w = .ok (.enter gf args) w) (hseq : SeqRt g' a' b' N gf lb w0) (hb0 : Below w0.heap.size w0 w) (hps : ps.size = 1) (I : List Rt → World → Prop) (hI : AbO w0.heap.size I) (h0 : I [] w) (a₁ : Rt → Act)
    (hassign : ∀ (l m : Nat) (x : Rt) (W : World) (K : Act → World → Prop), K (a₁ x) W → assign.wpIn (Fence.wide.inRound l) m Try.prog (Exit.then K (fun _ _ _ => False)) { tmps := (ps.zip #[x.v]).foldl (fun t (p, v) => t.setIfInBounds p v) a.tmps, defers := [] } W)
    (hbody : ∀ (l m : Nat) (pre : List Rt) (x : Rt) (W : World), I pre W → RtT w0.heap.size x W → pre.length < N → body.wpIn (Fence.wide.inRound l) m Try.prog (bodyRt w0 I (pre ++ [x]) W) (a₁ x) W)
    (hdone : ∀ (D : Nat) (rs : List Rt) (W : World), w.heap.size ≤ D → rs.map Rt.xs = routesP g'.T a' b' → I rs W → W.heap[D]? = some (.deferred (some [])) → Q .normal { a with defers := { target := .collected D, args := #[] } :: a.defers } W) :
    (Code.rangeFunc g ps assign body).wpIn Fence.wide n Try.prog Q a w := by
  refine wpIn_rangeFunc ?_
  intro fn hfn
  have hro : (Fence.wide).round = none := rfl
  rw [hro]
  obtain ⟨rec, hrec⟩ : ∃ rec : LoopState → Option Code → Loop, rec = fun st pe => { state := st, pending := pe, fn, tmps := a.tmps, params := ps, assign, body, defers := w.heap.size } := ⟨_, rfl⟩
  have hz0 := hb0.size
  obtain ⟨W1, hW1⟩ : ∃ W1, (w.alloc (.deferred (some []))).alloc (.loop (rec .ready none)) = W1 := ⟨_, rfl⟩
  have hL1 : W1.heap[w.heap.size + 1]? = some (.loop (rec .ready none)) := by
    rw [← hW1]
    have := World.alloc_heap_new (w.alloc (.deferred (some []))) (.loop (rec .ready none))
    rwa [World.size_alloc] at this
  have hK1 : W1.heap[w.heap.size]? = some (.deferred (some [])) := by
    rw [← hW1]
    exact (Below.heap_alloc _ _ _ (by simp)).trans (World.alloc_heap_new w _)
  have hI1 : I [] W1 := by rw [← hW1]; exact hI.alloc _ (hI.alloc _ h0)
  have hb1 : Below w0.heap.size w0 W1 := by rw [← hW1]; exact below_alloc (below_alloc hb0 _) _
  refine ⟨w.heap.size + 1, [{ target := .collected w.heap.size, args := #[] }], W1, { target := .fn (.func gf) lb, args := #[.func (.yield (w.heap.size + 1)) #[] #[]] }, W1, gf,
    #[.func (.yield (w.heap.size + 1)) #[] #[]] ++ lb, W1, ?_, ?_, ?_, ?_, fun _ => h1, ?_⟩
  · rw [← hW1, hrec]
    exact run_enterLoop_outer _ _ _ _ _
  · simp only [resolve, hg]
    simp [go_sem]
  · intro f' hf'
    trivial
  · simp [invoke, go_sem, eg]
  · refine callsIn_wide.2 ?_
    refine (hseq (w.heap.size + 1) (fun pre W => I pre W ∧ W.heap[w.heap.size + 1]? = some (.loop (rec .ready none)) ∧ W.heap[w.heap.size]? = some (.deferred (some []))) W1 ?_ hb1 ?_ ⟨hI1, hL1, hK1⟩).mono ?_
    · rintro pre A B row ⟨hi, hl, hd⟩ hgr hr
      have hne : ∀ (k : Nat) (o : Obj), A.heap[k]? = some o → o.isCells = false → some k ≠ row := fun k o hk ho e => by
        obtain ⟨_, t, ⟨c, hc⟩, _⟩ := hr k e.symm
        rw [hk] at hc
        cases hc
        cases ho
      exact ⟨hI pre A B row hi hgr (fun k e => by obtain ⟨h2, t, ⟨c, hc⟩, h3⟩ := hr k e; exact ⟨h2, _, hc, .inr ⟨c, t, rfl, h3⟩⟩), (hgr.block _ (Array.getElem?_eq_some_iff.1 hl).1 (hne _ _ hl rfl)).trans hl, (hgr.block _ (Array.getElem?_eq_some_iff.1 hd).1 (hne _ _ hd rfl)).trans hd⟩
    · rintro m pre x W ⟨hi, hl, hd⟩ hrt hlen
      have hlt : w.heap.size + 1 < W.heap.size := (Array.getElem?_eq_some_iff.1 hl).1
      have hy := run_yield (P := Try.prog) (args := #[x.v]) hl (by rw [hrec]; simp [hps])
      rw [hrec] at hy
      refine ⟨fn, _, assign, body, hy, roundIn_of_wpIn hfn (hassign _ _ x W _ ⟨_, run_beginRound hl (by rw [hrec]), ?_⟩)⟩
      have hl2 : (W.putObj (w.heap.size + 1) (.loop { rec .ready none with state := .busy })).heap[w.heap.size + 1]? = some (.loop { rec .ready none with state := .busy }) := World.putObj_heap_same hlt
      have hk2 : (W.putObj (w.heap.size + 1) (.loop { rec .ready none with state := .busy })).heap[w.heap.size]? = some (.deferred (some [])) := (World.putObj_heap_other (by omega)).trans hd
      have kt2 : KT W (W.putObj (w.heap.size + 1) (.loop { rec .ready none with state := .busy })) := putKT _ hl rfl
      have bl2 : Below w0.heap.size W (W.putObj (w.heap.size + 1) (.loop { rec .ready none with state := .busy })) := (Below.refl _ _).grown (grownBy_putObj' W _ _) (by omega) (fun k e => by cases e; omega)
      refine wpIn_mono (hbody _ _ pre x _ (hI.put _ hi hl rfl (by omega)) (hrt.keep kt2.k3) hlen) ?_
      rintro e a3 W3 hp
      cases e with
      | normal =>
        obtain ⟨hko, hbl, hkt, hi3⟩ := hp
        have hl3 := hko.same _ _ hl2 rfl
        have hr := run_endRound (P := Try.prog) none hl3
        have hlt3 : w.heap.size + 1 < W3.heap.size := (Array.getElem?_eq_some_iff.1 hl3).1
        refine ⟨_, _, hr, rfl, ⟨hI.put _ hi3 hl3 rfl (by omega), ?_, (World.putObj_heap_other (by omega)).trans (hko.same _ _ hk2 rfl)⟩, (bl2.trans hbl).trans ((Below.refl _ _).grown (grownBy_putObj' W3 _ _) (by omega) (fun k e => by cases e; omega)), (kt2.trans hkt).trans (putKT _ hl3 rfl)⟩
        rw [World.putObj_heap_same hlt3, hrec]
        rfl
      | ret => exact hp.elim
      | exit id => exact hp.elim
      | goto t => exact hp.elim
      | panic ch => exact hp.elim
      | outgrown => exact hp.elim
    · rintro e W2 ⟨⟨v, rfl⟩, rs, hS, hi, hl, hd⟩
      refine ⟨none, _, by have := run_endLoop (P := Try.prog) hl (by rw [hrec]; simp); rw [hrec] at this; exact this, hdone _ rs _ (Nat.le_refl _) hS (hI.put _ hi hl rfl (by omega)) ((World.putObj_heap_other (by omega)).trans hd)⟩

end Go.Proofs.Ytjhpbemnklpefaa
