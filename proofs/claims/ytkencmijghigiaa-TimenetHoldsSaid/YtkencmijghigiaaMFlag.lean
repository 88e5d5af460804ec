/-
  A region that draws its order: a head that only reads, and a tail of three operations (what is laid, append, store) of which the last waits for the whole head, though the first two need not: one walk in the text's order serves every order.
-/
import Derived.OrdersHeld
import Derived.Deep.RegionHeld3
import Derived.StillTail
import Derived.Lib.QuietBelow
import Derived.BigQuiet
import Derived.Test.YtkencmijghigiaaMBase
namespace Go.Proofs.Ytkencmijghigiaa
open Go.RowKit

section
variable {P : Program} {ops : Array Oper} {Q : Exit → Act → World → Prop} {md : Region.Mode} {C : World → Prop} {s : Nat}

/-- Whatever order is picked from here on, and C holds behind every operation but number s. -/
def wpAnyG (P : Program) (md : Region.Mode) (ops : Array Oper) (Q : Exit → Act → World → Prop) (C : World → Prop) (s : Nat) : Nat → Array Bool → Act → World → Prop
  | 0, listed, a, w => Region.ready md ops listed = [] ∧ Q .normal a w
  | fuel + 1, listed, a, w =>
    (Region.ready md ops listed = [] → Q .normal a w) ∧
    ∀ i ∈ Region.ready md ops listed, wpOp P ops Q i (fun a' w' => (i ≠ s → C w') ∧ wpAnyG P md ops Q C s fuel (listed.setIfInBounds i true) a' w') a w

theorem wpAny_of_flag : ∀ (fuel : Nat) (listed : Array Bool) (a : Act) (w : World), wpAnyG P md ops Q C s fuel listed a w → wpAny P md ops Q fuel listed a w
  | 0, _, _, _, h => h
  | fuel + 1, _, _, _, h => ⟨h.1, fun i hi => wpOp_mono (fun a' w' h' => wpAny_of_flag fuel _ a' w' h'.2) (h.2 i hi)⟩

/-- Number s waits for number i. -/
def waitsB (md : Region.Mode) (ops : Array Oper) (s i : Nat) : Bool := match ops[s]? with | some o => o.after.any fun e => Region.binds md e && e.on == i | none => false

theorem not_ready {i : Nat} {listed : Array Bool} (hw : waitsB md ops s i = true) (hi : i ∈ Region.ready md ops listed) : ¬ s ∈ Region.ready md ops listed := by
  intro h
  obtain ⟨_, os, hos, hall⟩ := mem_ready.1 h
  unfold waitsB at hw
  rw [hos] at hw
  simp only [Array.any_eq_true, Bool.and_eq_true, beq_iff_eq] at hw
  obtain ⟨k, hk, hb, he⟩ := hw
  have h1 := hall _ (Array.getElem_mem hk) hb
  have h0 := (mem_ready.1 hi).1
  rw [he] at h1
  rcases Nat.lt_or_ge i listed.size with h' | h'
  · simp [h'] at h0 h1; rw [h0] at h1; cases h1
  · simp [Array.getElem?_eq_none h'] at h1

theorem wpAnyG_first {i : Nat} {oi : Oper} {v : Value} (hi : ops[i]? = some oi) (hsel : ∀ (j : Nat) (o : Oper) cs b, ops[j]? = some o → o.op ≠ .select cs b)
    (hQ : ∀ c a w, Q (.panic c) (a.put oi.dst v) w → Q (.panic c) a w) (hws : waitsB md ops s i = true) :
    ∀ (fuel : Nat) (listed : Array Bool) (a : Act) (w : World),
      (∀ j oj, ops[j]? = some oj → j ≠ i → listed.getD j true = false → (∀ e ∈ oj.after, Region.binds md e = true → e.on ≠ i) → oi.apart ops oj = true) →
      i ∈ Region.ready md ops listed → YieldsIf P ops C oi v a → C w →
      wpAnyG P md ops Q C s fuel (listed.setIfInBounds i true) (a.put oi.dst v) w → wpAnyG P md ops Q C s (fuel + 1) listed a w := by
  intro fuel
  induction fuel with
  | zero =>
    intro listed a w _ hr hy hS H
    refine ⟨fun h => (by rw [h] at hr; cases hr), fun j hj => ?_⟩
    by_cases hji : j = i
    · subst hji; exact hy.wpOp hi hS ⟨fun _ => hS, H⟩
    · have := ready_mono hj hji
      rw [H.1] at this
      cases this
  | succ fuel ih =>
    intro listed a w hfree hr hy hS H
    refine ⟨fun h => (by rw [h] at hr; cases hr), fun j hj => ?_⟩
    by_cases hji : j = i
    · subst hji; exact hy.wpOp hi hS ⟨fun _ => hS, H⟩
    · have hjs : j ≠ s := fun e => not_ready hws hr (e ▸ hj)
      have h1 := H.2 j (ready_mono hj hji)
      obtain ⟨hjun, oj, hoj, hall⟩ := mem_ready.1 hj
      have hnot : ∀ e ∈ oj.after, Region.binds md e = true → e.on ≠ i := fun e he hb heq => by
        have h1 := hall e he hb
        have h0 := (mem_ready.1 hr).1
        rw [heq] at h1
        rcases Nat.lt_or_ge i listed.size with h' | h'
        · simp [h'] at h0 h1; rw [h0] at h1; cases h1
        · simp [Array.getElem?_eq_none h'] at h1
      have h2 := wpOp_putIf hoj (hfree j oj hoj hji hjun hnot) (fun cs b => hsel i oi cs b hi) (fun cs b => hsel j oj cs b hoj) hQ hy h1
      have hfree' : ∀ k ok, ops[k]? = some ok → k ≠ i → (listed.setIfInBounds j true).getD k true = false →
          (∀ e ∈ ok.after, Region.binds md e = true → e.on ≠ i) → oi.apart ops ok = true := fun k ok hk hki hun hno => by
        refine hfree k ok hk hki ?_ hno
        by_cases hjk : j = k
        · subst hjk; exact hjun
        · rw [getD_set_ne true hjk] at hun; exact hun
      refine wpOp_mono (fun a' w' h3 => ⟨h3.2.1, ih (listed.setIfInBounds j true) a' w' hfree' (ready_mono hr (Ne.symm hji)) h3.1 (h3.2.1 hjs) ?_⟩) h2
      rw [Array.setIfInBounds_comm _ _ hji]
      exact h3.2.2

/-- Operations that read at most. -/
def readsB : Op → Bool
  | .move _ | .assign _ | .build .. | .load .. | .nilCheck _ | .binOp .. | .unOp .. | .convert .. | .fieldAddr .. | .field .. | .indexAddr .. | .index .. | .extract .. | .slice .. => true
  | _ => false

theorem yields_of_quiet {o : Oper} {v : Value} {a : Act} (hp : readsB o.op = true) (hw : Region.wanted o (yielded ops a.tmps) = true) (h : ∀ w, C w → o.quietAt P a C w v) : YieldsIf P ops C o v a := by
  refine Or.inl ⟨hw, fun w hc => ?_⟩
  have h1 := h w hc
  unfold Oper.quietAt at h1
  have key : ∀ x : Sem Value, execOp a.eval o = (x >>= fun u => pure (Next.value u)) → (execOp a.eval o).run P w = .ok (.value v) w := by
    intro x hx
    rw [hx] at h1 ⊢
    simp only [Sem.run_bind] at h1 ⊢
    generalize x.run P w = r at h1 ⊢
    cases r with
    | ok x w' =>
      simp only [Result.andThen, Sem.run_pure, Oper.quietUpon] at h1 ⊢
      obtain ⟨rfl, rfl⟩ := h1
      rfl
    | halt x w' => simp [Result.andThen, Oper.quietUpon] at h1
  cases ho : o.op <;> simp only [ho, readsB, Bool.false_eq_true] at hp
  case move x =>
    simp only [execOp, ho, Sem.run_pure, Oper.quietUpon] at h1 ⊢
    rw [h1.2]
  case assign x =>
    simp only [execOp, ho, Sem.run_pure, Oper.quietUpon] at h1 ⊢
    rw [h1.2]
  case nilCheck x =>
    simp only [execOp, ho] at h1 ⊢
    split at h1
    · simp [runtimePanic, Oper.quietUpon] at h1
    · simp [runtimePanic, Oper.quietUpon] at h1
    · simp [runtimePanic, Oper.quietUpon] at h1
    · split at h1
      · simp [runtimePanic, Oper.quietUpon] at h1
      · simp only [Sem.run_bind] at h1 ⊢
        generalize program.run P w = r at h1 ⊢
        cases r with
        | halt x w' => simp [Result.andThen, Oper.quietUpon] at h1
        | ok q w' =>
          simp only [Result.andThen] at h1 ⊢
          generalize (nilAhead _ _ _ _).run P w' = r at h1 ⊢
          cases r with
          | halt x w' => simp [Oper.quietUpon] at h1
          | ok b w'' =>
            simp only at h1 ⊢
            split at h1
            · simp [unsupported, Oper.quietUpon] at h1
            · rename_i hb
              rw [if_neg hb]
              simp only [Sem.run_pure, Oper.quietUpon] at h1 ⊢
              rw [h1.1, h1.2]
      · simp only [Sem.run_pure, Oper.quietUpon] at h1 ⊢
        rw [h1.2]
    · simp only [Sem.run_pure, Oper.quietUpon] at h1 ⊢
      rw [h1.2]
  all_goals exact key _ (by simp only [execOp, ho]; rfl)

/-- A nil check of a pointer. -/
theorem yields_of_nilCheck {o : Oper} {v : Value} {a : Act} {x : Operand} {p : Addr} (ho : o.op = .nilCheck x) (hx : a.eval x = .pointer (some p)) (hw : Region.wanted o (yielded ops a.tmps) = true) (hv : v = .pointer (some p)) : YieldsIf P ops C o v a :=
  Or.inl ⟨hw, fun w _ => by simp [execOp, ho, hx, hv]⟩

/-- Carried out in the text's order; C holds behind each but the last. -/
def tailG (P : Program) (Q : Exit → Act → World → Prop) (C : World → Prop) : List Oper → Act → World → Prop
  | [], a, w => Q .normal a w
  | o :: r, a, w => o.wp P a w (fun a' w' => (r ≠ [] → C w') ∧ tailG P Q C r a' w') Q

theorem tail_spec : ∀ (l : List Oper) (k : Nat) (listed : Array Bool) (a : Act) (w : World), (∀ j : Nat, l[j]? = ops[k + j]?) → (l.all fun o => o.guard.isNone) = true → s = k + l.length - 1 → Region.seqB md ops l.length k listed = true → tailG P Q C l a w → wpAnyG P md ops Q C s l.length listed a w
  | [], k, listed, a, w, _, _, _, hB, h => by
    simp only [List.length_nil, Region.seqB, List.isEmpty_iff] at hB
    exact ⟨hB, h⟩
  | o :: r, k, listed, a, w, hl, hg, hs, hB, h => by
    have h0 : ops[k]? = some o := by simpa using (hl 0).symm
    simp only [List.length_cons, Region.seqB, Bool.and_eq_true, decide_eq_true_eq] at hB
    simp only [List.all_cons, Bool.and_eq_true, Option.isNone_iff_eq_none] at hg
    refine ⟨fun h1 => (by rw [hB.1] at h1; cases h1), fun i hi => ?_⟩
    rw [hB.1] at hi
    have hik : i = k := by simpa using hi
    subst hik
    have hw : wpOp P ops Q i (fun a' w' => (r ≠ [] → C w') ∧ tailG P Q C r a' w') a w := by
      unfold wpOp
      simp only [h0]
      rw [if_pos (by simp [Region.wanted, hg.1])]
      exact Or.inl h
    refine wpOp_mono (fun a' w' h' => ⟨fun hne => h'.1 (fun e => hne ?_), tail_spec r (i + 1) _ a' w' (fun j => by have := hl (j + 1); simpa [Nat.add_assoc, Nat.add_comm 1 j] using this) hg.2 (by simp only [List.length_cons] at hs; omega) hB.2 h'.2⟩) hw
    subst e
    simpa using hs.symm

theorem flag_lex {n g : Nat} {Lq : Act → Prop} (hsel : Region.noSelect ops = true) (hQ : ∀ c a w, ¬ Q (.panic c) a w) {w : World} (hC : C w) (hL : ∀ listed a, Region.seqB md ops g n listed = true → Lq a → wpAnyG P md ops Q C s g listed a w) :
    ∀ (l : List Oper) (k : Nat) (listed : Array Bool) (a : Act), (∀ j, j < l.length → l[j]? = ops[k + j]?) → k + l.length = n → (l.all fun o => o.guard.isNone && readsB o.op) = true → (∀ i, i < n → waitsB md ops s i = true) →
      Region.lexHead md ops g l.length k listed = true → wpQuiet P ops C Lq l a → wpAnyG P md ops Q C s (l.length + g) listed a w
  | [], k, listed, a, _, hk, _, _, hB, h => by
    have : k = n := by simpa using hk
    subst this
    have := hL listed a (by simpa [Region.lexHead] using hB) h
    simpa using this
  | o :: l, k, listed, a, hl, hk, hp, hw, hB, h => by
    have h0 : ops[k]? = some o := by simpa using (hl 0 (by simp)).symm
    simp only [List.length_cons, Region.lexHead, Bool.and_eq_true] at hB
    obtain ⟨⟨hr, hf⟩, hB'⟩ := hB
    simp only [List.all_cons, Bool.and_eq_true, Option.isNone_iff_eq_none] at hp
    have hwant : Region.wanted o (yielded ops a.tmps) = true := by simp [Region.wanted, hp.1.1]
    unfold wpQuiet at h
    rw [if_pos hwant] at h
    obtain ⟨v, hv, hK⟩ := h
    rw [List.length_cons, Nat.succ_add]
    refine wpAnyG_first h0 (Region.noSelect_spec hsel) (fun c a w h => absurd h (hQ _ _ _)) (hw k (by simp only [List.length_cons] at hk; omega)) _ _ _ _ (Region.free_spec h0 hf) (by simpa using hr) (yields_of_quiet hp.1.2 hwant hv) hC ?_
    exact flag_lex hsel hQ hC hL l (k + 1) _ _ (fun j hj => by have := hl (j + 1) (by simp; omega); simpa [Nat.add_assoc, Nat.add_comm 1 j] using this) (by simp only [List.length_cons] at hk; omega) hp.2 hw hB' hK

def flagB (md : Region.Mode) (l : List Oper) (n : Nat) : Bool :=
  Region.noSelect l.toArray && decide (n < l.length) && Region.lexHead md l.toArray (l.length - n) n 0 (Array.replicate l.length false) && ((l.take n).all fun o => o.guard.isNone && readsB o.op) && ((l.drop n).all fun o => o.guard.isNone) && (List.range n).all fun i => waitsB md l.toArray (l.length - 1) i

theorem wp_region_flag {id : Nat} {a : Act} {w : World} {l : List Oper} (n : Nat) (hm : P.follows .mixedOrders = true) (hB : flagB .any l n = true) (C : World → Prop) (hC : C { w with drawn := w.drawn + 1 })
    (h : wpQuiet P l.toArray C (fun a' => tailG P (NoPanic Q) C (l.drop n) a' { w with drawn := w.drawn + 1 }) (l.take n) a) : (Code.region id l.toArray true).wp P Q a w := by
  refine wp_region_noPanic (wp_region_any hm (wpAny_of_flag (C := C) (s := l.length - 1) _ _ _ _ ?_))
  simp only [flagB, Bool.and_eq_true, decide_eq_true_eq, List.all_eq_true, List.mem_range] at hB
  obtain ⟨⟨⟨⟨⟨h1, h2⟩, h3⟩, h4⟩, h5⟩, h6⟩ := hB
  have ht : (l.take n).length = n := by simp; omega
  have hd : (l.drop n).length = l.length - n := by simp
  have := flag_lex (Q := NoPanic Q) (g := l.length - n) h1 (fun c a w h => h) hC (fun listed a' hs hL => by
    have := tail_spec (P := P) (Q := NoPanic Q) (C := C) (md := .any) (ops := l.toArray) (s := l.length - 1) (l.drop n) n listed a' _ (fun j => by simp [List.getElem?_drop]) (by simpa [List.all_eq_true] using h5) (by rw [hd]; omega) (by rw [hd]; exact hs) hL
    rw [hd] at this
    exact this) (l.take n) 0 (Array.replicate l.length false) a (fun j hj => by
      have hj' : j < n := by rw [ht] at hj; exact hj
      simp [hj']) (by rw [ht]; omega) (by simpa [List.all_eq_true] using h4) (fun i hi => h6 i hi) (by rw [ht]; exact h3) h
  rw [ht, show n + (l.length - n) = l.length by omega] at this
  simpa using this

/-- One cell read inside a region that draws its order. -/
theorem wpQuiet_load_one {rest : List Oper} {o : Oper} {a : Act} {Lq : Act → Prop} (hgd : o.guard = none) (x : Operand) (t : TypeId) (ho : o.op = .load t x) (ad : Addr) (v : Value) (hx : a.eval x = .pointer (some ad)) (hagg : ∀ w, (isAgg t).run P w = .ok false w)
    (hc : ∀ w, C w → w.cell? ad = some v) (h : wpQuiet P ops C Lq rest (a.put o.dst v)) : wpQuiet P ops C Lq (o :: rest) a := by
  refine wpQuiet_step fun K hK => ?_
  rw [if_pos (by simp [Region.wanted, hgd])]
  refine ⟨v, fun w hw => ?_, hK _ h⟩
  have hcw := hc w hw
  have hrun : (loadVar t ad).run P w = .ok v w := by simp [loadVar, hagg, Result.andThen, go_sem, hcw]
  unfold Oper.quietAt
  simp [execOp, ho, hx, Instr.loadAt, Instr.sureAddr, hrun, Result.andThen, Oper.quietUpon]

theorem wp_of_run {o : Oper} {a : Act} {w w' : World} {K : Act → World → Prop} {v : Value} (h : (execOp a.eval o).run P w = .ok (.value v) w') (hK : K (a.put o.dst v) w') : o.wp P a w K Q := by
  unfold Oper.wp
  rw [h]
  exact hK
theorem wp_of_skip {o : Oper} {a : Act} {w w' : World} {K : Act → World → Prop} (h : (execOp a.eval o).run P w = .ok .skip w') (hK : K (a.put o.dst undef) w') : o.wp P a w K Q := by
  unfold Oper.wp
  rw [h]
  exact hK
end

end Go.Proofs.Ytkencmijghigiaa
