/-
  The law of XFlag, where the head may ask a slice for its length too.
-/
import Derived.Test.YtjhpbemnklpefaaMBase
namespace Go.Proofs.Ytjhpbemnklpefaa
open Go.RowKit

section
variable {P : Program} {ops : Array Oper} {Q : Exit → Act → World → Prop} {md : Region.Mode} {C : World → Prop} {s : Nat}

def lenB : Op → Bool
  | .call c => match c.callee with | .builtin .len => true | _ => false
  | _ => false
/-- Operations that read at most, len among them. -/
def readsL (o : Op) : Bool := readsB o || lenB o
theorem yields_of_quietL {o : Oper} {v : Value} {a : Act} (hp : readsL o.op = true) (hw : Region.wanted o (yielded ops a.tmps) = true) (h : ∀ w, C w → o.quietAt P a C w v) : YieldsIf P ops C o v a := by
  unfold readsL at hp
  rcases Bool.or_eq_true _ _ ▸ hp with h0 | h0
  · exact yields_of_quiet h0 hw h
  refine Or.inl ⟨hw, fun w hc => ?_⟩
  have h1 := h w hc
  unfold Oper.quietAt at h1
  obtain ⟨x, hx⟩ : ∃ x : Sem Value, execOp a.eval o = (x >>= fun u => pure (Next.value u)) := by
    cases ho : o.op <;> simp only [ho, lenB, Bool.false_eq_true] at h0
    rename_i c
    obtain ⟨callee, args, tys⟩ := c
    cases callee <;> simp only [Bool.false_eq_true] at h0
    rename_i b
    cases b <;> simp only [Bool.false_eq_true] at h0
    exact ⟨_, by simp only [execOp, ho]; rfl⟩
  rw [hx] at h1 ⊢
  simp only [Sem.run_bind] at h1 ⊢
  generalize x.run P w = r at h1 ⊢
  cases r with
  | ok x w' =>
    simp only [Result.andThen, Sem.run_pure, Oper.quietUpon] at h1 ⊢
    obtain ⟨rfl, rfl⟩ := h1
    rfl
  | halt x w' => simp [Result.andThen, Oper.quietUpon] at h1

theorem flag_lexL {n g : Nat} {Lq : Act → Prop} (hsel : Region.noSelect ops = true) (hQ : ∀ c a w, ¬ Q (.panic c) a w) {w : World} (hC : C w) (hL : ∀ listed a, Region.seqB md ops g n listed = true → Lq a → wpAnyG P md ops Q C s g listed a w) :
    ∀ (l : List Oper) (k : Nat) (listed : Array Bool) (a : Act), (∀ j, j < l.length → l[j]? = ops[k + j]?) → k + l.length = n → (l.all fun o => o.guard.isNone && readsL o.op) = true → (∀ i, i < n → waitsB md ops s i = true) →
      Region.lexHead md ops g l.length k listed = true → wpQuiet P ops C Lq l a → wpAnyG P md ops Q C s (l.length + g) listed a w
  | [], k, listed, a, _, hk, _, _, hB, h => by
    have : k = n := by simpa using hk
    subst this
    have := hL listed a (by simpa [Region.lexHead] using hB) h
    simpa using this
  | o :: l, k, listed, a, hl, hk, hp, hw, hB, h => by
    have h0 : ops[k]? = some o := by simpa using (hl 0 (by simp)).symm
    simp only [List.length_cons, Region.lexHead, Bool.and_eq_true] at hB
    obtain ⟨⟨hr, hf⟩, hB'⟩ := hB
    simp only [List.all_cons, Bool.and_eq_true, Option.isNone_iff_eq_none] at hp
    have hwant : Region.wanted o (yielded ops a.tmps) = true := by simp [Region.wanted, hp.1.1]
    unfold wpQuiet at h
    rw [if_pos hwant] at h
    obtain ⟨v, hv, hK⟩ := h
    rw [List.length_cons, Nat.succ_add]
    refine wpAnyG_first h0 (Region.noSelect_spec hsel) (fun c a w h => absurd h (hQ _ _ _)) (hw k (by simp only [List.length_cons] at hk; omega)) _ _ _ _ (Region.free_spec h0 hf) (by simpa using hr) (yields_of_quietL hp.1.2 hwant hv) hC ?_
    exact flag_lexL hsel hQ hC hL l (k + 1) _ _ (fun j hj => by have := hl (j + 1) (by simp; omega); simpa [Nat.add_assoc, Nat.add_comm 1 j] using this) (by simp only [List.length_cons] at hk; omega) hp.2 hw hB' hK

def flagBL (md : Region.Mode) (l : List Oper) (n : Nat) : Bool :=
  Region.noSelect l.toArray && decide (n < l.length) && Region.lexHead md l.toArray (l.length - n) n 0 (Array.replicate l.length false) && ((l.take n).all fun o => o.guard.isNone && readsL o.op) && ((l.drop n).all fun o => o.guard.isNone) && (List.range n).all fun i => waitsB md l.toArray (l.length - 1) i

theorem wp_region_flagL {id : Nat} {a : Act} {w : World} {l : List Oper} (n : Nat) (hm : P.follows .mixedOrders = true) (hB : flagBL .any l n = true) (C : World → Prop) (hC : C { w with drawn := w.drawn + 1 })
    (h : wpQuiet P l.toArray C (fun a' => tailG P (NoPanic Q) C (l.drop n) a' { w with drawn := w.drawn + 1 }) (l.take n) a) : (Code.region id l.toArray true).wp P Q a w := by
  refine wp_region_noPanic (wp_region_any hm (wpAny_of_flag (C := C) (s := l.length - 1) _ _ _ _ ?_))
  simp only [flagBL, Bool.and_eq_true, decide_eq_true_eq, List.all_eq_true, List.mem_range] at hB
  obtain ⟨⟨⟨⟨⟨h1, h2⟩, h3⟩, h4⟩, h5⟩, h6⟩ := hB
  have ht : (l.take n).length = n := by simp; omega
  have hd : (l.drop n).length = l.length - n := by simp
  have := flag_lexL (Q := NoPanic Q) (g := l.length - n) h1 (fun c a w h => h) hC (fun listed a' hs hL => by
    have := tail_spec (P := P) (Q := NoPanic Q) (C := C) (md := .any) (ops := l.toArray) (s := l.length - 1) (l.drop n) n listed a' _ (fun j => by simp [List.getElem?_drop]) (by simpa [List.all_eq_true] using h5) (by rw [hd]; omega) (by rw [hd]; exact hs) hL
    rw [hd] at this
    exact this) (l.take n) 0 (Array.replicate l.length false) a (fun j hj => by
      have hj' : j < n := by rw [ht] at hj; exact hj
      simp [hj']) (by rw [ht]; omega) (by simpa [List.all_eq_true] using h4) (fun i hi => h6 i hi) (by rw [ht]; exact h3) h
  rw [ht, show n + (l.length - n) = l.length by omega] at this
  simpa using this

end

end Go.Proofs.Ytjhpbemnklpefaa
