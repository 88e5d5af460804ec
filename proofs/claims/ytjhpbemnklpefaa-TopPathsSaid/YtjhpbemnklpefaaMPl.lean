/-
  Texts of this claim laid together: TpR, TpQ, TpC.
-/
import Derived.Test.YtjhpbemnklpefaaMTpZ
namespace Go.Proofs.Ytjhpbemnklpefaa.Plain

/-- The nodes of a route that begins at a. -/
def nx (T : Tp) (a : Nat) (r : List Nat) : Nat → Nat
  | 0 => a
  | i + 1 => T.to (r.getD i 0)
structure PW (T : Tp) (a : Nat) (r : List Nat) (n : Nat) : Prop where
  le : r.length ≤ 8
  pt : ∀ i, i < r.length → r.getD i 0 < T.pn ∧ T.fr (r.getD i 0) = nx T a r i
  inj : ∀ i j, i ≤ r.length → j ≤ r.length → nx T a r i = nx T a r j → i = j
  inn : ∀ i, 0 < i → i < r.length → T.st (nx T a r i) = false
  lst : nx T a r r.length = n
theorem getD_append_lt {r s : List Nat} {i : Nat} (h : i < r.length) : (r ++ s).getD i 0 = r.getD i 0 := by
  simp [List.getD_eq_getElem?_getD, List.getElem?_append_left h]
theorem getD_append_end {r : List Nat} {p : Nat} : (r ++ [p]).getD r.length 0 = p := by
  simp [List.getD_eq_getElem?_getD]
theorem nx_append {T : Tp} {a : Nat} {r s : List Nat} {i : Nat} (h : i ≤ r.length) : nx T a (r ++ s) i = nx T a r i := by
  cases i with
  | zero => rfl
  | succ i =>
    show T.to ((r ++ s).getD i 0) = T.to (r.getD i 0)
    rw [getD_append_lt (by omega)]
theorem nx_end {T : Tp} {a : Nat} {r : List Nat} {p : Nat} : nx T a (r ++ [p]) (r.length + 1) = T.to p := by
  show T.to ((r ++ [p]).getD r.length 0) = T.to p
  rw [getD_append_end]
theorem PW.nil (T : Tp) (a : Nat) : PW T a [] a :=
  ⟨by simp, fun i h => absurd h (by simp), fun i j hi hj _ => by simp at hi hj; omega, fun i h1 h2 => absurd h2 (by simp), rfl⟩
theorem PW.snoc {T : Tp} {a : Nat} {r : List Nat} {n p : Nat} (h : PW T a r n) (hl : r.length < 8) (hp : p < T.pn) (hf : T.fr p = n) (hn : ∀ i, i ≤ r.length → nx T a r i ≠ T.to p) (hs : 0 < r.length → T.st n = false) : PW T a (r ++ [p]) (T.to p) := by
  have hlen : (r ++ [p]).length = r.length + 1 := by simp
  refine ⟨by omega, fun i hi => ?_, fun i j hi hj e => ?_, fun i h1 h2 => ?_, by rw [hlen]; exact nx_end⟩
  · rw [hlen] at hi
    by_cases e : i = r.length
    · subst e
      rw [getD_append_end, nx_append (Nat.le_refl _), h.lst]
      exact ⟨hp, hf⟩
    · rw [getD_append_lt (by omega), nx_append (by omega)]
      exact h.pt i (by omega)
  · rw [hlen] at hi hj
    by_cases ei : i = r.length + 1
    · by_cases ej : j = r.length + 1
      · omega
      · rw [ei, nx_end, nx_append (by omega)] at e
        exact absurd e.symm (hn j (by omega))
    · by_cases ej : j = r.length + 1
      · rw [ej, nx_end, nx_append (by omega)] at e
        exact absurd e (hn i (by omega))
      · rw [nx_append (by omega), nx_append (by omega)] at e
        exact h.inj i j (by omega) (by omega) e
  · rw [hlen] at h2
    rw [nx_append (by omega)]
    by_cases e : i = r.length
    · rw [e, h.lst]
      exact hs (by omega)
    · exact h.inn i h1 (by omega)
theorem PW.split {T : Tp} {a : Nat} {r : List Nat} {p m : Nat} (h : PW T a (r ++ [p]) m) : PW T a r (T.fr p) ∧ T.to p = m ∧ p < T.pn ∧ (0 < r.length → T.st (T.fr p) = false) ∧ T.to p ≠ a := by
  have hlen : (r ++ [p]).length = r.length + 1 := by simp
  have e1 := h.pt r.length (by omega)
  rw [getD_append_end, nx_append (Nat.le_refl _)] at e1
  have e2 := h.lst
  rw [hlen, nx_end] at e2
  refine ⟨⟨by have := h.le; omega, fun i hi => ?_, fun i j hi hj e => ?_, fun i h1 h2 => ?_, e1.2.symm⟩, e2, e1.1, fun h0 => ?_, fun e => ?_⟩
  · have := h.pt i (by omega)
    rw [getD_append_lt hi, nx_append (by omega)] at this
    exact this
  · exact h.inj i j (by omega) (by omega) (by rw [nx_append hi, nx_append hj]; exact e)
  · have := h.inn i h1 (by omega)
    rwa [nx_append (by omega)] at this
  · have := h.inn r.length h0 (by omega)
    rw [nx_append (Nat.le_refl _)] at this
    rw [e1.2]
    exact this
  · have := h.inj (r.length + 1) 0 (by omega) (by omega) (by rw [nx_end]; exact e)
    omega
theorem PW.costOk {T : Tp} {a : Nat} {r : List Nat} {n : Nat} (h : PW T a r n) : CostOk T r := ⟨by have := h.le; omega, fun i hi => (h.pt i hi).1⟩
theorem fr_lt {T : Tp} (hk : OkT T) {p : Nat} (hp : p < T.pn) : T.fr p < T.n ∧ T.to p < T.n ∧ T.fr p ≠ T.to p := by
  unfold Tp.pn at hp
  have := hk.ok (p / 2) (by omega)
  have h1 := this.a; have h2 := this.b; have h3 := this.ne
  unfold Tp.fr Tp.to
  split
  · exact ⟨h1, h2, h3⟩
  · exact ⟨h2, h1, Ne.symm h3⟩
theorem half_eq {T : Tp} {p q : Nat} (h : p / 2 = q / 2) (hne : p ≠ q) : T.fr p = T.to q := by
  unfold Tp.fr Tp.to
  rw [h]
  by_cases e : p % 2 = 0
  · rw [if_pos e, if_neg (by omega)]
  · rw [if_neg e, if_pos (by omega)]
/-- No link twice in a route. -/
theorem PW.link {T : Tp} {a : Nat} {r : List Nat} {n : Nat} (h : PW T a r n) {i j : Nat} (hi : i < r.length) (hj : j < r.length) (e : r.getD i 0 / 2 = r.getD j 0 / 2) : i = j := by
  by_cases hne : r.getD i 0 = r.getD j 0
  · have := h.inj (i + 1) (j + 1) (by omega) (by omega) (by show T.to _ = T.to _; rw [hne])
    omega
  · have h1 := half_eq (T := T) e hne
    have h2 := half_eq (T := T) e.symm (Ne.symm hne)
    rw [(h.pt i hi).2] at h1
    rw [(h.pt j hj).2] at h2
    have e1 := h.inj i (j + 1) (by omega) (by omega) h1
    have e2 := h.inj j (i + 1) (by omega) (by omega) h2
    omega

/-- Two routes with the same ends, apart. -/
def AP (T : Tp) (r s : List Nat) : Prop := ∀ i j, i < r.length → j < s.length → r.getD i 0 / 2 ≠ s.getD j 0 / 2 ∧ (i + 1 < r.length → j + 1 < s.length → T.to (r.getD i 0) ≠ T.to (s.getD j 0))
theorem AP.symm {T : Tp} {r s : List Nat} (h : AP T r s) : AP T s r := fun i j hi hj => ⟨Ne.symm (h j i hj hi).1, fun h1 h2 => Ne.symm ((h j i hj hi).2 h2 h1)⟩
theorem AP.meets {T : Tp} {a b : Nat} {r s : List Nat} (h : AP T r s) (hr : PW T a r b) (hs : PW T a s b) {i j : Nat} (h0 : 0 < i) (hi : i < r.length) (hj : j ≤ s.length) : nx T a r i ≠ nx T a s j := by
  intro e
  by_cases j0 : j = 0
  · subst j0
    have := hr.inj i 0 (by omega) (by omega) e
    omega
  · by_cases jl : j = s.length
    · rw [jl, hs.lst, ← hr.lst] at e
      have := hr.inj i r.length (by omega) (by omega) e
      omega
    · obtain ⟨i', rfl⟩ : ∃ i', i = i' + 1 := ⟨i - 1, by omega⟩
      obtain ⟨j', rfl⟩ : ∃ j', j = j' + 1 := ⟨j - 1, by omega⟩
      exact (h i' j' (by omega) (by omega)).2 (by omega) (by omega) e

/-! Counting. -/
def cntN (f : Nat → Bool) : Nat → Nat
  | 0 => 0
  | n + 1 => cntN f n + if f n then 1 else 0
theorem cntN_zero {f : Nat → Bool} : ∀ {n : Nat}, (∀ i, i < n → f i = false) → cntN f n = 0
  | 0, _ => rfl
  | n + 1, h => by rw [cntN, cntN_zero (fun i hi => h i (by omega)), h n (by omega)]; rfl
theorem cntN_one {f : Nat → Bool} : ∀ {n : Nat}, (∀ i j, i < n → j < n → f i = true → f j = true → i = j) → cntN f n ≤ 1
  | 0, _ => Nat.zero_le _
  | n + 1, h => by
    rw [cntN]
    cases e : f n with
    | false =>
      have := cntN_one (n := n) (fun i j hi hj => h i j (by omega) (by omega))
      simpa using this
    | true =>
      rw [cntN_zero (fun i hi => by
        cases e2 : f i with
        | false => rfl
        | true => have := h i n (by omega) (by omega) e2 e; omega)]
      simp
theorem cntN_le (f : Nat → Bool) : ∀ n, cntN f n ≤ n
  | 0 => Nat.le_refl _
  | n + 1 => by
    have := cntN_le f n
    rw [cntN]
    split <;> omega
theorem cntN_two {f g : Nat → Bool} {n m : Nat} (hf : ∀ i j, i < n → j < n → f i = true → f j = true → i = j) (hg : ∀ i j, i < m → j < m → g i = true → g j = true → i = j) (hfg : ∀ i j, i < n → j < m → f i = true → g j = true → False) : cntN f n + cntN g m ≤ 1 := by
  by_cases h : ∃ i, i < n ∧ f i = true
  · obtain ⟨i, hi, e⟩ := h
    have h1 := cntN_one hf
    rw [cntN_zero (f := g) (fun j hj => by
      cases e2 : g j with
      | false => rfl
      | true => exact (hfg i j hi hj e e2).elim)]
    omega
  · have h1 := cntN_one hg
    rw [cntN_zero (f := f) (fun i hi => by
      cases e2 : f i with
      | false => rfl
      | true => exact (h ⟨i, hi, e2⟩).elim)]
    omega
/-- A link is used once at most. -/
theorem hit_one {T : Tp} {a b c : Nat} {r s : List Nat} (h : AP T r s) (hr : PW T a r b) (hs : PW T a s b) : cntN (fun i => decide (r.getD i 0 / 2 = c)) r.length + cntN (fun i => decide (s.getD i 0 / 2 = c)) s.length ≤ 1 :=
  cntN_two (fun i j hi hj e1 e2 => hr.link hi hj ((of_decide_eq_true e1).trans (of_decide_eq_true e2).symm)) (fun i j hi hj e1 e2 => hs.link hi hj ((of_decide_eq_true e1).trans (of_decide_eq_true e2).symm))
    (fun i j hi hj e1 e2 => (h i j hi hj).1 ((of_decide_eq_true e1).trans (of_decide_eq_true e2).symm))
/-- A node is passed once at most. -/
theorem met_one {T : Tp} {a b c : Nat} {r s : List Nat} (h : AP T r s) (hr : PW T a r b) (hs : PW T a s b) : cntN (fun i => decide (nx T a r i = c ∧ nx T a r i ≠ a ∧ nx T a r i ≠ b)) (r.length + 1) + cntN (fun i => decide (nx T a s i = c ∧ nx T a s i ≠ a ∧ nx T a s i ≠ b)) (s.length + 1) ≤ 1 := by
  refine cntN_two (fun i j hi hj e1 e2 => ?_) (fun i j hi hj e1 e2 => ?_) (fun i j hi hj e1 e2 => ?_)
  · exact hr.inj i j (by omega) (by omega) ((of_decide_eq_true e1).1.trans (of_decide_eq_true e2).1.symm)
  · exact hs.inj i j (by omega) (by omega) ((of_decide_eq_true e1).1.trans (of_decide_eq_true e2).1.symm)
  · obtain ⟨h1, h2, h3⟩ := of_decide_eq_true e1
    obtain ⟨h4, _, _⟩ := of_decide_eq_true e2
    have i0 : i ≠ 0 := fun e => h2 (by rw [e]; rfl)
    have il : i ≠ r.length := fun e => h3 (by rw [e]; exact hr.lst)
    exact h.meets hr hs (by omega) (by omega) (by omega : j ≤ s.length) (h1.trans h4.symm)

end Go.Proofs.Ytjhpbemnklpefaa.Plain

namespace Go.Proofs.Ytjhpbemnklpefaa.Plain

abbrev Bst := Nat → Option (List Nat)
/-- Whether a port is looked at: it leads on from a node that is reached. -/
def goes (T : Tp) (a : Nat) (best : Bst) (p : Nat) : Bool := decide (T.to p ≠ a) && (decide (T.fr p = a) || ((best (T.fr p)).isSome && !T.st (T.fr p)))
def newR (T : Tp) (best : Bst) (p : Nat) : List Nat := (best (T.fr p)).getD [] ++ [p]
def takes (T : Tp) (next : Bst) (m : Nat) (r : List Nat) : Bool := match next m with
  | none => true
  | some s => decide (cmpR T r s < 0)
def rlx (T : Tp) (a : Nat) (best : Bst) (st : Bst × Bool) (p : Nat) : Bst × Bool :=
  if goes T a best p = true ∧ takes T st.1 (T.to p) (newR T best p) = true then (upd st.1 (T.to p) (some (newR T best p)), true) else st
def rnd (T : Tp) (a : Nat) (best : Bst) : Nat → Bst × Bool
  | 0 => (best, false)
  | p + 1 => rlx T a best (rnd T a best p) p
def lst (T : Tp) (a : Nat) : Nat → Bst → Bst
  | 0, b => b
  | k + 1, b => if (rnd T a b T.pn).2 = true then lst T a k (rnd T a b T.pn).1 else b

/-- What a round begins with. -/
structure BI (T : Tp) (a k : Nat) (best : Bst) : Prop where
  nil : best a = none
  pw : ∀ m r, best m = some r → PW T a r m ∧ 1 ≤ r.length ∧ r.length ≤ k
  pre : ∀ m r, best m = some r → ∀ i, 0 < i → i < r.length → ∃ r', best (nx T a r i) = some r' ∧ costR T r' ≤ costR T (r.take i)
  all : ∀ m r, PW T a r m → 1 ≤ r.length → r.length ≤ k → best m ≠ none
/-- What holds within a round. -/
structure NI (T : Tp) (a k : Nat) (best : Bst) (p : Nat) (next : Bst) : Prop where
  nil : next a = none
  pw : ∀ m r, next m = some r → PW T a r m ∧ 1 ≤ r.length ∧ r.length ≤ k + 1
  le : ∀ m r0, best m = some r0 → ∃ r, next m = some r ∧ costR T r ≤ costR T r0
  pre : ∀ m r, next m = some r → ∀ i, 0 < i → i < r.length → ∃ r', best (nx T a r i) = some r' ∧ costR T r' ≤ costR T (r.take i)
  got : ∀ q, q < p → goes T a best q = true → next (T.to q) ≠ none

theorem cost_append (T : Tp) (r : List Nat) (p : Nat) : costR T (r ++ [p]) = costR T r + 1 + (T.lk (p / 2)).dly := by
  unfold costR
  rw [List.length_append, List.map_append, List.sum_append]
  simp
  omega
theorem cost_take_le (T : Tp) : ∀ (r : List Nat) (i : Nat), costR T (r.take i) ≤ costR T r
  | [], i => by simp
  | x :: r, 0 => by simp [costR]
  | x :: r, i + 1 => by
    have := cost_take_le T r i
    unfold costR at this ⊢
    simp only [List.take_succ_cons, List.length_cons, List.map_cons, List.sum_cons]
    omega
theorem NI.start {T : Tp} {a k : Nat} {best : Bst} (h : BI T a k best) : NI T a k best 0 best :=
  ⟨h.nil, fun m r e => ⟨(h.pw m r e).1, (h.pw m r e).2.1, by have := (h.pw m r e).2.2; omega⟩, fun m r0 e => ⟨r0, e, Nat.le_refl _⟩, h.pre, fun q hq => absurd hq (Nat.not_lt_zero q)⟩

theorem NI.step {T : Tp} (hk : OkT T) {a k : Nat} (hk8 : k < 8) {best : Bst} (hb : BI T a k best) {p : Nat} (hp : p < T.pn) {st : Bst × Bool} (h : NI T a k best p st.1) : NI T a k best (p + 1) (rlx T a best st p).1 := by
  have hlt := fr_lt hk hp
  unfold rlx
  by_cases hc : goes T a best p = true ∧ takes T st.1 (T.to p) (newR T best p) = true
  · rw [if_pos hc]
    obtain ⟨hg, ht⟩ := hc
    have hg' := hg
    unfold goes at hg'
    simp only [Bool.and_eq_true, decide_eq_true_eq, Bool.or_eq_true, Bool.not_eq_true'] at hg'
    obtain ⟨hma, hn⟩ := hg'
    -- the route to the port's node
    obtain ⟨r0, hr0, hpw, hl0, hst, hpre⟩ : ∃ r0, newR T best p = r0 ++ [p] ∧ PW T a r0 (T.fr p) ∧ r0.length ≤ k ∧ (0 < r0.length → T.st (T.fr p) = false) ∧
        (∀ i, 0 < i → i ≤ r0.length → ∃ r', best (nx T a r0 i) = some r' ∧ costR T r' ≤ costR T (r0.take i)) := by
      by_cases e : T.fr p = a
      · refine ⟨[], ?_, by rw [e]; exact PW.nil T a, Nat.zero_le _, fun h => absurd h (by simp), fun i h1 h2 => absurd h2 (by simp; omega)⟩
        unfold newR
        rw [e, hb.nil]
        rfl
      · obtain ⟨hs, hst⟩ : (best (T.fr p)).isSome = true ∧ T.st (T.fr p) = false := hn.resolve_left e
        obtain ⟨r0, hr0⟩ := Option.isSome_iff_exists.1 hs
        obtain ⟨q1, q2, q3⟩ := hb.pw _ _ hr0
        refine ⟨r0, by unfold newR; rw [hr0]; rfl, q1, q3, fun _ => hst, fun i h1 h2 => ?_⟩
        by_cases ei : i = r0.length
        · rw [ei, q1.lst, List.take_length]
          exact ⟨r0, hr0, Nat.le_refl _⟩
        · exact hb.pre _ _ hr0 i h1 (by omega)
    have hfresh : ∀ i, i ≤ r0.length → nx T a r0 i ≠ T.to p := by
      intro i hi e
      by_cases i0 : i = 0
      · subst i0
        exact hma e.symm
      · obtain ⟨r', h1, h2⟩ := hpre i (by omega) hi
        rw [e] at h1
        obtain ⟨r'', h3, h4⟩ := h.le _ _ h1
        unfold takes at ht
        rw [h3] at ht
        have h5 := cmpR_neg (of_decide_eq_true ht)
        rw [hr0, cost_append] at h5
        have h6 := cost_take_le T r0 i
        omega
    have hnew : PW T a (r0 ++ [p]) (T.to p) := hpw.snoc (by omega) hp rfl hfresh hst
    have hlen : (r0 ++ [p]).length = r0.length + 1 := by simp
    rw [hr0] at ht ⊢
    show NI T a k best (p + 1) (upd st.1 (T.to p) (some (r0 ++ [p])))
    refine ⟨?_, fun m r e => ?_, fun m s e => ?_, fun m r e i h1 h2 => ?_, fun q hq hgq => ?_⟩
    · rw [upd_ne _ _ (Ne.symm hma)]
      exact h.nil
    · by_cases em : m = T.to p
      · subst em
        rw [upd_same] at e
        cases e
        exact ⟨hnew, by omega, by omega⟩
      · rw [upd_ne _ _ em] at e
        exact h.pw m r e
    · by_cases em : m = T.to p
      · subst em
        obtain ⟨s', h1, h2⟩ := h.le _ _ e
        unfold takes at ht
        rw [h1] at ht
        have h3 := cmpR_neg (of_decide_eq_true ht)
        exact ⟨_, upd_same _ _ _, by omega⟩
      · rw [upd_ne _ _ em]
        exact h.le m s e
    · by_cases em : m = T.to p
      · subst em
        rw [upd_same] at e
        cases e
        rw [hlen] at h2
        obtain ⟨r', h3, h4⟩ := hpre i h1 (by omega)
        rw [nx_append (by omega), List.take_append_of_le_length (by omega)]
        exact ⟨r', h3, h4⟩
      · rw [upd_ne _ _ em] at e
        exact h.pre m r e i h1 h2
    · by_cases em : T.to q = T.to p
      · rw [em, upd_same]
        simp
      · rw [upd_ne _ _ em]
        by_cases eq : q = p
        · subst eq
          exact absurd rfl em
        · exact h.got q (by omega) hgq
  · rw [if_neg hc]
    refine ⟨h.nil, h.pw, h.le, h.pre, fun q hq hgq => ?_⟩
    by_cases eq : q = p
    · subst eq
      intro e
      refine hc ⟨hgq, ?_⟩
      unfold takes
      rw [e]
    · exact h.got q (by omega) hgq
theorem rnd_ni {T : Tp} (hk : OkT T) {a k : Nat} (hk8 : k < 8) {best : Bst} (hb : BI T a k best) : ∀ p, p ≤ T.pn → NI T a k best p (rnd T a best p).1
  | 0, _ => NI.start hb
  | p + 1, h => NI.step hk hk8 hb (by omega) (rnd_ni hk hk8 hb p (by omega))
theorem rnd_same {T : Tp} {a : Nat} {best : Bst} : ∀ p, (rnd T a best p).2 = false → (rnd T a best p).1 = best
  | 0, _ => rfl
  | p + 1, h => by
    have e : rnd T a best (p + 1) = rlx T a best (rnd T a best p) p := rfl
    rw [e] at h ⊢
    unfold rlx at h ⊢
    split at h
    · cases h
    · rename_i hc
      rw [if_neg hc]
      exact rnd_same p h

/-- The last port of a route. -/
theorem snoc_of {r : List Nat} (h : 1 ≤ r.length) : ∃ r' p, r = r' ++ [p] := by
  rcases List.eq_nil_or_concat r with e | ⟨r', p, e⟩
  · subst e
    simp at h
  · exact ⟨r', p, by rw [e]; simp⟩
theorem NI.next {T : Tp} {a k : Nat} {best next : Bst} (hb : BI T a k best) (h : NI T a k best T.pn next) : BI T a (k + 1) next := by
  refine ⟨h.nil, h.pw, fun m r e i h1 h2 => ?_, fun m r hr h1 h2 => ?_⟩
  · obtain ⟨r', h3, h4⟩ := h.pre m r e i h1 h2
    obtain ⟨r'', h5, h6⟩ := h.le _ _ h3
    exact ⟨r'', h5, by omega⟩
  · obtain ⟨r', p, rfl⟩ := snoc_of h1
    have hlen : (r' ++ [p]).length = r'.length + 1 := by simp
    obtain ⟨q1, q2, q3, q4, q5⟩ := hr.split
    rw [← q2]
    refine h.got p q3 ?_
    unfold goes
    rw [decide_eq_true q5, Bool.true_and]
    by_cases e : T.fr p = a
    · rw [decide_eq_true e]
      rfl
    · have hl : 1 ≤ r'.length := by
        cases hr' : r'.length with
        | zero =>
          have := q1.lst
          rw [hr'] at this
          exact absurd this.symm e
        | succ n => omega
      have hn := hb.all _ _ q1 hl (by omega)
      rw [q4 (by omega)]
      cases hbe : best (T.fr p) with
      | none => exact absurd hbe hn
      | some s => simp
/-- Behind the rounds. -/
theorem lst_bi {T : Tp} (hk : OkT T) {a : Nat} : ∀ (j k : Nat) (best : Bst), k + j = 8 → BI T a k best → ∃ k', BI T a k' (lst T a j best) ∧ k' ≤ 8 ∧ ∀ m r, PW T a r m → 1 ≤ r.length → lst T a j best m ≠ none
  | 0, k, best, hj, hb => ⟨k, hb, by omega, fun m r hr h1 => hb.all m r hr h1 (by have := hr.le; omega)⟩
  | j + 1, k, best, hj, hb => by
    have hn := rnd_ni hk (by omega) hb T.pn (Nat.le_refl _)
    have hx := NI.next hb hn
    unfold lst
    cases hs : (rnd T a best T.pn).2 with
    | true =>
      rw [if_pos rfl]
      exact lst_bi hk j (k + 1) _ (by omega) hx
    | false =>
      rw [if_neg Bool.false_ne_true]
      have he := rnd_same (T := T) (a := a) (best := best) T.pn hs
      refine ⟨k, hb, by omega, ?_⟩
      -- nothing turns any more
      have key : ∀ n, ∀ m r, PW T a r m → 1 ≤ r.length → r.length ≤ n → best m ≠ none := by
        intro n
        induction n with
        | zero => intro m r _ h1 h2; omega
        | succ n ih =>
          intro m r hr h1 h2
          obtain ⟨r', p, rfl⟩ := snoc_of h1
          have hlen : (r' ++ [p]).length = r'.length + 1 := by simp
          obtain ⟨q1, q2, q3, q4, q5⟩ := hr.split
          have hg := hn.got p q3
          rw [he, q2] at hg
          refine hg ?_
          unfold goes
          rw [decide_eq_true q5, Bool.true_and]
          by_cases e : T.fr p = a
          · rw [decide_eq_true e]
            rfl
          · have hl : 1 ≤ r'.length := by
              cases hr' : r'.length with
              | zero =>
                have := q1.lst
                rw [hr'] at this
                exact absurd this.symm e
              | succ n => omega
            have hn' := ih _ _ q1 hl (by omega)
            rw [q4 (by omega)]
            cases hbe : best (T.fr p) with
            | none => exact absurd hbe hn'
            | some s => simp
      exact fun m r hr h1 => key r.length m r hr h1 (Nat.le_refl _)
def leastP (T : Tp) (a b : Nat) : Option (List Nat) := lst T a 8 (fun _ => none) b
theorem bi_start (T : Tp) (a : Nat) : BI T a 0 (fun _ => none) := ⟨rfl, (fun m r e => by cases e), (fun m r e => by cases e), (fun m r _ h1 h2 => by omega)⟩
theorem least_some {T : Tp} (hk : OkT T) {a b : Nat} {r : List Nat} (h : leastP T a b = some r) : PW T a r b ∧ 1 ≤ r.length := by
  obtain ⟨k', hb, _, _⟩ := lst_bi hk 8 0 (fun _ => none) rfl (bi_start T a)
  have := hb.pw b r h
  exact ⟨this.1, this.2.1⟩
theorem least_none {T : Tp} (hk : OkT T) {a b : Nat} (h : leastP T a b = none) {r : List Nat} (hr : PW T a r b) (h1 : 1 ≤ r.length) : False := by
  obtain ⟨k', hb, _, hall⟩ := lst_bi hk 8 0 (fun _ => none) rfl (bi_start T a)
  exact hall b r hr h1 h

end Go.Proofs.Ytjhpbemnklpefaa.Plain

namespace Go.Proofs.Ytjhpbemnklpefaa.Plain

def exts (T : Tp) (a b : Nat) : Nat → List Nat → Nat → (Nat → Bool) → List (List Nat)
  | 0, r, n, _ => if n = b then [r] else []
  | k + 1, r, n, s => if n = b then [r] else if n ≠ a ∧ T.st n = true then [] else
      (List.range T.pn).flatMap fun p => if T.fr p = n ∧ upd s n true (T.to p) = false then exts T a b k (r ++ [p]) (T.to p) (upd s n true) else []
/-- What the ports below p have brought. -/
def extTo (T : Tp) (a b k : Nat) (r : List Nat) (n : Nat) (s : Nat → Bool) (p : Nat) : List (List Nat) :=
  (List.range p).flatMap fun p => if T.fr p = n ∧ upd s n true (T.to p) = false then exts T a b k (r ++ [p]) (T.to p) (upd s n true) else []
theorem extTo_zero (T : Tp) (a b k : Nat) (r : List Nat) (n : Nat) (s : Nat → Bool) : extTo T a b k r n s 0 = [] := rfl
theorem extTo_yes {T : Tp} {a b k : Nat} {r : List Nat} {n : Nat} {s : Nat → Bool} {p : Nat} (h1 : T.fr p = n) (h2 : upd s n true (T.to p) = false) : extTo T a b k r n s (p + 1) = extTo T a b k r n s p ++ exts T a b k (r ++ [p]) (T.to p) (upd s n true) := by
  unfold extTo
  rw [List.range_succ, List.flatMap_append, List.flatMap_singleton, if_pos ⟨h1, h2⟩]
theorem extTo_no {T : Tp} {a b k : Nat} {r : List Nat} {n : Nat} {s : Nat → Bool} {p : Nat} (h : ¬ (T.fr p = n ∧ upd s n true (T.to p) = false)) : extTo T a b k r n s (p + 1) = extTo T a b k r n s p := by
  unfold extTo
  rw [List.range_succ, List.flatMap_append, List.flatMap_singleton, if_neg h, List.append_nil]
theorem exts_end {T : Tp} {a b k : Nat} {r : List Nat} {s : Nat → Bool} : exts T a b k r b s = [r] := by
  cases k <;> simp [exts]
theorem exts_none {T : Tp} {a b k : Nat} {r : List Nat} {n : Nat} {s : Nat → Bool} (hb : n ≠ b) (h : k = 0 ∨ (n ≠ a ∧ T.st n = true)) : exts T a b k r n s = [] := by
  cases k with
  | zero => simp [exts, hb]
  | succ k =>
    rcases h with h | h
    · omega
    · simp only [exts]
      rw [if_neg hb, if_pos h]
theorem exts_all {T : Tp} {a b k : Nat} {r : List Nat} {n : Nat} {s : Nat → Bool} (hb : n ≠ b) (h : ¬ (n ≠ a ∧ T.st n = true)) : exts T a b (k + 1) r n s = extTo T a b k r n s T.pn := by
  simp only [exts]
  rw [if_neg hb, if_neg h]
  rfl
theorem extTo_le {T : Tp} {a b k : Nat} {r : List Nat} {n : Nat} {s : Nat → Bool} {p q : Nat} (h : p ≤ q) : (extTo T a b k r n s p).length ≤ (extTo T a b k r n s q).length := by
  induction q with
  | zero =>
    obtain rfl : p = 0 := by omega
    exact Nat.le_refl _
  | succ q ih =>
    by_cases e : p = q + 1
    · rw [e]
      exact Nat.le_refl _
    · refine Nat.le_trans (ih (by omega)) ?_
      by_cases hc : T.fr q = n ∧ upd s n true (T.to q) = false
      · rw [extTo_yes hc.1 hc.2]
        simp
      · rw [extTo_no hc]
        exact Nat.le_refl _

theorem flat_len {α : Type} (f : Nat → List α) (B : Nat) : ∀ L, (∀ p, p < 2 * L → (f p).length ≤ B) → (∀ i, i < L → f (2 * i) = [] ∨ f (2 * i + 1) = []) → ((List.range (2 * L)).flatMap f).length ≤ L * B
  | 0, _, _ => by simp
  | L + 1, h, h2 => by
    have ih := flat_len f B L (fun p hp => h p (by omega)) (fun i hi => h2 i (by omega))
    rw [show 2 * (L + 1) = 2 * L + 1 + 1 by omega, List.range_succ, List.range_succ, List.flatMap_append, List.flatMap_append, List.flatMap_singleton, List.flatMap_singleton, List.length_append, List.length_append]
    have a1 := h (2 * L) (by omega)
    have a2 := h (2 * L + 1) (by omega)
    have e : (L + 1) * B = L * B + B := Nat.succ_mul L B
    rcases h2 L (by omega) with e1 | e1
    · rw [e1, e, List.length_nil, Nat.add_zero]
      exact Nat.add_le_add ih a2
    · rw [e1, e, List.length_nil, Nat.add_zero]
      exact Nat.add_le_add ih a1
theorem exts_len {T : Tp} (hk : OkT T) {a b : Nat} : ∀ (k : Nat) (r : List Nat) (n : Nat) (s : Nat → Bool), (exts T a b k r n s).length ≤ 24 ^ k
  | 0, r, n, s => by
    simp only [exts]
    split <;> simp
  | k + 1, r, n, s => by
    have h1 : 1 ≤ 24 ^ (k + 1) := Nat.one_le_pow _ _ (by omega)
    by_cases hb : n = b
    · subst hb
      rw [exts_end]
      simpa using h1
    · by_cases hc : n ≠ a ∧ T.st n = true
      · rw [exts_none hb (.inr hc)]
        simp
      · rw [exts_all hb hc]
        unfold extTo Tp.pn
        refine Nat.le_trans (flat_len _ (24 ^ k) T.ls.length (fun p hp => ?_) (fun i hi => ?_)) ?_
        · split
          · exact exts_len hk k _ _ _
          · simp
        · have hne := (hk.ok i hi).ne
          have f0 : T.fr (2 * i) = (T.lk i).a := by
            unfold Tp.fr
            rw [if_pos (by omega), show 2 * i / 2 = i by omega]
          have f1 : T.fr (2 * i + 1) = (T.lk i).b := by
            unfold Tp.fr
            rw [if_neg (by omega), show (2 * i + 1) / 2 = i by omega]
          by_cases e : T.fr (2 * i) = n
          · right
            rw [if_neg]
            rintro ⟨e2, _⟩
            rw [f0] at e
            rw [f1] at e2
            exact hne (e.trans e2.symm)
          · left
            rw [if_neg]
            rintro ⟨e2, _⟩
            exact e e2
        · have := hk.l24
          rw [Nat.pow_succ, Nat.mul_comm (24 ^ k) 24]
          exact Nat.mul_le_mul_right _ this

/-- Every one of them is a route. -/
theorem exts_pw {T : Tp} {a b : Nat} : ∀ (k : Nat) (r : List Nat) (n : Nat) (s : Nat → Bool), PW T a r n → r.length + k = 8 → (∀ m, s m = true ↔ ∃ i, i < r.length ∧ nx T a r i = m) → ∀ xs ∈ exts T a b k r n s, PW T a xs b
  | 0, r, n, s, h, _, _, xs, hx => by
    simp only [exts] at hx
    split at hx
    · rename_i e
      subst e
      cases List.mem_singleton.1 hx
      exact h
    · cases hx
  | k + 1, r, n, s, h, hl, hs, xs, hx => by
    by_cases hb : n = b
    · subst hb
      rw [exts_end] at hx
      cases List.mem_singleton.1 hx
      exact h
    · by_cases hc : n ≠ a ∧ T.st n = true
      · rw [exts_none hb (.inr hc)] at hx
        cases hx
      · rw [exts_all hb hc] at hx
        unfold extTo at hx
        obtain ⟨p, hp, hx⟩ := List.mem_flatMap.1 hx
        have hp' : p < T.pn := List.mem_range.1 hp
        split at hx
        · rename_i hcc
          obtain ⟨e1, e2⟩ := hcc
          have hne : T.to p ≠ n := by
            intro e
            rw [e, upd_same] at e2
            cases e2
          rw [upd_ne _ _ hne] at e2
          have hfr : ∀ i, i ≤ r.length → nx T a r i ≠ T.to p := by
            intro i hi e
            by_cases ei : i = r.length
            · rw [ei, h.lst] at e
              exact hne e.symm
            · have := (hs (T.to p)).2 ⟨i, by omega, e⟩
              rw [e2] at this
              cases this
          have hst : 0 < r.length → T.st n = false := by
            intro h0
            have hna : n ≠ a := by
              intro e
              have := h.inj r.length 0 (Nat.le_refl _) (Nat.zero_le _) (h.lst.trans e)
              omega
            cases hq : T.st n with
            | true => exact absurd ⟨hna, hq⟩ hc
            | false => rfl
          have hnew := h.snoc (by omega) hp' e1 hfr hst
          refine exts_pw k (r ++ [p]) (T.to p) (upd s n true) hnew (by simp; omega) (fun m => ?_) xs hx
          by_cases em : m = n
          · subst em
            rw [upd_same]
            refine ⟨fun _ => ⟨r.length, by simp, by rw [nx_append (Nat.le_refl _)]; exact h.lst⟩, fun _ => rfl⟩
          · rw [upd_ne _ _ em, hs]
            constructor
            · rintro ⟨i, h1, h2⟩
              exact ⟨i, by simp; omega, by rw [nx_append (by omega)]; exact h2⟩
            · rintro ⟨i, h1, h2⟩
              rw [nx_append (by simp at h1; omega)] at h2
              by_cases ei : i = r.length
              · rw [ei, h.lst] at h2
                exact absurd h2.symm em
              · exact ⟨i, by simp at h1; omega, h2⟩
        · cases hx
/-- All routes from a to b. -/
def routesP (T : Tp) (a b : Nat) : List (List Nat) := exts T a b 8 [] a (fun _ => false)
theorem routesP_pw {T : Tp} {a b : Nat} {xs : List Nat} (h : xs ∈ routesP T a b) : PW T a xs b :=
  exts_pw 8 [] a _ (PW.nil T a) rfl (fun m => ⟨fun e => absurd e (by simp), fun ⟨i, h, _⟩ => absurd h (by simp)⟩) xs h

end Go.Proofs.Ytjhpbemnklpefaa.Plain
