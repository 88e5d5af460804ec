/-
  Texts of this claim laid together: DrN15, Flag, DrI15.
-/
import Derived.Maps.AppendAt
import Derived.Deep.CutRange
import Derived.Deep.DeepCutAuto
import Derived.OrdersHeld
import Derived.Deep.RegionHeld3
import Derived.StillTail
import Derived.Lib.QuietBelow
import Derived.BigQuiet
import Derived.Below
import Derived.Test.YtkencmijghigiaaGreatMChk15
import Derived.Test.YtkencmijghigiaaGreatMMeas15
import Derived.Test.YtkencmijghigiaaGreatMBase
namespace Go.Proofs.YtkencmijghigiaaGreat
open Go.RowKit Go.Lib Go.Shelf Plain

/-- A draft: its slices, where they lie, its numbers. -/
structure Dr where
  pc : Option Addr
  nc : Nat
  kc : Nat
  pp : Option Addr
  np : Nat
  kp : Nat
  pd : Option Addr
  nd : Nat
  kd : Nat
  tu : Int
  ga : Int
  la : Int
  iv : Int
  sy : Int
  cA : Nat → Int
  cB : Nat → Int
  q : Nat → Int
  d : Nat → Int
def Dr.vs (D : Dr) : List Value := [.slice D.pc D.nc D.kc, .slice D.pp D.np D.kp, .slice D.pd D.nd D.kd, .int .u32 D.tu, .int .u32 D.ga, .int .u32 D.la, .int .u32 D.iv, .int .u32 D.sy]
theorem Dr.lit (D : Dr) : D.vs.toArray = #[.slice D.pc D.nc D.kc, .slice D.pp D.np D.kp, .slice D.pd D.nd D.kd, .int .u32 D.tu, .int .u32 D.ga, .int .u32 D.la, .int .u32 D.iv, .int .u32 D.sy] := rfl
theorem Dr.vs_one (D : Dr) : ∀ v ∈ D.vs, v.oneCell' = true := by
  intro v hv
  simp only [Dr.vs, List.mem_cons, List.not_mem_nil, or_false] at hv
  rcases hv with rfl | rfl | rfl | rfl | rfl | rfl | rfl | rfl <;> rfl
structure Dr.In (D : Dr) (w : World) : Prop where
  c : ∀ j, j < D.nc → ∃ b o, D.pc = some ⟨b, o, none⟩ ∧ w.cell? ⟨b, o + j * 2, none⟩ = some (.int .i64 (D.cA j)) ∧ w.cell? ⟨b, o + j * 2 + 1, none⟩ = some (.int .i32 (D.cB j))
  p : ∀ j, j < D.np → ∃ b o, D.pp = some ⟨b, o, none⟩ ∧ w.cell? ⟨b, o + j, none⟩ = some (.int .u8 (D.q j))
  d : ∀ j, j < D.nd → ∃ b o, D.pd = some ⟨b, o, none⟩ ∧ w.cell? ⟨b, o + j, none⟩ = some (.int .u16 (D.d j))
theorem Dr.In.keep {D : Dr} {w W : World} (h : D.In w) (hb : Below w.heap.size w W) : D.In W where
  c j hj := let ⟨b, o, h1, h2, h3⟩ := h.c j hj; ⟨b, o, h1, below_keep hb h2, below_keep hb h3⟩
  p j hj := let ⟨b, o, h1, h2⟩ := h.p j hj; ⟨b, o, h1, below_keep hb h2⟩
  d j hj := let ⟨b, o, h1, h2⟩ := h.d j hj; ⟨b, o, h1, below_keep hb h2⟩
structure Dr.Bd (D : Dr) : Prop where
  tu0 : 0 ≤ D.tu
  tu1 : D.tu ≤ 4294967295
  ga0 : 0 ≤ D.ga
  ga1 : D.ga ≤ 4294967295
  la0 : 0 ≤ D.la
  la1 : D.la ≤ 4294967295
  iv0 : 0 ≤ D.iv
  iv1 : D.iv ≤ 4294967295
  sy0 : 0 ≤ D.sy
  sy1 : D.sy ≤ 4294967295
  q : ∀ j, j < D.np → 0 ≤ D.q j ∧ D.q j ≤ 255
  d : ∀ j, j < D.nd → 0 ≤ D.d j ∧ D.d j ≤ 65535

/-- The numbers that it describes. -/
def dTu (D : Dr) : Int := D.tu % 1048577
def dGa (D : Dr) : Int := 10000 + D.ga % 1048576
def dSt (D : Dr) : Int := dGa D + 20000 + dTu D + D.la % 1048576
def dIv (D : Dr) : Int := 1 + D.iv % 4194304
def dSy (D : Dr) : Int := D.sy % 1048577
def dCa (D : Dr) (j : Nat) : Int := if j < D.nc then D.cA j else 0
def dCb (D : Dr) (j : Nat) : Int := if j < D.nc then D.cB j else 0
def dCO (D : Dr) (j : Nat) : Int := (dCa D j).tmod 1099511627777
def dCP (D : Dr) (j : Nat) : Int := (dCb D j).tmod 200001
def dPa (D : Dr) (j : Nat) : Int := if j = 0 then -1 else if j < D.np then D.q j % (j : Int) else (j : Int) - 1
def dDe (D : Dr) (j : Nat) : Int := if j = 0 then 0 else if j < D.nd then D.d j % 10001 else 0
def dM (D : Dr) : Nat := max 1 (min 12 D.nc)
def dClks (D : Dr) (i : Nat) : List Value := (List.range i).flatMap fun j => [.int .i64 (dCO D j), .int .i64 (dCP D j)]
def dPars (D : Dr) (i : Nat) : List Value := (List.range i).map fun j => .int .i64 (dPa D j)
def dDels (D : Dr) (i : Nat) : List Value := (List.range i).map fun j => .int .i64 (dDe D j)
theorem dClks_snoc (D : Dr) (i : Nat) : dClks D (i + 1) = dClks D i ++ [.int .i64 (dCO D i), .int .i64 (dCP D i)] := by simp [dClks, List.range_succ]
theorem dPars_snoc (D : Dr) (i : Nat) : dPars D (i + 1) = dPars D i ++ [.int .i64 (dPa D i)] := by simp [dPars, List.range_succ]
theorem dDels_snoc (D : Dr) (i : Nat) : dDels D (i + 1) = dDels D i ++ [.int .i64 (dDe D i)] := by simp [dDels, List.range_succ]

end Go.Proofs.YtkencmijghigiaaGreat

namespace Go.Proofs.YtkencmijghigiaaGreat
open Go.RowKit

section
variable {P : Program} {ops : Array Oper} {Q : Exit → Act → World → Prop} {md : Region.Mode} {C : World → Prop} {s : Nat}

/-- Whatever order is picked from here on, and C holds behind every operation but number s. -/
def wpAnyG (P : Program) (md : Region.Mode) (ops : Array Oper) (Q : Exit → Act → World → Prop) (C : World → Prop) (s : Nat) : Nat → Array Bool → Act → World → Prop
  | 0, listed, a, w => Region.ready md ops listed = [] ∧ Q .normal a w
  | fuel + 1, listed, a, w =>
    (Region.ready md ops listed = [] → Q .normal a w) ∧
    ∀ i ∈ Region.ready md ops listed, wpOp P ops Q i (fun a' w' => (i ≠ s → C w') ∧ wpAnyG P md ops Q C s fuel (listed.setIfInBounds i true) a' w') a w

theorem wpAny_of_flag : ∀ (fuel : Nat) (listed : Array Bool) (a : Act) (w : World), wpAnyG P md ops Q C s fuel listed a w → wpAny P md ops Q fuel listed a w
  | 0, _, _, _, h => h
  | fuel + 1, _, _, _, h => ⟨h.1, fun i hi => wpOp_mono (fun a' w' h' => wpAny_of_flag fuel _ a' w' h'.2) (h.2 i hi)⟩

/-- Number s waits for number i. -/
def waitsB (md : Region.Mode) (ops : Array Oper) (s i : Nat) : Bool := match ops[s]? with | some o => o.after.any fun e => Region.binds md e && e.on == i | none => false

theorem not_ready {i : Nat} {listed : Array Bool} (hw : waitsB md ops s i = true) (hi : i ∈ Region.ready md ops listed) : ¬ s ∈ Region.ready md ops listed := by
  intro h
  obtain ⟨_, os, hos, hall⟩ := mem_ready.1 h
  unfold waitsB at hw
  rw [hos] at hw
  simp only [Array.any_eq_true, Bool.and_eq_true, beq_iff_eq] at hw
  obtain ⟨k, hk, hb, he⟩ := hw
  have h1 := hall _ (Array.getElem_mem hk) hb
  have h0 := (mem_ready.1 hi).1
  rw [he] at h1
  rcases Nat.lt_or_ge i listed.size with h' | h'
  · simp [h'] at h0 h1; rw [h0] at h1; cases h1
  · simp [Array.getElem?_eq_none h'] at h1

theorem wpAnyG_first {i : Nat} {oi : Oper} {v : Value} (hi : ops[i]? = some oi) (hsel : ∀ (j : Nat) (o : Oper) cs b, ops[j]? = some o → o.op ≠ .select cs b)
    (hQ : ∀ c a w, Q (.panic c) (a.put oi.dst v) w → Q (.panic c) a w) (hws : waitsB md ops s i = true) :
    ∀ (fuel : Nat) (listed : Array Bool) (a : Act) (w : World),
      (∀ j oj, ops[j]? = some oj → j ≠ i → listed.getD j true = false → (∀ e ∈ oj.after, Region.binds md e = true → e.on ≠ i) → oi.apart ops oj = true) →
      i ∈ Region.ready md ops listed → YieldsIf P ops C oi v a → C w →
      wpAnyG P md ops Q C s fuel (listed.setIfInBounds i true) (a.put oi.dst v) w → wpAnyG P md ops Q C s (fuel + 1) listed a w := by
  intro fuel
  induction fuel with
  | zero =>
    intro listed a w _ hr hy hS H
    refine ⟨fun h => (by rw [h] at hr; cases hr), fun j hj => ?_⟩
    by_cases hji : j = i
    · subst hji; exact hy.wpOp hi hS ⟨fun _ => hS, H⟩
    · have := ready_mono hj hji
      rw [H.1] at this
      cases this
  | succ fuel ih =>
    intro listed a w hfree hr hy hS H
    refine ⟨fun h => (by rw [h] at hr; cases hr), fun j hj => ?_⟩
    by_cases hji : j = i
    · subst hji; exact hy.wpOp hi hS ⟨fun _ => hS, H⟩
    · have hjs : j ≠ s := fun e => not_ready hws hr (e ▸ hj)
      have h1 := H.2 j (ready_mono hj hji)
      obtain ⟨hjun, oj, hoj, hall⟩ := mem_ready.1 hj
      have hnot : ∀ e ∈ oj.after, Region.binds md e = true → e.on ≠ i := fun e he hb heq => by
        have h1 := hall e he hb
        have h0 := (mem_ready.1 hr).1
        rw [heq] at h1
        rcases Nat.lt_or_ge i listed.size with h' | h'
        · simp [h'] at h0 h1; rw [h0] at h1; cases h1
        · simp [Array.getElem?_eq_none h'] at h1
      have h2 := wpOp_putIf hoj (hfree j oj hoj hji hjun hnot) (fun cs b => hsel i oi cs b hi) (fun cs b => hsel j oj cs b hoj) hQ hy h1
      have hfree' : ∀ k ok, ops[k]? = some ok → k ≠ i → (listed.setIfInBounds j true).getD k true = false →
          (∀ e ∈ ok.after, Region.binds md e = true → e.on ≠ i) → oi.apart ops ok = true := fun k ok hk hki hun hno => by
        refine hfree k ok hk hki ?_ hno
        by_cases hjk : j = k
        · subst hjk; exact hjun
        · rw [getD_set_ne true hjk] at hun; exact hun
      refine wpOp_mono (fun a' w' h3 => ⟨h3.2.1, ih (listed.setIfInBounds j true) a' w' hfree' (ready_mono hr (Ne.symm hji)) h3.1 (h3.2.1 hjs) ?_⟩) h2
      rw [Array.setIfInBounds_comm _ _ hji]
      exact h3.2.2

/-- Operations that read at most. -/
def readsB : Op → Bool
  | .move _ | .assign _ | .build .. | .load .. | .nilCheck _ | .binOp .. | .unOp .. | .convert .. | .fieldAddr .. | .field .. | .indexAddr .. | .index .. | .extract .. | .slice .. => true
  | _ => false

theorem yields_of_quiet {o : Oper} {v : Value} {a : Act} (hp : readsB o.op = true) (hw : Region.wanted o (yielded ops a.tmps) = true) (h : ∀ w, C w → o.quietAt P a C w v) : YieldsIf P ops C o v a := by
  refine Or.inl ⟨hw, fun w hc => ?_⟩
  have h1 := h w hc
  unfold Oper.quietAt at h1
  have key : ∀ x : Sem Value, execOp a.eval o = (x >>= fun u => pure (Next.value u)) → (execOp a.eval o).run P w = .ok (.value v) w := by
    intro x hx
    rw [hx] at h1 ⊢
    simp only [Sem.run_bind] at h1 ⊢
    generalize x.run P w = r at h1 ⊢
    cases r with
    | ok x w' =>
      simp only [Result.andThen, Sem.run_pure, Oper.quietUpon] at h1 ⊢
      obtain ⟨rfl, rfl⟩ := h1
      rfl
    | halt x w' => simp [Result.andThen, Oper.quietUpon] at h1
  cases ho : o.op <;> simp only [ho, readsB, Bool.false_eq_true] at hp
  case move x =>
    simp only [execOp, ho, Sem.run_pure, Oper.quietUpon] at h1 ⊢
    rw [h1.2]
  case assign x =>
    simp only [execOp, ho, Sem.run_pure, Oper.quietUpon] at h1 ⊢
    rw [h1.2]
  case nilCheck x =>
    simp only [execOp, ho] at h1 ⊢
    split at h1
    · simp [runtimePanic, Oper.quietUpon] at h1
    · simp [runtimePanic, Oper.quietUpon] at h1
    · simp [runtimePanic, Oper.quietUpon] at h1
    · split at h1
      · simp [runtimePanic, Oper.quietUpon] at h1
      · simp only [Sem.run_bind] at h1 ⊢
        generalize program.run P w = r at h1 ⊢
        cases r with
        | halt x w' => simp [Result.andThen, Oper.quietUpon] at h1
        | ok q w' =>
          simp only [Result.andThen] at h1 ⊢
          generalize (nilAhead _ _ _ _).run P w' = r at h1 ⊢
          cases r with
          | halt x w' => simp [Oper.quietUpon] at h1
          | ok b w'' =>
            simp only at h1 ⊢
            split at h1
            · simp [unsupported, Oper.quietUpon] at h1
            · rename_i hb
              rw [if_neg hb]
              simp only [Sem.run_pure, Oper.quietUpon] at h1 ⊢
              rw [h1.1, h1.2]
      · simp only [Sem.run_pure, Oper.quietUpon] at h1 ⊢
        rw [h1.2]
    · simp only [Sem.run_pure, Oper.quietUpon] at h1 ⊢
      rw [h1.2]
  all_goals exact key _ (by simp only [execOp, ho]; rfl)

/-- A nil check of a pointer. -/
theorem yields_of_nilCheck {o : Oper} {v : Value} {a : Act} {x : Operand} {p : Addr} (ho : o.op = .nilCheck x) (hx : a.eval x = .pointer (some p)) (hw : Region.wanted o (yielded ops a.tmps) = true) (hv : v = .pointer (some p)) : YieldsIf P ops C o v a :=
  Or.inl ⟨hw, fun w _ => by simp [execOp, ho, hx, hv]⟩

/-- Carried out in the text's order; C holds behind each but the last. -/
def tailG (P : Program) (Q : Exit → Act → World → Prop) (C : World → Prop) : List Oper → Act → World → Prop
  | [], a, w => Q .normal a w
  | o :: r, a, w => o.wp P a w (fun a' w' => (r ≠ [] → C w') ∧ tailG P Q C r a' w') Q

theorem tail_spec : ∀ (l : List Oper) (k : Nat) (listed : Array Bool) (a : Act) (w : World), (∀ j : Nat, l[j]? = ops[k + j]?) → (l.all fun o => o.guard.isNone) = true → s = k + l.length - 1 → Region.seqB md ops l.length k listed = true → tailG P Q C l a w → wpAnyG P md ops Q C s l.length listed a w
  | [], k, listed, a, w, _, _, _, hB, h => by
    simp only [List.length_nil, Region.seqB, List.isEmpty_iff] at hB
    exact ⟨hB, h⟩
  | o :: r, k, listed, a, w, hl, hg, hs, hB, h => by
    have h0 : ops[k]? = some o := by simpa using (hl 0).symm
    simp only [List.length_cons, Region.seqB, Bool.and_eq_true, decide_eq_true_eq] at hB
    simp only [List.all_cons, Bool.and_eq_true, Option.isNone_iff_eq_none] at hg
    refine ⟨fun h1 => (by rw [hB.1] at h1; cases h1), fun i hi => ?_⟩
    rw [hB.1] at hi
    have hik : i = k := by simpa using hi
    subst hik
    have hw : wpOp P ops Q i (fun a' w' => (r ≠ [] → C w') ∧ tailG P Q C r a' w') a w := by
      unfold wpOp
      simp only [h0]
      rw [if_pos (by simp [Region.wanted, hg.1])]
      exact Or.inl h
    refine wpOp_mono (fun a' w' h' => ⟨fun hne => h'.1 (fun e => hne ?_), tail_spec r (i + 1) _ a' w' (fun j => by have := hl (j + 1); simpa [Nat.add_assoc, Nat.add_comm 1 j] using this) hg.2 (by simp only [List.length_cons] at hs; omega) hB.2 h'.2⟩) hw
    subst e
    simpa using hs.symm

theorem flag_lex {n g : Nat} {Lq : Act → Prop} (hsel : Region.noSelect ops = true) (hQ : ∀ c a w, ¬ Q (.panic c) a w) {w : World} (hC : C w) (hL : ∀ listed a, Region.seqB md ops g n listed = true → Lq a → wpAnyG P md ops Q C s g listed a w) :
    ∀ (l : List Oper) (k : Nat) (listed : Array Bool) (a : Act), (∀ j, j < l.length → l[j]? = ops[k + j]?) → k + l.length = n → (l.all fun o => o.guard.isNone && readsB o.op) = true → (∀ i, i < n → waitsB md ops s i = true) →
      Region.lexHead md ops g l.length k listed = true → wpQuiet P ops C Lq l a → wpAnyG P md ops Q C s (l.length + g) listed a w
  | [], k, listed, a, _, hk, _, _, hB, h => by
    have : k = n := by simpa using hk
    subst this
    have := hL listed a (by simpa [Region.lexHead] using hB) h
    simpa using this
  | o :: l, k, listed, a, hl, hk, hp, hw, hB, h => by
    have h0 : ops[k]? = some o := by simpa using (hl 0 (by simp)).symm
    simp only [List.length_cons, Region.lexHead, Bool.and_eq_true] at hB
    obtain ⟨⟨hr, hf⟩, hB'⟩ := hB
    simp only [List.all_cons, Bool.and_eq_true, Option.isNone_iff_eq_none] at hp
    have hwant : Region.wanted o (yielded ops a.tmps) = true := by simp [Region.wanted, hp.1.1]
    unfold wpQuiet at h
    rw [if_pos hwant] at h
    obtain ⟨v, hv, hK⟩ := h
    rw [List.length_cons, Nat.succ_add]
    refine wpAnyG_first h0 (Region.noSelect_spec hsel) (fun c a w h => absurd h (hQ _ _ _)) (hw k (by simp only [List.length_cons] at hk; omega)) _ _ _ _ (Region.free_spec h0 hf) (by simpa using hr) (yields_of_quiet hp.1.2 hwant hv) hC ?_
    exact flag_lex hsel hQ hC hL l (k + 1) _ _ (fun j hj => by have := hl (j + 1) (by simp; omega); simpa [Nat.add_assoc, Nat.add_comm 1 j] using this) (by simp only [List.length_cons] at hk; omega) hp.2 hw hB' hK

def flagB (md : Region.Mode) (l : List Oper) (n : Nat) : Bool :=
  Region.noSelect l.toArray && decide (n < l.length) && Region.lexHead md l.toArray (l.length - n) n 0 (Array.replicate l.length false) && ((l.take n).all fun o => o.guard.isNone && readsB o.op) && ((l.drop n).all fun o => o.guard.isNone) && (List.range n).all fun i => waitsB md l.toArray (l.length - 1) i

theorem wp_region_flag {id : Nat} {a : Act} {w : World} {l : List Oper} (n : Nat) (hm : P.follows .mixedOrders = true) (hB : flagB .any l n = true) (C : World → Prop) (hC : C { w with drawn := w.drawn + 1 })
    (h : wpQuiet P l.toArray C (fun a' => tailG P (NoPanic Q) C (l.drop n) a' { w with drawn := w.drawn + 1 }) (l.take n) a) : (Code.region id l.toArray true).wp P Q a w := by
  refine wp_region_noPanic (wp_region_any hm (wpAny_of_flag (C := C) (s := l.length - 1) _ _ _ _ ?_))
  simp only [flagB, Bool.and_eq_true, decide_eq_true_eq, List.all_eq_true, List.mem_range] at hB
  obtain ⟨⟨⟨⟨⟨h1, h2⟩, h3⟩, h4⟩, h5⟩, h6⟩ := hB
  have ht : (l.take n).length = n := by simp; omega
  have hd : (l.drop n).length = l.length - n := by simp
  have := flag_lex (Q := NoPanic Q) (g := l.length - n) h1 (fun c a w h => h) hC (fun listed a' hs hL => by
    have := tail_spec (P := P) (Q := NoPanic Q) (C := C) (md := .any) (ops := l.toArray) (s := l.length - 1) (l.drop n) n listed a' _ (fun j => by simp [List.getElem?_drop]) (by simpa [List.all_eq_true] using h5) (by rw [hd]; omega) (by rw [hd]; exact hs) hL
    rw [hd] at this
    exact this) (l.take n) 0 (Array.replicate l.length false) a (fun j hj => by
      have hj' : j < n := by rw [ht] at hj; exact hj
      simp [hj']) (by rw [ht]; omega) (by simpa [List.all_eq_true] using h4) (fun i hi => h6 i hi) (by rw [ht]; exact h3) h
  rw [ht, show n + (l.length - n) = l.length by omega] at this
  simpa using this

/-- One cell read inside a region that draws its order. -/
theorem wpQuiet_load_one {rest : List Oper} {o : Oper} {a : Act} {Lq : Act → Prop} (hgd : o.guard = none) (x : Operand) (t : TypeId) (ho : o.op = .load t x) (ad : Addr) (v : Value) (hx : a.eval x = .pointer (some ad)) (hagg : ∀ w, (isAgg t).run P w = .ok false w)
    (hc : ∀ w, C w → w.cell? ad = some v) (h : wpQuiet P ops C Lq rest (a.put o.dst v)) : wpQuiet P ops C Lq (o :: rest) a := by
  refine wpQuiet_step fun K hK => ?_
  rw [if_pos (by simp [Region.wanted, hgd])]
  refine ⟨v, fun w hw => ?_, hK _ h⟩
  have hcw := hc w hw
  have hrun : (loadVar t ad).run P w = .ok v w := by simp [loadVar, hagg, Result.andThen, go_sem, hcw]
  unfold Oper.quietAt
  simp [execOp, ho, hx, Instr.loadAt, Instr.sureAddr, hrun, Result.andThen, Oper.quietUpon]

theorem wp_of_run {o : Oper} {a : Act} {w w' : World} {K : Act → World → Prop} {v : Value} (h : (execOp a.eval o).run P w = .ok (.value v) w') (hK : K (a.put o.dst v) w') : o.wp P a w K Q := by
  unfold Oper.wp
  rw [h]
  exact hK
theorem wp_of_skip {o : Oper} {a : Act} {w w' : World} {K : Act → World → Prop} (h : (execOp a.eval o).run P w = .ok .skip w') (hK : K (a.put o.dst undef) w') : o.wp P a w K Q := by
  unfold Oper.wp
  rw [h]
  exact hK
end

end Go.Proofs.YtkencmijghigiaaGreat

namespace Go.Proofs.YtkencmijghigiaaGreat
open Go.RowKit Go.Lib Go.Shelf Plain

theorem infoClk15 : ((Tryz.prog).info? 61).map (fun i => (i.zero, i.size, i.bytes)) = some (some (.agg #[.int .i64 0, .int .i64 0]), 2, 16) := by kernel_rfl
theorem infoInt15 : ((Tryz.prog).info? 3).map (fun i => (i.zero, i.size, i.bytes)) = some (some (.int .i64 0), 1, 8) := by kernel_rfl

section
variable {P : Program} {Q : Exit → Act → World → Prop}
theorem wp_of_call15 {o : Oper} {a : Act} {w : World} {K : Act → World → Prop} {f : FuncId} {args : Array Value} {v : Value} (h : (execOp a.eval o).run P w = .ok (.enter f args) w) (hc : Calls P f args w fun e w' => e = .returned v ∧ Below w.heap.size w w') (hK : ∀ w', Below w.heap.size w w' → K (a.put o.dst v) w') : o.wp P a w K Q := by
  unfold Oper.wp
  rw [h, Oper.upon_enter]
  refine hc.mono ?_
  rintro e w' ⟨rfl, hb⟩
  exact hK w' hb
theorem wp_append_at15 {w : World} {o : Oper} {a : Act} {K : Act → World → Prop} (s x : Operand) (t : TypeId)
    (ho : o.op = .call { callee := .builtin .append, args := #[s, x], argTypes := #[t, t] })
    (base : Nat) (e : TypeId) (i : TypeInfo) (z : Value) (size bytes : Nat) (ht : P.underlying t = some (.slice e)) (hi : P.info? e = some i) (hz : i.zero = some z)
    (hsize : i.size = size) (hby : i.bytes = bytes) (hzs : z.cells.size = size) (hsz : 0 < size)
    (v : Value) (n : Nat) (xs : List Value) (hs : a.eval s = v) (hown : w.ownsRow base e size v n xs)
    (ad : Addr) (m c : Nat) (news : List Value) (hx : a.eval x = .slice (some ad) m c) (hl : news.length = m * size) (hnews : ∀ j u, news[j]? = some u → w.cell? (ad.add j) = some u) (h1 : ∀ u ∈ news, u.oneCell' = true)
    (h63 : n + m ≤ maxLen) (hbytes : (n + m) * bytes ≤ 140737488355328) (hbase : base ≤ w.heap.size)
    (h : ∀ v' w', w'.ownsRow base e size v' (n + m) (xs ++ news) → w.grownBy w' v.ownBlock → (v'.ownBlock = v.ownBlock ∨ v'.ownBlock = some w.heap.size) → K (a.put o.dst v') w') : o.wp P a w K Q := by
  obtain ⟨v', w', hr, h2, h3, _, h5⟩ := run_append_own_at (P := P) w base t o.type e i z size bytes ht hi hz hsize hby hzs hsz v n xs hown ad m c news hl hnews h1 h63 hbytes hbase
  unfold Oper.wp execOp
  simp only [ho, resolve, invoke, builtin, Sem.run_bind, Sem.run_pure, Result.andThen_ok, List.map_toArray, List.map_cons, List.map_nil, hs, hx, hr]
  exact h v' w' h2 h3 h5
end

theorem own_form15 {w : World} {base : Nat} {e : TypeId} {size : Nat} {v : Value} {n : Nat} {xs : List Value} (h : w.ownsRow base e size v n xs) (hn : 0 < n) : ∃ g cap, v = .slice (some ⟨g, 0, none⟩) n cap := by
  rcases h.2 with ⟨_, rfl⟩ | ⟨g, cap, _, rfl, _⟩
  · omega
  · exact ⟨g, cap, rfl⟩
theorem one_one15 (a : Int) : ∀ v ∈ [Value.int .i64 a], v.oneCell' = true := by
  intro v hv
  cases List.mem_singleton.1 hv
  rfl
theorem holds_set15 {W : World} {b : Nat} {c : List Value} (h : Holds W b c) (k : Nat) (hk : k < c.length) (v : Value) : Holds (W.setCell ⟨b, k, none⟩ v) b (c.set k v) := by
  intro j u hj
  by_cases e : k = j
  · subst e
    rw [List.getElem?_set_self hk] at hj
    cases hj
    have := h.some k hk
    rw [Nat.zero_add] at this ⊢
    exact World.cell?_setCell_same' _ _ _ this
  · rw [List.getElem?_set_ne e] at hj
    exact (World.cell?_setCell_other _ _ _ _ (by simp)).trans (h j u hj)

section
variable {P : Program} {w : World} {ops : Array Oper} {rest : List Oper} {o : Oper} {a : Act} {Q : Exit → Act → World → Prop}
theorem wpList_store_whole_eq15 (hgd : o.guard = none) (x v : Operand) (t : TypeId) (ho : o.op = .store t x v) (b off : Nat) (c : List Value) (hx : a.eval x = .pointer (some ⟨b, off, none⟩)) (hv : a.eval v = .agg c.toArray) (hsz : ∀ w, (sizeOf t).run P w = .ok c.length w)
    (hc : ∀ j, j < c.length → (w.cell? ⟨b, off + j, none⟩).isSome = true) (hf : ∀ j, j < c.length → w.frozen? ⟨b, off + j, none⟩ = false) (h1 : ∀ v ∈ c, v.oneCell' = true)
    (h : Wrote b off c w (w.setCells b off c) → wpList P ops Q rest (a.put o.dst undef) (w.setCells b off c)) : wpList P ops Q (o :: rest) a w := by
  refine wpList_plain hgd fun K hK => ?_
  have hrun := run_storeVar_whole (P := P) t b off c hsz hc hf h1
  unfold Oper.wp
  simp [execOp, ho, hx, hv, Instr.storeAt, Instr.sureAddr, hrun, Result.andThen]
  exact hK _ _ (h (wrote_setCells b off c w hc))
end
theorem ownsRow_setCells15 {base : Nat} {e : TypeId} {size : Nat} {v : Value} {n : Nat} {xs : List Value} {b : Nat} (hb : b < base) : ∀ (c : List Value) (off : Nat) (w : World), w.ownsRow base e size v n xs → (w.setCells b off c).ownsRow base e size v n xs
  | [], _, _, h => h
  | u :: r, off, _, h => ownsRow_setCells15 hb r (off + 1) _ (ownsRow_setCell_below h (a := ⟨b, off, none⟩) hb u)
theorem ownsRow_le15 {w : World} {base base' : Nat} {e : TypeId} {size : Nat} {v : Value} {n : Nat} {xs : List Value} (h : w.ownsRow base e size v n xs) (hb : base' ≤ base) : w.ownsRow base' e size v n xs :=
  ⟨h.1, h.2.imp id fun ⟨g, cap, cur, h1, h2, h3⟩ => ⟨g, cap, cur, h1, Nat.le_trans hb h2, h3⟩⟩

/-- Two rows apart. -/
def Apt (a b : Value) : Prop := ∀ g, a.ownBlock = some g → b.ownBlock ≠ some g
theorem Apt.symm {a b : Value} (h : Apt a b) : Apt b a := fun g hb ha => h g ha hb
theorem Apt.row {a b : Value} (h : Apt a b) : a.ownBlock = none ∨ a.ownBlock ≠ b.ownBlock := by
  cases ha : a.ownBlock with
  | none => exact .inl rfl
  | some g => exact .inr fun e => h g ha e.symm
theorem Apt.new {a b b' : Value} {w : World} (h : Apt a b) (ha : ∀ g, a.ownBlock = some g → g < w.heap.size) (hat : b'.ownBlock = b.ownBlock ∨ b'.ownBlock = some w.heap.size) : Apt a b' := fun g hg hb => by
  rcases hat with e | e
  · exact h g hg (e ▸ hb)
  · have := ha g hg
    rw [hb] at e
    cases e
    omega

def nVs (D : Dr) (v0 v1 v2 : Value) : List Value := [v0, v1, v2, .int .i64 (dTu D), .int .i64 (dGa D), .int .i64 (dSt D), .int .i64 (dIv D), .int .i64 (dSy D)]

theorem nVs_one (D : Dr) {v0 v1 v2 : Value} (h0 : v0.oneCell' = true) (h1 : v1.oneCell' = true) (h2 : v2.oneCell' = true) : ∀ v ∈ nVs D v0 v1 v2, v.oneCell' = true := by
  intro v hv
  simp only [nVs, List.mem_cons, List.not_mem_nil, or_false] at hv
  rcases hv with rfl | rfl | rfl | rfl | rfl | rfl | rfl | rfl <;> first | assumption | rfl
/-- What holds in a round: z is the size of the heap at the start; the rows' lengths are i0, i1, i2. -/
structure NetInv (D : Dr) (w W : World) (z : Nat) (v0 v1 v2 : Value) (i0 i1 i2 : Nat) : Prop where
  o0 : W.ownsRow (z + 3) 61 2 v0 i0 (dClks D i0)
  o1 : W.ownsRow (z + 3) 3 1 v1 i1 (dPars D i1)
  o2 : W.ownsRow (z + 3) 3 1 v2 i2 (dDels D i2)
  a01 : Apt v0 v1
  a02 : Apt v0 v2
  a12 : Apt v1 v2
  gd : Holds W z D.vs
  gr : Holds W (z + 1) zT
  fr : ∀ x, W.frozen? ⟨z + 1, x, none⟩ = false
  gx : Holds W (z + 1 + 1) (nVs D v0 v1 v2)
  fx : ∀ x, W.frozen? ⟨z + 1 + 1, x, none⟩ = false
  gb : Below z w W
  zz : z = w.heap.size
  zr : z + 3 ≤ W.heap.size

theorem Below.grow0 {W W' : World} (h : Below W.heap.size W W') : W.grownBy W' none := ⟨h.os, h.tape, h.output, h.size, fun k hk _ => h.block k hk⟩
theorem own_none {v : Value} : v.ownBlock = none ∨ v.ownBlock ≠ none := by cases v.ownBlock <;> simp
section
variable {D : Dr} {w W W' : World} {z : Nat} {v0 v1 v2 v : Value} {i0 i1 i2 : Nat}
theorem NetInv.keep (h : NetInv D w W z v0 v1 v2 i0 i1 i2) (hb : Below W.heap.size W W') : NetInv D w W' z v0 v1 v2 i0 i1 i2 where
  o0 := h.o0.kept (Below.grow0 hb) own_none
  o1 := h.o1.kept (Below.grow0 hb) own_none
  o2 := h.o2.kept (Below.grow0 hb) own_none
  a01 := h.a01
  a02 := h.a02
  a12 := h.a12
  gd := h.gd.keep hb
  gr := h.gr.keep hb
  fr x := by rw [hb.frozen (by have := h.zr; show z + 1 < _; omega)]; exact h.fr x
  gx := h.gx.keep hb
  fx x := by rw [hb.frozen (by have := h.zr; show z + 1 + 1 < _; omega)]; exact h.fx x
  gb := by have := h.gb; have e := h.zz; subst e; exact below_step this hb
  zz := h.zz
  zr := Nat.le_trans h.zr hb.size

theorem grown_holds {b : Nat} {c : List Value} {row : Option Nat} (h : Holds W b c) (hg : W.grownBy W' row) (hne : some b ≠ row) : Holds W' b c := fun j u hj => hg.cell (h j u hj) hne
theorem grown_frozen {b : Nat} {row : Option Nat} (h : ∀ x, W.frozen? ⟨b, x, none⟩ = false) (hb : b < W.heap.size) (hg : W.grownBy W' row) (hne : some b ≠ row) : ∀ x, W'.frozen? ⟨b, x, none⟩ = false := fun x => by
  rw [World.frozen?_of_block (a := ⟨b, x, none⟩) (hg.block b hb hne)]
  exact h x

/-- The parts that no append turns, in the world behind it. -/
theorem NetInv.rest (h : NetInv D w W z v0 v1 v2 i0 i1 i2) {row : Option Nat} (hg : W.grownBy W' row) (hr : ∀ k, row = some k → z + 3 ≤ k) (k : Nat) (hk : k < 8) (v : Value) :
    Holds (W'.setCell ⟨z + 1 + 1, k, none⟩ v) z D.vs ∧ Holds (W'.setCell ⟨z + 1 + 1, k, none⟩ v) (z + 1) zT ∧ (∀ x, (W'.setCell ⟨z + 1 + 1, k, none⟩ v).frozen? ⟨z + 1, x, none⟩ = false) ∧
      Holds (W'.setCell ⟨z + 1 + 1, k, none⟩ v) (z + 1 + 1) ((nVs D v0 v1 v2).set k v) ∧ (∀ x, (W'.setCell ⟨z + 1 + 1, k, none⟩ v).frozen? ⟨z + 1 + 1, x, none⟩ = false) ∧ Below z w (W'.setCell ⟨z + 1 + 1, k, none⟩ v) ∧ z + 3 ≤ (W'.setCell ⟨z + 1 + 1, k, none⟩ v).heap.size := by
  have hz := h.zr
  have n0 : ∀ b, b < z + 3 → some b ≠ row := fun b hb e => by have := hr b e.symm; omega
  refine ⟨?_, ?_, ?_, ?_, ?_, ?_, ?_⟩
  · intro j u hj
    exact (World.cell?_setCell_other _ _ _ _ (by simp)).trans (grown_holds h.gd hg (n0 _ (by omega)) j u hj)
  · intro j u hj
    exact (World.cell?_setCell_other _ _ _ _ (by simp)).trans (grown_holds h.gr hg (n0 _ (by omega)) j u hj)
  · intro x
    rw [World.frozen?_setCell]
    exact grown_frozen h.fr (by omega) hg (n0 _ (by omega)) x
  · exact holds_set15 (grown_holds h.gx hg (n0 _ (by omega))) k hk v
  · intro x
    rw [World.frozen?_setCell]
    exact grown_frozen h.fx (by omega) hg (n0 _ (by omega)) x
  · refine Below.setCell ?_ (by show z ≤ z + 1 + 1; omega) _
    exact h.gb.grown hg (by omega) (fun k e => by have := hr k e; omega)
  · simp [World.setCell]
    have := hg.size
    omega

theorem NetInv.app0 (h : NetInv D w W z v0 v1 v2 i0 i1 i2) {v' : Value} (ho : W'.ownsRow (z + 3) 61 2 v' (i0 + 1) (dClks D i0 ++ [.int .i64 (dCO D i0), .int .i64 (dCP D i0)])) (hg : W.grownBy W' v0.ownBlock) (hat : v'.ownBlock = v0.ownBlock ∨ v'.ownBlock = some W.heap.size) :
    NetInv D w (W'.setCell ⟨z + 1 + 1, 0, none⟩ v') z v' v1 v2 (i0 + 1) i1 i2 := by
  obtain ⟨r1, r2, r3, r4, r5, r6, r7⟩ := h.rest hg (fun k e => (h.o0.lt k e).1) 0 (by omega) v'
  have hl1 := fun g e => (h.o1.lt g e).2
  have hl2 := fun g e => (h.o2.lt g e).2
  rw [← dClks_snoc] at ho
  exact ⟨ownsRow_setCell_below ho (by show z + 1 + 1 < z + 3; omega) _, ownsRow_setCell_below (h.o1.kept hg h.a01.symm.row) (by show z + 1 + 1 < z + 3; omega) _, ownsRow_setCell_below (h.o2.kept hg h.a02.symm.row) (by show z + 1 + 1 < z + 3; omega) _,
    (h.a01.symm.new hl1 hat).symm, (h.a02.symm.new hl2 hat).symm, h.a12, r1, r2, r3, r4, r5, r6, h.zz, r7⟩
theorem NetInv.app1 (h : NetInv D w W z v0 v1 v2 i0 i1 i2) {v' : Value} (ho : W'.ownsRow (z + 3) 3 1 v' (i1 + 1) (dPars D i1 ++ [.int .i64 (dPa D i1)])) (hg : W.grownBy W' v1.ownBlock) (hat : v'.ownBlock = v1.ownBlock ∨ v'.ownBlock = some W.heap.size) :
    NetInv D w (W'.setCell ⟨z + 1 + 1, 1, none⟩ v') z v0 v' v2 i0 (i1 + 1) i2 := by
  obtain ⟨r1, r2, r3, r4, r5, r6, r7⟩ := h.rest hg (fun k e => (h.o1.lt k e).1) 1 (by omega) v'
  have hl0 := fun g e => (h.o0.lt g e).2
  have hl2 := fun g e => (h.o2.lt g e).2
  rw [← dPars_snoc] at ho
  exact ⟨ownsRow_setCell_below (h.o0.kept hg h.a01.row) (by show z + 1 + 1 < z + 3; omega) _, ownsRow_setCell_below ho (by show z + 1 + 1 < z + 3; omega) _, ownsRow_setCell_below (h.o2.kept hg h.a12.symm.row) (by show z + 1 + 1 < z + 3; omega) _,
    h.a01.new hl0 hat, h.a02, (h.a12.symm.new hl2 hat).symm, r1, r2, r3, r4, r5, r6, h.zz, r7⟩
theorem NetInv.app2 (h : NetInv D w W z v0 v1 v2 i0 i1 i2) {v' : Value} (ho : W'.ownsRow (z + 3) 3 1 v' (i2 + 1) (dDels D i2 ++ [.int .i64 (dDe D i2)])) (hg : W.grownBy W' v2.ownBlock) (hat : v'.ownBlock = v2.ownBlock ∨ v'.ownBlock = some W.heap.size) :
    NetInv D w (W'.setCell ⟨z + 1 + 1, 2, none⟩ v') z v0 v1 v' i0 i1 (i2 + 1) := by
  obtain ⟨r1, r2, r3, r4, r5, r6, r7⟩ := h.rest hg (fun k e => (h.o2.lt k e).1) 2 (by omega) v'
  have hl0 := fun g e => (h.o0.lt g e).2
  have hl1 := fun g e => (h.o1.lt g e).2
  rw [← dDels_snoc] at ho
  exact ⟨ownsRow_setCell_below (h.o0.kept hg h.a02.row) (by show z + 1 + 1 < z + 3; omega) _, ownsRow_setCell_below (h.o1.kept hg h.a12.row) (by show z + 1 + 1 < z + 3; omega) _, ownsRow_setCell_below ho (by show z + 1 + 1 < z + 3; omega) _,
    h.a01, h.a02.new hl0 hat, h.a12.new hl1 hat, r1, r2, r3, r4, r5, r6, h.zz, r7⟩
end

end Go.Proofs.YtkencmijghigiaaGreat
