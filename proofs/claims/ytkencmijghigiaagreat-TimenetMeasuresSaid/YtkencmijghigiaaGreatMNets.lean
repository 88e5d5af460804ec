/-
  Texts of this claim laid together: Net15, Round15, Up15, First15, Marks15.
-/
import Derived.RangeFuncNested
import Derived.RangeFuncBound
import Derived.RangeFuncCalls
import Derived.RangeFuncLeaves
import Derived.Shelf.Abstract
import Derived.Shelf.RegionOpen
import Derived.WalkKit
import Derived.OwnWalkIn
import Derived.TacticsInMore
import Derived.LoopNIn
import Derived.LoopIn
import Derived.Test.YtkencmijghigiaaGreatMBase
namespace Go.Proofs.YtkencmijghigiaaGreat
open Go.RowKit Go.Lib Go.Shelf

/-- A network's three slices, where they lie, and its five numbers. -/
structure Nt where
  bc : Nat
  oc : Nat
  kc : Nat
  bp : Nat
  op : Nat
  kp : Nat
  bd : Nat
  od : Nat
  kd : Nat
  m : Nat
  tu : Int
  ga : Int
  st : Int
  iv : Int
  sy : Int
  cO : Nat → Int
  cP : Nat → Int
  pa : Nat → Int
  de : Nat → Int
def Nt.vs (n : Nt) : List Value := [.slice (some ⟨n.bc, n.oc, none⟩) n.m n.kc, .slice (some ⟨n.bp, n.op, none⟩) n.m n.kp, .slice (some ⟨n.bd, n.od, none⟩) n.m n.kd, .int .i64 n.tu, .int .i64 n.ga, .int .i64 n.st, .int .i64 n.iv, .int .i64 n.sy]
theorem Nt.lit (n : Nt) : n.vs.toArray = #[.slice (some ⟨n.bc, n.oc, none⟩) n.m n.kc, .slice (some ⟨n.bp, n.op, none⟩) n.m n.kp, .slice (some ⟨n.bd, n.od, none⟩) n.m n.kd, .int .i64 n.tu, .int .i64 n.ga, .int .i64 n.st, .int .i64 n.iv, .int .i64 n.sy] := rfl
theorem Nt.vs_one (n : Nt) : ∀ v ∈ n.vs, v.oneCell' = true := by
  intro v hv
  simp only [Nt.vs, List.mem_cons, List.not_mem_nil, or_false] at hv
  rcases hv with rfl | rfl | rfl | rfl | rfl | rfl | rfl | rfl <;> rfl
/-- The slices' cells. -/
structure Nt.In (n : Nt) (w : World) : Prop where
  m1 : 1 ≤ n.m
  c0 : ∀ j, j < n.m → w.cell? ⟨n.bc, n.oc + j * 2, none⟩ = some (.int .i64 (n.cO j))
  c1 : ∀ j, j < n.m → w.cell? ⟨n.bc, n.oc + j * 2 + 1, none⟩ = some (.int .i64 (n.cP j))
  p : ∀ j, j < n.m → w.cell? ⟨n.bp, n.op + j, none⟩ = some (.int .i64 (n.pa j))
  d : ∀ j, j < n.m → w.cell? ⟨n.bd, n.od + j, none⟩ = some (.int .i64 (n.de j))
theorem Nt.In.lc {n : Nt} {w : World} (h : n.In w) : n.bc < w.heap.size := World.block_lt_of_cell? _ _ (h.c0 0 h.m1)
theorem Nt.In.lp {n : Nt} {w : World} (h : n.In w) : n.bp < w.heap.size := World.block_lt_of_cell? _ _ (h.p 0 h.m1)
theorem Nt.In.ld {n : Nt} {w : World} (h : n.In w) : n.bd < w.heap.size := World.block_lt_of_cell? _ _ (h.d 0 h.m1)
theorem Nt.In.keep {n : Nt} {w W : World} (h : n.In w) (hb : Below w.heap.size w W) : n.In W :=
  ⟨h.m1, fun j hj => below_keep hb (h.c0 j hj), fun j hj => below_keep hb (h.c1 j hj), fun j hj => below_keep hb (h.p j hj), fun j hj => below_keep hb (h.d j hj)⟩

/-- Every cell of the other blocks is kept. -/
def KeepC (B : Nat) (W W' : World) : Prop := ∀ (b o : Nat) (v : Value), b ≠ B → W.cell? ⟨b, o, none⟩ = some v → W'.cell? ⟨b, o, none⟩ = some v
theorem KeepC.refl (B : Nat) (W : World) : KeepC B W W := fun _ _ _ _ h => h
theorem keepC_t {B : Nat} {X Y Z : World} (h : KeepC B X Y) (k : KeepC B Y Z) : KeepC B X Z := fun b o v hb hc => k b o v hb (h b o v hb hc)
theorem keepC_b {B n₀ : Nat} (W : World) (l : Nat) (o o' : Obj) (_ : n₀ ≤ l) (h : W.heap[l]? = some o) (hc : o.isCells = false) (_ : o.isWalk = false) : KeepC B W (W.putObj l o') := fun b _ _ _ hv =>
  cell_kept hv (grownBy_putObj' W l o') (fun r e => by cases e; exact ⟨o, h, hc⟩)
theorem KeepC.setCell {B : Nat} {W W1 : World} (h : KeepC B W W1) (o : Nat) (v : Value) : KeepC B W (W1.setCell ⟨B, o, none⟩ v) := fun b o' u hb hc => by
  rw [World.cell?_setCell_far _ _ _ _ (Ne.symm hb)]
  exact h b o' u hb hc
theorem KeepC.alloc {B : Nat} {W W1 : World} (h : KeepC B W W1) (ob : Obj) : KeepC B W (W1.alloc ob) := fun b o u hb hc => by
  have := h b o u hb hc
  rw [World.cell?_alloc_lt _ _ _ (World.block_lt_of_cell? _ _ this)]
  exact this
theorem KeepC.drew {B : Nat} {W W1 : World} (h : KeepC B W W1) : KeepC B W W1.drew := fun b o u hb hc => by
  have := h b o u hb hc
  simpa [go_sem] using this
theorem KeepC.below {B : Nat} {W W1 W2 : World} (h : KeepC B W W1) (hb : Below W1.heap.size W1 W2) : KeepC B W W2 := fun b o u hne hc => below_keep hb (h b o u hne hc)

/-- The nodes from i on up, node 0 left out; f: no less than i. -/
def anc {m : Nat} (par : Fin m → Fin m) : Nat → Fin m → List (Fin m)
  | 0, _ => []
  | f + 1, i => if i.val = 0 then [] else i :: anc par f (par i)
theorem anc_more {m : Nat} {par : Fin m → Fin m} (hp : ∀ i : Fin m, 0 < i.val → (par i).val < i.val) : ∀ (f g : Nat) (i : Fin m), i.val ≤ f → i.val ≤ g → anc par f i = anc par g i
  | 0, 0, _, _, _ => rfl
  | 0, g + 1, i, h, _ => by
    have h0 : i.val = 0 := by omega
    rw [anc, anc, if_pos h0]
  | f + 1, 0, i, _, h => by
    have h0 : i.val = 0 := by omega
    rw [anc, anc, if_pos h0]
  | f + 1, g + 1, i, hf, hg => by
    rw [anc, anc]
    by_cases h0 : i.val = 0
    · rw [if_pos h0, if_pos h0]
    · rw [if_neg h0, if_neg h0]
      have := hp i (by omega)
      rw [anc_more hp f g (par i) (by omega) (by omega)]
/-- .. all of them. -/
def ups {m : Nat} (par : Fin m → Fin m) (i : Fin m) : List (Fin m) := anc par i.val i
theorem ups_zero {m : Nat} {par : Fin m → Fin m} {i : Fin m} (h : i.val = 0) : ups par i = [] := by
  unfold ups
  cases hi : i.val with
  | zero => rfl
  | succ k => omega
theorem ups_cons {m : Nat} {par : Fin m → Fin m} (hp : ∀ i : Fin m, 0 < i.val → (par i).val < i.val) {i : Fin m} (h : 0 < i.val) : ups par i = i :: ups par (par i) := by
  have hlt := hp i h
  unfold ups
  rw [anc_more hp i.val (i.val + 1) i (Nat.le_refl _) (by omega), anc, if_neg (by omega), anc_more hp i.val (par i).val (par i) (by omega) (Nat.le_refl _)]
/-- The network's parents are nodes ahead. -/
structure Nt.Par (n : Nt) (par : Fin n.m → Fin n.m) : Prop where
  eq : ∀ i : Fin n.m, 0 < i.val → n.pa i.val = ((par i).val : Int)
  lt : ∀ i : Fin n.m, 0 < i.val → (par i).val < i.val

theorem cell_nw (W : World) (v : Value) (t : TypeId) : (W.alloc (.cells #[v] t)).cell? ⟨W.heap.size, 0, none⟩ = some v ∧ (W.alloc (.cells #[v] t)).frozen? ⟨W.heap.size, 0, none⟩ = false := by
  simp [go_sem]

theorem wpIn_world' {c : Code} {F : Fence} {k : Nat} {P : Program} {Q : Exit → Act → World → Prop} {a : Act} {w : World} (h : ∀ W, W = w → c.wpIn F k P Q a W) : c.wpIn F k P Q a w := h w rfl

end Go.Proofs.YtkencmijghigiaaGreat

namespace Go.Proofs.YtkencmijghigiaaGreat
open Go.RowKit Go.Lib Go.Shelf

section
variable {P : Program} {ops : Array Oper} {md : Region.Mode} {Q : Exit → Act → World → Prop}
theorem oper_round {o : Oper} {a : Act} {w : World} {K : Act → World → Prop} {l k : Nat} (hnd : ∀ c, o.op ≠ .defer c) (h : o.wp P a w K Q) : o.wpIn (Fence.wide.inRound l) k P a w K Q := by
  refine ⟨fun _ _ => trivial, ?_⟩
  unfold Oper.wp at h
  rw [show (Fence.wide.inRound l).round = some l from rfl, Oper.semAt_some l a.eval o hnd]
  generalize (execOp a.eval o).run P w = r at h ⊢
  cases r with
  | ok x w' =>
    cases x with
    | enter f args => exact ⟨fun hd => (by cases hd), CallsIn.inRound l (callsIn_wide.2 h)⟩
    | row row args => exact ⟨fun hd => (by cases hd), fun c cs _ => let ⟨v, w', r, s⟩ := h c cs; ⟨v, w', r, stepsIn_wide.2 s⟩⟩
    | round l f tmps assign body => exact h.elim
    | _ => exact h
  | halt x w' => cases x <;> exact h
def noDefer (ops : Array Oper) : Bool := ops.all fun o => match o.op with | .defer _ => false | _ => true
theorem noDefer_spec {i : Nat} {o : Oper} (h : noDefer ops = true) (hi : ops[i]? = some o) : ∀ c, o.op ≠ .defer c := by
  intro c hc
  obtain ⟨hlt, rfl⟩ := Array.getElem?_eq_some_iff.1 hi
  have := Array.all_eq_true.1 h i hlt
  rw [hc] at this
  cases this
theorem wpAny_round {l k : Nat} (hnd : noDefer ops = true) (hlo : ¬ LetsOut Q) : ∀ (fuel : Nat) (done : Array Bool) (a : Act) (w : World), wpAny P md ops Q fuel done a w → wpAnyIn (Fence.wide.inRound l) k P md ops Q fuel done a w
  | 0, _, _, _, h => h
  | fuel + 1, done, a, w, h => ⟨h.1, fun i hi => by
    have hh := h.2 i hi
    unfold wpOp at hh
    unfold wpOpIn
    split at hh
    · rename_i he
      simp only [he]
      exact wpAny_round hnd hlo fuel _ _ _ hh
    · rename_i o ho
      simp only [ho]
      split at hh
      · rename_i hw
        simp only [hw, if_true]
        exact oper_round (noDefer_spec hnd ho) (Oper.wp_mono (fun a' w' h' => wpAny_round hnd hlo fuel _ a' w' h') (hh.resolve_right (fun x => hlo x.2)))
      · rename_i hw
        simp only [hw]
        exact ⟨fun _ _ => trivial, wpAny_round hnd hlo fuel _ _ _ hh⟩⟩
/-- A quiet head, then a tail in the text's order: in a round. -/
theorem wpIn_region_quiet_tail_round {id lp k : Nat} {a : Act} {w : World} {l : List Oper} (n : Nat) (hm : P.follows .mixedOrders = true) (hnd : noDefer l.toArray = true) (hlo : ¬ LetsOut Q) (hB : Region.lexTailB .any l.toArray n = true)
    (h : wpQuiet P l.toArray (fun w' => ∃ p : Regrown, w' = Go.Sort.grow (redrawn w p.d) p.os) (fun a' => ∀ w', (∃ p : Regrown, w' = Go.Sort.grow (redrawn w p.d) p.os) → wpList P l.toArray Q (l.drop n) a' w') (l.take n) a) :
    (Code.region id l.toArray true).wpIn (Fence.wide.inRound lp) k P Q a w := by
  simp only [Region.lexTailB, Bool.and_eq_true, decide_eq_true_eq] at hB
  obtain ⟨⟨⟨⟨hsel, hn⟩, hs⟩, hc⟩, hlex⟩ := hB
  have hn' : n < l.length := by simpa using hn
  have htl : (l.take n).length = n := by simp; omega
  have hdl : (l.drop n).length = l.toArray.size - n := by simp
  have inv0 : HeadInv .any l.toArray n (Array.replicate l.toArray.size false) :=
    ⟨by simp, fun j oj _ hl => absurd hl (by rw [getD_replicate_false]; simp), fun t _ ht => getD_in (by simpa using ht) (getD_replicate_false _ _)⟩
  have H := HeadQ.lex (md := .any) (g := l.toArray.size - n) hsel hs hc hn (l.take n) 0 _ a (fun j hj => by
    have hj' : j < n := by rw [htl] at hj; exact hj
    simp [hj']) (by simpa using htl) inv0 (by rw [htl]; exact hlex) h
  refine wpIn_region_any hm (wpAny_round hnd hlo _ _ _ _ ?_)
  have := HeadQ.any (Q' := Q) (g := l.toArray.size - n) (fun done a' w' hw hL => by
    have := wpAny_of_seq (md := .any) (Q' := Q) (l.drop n) n done a' w' (fun j => by simp [List.getElem?_drop]) (by rw [hdl]; exact hL.1) (hL.2 w' hw)
    rwa [hdl] at this) _ _ _ { w with drawn := w.drawn + 1 } ⟨⟨w.drawn + 1, #[]⟩, by rw [Go.Sort.grow_empty]; rfl⟩ H
  rw [htl, show n + (l.toArray.size - n) = l.toArray.size by omega] at this
  exact this
end

theorem KeepsOthers.of_below {W W' : World} (h : Below W.heap.size W W') : KeepsOthers W W' := ⟨h.size, fun i o ho _ => by
  rw [h.block i (Array.getElem?_eq_some_iff.1 ho).1]
  exact ho⟩

end Go.Proofs.YtkencmijghigiaaGreat

namespace Go.Proofs.YtkencmijghigiaaGreat
open Go.RowKit Go.Lib Go.Shelf
attribute [local go_sem] Oper.semAt_some

set_option maxRecDepth 100000 in
theorem up_any (n : Nt) (i : Int) (w : World) : Calls Tryz.prog 60 #[.agg n.vs.toArray, .int .i64 i] w fun e w' =>
    e = .returned (.func (.func 93) #[] #[.pointer (some ⟨w.heap.size + 1, 0, none⟩), .pointer (some ⟨w.heap.size, 0, none⟩)]) ∧
    w' = (w.alloc (.cells n.vs.toArray 67)).alloc (.cells #[.int .i64 i] 3) := by
  go_enter Tryz.func60, Tryz.ntmps60
  go_wp2
  go_ret
  exact ⟨rfl, rfl⟩

set_option maxHeartbeats 2000000 in
set_option maxRecDepth 100000 in
/-- The iterator: for every loop body that keeps the cells of all blocks but B. -/
theorem up1_in (F : Fence) (k : Nat) (hF : F.fn 93) (hro : F.round = none) (hk : 1 ≤ k) (l bi bt B : Nat) (n : Nt) (par : Fin n.m → Fin n.m) (hp : n.Par par) (i : Fin n.m) (J Jx : List (Fin n.m) → World → Prop)
    (hbt : bt ≠ B) (hbp : n.bp ≠ B)
    (hY : ∀ pre x W, J pre W → pre.length < (ups par i).length → YieldAt F (k - 1) Tryz.prog l #[.int .i64 (x.val : Int)] W fun e W' =>
      (e = .returned (.bool true) ∧ J (pre ++ [x]) W' ∧ KeepC B W W') ∨ (e = .returned (.bool false) ∧ Jx (pre ++ [x]) W'))
    (W : World) (hci : W.cell? ⟨bi, 0, none⟩ = some (.int .i64 (i.val : Int))) (hct : W.cell? ⟨bt, 1, none⟩ = some (.slice (some ⟨n.bp, n.op, none⟩) n.m n.kp)) (hpa : ∀ j, j < n.m → W.cell? ⟨n.bp, n.op + j, none⟩ = some (.int .i64 (n.pa j))) (h0 : J [] W) :
    CallsIn F k Tryz.prog 93 #[.func (.yield l) #[] #[], .pointer (some ⟨bi, 0, none⟩), .pointer (some ⟨bt, 0, none⟩)] W fun e W' => (∃ v, e = .returned v) ∧
      ((∃ ys, ys = ups par i ∧ J ys W') ∨ (∃ pre, pre <+: ups par i ∧ Jx pre W')) := by
  refine callsIn_of_wp Tryz.func93 rfl hF ?_ hro
  simp only [Tryz.ntmps93, List.size_toArray, List.length_cons, List.length_nil, Nat.reduceAdd, Nat.reduceSub, Array.replicate_succ, Array.replicate_zero, List.push_toArray, List.append_toArray, List.nil_append, List.cons_append]
  gi_wp2
  gi_loopw [4] (fun p wr => ∃ (pre : List (Fin n.m)) (j : Fin n.m), p = .int .i64 (j.val : Int) ∧ ups par i = pre ++ ups par j ∧ J pre wr ∧
      wr.cell? ⟨bt, 1, none⟩ = some (.slice (some ⟨n.bp, n.op, none⟩) n.m n.kp) ∧ (∀ j, j < n.m → wr.cell? ⟨n.bp, n.op + j, none⟩ = some (.int .i64 (n.pa j))))
    (fun p _ => (intOf p).toNat)
  case atStart =>
    exact ⟨[], i, rfl, rfl, h0, hct, hpa⟩
  case round =>
    obtain ⟨pre, j, rfl, hx, hJs, hc, hq⟩ := hrel
    by_cases hz : j.val = 0
    · rw [ups_zero hz, List.append_nil] at hx
      have hz' : (j.val : Int) = 0 := by omega
      gi_wp2
      go_end0
      exact ⟨⟨_, rfl⟩, .inl ⟨pre, hx.symm, hJs⟩⟩
    · have hz0 : 0 < j.val := by omega
      have hz1 : (0 : Int) < (j.val : Int) := by omega
      have hz2 : (j.val : Int) < (n.m : Int) := by have := j.isLt; omega
      rw [ups_cons hp.lt hz0] at hx
      obtain ⟨fn, tmps, assign, body, hy, hR⟩ := hY pre j wr hJs (by rw [hx]; simp)
      gi_wp2
      refine hR.mono ?_
      rintro e W3 (⟨rfl, hJ3, hk3⟩ | ⟨rfl, hJx3⟩)
      · have c3 := hk3 _ _ _ hbt hc
        have q3 : ∀ j, j < n.m → W3.cell? ⟨n.bp, n.op + j, none⟩ = some (.int .i64 (n.pa j)) := fun j' h' => hk3 _ _ _ hbp (hq j' h')
        have p3 : W3.cell? ⟨n.bp, n.op + j.val, none⟩ = some (.int .i64 ((par j).val : Int)) := by rw [q3 j.val j.isLt, hp.eq j hz0]
        gi_wp2
        go_roundw
        case rel => exact ⟨pre ++ [j], par j, int_eq (hp.eq j hz0), by simp [hx], hJ3, c3, q3⟩
        case measure =>
          have := hp.lt j hz0
          have := hp.eq j hz0
          simp [intOf]
          omega
      · gi_wp2
        refine bodyPost_ret (results_none rfl _ _ _) rfl ?_
        exact ⟨⟨_, rfl⟩, .inr ⟨pre ++ [j], ⟨ups par (par j), by simp [hx]⟩, hJx3⟩⟩

/-- As the law for a range wants it. -/
theorem up1_stops (F : Fence) (k : Nat) (hF : F.fn 93) (hro : F.round = none) (hk : 1 ≤ k) (bi bt B : Nat) (n : Nt) (par : Fin n.m → Fin n.m) (hp : n.Par par) (i : Fin n.m)
    (hbt : bt ≠ B) (hbp : n.bp ≠ B) (w : World)
    (hci : w.cell? ⟨bi, 0, none⟩ = some (.int .i64 (i.val : Int))) (hct : w.cell? ⟨bt, 1, none⟩ = some (.slice (some ⟨n.bp, n.op, none⟩) n.m n.kp)) (hpa : ∀ j, j < n.m → w.cell? ⟨n.bp, n.op + j, none⟩ = some (.int .i64 (n.pa j))) :
    SeqStopsK F k Tryz.prog 93 #[.pointer (some ⟨bi, 0, none⟩), .pointer (some ⟨bt, 0, none⟩)] (fun x : Fin n.m => #[.int .i64 (x.val : Int)]) (KeepC B) (fun ys => ys = ups par i) (fun pre => pre <+: ups par i) (ups par i).length w := by
  intro l J Jx W hW hJ hJx hY h0
  exact up1_in F k hF hro hk l bi bt B n par hp i J Jx hbt hbp hY W (below_keep hW hci) (below_keep hW hct) (fun j hj => below_keep hW (hpa j hj)) h0

end Go.Proofs.YtkencmijghigiaaGreat

namespace Go.Proofs.YtkencmijghigiaaGreat
open Go.RowKit Go.Lib Go.Shelf
attribute [local go_sem] Oper.semAt_some

/-- The limits of a valid network's numbers. -/
structure Nt.Bd (n : Nt) : Prop where
  m12 : n.m ≤ 12
  tu0 : 0 ≤ n.tu
  tu1 : n.tu ≤ 1048576
  ga0 : 10000 ≤ n.ga
  ga1 : n.ga ≤ 1073741824
  st0 : n.ga + 20000 + n.tu ≤ n.st
  st1 : n.st ≤ 4294967296
  iv0 : 1 ≤ n.iv
  iv1 : n.iv ≤ 4294967296
  sy0 : 0 ≤ n.sy
  sy1 : n.sy ≤ 1048576
  de0 : ∀ j, j < n.m → 0 ≤ n.de j
  de1 : ∀ j, j < n.m → n.de j ≤ 10000

def stays (n : Nt) (l : List (Fin n.m)) : Int := l.foldl (fun s x => s + (n.sy + n.de x.val)) (n.st - n.sy)
theorem stays_snoc (n : Nt) (l : List (Fin n.m)) (x : Fin n.m) : stays n (l ++ [x]) = stays n l + (n.sy + n.de x.val) := by simp [stays]
theorem stays_bd {n : Nt} (h : n.Bd) : ∀ (l : List (Fin n.m)), -1048576 ≤ stays n l ∧ stays n l ≤ 4294967296 + 1058576 * (l.length : Int) := by
  intro l
  obtain ⟨l', hl⟩ : ∃ l', l'.reverse = l := ⟨l.reverse, List.reverse_reverse l⟩
  subst hl
  induction l' with
  | nil =>
    have := h.st0; have := h.st1; have := h.sy0; have := h.sy1; have := h.ga0; have := h.tu0
    simp [stays]
    omega
  | cons x l' ih =>
    rw [List.reverse_cons, stays_snoc]
    have := h.de0 x.val x.isLt; have := h.de1 x.val x.isLt; have := h.sy0; have := h.sy1
    simp only [List.length_append, List.length_cons, List.length_nil]
    omega
theorem ups_len {m : Nat} {par : Fin m → Fin m} (hp : ∀ i : Fin m, 0 < i.val → (par i).val < i.val) (i : Fin m) : (ups par i).length ≤ i.val := by
  obtain ⟨k, hk⟩ : ∃ k, i.val = k := ⟨_, rfl⟩
  induction k using Nat.strongRecOn generalizing i with
  | ind k ih =>
    by_cases h0 : i.val = 0
    · rw [ups_zero h0]; simp
    · rw [ups_cons hp (by omega)]
      have h1 := hp i (by omega)
      have := ih (par i).val (by omega) (par i) rfl
      simp
      omega
/-- When sync 0 arrives. -/
def firstV (n : Nt) (par : Fin n.m → Fin n.m) (i : Fin n.m) : Int := stays n (ups par i)

set_option maxHeartbeats 4000000 in
set_option maxRecDepth 100000 in
theorem first_any (n : Nt) (hb : n.Bd) (par : Fin n.m → Fin n.m) (hp : n.Par par) (i : Fin n.m) (w : World) (hn : n.In w) :
    Calls Tryz.prog 47 #[.agg n.vs.toArray, .int .i64 (i.val : Int)] w fun e w' => e = .returned (.int .i64 (firstV n par i)) ∧ Below w.heap.size w w' := by
  have ha := Lib.hid (show ∀ w, (isAgg 67).run Tryz.prog w = .ok true w from fun w => by kernel_rfl)
  have hs := Lib.hid (show ∀ w, (sizeOf 67).run Tryz.prog w = .ok n.vs.length w from fun w => by kernel_rfl)
  have s0 := hb.sy0
  have s1 := hb.sy1
  have t0 : 0 ≤ n.st := by have := hb.st0; have := hb.ga0; have := hb.tu0; omega
  have t1 := hb.st1
  refine (callsIn_wide (n := 4)).1 ?_
  refine callsIn_of_wp_marks Tryz.func47 rfl trivial ?_ rfl
  simp only [Tryz.ntmps47, List.size_toArray, List.length_cons, List.length_nil, Nat.reduceAdd, Nat.reduceSub, Array.replicate_succ, Array.replicate_zero, List.push_toArray, List.append_toArray, List.nil_append, List.cons_append]
  rw [n.lit]
  gi_wp2_with ((refine ⟨trivial, ?_⟩; gi_at_call 60; refine (callsIn_wide.2 (up_any n _ _)).mono ?_; rintro e w' ⟨rfl, rfl⟩))
  refine wpIn_world' ?_
  intro W0 hW0
  have zW : w.heap.size + 4 ≤ W0.heap.size := by subst hW0; simp
  have B0 : Below w.heap.size w W0 := by subst hW0; exact below_alloc (below_alloc (below_alloc (below_alloc (Below.refl _ _) _) _) _) _
  have ci : W0.cell? ⟨w.heap.size + 1 + 1 + 1, 0, none⟩ = some (.int .i64 (i.val : Int)) := by subst hW0; simp [go_sem]
  have ct : W0.cell? ⟨w.heap.size + 1 + 1, 1, none⟩ = some (.slice (some ⟨n.bp, n.op, none⟩) n.m n.kp) := by subst hW0; simp [go_sem, Nt.vs]
  have cs : W0.cell? ⟨w.heap.size + 1, 0, none⟩ = some (.int .i64 (n.st - n.sy)) := by subst hW0; simp [go_sem]
  have fs : W0.frozen? ⟨w.heap.size + 1, 0, none⟩ = false := by subst hW0; simp [go_sem]
  have c7 : W0.cell? ⟨w.heap.size, 7, none⟩ = some (.int .i64 n.sy) := by subst hW0; simp [go_sem]
  have c2 : W0.cell? ⟨w.heap.size, 2, none⟩ = some (.slice (some ⟨n.bd, n.od, none⟩) n.m n.kd) := by subst hW0; simp [go_sem]
  clear hW0
  have hN : (ups par i).length ≤ 12 := by have := ups_len hp.lt i; have := i.isLt; have := hb.m12; omega
  refine wpIn_rangeFunc_ownF rfl (by omega) (gf := 93) (lb := #[.pointer (some ⟨w.heap.size + 1 + 1 + 1, 0, none⟩), .pointer (some ⟨w.heap.size + 1 + 1, 0, none⟩)]) rfl trivial (enters_of Tryz.func93 (by kernel_rfl) rfl)
    (up1_stops Fence.wide _ trivial rfl (by omega) (w.heap.size + 1 + 1 + 1) (w.heap.size + 1 + 1) (w.heap.size + 1) n par hp i (by omega) (by have := hn.lp; omega) W0 ci ct (fun j hj => below_keep B0 (hn.p j hj))) keepC_t (keepC_b (n₀ := W0.heap.size)) (Below.refl _ _) (fun _ => rfl)
    (fun pre W => (W.cell? ⟨w.heap.size + 1, 0, none⟩ = some (.int .i64 (stays n pre)) ∧ W.frozen? ⟨w.heap.size + 1, 0, none⟩ = false ∧ W.cell? ⟨w.heap.size, 7, none⟩ = some (.int .i64 n.sy) ∧ W.cell? ⟨w.heap.size, 2, none⟩ = some (.slice (some ⟨n.bd, n.od, none⟩) n.m n.kd)) ∧ Below w.heap.size w W)
    (fun _ _ _ => False)
    (OwnFrom.and (Own.from (fun s A B row hs hg hr => ⟨cell_kept hs.1 hg hr, (frozen_kept hs.1 hg hr).trans hs.2.1, cell_kept hs.2.2.1 hg hr, cell_kept hs.2.2.2 hg hr⟩) _) (ownFrom_below (Nat.le_refl _) (by omega)))
    (fun _ _ _ _ _ hs _ _ => hs)
    ⟨⟨cs, fs, c7, c2⟩, B0⟩
    (fun x => { tmps := #[.agg #[.slice (some ⟨n.bc, n.oc, none⟩) n.m n.kc, .slice (some ⟨n.bp, n.op, none⟩) n.m n.kp, .slice (some ⟨n.bd, n.od, none⟩) n.m n.kd, .int .i64 n.tu, .int .i64 n.ga, .int .i64 n.st, .int .i64 n.iv, .int .i64 n.sy], .int .i64 (i.val : Int), .pointer (some ⟨w.heap.size, 0, none⟩), undef, .int .i64 0, .pointer (some ⟨w.heap.size + 1, 0, none⟩), .int .i64 (x.val : Int), .pointer (some ⟨w.heap.size, 0, none⟩), .pointer (some ⟨w.heap.size, 5, none⟩), .int .i64 n.st, .pointer (some ⟨w.heap.size, 0, none⟩), .pointer (some ⟨w.heap.size, 7, none⟩), .int .i64 n.sy, .int .i64 (n.st - n.sy), .agg #[.slice (some ⟨n.bc, n.oc, none⟩) n.m n.kc, .slice (some ⟨n.bp, n.op, none⟩) n.m n.kp, .slice (some ⟨n.bd, n.od, none⟩) n.m n.kd, .int .i64 n.tu, .int .i64 n.ga, .int .i64 n.st, .int .i64 n.iv, .int .i64 n.sy], .int .i64 (i.val : Int), .func (.func 93) #[] #[.pointer (some ⟨w.heap.size + 1 + 1 + 1, 0, none⟩), .pointer (some ⟨w.heap.size + 1 + 1, 0, none⟩)], .int .i64 (x.val : Int), undef, undef, undef, undef, undef, undef, undef, undef, undef, undef, undef, undef, undef], defers := [] }) ?assign ?body ?done ?stop
  case assign =>
    intro l x W K hK
    gi_wp2
    exact hK
  case body =>
    rintro l pre x W ⟨⟨hc, hf, h7, h2⟩, hB⟩ hlen
    have hd : W.cell? ⟨n.bd, n.od + x.val, none⟩ = some (.int .i64 (n.de x.val)) := below_keep hB (hn.d x.val x.isLt)
    have x0 : (0 : Int) ≤ (x.val : Int) := by omega
    have x1 : (x.val : Int) < (n.m : Int) := by have := x.isLt; omega
    have hsb := stays_bd hb pre
    have hd0 := hb.de0 x.val x.isLt
    have hd1 := hb.de1 x.val x.isLt
    have hst := stays_snoc n pre x
    have hlb : (pre.length : Int) ≤ 12 := by omega
    have hw1 : IntKind.i64.wrap (n.sy + n.de x.val) = n.sy + n.de x.val := by simp [IntKind.wrap, IntKind.signed, IntKind.bits]; omega
    have hw2 : IntKind.i64.wrap (stays n pre + (n.sy + n.de x.val)) = stays n pre + (n.sy + n.de x.val) := by simp [IntKind.wrap, IntKind.signed, IntKind.bits]; omega
    gi_wp2
    have r0 := fun p : Regrown => cell_regrown hc p.d p.os
    have r1 := fun p : Regrown => cell_regrown h7 p.d p.os
    have r2 := fun p : Regrown => cell_regrown h2 p.d p.os
    have r3 := fun p : Regrown => cell_regrown hd p.d p.os
    refine wpIn_region_quiet_tail_round 12 (by kernel_rfl) (by kernel_rfl) (by rintro ⟨a, w, h⟩; exact h) (by kernel_rfl) ?_
    simp only [List.take_succ_cons, List.take_zero, List.drop_succ_cons, List.drop_zero]
    repeat (go_big_quiet_step (fail))
    refine wpQuiet_nil ?_
    intro w6 hw
    have b6 : Below W.heap.size W w6 := by obtain ⟨p, rfl⟩ := hw; exact below_regrown _ _ _
    have c6 := below_keep b6 hc
    have f6 : w6.frozen? ⟨w.heap.size + 1, 0, none⟩ = false := by rw [b6.frozen (World.block_lt_of_cell? _ _ hc)]; exact hf
    have k7 := below_keep b6 h7
    have k2 := below_keep b6 h2
    clear hw r0 r1 r2 r3
    go_wp2
    have hB6 := hB.trans (b6.mono hB.size)
    exact ⟨(KeepsOthers.of_below b6).trans (KeepsOthers.setCell _ _ _), ((KeepC.refl _ _).below b6).setCell 0 _,
      ⟨by rw [hst]; exact World.cell?_setCell_same' _ _ _ (by rw [c6]; rfl), by rw [World.frozen?_setCell]; exact f6, by rw [World.cell?_setCell_far _ _ _ _ (by show w.heap.size + 1 ≠ w.heap.size; omega)]; exact k7, by rw [World.cell?_setCell_far _ _ _ _ (by show w.heap.size + 1 ≠ w.heap.size; omega)]; exact k2⟩,
      hB6.setCell (p := ⟨w.heap.size + 1, 0, none⟩) (by simp) _⟩
  case done =>
    rintro D ys W hD rfl ⟨⟨hc, _⟩, hB⟩ hK
    gi_wp2
    refine ⟨by simp, .inl ⟨_, _, rfl, run_takeDeferred hK, ?_⟩⟩
    exact ⟨_, results_tmp rfl _ _ _, rfl, hB.trans (belowK_b (w := w) (Nat.le_refl _) W D _ _ (by omega) hK rfl rfl)⟩
  case stop =>
    rintro D c pre W _ _ h _
    exact h.elim

end Go.Proofs.YtkencmijghigiaaGreat

namespace Go.Proofs.YtkencmijghigiaaGreat
open Go.RowKit Go.Lib

/-- A mark. -/
def mrk (D : Nat) : Deferred := { target := .collected D, args := #[] }
/-- The marks' blocks: each holds no call; they are different. -/
def Marks (n0 : Nat) (Ds : List Nat) (w : World) : Prop := Ds.Nodup ∧ ∀ D ∈ Ds, n0 ≤ D ∧ w.heap[D]? = some (.deferred (some []))
theorem Marks.nil (n0 : Nat) (w : World) : Marks n0 [] w := ⟨List.nodup_nil, fun _ h => by cases h⟩
theorem Marks.cons {n0 D : Nat} {Ds : List Nat} {w : World} (h : Marks n0 Ds w) (hlt : ∀ X ∈ Ds, X < D) (h0 : n0 ≤ D) (hD : w.heap[D]? = some (.deferred (some []))) : Marks n0 (D :: Ds) w :=
  ⟨List.nodup_cons.2 ⟨fun hm => by have := hlt D hm; omega, h.1⟩, fun X hX => by
    rcases List.mem_cons.1 hX with rfl | hX
    · exact ⟨h0, hD⟩
    · exact h.2 X hX⟩
theorem Marks.mono {n0 n1 : Nat} {Ds : List Nat} {w : World} (h : Marks n0 Ds w) (hn : n1 ≤ n0) : Marks n1 Ds w := ⟨h.1, fun X hX => ⟨Nat.le_trans hn (h.2 X hX).1, (h.2 X hX).2⟩⟩
theorem Marks.lt {n0 : Nat} {Ds : List Nat} {w : World} (h : Marks n0 Ds w) : ∀ X ∈ Ds, X < w.heap.size := fun X hX => (Array.getElem?_eq_some_iff.1 (h.2 X hX).2).1
theorem Marks.kept {n0 : Nat} {Ds : List Nat} {w w' : World} {row : Option Nat} (h : Marks n0 Ds w) (hg : w.grownBy w' row) (hr : ∀ r, row = some r → ∀ X ∈ Ds, X ≠ r) : Marks n0 Ds w' :=
  ⟨h.1, fun X hX => ⟨(h.2 X hX).1, (hg.block X (h.lt X hX) (fun e => hr X e.symm X hX rfl)).trans (h.2 X hX).2⟩⟩
theorem marks_from {β : Type} {n0 : Nat} {Ds : List Nat} {w : World} (h : Marks n0 Ds w) : OwnFrom w.heap.size (fun (_ : β) W => Marks n0 Ds W) :=
  fun _ _ _ _ hs hg hr => hs.kept hg (fun r e X hX => by have := (hr r e).1; have := h.lt X hX; omega)

theorem marks_leave {F : Fence} {n : Nat} {P : Program} {fn : Func} {tmps : Array Value} {R : Ending → World → Prop} {w0 : World} {v : Value} (hv : ∀ w', (results fn tmps).run P w' = .ok v w') (hR : ∀ w', Below w0.heap.size w0 w' → R (.returned v) w') :
    ∀ (Ds : List Nat) (w : World), Marks w0.heap.size Ds w → Below w0.heap.size w0 w → LeavesInM F n P fn tmps R (Ds.map mrk) .returning w := by
  intro Ds
  induction Ds with
  | nil => intro w _ hB; exact ⟨v, hv w, hR w hB⟩
  | cons D Ds ih =>
    intro w hM hB
    obtain ⟨h0, hD⟩ := hM.2 D (by simp)
    have hnd := List.nodup_cons.1 hM.1
    have hM' : Marks w0.heap.size Ds w := ⟨hnd.2, fun X hX => hM.2 X (by simp [hX])⟩
    refine ⟨by simp, .inl ⟨D, _, rfl, run_takeDeferred hD, ?_⟩⟩
    refine ih _ (hM'.kept (grownBy_putObj' w D _) (fun r e X hX => ?_)) (hB.trans (belowK_b (w := w0) (Nat.le_refl _) w D _ _ h0 hD rfl rfl))
    cases e
    intro hx
    subst hx
    exact hnd.1 hX

end Go.Proofs.YtkencmijghigiaaGreat
