/-
  Texts of this claim laid together: TpA, TpB.
-/
import Derived.Test.YtjhpbemnklpefaaMTpX
import Derived.Test.YtjhpbemnklpefaaMBase
namespace Go.Proofs.Ytjhpbemnklpefaa
open Go.RowKit Go.Lib Plain

set_option maxHeartbeats 4000000 in
set_option maxRecDepth 100000 in
theorem endFrom_any (l : Lk) (p : Nat) (w : World) :
    Calls Try.prog 79 #[.agg #[.int .i64 (l.a : Int), .int .i64 (l.b : Int), .int .i64 (l.per : Int), .int .i64 (l.dly : Int), .int .i64 (p : Int)]] w fun e w' => e = .returned (.int .i64 ((if p % 2 = 0 then l.a else l.b : Nat) : Int)) ∧ Below w.heap.size w w' := by
  have hm : Int.tmod (p : Int) 2 = (p : Int) % 2 := Int.tmod_eq_emod_of_nonneg (by omega)
  by_cases h : p % 2 = 0
  · have h' : (p : Int) % 2 = 0 := by omega
    rw [if_pos h]
    clear h
    go_enter Try.func79, Try.ntmps79
    go_wp2
    go_ret
    exact ⟨rfl, below_alloc (Below.refl _ _) _⟩
  · have h' : ¬ (p : Int) % 2 = 0 := by omega
    rw [if_neg h]
    clear h
    go_enter Try.func79, Try.ntmps79
    go_wp2
    go_ret
    exact ⟨rfl, below_alloc (Below.refl _ _) _⟩

set_option maxHeartbeats 4000000 in
set_option maxRecDepth 100000 in
theorem endTo_any (l : Lk) (p : Nat) (w : World) :
    Calls Try.prog 80 #[.agg #[.int .i64 (l.a : Int), .int .i64 (l.b : Int), .int .i64 (l.per : Int), .int .i64 (l.dly : Int), .int .i64 (p : Int)]] w fun e w' => e = .returned (.int .i64 ((if p % 2 = 0 then l.b else l.a : Nat) : Int)) ∧ Below w.heap.size w w' := by
  have hm : Int.tmod (p : Int) 2 = (p : Int) % 2 := Int.tmod_eq_emod_of_nonneg (by omega)
  by_cases h : p % 2 = 0
  · have h' : (p : Int) % 2 = 0 := by omega
    rw [if_pos h]
    clear h
    go_enter Try.func80, Try.ntmps80
    go_wp2
    go_ret
    exact ⟨rfl, below_alloc (Below.refl _ _) _⟩
  · have h' : ¬ (p : Int) % 2 = 0 := by omega
    rw [if_neg h]
    clear h
    go_enter Try.func80, Try.ntmps80
    go_wp2
    go_ret
    exact ⟨rfl, below_alloc (Below.refl _ _) _⟩

set_option maxHeartbeats 4000000 in
set_option maxRecDepth 100000 in
theorem askI_any (g : Tg) (hk : OkT g.T) (p : Nat) (hp : p < g.T.pn) (f : Nat) (v : Nat) (w : World) (hg : g.In w)
    (hf : ∀ W, Calls Try.prog f #[.agg #[.int .i64 ((g.T.lk (p / 2)).a : Int), .int .i64 ((g.T.lk (p / 2)).b : Int), .int .i64 ((g.T.lk (p / 2)).per : Int), .int .i64 ((g.T.lk (p / 2)).dly : Int), .int .i64 (p : Int)]] W fun e w' => e = .returned (.int .i64 (v : Int)) ∧ Below W.heap.size W w')
    (h79 : f = 79 ∨ f = 80) :
    Calls Try.prog 78 #[.agg #[.int .i64 (g.T.n : Int), .slice (some ⟨g.bs, g.os, none⟩) g.T.n g.ks, .slice (some ⟨g.bl, g.ol, none⟩) g.T.ls.length g.kl], .int .i64 (p : Int), .func (.func f) #[] #[]] w fun e w' => e = .returned (.tuple #[.int .i64 (v : Int), .int .i64 0]) ∧ Below w.heap.size w w' := by
  have HG := Lib.hid hg
  have l24 := hk.l24
  have HC := Lib.hid (fun W hW => check_any g hk W hW)
  have HF := Lib.hid hf
  unfold Tp.pn at hp
  have hi : p / 2 < g.T.ls.length := by omega
  have p1 : ¬ (p : Int) < 0 := by omega
  have p2 : ¬ (p : Int) ≥ 2 * (g.T.ls.length : Int) := by omega
  have hq : Int.tdiv (p : Int) 2 = ((p / 2 : Nat) : Int) := by rw [Int.tdiv_eq_ediv_of_nonneg (by omega)]; omega
  have hq2 : ((p / 2 : Nat) : Int) < (g.T.ls.length : Int) := by omega
  have hpl : (p : Int) ≤ 48 := by omega
  clear hg hf hp
  rcases h79 with rfl | rfl
  all_goals
    go_enter Try.func78, Try.ntmps78
    go_wp2_with fail
    refine (HC.out _ (HG.out.keep (below_alloc (Below.refl _ _) _))).mono ?_
    rintro e w1 ⟨rfl, hb1⟩
    have T1 := Lib.hid ((TAt.new HG.out 29).keep hb1)
    have B1 := Lib.hid (below_step (below_alloc (Below.refl _ w) _) hb1)
    have c2 := T1.out.c2
    have k0 := T1.out.i.a _ hi; have k1 := T1.out.i.b _ hi; have k2 := T1.out.i.p _ hi; have k3 := T1.out.i.d _ hi
    clear hb1 HC T1
    generalize p / 2 = i at *
    go_wp2_with fail
    refine (HF.out _).mono ?_
    rintro e w2 ⟨rfl, hb2⟩
    have B2 := Lib.hid (below_step B1.out hb2)
    clear hb2
    go_wp2
    go_ret2
    exact ⟨rfl, B2.out⟩

set_option maxHeartbeats 4000000 in
set_option maxRecDepth 100000 in
theorem from_any (g : Tg) (hk : OkT g.T) (p : Nat) (hp : p < g.T.pn) (w : World) (hg : g.In w) :
    Calls Try.prog 58 #[.agg #[.int .i64 (g.T.n : Int), .slice (some ⟨g.bs, g.os, none⟩) g.T.n g.ks, .slice (some ⟨g.bl, g.ol, none⟩) g.T.ls.length g.kl], .int .i64 (p : Int)] w fun e w' => e = .returned (.tuple #[.int .i64 (g.T.fr p : Int), .int .i64 0]) ∧ Below w.heap.size w w' := by
  have HQ := Lib.hid (fun W hW => askI_any g hk p hp 79 (g.T.fr p) W hW (fun W => endFrom_any (g.T.lk (p / 2)) p W) (.inl rfl))
  have HG := Lib.hid hg
  clear hg
  go_enter Try.func58, Try.ntmps58
  go_wp2_with fail
  refine (HQ.out _ (HG.out.keep (below_alloc (Below.refl _ _) _))).mono ?_
  rintro e w1 ⟨rfl, hb1⟩
  have B1 := Lib.hid (below_step (below_alloc (Below.refl _ w) _) hb1)
  clear hb1
  go_wp2
  go_ret2
  exact ⟨rfl, B1.out⟩

set_option maxHeartbeats 4000000 in
set_option maxRecDepth 100000 in
theorem to_any (g : Tg) (hk : OkT g.T) (p : Nat) (hp : p < g.T.pn) (w : World) (hg : g.In w) :
    Calls Try.prog 59 #[.agg #[.int .i64 (g.T.n : Int), .slice (some ⟨g.bs, g.os, none⟩) g.T.n g.ks, .slice (some ⟨g.bl, g.ol, none⟩) g.T.ls.length g.kl], .int .i64 (p : Int)] w fun e w' => e = .returned (.tuple #[.int .i64 (g.T.to p : Int), .int .i64 0]) ∧ Below w.heap.size w w' := by
  have HQ := Lib.hid (fun W hW => askI_any g hk p hp 80 (g.T.to p) W hW (fun W => endTo_any (g.T.lk (p / 2)) p W) (.inr rfl))
  have HG := Lib.hid hg
  clear hg
  go_enter Try.func59, Try.ntmps59
  go_wp2_with fail
  refine (HQ.out _ (HG.out.keep (below_alloc (Below.refl _ _) _))).mono ?_
  rintro e w1 ⟨rfl, hb1⟩
  have B1 := Lib.hid (below_step (below_alloc (Below.refl _ w) _) hb1)
  clear hb1
  go_wp2
  go_ret2
  exact ⟨rfl, B1.out⟩

end Go.Proofs.Ytjhpbemnklpefaa

namespace Go.Proofs.Ytjhpbemnklpefaa
open Go.RowKit Go.Lib Plain

/-- A search's cells. -/
def sFn (g : Tg) (f t : Nat → Nat) : List Value := g.vs ++ ((List.range 48).map (fun q => Value.int .i64 (f q : Int)) ++ (List.range 48).map (fun q => Value.int .i64 (t q : Int)))
def Sv (g : Tg) : List Value := sFn g g.T.fr g.T.to
theorem sFn_len (g : Tg) (f t : Nat → Nat) : (sFn g f t).length = 99 := by simp [sFn, Tg.vs]
theorem sFn_fr (g : Tg) (f t : Nat → Nat) (q : Nat) (hq : q < 48) : (sFn g f t)[3 + q]? = some (.int .i64 (f q : Int)) := by
  unfold sFn
  rw [List.getElem?_append_right (by simp [Tg.vs]), show 3 + q - g.vs.length = q by simp [Tg.vs], List.getElem?_append_left (by simpa using hq)]
  simp [hq]
theorem sFn_to (g : Tg) (f t : Nat → Nat) (q : Nat) (hq : q < 48) : (sFn g f t)[51 + q]? = some (.int .i64 (t q : Int)) := by
  unfold sFn
  rw [List.getElem?_append_right (by simp [Tg.vs]; omega), show 51 + q - g.vs.length = 48 + q by simp [Tg.vs]; omega, List.getElem?_append_right (by simp), show 48 + q - ((List.range 48).map fun q => Value.int .i64 (f q : Int)).length = q by simp]
  simp [hq]
theorem sFn_one (g : Tg) (f t : Nat → Nat) : ∀ v ∈ sFn g f t, v.oneCell' = true := by
  intro v hv
  unfold sFn at hv
  simp only [List.mem_append, List.mem_map] at hv
  rcases hv with hv | ⟨q, _, rfl⟩ | ⟨q, _, rfl⟩
  · exact g.vs_one v hv
  · rfl
  · rfl
theorem range_set {n q : Nat} (f : Nat → Nat) (x : Nat) : ((List.range n).map fun q => Value.int .i64 (f q : Int)).set q (.int .i64 (x : Int)) = (List.range n).map fun k => Value.int .i64 ((upd f q x k : Nat) : Int) := by
  apply List.ext_getElem?
  intro k
  rw [List.getElem?_set]
  by_cases e : q = k
  · subst e
    rw [if_pos rfl]
    by_cases h : q < n
    · simp [h, upd]
    · simp [h]
  · rw [if_neg e]
    by_cases h : k < n
    · simp [h, upd, Ne.symm e]
    · simp [h]
theorem sFn_setF (g : Tg) (f t : Nat → Nat) (q x : Nat) (hq : q < 48) : (sFn g f t).set (3 + q) (.int .i64 (x : Int)) = sFn g (upd f q x) t := by
  unfold sFn
  rw [List.set_append_right _ _ (by simp [Tg.vs]), show 3 + q - g.vs.length = q by simp [Tg.vs], List.set_append_left _ _ (by simpa using hq), range_set]
theorem sFn_setT (g : Tg) (f t : Nat → Nat) (q x : Nat) : (sFn g f t).set (51 + q) (.int .i64 (x : Int)) = sFn g f (upd t q x) := by
  unfold sFn
  rw [List.set_append_right _ _ (by simp [Tg.vs]; omega), show 51 + q - g.vs.length = 48 + q by simp [Tg.vs]; omega, List.set_append_right _ _ (by simp), show 48 + q - ((List.range 48).map fun q => Value.int .i64 (f q : Int)).length = q by simp, range_set]
theorem agg55 : ∀ w, (isAgg 55).run Try.prog w = .ok true w := fun w => by kernel_rfl
theorem size55 (g : Tg) (f t : Nat → Nat) : ∀ w, (sizeOf 55).run Try.prog w = .ok (sFn g f t).length w := fun w => by
  rw [sFn_len]
  kernel_rfl

/-- A search in a block of its own. -/
structure SAt (g : Tg) (sb : Nat) (w : World) : Prop where
  h : Holds w sb (Sv g)
  i : g.In w
section
variable {g : Tg} {sb : Nat} {w W : World}
theorem SAt.keep (h : SAt g sb w) (hb : Below w.heap.size w W) : SAt g sb W := ⟨h.h.keep hb, h.i.keep hb⟩
theorem SAt.c0 (h : SAt g sb w) : w.cell? ⟨sb, 0, none⟩ = some (.int .i64 (g.T.n : Int)) := h.h 0 _ rfl
theorem SAt.c1 (h : SAt g sb w) : w.cell? ⟨sb, 1, none⟩ = some (.slice (some ⟨g.bs, g.os, none⟩) g.T.n g.ks) := h.h 1 _ rfl
theorem SAt.c2 (h : SAt g sb w) : w.cell? ⟨sb, 2, none⟩ = some (.slice (some ⟨g.bl, g.ol, none⟩) g.T.ls.length g.kl) := h.h 2 _ rfl
theorem SAt.fr (h : SAt g sb w) (q : Nat) (hq : q < 48) : w.cell? ⟨sb, 3 + q, none⟩ = some (.int .i64 (g.T.fr q : Int)) := by
  have := h.h (3 + q) _ (sFn_fr g _ _ q hq)
  rwa [Nat.zero_add] at this
theorem SAt.to (h : SAt g sb w) (q : Nat) (hq : q < 48) : w.cell? ⟨sb, 51 + q, none⟩ = some (.int .i64 (g.T.to q : Int)) := by
  have := h.h (51 + q) _ (sFn_to g _ _ q hq)
  rwa [Nat.zero_add] at this
theorem SAt.new (h : g.In w) (t : TypeId) : SAt g w.heap.size (w.alloc (.cells (Sv g).toArray t)) := ⟨holds_alloc w (Sv g) t rfl, h.keep (below_alloc (Below.refl _ _) _)⟩
end

set_option maxHeartbeats 4000000 in
set_option maxRecDepth 100000 in
theorem ports_any (g : Tg) (f t : Nat → Nat) (l24 : g.T.ls.length ≤ 24) (w : World) :
    Calls Try.prog 29 #[.agg (sFn g f t).toArray] w fun e w' => e = .returned (.int .i64 (g.T.pn : Int)) ∧ Below w.heap.size w w' := by
  have h := holds_alloc w (sFn g f t) 55 rfl
  have c2 : (w.alloc (.cells (sFn g f t).toArray 55)).cell? ⟨w.heap.size, 2, none⟩ = some (.slice (some ⟨g.bl, g.ol, none⟩) g.T.ls.length g.kl) := h 2 _ rfl
  have e : (g.T.pn : Int) = 2 * (g.T.ls.length : Int) := by unfold Tp.pn; omega
  rw [e]
  have B := Lib.hid (below_alloc (Below.refl _ w) (.cells (sFn g f t).toArray 55))
  clear h
  generalize (sFn g f t).toArray = c at *
  go_enter Try.func29, Try.ntmps29
  go_wp2
  go_ret
  exact ⟨rfl, B.out⟩

end Go.Proofs.Ytjhpbemnklpefaa
