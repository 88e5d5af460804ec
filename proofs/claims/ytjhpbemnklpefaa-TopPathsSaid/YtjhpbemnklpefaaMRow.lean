/-
  Rows of one's own: what an append leaves; whole stores.
-/
import Derived.Maps.AppendAt
import Derived.Laws.OwnMore
import Derived.Below
import Derived.ArgAppend
import Derived.Test.YtjhpbemnklpefaaMBase
namespace Go.Proofs.Ytjhpbemnklpefaa
open Go.RowKit Go.Lib

section
variable {P : Program} {Q : Exit → Act → World → Prop}
theorem wp_of_call15 {o : Oper} {a : Act} {w : World} {K : Act → World → Prop} {f : FuncId} {args : Array Value} {v : Value} (h : (execOp a.eval o).run P w = .ok (.enter f args) w) (hc : Calls P f args w fun e w' => e = .returned v ∧ Below w.heap.size w w') (hK : ∀ w', Below w.heap.size w w' → K (a.put o.dst v) w') : o.wp P a w K Q := by
  unfold Oper.wp
  rw [h, Oper.upon_enter]
  refine hc.mono ?_
  rintro e w' ⟨rfl, hb⟩
  exact hK w' hb
theorem wp_append_at15 {w : World} {o : Oper} {a : Act} {K : Act → World → Prop} (s x : Operand) (t : TypeId)
    (ho : o.op = .call { callee := .builtin .append, args := #[s, x], argTypes := #[t, t] })
    (base : Nat) (e : TypeId) (i : TypeInfo) (z : Value) (size bytes : Nat) (ht : P.underlying t = some (.slice e)) (hi : P.info? e = some i) (hz : i.zero = some z)
    (hsize : i.size = size) (hby : i.bytes = bytes) (hzs : z.cells.size = size) (hsz : 0 < size)
    (v : Value) (n : Nat) (xs : List Value) (hs : a.eval s = v) (hown : w.ownsRow base e size v n xs)
    (ad : Addr) (m c : Nat) (news : List Value) (hx : a.eval x = .slice (some ad) m c) (hl : news.length = m * size) (hnews : ∀ j u, news[j]? = some u → w.cell? (ad.add j) = some u) (h1 : ∀ u ∈ news, u.oneCell' = true)
    (h63 : n + m ≤ maxLen) (hbytes : (n + m) * bytes ≤ 140737488355328) (hbase : base ≤ w.heap.size)
    (h : ∀ v' w', w'.ownsRow base e size v' (n + m) (xs ++ news) → w.grownBy w' v.ownBlock → (v'.ownBlock = v.ownBlock ∨ v'.ownBlock = some w.heap.size) → K (a.put o.dst v') w') : o.wp P a w K Q := by
  obtain ⟨v', w', hr, h2, h3, _, h5⟩ := run_append_own_at (P := P) w base t o.type e i z size bytes ht hi hz hsize hby hzs hsz v n xs hown ad m c news hl hnews h1 h63 hbytes hbase
  unfold Oper.wp execOp
  simp only [ho, resolve, invoke, builtin, Sem.run_bind, Sem.run_pure, Result.andThen_ok, List.map_toArray, List.map_cons, List.map_nil, hs, hx, hr]
  exact h v' w' h2 h3 h5
end

theorem wp_append_growsT {P : Program} {Q : Exit → Act → World → Prop} {w : World} {o : Oper} {a : Act} {K : Act → World → Prop} (s x : Operand) (t : TypeId) (hop : o.op = Op.call { callee := Callee.builtin Builtin.append, args := #[s, x], argTypes := #[t, t] })
    (e : TypeId) (i : TypeInfo) (z : Value) (size bytes : Nat) (h1 : P.underlying t = some (.slice e)) (h2 : P.info? e = some i) (h3 : i.zero = some z) (h4 : i.size = size) (h5 : i.bytes = bytes) (h6 : z.cells.size = size) (h7 : 0 < size)
    (ao : Option Addr) (n cap : Nat) (olds : List Value) (hs : a.eval s = .slice ao n cap) (hnone : ao = none → n = 0 ∧ cap = 0) (hlo : olds.length = n * size) (holds : ∀ b, ao = some b → ∀ j u, olds[j]? = some u → w.cell? (b.add j) = some u)
    (ad : Addr) (m c : Nat) (news : List Value) (hx : a.eval x = .slice (some ad) m c) (hn : news.length = m * size) (hc : ∀ j u, news[j]? = some u → w.cell? (ad.add j) = some u) (h1c : ∀ u ∈ news, u.oneCell' = true)
    (hfull : cap < n + m) (b1 : n + m ≤ maxLen) (b2 : (n + m) * bytes ≤ 140737488355328)
    (hK : ∀ v' w', w'.ownsRow w.heap.size e size v' (n + m) (olds ++ news) → w.grownBy w' none → K (a.put o.dst v') w') : o.wp P a w K Q := by
  cases ao with
  | some b =>
    obtain ⟨v', w', hrun, r1, r2⟩ := run_append_arg_grows (P := P) w t o.type e i z size bytes h1 h2 h3 h4 h5 h6 h7 b n cap olds hlo (holds b rfl) ad m c news hn hc hfull b1 b2
    unfold Oper.wp
    simp [execOp, hop, resolve, invoke, builtin, hs, hx, hrun, Result.andThen]
    exact hK v' w' r1 r2
  | none =>
    obtain ⟨rfl, rfl⟩ := hnone rfl
    obtain rfl : olds = [] := List.eq_nil_of_length_eq_zero (by simpa using hlo)
    obtain ⟨v', w', hrun, r1, r2, _⟩ := run_append_own (P := P) w w.heap.size t o.type e i z size bytes h1 h2 h3 h4 h5 h6 h7 (.slice none 0 0) 0 [] (World.ownsRow_nil w _ e size) ad m c news hn hc h1c b1 b2 (Nat.le_refl _)
    unfold Oper.wp
    simp [execOp, hop, resolve, invoke, builtin, hs, hx, hrun, Result.andThen]
    exact hK v' w' r1 r2

theorem own_form15 {w : World} {base : Nat} {e : TypeId} {size : Nat} {v : Value} {n : Nat} {xs : List Value} (h : w.ownsRow base e size v n xs) (hn : 0 < n) : ∃ g cap, v = .slice (some ⟨g, 0, none⟩) n cap := by
  rcases h.2 with ⟨_, rfl⟩ | ⟨g, cap, _, rfl, _⟩
  · omega
  · exact ⟨g, cap, rfl⟩
theorem one_one15 (a : Int) : ∀ v ∈ [Value.int .i64 a], v.oneCell' = true := by
  intro v hv
  cases List.mem_singleton.1 hv
  rfl
theorem holds_set15 {W : World} {b : Nat} {c : List Value} (h : Holds W b c) (k : Nat) (hk : k < c.length) (v : Value) : Holds (W.setCell ⟨b, k, none⟩ v) b (c.set k v) := by
  intro j u hj
  by_cases e : k = j
  · subst e
    rw [List.getElem?_set_self hk] at hj
    cases hj
    have := h.some k hk
    rw [Nat.zero_add] at this ⊢
    exact World.cell?_setCell_same' _ _ _ this
  · rw [List.getElem?_set_ne e] at hj
    exact (World.cell?_setCell_other _ _ _ _ (by simp)).trans (h j u hj)

section
variable {P : Program} {w : World} {ops : Array Oper} {rest : List Oper} {o : Oper} {a : Act} {Q : Exit → Act → World → Prop}
theorem wpList_store_whole_eq15 (hgd : o.guard = none) (x v : Operand) (t : TypeId) (ho : o.op = .store t x v) (b off : Nat) (c : List Value) (hx : a.eval x = .pointer (some ⟨b, off, none⟩)) (hv : a.eval v = .agg c.toArray) (hsz : ∀ w, (sizeOf t).run P w = .ok c.length w)
    (hc : ∀ j, j < c.length → (w.cell? ⟨b, off + j, none⟩).isSome = true) (hf : ∀ j, j < c.length → w.frozen? ⟨b, off + j, none⟩ = false) (h1 : ∀ v ∈ c, v.oneCell' = true)
    (h : Wrote b off c w (w.setCells b off c) → wpList P ops Q rest (a.put o.dst undef) (w.setCells b off c)) : wpList P ops Q (o :: rest) a w := by
  refine wpList_plain hgd fun K hK => ?_
  have hrun := run_storeVar_whole (P := P) t b off c hsz hc hf h1
  unfold Oper.wp
  simp [execOp, ho, hx, hv, Instr.storeAt, Instr.sureAddr, hrun, Result.andThen]
  exact hK _ _ (h (wrote_setCells b off c w hc))
end
theorem ownsRow_setCells15 {base : Nat} {e : TypeId} {size : Nat} {v : Value} {n : Nat} {xs : List Value} {b : Nat} (hb : b < base) : ∀ (c : List Value) (off : Nat) (w : World), w.ownsRow base e size v n xs → (w.setCells b off c).ownsRow base e size v n xs
  | [], _, _, h => h
  | u :: r, off, _, h => ownsRow_setCells15 hb r (off + 1) _ (ownsRow_setCell_below h (a := ⟨b, off, none⟩) hb u)
theorem ownsRow_le15 {w : World} {base base' : Nat} {e : TypeId} {size : Nat} {v : Value} {n : Nat} {xs : List Value} (h : w.ownsRow base e size v n xs) (hb : base' ≤ base) : w.ownsRow base' e size v n xs :=
  ⟨h.1, h.2.imp id fun ⟨g, cap, cur, h1, h2, h3⟩ => ⟨g, cap, cur, h1, Nat.le_trans hb h2, h3⟩⟩

/-- Two rows apart. -/
def Apt (a b : Value) : Prop := ∀ g, a.ownBlock = some g → b.ownBlock ≠ some g
theorem Apt.symm {a b : Value} (h : Apt a b) : Apt b a := fun g hb ha => h g ha hb
theorem Apt.row {a b : Value} (h : Apt a b) : a.ownBlock = none ∨ a.ownBlock ≠ b.ownBlock := by
  cases ha : a.ownBlock with
  | none => exact .inl rfl
  | some g => exact .inr fun e => h g ha e.symm
theorem Apt.new {a b b' : Value} {w : World} (h : Apt a b) (ha : ∀ g, a.ownBlock = some g → g < w.heap.size) (hat : b'.ownBlock = b.ownBlock ∨ b'.ownBlock = some w.heap.size) : Apt a b' := fun g hg hb => by
  rcases hat with e | e
  · exact h g hg (e ▸ hb)
  · have := ha g hg
    rw [hb] at e
    cases e
    omega

theorem Below.grow0 {W W' : World} (h : Below W.heap.size W W') : W.grownBy W' none := ⟨h.os, h.tape, h.output, h.size, fun k hk _ => h.block k hk⟩
theorem own_none {v : Value} : v.ownBlock = none ∨ v.ownBlock ≠ none := by cases v.ownBlock <;> simp
section
variable {W W' : World}
theorem grown_holds {b : Nat} {c : List Value} {row : Option Nat} (h : Holds W b c) (hg : W.grownBy W' row) (hne : some b ≠ row) : Holds W' b c := fun j u hj => hg.cell (h j u hj) hne
theorem grown_frozen {b : Nat} {row : Option Nat} (h : ∀ x, W.frozen? ⟨b, x, none⟩ = false) (hb : b < W.heap.size) (hg : W.grownBy W' row) (hne : some b ≠ row) : ∀ x, W'.frozen? ⟨b, x, none⟩ = false := fun x => by
  rw [World.frozen?_of_block (a := ⟨b, x, none⟩) (hg.block b hb hne)]
  exact h x

theorem frozen_alloc_lt {b : Nat} (o : Obj) (hb : b < W.heap.size) (h : ∀ x, W.frozen? ⟨b, x, none⟩ = false) : ∀ x, (W.alloc o).frozen? ⟨b, x, none⟩ = false := fun x => by
  rw [(Below.alloc (Below.refl W.heap.size W) (Nat.le_refl _) o).frozen (p := ⟨b, x, none⟩) hb]
  exact h x
theorem grownBy_set (W : World) (b o : Nat) (v : Value) : W.grownBy (W.setCell ⟨b, o, none⟩ v) (some b) :=
  ⟨rfl, rfl, rfl, by simp [World.setCell], fun k _ hk => Below.heap_setCell _ _ _ _ (fun e => hk (by simp [e]))⟩
/-- Behind an append of one element. -/
theorem cell_app {o : Obj} {row : Option Nat} {b off : Nat} {v : Value} (hg : (W.alloc o).grownBy W' row) (h : W.cell? ⟨b, off, none⟩ = some v) (hne : some b ≠ row) : W'.cell? ⟨b, off, none⟩ = some v :=
  hg.cell ((World.cell?_alloc_lt _ _ _ (World.block_lt_of_cell? _ _ h)).trans h) hne
theorem frozen_app {o : Obj} {row : Option Nat} {b : Nat} (hg : (W.alloc o).grownBy W' row) (h : ∀ x, W.frozen? ⟨b, x, none⟩ = false) (hb : b < W.heap.size) (hne : some b ≠ row) : ∀ x, W'.frozen? ⟨b, x, none⟩ = false :=
  grown_frozen (frozen_alloc_lt o hb h) (by simp; omega) hg hne
end

end Go.Proofs.Ytjhpbemnklpefaa
