/-
  (isochronref15.Draft).Net: what holds in every round.
-/
import Derived.Below
import Derived.Test.YtkencmijghigiaaMDrN15
import Derived.Test.YtkencmijghigiaaMFlag
namespace Go.Proofs.Ytkencmijghigiaa
open Go.RowKit Go.Lib Go.Shelf Plain

theorem infoClk15 : ((Try.prog).info? 59).map (fun i => (i.zero, i.size, i.bytes)) = some (some (.agg #[.int .i64 0, .int .i64 0]), 2, 16) := by kernel_rfl
theorem infoInt15 : ((Try.prog).info? 3).map (fun i => (i.zero, i.size, i.bytes)) = some (some (.int .i64 0), 1, 8) := by kernel_rfl

section
variable {P : Program} {Q : Exit → Act → World → Prop}
theorem wp_of_call15 {o : Oper} {a : Act} {w : World} {K : Act → World → Prop} {f : FuncId} {args : Array Value} {v : Value} (h : (execOp a.eval o).run P w = .ok (.enter f args) w) (hc : Calls P f args w fun e w' => e = .returned v ∧ Below w.heap.size w w') (hK : ∀ w', Below w.heap.size w w' → K (a.put o.dst v) w') : o.wp P a w K Q := by
  unfold Oper.wp
  rw [h, Oper.upon_enter]
  refine hc.mono ?_
  rintro e w' ⟨rfl, hb⟩
  exact hK w' hb
theorem wp_append_at15 {w : World} {o : Oper} {a : Act} {K : Act → World → Prop} (s x : Operand) (t : TypeId)
    (ho : o.op = .call { callee := .builtin .append, args := #[s, x], argTypes := #[t, t] })
    (base : Nat) (e : TypeId) (i : TypeInfo) (z : Value) (size bytes : Nat) (ht : P.underlying t = some (.slice e)) (hi : P.info? e = some i) (hz : i.zero = some z)
    (hsize : i.size = size) (hby : i.bytes = bytes) (hzs : z.cells.size = size) (hsz : 0 < size)
    (v : Value) (n : Nat) (xs : List Value) (hs : a.eval s = v) (hown : w.ownsRow base e size v n xs)
    (ad : Addr) (m c : Nat) (news : List Value) (hx : a.eval x = .slice (some ad) m c) (hl : news.length = m * size) (hnews : ∀ j u, news[j]? = some u → w.cell? (ad.add j) = some u) (h1 : ∀ u ∈ news, u.oneCell' = true)
    (h63 : n + m ≤ maxLen) (hbytes : (n + m) * bytes ≤ 140737488355328) (hbase : base ≤ w.heap.size)
    (h : ∀ v' w', w'.ownsRow base e size v' (n + m) (xs ++ news) → w.grownBy w' v.ownBlock → (v'.ownBlock = v.ownBlock ∨ v'.ownBlock = some w.heap.size) → K (a.put o.dst v') w') : o.wp P a w K Q := by
  obtain ⟨v', w', hr, h2, h3, _, h5⟩ := run_append_own_at (P := P) w base t o.type e i z size bytes ht hi hz hsize hby hzs hsz v n xs hown ad m c news hl hnews h1 h63 hbytes hbase
  unfold Oper.wp execOp
  simp only [ho, resolve, invoke, builtin, Sem.run_bind, Sem.run_pure, Result.andThen_ok, List.map_toArray, List.map_cons, List.map_nil, hs, hx, hr]
  exact h v' w' h2 h3 h5
end

theorem own_form15 {w : World} {base : Nat} {e : TypeId} {size : Nat} {v : Value} {n : Nat} {xs : List Value} (h : w.ownsRow base e size v n xs) (hn : 0 < n) : ∃ g cap, v = .slice (some ⟨g, 0, none⟩) n cap := by
  rcases h.2 with ⟨_, rfl⟩ | ⟨g, cap, _, rfl, _⟩
  · omega
  · exact ⟨g, cap, rfl⟩
theorem one_one15 (a : Int) : ∀ v ∈ [Value.int .i64 a], v.oneCell' = true := by
  intro v hv
  cases List.mem_singleton.1 hv
  rfl
theorem holds_set15 {W : World} {b : Nat} {c : List Value} (h : Holds W b c) (k : Nat) (hk : k < c.length) (v : Value) : Holds (W.setCell ⟨b, k, none⟩ v) b (c.set k v) := by
  intro j u hj
  by_cases e : k = j
  · subst e
    rw [List.getElem?_set_self hk] at hj
    cases hj
    have := h.some k hk
    rw [Nat.zero_add] at this ⊢
    exact World.cell?_setCell_same' _ _ _ this
  · rw [List.getElem?_set_ne e] at hj
    exact (World.cell?_setCell_other _ _ _ _ (by simp)).trans (h j u hj)

section
variable {P : Program} {w : World} {ops : Array Oper} {rest : List Oper} {o : Oper} {a : Act} {Q : Exit → Act → World → Prop}
theorem wpList_store_whole_eq15 (hgd : o.guard = none) (x v : Operand) (t : TypeId) (ho : o.op = .store t x v) (b off : Nat) (c : List Value) (hx : a.eval x = .pointer (some ⟨b, off, none⟩)) (hv : a.eval v = .agg c.toArray) (hsz : ∀ w, (sizeOf t).run P w = .ok c.length w)
    (hc : ∀ j, j < c.length → (w.cell? ⟨b, off + j, none⟩).isSome = true) (hf : ∀ j, j < c.length → w.frozen? ⟨b, off + j, none⟩ = false) (h1 : ∀ v ∈ c, v.oneCell' = true)
    (h : Wrote b off c w (w.setCells b off c) → wpList P ops Q rest (a.put o.dst undef) (w.setCells b off c)) : wpList P ops Q (o :: rest) a w := by
  refine wpList_plain hgd fun K hK => ?_
  have hrun := run_storeVar_whole (P := P) t b off c hsz hc hf h1
  unfold Oper.wp
  simp [execOp, ho, hx, hv, Instr.storeAt, Instr.sureAddr, hrun, Result.andThen]
  exact hK _ _ (h (wrote_setCells b off c w hc))
end
theorem ownsRow_setCells15 {base : Nat} {e : TypeId} {size : Nat} {v : Value} {n : Nat} {xs : List Value} {b : Nat} (hb : b < base) : ∀ (c : List Value) (off : Nat) (w : World), w.ownsRow base e size v n xs → (w.setCells b off c).ownsRow base e size v n xs
  | [], _, _, h => h
  | u :: r, off, _, h => ownsRow_setCells15 hb r (off + 1) _ (ownsRow_setCell_below h (a := ⟨b, off, none⟩) hb u)
theorem ownsRow_le15 {w : World} {base base' : Nat} {e : TypeId} {size : Nat} {v : Value} {n : Nat} {xs : List Value} (h : w.ownsRow base e size v n xs) (hb : base' ≤ base) : w.ownsRow base' e size v n xs :=
  ⟨h.1, h.2.imp id fun ⟨g, cap, cur, h1, h2, h3⟩ => ⟨g, cap, cur, h1, Nat.le_trans hb h2, h3⟩⟩

/-- Two rows apart. -/
def Apt (a b : Value) : Prop := ∀ g, a.ownBlock = some g → b.ownBlock ≠ some g
theorem Apt.symm {a b : Value} (h : Apt a b) : Apt b a := fun g hb ha => h g ha hb
theorem Apt.row {a b : Value} (h : Apt a b) : a.ownBlock = none ∨ a.ownBlock ≠ b.ownBlock := by
  cases ha : a.ownBlock with
  | none => exact .inl rfl
  | some g => exact .inr fun e => h g ha e.symm
theorem Apt.new {a b b' : Value} {w : World} (h : Apt a b) (ha : ∀ g, a.ownBlock = some g → g < w.heap.size) (hat : b'.ownBlock = b.ownBlock ∨ b'.ownBlock = some w.heap.size) : Apt a b' := fun g hg hb => by
  rcases hat with e | e
  · exact h g hg (e ▸ hb)
  · have := ha g hg
    rw [hb] at e
    cases e
    omega

def nVs (D : Dr) (v0 v1 v2 : Value) : List Value := [v0, v1, v2, .int .i64 (dTu D), .int .i64 (dGa D), .int .i64 (dSt D), .int .i64 (dIv D), .int .i64 (dSy D)]

theorem nVs_one (D : Dr) {v0 v1 v2 : Value} (h0 : v0.oneCell' = true) (h1 : v1.oneCell' = true) (h2 : v2.oneCell' = true) : ∀ v ∈ nVs D v0 v1 v2, v.oneCell' = true := by
  intro v hv
  simp only [nVs, List.mem_cons, List.not_mem_nil, or_false] at hv
  rcases hv with rfl | rfl | rfl | rfl | rfl | rfl | rfl | rfl <;> first | assumption | rfl
/-- What holds in a round: z is the size of the heap at the start; the rows' lengths are i0, i1, i2. -/
structure NetInv (D : Dr) (w W : World) (z : Nat) (v0 v1 v2 : Value) (i0 i1 i2 : Nat) : Prop where
  o0 : W.ownsRow (z + 3) 59 2 v0 i0 (dClks D i0)
  o1 : W.ownsRow (z + 3) 3 1 v1 i1 (dPars D i1)
  o2 : W.ownsRow (z + 3) 3 1 v2 i2 (dDels D i2)
  a01 : Apt v0 v1
  a02 : Apt v0 v2
  a12 : Apt v1 v2
  gd : Holds W z D.vs
  gr : Holds W (z + 1) zT
  fr : ∀ x, W.frozen? ⟨z + 1, x, none⟩ = false
  gx : Holds W (z + 1 + 1) (nVs D v0 v1 v2)
  fx : ∀ x, W.frozen? ⟨z + 1 + 1, x, none⟩ = false
  gb : Below z w W
  zz : z = w.heap.size
  zr : z + 3 ≤ W.heap.size

theorem Below.grow0 {W W' : World} (h : Below W.heap.size W W') : W.grownBy W' none := ⟨h.os, h.tape, h.output, h.size, fun k hk _ => h.block k hk⟩
theorem own_none {v : Value} : v.ownBlock = none ∨ v.ownBlock ≠ none := by cases v.ownBlock <;> simp
section
variable {D : Dr} {w W W' : World} {z : Nat} {v0 v1 v2 v : Value} {i0 i1 i2 : Nat}
theorem NetInv.keep (h : NetInv D w W z v0 v1 v2 i0 i1 i2) (hb : Below W.heap.size W W') : NetInv D w W' z v0 v1 v2 i0 i1 i2 where
  o0 := h.o0.kept (Below.grow0 hb) own_none
  o1 := h.o1.kept (Below.grow0 hb) own_none
  o2 := h.o2.kept (Below.grow0 hb) own_none
  a01 := h.a01
  a02 := h.a02
  a12 := h.a12
  gd := h.gd.keep hb
  gr := h.gr.keep hb
  fr x := by rw [hb.frozen (by have := h.zr; show z + 1 < _; omega)]; exact h.fr x
  gx := h.gx.keep hb
  fx x := by rw [hb.frozen (by have := h.zr; show z + 1 + 1 < _; omega)]; exact h.fx x
  gb := by have := h.gb; have e := h.zz; subst e; exact below_step this hb
  zz := h.zz
  zr := Nat.le_trans h.zr hb.size

theorem grown_holds {b : Nat} {c : List Value} {row : Option Nat} (h : Holds W b c) (hg : W.grownBy W' row) (hne : some b ≠ row) : Holds W' b c := fun j u hj => hg.cell (h j u hj) hne
theorem grown_frozen {b : Nat} {row : Option Nat} (h : ∀ x, W.frozen? ⟨b, x, none⟩ = false) (hb : b < W.heap.size) (hg : W.grownBy W' row) (hne : some b ≠ row) : ∀ x, W'.frozen? ⟨b, x, none⟩ = false := fun x => by
  rw [World.frozen?_of_block (a := ⟨b, x, none⟩) (hg.block b hb hne)]
  exact h x

/-- The parts that no append turns, in the world behind it. -/
theorem NetInv.rest (h : NetInv D w W z v0 v1 v2 i0 i1 i2) {row : Option Nat} (hg : W.grownBy W' row) (hr : ∀ k, row = some k → z + 3 ≤ k) (k : Nat) (hk : k < 8) (v : Value) :
    Holds (W'.setCell ⟨z + 1 + 1, k, none⟩ v) z D.vs ∧ Holds (W'.setCell ⟨z + 1 + 1, k, none⟩ v) (z + 1) zT ∧ (∀ x, (W'.setCell ⟨z + 1 + 1, k, none⟩ v).frozen? ⟨z + 1, x, none⟩ = false) ∧
      Holds (W'.setCell ⟨z + 1 + 1, k, none⟩ v) (z + 1 + 1) ((nVs D v0 v1 v2).set k v) ∧ (∀ x, (W'.setCell ⟨z + 1 + 1, k, none⟩ v).frozen? ⟨z + 1 + 1, x, none⟩ = false) ∧ Below z w (W'.setCell ⟨z + 1 + 1, k, none⟩ v) ∧ z + 3 ≤ (W'.setCell ⟨z + 1 + 1, k, none⟩ v).heap.size := by
  have hz := h.zr
  have n0 : ∀ b, b < z + 3 → some b ≠ row := fun b hb e => by have := hr b e.symm; omega
  refine ⟨?_, ?_, ?_, ?_, ?_, ?_, ?_⟩
  · intro j u hj
    exact (World.cell?_setCell_other _ _ _ _ (by simp)).trans (grown_holds h.gd hg (n0 _ (by omega)) j u hj)
  · intro j u hj
    exact (World.cell?_setCell_other _ _ _ _ (by simp)).trans (grown_holds h.gr hg (n0 _ (by omega)) j u hj)
  · intro x
    rw [World.frozen?_setCell]
    exact grown_frozen h.fr (by omega) hg (n0 _ (by omega)) x
  · exact holds_set15 (grown_holds h.gx hg (n0 _ (by omega))) k hk v
  · intro x
    rw [World.frozen?_setCell]
    exact grown_frozen h.fx (by omega) hg (n0 _ (by omega)) x
  · refine Below.setCell ?_ (by show z ≤ z + 1 + 1; omega) _
    exact h.gb.grown hg (by omega) (fun k e => by have := hr k e; omega)
  · simp [World.setCell]
    have := hg.size
    omega

theorem NetInv.app0 (h : NetInv D w W z v0 v1 v2 i0 i1 i2) {v' : Value} (ho : W'.ownsRow (z + 3) 59 2 v' (i0 + 1) (dClks D i0 ++ [.int .i64 (dCO D i0), .int .i64 (dCP D i0)])) (hg : W.grownBy W' v0.ownBlock) (hat : v'.ownBlock = v0.ownBlock ∨ v'.ownBlock = some W.heap.size) :
    NetInv D w (W'.setCell ⟨z + 1 + 1, 0, none⟩ v') z v' v1 v2 (i0 + 1) i1 i2 := by
  obtain ⟨r1, r2, r3, r4, r5, r6, r7⟩ := h.rest hg (fun k e => (h.o0.lt k e).1) 0 (by omega) v'
  have hl1 := fun g e => (h.o1.lt g e).2
  have hl2 := fun g e => (h.o2.lt g e).2
  rw [← dClks_snoc] at ho
  exact ⟨ownsRow_setCell_below ho (by show z + 1 + 1 < z + 3; omega) _, ownsRow_setCell_below (h.o1.kept hg h.a01.symm.row) (by show z + 1 + 1 < z + 3; omega) _, ownsRow_setCell_below (h.o2.kept hg h.a02.symm.row) (by show z + 1 + 1 < z + 3; omega) _,
    (h.a01.symm.new hl1 hat).symm, (h.a02.symm.new hl2 hat).symm, h.a12, r1, r2, r3, r4, r5, r6, h.zz, r7⟩
theorem NetInv.app1 (h : NetInv D w W z v0 v1 v2 i0 i1 i2) {v' : Value} (ho : W'.ownsRow (z + 3) 3 1 v' (i1 + 1) (dPars D i1 ++ [.int .i64 (dPa D i1)])) (hg : W.grownBy W' v1.ownBlock) (hat : v'.ownBlock = v1.ownBlock ∨ v'.ownBlock = some W.heap.size) :
    NetInv D w (W'.setCell ⟨z + 1 + 1, 1, none⟩ v') z v0 v' v2 i0 (i1 + 1) i2 := by
  obtain ⟨r1, r2, r3, r4, r5, r6, r7⟩ := h.rest hg (fun k e => (h.o1.lt k e).1) 1 (by omega) v'
  have hl0 := fun g e => (h.o0.lt g e).2
  have hl2 := fun g e => (h.o2.lt g e).2
  rw [← dPars_snoc] at ho
  exact ⟨ownsRow_setCell_below (h.o0.kept hg h.a01.row) (by show z + 1 + 1 < z + 3; omega) _, ownsRow_setCell_below ho (by show z + 1 + 1 < z + 3; omega) _, ownsRow_setCell_below (h.o2.kept hg h.a12.symm.row) (by show z + 1 + 1 < z + 3; omega) _,
    h.a01.new hl0 hat, h.a02, (h.a12.symm.new hl2 hat).symm, r1, r2, r3, r4, r5, r6, h.zz, r7⟩
theorem NetInv.app2 (h : NetInv D w W z v0 v1 v2 i0 i1 i2) {v' : Value} (ho : W'.ownsRow (z + 3) 3 1 v' (i2 + 1) (dDels D i2 ++ [.int .i64 (dDe D i2)])) (hg : W.grownBy W' v2.ownBlock) (hat : v'.ownBlock = v2.ownBlock ∨ v'.ownBlock = some W.heap.size) :
    NetInv D w (W'.setCell ⟨z + 1 + 1, 2, none⟩ v') z v0 v1 v' i0 i1 (i2 + 1) := by
  obtain ⟨r1, r2, r3, r4, r5, r6, r7⟩ := h.rest hg (fun k e => (h.o2.lt k e).1) 2 (by omega) v'
  have hl0 := fun g e => (h.o0.lt g e).2
  have hl1 := fun g e => (h.o1.lt g e).2
  rw [← dDels_snoc] at ho
  exact ⟨ownsRow_setCell_below (h.o0.kept hg h.a02.row) (by show z + 1 + 1 < z + 3; omega) _, ownsRow_setCell_below (h.o1.kept hg h.a12.row) (by show z + 1 + 1 < z + 3; omega) _, ownsRow_setCell_below ho (by show z + 1 + 1 < z + 3; omega) _,
    h.a01, h.a02.new hl0 hat, h.a12.new hl1 hat, r1, r2, r3, r4, r5, r6, h.zz, r7⟩
end

end Go.Proofs.Ytkencmijghigiaa
