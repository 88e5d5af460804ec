/-
  slices.AppendSeq, slices.Collect over the routes. No conditions.
-/
import Derived.Test.YtjhpbemnklpefaaMTpH
namespace Go.Proofs.Ytjhpbemnklpefaa
open Go.RowKit Go.Lib Go.Shelf Plain
attribute [local go_sem] Oper.semAt_some

theorem info37 : ((Try.prog).info? 37).map (fun i => (i.zero, i.size, i.bytes)) = some (some (.slice none 0 0), 1, 24) := by kernel_rfl
/-- What has been gathered. -/
structure ApI (w0 : World) (Bs : Nat) (rs : List Rt) (W : World) : Prop where
  box : ∃ v, W.heap[Bs]? = some (.cells #[v] 33 (0, 0)) ∧ W.ownsRow w0.heap.size 37 1 v rs.length (rs.map Rt.v)
  b : Below w0.heap.size w0 W
  r : ∀ r ∈ rs, RtT w0.heap.size r W
theorem k3_grown {W W' : World} {row : Option Nat} (h : W.grownBy W' row) (hr : ∀ (k : Nat), row = some k → ∀ c, W.heap[k]? ≠ some (Obj.cells c 3 (0, 0))) : K3 W W' := fun k c hc =>
  (h.block k (Array.getElem?_eq_some_iff.1 hc).1 (fun e => hr k e.symm c hc)).trans hc
theorem okO_ne {o : Obj} {c : Array Value} {t : TypeId} (h : okO o) (e : o = .cells c t (0, 0)) (ht : t = 58 ∨ t = 85 → False) : False := by
  subst e
  rcases h with h | ⟨c', t', h1, h2⟩
  · cases h
  · cases h1
    exact ht h2
theorem apI_abO (w0 : World) (Bs B : Nat) (hB : w0.heap.size ≤ B) : AbO B (ApI w0 Bs) := by
  rintro pre W W' row ⟨⟨v, hv, hrow⟩, hb, hr⟩ hg hk
  have h3 : K3 W W' := k3_grown hg (fun k e c hc => by
    obtain ⟨_, o, ho, hok⟩ := hk k e
    rw [hc] at ho
    cases ho
    exact okO_ne hok rfl (by decide))
  refine ⟨⟨v, (hg.block Bs (Array.getElem?_eq_some_iff.1 hv).1 (fun e => ?_)).trans hv, hrow.kept hg ?_⟩, hb.grown hg hb.size (fun k e => Nat.le_trans hB (hk k e).1), fun r hm => (hr r hm).keep h3⟩
  · obtain ⟨_, o, ho, hok⟩ := hk Bs e.symm
    rw [hv] at ho
    cases ho
    exact okO_ne hok rfl (by decide)
  · cases hrw : row with
    | none => exact own_none
    | some k =>
      obtain ⟨_, o, ho, hok⟩ := hk k hrw
      exact ownsRow_ne_a hrow ho (fun cur e => okO_ne hok e (by decide))

/-- All routes, gathered. -/
def ApQ (g : Tg) (a b : Nat) (w : World) (e : Ending) (w' : World) : Prop := ∃ (v : Value) (rs : List Rt), e = .returned v ∧ rs.map Rt.xs = routesP g.T a b ∧ w'.ownsRow w.heap.size 37 1 v rs.length (rs.map Rt.v) ∧ (∀ r ∈ rs, RtT w.heap.size r w') ∧ Below w.heap.size w w'
set_option maxRecDepth 100000 in
set_option maxHeartbeats 4000000 in
theorem append_any (g : Tg) (a b N : Nat) (hN : N * 24 ≤ 140737488355328) (lb : Array Value) (w : World) (hs : SeqRt g a b N 32 lb w) :
    Calls Try.prog 60 #[.slice none 0 0, .func (.func 32) #[] lb] w (ApQ g a b w) := by
  have HS := Lib.hid hs
  clear hs
  obtain ⟨j0, hj0, hk0, hk1, hk2⟩ := info_parts info37
  refine (callsIn_wide (n := 4)).1 ?_
  refine callsIn_of_wp_marks Try.func60 rfl trivial ?_ rfl
  simp only [Try.ntmps60, List.size_toArray, List.length_cons, List.length_nil, Nat.reduceAdd, Nat.reduceSub, Array.replicate_succ, Array.replicate_zero, List.push_toArray, List.append_toArray, List.nil_append, List.cons_append]
  gi_wp2
  have hb0 : Below w.heap.size w (w.alloc (.cells #[.slice none 0 0] 33)) := below_alloc (Below.refl _ _) _
  have hbx : (w.alloc (.cells #[.slice none 0 0] 33)).heap[w.heap.size]? = some (.cells #[.slice none 0 0] 33 (0, 0)) := World.alloc_heap_new w _
  refine wpIn_rangeRt (by omega) (gf := 32) (lb := lb) rfl (enters_of Try.func32 (by kernel_rfl) rfl) HS.out hb0 rfl (ApI w w.heap.size) (apI_abO w _ _ (Nat.le_refl _)) ⟨⟨_, hbx, ⟨rfl, .inl ⟨rfl, rfl⟩⟩⟩, hb0, fun r h => (by cases h)⟩
    (fun x => { tmps := #[.slice none 0 0, .func (.func 32) #[] lb, .pointer (some ⟨w.heap.size, 0, none⟩), undef, .slice none 0 0, x.v, .func (.func 32) #[] lb, x.v, undef, undef, undef, undef, undef], defers := [] }) ?assign ?body ?done
  case assign =>
    intro l m x W K hK
    gi_wp2
    exact hK
  case body =>
    rintro l m pre x W ⟨⟨v, hv, hrow⟩, hB, hR⟩ hx hlen
    obtain ⟨hc2, hf2⟩ := cell_of_box_a hv
    have hlt := (Array.getElem?_eq_some_iff.1 hv).1
    have hne : some w.heap.size ≠ v.ownBlock := fun e => by
      rcases ownsRow_ne_a hrow hv (fun cur e => by cases e) with e2 | e2
      · rw [e2] at e; cases e
      · exact e2 e.symm
    have HR := Lib.hid hR
    have HX := Lib.hid hx
    have HB := Lib.hid hB
    have HV := Lib.hid hv
    have hz := hB.size
    clear hR hx hB hv
    simp only [Rt.v]
    gi_wp2_with (gi_at_builtin; refine wpListIn_append_own _ rfl _ _ 33 rfl w.heap.size 37 j0 (.slice none 0 0) 1 24 Try.underlying33 hj0 hk0 hk1 hk2 rfl (by decide) _ _ _ rfl (hrow.alloc _) ⟨W.heap.size, 0, none⟩ 1 1 [.slice (some ⟨x.b, x.o, none⟩) x.xs.length x.k] rfl rfl (cell_one_new _ _ _) (by simp [Value.oneCell']) (by unfold maxLen; omega) (by omega) (by simp; omega) ?_; intro v' w3 hown' hg3 hnil3; obtain ⟨g', cap', rfl⟩ := own_form15 hown' (by omega); have hv3 : w3.heap[w.heap.size]? = some (.cells #[v] 33 (0, 0)) := (hg3.block w.heap.size (by simp; omega) hne).trans ((Below.heap_alloc _ _ _ hlt).trans HV.out); obtain ⟨hc3, hf3⟩ := cell_of_box_a hv3; clear hnil3)
    have hg3' : (W.alloc (.cells #[.slice (some ⟨x.b, x.o, none⟩) x.xs.length x.k] 37)).grownBy w3 v.ownBlock := hg3
    clear hg3
    have hal := hrow.alloc (.cells #[.slice (some ⟨x.b, x.o, none⟩) x.xs.length x.k] 37)
    have hty : ∀ (k : Nat) (o : Obj), v.ownBlock = some k → (W.alloc (.cells #[.slice (some ⟨x.b, x.o, none⟩) x.xs.length x.k] 37)).heap[k]? = some o → ∃ c, o = .cells c 37 (0, 0) := fun k o e ho => by
      rcases hal.2 with ⟨e2, _⟩ | ⟨q, cap, cur, e2, _, hq, _⟩
      · rw [e2] at e; cases e
      · rw [e2] at e
        cases e
        rw [hq] at ho
        cases ho
        exact ⟨cur, rfl⟩
    have hgs := grownBy_set w3 w.heap.size 0 (.slice (some ⟨g', 0, none⟩) (pre.length + 1) cap')
    have b1 : Below w.heap.size W (W.alloc (.cells #[.slice (some ⟨x.b, x.o, none⟩) x.xs.length x.k] 37)) := (Below.refl _ _).alloc hz _
    have b3 : Below w.heap.size W w3 := b1.grown hg3' (Nat.le_trans hz b1.size) (fun k e => (hrow.lt k e).1)
    have b4 : Below w.heap.size W (w3.setCell ⟨w.heap.size, 0, none⟩ (.slice (some ⟨g', 0, none⟩) (pre.length + 1) cap')) := b3.setCell (p := ⟨w.heap.size, 0, none⟩) (Nat.le_refl _) _
    have kt : KT W (w3.setCell ⟨w.heap.size, 0, none⟩ (.slice (some ⟨g', 0, none⟩) (pre.length + 1) cap')) :=
      ((KT.grown (World.grownBy_alloc W _ none) (fun k e => by cases e)).trans (KT.grown hg3' (fun k e c t hc ht => by
        obtain ⟨c', h2⟩ := hty k _ e hc
        cases h2
        revert ht; decide))).trans (KT.grown hgs (fun k e c t hc ht => by
        cases e
        rw [hv3] at hc
        cases hc
        revert ht; decide))
    refine ⟨((KeepsOthers.alloc _ _).trans (KeepsOthers.of_grownBy hg3' (fun j o e ho => by obtain ⟨c, rfl⟩ := hty j o e ho; rfl))).trans (KeepsOthers.setCell _ _ _), b4, kt, ⟨⟨_, heap_setCell_box_a _ hv3, ?_⟩, HB.out.trans b4, fun r hm => ?_⟩⟩
    · have := hown'.kept hgs (ownsRow_ne_a hown' hv3 (fun cur e => by cases e))
      simpa [Rt.v] using this
    · rcases List.mem_append.1 hm with h | h
      · exact (HR.out r h).keep kt.k3
      · cases List.mem_singleton.1 h
        exact HX.out.keep kt.k3
  case done =>
    rintro D rs W hD hS hI hK
    obtain ⟨⟨v, hv, hrow⟩, hB, hR⟩ := hI
    obtain ⟨hc2, hf2⟩ := cell_of_box_a hv
    have HI := Lib.hid (show ApI w w.heap.size rs W from ⟨⟨v, hv, hrow⟩, hB, hR⟩)
    clear hv hrow hB hR hbx hb0
    have hlt := World.block_lt_of_cell? _ _ hc2
    have hDz : w.heap.size ≤ D := by simp at hD; omega
    gi_wp2
    refine ⟨by simp, .inl ⟨_, _, rfl, run_takeDeferred hK, ?_⟩⟩
    obtain ⟨⟨v', hv', hrow'⟩, hB', hR'⟩ := (apI_abO w w.heap.size w.heap.size (Nat.le_refl _)).put (.deferred none) HI.out hK rfl hDz
    have hvv : v' = v := by
      have h1 := (cell_of_box_a hv').1
      have hne : w.heap.size ≠ D := by
        intro e
        obtain ⟨⟨v2, hv2, _⟩, _, _⟩ := HI.out
        rw [e, hK] at hv2
        cases hv2
      have h2 : (W.putObj D (.deferred none)).cell? ⟨w.heap.size, 0, none⟩ = some v := (World.cell?_of_block (a := ⟨w.heap.size, 0, none⟩) (World.putObj_heap_other hne)).trans hc2
      rw [h1] at h2
      exact Option.some.inj h2
    subst hvv
    exact ⟨_, results_tmp rfl _ _ _, v', rs, rfl, hS, hrow', hR', hB'⟩

set_option maxRecDepth 100000 in
set_option maxHeartbeats 4000000 in
theorem collect_any (g : Tg) (a b N : Nat) (hN : N * 24 ≤ 140737488355328) (lb : Array Value) (w : World) (hs : SeqRt g a b N 32 lb w) : Calls Try.prog 30 #[.func (.func 32) #[] lb] w (ApQ g a b w) := by
  have HA := Lib.hid (append_any g a b N hN lb w hs)
  clear hs
  go_enter Try.func30, Try.ntmps30
  go_wp2_with fail
  refine HA.out.mono ?_
  rintro e w1 ⟨v, rs, rfl, h1, h2, h3, h4⟩
  have HP := Lib.hid (show ApQ g a b w (.returned v) w1 from ⟨v, rs, rfl, h1, h2, h3, h4⟩)
  clear h1 h2 h3 h4 HA
  go_wp2
  go_ret
  exact HP.out

theorem seqRt (g : Tg) (hk : OkT g.T) (a b : Nat) (ha : a < g.T.n) (hab : a ≠ b) (w : World) (bt bf bs : Nat) (h0 : R0 g a b bt bf bs w) : SeqRt g a b (24 ^ 8) 32 #[.pointer (some ⟨bt, 0, none⟩), .pointer (some ⟨bf, 0, none⟩), .pointer (some ⟨bs, 0, none⟩)] w :=
  fun l J W hJ hW hY h1 => routes1_any g hk a b ha hab w l bt bf bs h0 J hJ (24 ^ 8) (exts_len hk 8 [] a _) hY W hW h1

end Go.Proofs.Ytjhpbemnklpefaa
