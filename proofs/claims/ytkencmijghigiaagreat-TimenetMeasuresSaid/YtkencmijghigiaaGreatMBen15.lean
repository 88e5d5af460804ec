/-
  The law's function bent: a copy of a network with one place changed. No conditions.
-/
import Derived.Deep.AppendLies
import Derived.Test.YtkencmijghigiaaGreatMGen15
import Derived.Test.YtkencmijghigiaaGreatMDrs
namespace Go.Proofs.YtkencmijghigiaaGreat
open Go.RowKit Go.Lib Go.Shelf Plain

def ival (w : World) (b u : Nat) : Int := match w.cell? ⟨b, u, none⟩ with
  | some (.int _ x) => x
  | _ => 0
/-- The first k cells of a block hold numbers, and none of its cells is frozen. -/
structure Ints (W : World) (g k : Nat) : Prop where
  c : ∀ u, u < k → ∃ x : Int, W.cell? ⟨g, u, none⟩ = some (.int .i64 x)
  f : ∀ u, W.frozen? ⟨g, u, none⟩ = false
theorem Ints.val {W : World} {g k : Nat} (h : Ints W g k) {u : Nat} (hu : u < k) : W.cell? ⟨g, u, none⟩ = some (.int .i64 (ival W g u)) := by
  obtain ⟨x, hx⟩ := h.c u hu
  unfold ival
  rw [hx]
theorem Ints.grow {W W' : World} {g k : Nat} (h : Ints W g k) (hk : 0 < k) (hb : Below W.heap.size W W') : Ints W' g k := by
  obtain ⟨x, hx⟩ := h.c 0 hk
  have hz := World.block_lt_of_cell? _ _ hx
  refine ⟨fun u hu => ?_, fun u => by rw [(bcell hb).2 _ _ hz]; exact h.f u⟩
  obtain ⟨y, hy⟩ := h.c u hu
  exact ⟨y, below_keep hb hy⟩
theorem Ints.setz {W : World} {g k z i : Nat} {v : Value} (h : Ints W g k) (hz : ¬ z = g) : Ints (W.setCell ⟨z, i, none⟩ v) g k := by
  refine ⟨fun u hu => ?_, fun u => by simpa using h.f u⟩
  obtain ⟨y, hy⟩ := h.c u hu
  exact ⟨y, by simp [go_sem, hy]⟩
theorem Ints.set {W : World} {g k i : Nat} {x : Int} (h : Ints W g k) : Ints (W.setCell ⟨g, i, none⟩ (.int .i64 x)) g k := by
  refine ⟨fun u hu => ?_, fun u => by simpa using h.f u⟩
  obtain ⟨y, hy⟩ := h.c u hu
  by_cases e : i = u
  · subst e; exact ⟨x, by simp [go_sem, hy]⟩
  · exact ⟨y, by simp [go_sem, hy]⟩
theorem Ints.less {W : World} {g k k' : Nat} (h : Ints W g k) (hk : k' ≤ k) : Ints W g k' := ⟨fun u hu => h.c u (by omega), h.f⟩
theorem gn_mk {W : World} {g0 g1 g2 m p d : Nat} (h0 : Ints W g0 (m * 2)) (h1 : Ints W g1 p) (h2 : Ints W g2 d) (c0 c1 c2 : Nat) (a b c e f : Int) :
    ∃ g : Gn, g.vs = [.slice (some ⟨g0, 0, none⟩) m c0, .slice (some ⟨g1, 0, none⟩) p c1, .slice (some ⟨g2, 0, none⟩) d c2, .int .i64 a, .int .i64 b, .int .i64 c, .int .i64 e, .int .i64 f] ∧ g.In W :=
  ⟨{ pc := some ⟨g0, 0, none⟩, nc := m, kc := c0, pp := some ⟨g1, 0, none⟩, np := p, kp := c1, pd := some ⟨g2, 0, none⟩, nd := d, kd := c2, tu := a, ga := b, st := c, iv := e, sy := f, cO := fun j => ival W g0 (j * 2), cP := fun j => ival W g0 (j * 2 + 1), pa := fun j => ival W g1 j, de := fun j => ival W g2 j }, rfl,
   ⟨fun j hj => ⟨g0, 0, rfl, by have hj' : j < m := hj; rw [Nat.zero_add]; exact h0.val (by omega), by have hj' : j < m := hj; rw [Nat.zero_add]; exact h0.val (by omega)⟩, fun j hj => ⟨g1, 0, rfl, by rw [Nat.zero_add]; exact h1.val hj⟩, fun j hj => ⟨g2, 0, rfl, by rw [Nat.zero_add]; exact h2.val hj⟩⟩⟩

/-- The network's block and the result's. -/
structure Bk (vs : List Value) (w W : World) : Prop where
  h : Below w.heap.size w W
  M : Holds W w.heap.size vs
  FM : ∀ u, W.frozen? ⟨w.heap.size, u, none⟩ = false
  Z : Holds W (w.heap.size + 1) [.slice none 0 0, .slice none 0 0, .slice none 0 0, .int .i64 0, .int .i64 0, .int .i64 0, .int .i64 0, .int .i64 0]
  FZ : ∀ u, W.frozen? ⟨w.heap.size + 1, u, none⟩ = false
theorem Bk.lt {vs : List Value} {w W : World} (k : Bk vs w W) : w.heap.size + 1 < W.heap.size := World.block_lt_of_cell? _ _ (k.Z 0 _ rfl)
theorem Bk.grow {vs : List Value} {w W W' : World} (k : Bk vs w W) (hb : Below W.heap.size W W') : Bk vs w W' :=
  have l := k.lt
  ⟨below_step k.h hb, k.M.keep hb, fun u => by rw [(bcell hb).2 _ _ (by omega)]; exact k.FM u, k.Z.keep hb, fun u => by rw [(bcell hb).2 _ _ l]; exact k.FZ u⟩
theorem Bk.set {vs : List Value} {w W : World} (k : Bk vs w W) (i : Nat) (v : Value) (hi : i < vs.length) : Bk (vs.set i v) w (W.setCell ⟨w.heap.size, i, none⟩ v) := by
  refine ⟨k.h.setCell (Nat.le_refl _) _, fun j u hj => ?_, fun u => by simpa using k.FM u, fun j u hj => ?_, fun u => by simpa using k.FZ u⟩
  · rw [List.getElem?_set] at hj
    have hc := k.M i _ (List.getElem?_eq_getElem hi)
    rw [Nat.zero_add] at hc ⊢
    split at hj
    · rename_i e
      subst e
      cases hj
      simp [go_sem, hc]
    · rename_i e
      have := k.M j u hj
      rw [Nat.zero_add] at this
      simp [go_sem, this]
  · have := k.Z j u hj
    simp [go_sem] at this ⊢
    exact this
theorem Bk.other {vs : List Value} {w W : World} {b i : Nat} {v : Value} (k : Bk vs w W) (hb : w.heap.size + 1 < b) : Bk vs w (W.setCell ⟨b, i, none⟩ v) := by
  have h0 : ¬ b = w.heap.size := by omega
  have h1 : ¬ b = w.heap.size + 1 := by omega
  refine ⟨k.h.setCell (show w.heap.size ≤ b by omega) _, fun j u hj => ?_, fun u => by simpa using k.FM u, fun j u hj => ?_, fun u => by simpa using k.FZ u⟩
  · have := k.M j u hj
    rw [Nat.zero_add] at this ⊢
    simp [go_sem, this]
  · have := k.Z j u hj
    rw [Nat.zero_add] at this ⊢
    simp [go_sem, this]
def rowC (n : Nt) : List Value := (List.range (n.m * 2)).map fun u => .int .i64 (if u % 2 = 0 then n.cO (u / 2) else n.cP (u / 2))
def rowI (m : Nat) (f : Nat → Int) : List Value := (List.range m).map fun j => .int .i64 (f j)
theorem rowC_ints (n : Nt) : ∀ u ∈ rowC n, ∃ x : Int, u = .int .i64 x := by
  intro u hu
  obtain ⟨j, _, rfl⟩ := List.mem_map.1 hu
  exact ⟨_, rfl⟩
theorem rowI_ints (m : Nat) (f : Nat → Int) : ∀ u ∈ rowI m f, ∃ x : Int, u = .int .i64 x := by
  intro u hu
  obtain ⟨j, _, rfl⟩ := List.mem_map.1 hu
  exact ⟨_, rfl⟩
theorem one_of_ints {l : List Value} (h : ∀ u ∈ l, ∃ x : Int, u = .int .i64 x) : ∀ u ∈ l, u.oneCell' = true := fun u hu => by
  obtain ⟨x, rfl⟩ := h u hu
  rfl
theorem rowC_news {n : Nt} {w : World} (hn : n.In w) : ∀ (j : Nat) (u : Value), (rowC n)[j]? = some u → w.cell? ((⟨n.bc, n.oc, none⟩ : Addr).add j) = some u := by
  intro j u hu
  unfold rowC at hu
  rw [List.getElem?_map] at hu
  obtain ⟨x, hx, rfl⟩ := Option.map_eq_some_iff.1 hu
  rw [List.getElem?_eq_some_iff] at hx
  obtain ⟨hl, rfl⟩ := hx
  rw [Addr.add_lit]
  simp only [List.length_range] at hl
  simp only [List.getElem_range]
  split
  · rename_i h
    have := hn.c0 (j / 2) (by omega)
    rwa [show n.oc + j / 2 * 2 = n.oc + j by omega] at this
  · rename_i h
    have := hn.c1 (j / 2) (by omega)
    rwa [show n.oc + j / 2 * 2 + 1 = n.oc + j by omega] at this
theorem rowI_news {m b o : Nat} {f : Nat → Int} {w : World} (h : ∀ j, j < m → w.cell? ⟨b, o + j, none⟩ = some (.int .i64 (f j))) : ∀ (j : Nat) (u : Value), (rowI m f)[j]? = some u → w.cell? ((⟨b, o, none⟩ : Addr).add j) = some u := by
  intro j u hu
  unfold rowI at hu
  rw [List.getElem?_map] at hu
  obtain ⟨x, hx, rfl⟩ := Option.map_eq_some_iff.1 hu
  rw [List.getElem?_eq_some_iff] at hx
  obtain ⟨hl, rfl⟩ := hx
  rw [Addr.add_lit]
  simp only [List.length_range] at hl
  simp only [List.getElem_range]
  exact h j hl
theorem ints_own {w : World} {base : Nat} {e : TypeId} {size g n cap : Nat} {xs : List Value} (h : w.ownsRow base e size (.slice (some ⟨g, 0, none⟩) n cap) n xs) (hx : ∀ u ∈ xs, ∃ x : Int, u = .int .i64 x) : Ints w g (n * size) := by
  refine ⟨fun u hu => ?_, h.frozenAt⟩
  have hl : u < xs.length := by rw [h.1]; exact hu
  obtain ⟨x, e⟩ := hx _ (List.getElem_mem hl)
  exact ⟨x, by rw [h.cellAt u hu, List.getElem?_eq_getElem hl, e]⟩
theorem own_cap {w : World} {base : Nat} {e : TypeId} {size g n cap : Nat} {xs : List Value} (h : w.ownsRow base e size (.slice (some ⟨g, 0, none⟩) n cap) n xs) : n ≤ cap := by
  rcases h.2 with ⟨h1, _⟩ | ⟨g', cap', cur, hv, _, _, h1, _⟩
  · cases h1
  · cases hv
    exact h1
theorem owns_none (w : World) (e : TypeId) (size : Nat) : (w.alloc (.cells #[] e)).ownsRow w.heap.size e size (.slice (some ⟨w.heap.size, 0, none⟩) 0 0) 0 [] :=
  ⟨by simp, .inr ⟨w.heap.size, 0, #[], rfl, Nat.le_refl _, heap_alloc_new w _, Nat.le_refl _, by unfold maxLen; omega, by simp, by simp⟩⟩
theorem below_app {V w1 : World} {t : TypeId} (hgrow : (V.alloc (.cells #[] t)).grownBy w1 (Value.ownBlock (.slice (some ⟨V.heap.size, 0, none⟩) 0 0))) : Below V.heap.size V w1 :=
  ((Below.refl V.heap.size V).alloc (Nat.le_refl _) (.cells #[] t)).grown hgrow (by simp) (fun k hk => by simp [Value.ownBlock] at hk; omega)

set_option maxHeartbeats 16000000 in
set_option maxRecDepth 100000 in
theorem bent_any (n : Nt) (hm12 : n.m ≤ 12) (m x : Int) (k0 : 0 ≤ m) (w : World) (hn : n.In w) :
    Calls Tryz.prog 6 #[.agg n.vs.toArray, .int .u8 m, .int .i64 x] w fun e w' => ∃ g : Gn, e = .returned (.agg g.vs.toArray) ∧ g.In w' ∧ Below w.heap.size w w' := by
  have hat := Lib.hid (show ∀ w, (isAgg 25).run Tryz.prog w = .ok true w from fun w => by kernel_rfl)
  have hst := Lib.hid (show ∀ w, (sizeOf 25).run Tryz.prog w = .ok 8 w from fun w => by kernel_rfl)
  have hm1 := hn.m1
  have HN := Lib.hid hn
  have lc : (rowC n).length = n.m * 2 := by simp [rowC]
  have lp : (rowI n.m n.pa).length = n.m * 1 := by simp [rowI]
  have ld : (rowI n.m n.de).length = n.m * 1 := by simp [rowI]
  obtain ⟨i0, hi0, hz0, hz1, hz2⟩ := info_parts infoClk15
  obtain ⟨j0, hj0, hy0, hy1, hy2⟩ := info_parts infoInt15
  clear hn
  go_enter Tryz.func6, Tryz.ntmps6
  rw [n.lit]
  go_upto_region 1 with fail
  refine wp_world ?_
  intro V hV
  have K := Lib.hid (show Bk n.vs w V by
    subst hV
    exact ⟨below_alloc (below_alloc (Below.refl _ _) _) _, (holds_alloc w n.vs 25 rfl).alloc (by simp) _, fun u => by simp [go_sem], holds_alloc _ [.slice none 0 0, .slice none 0 0, .slice none 0 0, .int .i64 0, .int .i64 0, .int .i64 0, .int .i64 0, .int .i64 0] 25 (by simp), fun u => frozen_new _ _ _ _ (by simp)⟩)
  clear hV
  have lt0 := K.out.lt
  have a0 : (V.alloc (.cells #[] 61)).cell? ⟨w.heap.size, 0, none⟩ = some (.slice (some ⟨n.bc, n.oc, none⟩) n.m n.kc) := cell_al15 (K.out.M 0 _ rfl) _
  go_upto_region 2 with (at_builtin; refine wpList_append_lies _ rfl (.tmp 8) (.tmp 10) 22 rfl V.heap.size 61 i0 _ 2 16 Tryz.underlying22 hi0 hz0 hz1 hz2 rfl (by decide) (.slice (some ⟨V.heap.size, 0, none⟩) 0 0) 0 [] rfl (owns_none V _ _) ⟨n.bc, n.oc, none⟩ n.m n.kc (rowC n) rfl lc (fun j u hu => cell_al15 (rowC_news (HN.out.keep K.out.h) j u hu) _) (one_of_ints (rowC_ints n)) (by omega) (by unfold maxLen; omega) (by omega) (by simp) (V.heap.size + 1) (by simp) ?_; intro g0 c0 w0 hown hgrow hat' hlt; have B0 := Lib.hid (below_app hgrow); have L0 := Lib.hid (K.out.grow B0.out); have b0 : w0.cell? ⟨w.heap.size, 0, none⟩ = some (.slice (some ⟨n.bc, n.oc, none⟩) n.m n.kc) := L0.out.M 0 _ rfl; have f0 : ∀ u, w0.frozen? ⟨w.heap.size, u, none⟩ = false := L0.out.FM)
  rw [Nat.zero_add, List.nil_append] at hown
  have cp0 := own_cap hown
  have gz0 : V.heap.size ≤ g0 := by
    rcases hat' with h | h
    · simp [Value.ownBlock] at h; omega
    · omega
  refine wp_world ?_
  intro V0 hV0
  have K1 := Lib.hid (show Bk [.slice (some ⟨g0, 0, none⟩) n.m c0, .slice (some ⟨n.bp, n.op, none⟩) n.m n.kp, .slice (some ⟨n.bd, n.od, none⟩) n.m n.kd, .int .i64 n.tu, .int .i64 n.ga, .int .i64 n.st, .int .i64 n.iv, .int .i64 n.sy] w V0 by
    subst hV0
    exact L0.out.set 0 (.slice (some ⟨g0, 0, none⟩) n.m c0) (by show 0 < 8; omega))
  have I0 := Lib.hid (show Ints V0 g0 (n.m * 2) by
    subst hV0
    exact (ints_own hown (rowC_ints n)).setz (by omega))
  have sz0 : V.heap.size ≤ V0.heap.size := by
    subst hV0
    simpa using B0.out.size
  have gl0 : g0 < V0.heap.size := World.block_lt_of_cell? _ _ (I0.out.val (u := 0) (by omega))
  clear hV0 hown hgrow hat' hlt a0 b0 f0 L0 B0
  have lt1 := K1.out.lt
  have a1 : (V0.alloc (.cells #[] 3)).cell? ⟨w.heap.size, 1, none⟩ = some (.slice (some ⟨n.bp, n.op, none⟩) n.m n.kp) := cell_al15 (K1.out.M 1 _ rfl) _
  go_upto_region 3 with (at_builtin; refine wpList_append_lies _ rfl (.tmp 13) (.tmp 15) 23 rfl V0.heap.size 3 j0 _ 1 8 Tryz.underlying23 hj0 hy0 hy1 hy2 rfl (by decide) (.slice (some ⟨V0.heap.size, 0, none⟩) 0 0) 0 [] rfl (owns_none V0 _ _) ⟨n.bp, n.op, none⟩ n.m n.kp (rowI n.m n.pa) rfl lp (fun j u hu => cell_al15 (rowI_news (HN.out.keep K1.out.h).p j u hu) _) (one_of_ints (rowI_ints _ _)) (by omega) (by unfold maxLen; omega) (by omega) (by simp) (V0.heap.size + 1) (by simp) ?_; intro g1 c1 w1 hown hgrow hat' hlt; have B1 := Lib.hid (below_app hgrow); have L1 := Lib.hid (K1.out.grow B1.out); have b1 : w1.cell? ⟨w.heap.size, 1, none⟩ = some (.slice (some ⟨n.bp, n.op, none⟩) n.m n.kp) := L1.out.M 1 _ rfl; have f1 : ∀ u, w1.frozen? ⟨w.heap.size, u, none⟩ = false := L1.out.FM)
  rw [Nat.zero_add, List.nil_append] at hown
  have cp1 := own_cap hown
  have gz1 : V0.heap.size ≤ g1 := by
    rcases hat' with h | h
    · simp [Value.ownBlock] at h; omega
    · omega
  refine wp_world ?_
  intro V1 hV1
  have K2 := Lib.hid (show Bk [.slice (some ⟨g0, 0, none⟩) n.m c0, .slice (some ⟨g1, 0, none⟩) n.m c1, .slice (some ⟨n.bd, n.od, none⟩) n.m n.kd, .int .i64 n.tu, .int .i64 n.ga, .int .i64 n.st, .int .i64 n.iv, .int .i64 n.sy] w V1 by
    subst hV1
    exact L1.out.set 1 (.slice (some ⟨g1, 0, none⟩) n.m c1) (by show 1 < 8; omega))
  have I1 := Lib.hid (show Ints V1 g1 n.m by
    subst hV1
    exact ((ints_own hown (rowI_ints _ _)).setz (by omega)).less (by omega))
  have I0 := Lib.hid (show Ints V1 g0 (n.m * 2) by
    subst hV1
    exact (I0.out.grow (by omega) B1.out).setz (by omega))
  have sz1 : V0.heap.size ≤ V1.heap.size := by
    subst hV1
    simpa using B1.out.size
  have gl1 : g1 < V1.heap.size := World.block_lt_of_cell? _ _ (I1.out.val (u := 0) (by omega))
  clear hV1 hown hgrow hat' hlt a1 b1 f1 L1 B1
  have lt2 := K2.out.lt
  have a2 : (V1.alloc (.cells #[] 3)).cell? ⟨w.heap.size, 2, none⟩ = some (.slice (some ⟨n.bd, n.od, none⟩) n.m n.kd) := cell_al15 (K2.out.M 2 _ rfl) _
  go_upto_region 4 with (at_builtin; refine wpList_append_lies _ rfl (.tmp 18) (.tmp 20) 23 rfl V1.heap.size 3 j0 _ 1 8 Tryz.underlying23 hj0 hy0 hy1 hy2 rfl (by decide) (.slice (some ⟨V1.heap.size, 0, none⟩) 0 0) 0 [] rfl (owns_none V1 _ _) ⟨n.bd, n.od, none⟩ n.m n.kd (rowI n.m n.de) rfl ld (fun j u hu => cell_al15 (rowI_news (HN.out.keep K2.out.h).d j u hu) _) (one_of_ints (rowI_ints _ _)) (by omega) (by unfold maxLen; omega) (by omega) (by simp) (V1.heap.size + 1) (by simp) ?_; intro g2 c2 w2 hown hgrow hat' hlt; have B2 := Lib.hid (below_app hgrow); have L2 := Lib.hid (K2.out.grow B2.out); have b2 : w2.cell? ⟨w.heap.size, 2, none⟩ = some (.slice (some ⟨n.bd, n.od, none⟩) n.m n.kd) := L2.out.M 2 _ rfl; have f2 : ∀ u, w2.frozen? ⟨w.heap.size, u, none⟩ = false := L2.out.FM)
  rw [Nat.zero_add, List.nil_append] at hown
  have cp2 := own_cap hown
  have gz2 : V1.heap.size ≤ g2 := by
    rcases hat' with h | h
    · simp [Value.ownBlock] at h; omega
    · omega
  refine wp_world ?_
  intro V2 hV2
  have K3 := Lib.hid (show Bk [.slice (some ⟨g0, 0, none⟩) n.m c0, .slice (some ⟨g1, 0, none⟩) n.m c1, .slice (some ⟨g2, 0, none⟩) n.m c2, .int .i64 n.tu, .int .i64 n.ga, .int .i64 n.st, .int .i64 n.iv, .int .i64 n.sy] w V2 by
    subst hV2
    exact L2.out.set 2 (.slice (some ⟨g2, 0, none⟩) n.m c2) (by show 2 < 8; omega))
  have I2 := Lib.hid (show Ints V2 g2 n.m by
    subst hV2
    exact ((ints_own hown (rowI_ints _ _)).setz (by omega)).less (by omega))
  have I0 := Lib.hid (show Ints V2 g0 (n.m * 2) by
    subst hV2
    exact (I0.out.grow (by omega) B2.out).setz (by omega))
  have I1 := Lib.hid (show Ints V2 g1 n.m by
    subst hV2
    exact (I1.out.grow (by omega) B2.out).setz (by omega))
  have sz2 : V1.heap.size ≤ V2.heap.size := by
    subst hV2
    simpa using B2.out.size
  have gl2 : g2 < V2.heap.size := World.block_lt_of_cell? _ _ (I2.out.val (u := 0) (by omega))
  clear hV2 hown hgrow hat' hlt a2 b2 f2 L2 B2
  obtain ⟨l, hl⟩ : ∃ l, n.m = l + 1 := ⟨n.m - 1, by omega⟩
  have hw : IntKind.i64.wrap ((n.m : Int) - 1) = (l : Int) := by rw [IntWalk.i64_in _ (by omega)]; omega
  have l0 : (0 : Int) ≤ (l : Int) := by omega
  have l1 : (l : Int) < (n.m : Int) := by omega
  have l2 : (l : Int) ≤ (c1 : Int) := by omega
  have a0 : V2.cell? ⟨w.heap.size, 0, none⟩ = some (.slice (some ⟨g0, 0, none⟩) n.m c0) := K3.out.M 0 _ rfl
  have a1 : V2.cell? ⟨w.heap.size, 1, none⟩ = some (.slice (some ⟨g1, 0, none⟩) n.m c1) := K3.out.M 1 _ rfl
  have a2 : V2.cell? ⟨w.heap.size, 2, none⟩ = some (.slice (some ⟨g2, 0, none⟩) n.m c2) := K3.out.M 2 _ rfl
  have a3 : V2.cell? ⟨w.heap.size, 3, none⟩ = some (.int .i64 n.tu) := K3.out.M 3 _ rfl
  have a4 : V2.cell? ⟨w.heap.size, 4, none⟩ = some (.int .i64 n.ga) := K3.out.M 4 _ rfl
  have a5 : V2.cell? ⟨w.heap.size, 5, none⟩ = some (.int .i64 n.st) := K3.out.M 5 _ rfl
  have a6 : V2.cell? ⟨w.heap.size, 6, none⟩ = some (.int .i64 n.iv) := K3.out.M 6 _ rfl
  have a7 : V2.cell? ⟨w.heap.size, 7, none⟩ = some (.int .i64 n.sy) := K3.out.M 7 _ rfl
  have fz : ∀ u, V2.frozen? ⟨w.heap.size, u, none⟩ = false := K3.out.FM
  have e0 := I0.out.val (u := l * 2 + 1) (by omega)
  have e1 := I1.out.val (u := l) (by omega)
  have e2 := I2.out.val (u := l) (by omega)
  have z0 := I0.out.f
  have z1 := I1.out.f
  have z2 := I2.out.f
  have hr : m.tmod 10 = 0 ∨ m.tmod 10 = 1 ∨ m.tmod 10 = 2 ∨ m.tmod 10 = 3 ∨ m.tmod 10 = 4 ∨ m.tmod 10 = 5 ∨ m.tmod 10 = 6 ∨ m.tmod 10 = 7 ∨ m.tmod 10 = 8 ∨ m.tmod 10 = 9 := by
    rw [Int.tmod_eq_emod_of_nonneg k0]
    omega
  have S8 := Lib.hid (show ∀ W : World, ∃ x, x = W from fun W => ⟨W, rfl⟩)
  clear S8 HN hj0 hi0
  rcases hr with hr | hr | hr | hr | hr | hr | hr | hr | hr | hr
  · go_upto_region 24 with fail
    refine wp_world ?_
    intro Y hY
    have KY := Lib.hid (show Bk [.slice (some ⟨g0, 0, none⟩) n.m c0, .slice (some ⟨g1, 0, none⟩) n.m c1, .slice (some ⟨g2, 0, none⟩) n.m c2, .int .i64 n.tu, .int .i64 n.ga, .int .i64 n.st, .int .i64 n.iv, .int .i64 n.sy] w Y by subst hY; exact K3.out.other (by omega))
    have J0 := Lib.hid (show Ints Y g0 (n.m * 2) by subst hY; exact I0.out.set)
    have J1 := Lib.hid (show Ints Y g1 n.m by subst hY; exact I1.out.setz (by omega))
    have J2 := Lib.hid (show Ints Y g2 n.m by subst hY; exact I2.out.setz (by omega))
    clear hY K3 I0 I1 I2 e0 e1 e2 z0 z1 z2 fz a0 a1 a2 a3 a4 a5 a6 a7
    go_wp2_with (first | ((with_reducible refine at_load 25 (.tmp 3) ?_); refine wpList_load_whole rfl (.tmp 3) 25 rfl w.heap.size 0 [.slice (some ⟨g0, 0, none⟩) n.m c0, .slice (some ⟨g1, 0, none⟩) n.m c1, .slice (some ⟨g2, 0, none⟩) n.m c2, .int .i64 n.tu, .int .i64 n.ga, .int .i64 n.st, .int .i64 n.iv, .int .i64 n.sy] rfl hat.out hst.out KY.out.M ?_; simp only [Act.put, List.setIfInBounds_toArray, List.set_cons_succ, List.set_cons_zero]) | ((with_reducible refine at_store 25 (.tmp 6) (.tmp 78) ?_); refine wpList_store_whole rfl (.tmp 6) (.tmp 78) 25 rfl (w.heap.size + 1) 0 [.slice (some ⟨g0, 0, none⟩) n.m c0, .slice (some ⟨g1, 0, none⟩) n.m c1, .slice (some ⟨g2, 0, none⟩) n.m c2, .int .i64 n.tu, .int .i64 n.ga, .int .i64 n.st, .int .i64 n.iv, .int .i64 n.sy] rfl rfl hst.out (fun j hj => KY.out.Z.some j hj) (fun j _ => KY.out.FZ _) (by intro v hv; simp only [List.mem_cons, List.not_mem_nil, or_false] at hv; rcases hv with rfl | rfl | rfl | rfl | rfl | rfl | rfl | rfl <;> rfl) ?_; intro w12 hw12))
    have hL2 := run_loadVar_whole (P := Tryz.prog) (w := w12) 25 (w.heap.size + 1) 0 [.slice (some ⟨g0, 0, none⟩) n.m c0, .slice (some ⟨g1, 0, none⟩) n.m c1, .slice (some ⟨g2, 0, none⟩) n.m c2, .int .i64 n.tu, .int .i64 n.ga, .int .i64 n.st, .int .i64 n.iv, .int .i64 n.sy] hat.out hst.out hw12.here
    have jf : ∀ g k, ¬ g = w.heap.size + 1 → Ints Y g k → Ints w12 g k := fun g k hg h => ⟨fun u hu => by obtain ⟨y, hy⟩ := h.c u hu; exact ⟨y, (hw12.far g u hg).trans hy⟩, fun u => (hw12.frozen _).trans (h.f u)⟩
    obtain ⟨G, hG, hin⟩ := gn_mk (jf _ _ (by omega) J0.out) (jf _ _ (by omega) (J1.out)) (jf _ _ (by omega) J2.out) c0 c1 c2 (n.tu) (n.ga) (n.st) (n.iv) (n.sy)
    refine bodyPost_ret (v := .agg G.vs.toArray) ?_ rfl ⟨G, rfl, hin, hw12.below _ _ (by omega) KY.out.h⟩
    rw [hG]
    exact results_cell 6 25 Tryz.results6 (w.heap.size + 1) 0 _ rfl hL2
  · go_upto_region 24 with fail
    refine wp_world ?_
    intro Y hY
    have KY := Lib.hid (show Bk [.slice (some ⟨g0, 0, none⟩) n.m c0, .slice (some ⟨g1, 0, none⟩) n.m c1, .slice (some ⟨g2, 0, none⟩) n.m c2, .int .i64 n.tu, .int .i64 n.ga, .int .i64 n.st, .int .i64 n.iv, .int .i64 n.sy] w Y by subst hY; exact K3.out.other (by omega))
    have J0 := Lib.hid (show Ints Y g0 (n.m * 2) by subst hY; exact I0.out.setz (by omega))
    have J1 := Lib.hid (show Ints Y g1 n.m by subst hY; exact I1.out.set)
    have J2 := Lib.hid (show Ints Y g2 n.m by subst hY; exact I2.out.setz (by omega))
    clear hY K3 I0 I1 I2 e0 e1 e2 z0 z1 z2 fz a0 a1 a2 a3 a4 a5 a6 a7
    go_wp2_with (first | ((with_reducible refine at_load 25 (.tmp 3) ?_); refine wpList_load_whole rfl (.tmp 3) 25 rfl w.heap.size 0 [.slice (some ⟨g0, 0, none⟩) n.m c0, .slice (some ⟨g1, 0, none⟩) n.m c1, .slice (some ⟨g2, 0, none⟩) n.m c2, .int .i64 n.tu, .int .i64 n.ga, .int .i64 n.st, .int .i64 n.iv, .int .i64 n.sy] rfl hat.out hst.out KY.out.M ?_; simp only [Act.put, List.setIfInBounds_toArray, List.set_cons_succ, List.set_cons_zero]) | ((with_reducible refine at_store 25 (.tmp 6) (.tmp 78) ?_); refine wpList_store_whole rfl (.tmp 6) (.tmp 78) 25 rfl (w.heap.size + 1) 0 [.slice (some ⟨g0, 0, none⟩) n.m c0, .slice (some ⟨g1, 0, none⟩) n.m c1, .slice (some ⟨g2, 0, none⟩) n.m c2, .int .i64 n.tu, .int .i64 n.ga, .int .i64 n.st, .int .i64 n.iv, .int .i64 n.sy] rfl rfl hst.out (fun j hj => KY.out.Z.some j hj) (fun j _ => KY.out.FZ _) (by intro v hv; simp only [List.mem_cons, List.not_mem_nil, or_false] at hv; rcases hv with rfl | rfl | rfl | rfl | rfl | rfl | rfl | rfl <;> rfl) ?_; intro w12 hw12))
    have hL2 := run_loadVar_whole (P := Tryz.prog) (w := w12) 25 (w.heap.size + 1) 0 [.slice (some ⟨g0, 0, none⟩) n.m c0, .slice (some ⟨g1, 0, none⟩) n.m c1, .slice (some ⟨g2, 0, none⟩) n.m c2, .int .i64 n.tu, .int .i64 n.ga, .int .i64 n.st, .int .i64 n.iv, .int .i64 n.sy] hat.out hst.out hw12.here
    have jf : ∀ g k, ¬ g = w.heap.size + 1 → Ints Y g k → Ints w12 g k := fun g k hg h => ⟨fun u hu => by obtain ⟨y, hy⟩ := h.c u hu; exact ⟨y, (hw12.far g u hg).trans hy⟩, fun u => (hw12.frozen _).trans (h.f u)⟩
    obtain ⟨G, hG, hin⟩ := gn_mk (jf _ _ (by omega) J0.out) (jf _ _ (by omega) (J1.out)) (jf _ _ (by omega) J2.out) c0 c1 c2 (n.tu) (n.ga) (n.st) (n.iv) (n.sy)
    refine bodyPost_ret (v := .agg G.vs.toArray) ?_ rfl ⟨G, rfl, hin, hw12.below _ _ (by omega) KY.out.h⟩
    rw [hG]
    exact results_cell 6 25 Tryz.results6 (w.heap.size + 1) 0 _ rfl hL2
  · go_upto_region 24 with fail
    refine wp_world ?_
    intro Y hY
    have KY := Lib.hid (show Bk [.slice (some ⟨g0, 0, none⟩) n.m c0, .slice (some ⟨g1, 0, none⟩) n.m c1, .slice (some ⟨g2, 0, none⟩) n.m c2, .int .i64 n.tu, .int .i64 n.ga, .int .i64 n.st, .int .i64 n.iv, .int .i64 n.sy] w Y by subst hY; exact K3.out.other (by omega))
    have J0 := Lib.hid (show Ints Y g0 (n.m * 2) by subst hY; exact I0.out.setz (by omega))
    have J1 := Lib.hid (show Ints Y g1 n.m by subst hY; exact I1.out.setz (by omega))
    have J2 := Lib.hid (show Ints Y g2 n.m by subst hY; exact I2.out.set)
    clear hY K3 I0 I1 I2 e0 e1 e2 z0 z1 z2 fz a0 a1 a2 a3 a4 a5 a6 a7
    go_wp2_with (first | ((with_reducible refine at_load 25 (.tmp 3) ?_); refine wpList_load_whole rfl (.tmp 3) 25 rfl w.heap.size 0 [.slice (some ⟨g0, 0, none⟩) n.m c0, .slice (some ⟨g1, 0, none⟩) n.m c1, .slice (some ⟨g2, 0, none⟩) n.m c2, .int .i64 n.tu, .int .i64 n.ga, .int .i64 n.st, .int .i64 n.iv, .int .i64 n.sy] rfl hat.out hst.out KY.out.M ?_; simp only [Act.put, List.setIfInBounds_toArray, List.set_cons_succ, List.set_cons_zero]) | ((with_reducible refine at_store 25 (.tmp 6) (.tmp 78) ?_); refine wpList_store_whole rfl (.tmp 6) (.tmp 78) 25 rfl (w.heap.size + 1) 0 [.slice (some ⟨g0, 0, none⟩) n.m c0, .slice (some ⟨g1, 0, none⟩) n.m c1, .slice (some ⟨g2, 0, none⟩) n.m c2, .int .i64 n.tu, .int .i64 n.ga, .int .i64 n.st, .int .i64 n.iv, .int .i64 n.sy] rfl rfl hst.out (fun j hj => KY.out.Z.some j hj) (fun j _ => KY.out.FZ _) (by intro v hv; simp only [List.mem_cons, List.not_mem_nil, or_false] at hv; rcases hv with rfl | rfl | rfl | rfl | rfl | rfl | rfl | rfl <;> rfl) ?_; intro w12 hw12))
    have hL2 := run_loadVar_whole (P := Tryz.prog) (w := w12) 25 (w.heap.size + 1) 0 [.slice (some ⟨g0, 0, none⟩) n.m c0, .slice (some ⟨g1, 0, none⟩) n.m c1, .slice (some ⟨g2, 0, none⟩) n.m c2, .int .i64 n.tu, .int .i64 n.ga, .int .i64 n.st, .int .i64 n.iv, .int .i64 n.sy] hat.out hst.out hw12.here
    have jf : ∀ g k, ¬ g = w.heap.size + 1 → Ints Y g k → Ints w12 g k := fun g k hg h => ⟨fun u hu => by obtain ⟨y, hy⟩ := h.c u hu; exact ⟨y, (hw12.far g u hg).trans hy⟩, fun u => (hw12.frozen _).trans (h.f u)⟩
    obtain ⟨G, hG, hin⟩ := gn_mk (jf _ _ (by omega) J0.out) (jf _ _ (by omega) (J1.out)) (jf _ _ (by omega) J2.out) c0 c1 c2 (n.tu) (n.ga) (n.st) (n.iv) (n.sy)
    refine bodyPost_ret (v := .agg G.vs.toArray) ?_ rfl ⟨G, rfl, hin, hw12.below _ _ (by omega) KY.out.h⟩
    rw [hG]
    exact results_cell 6 25 Tryz.results6 (w.heap.size + 1) 0 _ rfl hL2
  · go_upto_region 24 with fail
    refine wp_world ?_
    intro Y hY
    have KY := Lib.hid (show Bk [.slice (some ⟨g0, 0, none⟩) n.m c0, .slice (some ⟨g1, 0, none⟩) n.m c1, .slice (some ⟨g2, 0, none⟩) n.m c2, .int .i64 x, .int .i64 n.ga, .int .i64 n.st, .int .i64 n.iv, .int .i64 n.sy] w Y by subst hY; exact K3.out.set 3 (.int .i64 x) (by show 3 < 8; omega))
    have J0 := Lib.hid (show Ints Y g0 (n.m * 2) by subst hY; exact I0.out.setz (by omega))
    have J1 := Lib.hid (show Ints Y g1 n.m by subst hY; exact I1.out.setz (by omega))
    have J2 := Lib.hid (show Ints Y g2 n.m by subst hY; exact I2.out.setz (by omega))
    clear hY K3 I0 I1 I2 e0 e1 e2 z0 z1 z2 fz a0 a1 a2 a3 a4 a5 a6 a7
    go_wp2_with (first | ((with_reducible refine at_load 25 (.tmp 3) ?_); refine wpList_load_whole rfl (.tmp 3) 25 rfl w.heap.size 0 [.slice (some ⟨g0, 0, none⟩) n.m c0, .slice (some ⟨g1, 0, none⟩) n.m c1, .slice (some ⟨g2, 0, none⟩) n.m c2, .int .i64 x, .int .i64 n.ga, .int .i64 n.st, .int .i64 n.iv, .int .i64 n.sy] rfl hat.out hst.out KY.out.M ?_; simp only [Act.put, List.setIfInBounds_toArray, List.set_cons_succ, List.set_cons_zero]) | ((with_reducible refine at_store 25 (.tmp 6) (.tmp 78) ?_); refine wpList_store_whole rfl (.tmp 6) (.tmp 78) 25 rfl (w.heap.size + 1) 0 [.slice (some ⟨g0, 0, none⟩) n.m c0, .slice (some ⟨g1, 0, none⟩) n.m c1, .slice (some ⟨g2, 0, none⟩) n.m c2, .int .i64 x, .int .i64 n.ga, .int .i64 n.st, .int .i64 n.iv, .int .i64 n.sy] rfl rfl hst.out (fun j hj => KY.out.Z.some j hj) (fun j _ => KY.out.FZ _) (by intro v hv; simp only [List.mem_cons, List.not_mem_nil, or_false] at hv; rcases hv with rfl | rfl | rfl | rfl | rfl | rfl | rfl | rfl <;> rfl) ?_; intro w12 hw12))
    have hL2 := run_loadVar_whole (P := Tryz.prog) (w := w12) 25 (w.heap.size + 1) 0 [.slice (some ⟨g0, 0, none⟩) n.m c0, .slice (some ⟨g1, 0, none⟩) n.m c1, .slice (some ⟨g2, 0, none⟩) n.m c2, .int .i64 x, .int .i64 n.ga, .int .i64 n.st, .int .i64 n.iv, .int .i64 n.sy] hat.out hst.out hw12.here
    have jf : ∀ g k, ¬ g = w.heap.size + 1 → Ints Y g k → Ints w12 g k := fun g k hg h => ⟨fun u hu => by obtain ⟨y, hy⟩ := h.c u hu; exact ⟨y, (hw12.far g u hg).trans hy⟩, fun u => (hw12.frozen _).trans (h.f u)⟩
    obtain ⟨G, hG, hin⟩ := gn_mk (jf _ _ (by omega) J0.out) (jf _ _ (by omega) (J1.out)) (jf _ _ (by omega) J2.out) c0 c1 c2 (x) (n.ga) (n.st) (n.iv) (n.sy)
    refine bodyPost_ret (v := .agg G.vs.toArray) ?_ rfl ⟨G, rfl, hin, hw12.below _ _ (by omega) KY.out.h⟩
    rw [hG]
    exact results_cell 6 25 Tryz.results6 (w.heap.size + 1) 0 _ rfl hL2
  · go_upto_region 24 with fail
    refine wp_world ?_
    intro Y hY
    have KY := Lib.hid (show Bk [.slice (some ⟨g0, 0, none⟩) n.m c0, .slice (some ⟨g1, 0, none⟩) n.m c1, .slice (some ⟨g2, 0, none⟩) n.m c2, .int .i64 n.tu, .int .i64 x, .int .i64 n.st, .int .i64 n.iv, .int .i64 n.sy] w Y by subst hY; exact K3.out.set 4 (.int .i64 x) (by show 4 < 8; omega))
    have J0 := Lib.hid (show Ints Y g0 (n.m * 2) by subst hY; exact I0.out.setz (by omega))
    have J1 := Lib.hid (show Ints Y g1 n.m by subst hY; exact I1.out.setz (by omega))
    have J2 := Lib.hid (show Ints Y g2 n.m by subst hY; exact I2.out.setz (by omega))
    clear hY K3 I0 I1 I2 e0 e1 e2 z0 z1 z2 fz a0 a1 a2 a3 a4 a5 a6 a7
    go_wp2_with (first | ((with_reducible refine at_load 25 (.tmp 3) ?_); refine wpList_load_whole rfl (.tmp 3) 25 rfl w.heap.size 0 [.slice (some ⟨g0, 0, none⟩) n.m c0, .slice (some ⟨g1, 0, none⟩) n.m c1, .slice (some ⟨g2, 0, none⟩) n.m c2, .int .i64 n.tu, .int .i64 x, .int .i64 n.st, .int .i64 n.iv, .int .i64 n.sy] rfl hat.out hst.out KY.out.M ?_; simp only [Act.put, List.setIfInBounds_toArray, List.set_cons_succ, List.set_cons_zero]) | ((with_reducible refine at_store 25 (.tmp 6) (.tmp 78) ?_); refine wpList_store_whole rfl (.tmp 6) (.tmp 78) 25 rfl (w.heap.size + 1) 0 [.slice (some ⟨g0, 0, none⟩) n.m c0, .slice (some ⟨g1, 0, none⟩) n.m c1, .slice (some ⟨g2, 0, none⟩) n.m c2, .int .i64 n.tu, .int .i64 x, .int .i64 n.st, .int .i64 n.iv, .int .i64 n.sy] rfl rfl hst.out (fun j hj => KY.out.Z.some j hj) (fun j _ => KY.out.FZ _) (by intro v hv; simp only [List.mem_cons, List.not_mem_nil, or_false] at hv; rcases hv with rfl | rfl | rfl | rfl | rfl | rfl | rfl | rfl <;> rfl) ?_; intro w12 hw12))
    have hL2 := run_loadVar_whole (P := Tryz.prog) (w := w12) 25 (w.heap.size + 1) 0 [.slice (some ⟨g0, 0, none⟩) n.m c0, .slice (some ⟨g1, 0, none⟩) n.m c1, .slice (some ⟨g2, 0, none⟩) n.m c2, .int .i64 n.tu, .int .i64 x, .int .i64 n.st, .int .i64 n.iv, .int .i64 n.sy] hat.out hst.out hw12.here
    have jf : ∀ g k, ¬ g = w.heap.size + 1 → Ints Y g k → Ints w12 g k := fun g k hg h => ⟨fun u hu => by obtain ⟨y, hy⟩ := h.c u hu; exact ⟨y, (hw12.far g u hg).trans hy⟩, fun u => (hw12.frozen _).trans (h.f u)⟩
    obtain ⟨G, hG, hin⟩ := gn_mk (jf _ _ (by omega) J0.out) (jf _ _ (by omega) (J1.out)) (jf _ _ (by omega) J2.out) c0 c1 c2 (n.tu) (x) (n.st) (n.iv) (n.sy)
    refine bodyPost_ret (v := .agg G.vs.toArray) ?_ rfl ⟨G, rfl, hin, hw12.below _ _ (by omega) KY.out.h⟩
    rw [hG]
    exact results_cell 6 25 Tryz.results6 (w.heap.size + 1) 0 _ rfl hL2
  · go_upto_region 24 with fail
    refine wp_world ?_
    intro Y hY
    have KY := Lib.hid (show Bk [.slice (some ⟨g0, 0, none⟩) n.m c0, .slice (some ⟨g1, 0, none⟩) n.m c1, .slice (some ⟨g2, 0, none⟩) n.m c2, .int .i64 n.tu, .int .i64 n.ga, .int .i64 x, .int .i64 n.iv, .int .i64 n.sy] w Y by subst hY; exact K3.out.set 5 (.int .i64 x) (by show 5 < 8; omega))
    have J0 := Lib.hid (show Ints Y g0 (n.m * 2) by subst hY; exact I0.out.setz (by omega))
    have J1 := Lib.hid (show Ints Y g1 n.m by subst hY; exact I1.out.setz (by omega))
    have J2 := Lib.hid (show Ints Y g2 n.m by subst hY; exact I2.out.setz (by omega))
    clear hY K3 I0 I1 I2 e0 e1 e2 z0 z1 z2 fz a0 a1 a2 a3 a4 a5 a6 a7
    go_wp2_with (first | ((with_reducible refine at_load 25 (.tmp 3) ?_); refine wpList_load_whole rfl (.tmp 3) 25 rfl w.heap.size 0 [.slice (some ⟨g0, 0, none⟩) n.m c0, .slice (some ⟨g1, 0, none⟩) n.m c1, .slice (some ⟨g2, 0, none⟩) n.m c2, .int .i64 n.tu, .int .i64 n.ga, .int .i64 x, .int .i64 n.iv, .int .i64 n.sy] rfl hat.out hst.out KY.out.M ?_; simp only [Act.put, List.setIfInBounds_toArray, List.set_cons_succ, List.set_cons_zero]) | ((with_reducible refine at_store 25 (.tmp 6) (.tmp 78) ?_); refine wpList_store_whole rfl (.tmp 6) (.tmp 78) 25 rfl (w.heap.size + 1) 0 [.slice (some ⟨g0, 0, none⟩) n.m c0, .slice (some ⟨g1, 0, none⟩) n.m c1, .slice (some ⟨g2, 0, none⟩) n.m c2, .int .i64 n.tu, .int .i64 n.ga, .int .i64 x, .int .i64 n.iv, .int .i64 n.sy] rfl rfl hst.out (fun j hj => KY.out.Z.some j hj) (fun j _ => KY.out.FZ _) (by intro v hv; simp only [List.mem_cons, List.not_mem_nil, or_false] at hv; rcases hv with rfl | rfl | rfl | rfl | rfl | rfl | rfl | rfl <;> rfl) ?_; intro w12 hw12))
    have hL2 := run_loadVar_whole (P := Tryz.prog) (w := w12) 25 (w.heap.size + 1) 0 [.slice (some ⟨g0, 0, none⟩) n.m c0, .slice (some ⟨g1, 0, none⟩) n.m c1, .slice (some ⟨g2, 0, none⟩) n.m c2, .int .i64 n.tu, .int .i64 n.ga, .int .i64 x, .int .i64 n.iv, .int .i64 n.sy] hat.out hst.out hw12.here
    have jf : ∀ g k, ¬ g = w.heap.size + 1 → Ints Y g k → Ints w12 g k := fun g k hg h => ⟨fun u hu => by obtain ⟨y, hy⟩ := h.c u hu; exact ⟨y, (hw12.far g u hg).trans hy⟩, fun u => (hw12.frozen _).trans (h.f u)⟩
    obtain ⟨G, hG, hin⟩ := gn_mk (jf _ _ (by omega) J0.out) (jf _ _ (by omega) (J1.out)) (jf _ _ (by omega) J2.out) c0 c1 c2 (n.tu) (n.ga) (x) (n.iv) (n.sy)
    refine bodyPost_ret (v := .agg G.vs.toArray) ?_ rfl ⟨G, rfl, hin, hw12.below _ _ (by omega) KY.out.h⟩
    rw [hG]
    exact results_cell 6 25 Tryz.results6 (w.heap.size + 1) 0 _ rfl hL2
  · go_upto_region 24 with fail
    refine wp_world ?_
    intro Y hY
    have KY := Lib.hid (show Bk [.slice (some ⟨g0, 0, none⟩) n.m c0, .slice (some ⟨g1, 0, none⟩) n.m c1, .slice (some ⟨g2, 0, none⟩) n.m c2, .int .i64 n.tu, .int .i64 n.ga, .int .i64 n.st, .int .i64 x, .int .i64 n.sy] w Y by subst hY; exact K3.out.set 6 (.int .i64 x) (by show 6 < 8; omega))
    have J0 := Lib.hid (show Ints Y g0 (n.m * 2) by subst hY; exact I0.out.setz (by omega))
    have J1 := Lib.hid (show Ints Y g1 n.m by subst hY; exact I1.out.setz (by omega))
    have J2 := Lib.hid (show Ints Y g2 n.m by subst hY; exact I2.out.setz (by omega))
    clear hY K3 I0 I1 I2 e0 e1 e2 z0 z1 z2 fz a0 a1 a2 a3 a4 a5 a6 a7
    go_wp2_with (first | ((with_reducible refine at_load 25 (.tmp 3) ?_); refine wpList_load_whole rfl (.tmp 3) 25 rfl w.heap.size 0 [.slice (some ⟨g0, 0, none⟩) n.m c0, .slice (some ⟨g1, 0, none⟩) n.m c1, .slice (some ⟨g2, 0, none⟩) n.m c2, .int .i64 n.tu, .int .i64 n.ga, .int .i64 n.st, .int .i64 x, .int .i64 n.sy] rfl hat.out hst.out KY.out.M ?_; simp only [Act.put, List.setIfInBounds_toArray, List.set_cons_succ, List.set_cons_zero]) | ((with_reducible refine at_store 25 (.tmp 6) (.tmp 78) ?_); refine wpList_store_whole rfl (.tmp 6) (.tmp 78) 25 rfl (w.heap.size + 1) 0 [.slice (some ⟨g0, 0, none⟩) n.m c0, .slice (some ⟨g1, 0, none⟩) n.m c1, .slice (some ⟨g2, 0, none⟩) n.m c2, .int .i64 n.tu, .int .i64 n.ga, .int .i64 n.st, .int .i64 x, .int .i64 n.sy] rfl rfl hst.out (fun j hj => KY.out.Z.some j hj) (fun j _ => KY.out.FZ _) (by intro v hv; simp only [List.mem_cons, List.not_mem_nil, or_false] at hv; rcases hv with rfl | rfl | rfl | rfl | rfl | rfl | rfl | rfl <;> rfl) ?_; intro w12 hw12))
    have hL2 := run_loadVar_whole (P := Tryz.prog) (w := w12) 25 (w.heap.size + 1) 0 [.slice (some ⟨g0, 0, none⟩) n.m c0, .slice (some ⟨g1, 0, none⟩) n.m c1, .slice (some ⟨g2, 0, none⟩) n.m c2, .int .i64 n.tu, .int .i64 n.ga, .int .i64 n.st, .int .i64 x, .int .i64 n.sy] hat.out hst.out hw12.here
    have jf : ∀ g k, ¬ g = w.heap.size + 1 → Ints Y g k → Ints w12 g k := fun g k hg h => ⟨fun u hu => by obtain ⟨y, hy⟩ := h.c u hu; exact ⟨y, (hw12.far g u hg).trans hy⟩, fun u => (hw12.frozen _).trans (h.f u)⟩
    obtain ⟨G, hG, hin⟩ := gn_mk (jf _ _ (by omega) J0.out) (jf _ _ (by omega) (J1.out)) (jf _ _ (by omega) J2.out) c0 c1 c2 (n.tu) (n.ga) (n.st) (x) (n.sy)
    refine bodyPost_ret (v := .agg G.vs.toArray) ?_ rfl ⟨G, rfl, hin, hw12.below _ _ (by omega) KY.out.h⟩
    rw [hG]
    exact results_cell 6 25 Tryz.results6 (w.heap.size + 1) 0 _ rfl hL2
  · go_upto_region 24 with fail
    refine wp_world ?_
    intro Y hY
    have KY := Lib.hid (show Bk [.slice (some ⟨g0, 0, none⟩) n.m c0, .slice (some ⟨g1, 0, none⟩) n.m c1, .slice (some ⟨g2, 0, none⟩) n.m c2, .int .i64 n.tu, .int .i64 n.ga, .int .i64 n.st, .int .i64 n.iv, .int .i64 x] w Y by subst hY; exact K3.out.set 7 (.int .i64 x) (by show 7 < 8; omega))
    have J0 := Lib.hid (show Ints Y g0 (n.m * 2) by subst hY; exact I0.out.setz (by omega))
    have J1 := Lib.hid (show Ints Y g1 n.m by subst hY; exact I1.out.setz (by omega))
    have J2 := Lib.hid (show Ints Y g2 n.m by subst hY; exact I2.out.setz (by omega))
    clear hY K3 I0 I1 I2 e0 e1 e2 z0 z1 z2 fz a0 a1 a2 a3 a4 a5 a6 a7
    go_wp2_with (first | ((with_reducible refine at_load 25 (.tmp 3) ?_); refine wpList_load_whole rfl (.tmp 3) 25 rfl w.heap.size 0 [.slice (some ⟨g0, 0, none⟩) n.m c0, .slice (some ⟨g1, 0, none⟩) n.m c1, .slice (some ⟨g2, 0, none⟩) n.m c2, .int .i64 n.tu, .int .i64 n.ga, .int .i64 n.st, .int .i64 n.iv, .int .i64 x] rfl hat.out hst.out KY.out.M ?_; simp only [Act.put, List.setIfInBounds_toArray, List.set_cons_succ, List.set_cons_zero]) | ((with_reducible refine at_store 25 (.tmp 6) (.tmp 78) ?_); refine wpList_store_whole rfl (.tmp 6) (.tmp 78) 25 rfl (w.heap.size + 1) 0 [.slice (some ⟨g0, 0, none⟩) n.m c0, .slice (some ⟨g1, 0, none⟩) n.m c1, .slice (some ⟨g2, 0, none⟩) n.m c2, .int .i64 n.tu, .int .i64 n.ga, .int .i64 n.st, .int .i64 n.iv, .int .i64 x] rfl rfl hst.out (fun j hj => KY.out.Z.some j hj) (fun j _ => KY.out.FZ _) (by intro v hv; simp only [List.mem_cons, List.not_mem_nil, or_false] at hv; rcases hv with rfl | rfl | rfl | rfl | rfl | rfl | rfl | rfl <;> rfl) ?_; intro w12 hw12))
    have hL2 := run_loadVar_whole (P := Tryz.prog) (w := w12) 25 (w.heap.size + 1) 0 [.slice (some ⟨g0, 0, none⟩) n.m c0, .slice (some ⟨g1, 0, none⟩) n.m c1, .slice (some ⟨g2, 0, none⟩) n.m c2, .int .i64 n.tu, .int .i64 n.ga, .int .i64 n.st, .int .i64 n.iv, .int .i64 x] hat.out hst.out hw12.here
    have jf : ∀ g k, ¬ g = w.heap.size + 1 → Ints Y g k → Ints w12 g k := fun g k hg h => ⟨fun u hu => by obtain ⟨y, hy⟩ := h.c u hu; exact ⟨y, (hw12.far g u hg).trans hy⟩, fun u => (hw12.frozen _).trans (h.f u)⟩
    obtain ⟨G, hG, hin⟩ := gn_mk (jf _ _ (by omega) J0.out) (jf _ _ (by omega) (J1.out)) (jf _ _ (by omega) J2.out) c0 c1 c2 (n.tu) (n.ga) (n.st) (n.iv) (x)
    refine bodyPost_ret (v := .agg G.vs.toArray) ?_ rfl ⟨G, rfl, hin, hw12.below _ _ (by omega) KY.out.h⟩
    rw [hG]
    exact results_cell 6 25 Tryz.results6 (w.heap.size + 1) 0 _ rfl hL2
  · go_upto_region 24 with fail
    refine wp_world ?_
    intro Y hY
    have KY := Lib.hid (show Bk [.slice (some ⟨g0, 0, none⟩) n.m c0, .slice (some ⟨g1, 0, none⟩) l c1, .slice (some ⟨g2, 0, none⟩) n.m c2, .int .i64 n.tu, .int .i64 n.ga, .int .i64 n.st, .int .i64 n.iv, .int .i64 n.sy] w Y by subst hY; exact K3.out.set 1 (.slice (some ⟨g1, 0, none⟩) l c1) (by show 1 < 8; omega))
    have J0 := Lib.hid (show Ints Y g0 (n.m * 2) by subst hY; exact I0.out.setz (by omega))
    have J1 := Lib.hid (show Ints Y g1 n.m by subst hY; exact I1.out.setz (by omega))
    have J2 := Lib.hid (show Ints Y g2 n.m by subst hY; exact I2.out.setz (by omega))
    clear hY K3 I0 I1 I2 e0 e1 e2 z0 z1 z2 fz a0 a1 a2 a3 a4 a5 a6 a7
    go_wp2_with (first | ((with_reducible refine at_load 25 (.tmp 3) ?_); refine wpList_load_whole rfl (.tmp 3) 25 rfl w.heap.size 0 [.slice (some ⟨g0, 0, none⟩) n.m c0, .slice (some ⟨g1, 0, none⟩) l c1, .slice (some ⟨g2, 0, none⟩) n.m c2, .int .i64 n.tu, .int .i64 n.ga, .int .i64 n.st, .int .i64 n.iv, .int .i64 n.sy] rfl hat.out hst.out KY.out.M ?_; simp only [Act.put, List.setIfInBounds_toArray, List.set_cons_succ, List.set_cons_zero]) | ((with_reducible refine at_store 25 (.tmp 6) (.tmp 78) ?_); refine wpList_store_whole rfl (.tmp 6) (.tmp 78) 25 rfl (w.heap.size + 1) 0 [.slice (some ⟨g0, 0, none⟩) n.m c0, .slice (some ⟨g1, 0, none⟩) l c1, .slice (some ⟨g2, 0, none⟩) n.m c2, .int .i64 n.tu, .int .i64 n.ga, .int .i64 n.st, .int .i64 n.iv, .int .i64 n.sy] rfl rfl hst.out (fun j hj => KY.out.Z.some j hj) (fun j _ => KY.out.FZ _) (by intro v hv; simp only [List.mem_cons, List.not_mem_nil, or_false] at hv; rcases hv with rfl | rfl | rfl | rfl | rfl | rfl | rfl | rfl <;> rfl) ?_; intro w12 hw12))
    have hL2 := run_loadVar_whole (P := Tryz.prog) (w := w12) 25 (w.heap.size + 1) 0 [.slice (some ⟨g0, 0, none⟩) n.m c0, .slice (some ⟨g1, 0, none⟩) l c1, .slice (some ⟨g2, 0, none⟩) n.m c2, .int .i64 n.tu, .int .i64 n.ga, .int .i64 n.st, .int .i64 n.iv, .int .i64 n.sy] hat.out hst.out hw12.here
    have jf : ∀ g k, ¬ g = w.heap.size + 1 → Ints Y g k → Ints w12 g k := fun g k hg h => ⟨fun u hu => by obtain ⟨y, hy⟩ := h.c u hu; exact ⟨y, (hw12.far g u hg).trans hy⟩, fun u => (hw12.frozen _).trans (h.f u)⟩
    obtain ⟨G, hG, hin⟩ := gn_mk (jf _ _ (by omega) J0.out) (jf _ _ (by omega) (J1.out.less (show l ≤ n.m by omega))) (jf _ _ (by omega) J2.out) c0 c1 c2 (n.tu) (n.ga) (n.st) (n.iv) (n.sy)
    refine bodyPost_ret (v := .agg G.vs.toArray) ?_ rfl ⟨G, rfl, hin, hw12.below _ _ (by omega) KY.out.h⟩
    rw [hG]
    exact results_cell 6 25 Tryz.results6 (w.heap.size + 1) 0 _ rfl hL2
  · go_upto_region 24 with fail
    refine wp_world ?_
    intro Y hY
    have KY := Lib.hid (show Bk [.slice (some ⟨g0, 0, none⟩) n.m c0, .slice (some ⟨g1, 0, none⟩) n.m c1, .slice (some ⟨g2, 0, none⟩) n.m c2, .int .i64 n.tu, .int .i64 n.ga, .int .i64 n.st, .int .i64 n.iv, .int .i64 n.sy] w Y by subst hY; exact K3.out)
    have J0 := Lib.hid (show Ints Y g0 (n.m * 2) by subst hY; exact I0.out)
    have J1 := Lib.hid (show Ints Y g1 n.m by subst hY; exact I1.out)
    have J2 := Lib.hid (show Ints Y g2 n.m by subst hY; exact I2.out)
    clear hY K3 I0 I1 I2 e0 e1 e2 z0 z1 z2 fz a0 a1 a2 a3 a4 a5 a6 a7
    go_wp2_with (first | ((with_reducible refine at_load 25 (.tmp 3) ?_); refine wpList_load_whole rfl (.tmp 3) 25 rfl w.heap.size 0 [.slice (some ⟨g0, 0, none⟩) n.m c0, .slice (some ⟨g1, 0, none⟩) n.m c1, .slice (some ⟨g2, 0, none⟩) n.m c2, .int .i64 n.tu, .int .i64 n.ga, .int .i64 n.st, .int .i64 n.iv, .int .i64 n.sy] rfl hat.out hst.out KY.out.M ?_; simp only [Act.put, List.setIfInBounds_toArray, List.set_cons_succ, List.set_cons_zero]) | ((with_reducible refine at_store 25 (.tmp 6) (.tmp 78) ?_); refine wpList_store_whole rfl (.tmp 6) (.tmp 78) 25 rfl (w.heap.size + 1) 0 [.slice (some ⟨g0, 0, none⟩) n.m c0, .slice (some ⟨g1, 0, none⟩) n.m c1, .slice (some ⟨g2, 0, none⟩) n.m c2, .int .i64 n.tu, .int .i64 n.ga, .int .i64 n.st, .int .i64 n.iv, .int .i64 n.sy] rfl rfl hst.out (fun j hj => KY.out.Z.some j hj) (fun j _ => KY.out.FZ _) (by intro v hv; simp only [List.mem_cons, List.not_mem_nil, or_false] at hv; rcases hv with rfl | rfl | rfl | rfl | rfl | rfl | rfl | rfl <;> rfl) ?_; intro w12 hw12))
    have hL2 := run_loadVar_whole (P := Tryz.prog) (w := w12) 25 (w.heap.size + 1) 0 [.slice (some ⟨g0, 0, none⟩) n.m c0, .slice (some ⟨g1, 0, none⟩) n.m c1, .slice (some ⟨g2, 0, none⟩) n.m c2, .int .i64 n.tu, .int .i64 n.ga, .int .i64 n.st, .int .i64 n.iv, .int .i64 n.sy] hat.out hst.out hw12.here
    have jf : ∀ g k, ¬ g = w.heap.size + 1 → Ints Y g k → Ints w12 g k := fun g k hg h => ⟨fun u hu => by obtain ⟨y, hy⟩ := h.c u hu; exact ⟨y, (hw12.far g u hg).trans hy⟩, fun u => (hw12.frozen _).trans (h.f u)⟩
    obtain ⟨G, hG, hin⟩ := gn_mk (jf _ _ (by omega) J0.out) (jf _ _ (by omega) (J1.out)) (jf _ _ (by omega) J2.out) c0 c1 c2 (n.tu) (n.ga) (n.st) (n.iv) (n.sy)
    refine bodyPost_ret (v := .agg G.vs.toArray) ?_ rfl ⟨G, rfl, hin, hw12.below _ _ (by omega) KY.out.h⟩
    rw [hG]
    exact results_cell 6 25 Tryz.results6 (w.heap.size + 1) 0 _ rfl hL2

end Go.Proofs.YtkencmijghigiaaGreat
