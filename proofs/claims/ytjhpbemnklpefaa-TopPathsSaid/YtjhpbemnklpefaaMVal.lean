/-
  Texts of this claim laid together: TpAt, TpAv, TpAw.
-/
import Derived.WalkMore
import Derived.Deep.LoopGhost
import Derived.Sort.CutIn
import Derived.Test.YtjhpbemnklpefaaMTpAu
namespace Go.Proofs.Ytjhpbemnklpefaa
open Go.RowKit Go.Lib Go.Shelf Plain
attribute [local go_sem] Oper.semAt_some

/-- A hop. -/
def hopV (T : Tp) (p : Nat) : Value := .agg #[.int .i64 (p : Int), .int .i64 (T.fr p : Int), .int .i64 (T.to p : Int)]

set_option maxHeartbeats 4000000 in
set_option maxRecDepth 100000 in
theorem hops_any (g : Tg) (r : Rt) (w : World) : Calls Try.prog 56 #[.agg #[.int .i64 (g.T.n : Int), .slice (some ⟨g.bs, g.os, none⟩) g.T.n g.ks, .slice (some ⟨g.bl, g.ol, none⟩) g.T.ls.length g.kl], .slice (some ⟨r.b, r.o, none⟩) r.xs.length r.k] w fun e w' =>
    e = .returned (.func (.func 77) #[] #[.pointer (some ⟨w.heap.size + 1, 0, none⟩), .pointer (some ⟨w.heap.size, 0, none⟩)]) ∧
    w' = (w.alloc (.cells #[.int .i64 (g.T.n : Int), .slice (some ⟨g.bs, g.os, none⟩) g.T.n g.ks, .slice (some ⟨g.bl, g.ol, none⟩) g.T.ls.length g.kl] 75)).alloc (.cells #[.slice (some ⟨r.b, r.o, none⟩) r.xs.length r.k] 37) := by
  go_enter Try.func56, Try.ntmps56
  go_wp2
  go_ret
  exact ⟨rfl, rfl⟩

theorem port_facts {P L : Nat} (h : P < 2 * L) (hl : L ≤ 24) : ∃ ph LL : Nat, (Int.tdiv (P : Int) 2 = (ph : Int) ∧ (P : Int) / 2 = (ph : Int)) ∧ Sm ph ∧ ph < L ∧ (ph : Int) < (L : Int) ∧ P / 2 = ph ∧ 2 * (L : Int) = (LL : Int) ∧ Sm LL ∧ ¬ (P : Int) < 0 ∧ ¬ (P : Int) ≥ (LL : Int) ∧ (P : Int) < (LL : Int) :=
  ⟨P / 2, 2 * L, ⟨by rw [Int.tdiv_eq_ediv_of_nonneg (by omega)]; omega, by omega⟩, smk (n := 0) (by omega) (by omega), by omega, by omega, rfl, by omega, smk (n := 0) (by omega) (by omega), by omega, by omega, by omega⟩
theorem mod_facts (P : Nat) : (P % 2 = 0 ∧ Int.tmod (P : Int) 2 = 0 ∧ (P : Int) % 2 = 0) ∨ (P % 2 = 1 ∧ Int.tmod (P : Int) 2 = 1 ∧ (P : Int) % 2 = 1) := by
  have e : Int.tmod (P : Int) 2 = (P : Int) % 2 := Int.tmod_eq_emod_of_nonneg (by omega)
  rw [e]
  omega

set_option maxHeartbeats 8000000 in
set_option maxRecDepth 100000 in
theorem hops_seq (g : Tg) (l24 : g.T.ls.length ≤ 24) (r : Rt) (hr : CostOk g.T r.xs) (br bw lo hI : Nat) (we w : World) (hbe : Below we.heap.size we w) (hlo : we.heap.size ≤ lo) (hl2 : lo ≤ w.heap.size) (h1 : hI ≤ br) (h2 : hI ≤ bw)
    (hv : w.cell? ⟨br, 0, none⟩ = some (.slice (some ⟨r.b, r.o, none⟩) r.xs.length r.k)) (hT : TAt g bw w) (hg : g.In we) (hi : r.In we) :
    SeqN (fun i => #[.int .i64 (i : Int), hopV g.T (r.f i)]) r.xs.length 77 #[.pointer (some ⟨br, 0, none⟩), .pointer (some ⟨bw, 0, none⟩)] w lo hI := by
  intro l J W hA hW hY h0
  have HX := Lib.hid (fun W (hW : Kx w.heap.size lo hI w W) => show W.cell? ⟨br, 0, none⟩ = some (.slice (some ⟨r.b, r.o, none⟩) r.xs.length r.k) ∧ TAt g bw W ∧ r.In W from
    have hb : Below we.heap.size we W := hbe.trans (hW.1.mono hlo)
    ⟨hW.cell hv h1 (World.block_lt_of_cell? _ _ hv), ⟨hW.cell hT.c0 h2 (World.block_lt_of_cell? _ _ hT.c0), hW.cell hT.c1 h2 (World.block_lt_of_cell? _ _ hT.c0), hW.cell hT.c2 h2 (World.block_lt_of_cell? _ _ hT.c0), hg.keep hb⟩, hi.keep hb⟩)
  have hv' := (HX.out W hW).1
  have wA := smA
  have HLO := Lib.hid hl2
  have HY := Lib.hid hY
  have HA := Lib.hid hA
  have HC := Lib.hid (And.intro hr l24)
  clear hY hA hT hi hr l24 hg hv h1 h2 hbe hlo
  go_enter Try.func77, Try.ntmps77
  go_wp2
  go_step3
  go_wp2
  go_step3
  go_wp2
  go_loopw [10] (fun p wr => ∃ i : Nat, p = .int .i64 (i : Int) ∧ i ≤ r.xs.length ∧ Hid (J i wr) ∧ Hid (Kx w.heap.size lo hI w wr)) (fun p _ => r.xs.length - (RowKit.intOf p).toNat)
  case atStart => exact ⟨0, rfl, Nat.zero_le _, Lib.hid h0, Lib.hid hW⟩
  case round =>
    obtain ⟨i, rfl, hi, hJ, hB⟩ := hrel
    by_cases hlt : i < r.xs.length
    · have c1 : (i : Int) < (r.xs.length : Int) := lt_int hlt
      have cp := (HX.out wr hB.out).2.2 i hlt
      have hp := HC.out.1.pt i hlt
      change r.f i < 2 * g.T.ls.length at hp
      have HL := Lib.hid hlt
      have hTr := (HX.out wr hB.out).2.1
      obtain ⟨P, hP⟩ : ∃ P, P = r.f i := ⟨_, rfl⟩
      rw [← hP] at cp hp
      have HP := Lib.hid hP
      obtain ⟨ph, LL, ⟨e1, e2⟩, sp, hph, bph, hph2, eL, sL, n1, n2, n3⟩ := port_facts hp HC.out.2
      have t2 := hTr.c2
      have cA := hTr.i.a ph hph
      have cB := hTr.i.b ph hph
      have cC := hTr.i.p ph hph
      have cD := hTr.i.d ph hph
      have HE : Hid (hopV g.T P = .agg #[.int .i64 (P : Int), .int .i64 ((if P % 2 = 0 then (g.T.lk ph).a else (g.T.lk ph).b : Nat) : Int), .int .i64 ((if P % 2 = 0 then (g.T.lk ph).b else (g.T.lk ph).a : Nat) : Int)]) := Lib.hid (by unfold hopV Tp.fr Tp.to; rw [hph2])
      clear hP hp hTr hph hph2 hlt hi
      generalize (g.T.lk ph).a = A at *
      generalize (g.T.lk ph).b = B at *
      generalize (g.T.lk ph).per = C at *
      generalize (g.T.lk ph).dly = D at *
      have w1 := Lib.hid (smC i (smk (n := 0) (Nat.zero_le _) (Nat.lt_of_lt_of_le HL.out (Nat.le_trans HC.out.1.len (by decide)))))
      rcases mod_facts P with ⟨m0, m1, m2⟩ | ⟨m0, m1, m2⟩
      · rw [if_pos m0, if_pos m0] at HE
        clear m0
        go_upto_region 8 with fail
        refine wp_world ?_
        intro V hV
        have hBV : Below wr.heap.size wr V := by subst hV; exact below_alloc (below_alloc (Below.refl _ _) _) _
        have k0 : V.cell? ⟨wr.heap.size + 1, 0, none⟩ = some (.int .i64 (P : Int)) := by subst hV; simp [go_sem]
        have k1 : V.cell? ⟨wr.heap.size + 1, 1, none⟩ = some (.int .i64 (A : Int)) := by subst hV; simp [go_sem]
        have k2 : V.cell? ⟨wr.heap.size + 1, 2, none⟩ = some (.int .i64 (B : Int)) := by subst hV; simp [go_sem]
        obtain ⟨fn, tmps, assign, body, hy, hR⟩ := HY.out 3 i V (HA.out _ _ _ hJ.out hBV) HL.out (hB.out.trans (Kx.of HLO.out (hBV.mono hB.out.1.size)))
        rw [show r.f i = P from HP.out.symm, HE.out] at hy
        have HBV := Lib.hid hBV
        clear hV hBV e1 e2 sp bph eL sL n1 n2 n3 t2 cA cB cC cD cp m1 m2
        refine (wpIn_wide (n := 4)).1 ?_
        gi_wp2
        refine hR.mono ?_
        rintro e W3 ⟨rfl, hJ3, hk3⟩
        have HJ3 := Lib.hid hJ3
        have HK3 := Lib.hid hk3
        clear hJ3 hk3 hR hy k0 k1 k2
        gi_wp2
        go_wp2
        go_roundw
        case rel => exact ⟨i + 1, by first | rw [w1.out] | rfl, HL.out, HJ3, Lib.hid ((hB.out.trans (Kx.of HLO.out (HBV.out.mono hB.out.1.size))).trans HK3.out)⟩
        case measure => (first | (rw [w1.out]; exact measU HL.out) | exact measU HL.out)
      · rw [if_neg (by rw [m0]; decide), if_neg (by rw [m0]; decide)] at HE
        clear m0
        go_upto_region 8 with fail
        refine wp_world ?_
        intro V hV
        have hBV : Below wr.heap.size wr V := by subst hV; exact below_alloc (below_alloc (Below.refl _ _) _) _
        have k0 : V.cell? ⟨wr.heap.size + 1, 0, none⟩ = some (.int .i64 (P : Int)) := by subst hV; simp [go_sem]
        have k1 : V.cell? ⟨wr.heap.size + 1, 1, none⟩ = some (.int .i64 (B : Int)) := by subst hV; simp [go_sem]
        have k2 : V.cell? ⟨wr.heap.size + 1, 2, none⟩ = some (.int .i64 (A : Int)) := by subst hV; simp [go_sem]
        obtain ⟨fn, tmps, assign, body, hy, hR⟩ := HY.out 3 i V (HA.out _ _ _ hJ.out hBV) HL.out (hB.out.trans (Kx.of HLO.out (hBV.mono hB.out.1.size)))
        rw [show r.f i = P from HP.out.symm, HE.out] at hy
        have HBV := Lib.hid hBV
        clear hV hBV e1 e2 sp bph eL sL n1 n2 n3 t2 cA cB cC cD cp m1 m2
        refine (wpIn_wide (n := 4)).1 ?_
        gi_wp2
        refine hR.mono ?_
        rintro e W3 ⟨rfl, hJ3, hk3⟩
        have HJ3 := Lib.hid hJ3
        have HK3 := Lib.hid hk3
        clear hJ3 hk3 hR hy k0 k1 k2
        gi_wp2
        go_wp2
        go_roundw
        case rel => exact ⟨i + 1, by first | rw [w1.out] | rfl, HL.out, HJ3, Lib.hid ((hB.out.trans (Kx.of HLO.out (HBV.out.mono hB.out.1.size))).trans HK3.out)⟩
        case measure => (first | (rw [w1.out]; exact measU HL.out) | exact measU HL.out)
    · have c1 : ¬ (i : Int) < (r.xs.length : Int) := fun h => hlt (Int.ofNat_lt.1 h)
      have hin : i = r.xs.length := Nat.le_antisymm hi (Nat.le_of_not_lt hlt)
      have HJ := Lib.hid (show J r.xs.length wr by rw [← hin]; exact hJ.out)
      clear hlt hi hJ
      go_wp2
      try rw [Exit.noGoto_normal]
      go_end0
      exact ⟨⟨_, rfl⟩, HJ.out⟩

end Go.Proofs.Ytjhpbemnklpefaa

namespace Go.Proofs.Ytjhpbemnklpefaa
open Go.RowKit Go.Lib Go.Shelf Plain
attribute [local go_sem] Oper.semAt_some

/-- The nodes that i ports of a route have seen. -/
def snP (T : Tp) (a : Nat) (xs : List Nat) : Nat → Nat → Bool
  | 0 => fun _ => false
  | i + 1 => upd (if i = 0 then upd (fun _ => false) a true else snP T a xs i) (nx T a xs (i + 1)) true
theorem snP_in {T : Tp} {a : Nat} {xs : List Nat} {k : Nat} : ∀ i, snP T a xs i k = true → ∃ j, j ≤ i ∧ nx T a xs j = k
  | 0, h => by cases h
  | i + 1, h => by
    unfold snP at h
    by_cases e : k = nx T a xs (i + 1)
    · exact ⟨i + 1, Nat.le_refl _, e.symm⟩
    · rw [upd_ne _ _ e] at h
      by_cases e0 : i = 0
      · rw [if_pos e0] at h
        by_cases ea : k = a
        · exact ⟨0, by omega, ea.symm⟩
        · rw [upd_ne _ _ ea] at h
          cases h
      · rw [if_neg e0] at h
        obtain ⟨j, hj, hh⟩ := snP_in i h
        exact ⟨j, by omega, hh⟩

/-- The cells of valid. -/
structure VC (g : Tg) (w : World) (s : Nat → Bool) (t n : Nat) (W : World) : Prop where
  s : ∀ k, k < 12 → W.cell? ⟨w.heap.size + 1, k, none⟩ = some (.bool (s k))
  t : W.cell? ⟨w.heap.size + 1 + 1, 0, none⟩ = some (.int .i64 (t : Int))
  n : W.cell? ⟨w.heap.size + 1 + 1 + 1, 0, none⟩ = some (.int .i64 (n : Int))
  fs : ∀ x, W.frozen? ⟨w.heap.size + 1, x, none⟩ = false
  ft : ∀ x, W.frozen? ⟨w.heap.size + 1 + 1, x, none⟩ = false
  fn : ∀ x, W.frozen? ⟨w.heap.size + 1 + 1 + 1, x, none⟩ = false
  T : TAt g w.heap.size W
  b : Below w.heap.size w W
section
variable {g : Tg} {w : World} {s : Nat → Bool} {t n : Nat} {W W' : World}
theorem VC.abide (hg : g.In w) {B : Nat} (hB : w.heap.size ≤ B) {row : Option Nat} (h : VC g w s t n W) (hgr : W.grownBy W' row) (hr : ∀ k, row = some k → B ≤ k ∧ ∃ o, W.heap[k]? = some o ∧ o.isCells = false) : VC g w s t n W' := by
  have hr2 := fun r e => (hr r e).2
  have hb : Below w.heap.size w W' := h.b.grown hgr h.b.size (fun k e => Nat.le_trans hB (hr k e).1)
  exact ⟨fun k hk => cell_kept (h.s k hk) hgr hr2, cell_kept h.t hgr hr2, cell_kept h.n hgr hr2, fun x => (frozenN (h.s 0 (by omega)) hgr hr2 x).trans (h.fs x), fun x => (frozenN h.t hgr hr2 x).trans (h.ft x), fun x => (frozenN h.n hgr hr2 x).trans (h.fn x),
    ⟨cell_kept h.T.c0 hgr hr2, cell_kept h.T.c1 hgr hr2, cell_kept h.T.c2 hgr hr2, hg.keep hb⟩, hb⟩
theorem VC.far (h : VC g w s t n W) (hg : g.In w) {b o : Nat} {v : Value} (h0 : w.heap.size ≤ b) : Below w.heap.size w (W.setCell ⟨b, o, none⟩ v) ∧ (b ≠ w.heap.size → TAt g w.heap.size (W.setCell ⟨b, o, none⟩ v)) := by
  have hb : Below w.heap.size w (W.setCell ⟨b, o, none⟩ v) := h.b.setCell (p := ⟨b, o, none⟩) h0 _
  exact ⟨hb, fun hne => ⟨by rw [World.cell?_setCell_far _ _ _ _ hne]; exact h.T.c0, by rw [World.cell?_setCell_far _ _ _ _ hne]; exact h.T.c1, by rw [World.cell?_setCell_far _ _ _ _ hne]; exact h.T.c2, hg.keep hb⟩⟩
theorem VC.setS (h : VC g w s t n W) (hg : g.In w) (m : Nat) : VC g w (upd s m true) t n (W.setCell ⟨w.heap.size + 1, m, none⟩ (.bool true)) := by
  obtain ⟨h1, h2⟩ := h.far hg (b := w.heap.size + 1) (o := m) (v := .bool true) (by omega)
  refine ⟨fun k hk => ?_, ?_, ?_, fun x => by rw [World.frozen?_setCell]; exact h.fs x, fun x => by rw [World.frozen?_setCell]; exact h.ft x, fun x => by rw [World.frozen?_setCell]; exact h.fn x, h2 (by omega), h1⟩
  · by_cases e : k = m
    · subst e
      rw [upd_same]
      exact World.cell?_setCell_same _ _ _ (h.s k hk)
    · rw [upd_ne _ _ e, World.cell?_setCell_other (h := by intro x; injection x with _ x _; omega)]
      exact h.s k hk
  · rw [World.cell?_setCell_far _ _ _ _ (show w.heap.size + 1 ≠ w.heap.size + 1 + 1 by omega)]
    exact h.t
  · rw [World.cell?_setCell_far _ _ _ _ (show w.heap.size + 1 ≠ w.heap.size + 1 + 1 + 1 by omega)]
    exact h.n
theorem VC.setT (h : VC g w s t n W) (hg : g.In w) (m : Nat) : VC g w s m n (W.setCell ⟨w.heap.size + 1 + 1, 0, none⟩ (.int .i64 (m : Int))) := by
  obtain ⟨h1, h2⟩ := h.far hg (b := w.heap.size + 1 + 1) (o := 0) (v := .int .i64 (m : Int)) (by omega)
  refine ⟨fun k hk => ?_, World.cell?_setCell_same _ _ _ h.t, ?_, fun x => by rw [World.frozen?_setCell]; exact h.fs x, fun x => by rw [World.frozen?_setCell]; exact h.ft x, fun x => by rw [World.frozen?_setCell]; exact h.fn x, h2 (by omega), h1⟩
  · rw [World.cell?_setCell_far _ _ _ _ (show w.heap.size + 1 + 1 ≠ w.heap.size + 1 by omega)]
    exact h.s k hk
  · rw [World.cell?_setCell_far _ _ _ _ (show w.heap.size + 1 + 1 ≠ w.heap.size + 1 + 1 + 1 by omega)]
    exact h.n
theorem VC.setN (h : VC g w s t n W) (hg : g.In w) (m : Nat) : VC g w s t m (W.setCell ⟨w.heap.size + 1 + 1 + 1, 0, none⟩ (.int .i64 (m : Int))) := by
  obtain ⟨h1, h2⟩ := h.far hg (b := w.heap.size + 1 + 1 + 1) (o := 0) (v := .int .i64 (m : Int)) (by omega)
  refine ⟨fun k hk => ?_, ?_, World.cell?_setCell_same _ _ _ h.n, fun x => by rw [World.frozen?_setCell]; exact h.fs x, fun x => by rw [World.frozen?_setCell]; exact h.ft x, fun x => by rw [World.frozen?_setCell]; exact h.fn x, h2 (by omega), h1⟩
  · rw [World.cell?_setCell_far _ _ _ _ (show w.heap.size + 1 + 1 + 1 ≠ w.heap.size + 1 by omega)]
    exact h.s k hk
  · rw [World.cell?_setCell_far _ _ _ _ (show w.heap.size + 1 + 1 + 1 ≠ w.heap.size + 1 + 1 by omega)]
    exact h.t
end
def VI (g : Tg) (a : Nat) (xs : List Nat) (w : World) (i : Nat) (W : World) : Prop := VC g w (snP g.T a xs i) (if i = 0 then 0 else nx g.T a xs i) i W
/-- The frame and the hop's cells at a round. -/
def VA (g : Tg) (a : Nat) (r : Rt) (w : World) (i : Nat) (a' : Act) (W : World) : Prop := ∃ hb : Nat, w.heap.size + 4 ≤ hb ∧ (W.cell? ⟨hb, 0, none⟩ = some (.int .i64 (r.f i : Int)) ∧ W.cell? ⟨hb, 1, none⟩ = some (.int .i64 (nx g.T a r.xs i : Int)) ∧ W.cell? ⟨hb, 2, none⟩ = some (.int .i64 (nx g.T a r.xs (i + 1) : Int))) ∧
  a' = { tmps := #[.agg #[.int .i64 (g.T.n : Int), .slice (some ⟨g.bs, g.os, none⟩) g.T.n g.ks, .slice (some ⟨g.bl, g.ol, none⟩) g.T.ls.length g.kl], .slice (some ⟨r.b, r.o, none⟩) r.xs.length r.k, .pointer (some ⟨w.heap.size, 0, none⟩), undef, .bool false,
    .pointer (some ⟨w.heap.size + 1, 0, none⟩), .pointer (some ⟨w.heap.size + 1 + 1, 0, none⟩), .pointer (some ⟨w.heap.size + 1 + 1 + 1, 0, none⟩), .int .i64 (i : Int), .pointer (some ⟨hb, 0, none⟩),
    .slice (some ⟨r.b, r.o, none⟩) r.xs.length r.k, .int .i64 (r.xs.length : Int), .bool false, .bool false, .slice (some ⟨r.b, r.o, none⟩) r.xs.length r.k, .int .i64 (r.xs.length : Int), .bool false, .bool false,
    .agg #[.int .i64 (g.T.n : Int), .slice (some ⟨g.bs, g.os, none⟩) g.T.n g.ks, .slice (some ⟨g.bl, g.ol, none⟩) g.T.ls.length g.kl], .slice (some ⟨r.b, r.o, none⟩) r.xs.length r.k,
    .func (.func 77) #[] #[.pointer (some ⟨w.heap.size + 1 + 1 + 1 + 1 + 1, 0, none⟩), .pointer (some ⟨w.heap.size + 1 + 1 + 1 + 1, 0, none⟩)], .int .i64 (i : Int), hopV g.T (r.f i),
    undef, undef, undef, undef, undef, undef, undef, undef, undef, undef, undef, undef, undef, undef, undef, undef, undef, undef, undef, undef, undef, undef, undef, undef, undef, undef, undef, undef, undef, undef, undef, undef], defers := [] }

set_option maxHeartbeats 8000000 in
set_option maxRecDepth 100000 in
theorem valid_any (g : Tg) (hk : OkT g.T) (a b : Nat) (ha : a < g.T.n) (r : Rt) (hp : PW g.T a r.xs b) (hl : 1 ≤ r.xs.length) (w : World) (hg : g.In w) (Hr : r.In w) :
    Calls Try.prog 74 #[.agg #[.int .i64 (g.T.n : Int), .slice (some ⟨g.bs, g.os, none⟩) g.T.n g.ks, .slice (some ⟨g.bl, g.ol, none⟩) g.T.ls.length g.kl], .slice (some ⟨r.b, r.o, none⟩) r.xs.length r.k] w fun e w' => e = .returned (.bool true) ∧ Below w.heap.size w w' := by
  refine (callsIn_wide (n := 4)).1 ?_
  refine callsIn_of_wp_marks Try.func74 rfl trivial ?_ rfl
  simp only [Try.ntmps74, List.size_toArray, List.length_cons, List.length_nil, Nat.reduceAdd, Nat.reduceSub, Array.replicate_succ, Array.replicate_zero, List.push_toArray, List.append_toArray, List.nil_append, List.cons_append]
  have hl1 : ¬ (r.xs.length : Int) < 1 := by omega
  have hl2 : ¬ (r.xs.length : Int) > 8 := by have := hp.le; omega
  gi_wp2_with ((refine ⟨trivial, ?_⟩; gi_at_call 56; refine (callsIn_wide.2 (hops_any g r _)).mono ?_; rintro e w' ⟨rfl, rfl⟩))
  refine wpIn_world' ?_
  intro V hV
  have zV : V.heap.size = w.heap.size + 6 := by subst hV; simp
  have BV : Below w.heap.size w V := by subst hV; exact below_alloc (below_alloc (below_alloc (below_alloc (below_alloc (below_alloc (Below.refl _ _) _) _) _) _) _) _
  have CV : VI g a r.xs w 0 V := by
    subst hV
    refine ⟨fun k hk => ?_, by simp [go_sem], by simp [go_sem], fun x => by simp [go_sem], fun x => by simp [go_sem], fun x => by simp [go_sem], (TAt.new hg 75).keep (below_alloc (below_alloc (below_alloc (below_alloc (below_alloc (Below.refl _ _) _) _) _) _) _), BV⟩
    have h1 := holds_alloc (w.alloc (.cells #[.int .i64 (g.T.n : Int), .slice (some ⟨g.bs, g.os, none⟩) g.T.n g.ks, .slice (some ⟨g.bl, g.ol, none⟩) g.T.ls.length g.kl] 75)) z12 58 (b := w.heap.size + 1) (by simp) k _ (z12_at k hk)
    rw [Nat.zero_add] at h1
    exact below_keep (below_alloc (below_alloc (below_alloc (below_alloc (Below.refl _ _) _) _) _) _) h1
  have hv : V.cell? ⟨w.heap.size + 1 + 1 + 1 + 1 + 1, 0, none⟩ = some (.slice (some ⟨r.b, r.o, none⟩) r.xs.length r.k) := by subst hV; simp [go_sem]
  have hT : TAt g (w.heap.size + 1 + 1 + 1 + 1) V := by
    subst hV
    refine ⟨by simp [go_sem], by simp [go_sem], by simp [go_sem], hg.keep BV⟩
  clear hV
  have HI := Lib.hid (And.intro hg (And.intro hk (And.intro hp ha)))
  have hBz := BV.size
  refine wpIn_rangeN (N := r.xs.length) (by omega) (gf := 77) (lb := #[.pointer (some ⟨w.heap.size + 1 + 1 + 1 + 1 + 1, 0, none⟩), .pointer (some ⟨w.heap.size + 1 + 1 + 1 + 1, 0, none⟩)]) rfl (enters_of Try.func77 (by kernel_rfl) rfl)
    (hops_seq g hk.l24 r hp.costOk _ _ w.heap.size (w.heap.size + 4) w V BV (Nat.le_refl _) BV.size (by omega) (by omega) hv hT hg Hr) BV.size (Below.refl _ _) (fun _ => rfl) (VI g a r.xs w) (fun i W W' row h hgr hr => VC.abide hg hBz h hgr hr) CV (VA g a r w)
    (fun a' i W W' row ⟨hb, h0, ⟨h1, h2, h3⟩, h4⟩ hgr hr => ⟨hb, h0, ⟨cell_kept h1 hgr (fun r e => (hr r e).2), cell_kept h2 hgr (fun r e => (hr r e).2), cell_kept h3 hgr (fun r e => (hr r e).2)⟩, h4⟩) ?assign ?body ?done
  case assign =>
    intro l m i W K hi hBW hzW hK
    have e1 : g.T.fr (r.f i) = nx g.T a r.xs i := (hp.pt i hi).2
    have e2 : g.T.to (r.f i) = nx g.T a r.xs (i + 1) := rfl
    have hx : hopV g.T (r.f i) = .agg #[.int .i64 (r.f i : Int), .int .i64 (nx g.T a r.xs i : Int), .int .i64 (nx g.T a r.xs (i + 1) : Int)] := by unfold hopV; rw [e1, e2]
    have HK := Lib.hid hK
    have HV := Lib.hid (fun W' a' (hW' : W' = W.alloc (.cells #[.int .i64 (r.f i : Int), .int .i64 (nx g.T a r.xs i : Int), .int .i64 (nx g.T a r.xs (i + 1) : Int)] 104)) h4 => HK.out a' W' (by subst hW'; exact below_alloc (Below.refl _ _) _) ⟨W.heap.size, by omega, ⟨by subst hW'; simp [go_sem], by subst hW'; simp [go_sem], by subst hW'; simp [go_sem]⟩, h4⟩)
    rw [hx]
    clear hK HK
    gi_wp2
    exact HV.out _ _ rfl (by rw [← hx])
  case body =>
    rintro l m i a' W hVI ⟨hb, hb4, ⟨k0, k1, k2⟩, rfl⟩ hi hBW hzW
    obtain ⟨hg, hk, hp, ha⟩ := HI.out
    have lhb := World.block_lt_of_cell? _ _ k0
    change hb < _ at lhb
    have hNf : nx g.T a r.xs i < g.T.n := by
      have := (hp.pt i hi).2
      rw [← this]
      exact (fr_lt hk (hp.pt i hi).1).1
    have hMf : nx g.T a r.xs (i + 1) < g.T.n := (fr_lt hk (hp.pt i hi).1).2.1
    have n12 := hk.n12
    have b12 : (nx g.T a r.xs (i + 1) : Int) < 12 := by omega
    have a12 : (nx g.T a r.xs i : Int) < 12 := by omega
    have bN : (nx g.T a r.xs i : Int) < (g.T.n : Int) := by omega
    have hns : ∀ s : Nat → Bool, (∀ k, s k = true → ∃ j, j ≤ i ∧ nx g.T a r.xs j = k) → s (nx g.T a r.xs (i + 1)) = false := fun s hs => by
      cases e : s (nx g.T a r.xs (i + 1)) with
      | false => rfl
      | true =>
        obtain ⟨j, hj, h⟩ := hs _ e
        have := hp.inj j (i + 1) (by omega) (by omega) h
        omega
    have w1 := smC i (smk (n := 0) (Nat.zero_le _) (Nat.lt_of_lt_of_le hi (Nat.le_trans hp.le (by decide))))
    by_cases hi0 : i = 0
    · subst hi0
      have V0 := hVI
      have hA : nx g.T a r.xs 0 = a := rfl
      rw [hA] at k1 a12 hNf bN
      have hMs := hns (upd (fun _ => false) a true) (fun k h => ⟨0, Nat.le_refl _, by
        by_cases e : k = a
        · exact e.symm
        · rw [upd_ne _ _ e] at h; cases h⟩)
      have HN : Hid (snP g.T a r.xs 1 = upd (upd (fun _ => false) a true) (nx g.T a r.xs 1) true) := Lib.hid rfl
      have HNX : Hid (∀ W, VC g w (upd (upd (fun _ => false) a true) (nx g.T a r.xs 1) true) (nx g.T a r.xs 1) 1 W → VI g a r.xs w 1 W) := Lib.hid fun W h => h
      clear hVI hNf bN hA hns
      obtain ⟨M, hM⟩ : ∃ M, M = nx g.T a r.xs (0 + 1) := ⟨_, rfl⟩
      rw [← hM] at k2 hMf b12 hMs HNX
      clear hM HN
      have M12 : M < 12 := by omega
      have A12 : a < 12 := by omega
      have ca := V0.s a A12
      have fa := V0.fs a
      have V1 := V0.setS hg a
      have V2 := V1.setS hg M
      have V3 := V2.setT hg M
      have V4 := Lib.hid (V3.setN hg 1)
      have q1 : w.heap.size + 1 ≠ hb := by omega
      have q2 : w.heap.size + 1 + 1 ≠ hb := by omega
      have k02 := (World.cell?_setCell_far W ⟨w.heap.size + 1, a, none⟩ ⟨hb, 2, none⟩ (.bool true) q1).trans k2
      have cM : (W.setCell ⟨w.heap.size + 1, a, none⟩ (.bool true)).cell? ⟨w.heap.size + 1, M, none⟩ = some (.bool false) := by rw [V1.s M M12]; exact congrArg _ (congrArg _ hMs)
      have fM := V1.fs M
      have k03 := (World.cell?_setCell_far (W.setCell ⟨w.heap.size + 1, a, none⟩ (.bool true)) ⟨w.heap.size + 1, M, none⟩ ⟨hb, 2, none⟩ (.bool true) q1).trans k02
      have ct := V2.t
      have ft := V2.ft 0
      have cn := V3.n
      have fn := V3.fn 0
      have HKO := Lib.hid (((KeepsOthers.setCell W ⟨w.heap.size + 1, a, none⟩ (.bool true)).trans (KeepsOthers.setCell _ ⟨w.heap.size + 1, M, none⟩ (.bool true))).trans ((KeepsOthers.setCell _ ⟨w.heap.size + 1 + 1, 0, none⟩ (.int .i64 (M : Int))).trans (KeepsOthers.setCell _ ⟨w.heap.size + 1 + 1 + 1, 0, none⟩ (.int .i64 ((1 : Nat) : Int)))))
      clear V0 V1 V2 V3 hMs
      have HKX := Lib.hid (((kxSet (B := V.heap.size) (lo := w.heap.size) (hi := w.heap.size + 4) (W := W) (b := w.heap.size + 1) (o := a) (v := .bool true) (by omega) (by omega)).trans (kxSet (b := w.heap.size + 1) (o := M) (v := .bool true) (by omega) (by omega))).trans ((kxSet (b := w.heap.size + 1 + 1) (o := 0) (v := .int .i64 (M : Int)) (by omega) (by omega)).trans (kxSet (b := w.heap.size + 1 + 1 + 1) (o := 0) (v := .int .i64 ((1 : Nat) : Int)) (by omega) (by omega))))
      gi_wp2
      exact ⟨HKO.out, HKX.out, HNX.out _ V4.out⟩
    · have V0 := hVI
      unfold VI at V0
      rw [if_neg hi0] at V0
      have hMs := hns (snP g.T a r.xs i) (fun k h => snP_in i h)
      have HNX : Hid (∀ I1, I1 = i + 1 → ∀ W, VC g w (upd (snP g.T a r.xs i) (nx g.T a r.xs (i + 1)) true) (nx g.T a r.xs (i + 1)) I1 W → VI g a r.xs w (i + 1) W) := Lib.hid fun I1 e W h => by
        subst e
        unfold VI
        rw [if_neg (Nat.succ_ne_zero i)]
        rw [show snP g.T a r.xs (i + 1) = upd (if i = 0 then upd (fun _ => false) a true else snP g.T a r.xs i) (nx g.T a r.xs (i + 1)) true from rfl, if_neg hi0]
        exact h
      have cst := V0.T.i.s _ hNf
      rw [show g.T.st (nx g.T a r.xs i) = false from hp.inn i (Nat.pos_of_ne_zero hi0) hi] at cst
      have i1 : ¬ (i : Int) = 0 := fun h => hi0 (Int.ofNat.inj h)
      have i2 : ((i : Int) == 0) = false := beq_eq_false_iff_ne.2 i1
      clear hVI hns
      generalize snP g.T a r.xs i = s at *
      obtain ⟨M, hM⟩ : ∃ M, M = nx g.T a r.xs (i + 1) := ⟨_, rfl⟩
      rw [← hM] at k2 hMf b12 hMs HNX
      obtain ⟨N, hN⟩ : ∃ N, N = nx g.T a r.xs i := ⟨_, rfl⟩
      rw [← hN] at k1 hNf a12 bN cst V0
      clear hM hN
      have M12 : M < 12 := by omega
      have ct0 := V0.t
      have c01 := V0.T.c1
      have cM : W.cell? ⟨w.heap.size + 1, M, none⟩ = some (.bool false) := by rw [V0.s M M12]; exact congrArg _ (congrArg _ hMs)
      have fM := V0.fs M
      have V2 := V0.setS hg M
      have V3 := V2.setT hg M
      have V4 := Lib.hid (V3.setN hg (i + 1))
      have q1 : w.heap.size + 1 ≠ hb := by omega
      have k03 := (World.cell?_setCell_far W ⟨w.heap.size + 1, M, none⟩ ⟨hb, 2, none⟩ (.bool true) q1).trans k2
      have ct := V2.t
      have ft := V2.ft 0
      have cn := V3.n
      have fn := V3.fn 0
      have HKO := Lib.hid ((KeepsOthers.setCell W ⟨w.heap.size + 1, M, none⟩ (.bool true)).trans ((KeepsOthers.setCell _ ⟨w.heap.size + 1 + 1, 0, none⟩ (.int .i64 (M : Int))).trans (KeepsOthers.setCell _ ⟨w.heap.size + 1 + 1 + 1, 0, none⟩ (.int .i64 ((i + 1 : Nat) : Int)))))
      have HKX := Lib.hid ((kxSet (B := V.heap.size) (lo := w.heap.size) (hi := w.heap.size + 4) (W := W) (b := w.heap.size + 1) (o := M) (v := .bool true) (by omega) (by omega)).trans ((kxSet (b := w.heap.size + 1 + 1) (o := 0) (v := .int .i64 (M : Int)) (by omega) (by omega)).trans (kxSet (b := w.heap.size + 1 + 1 + 1) (o := 0) (v := .int .i64 ((i + 1 : Nat) : Int)) (by omega) (by omega))))
      clear V0 V2 V3 hMs hMf hNf M12 hi hi0
      obtain ⟨I1, hI1⟩ : ∃ I1, I1 = i + 1 := ⟨_, rfl⟩
      rw [← hI1] at V4 HKO HKX w1
      have HI1 := Lib.hid hI1
      clear hI1
      gi_wp2
      exact ⟨HKO.out, HKX.out, HNX.out I1 HI1.out _ V4.out⟩
  case done =>
    rintro D W hD hVI hK
    have lN := hVI.n
    have lz := World.block_lt_of_cell? _ _ hVI.n
    have HB := Lib.hid hVI.b
    gi_wp2
    refine ⟨by simp, .inl ⟨_, _, rfl, run_takeDeferred hK, ?_⟩⟩
    exact ⟨_, results_tmp rfl _ _ _, by simp, HB.out.trans (belowK_b (w := w) (Nat.le_refl _) W D _ _ (by omega) hK rfl rfl)⟩

end Go.Proofs.Ytjhpbemnklpefaa

namespace Go.Proofs.Ytjhpbemnklpefaa
open Go.RowKit Go.Lib Go.Shelf Plain
attribute [local go_sem] Oper.semAt_some

/-- The nodes of a right route, in a row of ints. -/
def NdQ (g : Tg) (a : Nat) (xs : List Nat) (w : World) (e : Ending) (w' : World) : Prop :=
  ∃ q cap : Nat, e = .returned (.slice (some ⟨q, 0, none⟩) (xs.length + 1) cap) ∧ xs.length + 1 ≤ cap ∧ (∀ i, i ≤ xs.length → w'.cell? ⟨q, i, none⟩ = some (.int .i64 (nx g.T a xs i : Int))) ∧ Below w.heap.size w w'

def cntN1 (i : Nat) : Nat := if i = 0 then 0 else i + 1
def rowN (T : Tp) (a : Nat) (xs : List Nat) (n : Nat) : List Value := (List.range n).map fun j => .int .i64 (nx T a xs j : Int)
theorem rowN_succ (T : Tp) (a : Nat) (xs : List Nat) (n : Nat) : rowN T a xs (n + 1) = rowN T a xs n ++ [.int .i64 (nx T a xs n : Int)] := by
  unfold rowN
  rw [List.range_succ, List.map_append]
  rfl
/-- The variable and its row. -/
structure NB (w : World) (xs : List Value) (v : Value) (W : World) : Prop where
  x : W.heap[w.heap.size + 1 + 1]? = some (.cells #[v] 36 (0, 0))
  r : W.ownsRow w.heap.size 3 1 v xs.length xs
  b : Below w.heap.size w W
theorem NB.abide {w : World} {xs : List Value} {v : Value} {W W' : World} {B : Nat} (hB : w.heap.size ≤ B) {row : Option Nat} (h : NB w xs v W) (hgr : W.grownBy W' row) (hr : ∀ k, row = some k → B ≤ k ∧ ∃ o, W.heap[k]? = some o ∧ o.isCells = false) : NB w xs v W' := by
  refine ⟨(hgr.block _ (Array.getElem?_eq_some_iff.1 h.x).1 (fun e => ?_)).trans h.x, h.r.kept hgr ?_, h.b.grown hgr h.b.size (fun k e => Nat.le_trans hB (hr k e).1)⟩
  · obtain ⟨_, o, ho, hc⟩ := hr _ e.symm
    rw [h.x] at ho
    cases ho
    cases hc
  · cases hrw : row with
    | none => exact own_none
    | some k =>
      obtain ⟨_, o, ho, hc⟩ := hr k hrw
      exact ownsRow_ne_a h.r ho (fun cur e => by subst e; cases hc)
/-- One more node. -/
theorem NB.push {w : World} {xs : List Value} {v v' x : Value} {W w3 : World} {c3 c4 : Array Value} {hb : Nat} {ch : Array Value} (h : NB w xs v W) (h3 : W.heap[w.heap.size + 1 + 1 + 1]? = some (.cells c3 75 (0, 0))) (h4 : W.heap[w.heap.size + 1 + 1 + 1 + 1]? = some (.cells c4 37 (0, 0))) (hh : W.heap[hb]? = some (.cells ch 104 (0, 0)))
    (hown : w3.ownsRow w.heap.size 3 1 v' (xs.length + 1) (xs ++ [x])) (hg : (W.alloc (.cells #[x] 3)).grownBy w3 v.ownBlock) :
    NB w (xs ++ [x]) v' (w3.setCell ⟨w.heap.size + 1 + 1, 0, none⟩ v') ∧ KeepsOthers W (w3.setCell ⟨w.heap.size + 1 + 1, 0, none⟩ v') ∧ Kx (w.heap.size + 5) w.heap.size (w.heap.size + 3) W (w3.setCell ⟨w.heap.size + 1 + 1, 0, none⟩ v') ∧ (w3.setCell ⟨w.heap.size + 1 + 1, 0, none⟩ v').heap[hb]? = some (.cells ch 104 (0, 0)) := by
  have hal := h.r.alloc (.cells #[x] 3)
  have lt : ∀ {k : Nat} {o : Obj}, W.heap[k]? = some o → k < W.heap.size := fun hk => (Array.getElem?_eq_some_iff.1 hk).1
  have alc : ∀ {k : Nat} {o : Obj}, W.heap[k]? = some o → (W.alloc (.cells #[x] 3)).heap[k]? = some o := fun hk => (Below.heap_alloc _ _ _ (lt hk)).trans hk
  have ne : ∀ {k : Nat} {c : Array Value} {t : TypeId}, W.heap[k]? = some (.cells c t (0, 0)) → t ≠ 3 → some k ≠ v.ownBlock := fun hk ht e => by
    rcases ownsRow_ne_a hal (alc hk) (fun cur e => by cases e; exact ht rfl) with e2 | e2
    · rw [e2] at e; cases e
    · exact e2 e.symm
  have kp : ∀ {k : Nat} {c : Array Value} {t : TypeId}, W.heap[k]? = some (.cells c t (0, 0)) → t ≠ 3 → w3.heap[k]? = some (.cells c t (0, 0)) := fun hk ht => (hg.block _ (by have := lt hk; simp; omega) (ne hk ht)).trans (alc hk)
  have hty : ∀ (k : Nat) (o : Obj), v.ownBlock = some k → (W.alloc (.cells #[x] 3)).heap[k]? = some o → ∃ c, o = .cells c 3 (0, 0) := fun k o e ho => by
    rcases hal.2 with ⟨e2, _⟩ | ⟨q, cap, cur, e2, _, hq, _⟩
    · rw [e2] at e; cases e
    · rw [e2] at e
      cases e
      rw [hq] at ho
      cases ho
      exact ⟨cur, rfl⟩
  have hz := h.b.size
  have b1 : Below w.heap.size W (W.alloc (.cells #[x] 3)) := (Below.refl _ _).alloc hz _
  have b3 : Below w.heap.size W w3 := b1.grown hg (Nat.le_trans hz b1.size) (fun k e => (h.r.lt k e).1)
  have b4 : Below w.heap.size W (w3.setCell ⟨w.heap.size + 1 + 1, 0, none⟩ v') := b3.setCell (p := ⟨w.heap.size + 1 + 1, 0, none⟩) (by show w.heap.size ≤ w.heap.size + 1 + 1; omega) _
  have hx3 := kp h.x (by decide)
  have far : ∀ k, k ≠ w.heap.size + 1 + 1 → (w3.setCell ⟨w.heap.size + 1 + 1, 0, none⟩ v').heap[k]? = w3.heap[k]? := fun k hk => Below.heap_setCell w3 ⟨w.heap.size + 1 + 1, 0, none⟩ v' k hk
  have hhne : hb ≠ w.heap.size + 1 + 1 := fun e => by
    rw [e, h.x] at hh
    cases hh
  refine ⟨⟨heap_setCell_box_a _ hx3, ?_, h.b.trans b4⟩, ((KeepsOthers.alloc _ _).trans (KeepsOthers.of_grownBy hg (fun j o e ho => by obtain ⟨c, rfl⟩ := hty j o e ho; rfl))).trans (KeepsOthers.setCell _ _ _), ⟨b4, fun k h1 h2 => ?_⟩, (far _ hhne).trans (kp hh (by decide))⟩
  · have h5 := hown.kept (grownBy_set w3 (w.heap.size + 1 + 1) 0 v') (ownsRow_ne_a hown hx3 (fun cur e => by cases e))
    simpa using h5
  · rw [far k (show k ≠ w.heap.size + 1 + 1 by omega)]
    rcases (show k = w.heap.size + 1 + 1 + 1 ∨ k = w.heap.size + 1 + 1 + 1 + 1 by omega) with rfl | rfl
    · rw [kp h3 (by decide), h3]
    · rw [kp h4 (by decide), h4]
theorem NB.mid {w : World} {xs : List Value} {v x : Value} {W w3 : World} (h : NB w xs v W) (hg : (W.alloc (.cells #[x] 3)).grownBy w3 v.ownBlock) : w3.heap[w.heap.size + 1 + 1]? = some (.cells #[v] 36 (0, 0)) := by
  have hal := h.r.alloc (.cells #[x] 3)
  have hx := (Below.heap_alloc W (.cells #[x] 3) _ (Array.getElem?_eq_some_iff.1 h.x).1).trans h.x
  have hne : some (w.heap.size + 1 + 1) ≠ v.ownBlock := fun e => by
    rcases ownsRow_ne_a hal hx (fun cur e => by cases e) with e2 | e2
    · rw [e2] at e; cases e
    · exact e2 e.symm
  exact (hg.block _ (Array.getElem?_eq_some_iff.1 hx).1 hne).trans hx
def NI (g : Tg) (a : Nat) (xs : List Nat) (w : World) (i : Nat) (W : World) : Prop := ∃ v, NB w (rowN g.T a xs (cntN1 i)) v W
/-- The frame and the hop's cells at a round. -/
def NA (g : Tg) (a : Nat) (r : Rt) (w : World) (i : Nat) (a' : Act) (W : World) : Prop := ∃ hb : Nat, W.heap[hb]? = some (.cells #[.int .i64 (r.f i : Int), .int .i64 (nx g.T a r.xs i : Int), .int .i64 (nx g.T a r.xs (i + 1) : Int)] 104 (0, 0)) ∧
  a' = { tmps := #[.agg #[.int .i64 (g.T.n : Int), .slice (some ⟨g.bs, g.os, none⟩) g.T.n g.ks, .slice (some ⟨g.bl, g.ol, none⟩) g.T.ls.length g.kl], .slice (some ⟨r.b, r.o, none⟩) r.xs.length r.k, .pointer (some ⟨w.heap.size, 0, none⟩), undef, .slice none 0 0,
    .pointer (some ⟨w.heap.size + 1 + 1, 0, none⟩), .int .i64 (i : Int), .pointer (some ⟨hb, 0, none⟩), .slice (some ⟨r.b, r.o, none⟩) r.xs.length r.k, .int .i64 (r.xs.length : Int), .int .i64 ((r.xs.length : Int) + 1), .slice (some ⟨w.heap.size + 1, 0, none⟩) 0 (r.xs.length + 1),
    .agg #[.int .i64 (g.T.n : Int), .slice (some ⟨g.bs, g.os, none⟩) g.T.n g.ks, .slice (some ⟨g.bl, g.ol, none⟩) g.T.ls.length g.kl], .slice (some ⟨r.b, r.o, none⟩) r.xs.length r.k,
    .func (.func 77) #[] #[.pointer (some ⟨w.heap.size + 1 + 1 + 1 + 1, 0, none⟩), .pointer (some ⟨w.heap.size + 1 + 1 + 1, 0, none⟩)], .int .i64 (i : Int), hopV g.T (r.f i),
    undef, undef, undef, undef, undef, undef, undef, undef, undef, undef, undef, undef, undef], defers := [] }

set_option maxRecDepth 100000 in
theorem wpListIn_makeT {F : Fence} {k : Nat} {w : World} {ops : Array Oper} {rest : List Oper} {o : Oper} {a : Act} {Q : Exit → Act → World → Prop} (hg : o.guard = none) (l c : Operand) (hop : o.op = Op.makeSlice 36 l c) (kl kc : IntKind) (C : Int) (m : Nat) (hl : a.eval l = .int kl 0) (hc : a.eval c = .int kc C) (hC : C = (m : Int)) (hm : m ≤ 100)
    (hK : ∀ w', w' = w.alloc (.cells (madeCells (Value.int .i64 0).cells m) 3) → w'.ownsRow w.heap.size 3 1 (.slice (some ⟨w.heap.size, 0, none⟩) 0 m) 0 [] → wpListIn F k Try.prog ops Q rest (a.put o.dst (.slice (some ⟨w.heap.size, 0, none⟩) 0 m)) w') :
    wpListIn F k Try.prog ops Q (o :: rest) a w := by
  obtain ⟨i0, hi0, hz0, hz1, hz2⟩ := info_parts info3
  refine wpListIn_plain hg fun K hK' => ?_
  have hr := run_make (P := Try.prog) w 36 3 i0 _ Try.underlying36 hi0 hz0 kl kc 0 m (Int.le_refl _) (by omega) (by rw [hz2]; omega) (by omega)
  simp only [Int.toNat_zero, Int.toNat_natCast, hz1, Nat.mul_one] at hr
  subst hC
  unfold Oper.wpIn
  refine ⟨?_, ?_⟩
  · simp [Oper.about, hop]
  · rw [Oper.semAt_plain F _ _ (by rw [hop]; intro c hc'; cases hc')]
    have hO := World.ownsRow_made (e := 3) (size := 1) w (madeCells (Value.int .i64 0).cells m) m (Nat.le_refl _) (by unfold maxLen; omega) (by rw [size_madeCells, Nat.mul_one])
    have hF := hK' _ _ (hK _ rfl hO)
    simp only [execOp, hop, hl, hc, Sem.run_bind, hr, Result.andThen]
    exact hF

set_option maxHeartbeats 8000000 in
set_option maxRecDepth 100000 in
theorem nodes_any (g : Tg) (a b : Nat) (l24 : g.T.ls.length ≤ 24) (r : Rt) (hp : PW g.T a r.xs b) (hl : 1 ≤ r.xs.length) (w : World) (hg : g.In w) (Hr : r.In w) :
    Calls Try.prog 25 #[.agg #[.int .i64 (g.T.n : Int), .slice (some ⟨g.bs, g.os, none⟩) g.T.n g.ks, .slice (some ⟨g.bl, g.ol, none⟩) g.T.ls.length g.kl], .slice (some ⟨r.b, r.o, none⟩) r.xs.length r.k] w (NdQ g a r.xs w) := by
  refine (callsIn_wide (n := 4)).1 ?_
  refine callsIn_of_wp_marks Try.func25 rfl trivial ?_ rfl
  simp only [Try.ntmps25, List.size_toArray, List.length_cons, List.length_nil, Nat.reduceAdd, Nat.reduceSub, Array.replicate_succ, Array.replicate_zero, List.push_toArray, List.append_toArray, List.nil_append, List.cons_append]
  have h8 := hp.le
  obtain ⟨i0, hi0, hz0, hz1, hz2⟩ := info_parts info3
  have e1 : wrap64 ((r.xs.length : Int) + 1) = ((r.xs.length + 1 : Nat) : Int) := smC _ (smk (n := 0) (by omega) (by omega))
  gi_wp2_with (gi_at_make; refine wpListIn_makeT rfl _ _ rfl _ _ _ (r.xs.length + 1) rfl rfl (Int.natCast_add r.xs.length 1).symm (by omega) ?_; intro w3 hw3 hown; have hz3 : w3.heap.size = w.heap.size + 1 + 1 := by subst hw3; simp)
  refine ⟨trivial, ?_⟩
  refine (callsIn_wide.2 (hops_any g r _)).mono ?_
  rintro e w' ⟨rfl, rfl⟩
  gi_wp2
  have hR := ownsRow_le15 (base' := w.heap.size) hown (by simp)
  simp only [World.size_alloc] at hR
  clear hown
  subst hw3
  refine wpIn_world' ?_
  intro V hV
  have zV : V.heap.size = w.heap.size + 5 := by subst hV; simp
  have BV : Below w.heap.size w V := by subst hV; exact below_alloc (below_alloc (below_alloc (below_alloc (below_alloc (Below.refl _ _) _) _) _) _) _
  have hRb : V.ownsRow w.heap.size 3 1 (.slice (some ⟨w.heap.size + 1, 0, none⟩) 0 (r.xs.length + 1)) 0 [] := by
    simp only [Value.cells] at hR
    subst hV
    exact ((hR.alloc _).alloc _).alloc _
  have hbx : V.heap[w.heap.size + 1 + 1]? = some (.cells #[.slice (some ⟨w.heap.size + 1, 0, none⟩) 0 (r.xs.length + 1)] 36 (0, 0)) := by
    subst hV
    rw [Below.heap_alloc _ _ _ (by simp), Below.heap_alloc _ _ _ (by simp)]
    have := World.alloc_heap_new ((w.alloc (.cells #[.int .i64 (g.T.n : Int), .slice (some ⟨g.bs, g.os, none⟩) g.T.n g.ks, .slice (some ⟨g.bl, g.ol, none⟩) g.T.ls.length g.kl] 75)).alloc (.cells (madeCells #[.int .i64 0] (r.xs.length + 1)) 3)) (.cells #[.slice (some ⟨w.heap.size + 1, 0, none⟩) 0 (r.xs.length + 1)] 36)
    simpa using this
  have hb3 : V.heap[w.heap.size + 1 + 1 + 1]? = some (.cells #[.int .i64 (g.T.n : Int), .slice (some ⟨g.bs, g.os, none⟩) g.T.n g.ks, .slice (some ⟨g.bl, g.ol, none⟩) g.T.ls.length g.kl] 75 (0, 0)) := by
    subst hV
    rw [Below.heap_alloc _ _ _ (by simp)]
    have := World.alloc_heap_new (((w.alloc (.cells #[.int .i64 (g.T.n : Int), .slice (some ⟨g.bs, g.os, none⟩) g.T.n g.ks, .slice (some ⟨g.bl, g.ol, none⟩) g.T.ls.length g.kl] 75)).alloc (.cells (madeCells #[.int .i64 0] (r.xs.length + 1)) 3)).alloc (.cells #[.slice (some ⟨w.heap.size + 1, 0, none⟩) 0 (r.xs.length + 1)] 36)) (.cells #[.int .i64 (g.T.n : Int), .slice (some ⟨g.bs, g.os, none⟩) g.T.n g.ks, .slice (some ⟨g.bl, g.ol, none⟩) g.T.ls.length g.kl] 75)
    simpa using this
  have hb4 : V.heap[w.heap.size + 1 + 1 + 1 + 1]? = some (.cells #[.slice (some ⟨r.b, r.o, none⟩) r.xs.length r.k] 37 (0, 0)) := by
    subst hV
    have := World.alloc_heap_new ((((w.alloc (.cells #[.int .i64 (g.T.n : Int), .slice (some ⟨g.bs, g.os, none⟩) g.T.n g.ks, .slice (some ⟨g.bl, g.ol, none⟩) g.T.ls.length g.kl] 75)).alloc (.cells (madeCells #[.int .i64 0] (r.xs.length + 1)) 3)).alloc (.cells #[.slice (some ⟨w.heap.size + 1, 0, none⟩) 0 (r.xs.length + 1)] 36)).alloc (.cells #[.int .i64 (g.T.n : Int), .slice (some ⟨g.bs, g.os, none⟩) g.T.n g.ks, .slice (some ⟨g.bl, g.ol, none⟩) g.T.ls.length g.kl] 75)) (.cells #[.slice (some ⟨r.b, r.o, none⟩) r.xs.length r.k] 37)
    simpa using this
  clear hV hR hz3
  have hv : V.cell? ⟨w.heap.size + 1 + 1 + 1 + 1, 0, none⟩ = some (.slice (some ⟨r.b, r.o, none⟩) r.xs.length r.k) := by simp [World.cell?, hb4]
  have hT : TAt g (w.heap.size + 1 + 1 + 1) V := ⟨by simp [World.cell?, hb3], by simp [World.cell?, hb3], by simp [World.cell?, hb3], hg.keep BV⟩
  have CV : NI g a r.xs w 0 V := ⟨_, hbx, hRb, BV⟩
  have HP := Lib.hid hp
  have hBz := BV.size
  refine wpIn_rangeN (N := r.xs.length) (by omega) (gf := 77) (lb := #[.pointer (some ⟨w.heap.size + 1 + 1 + 1 + 1, 0, none⟩), .pointer (some ⟨w.heap.size + 1 + 1 + 1, 0, none⟩)]) rfl (enters_of Try.func77 (by kernel_rfl) rfl)
    (hops_seq g l24 r hp.costOk _ _ w.heap.size (w.heap.size + 3) w V BV (Nat.le_refl _) BV.size (by omega) (by omega) hv hT hg Hr) BV.size (Below.refl _ _) (fun _ => rfl) (NI g a r.xs w) (fun i W W' row ⟨v, h⟩ hgr hr => ⟨v, h.abide hBz hgr hr⟩) CV (NA g a r w)
    (fun a' i W W' row ⟨hb, h0, h4⟩ hgr hr => ⟨hb, (hgr.block hb (Array.getElem?_eq_some_iff.1 h0).1 (fun e => by
      obtain ⟨_, o, ho, hc⟩ := hr hb e.symm
      rw [h0] at ho
      cases ho
      cases hc)).trans h0, h4⟩) ?assign ?body ?done
  case assign =>
    intro l m i W K hi hBW hzW hK
    have e1 : g.T.fr (r.f i) = nx g.T a r.xs i := (hp.pt i hi).2
    have e2 : g.T.to (r.f i) = nx g.T a r.xs (i + 1) := rfl
    have hx : hopV g.T (r.f i) = .agg #[.int .i64 (r.f i : Int), .int .i64 (nx g.T a r.xs i : Int), .int .i64 (nx g.T a r.xs (i + 1) : Int)] := by unfold hopV; rw [e1, e2]
    have HK := Lib.hid hK
    have HV := Lib.hid (fun W' a' (hW' : W' = W.alloc (.cells #[.int .i64 (r.f i : Int), .int .i64 (nx g.T a r.xs i : Int), .int .i64 (nx g.T a r.xs (i + 1) : Int)] 104)) h4 => HK.out a' W' (by subst hW'; exact below_alloc (Below.refl _ _) _) ⟨W.heap.size, by subst hW'; exact World.alloc_heap_new _ _, h4⟩)
    rw [hx]
    clear hK HK
    gi_wp2
    exact HV.out _ _ rfl (by rw [← hx])
  case body =>
    rintro l m i a' W ⟨v, hNB⟩ ⟨hb, hh, rfl⟩ hi hBW hzW
    have h3 := (hBW.2 (w.heap.size + 1 + 1 + 1) (by omega) (by omega)).trans hb3
    have h4 := (hBW.2 (w.heap.size + 1 + 1 + 1 + 1) (by omega) (by omega)).trans hb4
    have lW := hNB.b.size
    by_cases hi0 : i = 0
    · subst hi0
      have HRS : Hid (rowN g.T a r.xs (cntN1 (0 + 1)) = [] ++ [.int .i64 (nx g.T a r.xs 0 : Int)] ++ [.int .i64 (nx g.T a r.xs (0 + 1) : Int)]) := Lib.hid rfl
      have hxs : rowN g.T a r.xs (cntN1 0) = [] := rfl
      rw [hxs] at hNB
      obtain ⟨c2, f2⟩ := cell_of_box_a hNB.x
      have k1 : W.cell? ⟨hb, 1, none⟩ = some (.int .i64 (nx g.T a r.xs 0 : Int)) := by simp [World.cell?, hh]
      have HNB := Lib.hid hNB
      have HH := Lib.hid (And.intro h3 (And.intro h4 hh))
      have lhb := (Array.getElem?_eq_some_iff.1 hh).1
      clear hNB h3 h4 hh hi hxs
      generalize nx g.T a r.xs (0 + 1) = M at *
      generalize nx g.T a r.xs 0 = N at *
      gi_upto_region 7 with (gi_at_builtin; refine wpListIn_append_own _ rfl _ _ 36 rfl w.heap.size 3 i0 (.int .i64 0) 1 8 Try.underlying36 hi0 hz0 hz1 hz2 rfl (by decide) _ _ _ rfl (HNB.out.r.alloc _) ⟨W.heap.size, 0, none⟩ 1 1 [.int .i64 (N : Int)] rfl rfl (cell_one_new _ _ _) (one_one15 _) (by unfold maxLen; simp) (by simp) (by simp; omega) ?_; intro v' w3 hown' hg3 hnil3; obtain ⟨gq, gc, rfl⟩ := own_form15 hown' (by omega); obtain ⟨hc3, hf3⟩ := cell_of_box_a (HNB.out.mid hg3); have hown2 := Lib.hid hown'; have hg2 := Lib.hid hg3; clear hnil3 hown' hg3)
      obtain ⟨p1, p2, p3, p4⟩ := HNB.out.push HH.out.1 HH.out.2.1 HH.out.2.2 hown2.out hg2.out
      have q3 := (p3.2 (w.heap.size + 1 + 1 + 1) (by omega) (by omega)).trans HH.out.1
      have q4 := (p3.2 (w.heap.size + 1 + 1 + 1 + 1) (by omega) (by omega)).trans HH.out.2.1
      have HP1 := Lib.hid p1
      have HP2 := Lib.hid (And.intro p2 p3)
      have HP3 := Lib.hid (And.intro q3 (And.intro q4 p4))
      clear p1 p2 p3 p4 q3 q4 c2 f2 k1 hc3 hf3 hown2 hg2 HNB HH lhb lW
      generalize w3.setCell ⟨w.heap.size + 1 + 1, 0, none⟩ (.slice (some ⟨gq, 0, none⟩) (([] : List Value).length + 1) gc) = W4 at *
      obtain ⟨c5, f5⟩ := cell_of_box_a HP1.out.x
      have k5 : W4.cell? ⟨hb, 2, none⟩ = some (.int .i64 (M : Int)) := by simp [World.cell?, HP3.out.2.2]
      have lhb4 := (Array.getElem?_eq_some_iff.1 HP3.out.2.2).1
      have lW4 := HP1.out.b.size
      gi_wp2_with (gi_at_builtin; refine wpListIn_append_own _ rfl _ _ 36 rfl w.heap.size 3 i0 (.int .i64 0) 1 8 Try.underlying36 hi0 hz0 hz1 hz2 rfl (by decide) _ _ _ rfl (HP1.out.r.alloc _) ⟨W4.heap.size, 0, none⟩ 1 1 [.int .i64 (M : Int)] rfl rfl (cell_one_new _ _ _) (one_one15 _) (by unfold maxLen; simp) (by simp) (by simp; omega) ?_; intro v' w6 hown' hg3 hnil3; obtain ⟨gqb, gcb, rfl⟩ := own_form15 hown' (by omega); obtain ⟨hc3b, hf3b⟩ := cell_of_box_a (HP1.out.mid hg3); have hown2b := Lib.hid hown'; have hg2b := Lib.hid hg3; clear hnil3 hown' hg3)
      obtain ⟨p1, p2, p3, p4⟩ := HP1.out.push HP3.out.1 HP3.out.2.1 HP3.out.2.2 hown2b.out hg2b.out
      exact ⟨HP2.out.1.trans p2, by rw [zV]; exact HP2.out.2.trans p3, _, by rw [HRS.out]; exact p1⟩
    · have i1 : ¬ (i : Int) = 0 := fun h => hi0 (Int.ofNat.inj h)
      have i2 : ((i : Int) == 0) = false := beq_eq_false_iff_ne.2 i1
      have hcn : cntN1 i = i + 1 := if_neg hi0
      rw [hcn] at hNB
      have HRS : Hid (rowN g.T a r.xs (cntN1 (i + 1)) = rowN g.T a r.xs (i + 1) ++ [.int .i64 (nx g.T a r.xs (i + 1) : Int)]) := Lib.hid (by rw [show cntN1 (i + 1) = i + 1 + 1 from if_neg (Nat.succ_ne_zero i), rowN_succ])
      have hxl : (rowN g.T a r.xs (i + 1)).length ≤ 20 := by simp [rowN]; omega
      generalize rowN g.T a r.xs (i + 1) = xs at *
      obtain ⟨c2, f2⟩ := cell_of_box_a hNB.x
      have k2 : W.cell? ⟨hb, 2, none⟩ = some (.int .i64 (nx g.T a r.xs (i + 1) : Int)) := by simp [World.cell?, hh]
      have HNB := Lib.hid hNB
      have HH := Lib.hid (And.intro h3 (And.intro h4 hh))
      have lhb := (Array.getElem?_eq_some_iff.1 hh).1
      clear hNB h3 h4 hh hi0 hcn hi
      generalize nx g.T a r.xs (i + 1) = M at *
      gi_wp2_with (gi_at_builtin; refine wpListIn_append_own _ rfl _ _ 36 rfl w.heap.size 3 i0 (.int .i64 0) 1 8 Try.underlying36 hi0 hz0 hz1 hz2 rfl (by decide) _ _ _ rfl (HNB.out.r.alloc _) ⟨W.heap.size, 0, none⟩ 1 1 [.int .i64 (M : Int)] rfl rfl (cell_one_new _ _ _) (one_one15 _) (by unfold maxLen; omega) (by omega) (by simp; omega) ?_; intro v' w3 hown' hg3 hnil3; obtain ⟨gq, gc, rfl⟩ := own_form15 hown' (by omega); obtain ⟨hc3, hf3⟩ := cell_of_box_a (HNB.out.mid hg3); have hown2 := Lib.hid hown'; have hg2 := Lib.hid hg3; clear hnil3 hown' hg3)
      obtain ⟨p1, p2, p3, p4⟩ := HNB.out.push HH.out.1 HH.out.2.1 HH.out.2.2 hown2.out hg2.out
      exact ⟨p2, by rw [zV]; exact p3, _, by rw [HRS.out]; exact p1⟩
  case done =>
    rintro D W hD ⟨v, hNB⟩ hK
    have hcn : cntN1 r.xs.length = r.xs.length + 1 := if_neg (by omega)
    rw [hcn] at hNB
    have hlen : (rowN g.T a r.xs (r.xs.length + 1)).length = r.xs.length + 1 := by simp [rowN]
    obtain ⟨q, cap, rfl⟩ := own_form15 hNB.r (by omega)
    have hNB2 := hNB.abide hBz (grownBy_putObj' W D (.deferred none)) (fun k e => by cases e; exact ⟨hD, _, hK, rfl⟩)
    obtain ⟨c2, f2⟩ := cell_of_box_a hNB.x
    have HN2 := Lib.hid hNB2
    rw [hlen] at c2
    clear hNB hNB2
    gi_wp2
    refine ⟨by simp, .inl ⟨_, _, rfl, run_takeDeferred hK, ?_⟩⟩
    refine ⟨_, results_tmp rfl _ _ _, q, cap, rfl, ?_, fun i hi => ?_, HN2.out.b⟩
    · rcases HN2.out.r.2 with ⟨e, _⟩ | ⟨_, _, _, e, _, _, e2, _⟩
      · cases e
      · cases e
        omega
    · have h5 := HN2.out.r.cellAt i (by rw [hlen]; omega)
      rw [h5]
      simp [rowN, show i < r.xs.length + 1 by omega]

end Go.Proofs.Ytjhpbemnklpefaa
