/-
  Texts of this claim laid together: TpAx, TpAy, TpAz.
-/
import Derived.Test.YtjhpbemnklpefaaMVal
namespace Go.Proofs.Ytjhpbemnklpefaa
open Go.RowKit Go.Lib Plain

/-- A right route between two nodes, in memory. -/
structure RR (g : Tg) (a b : Nat) (r : Rt) (w : World) : Prop where
  ok : OkT g.T
  an : a < g.T.n
  pw : PW g.T a r.xs b
  ln : 1 ≤ r.xs.length
  gi : g.In w
  ri : r.In w
theorem RR.keep {g : Tg} {a b : Nat} {r : Rt} {w W : World} (h : RR g a b r w) (hb : Below w.heap.size w W) : RR g a b r W := ⟨h.ok, h.an, h.pw, h.ln, h.gi.keep hb, h.ri.keep hb⟩

set_option maxHeartbeats 4000000 in
set_option maxRecDepth 100000 in
theorem rCheck_any (g : Tg) (a b : Nat) (r : Rt) (w : World) (h : RR g a b r w) :
    Calls Try.prog 55 #[.agg #[.int .i64 (g.T.n : Int), .slice (some ⟨g.bs, g.os, none⟩) g.T.n g.ks, .slice (some ⟨g.bl, g.ol, none⟩) g.T.ls.length g.kl], .slice (some ⟨r.b, r.o, none⟩) r.xs.length r.k] w fun e w' => e = .returned (.int .i64 0) ∧ Below w.heap.size w w' := by
  have HC := Lib.hid (fun W (hW : Below w.heap.size w W) => check_any g h.ok W (h.gi.keep hW))
  have HV := Lib.hid (fun W (hW : Below w.heap.size w W) => valid_any g h.ok a b h.an r h.pw h.ln W (h.gi.keep hW) (h.ri.keep hW))
  have hg := Lib.hid h.gi
  clear h
  go_enter Try.func55, Try.ntmps55
  go_upto_region 1 with fail
  refine wp_world ?_
  intro V hV
  have BV := Lib.hid (show Below w.heap.size w V by subst hV; exact below_alloc (Below.refl _ _) _)
  have TV := Lib.hid (show TAt g w.heap.size V by subst hV; exact TAt.new hg.out 29)
  clear hV
  have c0 := TV.out.c0; have c1 := TV.out.c1; have c2 := TV.out.c2
  go_wp2_with fail
  refine (HC.out V BV.out).mono ?_
  rintro e w1 ⟨rfl, hb1⟩
  have T1 := TV.out.keep hb1
  have B1 := Lib.hid (below_step BV.out hb1)
  clear hb1 c0 c1 c2 TV BV HC
  have c0 := T1.c0; have c1 := T1.c1; have c2 := T1.c2
  clear T1
  go_wp2_with fail
  refine (HV.out w1 B1.out).mono ?_
  rintro e w2 ⟨rfl, hb2⟩
  have B2 := Lib.hid (below_step B1.out hb2)
  clear hb2 c0 c1 c2 HV B1
  go_wp2
  go_ret
  exact ⟨rfl, B2.out⟩

/-- The nodes of a right route, and no error. -/
def NdT (g : Tg) (a : Nat) (xs : List Nat) (w : World) (e : Ending) (w' : World) : Prop :=
  ∃ q cap : Nat, e = .returned (.tuple #[.slice (some ⟨q, 0, none⟩) (xs.length + 1) cap, .int .i64 0]) ∧ xs.length + 1 ≤ cap ∧ (∀ i, i ≤ xs.length → w'.cell? ⟨q, i, none⟩ = some (.int .i64 (nx g.T a xs i : Int))) ∧ Below w.heap.size w w'

set_option maxHeartbeats 4000000 in
set_option maxRecDepth 100000 in
theorem nodes1_any (g : Tg) (a b : Nat) (r : Rt) (br : Nat) (w : World) (h : RR g a b r w) (hb : w.cell? ⟨br, 0, none⟩ = some (.slice (some ⟨r.b, r.o, none⟩) r.xs.length r.k)) :
    Calls Try.prog 24 #[.agg #[.int .i64 (g.T.n : Int), .slice (some ⟨g.bs, g.os, none⟩) g.T.n g.ks, .slice (some ⟨g.bl, g.ol, none⟩) g.T.ls.length g.kl], .pointer (some ⟨br, 0, none⟩)] w (NdT g a r.xs w) := by
  have HN := Lib.hid (fun W (hW : Below w.heap.size w W) => nodes_any g a b h.ok.l24 r h.pw h.ln W (h.gi.keep hW) (h.ri.keep hW))
  have hg := Lib.hid h.gi
  clear h
  go_enter Try.func24, Try.ntmps24
  go_upto_region 1 with fail
  refine wp_world ?_
  intro V hV
  have BV := Lib.hid (show Below w.heap.size w V by subst hV; exact below_alloc (Below.refl _ _) _)
  have TV := Lib.hid (show TAt g w.heap.size V by subst hV; exact TAt.new hg.out 75)
  clear hV
  have c0 := TV.out.c0; have c1 := TV.out.c1; have c2 := TV.out.c2
  have c3 := below_keep BV.out hb
  go_wp2_with fail
  refine (HN.out V BV.out).mono ?_
  rintro e w1 ⟨q, cap, rfl, h1, h2, h3⟩
  have HP := Lib.hid (show NdT g a r.xs w (.returned (.tuple #[.slice (some ⟨q, 0, none⟩) (r.xs.length + 1) cap, .int .i64 0])) w1 from ⟨q, cap, rfl, h1, h2, below_step BV.out h3⟩)
  clear h1 h2 h3 c0 c1 c2 c3 TV BV HN
  go_wp2
  go_ret2
  exact HP.out

set_option maxHeartbeats 4000000 in
set_option maxRecDepth 100000 in
theorem askN_any (g : Tg) (a b : Nat) (r : Rt) (br : Nat) (w : World) (h : RR g a b r w) (hb : w.cell? ⟨br, 0, none⟩ = some (.slice (some ⟨r.b, r.o, none⟩) r.xs.length r.k)) :
    Calls Try.prog 23 #[.agg #[.int .i64 (g.T.n : Int), .slice (some ⟨g.bs, g.os, none⟩) g.T.n g.ks, .slice (some ⟨g.bl, g.ol, none⟩) g.T.ls.length g.kl], .slice (some ⟨r.b, r.o, none⟩) r.xs.length r.k, .func (.func 24) #[] #[.pointer (some ⟨br, 0, none⟩)]] w (NdT g a r.xs w) := by
  have HC := Lib.hid (fun W (hW : Below w.heap.size w W) => rCheck_any g a b r W (h.keep hW))
  have HN := Lib.hid (fun W (hW : Below w.heap.size w W) => nodes1_any g a b r br W (h.keep hW) (below_keep hW hb))
  have hg := Lib.hid h.gi
  clear h hb
  go_enter Try.func23, Try.ntmps23
  go_upto_region 1 with fail
  refine wp_world ?_
  intro V hV
  have BV := Lib.hid (show Below w.heap.size w V by subst hV; exact below_alloc (Below.refl _ _) _)
  have TV := Lib.hid (show TAt g w.heap.size V by subst hV; exact TAt.new hg.out 29)
  clear hV
  have c0 := TV.out.c0; have c1 := TV.out.c1; have c2 := TV.out.c2
  go_wp2_with fail
  refine (HC.out V BV.out).mono ?_
  rintro e w1 ⟨rfl, hb1⟩
  have T1 := TV.out.keep hb1
  have B1 := Lib.hid (below_step BV.out hb1)
  clear hb1 c0 c1 c2 TV BV HC
  have c0 := T1.c0; have c1 := T1.c1; have c2 := T1.c2
  clear T1
  go_wp2_with fail
  refine (HN.out w1 B1.out).mono ?_
  rintro e w2 ⟨q, cap, rfl, h1, h2, h3⟩
  have HP := Lib.hid (show NdT g a r.xs w (.returned (.tuple #[.slice (some ⟨q, 0, none⟩) (r.xs.length + 1) cap, .int .i64 0])) w2 from ⟨q, cap, rfl, h1, h2, below_step B1.out h3⟩)
  clear h1 h2 h3 c0 c1 c2 HN B1
  go_wp2
  go_ret2
  exact HP.out

set_option maxHeartbeats 4000000 in
set_option maxRecDepth 100000 in
theorem rNodes_any (g : Tg) (a b : Nat) (r : Rt) (w : World) (h : RR g a b r w) :
    Calls Try.prog 9 #[.agg #[.int .i64 (g.T.n : Int), .slice (some ⟨g.bs, g.os, none⟩) g.T.n g.ks, .slice (some ⟨g.bl, g.ol, none⟩) g.T.ls.length g.kl], .slice (some ⟨r.b, r.o, none⟩) r.xs.length r.k] w (NdT g a r.xs w) := by
  have HN := Lib.hid (fun br W (hW : Below w.heap.size w W) hb => askN_any g a b r br W (h.keep hW) hb)
  have hg := Lib.hid h.gi
  clear h
  go_enter Try.func9, Try.ntmps9
  go_upto_region 1 with fail
  refine wp_world ?_
  intro V hV
  have BV := Lib.hid (show Below w.heap.size w V by subst hV; exact below_alloc (below_alloc (Below.refl _ _) _) _)
  have TV := Lib.hid (show TAt g w.heap.size V by subst hV; exact (TAt.new hg.out 29).keep (below_alloc (Below.refl _ _) _))
  have c3 : V.cell? ⟨w.heap.size + 1, 0, none⟩ = some (.slice (some ⟨r.b, r.o, none⟩) r.xs.length r.k) := by subst hV; simp [go_sem]
  have HC3 := Lib.hid c3
  clear hV
  have c0 := TV.out.c0; have c1 := TV.out.c1; have c2 := TV.out.c2
  go_wp2_with fail
  refine (HN.out _ V BV.out HC3.out).mono ?_
  rintro e w1 ⟨q, cap, rfl, h1, h2, h3⟩
  have HP := Lib.hid (show NdT g a r.xs w (.returned (.tuple #[.slice (some ⟨q, 0, none⟩) (r.xs.length + 1) cap, .int .i64 0])) w1 from ⟨q, cap, rfl, h1, h2, below_step BV.out h3⟩)
  clear h1 h2 h3 c0 c1 c2 c3 TV BV HN
  go_wp2
  go_ret2
  exact HP.out

set_option maxHeartbeats 4000000 in
set_option maxRecDepth 100000 in
theorem ends_any (g : Tg) (a b : Nat) (r : Rt) (w : World) (h : RR g a b r w) :
    Calls Try.prog 71 #[.agg #[.int .i64 (g.T.n : Int), .slice (some ⟨g.bs, g.os, none⟩) g.T.n g.ks, .slice (some ⟨g.bl, g.ol, none⟩) g.T.ls.length g.kl], .slice (some ⟨r.b, r.o, none⟩) r.xs.length r.k] w fun e w' => e = .returned (.tuple #[.int .i64 (a : Int), .int .i64 (b : Int), .int .i64 0]) ∧ Below w.heap.size w w' := by
  have HN := Lib.hid (fun W (hW : Below w.heap.size w W) => rNodes_any g a b r W (h.keep hW))
  have hg := Lib.hid h.gi
  have hp := Lib.hid h.pw
  clear h
  go_enter Try.func71, Try.ntmps71
  go_upto_region 1 with fail
  refine wp_world ?_
  intro V hV
  have BV := Lib.hid (show Below w.heap.size w V by subst hV; exact below_alloc (Below.refl _ _) _)
  have TV := Lib.hid (show TAt g w.heap.size V by subst hV; exact TAt.new hg.out 29)
  clear hV
  have c0 := TV.out.c0; have c1 := TV.out.c1; have c2 := TV.out.c2
  go_wp2_with fail
  refine (HN.out V BV.out).mono ?_
  rintro e w1 ⟨q, cap, rfl, h1, h2, h3⟩
  have B1 := Lib.hid (below_step BV.out h3)
  have c3 := h2 0 (Nat.zero_le _)
  have c4 := h2 r.xs.length (Nat.le_refl _)
  rw [hp.out.lst] at c4
  change w1.cell? ⟨q, 0, none⟩ = some (.int .i64 (a : Int)) at c3
  clear h1 h2 h3 c0 c1 c2 TV BV HN
  go_upto_region 4 with fail
  have e1 : ((r.xs.length + 1 : Nat) : Int) - 1 = (r.xs.length : Int) := by omega
  have b1 : (r.xs.length : Int) < ((r.xs.length + 1 : Nat) : Int) := by omega
  have w1' := smk (n := 0) (x := r.xs.length) (by omega) (by have := hp.out.le; omega)
  have wA := smA
  have b0 : (0 : Int) < ((r.xs.length + 1 : Nat) : Int) := by omega
  have r0 := fun p : Regrown => cell_regrown c3 p.d p.os
  have r1 := fun p : Regrown => cell_regrown c4 p.d p.os
  generalize r.xs.length = L at *
  obtain ⟨L1, hL1⟩ : ∃ L1, L1 = L + 1 := ⟨_, rfl⟩
  rw [← hL1] at e1 b1 b0 ⊢
  clear hL1
  refine wp_region_quiet_below (by kernel_rfl) (by kernel_rfl) ?_
  repeat (go_big_quiet_step (fail))
  refine wpQuiet_nil ?_
  rintro W6 ⟨pr, hpr⟩
  have B6 : Below w1.heap.size w1 W6 := by rw [hpr]; exact below_regrown w1 pr.d pr.os
  have B7 := Lib.hid (below_step B1.out B6)
  clear hpr r0 r1 c3 c4 B6
  go_wp2
  refine bodyPost_ret (results_tmp3 rfl _ _ _) rfl ?_
  exact ⟨rfl, B7.out⟩

end Go.Proofs.Ytjhpbemnklpefaa

namespace Go.Proofs.Ytjhpbemnklpefaa
open Go.RowKit Go.Lib Plain

set_option maxHeartbeats 16000000 in
set_option maxRecDepth 100000 in
theorem shares_any (g : Tg) (hk : OkT g.T) (r s : Rt) (hr : CostOk g.T r.xs) (hs : CostOk g.T s.xs) (ha : AP g.T r.xs s.xs) (w : World) (Hr : r.In w) (Hs : s.In w) :
    Calls Try.prog 75 #[.slice (some ⟨r.b, r.o, none⟩) r.xs.length r.k, .slice (some ⟨s.b, s.o, none⟩) s.xs.length s.k] w fun e w' => e = .returned (.bool false) ∧ w' = w := by
  have HRr := Lib.hid Hr
  have HRs := Lib.hid Hs
  have HK := Lib.hid (And.intro hk (And.intro hr (And.intro hs ha)))
  have wA := smA
  clear hk hr hs ha Hr Hs
  go_enter Try.func75, Try.ntmps75
  go_wp2
  go_loopw [11] (fun p wr => ∃ i : Nat, p = .int .i64 (i : Int) ∧ i ≤ r.xs.length ∧ wr = w) (fun p _ => r.xs.length - (RowKit.intOf p).toNat)
  case atStart => exact ⟨0, rfl, Nat.zero_le _, rfl⟩
  case round =>
    obtain ⟨i, rfl, hi, hwr⟩ := hrel
    subst hwr
    by_cases hlt : i < r.xs.length
    · have c1 : (i : Int) < (r.xs.length : Int) := lt_int hlt
      have k0 := HRr.out i hlt
      have HI := Lib.hid hlt
      have hp := HK.out.2.1.pt i hlt
      change r.f i < g.T.pn at hp
      obtain ⟨P, hP⟩ : ∃ P, P = r.f i := ⟨_, rfl⟩
      rw [← hP] at k0 hp
      have HP := Lib.hid hP
      obtain ⟨ph, e1, e2, sp, bP, hP48, hph⟩ := half48 hp HK.out.1.l24
      have HP2 := Lib.hid (And.intro hP48 hph)
      clear hlt hi hp hP hP48 hph
      go_wp2
      go_loopw [17] (fun p wx => ∃ j : Nat, p = .int .i64 (j : Int) ∧ j ≤ s.xs.length ∧ wx = wr) (fun p _ => s.xs.length - (RowKit.intOf p).toNat)
      case atStart => exact ⟨0, rfl, Nat.zero_le _, rfl⟩
      case round =>
        clear k0
        obtain ⟨j, rfl, hj, hwx⟩ := hrel
        subst hwx
        by_cases hjl : j < s.xs.length
        · have c2 : (j : Int) < (s.xs.length : Int) := lt_int hjl
          have k0 := HRs.out j hjl
          have HJ := Lib.hid hjl
          have hq := HK.out.2.2.1.pt j hjl
          change s.f j < g.T.pn at hq
          have hne : ph ≠ s.f j / 2 := by rw [← HP2.out.2, HP.out]; exact (HK.out.2.2.2 i j HI.out hjl).1
          obtain ⟨Q, hQ⟩ : ∃ Q, Q = s.f j := ⟨_, rfl⟩
          rw [← hQ] at k0 hq hne
          obtain ⟨qh, e3, e4, sq, bQ, hQ48, hqh⟩ := half48 hq HK.out.1.l24
          rw [hqh] at hne
          have hn1 : ¬ (ph : Int) = (qh : Int) := fun h => hne (Int.ofNat.inj h)
          have hn2 := eq_ff hne
          have w1 := Lib.hid (smC j (smk (n := 0) (Nat.zero_le _) (Nat.lt_of_lt_of_le HJ.out (Nat.le_trans HK.out.2.2.1.len (by decide)))))
          clear hjl hj hq hQ hQ48 hqh hne
          go_wp2
          go_roundw
          case rel => exact ⟨j + 1, by first | rw [w1.out] | rfl, HJ.out, by first | rfl | trivial⟩
          case measure => (first | (rw [w1.out]; exact measU HJ.out) | exact measU HJ.out)
        · have c2 : ¬ (j : Int) < (s.xs.length : Int) := fun h => hjl (Int.ofNat_lt.1 h)
          have w1 := Lib.hid (smC i (smk (n := 0) (Nat.zero_le _) (Nat.lt_of_lt_of_le HI.out (Nat.le_trans HK.out.2.1.len (by decide)))))
          clear hj hjl
          go_wp2
          go_roundw
          case rel => exact ⟨i + 1, by first | rw [w1.out] | rfl, HI.out, by first | rfl | trivial⟩
          case measure => (first | (rw [w1.out]; exact measU HI.out) | exact measU HI.out)
    · have c1 : ¬ (i : Int) < (r.xs.length : Int) := fun h => hlt (Int.ofNat_lt.1 h)
      clear hi hlt
      go_wp2
      go_ret
      exact ⟨rfl, rfl⟩

set_option maxHeartbeats 16000000 in
set_option maxRecDepth 100000 in
theorem meets_any (g : Tg) (a b : Nat) (r s : Rt) (w : World) (hr : RR g a b r w) (hs : RR g a b s w) (ha : AP g.T r.xs s.xs) :
    Calls Try.prog 76 #[.agg #[.int .i64 (g.T.n : Int), .slice (some ⟨g.bs, g.os, none⟩) g.T.n g.ks, .slice (some ⟨g.bl, g.ol, none⟩) g.T.ls.length g.kl], .slice (some ⟨r.b, r.o, none⟩) r.xs.length r.k, .slice (some ⟨s.b, s.o, none⟩) s.xs.length s.k] w fun e w' => e = .returned (.bool false) ∧ Below w.heap.size w w' := by
  have HN := Lib.hid (fun W (hW : Below w.heap.size w W) => nodes_any g a b hr.ok.l24 r hr.pw hr.ln W (hr.gi.keep hW) (hr.ri.keep hW))
  have HM := Lib.hid (fun W (hW : Below w.heap.size w W) => nodes_any g a b hs.ok.l24 s hs.pw hs.ln W (hs.gi.keep hW) (hs.ri.keep hW))
  have hg := Lib.hid hr.gi
  have HA := Lib.hid (fun i j (h0 : 0 < i) (hi : i < r.xs.length) (hj : j ≤ s.xs.length) => ha.meets hr.pw hs.pw h0 hi hj)
  have h8r := hr.pw.le
  have h8s := hs.pw.le
  have h1r := hr.ln
  clear hr hs ha
  have wA := smA
  go_enter Try.func76, Try.ntmps76
  go_upto_region 1 with fail
  refine wp_world ?_
  intro V hV
  have BV := Lib.hid (show Below w.heap.size w V by subst hV; exact below_alloc (Below.refl _ _) _)
  have TV := Lib.hid (show TAt g w.heap.size V by subst hV; exact TAt.new hg.out 75)
  clear hV
  have c0 := TV.out.c0; have c1 := TV.out.c1; have c2 := TV.out.c2
  go_upto_region 2 with (go_at_call 25; refine (HN.out V BV.out).mono ?_; rintro e w1 ⟨q, cap, rfl, h1, h2, h3⟩)
  have T1 := TV.out.keep h3
  have B1 := Lib.hid (below_step BV.out h3)
  have HQ := Lib.hid h2
  clear h3 c0 c1 c2 TV BV HN h2
  have c0 := T1.c0; have c1 := T1.c1; have c2 := T1.c2
  clear T1
  obtain ⟨m, hm⟩ : ∃ m, r.xs.length = m + 1 := ⟨r.xs.length - 1, by omega⟩
  rw [hm] at h1 HQ HA h8r ⊢
  have e1 : ((m + 1 + 1 : Nat) : Int) - 1 = ((m + 1 : Nat) : Int) := by omega
  have s1 : Sm (m + 1) := smk (n := 0) (by omega) (by omega)
  go_upto_region 4 with (go_at_call 25; refine (HM.out w1 B1.out).mono ?_; rintro e w2 ⟨q2, cap2, rfl, g1, g2, g3⟩)
  have HQ2 := Lib.hid (fun i hi => below_keep (below_step (Below.refl _ _) g3) (HQ.out i hi))
  have HG2 := Lib.hid g2
  have B2 := Lib.hid (below_step B1.out g3)
  clear g2 g3 HM HQ B1 c0 c1 c2 hg e1
  have d1 : (1 : Int) ≤ (m : Int) + 1 := by omega
  have d2 : (m : Int) + 1 ≤ (cap : Int) := by omega
  have d3 : ((m : Int) + 1 - 1).toNat = m := by omega
  have d4 : ((m : Int) + 1).toNat = m + 1 := by omega
  clear h1
  have hs9 : s.xs.length + 1 ≤ 100 := by omega
  by_cases hm0 : m = 0
  · subst hm0
    have d6 : (1 : Int) ≤ (cap : Int) := by omega
    clear d1 d2 d3 d4 s1
    go_upto_region 5 with fail
    go_loopw [26] (fun p wr => ∃ i : Nat, p = .int .i64 (i : Int) ∧ i ≤ 0 ∧ wr = w2) (fun p _ => 0 - (RowKit.intOf p).toNat)
    case atStart => exact ⟨0, rfl, Nat.le_refl _, rfl⟩
    case round =>
      obtain ⟨i, rfl, hi, hwr⟩ := hrel
      subst hwr
      have c1 : ¬ (i : Int) < 0 := by omega
      clear hi
      go_wp2
      go_ret
      exact ⟨rfl, B2.out⟩
  · have d5 := eq_ff hm0
    have h16 : m < 16 := by omega
    clear h8r
    go_upto_region 5 with fail
    go_loopw [26] (fun p wr => ∃ i : Nat, p = .int .i64 (i : Int) ∧ i ≤ m ∧ wr = w2) (fun p _ => m - (RowKit.intOf p).toNat)
    case atStart => exact ⟨0, rfl, Nat.zero_le _, rfl⟩
    case round =>
      obtain ⟨i, rfl, hi, hwr⟩ := hrel
      subst hwr
      by_cases hlt : i < m
      · have c1 : (i : Int) < (m : Int) := lt_int hlt
        have k0 := HQ2.out (i + 1) (by omega)
        rw [Nat.add_comm] at k0
        have HX := Lib.hid (fun j (hj : j < s.xs.length + 1) => Ne.symm (HA.out (i + 1) j (by omega) (by omega) (by omega)))
        have HC := Lib.hid (fun k => containsI_any q2 0 (s.xs.length + 1) k hs9 (fun j => nx g.T a s.xs j) (nx g.T a r.xs (1 + i)) wr (fun j hj => by rw [Nat.zero_add]; exact HG2.out j (by omega)) (fun j hj => by rw [Nat.add_comm]; exact HX.out j hj))
        have HI := Lib.hid hlt
        have w1 := Lib.hid (smC i (smk (n := 0) (Nat.zero_le _) (Nat.lt_trans hlt (Nat.lt_of_lt_of_le h16 (by decide)))))
        clear hi hlt hs9 HX
        generalize nx g.T a r.xs (1 + i) = X at *
        go_wp2_with (go_at_call 91; refine (HC.out _).mono ?_; rintro e W' ⟨rfl, rfl⟩)
        go_roundw
        case rel => exact ⟨i + 1, by first | rw [w1.out] | rfl, HI.out, by first | rfl | trivial⟩
        case measure => (first | (rw [w1.out]; exact measU HI.out) | exact measU HI.out)
      · have c1 : ¬ (i : Int) < (m : Int) := fun h => hlt (Int.ofNat_lt.1 h)
        clear hi hlt
        go_wp2
        go_ret
        exact ⟨rfl, B2.out⟩

end Go.Proofs.Ytjhpbemnklpefaa

namespace Go.Proofs.Ytjhpbemnklpefaa
open Go.RowKit Go.Lib Plain

/-- What Apart answers. -/
def ApT (w : World) (e : Ending) (w' : World) : Prop := e = .returned (.tuple #[.bool true, .int .i64 0]) ∧ Below w.heap.size w w'

set_option maxHeartbeats 4000000 in
set_option maxRecDepth 100000 in
theorem apart1_any (g : Tg) (a b : Nat) (r s : Rt) (br bs : Nat) (w : World) (hr : RR g a b r w) (hs : RR g a b s w) (ha : AP g.T r.xs s.xs)
    (cr : w.cell? ⟨br, 0, none⟩ = some (.slice (some ⟨r.b, r.o, none⟩) r.xs.length r.k)) (cs : w.cell? ⟨bs, 0, none⟩ = some (.slice (some ⟨s.b, s.o, none⟩) s.xs.length s.k)) :
    Calls Try.prog 73 #[.agg #[.int .i64 (g.T.n : Int), .slice (some ⟨g.bs, g.os, none⟩) g.T.n g.ks, .slice (some ⟨g.bl, g.ol, none⟩) g.T.ls.length g.kl], .pointer (some ⟨bs, 0, none⟩), .pointer (some ⟨br, 0, none⟩)] w (ApT w) := by
  have HV := Lib.hid (fun W (hW : Below w.heap.size w W) => valid_any g hs.ok a b hs.an s hs.pw hs.ln W (hs.gi.keep hW) (hs.ri.keep hW))
  have HS := Lib.hid (fun W (hW : Below w.heap.size w W) => shares_any g hr.ok r s hr.pw.costOk hs.pw.costOk ha W (hr.ri.keep hW) (hs.ri.keep hW))
  have HM := Lib.hid (fun W (hW : Below w.heap.size w W) => meets_any g a b r s W (hr.keep hW) (hs.keep hW) ha)
  have HN := Lib.hid (fun W (hW : Below w.heap.size w W) => meets_any g a b s r W (hs.keep hW) (hr.keep hW) ha.symm)
  have hg := Lib.hid hr.gi
  have HC := Lib.hid (And.intro cr cs)
  clear hr hs ha cr cs
  go_enter Try.func73, Try.ntmps73
  go_upto_region 1 with fail
  refine wp_world ?_
  intro V hV
  have BV := Lib.hid (show Below w.heap.size w V by subst hV; exact below_alloc (Below.refl _ _) _)
  have TV := Lib.hid (show TAt g w.heap.size V by subst hV; exact TAt.new hg.out 75)
  clear hV
  have c0 := TV.out.c0; have c1 := TV.out.c1; have c2 := TV.out.c2
  have cr := below_keep BV.out HC.out.1; have cs := below_keep BV.out HC.out.2
  go_upto_region 3 with (go_at_call 74; refine (HV.out V BV.out).mono ?_; rintro e w1 ⟨rfl, h3⟩)
  have T1 := TV.out.keep h3
  have B1 := Lib.hid (below_step BV.out h3)
  clear h3 c0 c1 c2 cr cs TV BV HV
  have T1H := Lib.hid T1
  have c0 := T1.c0; have c1 := T1.c1; have c2 := T1.c2
  have cr := below_keep B1.out HC.out.1; have cs := below_keep B1.out HC.out.2
  clear T1
  go_wp2_with (go_at_call 75; refine (HS.out w1 B1.out).mono ?_; rintro e w2 ⟨rfl, rfl⟩)
  go_at_call 76
  refine (HM.out _ B1.out).mono ?_
  rintro e w3 ⟨rfl, h3⟩
  have T3 := T1H.out.keep h3
  have B3 := Lib.hid (below_step B1.out h3)
  clear h3 c0 c1 c2 cr cs HS HM T1H
  have c0 := T3.c0; have c1 := T3.c1; have c2 := T3.c2
  have cr := below_keep B3.out HC.out.1; have cs := below_keep B3.out HC.out.2
  clear T3
  go_wp2_with fail
  go_at_call 76
  refine (HN.out _ B3.out).mono ?_
  rintro e w4 ⟨rfl, h4⟩
  have B4 := Lib.hid (below_step B3.out h4)
  clear h4 c0 c1 c2 cr cs HN
  go_wp2
  go_ret2
  exact ⟨rfl, B4.out⟩

set_option maxHeartbeats 4000000 in
set_option maxRecDepth 100000 in
theorem askB_any (g : Tg) (a b : Nat) (r s : Rt) (br bs : Nat) (w : World) (hr : RR g a b r w) (hs : RR g a b s w) (ha : AP g.T r.xs s.xs)
    (cr : w.cell? ⟨br, 0, none⟩ = some (.slice (some ⟨r.b, r.o, none⟩) r.xs.length r.k)) (cs : w.cell? ⟨bs, 0, none⟩ = some (.slice (some ⟨s.b, s.o, none⟩) s.xs.length s.k)) :
    Calls Try.prog 72 #[.agg #[.int .i64 (g.T.n : Int), .slice (some ⟨g.bs, g.os, none⟩) g.T.n g.ks, .slice (some ⟨g.bl, g.ol, none⟩) g.T.ls.length g.kl], .slice (some ⟨r.b, r.o, none⟩) r.xs.length r.k, .func (.func 73) #[] #[.pointer (some ⟨bs, 0, none⟩), .pointer (some ⟨br, 0, none⟩)]] w (ApT w) := by
  have HC := Lib.hid (fun W (hW : Below w.heap.size w W) => rCheck_any g a b r W (hr.keep hW))
  have HN := Lib.hid (fun W (hW : Below w.heap.size w W) => apart1_any g a b r s br bs W (hr.keep hW) (hs.keep hW) ha (below_keep hW cr) (below_keep hW cs))
  have hg := Lib.hid hr.gi
  clear hr hs ha cr cs
  go_enter Try.func72, Try.ntmps72
  go_upto_region 1 with fail
  refine wp_world ?_
  intro V hV
  have BV := Lib.hid (show Below w.heap.size w V by subst hV; exact below_alloc (Below.refl _ _) _)
  have TV := Lib.hid (show TAt g w.heap.size V by subst hV; exact TAt.new hg.out 29)
  clear hV
  have c0 := TV.out.c0; have c1 := TV.out.c1; have c2 := TV.out.c2
  go_wp2_with fail
  refine (HC.out V BV.out).mono ?_
  rintro e w1 ⟨rfl, hb1⟩
  have T1 := TV.out.keep hb1
  have B1 := Lib.hid (below_step BV.out hb1)
  clear hb1 c0 c1 c2 TV BV HC
  have c0 := T1.c0; have c1 := T1.c1; have c2 := T1.c2
  clear T1
  go_wp2_with fail
  refine (HN.out w1 B1.out).mono ?_
  rintro e w2 ⟨rfl, h3⟩
  have HP := Lib.hid (below_step B1.out h3)
  clear h3 c0 c1 c2 HN B1
  go_wp2
  go_ret2
  exact ⟨rfl, HP.out⟩

set_option maxHeartbeats 4000000 in
set_option maxRecDepth 100000 in
theorem rApart_any (g : Tg) (a b : Nat) (r s : Rt) (w : World) (hr : RR g a b r w) (hs : RR g a b s w) (ha : AP g.T r.xs s.xs) :
    Calls Try.prog 54 #[.agg #[.int .i64 (g.T.n : Int), .slice (some ⟨g.bs, g.os, none⟩) g.T.n g.ks, .slice (some ⟨g.bl, g.ol, none⟩) g.T.ls.length g.kl], .slice (some ⟨r.b, r.o, none⟩) r.xs.length r.k, .slice (some ⟨s.b, s.o, none⟩) s.xs.length s.k] w (ApT w) := by
  have HN := Lib.hid (fun br bs W (hW : Below w.heap.size w W) cr cs => askB_any g a b r s br bs W (hr.keep hW) (hs.keep hW) ha cr cs)
  have hg := Lib.hid hr.gi
  clear hr hs ha
  go_enter Try.func54, Try.ntmps54
  go_upto_region 1 with fail
  refine wp_world ?_
  intro V hV
  have BV := Lib.hid (show Below w.heap.size w V by subst hV; exact below_alloc (below_alloc (below_alloc (Below.refl _ _) _) _) _)
  have TV := Lib.hid (show TAt g w.heap.size V by subst hV; exact (TAt.new hg.out 29).keep (below_alloc (below_alloc (Below.refl _ _) _) _))
  have c3 : V.cell? ⟨w.heap.size + 1, 0, none⟩ = some (.slice (some ⟨r.b, r.o, none⟩) r.xs.length r.k) := by subst hV; simp [go_sem]
  have c4 : V.cell? ⟨w.heap.size + 1 + 1, 0, none⟩ = some (.slice (some ⟨s.b, s.o, none⟩) s.xs.length s.k) := by subst hV; simp [go_sem]
  have HC3 := Lib.hid (And.intro c3 c4)
  clear hV
  have c0 := TV.out.c0; have c1 := TV.out.c1; have c2 := TV.out.c2
  go_wp2_with fail
  refine (HN.out _ _ V BV.out HC3.out.1 HC3.out.2).mono ?_
  rintro e w1 ⟨rfl, h3⟩
  have HP := Lib.hid (below_step BV.out h3)
  clear h3 c0 c1 c2 c3 c4 TV BV HN
  go_wp2
  go_ret2
  exact ⟨rfl, HP.out⟩

end Go.Proofs.Ytjhpbemnklpefaa
