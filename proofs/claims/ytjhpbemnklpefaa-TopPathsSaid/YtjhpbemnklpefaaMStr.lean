/-
  Texts of this claim laid together: TpBa, TpBb, TpBc, TpBd.
-/
import Derived.Test.YtjhpbemnklpefaaMXyz
import Derived.Test.YtjhpbemnklpefaaMTpW
namespace Go.Proofs.Ytjhpbemnklpefaa
open Go.RowKit Go.Lib Plain

/-- It answers true. -/
def TrB (w : World) (e : Ending) (w' : World) : Prop := e = .returned (.bool true) ∧ Below w.heap.size w w'
/-- The parts of a right stream. -/
structure SI (g : Tg) (a b : Nat) (R : Nat → Rt) (N q : Nat) (w : World) : Prop where
  ok : OkT g.T
  an : a < g.T.n
  bn : b < g.T.n
  sa : g.T.st a = true
  sb : g.T.st b = true
  ne : a ≠ b
  n1 : 1 ≤ N
  n2 : N ≤ 2
  rr : ∀ j, j < N → RR g a b (R j) w ∧ w.cell? ⟨q, j, none⟩ = some (R j).v
  ap : 2 ≤ N → AP g.T (R 0).xs (R 1).xs
theorem SI.keep {g : Tg} {a b : Nat} {R : Nat → Rt} {N q : Nat} {w W : World} (h : SI g a b R N q w) (hb : Below w.heap.size w W) : SI g a b R N q W :=
  ⟨h.ok, h.an, h.bn, h.sa, h.sb, h.ne, h.n1, h.n2, fun j hj => ⟨(h.rr j hj).1.keep hb, below_keep hb (h.rr j hj).2⟩, h.ap⟩
theorem SI.gi {g : Tg} {a b : Nat} {R : Nat → Rt} {N q : Nat} {w : World} (h : SI g a b R N q w) : g.In w := (h.rr 0 h.n1).1.gi
/-- The cells of a right stream. -/
structure SC (a b q N c : Nat) (s : Nat) (w : World) : Prop where
  c0 : w.cell? ⟨s, 0, none⟩ = some (.int .i64 1)
  c1 : w.cell? ⟨s, 1, none⟩ = some (.int .i64 (a : Int))
  c2 : w.cell? ⟨s, 2, none⟩ = some (.int .i64 (b : Int))
  c3 : w.cell? ⟨s, 3, none⟩ = some (.int .i64 7)
  c4 : w.cell? ⟨s, 4, none⟩ = some (.int .i64 84)
  c5 : w.cell? ⟨s, 5, none⟩ = some (.int .i64 1)
  c6 : w.cell? ⟨s, 6, none⟩ = some (.int .i64 0)
  c7 : w.cell? ⟨s, 7, none⟩ = some (.int .i64 0)
  c8 : w.cell? ⟨s, 8, none⟩ = some (.int .i64 1)
  c9 : w.cell? ⟨s, 9, none⟩ = some (.slice (some ⟨q, 0, none⟩) N c)
theorem SC.keep {a b q N c s : Nat} {w W : World} (h : SC a b q N c s w) (hb : Below w.heap.size w W) : SC a b q N c s W :=
  ⟨below_keep hb h.c0, below_keep hb h.c1, below_keep hb h.c2, below_keep hb h.c3, below_keep hb h.c4, below_keep hb h.c5, below_keep hb h.c6, below_keep hb h.c7, below_keep hb h.c8, below_keep hb h.c9⟩

set_option maxHeartbeats 4000000 in
set_option maxRecDepth 100000 in
theorem btw_any (x lo hi : Int) (h1 : lo ≤ x) (h2 : x ≤ hi) (w : World) : Calls Try.prog 43 #[.int .i64 x, .int .i64 lo, .int .i64 hi] w fun e w' => e = .returned (.bool true) ∧ w' = w := by
  have h3 : x ≥ lo := h1
  go_enter Try.func43, Try.ntmps43
  go_wp2
  go_ret
  exact ⟨rfl, rfl⟩

set_option maxHeartbeats 4000000 in
set_option maxRecDepth 100000 in
theorem station_any (g : Tg) (hk : OkT g.T) (a : Nat) (ha : a < g.T.n) (sa : g.T.st a = true) (w : World) (hg : g.In w) :
    Calls Try.prog 45 #[.agg #[.int .i64 (g.T.n : Int), .slice (some ⟨g.bs, g.os, none⟩) g.T.n g.ks, .slice (some ⟨g.bl, g.ol, none⟩) g.T.ls.length g.kl], .int .i64 (a : Int)] w (TrB w) := by
  have n12 := hk.n12
  have e1 : (g.T.n : Int) - 1 = ((g.T.n - 1 : Nat) : Int) := by omega
  have a1 : (a : Int) < (g.T.n : Int) := by omega
  have HB := Lib.hid (fun W => btw_any (a : Int) 0 (((g.T.n - 1 : Nat) : Int)) (by omega) (by omega) W)
  have s1 : Sm (g.T.n - 1) := smk (n := 0) (by omega) (by omega)
  have wA := smA
  have hg := Lib.hid hg
  have HA := Lib.hid (And.intro ha sa)
  clear hk n12 ha sa
  obtain ⟨m, hm⟩ : ∃ m, m = g.T.n - 1 := ⟨_, rfl⟩
  rw [← hm] at e1 HB s1
  clear hm
  go_enter Try.func45, Try.ntmps45
  go_upto_region 1 with fail
  refine wp_world ?_
  intro V hV
  have BV := Lib.hid (show Below w.heap.size w V by subst hV; exact below_alloc (Below.refl _ _) _)
  have TV := Lib.hid (show TAt g w.heap.size V by subst hV; exact TAt.new hg.out 29)
  clear hV
  have c0 := TV.out.c0; have c1 := TV.out.c1; have c2 := TV.out.c2
  have c3 := TV.out.i.s a HA.out.1
  rw [HA.out.2] at c3
  go_wp2_with (go_at_call 43; refine (HB.out _).mono ?_; rintro e W' ⟨rfl, rfl⟩)
  go_ret
  exact ⟨rfl, BV.out⟩

end Go.Proofs.Ytjhpbemnklpefaa

namespace Go.Proofs.Ytjhpbemnklpefaa
open Go.RowKit Go.Lib Plain

set_option maxHeartbeats 4000000 in
set_option maxRecDepth 100000 in
theorem v1_any (a b q N c s : Nat) (w : World) (hs : SC a b q N c s w) : Calls Try.prog 42 #[.pointer (some ⟨s, 0, none⟩)] w (TrB w) := by
  have c0 := hs.c0
  clear hs
  go_enter Try.func42, Try.ntmps42
  go_wp2_with (go_at_call 43; refine (btw_any 1 1 4095 (by decide) (by decide) _).mono ?_; rintro e W' ⟨rfl, rfl⟩)
  go_ret
  exact ⟨rfl, Below.refl _ _⟩
set_option maxHeartbeats 4000000 in
set_option maxRecDepth 100000 in
theorem v3_any (a b q N c s : Nat) (w : World) (hs : SC a b q N c s w) : Calls Try.prog 46 #[.pointer (some ⟨s, 0, none⟩)] w (TrB w) := by
  have c0 := hs.c4
  clear hs
  go_enter Try.func46, Try.ntmps46
  go_wp2_with (go_at_call 43; refine (btw_any 84 84 1542 (by decide) (by decide) _).mono ?_; rintro e W' ⟨rfl, rfl⟩)
  go_ret
  exact ⟨rfl, Below.refl _ _⟩
set_option maxHeartbeats 4000000 in
set_option maxRecDepth 100000 in
theorem v4_any (a b q N c s : Nat) (w : World) (hs : SC a b q N c s w) : Calls Try.prog 47 #[.pointer (some ⟨s, 0, none⟩)] w (TrB w) := by
  have c0 := hs.c8
  clear hs
  go_enter Try.func47, Try.ntmps47
  go_wp2_with (go_at_call 43; refine (btw_any 1 1 1099511627776 (by decide) (by decide) _).mono ?_; rintro e W' ⟨rfl, rfl⟩)
  go_ret
  exact ⟨rfl, Below.refl _ _⟩
set_option maxHeartbeats 4000000 in
set_option maxRecDepth 100000 in
theorem v5_any (a b q N c s : Nat) (w : World) (hs : SC a b q N c s w) : Calls Try.prog 48 #[.pointer (some ⟨s, 0, none⟩)] w (TrB w) := by
  have c3 := hs.c3; have c5 := hs.c5; have c6 := hs.c6; have c7 := hs.c7
  clear hs
  go_enter Try.func48, Try.ntmps48
  go_wp2_with (go_at_call 43; refine (btw_any 1 1 240 (by decide) (by decide) _).mono ?_; rintro e W' ⟨rfl, rfl⟩)
  go_ret
  exact ⟨rfl, Below.refl _ _⟩
set_option maxHeartbeats 4000000 in
set_option maxRecDepth 100000 in
theorem v6_any (a b q N c s : Nat) (h1 : 1 ≤ N) (h2 : N ≤ 2) (w : World) (hs : SC a b q N c s w) : Calls Try.prog 50 #[.pointer (some ⟨s, 0, none⟩)] w (TrB w) := by
  have c0 := hs.c9
  clear hs
  go_enter Try.func50, Try.ntmps50
  go_wp2_with (go_at_call 43; refine (btw_any (N : Int) 1 2 (by omega) (by omega) _).mono ?_; rintro e W' ⟨rfl, rfl⟩)
  go_ret
  exact ⟨rfl, Below.refl _ _⟩

set_option maxHeartbeats 4000000 in
set_option maxRecDepth 100000 in
theorem v2_any (g : Tg) (a b : Nat) (R : Nat → Rt) (N q c t s : Nat) (w : World) (hI : SI g a b R N q w) (hT : TAt g t w) (hs : SC a b q N c s w) : Calls Try.prog 44 #[.pointer (some ⟨t, 0, none⟩), .pointer (some ⟨s, 0, none⟩)] w (TrB w) := by
  have HA := Lib.hid (station_any g hI.ok a hI.an hI.sa w hI.gi)
  have HB := Lib.hid (fun W (hW : Below w.heap.size w W) => station_any g hI.ok b hI.bn hI.sb W (hI.gi.keep hW))
  have hne : ¬ (a : Int) = (b : Int) := fun h => hI.ne (Int.ofNat.inj h)
  have hn2 := eq_ff hI.ne
  have hn3 : ((a : Int) != (b : Int)) = true := by show (!((a : Int) == (b : Int))) = true; rw [hn2]; rfl
  have c0 := hT.c0; have c1 := hT.c1; have c2 := hT.c2
  have d1 := hs.c1; have d2 := hs.c2
  have HT := Lib.hid hT
  have HS := Lib.hid hs
  clear hI hT hs
  go_enter Try.func44, Try.ntmps44
  go_wp2_with fail
  go_at_call 45
  refine HA.out.mono ?_
  rintro e w1 ⟨rfl, h1⟩
  have T1 := HT.out.keep h1
  have S1 := HS.out.keep h1
  have B1 := Lib.hid h1
  clear HT HS HA h1 c0 c1 c2 d1 d2
  have c0 := T1.c0; have c1 := T1.c1; have c2 := T1.c2
  have d1 := S1.c1; have d2 := S1.c2
  have HS := Lib.hid S1
  clear T1 S1
  go_wp2_with fail
  go_at_call 45
  refine (HB.out w1 B1.out).mono ?_
  rintro e w2 ⟨rfl, h2⟩
  have S2 := HS.out.keep h2
  have B2 := Lib.hid (below_step B1.out h2)
  clear HS HB h2 c0 c1 c2 d1 d2
  have d1 := S2.c1; have d2 := S2.c2
  clear S2
  go_wp2
  go_ret
  exact ⟨rfl, B2.out⟩

set_option maxHeartbeats 4000000 in
set_option maxRecDepth 100000 in
theorem sJoins_any (g : Tg) (a b : Nat) (r : Rt) (w : World) (h : RR g a b r w) :
    Calls Try.prog 52 #[.agg #[.int .i64 (g.T.n : Int), .slice (some ⟨g.bs, g.os, none⟩) g.T.n g.ks, .slice (some ⟨g.bl, g.ol, none⟩) g.T.ls.length g.kl], .slice (some ⟨r.b, r.o, none⟩) r.xs.length r.k, .int .i64 (a : Int), .int .i64 (b : Int)] w (TrB w) := by
  have HN := Lib.hid (fun W (hW : Below w.heap.size w W) => ends_any g a b r W (h.keep hW))
  have hg := Lib.hid h.gi
  clear h
  go_enter Try.func52, Try.ntmps52
  go_upto_region 1 with fail
  refine wp_world ?_
  intro V hV
  have BV := Lib.hid (show Below w.heap.size w V by subst hV; exact below_alloc (Below.refl _ _) _)
  have TV := Lib.hid (show TAt g w.heap.size V by subst hV; exact TAt.new hg.out 29)
  clear hV
  have c0 := TV.out.c0; have c1 := TV.out.c1; have c2 := TV.out.c2
  go_wp2_with fail
  refine (HN.out V BV.out).mono ?_
  rintro e w1 ⟨rfl, h1⟩
  have B1 := Lib.hid (below_step BV.out h1)
  clear h1 c0 c1 c2 TV BV HN
  go_wp2
  go_ret
  exact ⟨rfl, B1.out⟩

set_option maxHeartbeats 8000000 in
set_option maxRecDepth 100000 in
theorem v7_any (g : Tg) (a b : Nat) (R : Nat → Rt) (N q c t s : Nat) (w : World) (hI : SI g a b R N q w) (hT : TAt g t w) (hs : SC a b q N c s w) : Calls Try.prog 51 #[.pointer (some ⟨s, 0, none⟩), .pointer (some ⟨t, 0, none⟩)] w (TrB w) := by
  have HI := Lib.hid hI
  have HT := Lib.hid hT
  have HS := Lib.hid hs
  have d9 := hs.c9
  have h100 : N < 20 := Nat.lt_of_le_of_lt hI.n2 (by decide)
  clear hI hT hs
  have wA := smA
  go_enter Try.func51, Try.ntmps51
  go_wp2
  go_loopw [8] (fun p wr => ∃ i : Nat, p = .int .i64 (i : Int) ∧ i ≤ N ∧ Hid (Below w.heap.size w wr)) (fun p _ => N - (RowKit.intOf p).toNat)
  case atStart => exact ⟨0, rfl, Nat.zero_le _, Lib.hid (Below.refl _ _)⟩
  case round =>
    clear d9
    obtain ⟨i, rfl, hi, H1⟩ := hrel
    by_cases hlt : i < N
    · have c1' : (i : Int) < (N : Int) := lt_int hlt
      have k0 := below_keep H1.out (HI.out.rr i hlt).2
      have HJ := Lib.hid (sJoins_any g a b (R i) wr ((HI.out.rr i hlt).1.keep H1.out))
      have HL := Lib.hid hlt
      have w1 := Lib.hid (smC i (smk (n := 0) (Nat.zero_le _) (Nat.lt_trans hlt (Nat.lt_of_lt_of_le h100 (by decide)))))
      have T1 := HT.out.keep H1.out
      have S1 := HS.out.keep H1.out
      have c0 := T1.c0; have c1 := T1.c1; have c2 := T1.c2
      have d1 := S1.c1; have d2 := S1.c2
      clear T1 S1 hi hlt
      obtain ⟨r, hr⟩ : ∃ r, r = R i := ⟨_, rfl⟩
      rw [← hr] at k0 HJ
      clear hr
      change wr.cell? ⟨q, i, none⟩ = some (.slice (some ⟨r.b, r.o, none⟩) r.xs.length r.k) at k0
      go_wp2_with fail
      refine HJ.out.mono ?_
      rintro e w2 ⟨rfl, h2⟩
      have B2 := Lib.hid (below_step H1.out h2)
      clear h2 c0 c1 c2 d1 d2 k0 HJ H1
      go_wp2
      go_roundw
      case rel => exact ⟨i + 1, by first | rw [w1.out] | rfl, HL.out, B2⟩
      case measure => (first | (rw [w1.out]; exact measU HL.out) | exact measU HL.out)
    · have c1' : ¬ (i : Int) < (N : Int) := fun h => hlt (Int.ofNat_lt.1 h)
      clear hi hlt
      go_wp2
      go_ret
      exact ⟨rfl, H1.out⟩

end Go.Proofs.Ytjhpbemnklpefaa

namespace Go.Proofs.Ytjhpbemnklpefaa
open Go.RowKit Go.Lib Plain

theorem noagg33 : ∀ w, (isAgg 33).run Try.prog w = .ok false w := fun w => by kernel_rfl
theorem TAt.holds {g : Tg} {t : Nat} {w : World} (h : TAt g t w) : Holds w t [.int .i64 (g.T.n : Int), .slice (some ⟨g.bs, g.os, none⟩) g.T.n g.ks, .slice (some ⟨g.bl, g.ol, none⟩) g.T.ls.length g.kl] := fun j v hj => by
  match j, hj with
  | 0, hj => cases hj; exact h.c0
  | 1, hj => cases hj; exact h.c1
  | 2, hj => cases hj; exact h.c2

set_option maxHeartbeats 8000000 in
set_option maxRecDepth 100000 in
theorem v8_any (g : Tg) (a b : Nat) (R : Nat → Rt) (N q c t s : Nat) (w : World) (hI : SI g a b R N q w) (hT : TAt g t w) (hs : SC a b q N c s w) : Calls Try.prog 53 #[.pointer (some ⟨s, 0, none⟩), .pointer (some ⟨t, 0, none⟩)] w (TrB w) := by
  have d9 := hs.c9
  by_cases h2 : 2 ≤ N
  · have hN : N = 2 := Nat.le_antisymm hI.n2 h2
    subst hN
    have HI := Lib.hid hI
    have HT := Lib.hid hT
    have HS := Lib.hid hs
    have HA := Lib.hid (fun W (hW : Below w.heap.size w W) => rApart_any g a b (R 0) (R 1) W ((hI.rr 0 (by decide)).1.keep hW) ((hI.rr 1 (by decide)).1.keep hW) (hI.ap h2))
    clear hI hT hs h2
    have HR := HI.out.rr
    obtain ⟨r, hr⟩ : ∃ r, r = R 0 := ⟨_, rfl⟩
    obtain ⟨u, hu⟩ : ∃ u, u = R 1 := ⟨_, rfl⟩
    have k0 := (HR 0 (by decide)).2
    have k1 := (HR 1 (by decide)).2
    rw [← hr] at HA k0
    rw [← hu] at HA k1
    clear HR hr hu HI
    have K0 := Lib.hid k0
    have K1 := Lib.hid k1
    clear k0 k1
    go_enter Try.func53, Try.ntmps53
    go_upto_region 3 with fail
    refine wp_region_held_drew (S := fun wx => (TAt g t wx ∧ SC a b q 2 c s wx ∧ wx.cell? ⟨q, 0, none⟩ = some r.v ∧ wx.cell? ⟨q, 1, none⟩ = some u.v) ∧ Below w.heap.size w wx) (by kernel_rfl)
      (by have hb := Below.drew (Below.refl w.heap.size w); exact ⟨⟨HT.out.keep hb, HS.out.keep hb, below_keep hb K0.out, below_keep hb K1.out⟩, hb⟩) (fun h0 => ?_)
    refine wpAnyH_take (i := 0) (v := .agg [.int .i64 (g.T.n : Int), .slice (some ⟨g.bs, g.os, none⟩) g.T.n g.ks, .slice (some ⟨g.bl, g.ol, none⟩) g.T.ls.length g.kl].toArray) rfl (by kernel_rfl) (by kernel_rfl) (by kernel_rfl) (fun _ _ _ h => h) (yieldsIf_load_whole rfl (.tmp 1) 29 rfl t _ rfl agg29 size29 (fun _ h => h.1.1.holds)) h0 ?_
    try simp only [Act.put, List.getElem_toArray, List.getElem_cons_succ, List.getElem_cons_zero, List.setIfInBounds_toArray, List.set_cons_succ, List.set_cons_zero]
    refine wpAnyH_take (i := 1) (v := .pointer (some ⟨s, 9, none⟩)) rfl (by kernel_rfl) (by kernel_rfl) (by kernel_rfl) (fun _ _ _ h => h) (yields_runT rfl (fun w _ => by simp [execOp, go_sem])) h0 ?_
    try simp only [Act.put, List.getElem_toArray, List.getElem_cons_succ, List.getElem_cons_zero, List.setIfInBounds_toArray, List.set_cons_succ, List.set_cons_zero]
    refine wpAnyH_take (i := 2) (v := .slice (some ⟨q, 0, none⟩) 2 c) rfl (by kernel_rfl) (by kernel_rfl) (by kernel_rfl) (fun _ _ _ h => h) (yields_loadT rfl rfl _ rfl noagg33 (fun _ h => h.1.2.1.c9)) h0 ?_
    try simp only [Act.put, List.getElem_toArray, List.getElem_cons_succ, List.getElem_cons_zero, List.setIfInBounds_toArray, List.set_cons_succ, List.set_cons_zero]
    refine wpAnyH_take (i := 3) (v := .pointer (some ⟨q, 0, none⟩)) rfl (by kernel_rfl) (by kernel_rfl) (by kernel_rfl) (fun _ _ _ h => h) (yields_runT rfl (fun w _ => by simp [execOp, go_sem])) h0 ?_
    try simp only [Act.put, List.getElem_toArray, List.getElem_cons_succ, List.getElem_cons_zero, List.setIfInBounds_toArray, List.set_cons_succ, List.set_cons_zero]
    refine wpAnyH_take (i := 4) (v := r.v) rfl (by kernel_rfl) (by kernel_rfl) (by kernel_rfl) (fun _ _ _ h => h) (yields_loadT rfl rfl _ rfl noagg37 (fun _ h => h.1.2.2.1)) h0 ?_
    try simp only [Act.put, List.getElem_toArray, List.getElem_cons_succ, List.getElem_cons_zero, List.setIfInBounds_toArray, List.set_cons_succ, List.set_cons_zero]
    refine wpAnyH_take (i := 5) (v := .pointer (some ⟨s, 9, none⟩)) rfl (by kernel_rfl) (by kernel_rfl) (by kernel_rfl) (fun _ _ _ h => h) (yields_runT rfl (fun w _ => by simp [execOp, go_sem])) h0 ?_
    try simp only [Act.put, List.getElem_toArray, List.getElem_cons_succ, List.getElem_cons_zero, List.setIfInBounds_toArray, List.set_cons_succ, List.set_cons_zero]
    refine wpAnyH_take (i := 6) (v := .slice (some ⟨q, 0, none⟩) 2 c) rfl (by kernel_rfl) (by kernel_rfl) (by kernel_rfl) (fun _ _ _ h => h) (yields_loadT rfl rfl _ rfl noagg33 (fun _ h => h.1.2.1.c9)) h0 ?_
    try simp only [Act.put, List.getElem_toArray, List.getElem_cons_succ, List.getElem_cons_zero, List.setIfInBounds_toArray, List.set_cons_succ, List.set_cons_zero]
    refine wpAnyH_take (i := 7) (v := .pointer (some ⟨q, 1, none⟩)) rfl (by kernel_rfl) (by kernel_rfl) (by kernel_rfl) (fun _ _ _ h => h) (yields_runT rfl (fun w _ => by simp [execOp, go_sem])) h0 ?_
    try simp only [Act.put, List.getElem_toArray, List.getElem_cons_succ, List.getElem_cons_zero, List.setIfInBounds_toArray, List.set_cons_succ, List.set_cons_zero]
    refine wpAnyH_take (i := 8) (v := u.v) rfl (by kernel_rfl) (by kernel_rfl) (by kernel_rfl) (fun _ _ _ h => h) (yields_loadT rfl rfl _ rfl noagg37 (fun _ h => h.1.2.2.2)) h0 ?_
    try simp only [Act.put, List.getElem_toArray, List.getElem_cons_succ, List.getElem_cons_zero, List.setIfInBounds_toArray, List.set_cons_succ, List.set_cons_zero]
    refine wpAnyH_ready (rs := [9]) (by kernel_rfl) (by simp) ?_
    refine AllReadyH.cons rfl (fun K hK => ?_) AllReadyH.nil
    go_simp
    refine (HA.out _ h0.2).mono ?_
    rintro e w5 ⟨rfl, hw5⟩
    refine hK.out _ _ ⟨⟨h0.1.1.keep hw5, h0.1.2.1.keep hw5, below_keep hw5 h0.1.2.2.1, below_keep hw5 h0.1.2.2.2⟩, below_step h0.2 hw5⟩ (fun h1 => ?_)
    clear hK K
    try simp only [Act.put, List.getElem_toArray, List.getElem_cons_succ, List.getElem_cons_zero, List.setIfInBounds_toArray, List.set_cons_succ, List.set_cons_zero]
    refine wpAnyH_take (i := 10) (v := .tuple #[.bool true, .int .i64 0]) rfl (by kernel_rfl) (by kernel_rfl) (by kernel_rfl) (fun _ _ _ h => h) (yields_moveT rfl rfl rfl) h1 ?_
    try simp only [Act.put, List.getElem_toArray, List.getElem_cons_succ, List.getElem_cons_zero, List.setIfInBounds_toArray, List.set_cons_succ, List.set_cons_zero]
    refine wpAnyH_take (i := 11) (v := .bool true) rfl (by kernel_rfl) (by kernel_rfl) (by kernel_rfl) (fun _ _ _ h => h) (yields_runT rfl (fun w _ => by simp [execOp, go_sem])) h1 ?_
    try simp only [Act.put, List.getElem_toArray, List.getElem_cons_succ, List.getElem_cons_zero, List.setIfInBounds_toArray, List.set_cons_succ, List.set_cons_zero]
    refine wpAnyH_take (i := 12) (v := .int .i64 0) rfl (by kernel_rfl) (by kernel_rfl) (by kernel_rfl) (fun _ _ _ h => h) (yields_runT rfl (fun w _ => by simp [execOp, go_sem])) h1 ?_
    try simp only [Act.put, List.getElem_toArray, List.getElem_cons_succ, List.getElem_cons_zero, List.setIfInBounds_toArray, List.set_cons_succ, List.set_cons_zero]
    refine wpAnyH_take (i := 13) (v := .bool true) rfl (by kernel_rfl) (by kernel_rfl) (by kernel_rfl) (fun _ _ _ h => h) (yields_runT rfl (fun w _ => by simp [execOp, go_sem])) h1 ?_
    try simp only [Act.put, List.getElem_toArray, List.getElem_cons_succ, List.getElem_cons_zero, List.setIfInBounds_toArray, List.set_cons_succ, List.set_cons_zero]
    refine wpAnyH_take (i := 14) (v := .int .i64 0) rfl (by kernel_rfl) (by kernel_rfl) (by kernel_rfl) (fun _ _ _ h => h) (yields_runT rfl (fun w _ => by simp [execOp, go_sem])) h1 ?_
    try simp only [Act.put, List.getElem_toArray, List.getElem_cons_succ, List.getElem_cons_zero, List.setIfInBounds_toArray, List.set_cons_succ, List.set_cons_zero]
    refine wpAnyH_done (by kernel_rfl) ?_ _
    have HB := Lib.hid h1.2
    clear h1 h0 hw5
    go_wp2
    go_ret
    exact ⟨rfl, HB.out⟩
  · have hN : N = 1 := by have := hI.n1; omega
    subst hN
    clear hI hT hs h2
    go_enter Try.func53, Try.ntmps53
    go_wp2
    go_ret
    exact ⟨rfl, Below.refl _ _⟩

end Go.Proofs.Ytjhpbemnklpefaa

namespace Go.Proofs.Ytjhpbemnklpefaa
open Go.RowKit Go.Lib Plain

def sVs (a b q N c : Nat) : List Value := [.int .i64 1, .int .i64 (a : Int), .int .i64 (b : Int), .int .i64 7, .int .i64 84, .int .i64 1, .int .i64 0, .int .i64 0, .int .i64 1, .slice (some ⟨q, 0, none⟩) N c]
theorem sVs_lit (a b q N c : Nat) : (sVs a b q N c).toArray = #[.int .i64 1, .int .i64 (a : Int), .int .i64 (b : Int), .int .i64 7, .int .i64 84, .int .i64 1, .int .i64 0, .int .i64 0, .int .i64 1, .slice (some ⟨q, 0, none⟩) N c] := rfl
theorem sVs_one (a b q N c : Nat) : ∀ v ∈ sVs a b q N c, v.oneCell' = true := by
  intro v hv
  simp only [sVs, List.mem_cons, List.not_mem_nil, or_false] at hv
  rcases hv with rfl | rfl | rfl | rfl | rfl | rfl | rfl | rfl | rfl | rfl <;> rfl
theorem agg35 : ∀ w, (isAgg 35).run Try.prog w = .ok true w := fun w => by kernel_rfl
theorem size35 : ∀ w, (sizeOf 35).run Try.prog w = .ok 10 w := fun w => by kernel_rfl
theorem SC.of {a b q N c s : Nat} {w : World} (h : Holds w s (sVs a b q N c)) : SC a b q N c s w := ⟨h 0 _ rfl, h 1 _ rfl, h 2 _ rfl, h 3 _ rfl, h 4 _ rfl, h 5 _ rfl, h 6 _ rfl, h 7 _ rfl, h 8 _ rfl, h 9 _ rfl⟩
theorem SC.holds {a b q N c s : Nat} {w : World} (h : SC a b q N c s w) : Holds w s (sVs a b q N c) := fun j v hj => by
  match j, hj with
  | 0, hj => cases hj; exact h.c0
  | 1, hj => cases hj; exact h.c1
  | 2, hj => cases hj; exact h.c2
  | 3, hj => cases hj; exact h.c3
  | 4, hj => cases hj; exact h.c4
  | 5, hj => cases hj; exact h.c5
  | 6, hj => cases hj; exact h.c6
  | 7, hj => cases hj; exact h.c7
  | 8, hj => cases hj; exact h.c8
  | 9, hj => cases hj; exact h.c9
theorem SC.new {a b q N c s : Nat} (w : World) (t : TypeId) (hs : s = w.heap.size) : SC a b q N c s (w.alloc (.cells #[.int .i64 1, .int .i64 (a : Int), .int .i64 (b : Int), .int .i64 7, .int .i64 84, .int .i64 1, .int .i64 0, .int .i64 0, .int .i64 1, .slice (some ⟨q, 0, none⟩) N c] t)) := SC.of (holds_alloc w (sVs a b q N c) t hs)
/-- The rules, a function each. -/
structure RuC (t s r : Nat) (w : World) : Prop where
  r0 : w.cell? ⟨r, 0, none⟩ = some (.func (.func 42) #[] #[.pointer (some ⟨s, 0, none⟩)])
  r1 : w.cell? ⟨r, 1, none⟩ = some (.func (.func 44) #[] #[.pointer (some ⟨t, 0, none⟩), .pointer (some ⟨s, 0, none⟩)])
  r2 : w.cell? ⟨r, 2, none⟩ = some (.func (.func 46) #[] #[.pointer (some ⟨s, 0, none⟩)])
  r3 : w.cell? ⟨r, 3, none⟩ = some (.func (.func 47) #[] #[.pointer (some ⟨s, 0, none⟩)])
  r4 : w.cell? ⟨r, 4, none⟩ = some (.func (.func 48) #[] #[.pointer (some ⟨s, 0, none⟩)])
  r5 : w.cell? ⟨r, 5, none⟩ = some (.func (.func 50) #[] #[.pointer (some ⟨s, 0, none⟩)])
  r6 : w.cell? ⟨r, 6, none⟩ = some (.func (.func 51) #[] #[.pointer (some ⟨s, 0, none⟩), .pointer (some ⟨t, 0, none⟩)])
  r7 : w.cell? ⟨r, 7, none⟩ = some (.func (.func 53) #[] #[.pointer (some ⟨s, 0, none⟩), .pointer (some ⟨t, 0, none⟩)])
theorem RuC.keep {t s r : Nat} {w W : World} (h : RuC t s r w) (hb : Below w.heap.size w W) : RuC t s r W := ⟨below_keep hb h.r0, below_keep hb h.r1, below_keep hb h.r2, below_keep hb h.r3, below_keep hb h.r4, below_keep hb h.r5, below_keep hb h.r6, below_keep hb h.r7⟩

set_option maxHeartbeats 8000000 in
set_option maxRecDepth 100000 in
theorem sValid_any (g : Tg) (a b : Nat) (R : Nat → Rt) (N q c : Nat) (w : World) (hI : SI g a b R N q w) :
    Calls Try.prog 22 #[.agg #[.int .i64 (g.T.n : Int), .slice (some ⟨g.bs, g.os, none⟩) g.T.n g.ks, .slice (some ⟨g.bl, g.ol, none⟩) g.T.ls.length g.kl], .agg #[.int .i64 1, .int .i64 (a : Int), .int .i64 (b : Int), .int .i64 7, .int .i64 84, .int .i64 1, .int .i64 0, .int .i64 0, .int .i64 1, .slice (some ⟨q, 0, none⟩) N c]] w (TrB w) := by
  have hg := Lib.hid hI.gi
  have H0 := Lib.hid (fun W (hW : Below w.heap.size w W) (ht : TAt g w.heap.size W) (hs : SC a b q N c (w.heap.size + 1) W) => v1_any a b q N c _ W hs)
  have H1 := Lib.hid (fun W (hW : Below w.heap.size w W) (ht : TAt g w.heap.size W) (hs : SC a b q N c (w.heap.size + 1) W) => v2_any g a b R N q c _ _ W (hI.keep hW) ht hs)
  have H2 := Lib.hid (fun W (hW : Below w.heap.size w W) (ht : TAt g w.heap.size W) (hs : SC a b q N c (w.heap.size + 1) W) => v3_any a b q N c _ W hs)
  have H3 := Lib.hid (fun W (hW : Below w.heap.size w W) (ht : TAt g w.heap.size W) (hs : SC a b q N c (w.heap.size + 1) W) => v4_any a b q N c _ W hs)
  have H4 := Lib.hid (fun W (hW : Below w.heap.size w W) (ht : TAt g w.heap.size W) (hs : SC a b q N c (w.heap.size + 1) W) => v5_any a b q N c _ W hs)
  have H5 := Lib.hid (fun W (hW : Below w.heap.size w W) (ht : TAt g w.heap.size W) (hs : SC a b q N c (w.heap.size + 1) W) => v6_any a b q N c _ hI.n1 hI.n2 W hs)
  have H6 := Lib.hid (fun W (hW : Below w.heap.size w W) (ht : TAt g w.heap.size W) (hs : SC a b q N c (w.heap.size + 1) W) => v7_any g a b R N q c _ _ W (hI.keep hW) ht hs)
  have H7 := Lib.hid (fun W (hW : Below w.heap.size w W) (ht : TAt g w.heap.size W) (hs : SC a b q N c (w.heap.size + 1) W) => v8_any g a b R N q c _ _ W (hI.keep hW) ht hs)
  clear hI
  go_enter Try.func22, Try.ntmps22
  go_upto_region 2 with fail
  refine wp_world ?_
  intro V hV
  have BV := Lib.hid (show Below w.heap.size w V by subst hV; exact below_alloc (below_alloc (below_alloc (Below.refl _ _) _) _) _)
  have TV := Lib.hid (show TAt g w.heap.size V by subst hV; exact (TAt.new hg.out 29).keep (below_alloc (below_alloc (Below.refl _ _) _) _))
  have SV := Lib.hid (show SC a b q N c (w.heap.size + 1) V by
    subst hV
    have h := (SC.new (a := a) (b := b) (q := q) (N := N) (c := c) (s := w.heap.size + 1) (w.alloc (.cells #[.int .i64 (g.T.n : Int), .slice (some ⟨g.bs, g.os, none⟩) g.T.n g.ks, .slice (some ⟨g.bl, g.ol, none⟩) g.T.ls.length g.kl] 29)) 35 (by simp [go_sem]))
    exact h.keep (below_alloc (Below.refl _ _) _))
  have RV := Lib.hid (show RuC w.heap.size (w.heap.size + 1) (w.heap.size + 1 + 1) V by subst hV; constructor <;> simp [go_sem])
  clear hV
  go_upto_region 3 with fail
  go_loopw [19] (fun p wr => ∃ x : Int, p = .int .i64 x ∧ (x = 0 ∨ x = 1 ∨ x = 2 ∨ x = 3 ∨ x = 4 ∨ x = 5 ∨ x = 6 ∨ x = 7 ∨ x = 8) ∧ Hid (Below V.heap.size V wr)) (fun p _ => 8 - (RowKit.intOf p).toNat)
  case atStart => exact ⟨0, rfl, .inl rfl, Lib.hid (Below.refl _ _)⟩
  case round =>
    obtain ⟨x, rfl, hx, H9⟩ := hrel
    have B9 := Lib.hid (below_step BV.out H9.out)
    have T9 := Lib.hid (TV.out.keep H9.out)
    have S9 := Lib.hid (SV.out.keep H9.out)
    have R9 := Lib.hid (RV.out.keep H9.out)
    rcases hx with rfl | rfl | rfl | rfl | rfl | rfl | rfl | rfl | rfl
    · have c0 := R9.out.r0
      go_wp2_with fail
      refine (H0.out wr B9.out T9.out S9.out).mono ?_
      rintro e w2 ⟨rfl, h2⟩
      have B2 := Lib.hid (below_step H9.out h2)
      clear h2 c0
      go_wp2
      go_roundw
      case rel => exact ⟨1, rfl, .inr (.inl rfl), B2⟩
      case measure => decide
    · have c0 := R9.out.r1
      go_wp2_with fail
      refine (H1.out wr B9.out T9.out S9.out).mono ?_
      rintro e w2 ⟨rfl, h2⟩
      have B2 := Lib.hid (below_step H9.out h2)
      clear h2 c0
      go_wp2
      go_roundw
      case rel => exact ⟨2, rfl, .inr (.inr (.inl rfl)), B2⟩
      case measure => decide
    · have c0 := R9.out.r2
      go_wp2_with fail
      refine (H2.out wr B9.out T9.out S9.out).mono ?_
      rintro e w2 ⟨rfl, h2⟩
      have B2 := Lib.hid (below_step H9.out h2)
      clear h2 c0
      go_wp2
      go_roundw
      case rel => exact ⟨3, rfl, .inr (.inr (.inr (.inl rfl))), B2⟩
      case measure => decide
    · have c0 := R9.out.r3
      go_wp2_with fail
      refine (H3.out wr B9.out T9.out S9.out).mono ?_
      rintro e w2 ⟨rfl, h2⟩
      have B2 := Lib.hid (below_step H9.out h2)
      clear h2 c0
      go_wp2
      go_roundw
      case rel => exact ⟨4, rfl, .inr (.inr (.inr (.inr (.inl rfl)))), B2⟩
      case measure => decide
    · have c0 := R9.out.r4
      go_wp2_with fail
      refine (H4.out wr B9.out T9.out S9.out).mono ?_
      rintro e w2 ⟨rfl, h2⟩
      have B2 := Lib.hid (below_step H9.out h2)
      clear h2 c0
      go_wp2
      go_roundw
      case rel => exact ⟨5, rfl, .inr (.inr (.inr (.inr (.inr (.inl rfl))))), B2⟩
      case measure => decide
    · have c0 := R9.out.r5
      go_wp2_with fail
      refine (H5.out wr B9.out T9.out S9.out).mono ?_
      rintro e w2 ⟨rfl, h2⟩
      have B2 := Lib.hid (below_step H9.out h2)
      clear h2 c0
      go_wp2
      go_roundw
      case rel => exact ⟨6, rfl, .inr (.inr (.inr (.inr (.inr (.inr (.inl rfl)))))), B2⟩
      case measure => decide
    · have c0 := R9.out.r6
      go_wp2_with fail
      refine (H6.out wr B9.out T9.out S9.out).mono ?_
      rintro e w2 ⟨rfl, h2⟩
      have B2 := Lib.hid (below_step H9.out h2)
      clear h2 c0
      go_wp2
      go_roundw
      case rel => exact ⟨7, rfl, .inr (.inr (.inr (.inr (.inr (.inr (.inr (.inl rfl))))))), B2⟩
      case measure => decide
    · have c0 := R9.out.r7
      go_wp2_with fail
      refine (H7.out wr B9.out T9.out S9.out).mono ?_
      rintro e w2 ⟨rfl, h2⟩
      have B2 := Lib.hid (below_step H9.out h2)
      clear h2 c0
      go_wp2
      go_roundw
      case rel => exact ⟨8, rfl, .inr (.inr (.inr (.inr (.inr (.inr (.inr (.inr rfl))))))), B2⟩
      case measure => decide
    · go_wp2
      go_ret
      exact ⟨rfl, B9.out⟩

set_option maxHeartbeats 8000000 in
set_option maxRecDepth 100000 in
theorem sCheck_any (g : Tg) (a b : Nat) (R : Nat → Rt) (N q c : Nat) (w : World) (hI : SI g a b R N q w) :
    Calls Try.prog 8 #[.agg #[.int .i64 (g.T.n : Int), .slice (some ⟨g.bs, g.os, none⟩) g.T.n g.ks, .slice (some ⟨g.bl, g.ol, none⟩) g.T.ls.length g.kl], .agg #[.int .i64 1, .int .i64 (a : Int), .int .i64 (b : Int), .int .i64 7, .int .i64 84, .int .i64 1, .int .i64 0, .int .i64 0, .int .i64 1, .slice (some ⟨q, 0, none⟩) N c]] w (fun e w' => e = .returned (.int .i64 0) ∧ Below w.heap.size w w') := by
  have hg := Lib.hid hI.gi
  have HC := Lib.hid (fun W (hW : Below w.heap.size w W) => check_any g hI.ok W (hI.gi.keep hW))
  have HV := Lib.hid (fun W (hW : Below w.heap.size w W) => sValid_any g a b R N q c W (hI.keep hW))
  clear hI
  rw [← sVs_lit]
  have hS : (sVs a b q N c).length = 10 := rfl
  go_enter Try.func8, Try.ntmps8
  go_upto_region 1 with fail
  refine wp_world ?_
  intro V hV
  have BV := Lib.hid (show Below w.heap.size w V by subst hV; exact below_alloc (below_alloc (Below.refl _ _) _) _)
  have TV := Lib.hid (show TAt g w.heap.size V by subst hV; exact (TAt.new hg.out 29).keep (below_alloc (Below.refl _ _) _))
  have SV := Lib.hid (show SC a b q N c (w.heap.size + 1) V by
    subst hV
    exact SC.new (w.alloc (.cells #[.int .i64 (g.T.n : Int), .slice (some ⟨g.bs, g.os, none⟩) g.T.n g.ks, .slice (some ⟨g.bl, g.ol, none⟩) g.T.ls.length g.kl] 29)) 35 (by simp [go_sem]))
  clear hV
  have c0 := TV.out.c0; have c1 := TV.out.c1; have c2 := TV.out.c2
  go_wp2_with fail
  refine (HC.out V BV.out).mono ?_
  rintro e w1 ⟨rfl, hb1⟩
  have T1 := TV.out.keep hb1
  have S1 := Lib.hid (SV.out.keep hb1)
  have B1 := Lib.hid (below_step BV.out hb1)
  clear hb1 c0 c1 c2 TV BV HC SV
  have c0 := T1.c0; have c1 := T1.c1; have c2 := T1.c2
  clear T1
  go_wp2_with ((with_reducible refine at_load 35 (.tmp 3) ?_); refine wpList_load_whole rfl (.tmp 3) 35 rfl (w.heap.size + 1) 0 (sVs a b q N c) rfl agg35 size35 S1.out.holds ?_; simp only [Act.put, List.setIfInBounds_toArray, List.set_cons_succ, List.set_cons_zero])
  rw [sVs_lit]
  refine (HV.out w1 B1.out).mono ?_
  rintro e w2 ⟨rfl, hb2⟩
  have B2 := Lib.hid (below_step B1.out hb2)
  clear hb2 c0 c1 c2 HV S1 B1
  go_wp2
  go_ret
  exact ⟨rfl, B2.out⟩

end Go.Proofs.Ytjhpbemnklpefaa
