/-
  (isochronref16.Draft).with: the walk. No conditions.
-/
import Derived.Deep.RegionHeld3
import Derived.Deep.CutRange
import Derived.Deep.DeepCutAuto
import Derived.Test.YtjhpbemnklpefaaMTpL
import Derived.Test.YtjhpbemnklpefaaMRow
import Derived.Test.YtjhpbemnklpefaaMBase
namespace Go.Proofs.Ytjhpbemnklpefaa
open Go.RowKit Go.Lib Plain

/-- A draft: its four rows of small numbers, its two small numbers. -/
structure Dg where
  B : Nat
  S : Nat
  c : U8
  h : U8
  p : U8
  d : U8
def Dg.vs (g : Dg) : List Value := [.int .u8 (g.B : Int), .int .u8 (g.S : Int), .slice g.c.p g.c.n g.c.k, .slice g.h.p g.h.n g.h.k, .slice g.p.p g.p.n g.p.k, .slice g.d.p g.d.n g.d.k]
theorem Dg.lit (g : Dg) : g.vs.toArray = #[.int .u8 (g.B : Int), .int .u8 (g.S : Int), .slice g.c.p g.c.n g.c.k, .slice g.h.p g.h.n g.h.k, .slice g.p.p g.p.n g.p.k, .slice g.d.p g.d.n g.d.k] := rfl
structure Dg.In (g : Dg) (w : World) : Prop where
  c : g.c.In w
  h : g.h.In w
  p : g.p.In w
  d : g.d.In w
theorem Dg.In.keep {g : Dg} {w W : World} (h : g.In w) (hb : Below w.heap.size w W) : g.In W := ⟨h.c.keep hb, h.h.keep hb, h.p.keep hb, h.d.keep hb⟩
def Dg.df (g : Dg) : Df := ⟨1 + g.B % 6, 2 + g.S % 5, decide (g.B % 2 = 0), g.c.f, g.c.n, g.h.f, g.p.f, g.d.f⟩

/-- The links' cells. -/
def lksC (ls : List Lk) : List Value := ls.flatMap fun l => [.int .i64 (l.a : Int), .int .i64 (l.b : Int), .int .i64 (l.per : Int), .int .i64 (l.dly : Int)]
theorem lksC_snoc (ls : List Lk) (l : Lk) : lksC (ls ++ [l]) = lksC ls ++ [.int .i64 (l.a : Int), .int .i64 (l.b : Int), .int .i64 (l.per : Int), .int .i64 (l.dly : Int)] := by simp [lksC]
theorem lksC_len : ∀ ls, (lksC ls).length = ls.length * 4
  | [] => rfl
  | l :: r => by
    have := lksC_len r
    simp only [lksC, List.flatMap_cons, List.length_append, List.length_cons, List.length_nil] at this ⊢
    omega
theorem lksC_at : ∀ (ls : List Lk) (i : Nat), i < ls.length → (lksC ls)[i * 4]? = some (.int .i64 ((ls.getD i ⟨0, 0, 0, 0⟩).a : Int)) ∧ (lksC ls)[i * 4 + 1]? = some (.int .i64 ((ls.getD i ⟨0, 0, 0, 0⟩).b : Int)) ∧
    (lksC ls)[i * 4 + 2]? = some (.int .i64 ((ls.getD i ⟨0, 0, 0, 0⟩).per : Int)) ∧ (lksC ls)[i * 4 + 3]? = some (.int .i64 ((ls.getD i ⟨0, 0, 0, 0⟩).dly : Int))
  | [], _, h => by simp at h
  | l :: r, 0, _ => by simp [lksC]
  | l :: r, i + 1, h => by
    have ih := lksC_at r i (by simpa using h)
    have e : lksC (l :: r) = [.int .i64 (l.a : Int), .int .i64 (l.b : Int), .int .i64 (l.per : Int), .int .i64 (l.dly : Int)] ++ lksC r := by simp [lksC]
    rw [e, show (i + 1) * 4 = 4 + i * 4 by omega, show 4 + i * 4 + 1 = 4 + (i * 4 + 1) by omega, show 4 + i * 4 + 2 = 4 + (i * 4 + 2) by omega, show 4 + i * 4 + 3 = 4 + (i * 4 + 3) by omega]
    simp only [List.getElem?_append_right (show ([Value.int .i64 (l.a : Int), .int .i64 (l.b : Int), .int .i64 (l.per : Int), .int .i64 (l.dly : Int)] : List Value).length ≤ 4 + _ from Nat.le_add_right 4 _), List.length_cons, List.length_nil, Nat.zero_add, Nat.reduceAdd, Nat.add_sub_cancel_left]
    exact ih
theorem one4 (a b c d : Int) : ∀ v ∈ [Value.int .i64 a, .int .i64 b, .int .i64 c, .int .i64 d], v.oneCell' = true := by
  intro v hv
  simp only [List.mem_cons, List.not_mem_nil, or_false] at hv
  rcases hv with rfl | rfl | rfl | rfl <;> rfl
theorem infoLnk : ((Try.prog).info? 50).map (fun i => (i.zero, i.size, i.bytes)) = some (some (.agg #[.int .i64 0, .int .i64 0, .int .i64 0, .int .i64 0]), 4, 32) := by kernel_rfl

/-- What lies between: the link under way. -/
structure LkAt (V : World) (b : Nat) (l : Lk) (W : World) : Prop where
  h : Below V.heap.size V W
  z : V.heap.size ≤ b
  l0 : W.cell? ⟨b, 0, none⟩ = some (.int .i64 (l.a : Int))
  l1 : W.cell? ⟨b, 1, none⟩ = some (.int .i64 (l.b : Int))
  l2 : W.cell? ⟨b, 2, none⟩ = some (.int .i64 (l.per : Int))
  l3 : W.cell? ⟨b, 3, none⟩ = some (.int .i64 (l.dly : Int))
theorem LkAt.keep {V W W' : World} {b : Nat} {l : Lk} (h : LkAt V b l W) (hb : Below W.heap.size W W') : LkAt V b l W' :=
  ⟨h.h.trans (hb.mono h.h.size), h.z, below_keep hb h.l0, below_keep hb h.l1, below_keep hb h.l2, below_keep hb h.l3⟩

theorem ret3 {W : World} {b : Nat} {o0 o1 o2 : Value} (v0 v1 v2 : Value) (h : Holds W b [o0, o1, o2]) : Holds (((W.setCell ⟨b, 0, none⟩ v0).setCell ⟨b, 1, none⟩ v1).setCell ⟨b, 2, none⟩ v2) b [v0, v1, v2] := ((h.set 0 v0).set 1 v1).set 2 v2
theorem below3 {W w : World} {b : Nat} (v0 v1 v2 : Value) (h : Below w.heap.size w W) (hb : w.heap.size ≤ b) : Below w.heap.size w (((W.setCell ⟨b, 0, none⟩ v0).setCell ⟨b, 1, none⟩ v1).setCell ⟨b, 2, none⟩ v2) :=
  ((h.setCell (p := ⟨b, 0, none⟩) hb _).setCell (p := ⟨b, 1, none⟩) hb _).setCell (p := ⟨b, 2, none⟩) hb _
theorem agg29 : ∀ w, (isAgg 29).run Try.prog w = .ok true w := fun w => by kernel_rfl
theorem size29 : ∀ w, (sizeOf 29).run Try.prog w = .ok 3 w := fun w => by kernel_rfl
theorem wth_T {d : Df} {T : Tp} {a b : Nat} : (wth d T a b).n = T.n ∧ (wth d T a b).br = T.br := by
  unfold wth
  split <;> exact ⟨rfl, rfl⟩
/-- What with leaves. -/
def WthP (g : Dg) (T : Tp) (bs os ks base a b : Nat) (w : World) (e : Ending) (w' : World) : Prop :=
  ∃ (pl : Option Addr) (kl : Nat), e = .returned (.agg #[.int .i64 (T.n : Int), .slice (some ⟨bs, os, none⟩) T.n ks, .slice pl (wth g.df T a b).ls.length kl]) ∧
    w'.ownsRow base 50 4 (.slice pl (wth g.df T a b).ls.length kl) (wth g.df T a b).ls.length (lksC (wth g.df T a b).ls) ∧ Below base w w'

set_option maxHeartbeats 16000000 in
set_option maxRecDepth 100000 in
theorem with_any (g : Dg) (T : Tp) (bs os ks : Nat) (pl : Option Addr) (kl a b base : Nat) (w : World) (hg : g.In w) (hs : ∀ k, k < T.n → w.cell? ⟨bs, os + k, none⟩ = some (.bool (T.st k)))
    (ho : w.ownsRow base 50 4 (.slice pl T.ls.length kl) T.ls.length (lksC T.ls)) (hbase : base ≤ w.heap.size) (h24 : T.ls.length ≤ 24) :
    Calls Try.prog 10 #[.agg g.vs.toArray, .agg #[.int .i64 (T.n : Int), .slice (some ⟨bs, os, none⟩) T.n ks, .slice pl T.ls.length kl], .int .i64 (a : Int), .int .i64 (b : Int)] w (WthP g T bs os ks base a b w) := by
  have HG := Lib.hid hg
  have HS := Lib.hid hs
  have HO := Lib.hid ho
  clear hg hs ho
  rw [g.lit]
  go_enter Try.func10, Try.ntmps10
  go_upto_region 2 with fail
  refine wp_world ?_
  intro V hV
  have HB := Lib.hid (show Below w.heap.size w V by subst hV; exact below_alloc (below_alloc (below_alloc (Below.refl _ _) _) _) _)
  have zV : V.heap.size = w.heap.size + 3 := by subst hV; simp
  have c4 : V.cell? ⟨w.heap.size, 4, none⟩ = some (.slice g.p.p g.p.n g.p.k) := by subst hV; simp [go_sem]
  have c5 : V.cell? ⟨w.heap.size, 5, none⟩ = some (.slice g.d.p g.d.n g.d.k) := by subst hV; simp [go_sem]
  have t0 : V.cell? ⟨w.heap.size + 1, 0, none⟩ = some (.int .i64 (T.n : Int)) := by subst hV; simp [go_sem]
  have t1 : V.cell? ⟨w.heap.size + 1, 1, none⟩ = some (.slice (some ⟨bs, os, none⟩) T.n ks) := by subst hV; simp [go_sem]
  have t2 : V.cell? ⟨w.heap.size + 1, 2, none⟩ = some (.slice pl T.ls.length kl) := by subst hV; simp [go_sem]
  have tf : ∀ x, V.frozen? ⟨w.heap.size + 1, x, none⟩ = false := by subst hV; intro x; simp [go_sem]
  have r0 : V.cell? ⟨w.heap.size + 1 + 1, 0, none⟩ = some (.int .i64 0) := by subst hV; simp [go_sem]
  have r1 : V.cell? ⟨w.heap.size + 1 + 1, 1, none⟩ = some (.slice none 0 0) := by subst hV; simp [go_sem]
  have r2 : V.cell? ⟨w.heap.size + 1 + 1, 2, none⟩ = some (.slice none 0 0) := by subst hV; simp [go_sem]
  have rf : ∀ x, V.frozen? ⟨w.heap.size + 1 + 1, x, none⟩ = false := by subst hV; intro x; simp [go_sem]
  clear hV
  obtain ⟨l, hl⟩ : ∃ l, l = mkL g.df T a b := ⟨_, rfl⟩
  have la : l.a = a := by rw [hl]; rfl
  have lb : l.b = b := by rw [hl]; rfl
  have lp : l.per = 1 + g.p.f T.ls.length % 20 := by rw [hl]; rfl
  have ld : l.dly = g.d.f T.ls.length % 50 := by rw [hl]; rfl
  have HLE := Lib.hid hl
  clear hl
  have pm := (HG.out.p.l T.ls.length)
  have dm := (HG.out.d.l T.ls.length)
  have e1 : Int.tmod (g.p.f T.ls.length : Int) 20 = (g.p.f T.ls.length : Int) % 20 := Int.tmod_eq_emod_of_nonneg (by omega)
  have e2 : Int.tmod (g.d.f T.ls.length : Int) 50 = (g.d.f T.ls.length : Int) % 50 := Int.tmod_eq_emod_of_nonneg (by omega)
  have e3 : IntKind.i64.wrap (1 + (g.p.f T.ls.length : Int) % 20) = 1 + (g.p.f T.ls.length : Int) % 20 := by rw [IntKind.wrap_i64]; omega
  go_cut [10] (fun s wx => ∃ c : Nat, s = .pointer (some ⟨c, 0, none⟩) ∧ LkAt V c l wx)
  case first =>
    have HK := Lib.hid (fun wx (hB : Below V.heap.size V wx) => (⟨hB, below_keep hB c4, below_keep hB c5⟩ : Below V.heap.size V wx ∧ wx.cell? ⟨w.heap.size, 4, none⟩ = some (.slice g.p.p g.p.n g.p.k) ∧ wx.cell? ⟨w.heap.size, 5, none⟩ = some (.slice g.d.p g.d.n g.d.k)))
    have HP := Lib.hid (fun W (hW : Below V.heap.size V W) => pick_any g.p T.ls.length W ((HG.out.p.keep HB.out).keep hW))
    have HD := Lib.hid (fun W (hW : Below V.heap.size V W) => pick_any g.d T.ls.length W ((HG.out.d.keep HB.out).keep hW))
    have jb := Lib.hid (Below.drew (Below.refl V.heap.size V))
    clear t0 t1 t2 tf r0 r1 r2 rf
    go_region_held3 (fun wx => Below V.heap.size V wx ∧ wx.cell? ⟨w.heap.size, 4, none⟩ = some (.slice g.p.p g.p.n g.p.k) ∧ wx.cell? ⟨w.heap.size, 5, none⟩ = some (.slice g.d.p g.d.n g.d.k))
      (first | assumption | (refine HK.out _ ?_; (repeat (first | with_reducible exact jb.out | with_reducible exact Below.refl _ _ | with_reducible refine Below.drew ?_ | refine Below.setCell ?_ (by first | exact Nat.le_refl _ | omega | (simp; done) | (simp; omega)) _ | refine Below.alloc ?_ (by first | exact Nat.le_refl _ | omega | (simp; done) | (simp; omega)) _)); done) | fail)
      (first | (go_at_call 11; (first | (with_reducible refine (HP.out _ ?_).mono ?_) | (with_reducible refine (HD.out _ ?_).mono ?_)); (repeat (first | with_reducible exact jb.out | with_reducible exact Below.refl _ _ | with_reducible refine Below.drew ?_ | refine Below.setCell ?_ (by first | exact Nat.le_refl _ | omega | (simp; done) | (simp; omega)) _ | refine Below.alloc ?_ (by first | exact Nat.le_refl _ | omega | (simp; done) | (simp; omega)) _)); rintro e wz ⟨rfl, rfl⟩) | fail)
    all_goals
      go_wp2_with fail
      go_meet
      refine ⟨_, rfl, ?_⟩
      rw [← zV]
      constructor
      · (repeat (first | with_reducible exact jb.out | with_reducible exact Below.refl _ _ | with_reducible refine Below.drew ?_ | refine Below.setCell ?_ (by first | exact Nat.le_refl _ | omega | (simp; done) | (simp; omega)) _ | refine Below.alloc ?_ (by first | exact Nat.le_refl _ | omega | (simp; done) | (simp; omega)) _))
      · omega
      · simp [go_sem, la]
      · simp [go_sem, lb]
      · simp [go_sem, lp]
      · simp [go_sem, ld]
  case rest =>
    obtain ⟨c, rfl, hL⟩ := hcut
    obtain ⟨W3, hW3⟩ : ∃ W, W = wc := ⟨_, rfl⟩
    subst hW3
    have zc := hL.z
    have l0 := hL.l0
    have l1 := hL.l1
    have l2 := hL.l2
    have l3 := hL.l3
    have H3 := Lib.hid hL.h
    have t0 := below_keep hL.h t0
    have t1 := below_keep hL.h t1
    have t2 := below_keep hL.h t2
    have r0 := below_keep hL.h r0
    have r1 := below_keep hL.h r1
    have r2 := below_keep hL.h r2
    have rf : ∀ x, W3.frozen? ⟨w.heap.size + 1 + 1, x, none⟩ = false := fun x => by rw [hL.h.frozen (by show w.heap.size + 1 + 1 < _; omega)]; exact rf x
    have tf : ∀ x, W3.frozen? ⟨w.heap.size + 1, x, none⟩ = false := fun x => by rw [hL.h.frozen (by show w.heap.size + 1 < _; omega)]; exact tf x
    have z3 := hL.h.size
    clear c4 c5 hL e3
    have HH := Lib.hid (H3.out.mono (show w.heap.size ≤ V.heap.size by omega) |> HB.out.trans)
    have HRs := Lib.hid (show Holds W3 (w.heap.size + 1 + 1) [.int .i64 0, .slice none 0 0, .slice none 0 0] from fun j v hj => by
      match j, hj with
      | 0, hj => cases hj; exact r0
      | 1, hj => cases hj; exact r1
      | 2, hj => cases hj; exact r2)
    -- the answer, unchanged
    have HT := Lib.hid (fun (W : World) (hB : Below w.heap.size w W) (hE : wth g.df T a b = T) => (show WthP g T bs os ks base a b w (.returned (.agg #[.int .i64 (T.n : Int), .slice (some ⟨bs, os, none⟩) T.n ks, .slice pl T.ls.length kl])) W from
      ⟨pl, kl, by rw [hE], by rw [hE]; exact HO.out.kept (Below.grow0 hB) own_none, hB.mono hbase⟩))
    by_cases h : T.ls.length = 24
    · have h' : (T.ls.length : Int) = 24 := by omega
      have hE : wth g.df T a b = T := wth_no (fun e => (wthC_iff.1 e).1 h)
      go_wp2
      have hend := HT.out _ (below3 (.int .i64 (T.n : Int)) (.slice (some ⟨bs, os, none⟩) T.n ks) (.slice pl T.ls.length kl) HH.out (show w.heap.size ≤ w.heap.size + 1 + 1 by omega)) hE
      rw [h] at hend
      refine bodyPost_ret ?_ rfl hend
      exact results_cell 8 29 Try.results10 (w.heap.size + 1 + 1) 0 _ rfl (run_loadVar_whole 29 (w.heap.size + 1 + 1) 0 [.int .i64 (T.n : Int), .slice (some ⟨bs, os, none⟩) T.n ks, .slice pl 24 kl] agg29 size29 (ret3 _ _ _ HRs.out))
    · have h' : ¬ (T.ls.length : Int) = 24 := by omega
      have HLk := Lib.hid (fun (W : World) (hW : Below w.heap.size w W) => link_any T.n T.br bs os ks (.slice pl T.ls.length kl) rfl l (by omega) (by omega) (by omega) W (fun k hk => below_keep hW (HS.out k hk)))
      rw [la, lb] at HLk
      rw [la] at l0
      rw [lb] at l1
      clear lp ld la lb e1 e2 pm dm
      go_wp2_with fail
      with_reducible refine (HLk.out _ HH.out).mono ?_
      rintro e W4 ⟨rfl, hb4⟩
      have hl5 : lkB ⟨T.n, T.br, []⟩ l = lkB T (mkL g.df T a b) := by rw [HLE.out]; rfl
      have H4 := Lib.hid (below_step HH.out hb4)
      have HR4 := Lib.hid (HRs.out.keep hb4)
      have l0 := below_keep hb4 l0
      have l1 := below_keep hb4 l1
      have l2 := below_keep hb4 l2
      have l3 := below_keep hb4 l3
      have t0 := below_keep hb4 t0
      have t1 := below_keep hb4 t1
      have t2 := below_keep hb4 t2
      have r0 := below_keep hb4 r0
      have r1 := below_keep hb4 r1
      have r2 := below_keep hb4 r2
      have z4 := hb4.size
      have rf : ∀ x, W4.frozen? ⟨w.heap.size + 1 + 1, x, none⟩ = false := fun x => by rw [hb4.frozen (by show w.heap.size + 1 + 1 < _; omega)]; exact rf x
      have tf : ∀ x, W4.frozen? ⟨w.heap.size + 1, x, none⟩ = false := fun x => by rw [hb4.frozen (by show w.heap.size + 1 < _; omega)]; exact tf x
      clear hb4 HLk HRs HH H3
      rw [hl5]
      clear hl5
      cases hk : lkB T (mkL g.df T a b) with
      | false =>
        have hE : wth g.df T a b = T := wth_no (fun e => by unfold wthC at e; rw [hk] at e; simp at e)
        go_wp2
        have hend := HT.out _ (below3 (.int .i64 (T.n : Int)) (.slice (some ⟨bs, os, none⟩) T.n ks) (.slice pl T.ls.length kl) H4.out (show w.heap.size ≤ w.heap.size + 1 + 1 by omega)) hE
        refine bodyPost_ret ?_ rfl hend
        exact results_cell 8 29 Try.results10 (w.heap.size + 1 + 1) 0 _ rfl (run_loadVar_whole 29 (w.heap.size + 1 + 1) 0 [.int .i64 (T.n : Int), .slice (some ⟨bs, os, none⟩) T.n ks, .slice pl T.ls.length kl] agg29 size29 (ret3 _ _ _ HR4.out))
      | true =>
        go_wp2
        rw [show ((T.ls.length : Int) == 24) = false from beq_eq_false_iff_ne.2 h']
        clear h'
        go_loopw [11] (fun p wr => ∃ i : Nat, p = .int .i64 (i : Int) ∧ i ≤ T.ls.length ∧ Hid (Below W4.heap.size W4 wr) ∧ Hid (∀ j, j < i → ¬ Jn (T.lk j) a b)) (fun p _ => T.ls.length - (RowKit.intOf p).toNat)
        case atStart => exact ⟨0, rfl, by omega, Lib.hid (Below.refl _ _), Lib.hid (fun j hj => absurd hj (Nat.not_lt_zero _))⟩
        case round =>
          obtain ⟨i, rfl, hi, GB, GJ⟩ := hrel
          have t0 := below_keep GB.out t0
          have t1 := below_keep GB.out t1
          have t2 := below_keep GB.out t2
          have r0 := below_keep GB.out r0
          have r1 := below_keep GB.out r1
          have r2 := below_keep GB.out r2
          have zr := GB.out.size
          have rf : ∀ x, wr.frozen? ⟨w.heap.size + 1 + 1, x, none⟩ = false := fun x => by rw [GB.out.frozen (by show w.heap.size + 1 + 1 < _; omega)]; exact rf x
          have tf : ∀ x, wr.frozen? ⟨w.heap.size + 1, x, none⟩ = false := fun x => by rw [GB.out.frozen (by show w.heap.size + 1 < _; omega)]; exact tf x
          by_cases hlt : i < T.ls.length
          · obtain ⟨gb, cap, hpl⟩ := own_form15 HO.out (by omega)
            have hpl' : pl = some ⟨gb, 0, none⟩ := by injection hpl
            have HOg := Lib.hid (show w.ownsRow base 50 4 (.slice (some ⟨gb, 0, none⟩) T.ls.length kl) T.ls.length (lksC T.ls) from hpl' ▸ HO.out)
            have HTg := Lib.hid (fun (W : World) (hB : Below w.heap.size w W) (hE : wth g.df T a b = T) => (show WthP g T bs os ks base a b w (.returned (.agg #[.int .i64 (T.n : Int), .slice (some ⟨bs, os, none⟩) T.n ks, .slice (some ⟨gb, 0, none⟩) T.ls.length kl])) W from hpl' ▸ HT.out W hB hE))
            rw [hpl'] at t2
            clear hpl hpl'
            have hbw : Below w.heap.size w wr := below_step H4.out GB.out
            have hrow := HOg.out.kept (Below.grow0 hbw) own_none
            obtain ⟨q0, q1, q2, q3⟩ := lksC_at T.ls i hlt
            have k0 := (hrow.cellAt (i * 4) (by omega)).trans q0
            have k1 := (hrow.cellAt (i * 4 + 1) (by omega)).trans q1
            have k2 := (hrow.cellAt (i * 4 + 2) (by omega)).trans q2
            have k3 := (hrow.cellAt (i * 4 + 3) (by omega)).trans q3
            have HJ := Lib.hid (joins_any (T.lk i).a (T.lk i).b (T.lk i).per (T.lk i).dly a b)
            change wr.cell? ⟨gb, i * 4, none⟩ = some (.int .i64 ((T.lk i).a : Int)) at k0
            change wr.cell? ⟨gb, i * 4 + 1, none⟩ = some (.int .i64 ((T.lk i).b : Int)) at k1
            change wr.cell? ⟨gb, i * 4 + 2, none⟩ = some (.int .i64 ((T.lk i).per : Int)) at k2
            change wr.cell? ⟨gb, i * 4 + 3, none⟩ = some (.int .i64 ((T.lk i).dly : Int)) at k3
            clear q0 q1 q2 q3 hrow hbw
            go_wp2_with fail
            with_reducible refine (HJ.out _).mono ?_
            rintro e w5 ⟨rfl, hb5⟩
            have H5 := Lib.hid (below_step (below_step H4.out GB.out) hb5)
            have HR5 := Lib.hid ((HR4.out.keep GB.out).keep hb5)
            have GB5 := Lib.hid (below_step GB.out hb5)
            have t0 := below_keep hb5 t0
            have t1 := below_keep hb5 t1
            have t2 := below_keep hb5 t2
            have r0 := below_keep hb5 r0
            have r1 := below_keep hb5 r1
            have r2 := below_keep hb5 r2
            have rf : ∀ x, w5.frozen? ⟨w.heap.size + 1 + 1, x, none⟩ = false := fun x => by rw [hb5.frozen (by show w.heap.size + 1 + 1 < _; omega)]; exact rf x
            clear hb5 k0 k1 k2 k3 HJ tf
            by_cases hJ : Jn (T.lk i) a b
            · rw [show decide (Jn ⟨(T.lk i).a, (T.lk i).b, (T.lk i).per, (T.lk i).dly⟩ a b) = true from decide_eq_true hJ]
              have hE : wth g.df T a b = T := wth_no (fun e => (wthC_iff.1 e).2.2.2.2.2 i hlt hJ)
              go_wp2
              have hend := HTg.out _ (below3 (.int .i64 (T.n : Int)) (.slice (some ⟨bs, os, none⟩) T.n ks) (.slice (some ⟨gb, 0, none⟩) T.ls.length kl) H5.out (show w.heap.size ≤ w.heap.size + 1 + 1 by omega)) hE
              refine bodyPost_ret ?_ rfl hend
              exact results_cell 8 29 Try.results10 (w.heap.size + 1 + 1) 0 _ rfl (run_loadVar_whole 29 (w.heap.size + 1 + 1) 0 [.int .i64 (T.n : Int), .slice (some ⟨bs, os, none⟩) T.n ks, .slice (some ⟨gb, 0, none⟩) T.ls.length kl] agg29 size29 (ret3 _ _ _ HR5.out))
            · rw [show decide (Jn ⟨(T.lk i).a, (T.lk i).b, (T.lk i).per, (T.lk i).dly⟩ a b) = false from decide_eq_false hJ]
              go_wp2
              go_roundw
              case rel => exact ⟨i + 1, by rw [Int.natCast_add]; rfl, by omega, GB5, Lib.hid (fun j hj => by
                by_cases e : j = i
                · rw [e]; exact hJ
                · exact GJ.out j (by omega))⟩
              case measure =>
                simp [RowKit.intOf]
                omega
          · have hlt' : ¬ (i : Int) < (T.ls.length : Int) := by omega
            have hie : i = T.ls.length := by omega
            have hE : wth g.df T a b = ⟨T.n, T.br, T.ls ++ [l]⟩ := by
              rw [HLE.out]
              refine wth_yes ?_
              unfold wthC
              rw [hk]
              have hj : jnB T a b = false := by
                unfold jnB
                rw [List.any_eq_false]
                intro x hx hd
                obtain ⟨j, hj, rfl⟩ := List.mem_iff_getElem.1 hx
                have e : T.lk j = T.ls[j] := by simp [Tp.lk, List.getD_eq_getElem?_getD, hj]
                exact GJ.out j (by omega) (e ▸ of_decide_eq_true hd)
              rw [hj, decide_eq_true h]
              rfl
            have H6 := Lib.hid (below_step H4.out GB.out)
            have HR6 := Lib.hid (HR4.out.keep GB.out)
            have HO6 := Lib.hid (HO.out.kept (Below.grow0 H6.out) own_none)
            have l0 := below_keep GB.out l0
            have l1 := below_keep GB.out l1
            have l2 := below_keep GB.out l2
            have l3 := below_keep GB.out l3
            have hlo := Lib.hid (fun k e => HO6.out.lt k e)
            have hhi := Lib.hid (fun k e => HO.out.lt k e)
            clear HR4 GJ HT hie hlt hi hk
            obtain ⟨i0, hi0, hz0, hz1, hz2⟩ := info_parts infoLnk
            go_wp2_with (at_builtin; refine wpList_append_own_at _ rfl _ _ 27 rfl base 50 i0 _ 4 32 Try.underlying27 hi0 hz0 hz1 hz2 rfl (by omega) _ T.ls.length (lksC T.ls) rfl (HO6.out.alloc _) ⟨wr.heap.size, 0, none⟩ 1 1 [.int .i64 (a : Int), .int .i64 (b : Int), .int .i64 (l.per : Int), .int .i64 (l.dly : Int)] rfl rfl (fun j u hj => by rw [add_off]; exact holds_alloc wr [.int .i64 (a : Int), .int .i64 (b : Int), .int .i64 (l.per : Int), .int .i64 (l.dly : Int)] 50 rfl j u hj) (one4 _ _ _ _) (by unfold maxLen; omega) (by omega) (by simp; omega) ?_; intro v' w7 hown hgrow _ hat; obtain ⟨g', cap', rfl⟩ := own_form15 hown (by omega); have hne := fun x (hx : x < w.heap.size + 3) (hx2 : w.heap.size ≤ x) => (show some x ≠ (Value.slice pl T.ls.length kl).ownBlock from fun e => by have := hhi.out x e.symm; omega); have hn1 := hne (w.heap.size + 1) (by omega) (by omega); have hn2 := hne (w.heap.size + 1 + 1) (by omega) (by omega); have t0 := cell_app hgrow t0 hn1; have t1 := cell_app hgrow t1 hn1; have t2 := cell_app hgrow t2 hn1; have r0 := cell_app hgrow r0 hn2; have r1 := cell_app hgrow r1 hn2; have r2 := cell_app hgrow r2 hn2; have tf := frozen_app hgrow tf (by omega) hn1; have rf := frozen_app hgrow rf (by omega) hn2; have HO7 := Lib.hid hown; have HG7 := Lib.hid (show (wr.alloc (.cells #[.int .i64 (a : Int), .int .i64 (b : Int), .int .i64 (l.per : Int), .int .i64 (l.dly : Int)] 50)).grownBy w7 (Value.slice pl T.ls.length kl).ownBlock from hgrow); have HA7 := Lib.hid (show (Value.slice (some ⟨g', 0, none⟩) (T.ls.length + 1) cap').ownBlock = (Value.slice pl T.ls.length kl).ownBlock ∨ (Value.slice (some ⟨g', 0, none⟩) (T.ls.length + 1) cap').ownBlock = some (wr.alloc (.cells #[.int .i64 (a : Int), .int .i64 (b : Int), .int .i64 (l.per : Int), .int .i64 (l.dly : Int)] 50)).heap.size from hat); clear hne hn1 hn2 hown hgrow hat)
            have hb7 : Below base w w7 := (below_alloc H6.out _ |>.mono hbase).grown HG7.out (by simp; omega) (fun k e => (hhi.out k e).1)
            have hg7 : ∀ x, w.heap.size ≤ x → x < w.heap.size + 3 → (Value.slice (some ⟨g', 0, none⟩) (T.ls.length + 1) cap').ownBlock ≠ some x := fun x hx1 hx2 e => by
              rcases HA7.out with h | h
              · rw [h] at e
                have := hhi.out x e
                omega
              · rw [h] at e
                simp at e
                omega
            have hP : WthP g T bs os ks base a b w (.returned (.agg #[.int .i64 (T.n : Int), .slice (some ⟨bs, os, none⟩) T.n ks, .slice (some ⟨g', 0, none⟩) (T.ls.length + 1) cap']))
                ((((w7.setCell ⟨w.heap.size + 1, 2, none⟩ (.slice (some ⟨g', 0, none⟩) (T.ls.length + 1) cap')).setCell ⟨w.heap.size + 1 + 1, 0, none⟩ (.int .i64 (T.n : Int))).setCell ⟨w.heap.size + 1 + 1, 1, none⟩ (.slice (some ⟨bs, os, none⟩) T.n ks)).setCell ⟨w.heap.size + 1 + 1, 2, none⟩ (.slice (some ⟨g', 0, none⟩) (T.ls.length + 1) cap')) := by
              refine ⟨some ⟨g', 0, none⟩, cap', ?_, ?_, ?_⟩
              · rw [hE]
                simp
              · rw [hE]
                have e1 : (T.ls ++ [l]).length = T.ls.length + 1 := by simp
                have e2 : lksC (T.ls ++ [l]) = lksC T.ls ++ [.int .i64 (a : Int), .int .i64 (b : Int), .int .i64 (l.per : Int), .int .i64 (l.dly : Int)] := by
                  rw [lksC_snoc, show l.a = a by rw [HLE.out]; rfl, show l.b = b by rw [HLE.out]; rfl]
                show World.ownsRow _ base 50 4 (.slice (some ⟨g', 0, none⟩) (T.ls ++ [l]).length cap') (T.ls ++ [l]).length (lksC (T.ls ++ [l]))
                rw [e1, e2]
                exact (((HO7.out.kept (grownBy_set _ _ _ _) (.inr (hg7 _ (by omega) (by omega)))).kept (grownBy_set _ _ _ _) (.inr (hg7 _ (by omega) (by omega)))).kept (grownBy_set _ _ _ _) (.inr (hg7 _ (by omega) (by omega)))).kept (grownBy_set _ _ _ _) (.inr (hg7 _ (by omega) (by omega)))
              · exact (((hb7.setCell (p := ⟨w.heap.size + 1, 2, none⟩) (by show base ≤ w.heap.size + 1; omega) _).setCell (p := ⟨w.heap.size + 1 + 1, 0, none⟩) (by show base ≤ w.heap.size + 1 + 1; omega) _).setCell (p := ⟨w.heap.size + 1 + 1, 1, none⟩) (by show base ≤ w.heap.size + 1 + 1; omega) _).setCell (p := ⟨w.heap.size + 1 + 1, 2, none⟩) (by show base ≤ w.heap.size + 1 + 1; omega) _
            have HR7 : Holds (w7.setCell ⟨w.heap.size + 1, 2, none⟩ (.slice (some ⟨g', 0, none⟩) (T.ls.length + 1) cap')) (w.heap.size + 1 + 1) [.int .i64 0, .slice none 0 0, .slice none 0 0] := by
              refine Holds.far ?_ (by omega) _
              intro j v hj
              match j, hj with
              | 0, hj => cases hj; exact r0
              | 1, hj => cases hj; exact r1
              | 2, hj => cases hj; exact r2
            refine bodyPost_ret ?_ rfl hP
            exact results_cell 8 29 Try.results10 (w.heap.size + 1 + 1) 0 _ rfl (run_loadVar_whole 29 (w.heap.size + 1 + 1) 0 [.int .i64 (T.n : Int), .slice (some ⟨bs, os, none⟩) T.n ks, .slice (some ⟨g', 0, none⟩) (T.ls.length + 1) cap'] agg29 size29 (ret3 _ _ _ HR7))

end Go.Proofs.Ytjhpbemnklpefaa
