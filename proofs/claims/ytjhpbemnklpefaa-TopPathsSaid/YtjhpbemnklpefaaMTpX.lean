/-
  topo.Check at a valid topology. No conditions.
-/
import Derived.Test.YtjhpbemnklpefaaMSI
import Derived.Test.YtjhpbemnklpefaaMTpE
namespace Go.Proofs.Ytjhpbemnklpefaa
open Go.RowKit Go.Lib Plain

theorem made_int (n k : Nat) (h : k < n) : (madeCells (Value.int .i64 0).cells (n * 1)).toList[k]? = some (.int .i64 0) := by
  have e : k % 1 = 0 := Nat.mod_one k
  simp [madeCells, Value.cells, h, e]
theorem infoInt' : ((Try.prog).info? 3).map (fun i => (i.zero, i.size, i.bytes)) = some (some (.int .i64 0), 1, 8) := by kernel_rfl
theorem degL_le (k : Nat) : ∀ ls, degL ls k ≤ 2 * ls.length
  | [] => Nat.le_refl _
  | l :: r => by
    have := degL_le k r
    show deg1 l k + degL r k ≤ 2 * (r.length + 1)
    unfold deg1
    split <;> split <;> omega
theorem degL_take {ls : List Lk} {j : Nat} (h : j < ls.length) (k : Nat) : degL (ls.take (j + 1)) k = degL (ls.take j) k + deg1 (ls.getD j ⟨0, 0, 0, 0⟩) k := by
  have e : ls.getD j ⟨0, 0, 0, 0⟩ = ls[j] := by simp [List.getD_eq_getElem?_getD, h]
  rw [e, List.take_succ_eq_append_getElem h, degL_snoc]
theorem inc2 {d : Nat → Nat} {l : Lk} (h : l.a ≠ l.b) : upd (upd d l.a (d l.a + 1)) l.b (d l.b + 1) = fun k => d k + deg1 l k := by
  funext k
  unfold upd deg1
  by_cases e1 : k = l.b
  · subst e1
    rw [if_pos rfl, if_neg h, if_pos rfl]
  · rw [if_neg e1, if_neg (Ne.symm e1)]
    by_cases e2 : k = l.a
    · subst e2
      rw [if_pos rfl, if_pos rfl]
    · rw [if_neg e2, if_neg (Ne.symm e2)]
      rfl

/-- How many links each node has, as the row has it. -/
structure LS (g : Tg) (w : World) (tb rb : Nat) (d : Nat → Nat) (W : World) : Prop where
  c : ∀ k, k < g.T.n → W.cell? ⟨rb, k, none⟩ = some (.int .i64 (d k : Int))
  f : ∀ x, W.frozen? ⟨rb, x, none⟩ = false
  t : TAt g tb W
  b : Below w.heap.size w W
  lt : rb < W.heap.size
  h1 : tb < rb
  h2 : w.heap.size ≤ tb
section
variable {g : Tg} {w : World} {tb rb : Nat} {r : Nat → Nat} {W W' : World}
theorem LS.keep (h : LS g w tb rb r W) (hb : Below W.heap.size W W') : LS g w tb rb r W' :=
  ⟨fun k hk => below_keep hb (h.c k hk), fun x => by rw [hb.frozen (p := ⟨rb, x, none⟩) h.lt]; exact h.f x, h.t.keep hb, below_step h.b hb, Nat.lt_of_lt_of_le h.lt hb.size, h.h1, h.h2⟩
theorem LS.set (h : LS g w tb rb r W) (hg : g.In w) {k x : Nat} (hk : k < g.T.n) : LS g w tb rb (upd r k x) (W.setCell ⟨rb, k, none⟩ (.int .i64 (x : Int))) := by
  have hb' : Below w.heap.size w (W.setCell ⟨rb, k, none⟩ (.int .i64 (x : Int))) := h.b.setCell (p := ⟨rb, k, none⟩) (by show w.heap.size ≤ rb; have := h.h1; have := h.h2; omega) _
  have hne : tb ≠ rb := by have := h.h1; omega
  refine ⟨fun j hj => ?_, fun x => by rw [World.frozen?_setCell]; exact h.f x, ⟨?_, ?_, ?_, hg.keep hb'⟩, hb', by simpa [World.setCell] using h.lt, h.h1, h.h2⟩
  · by_cases e : j = k
    · subst e
      rw [upd_same]
      exact World.cell?_setCell_same _ _ _ (h.c j hj)
    · rw [upd_ne _ _ e, World.cell?_setCell_other (h := by intro x; injection x with _ x _; omega)]
      exact h.c j hj
  · rw [World.cell?_setCell_far _ _ _ _ (Ne.symm hne)]; exact h.t.c0
  · rw [World.cell?_setCell_far _ _ _ _ (Ne.symm hne)]; exact h.t.c1
  · rw [World.cell?_setCell_far _ _ _ _ (Ne.symm hne)]; exact h.t.c2
theorem LS.eq (h : LS g w tb rb r W) {r' : Nat → Nat} (e : r = r') : LS g w tb rb r' W := e ▸ h
end

set_option maxHeartbeats 8000000 in
set_option maxRecDepth 100000 in
theorem check_any (g : Tg) (hk : OkT g.T) (w : World) (hg : g.In w) :
    Calls Try.prog 21 #[.agg #[.int .i64 (g.T.n : Int), .slice (some ⟨g.bs, g.os, none⟩) g.T.n g.ks, .slice (some ⟨g.bl, g.ol, none⟩) g.T.ls.length g.kl]] w fun e w' => e = .returned (.int .i64 0) ∧ Below w.heap.size w w' := by
  have HG := Lib.hid hg
  have l24 := hk.l24
  have n2 := hk.n2
  have n12 := hk.n12
  have a1 : ¬ (g.T.n : Int) < 2 := by omega
  have a2 : ¬ (g.T.n : Int) > 12 := by omega
  have a3 : ¬ (g.T.ls.length : Int) > 24 := by omega
  have HS := Lib.hid (fun W hW => sound_any g hk W hW)
  clear hg
  obtain ⟨i0, hi0, hz0, hz1, hz2⟩ := info_parts infoInt'
  go_enter Try.func21, Try.ntmps21
  go_wp2_with fail
  refine (HS.out _ (HG.out.keep (below_alloc (Below.refl _ _) _))).mono ?_
  rintro e w1 ⟨rfl, hb1⟩
  have T1 := Lib.hid ((TAt.new HG.out 29).keep hb1)
  have B1 := Lib.hid (below_step (below_alloc (Below.refl _ w) _) hb1)
  have z1 := hb1.size
  simp at z1
  have c0 := T1.out.c0; have c1 := T1.out.c1; have c2 := T1.out.c2
  clear hb1 HS
  go_upto_region 6 with (at_make; refine wpList_make_full _ rfl _ _ 36 rfl w1.heap.size 3 i0 _ 1 Try.underlying36 hi0 hz0 hz1 _ _ _ _ g.T.n rfl rfl rfl rfl (by rw [hz2]; omega) (by unfold maxLen; omega) (Nat.le_refl _) ?_; intro V hown hgrow)
  have hr : LS g w w.heap.size w1.heap.size (fun _ => 0) V := by
    have hb : Below w1.heap.size w1 V := ⟨hgrow.os, hgrow.tape, hgrow.output, hgrow.size, fun k hk => hgrow.block k hk (by simp)⟩
    refine ⟨fun k hk => ?_, fun x => ?_, T1.out.keep hb, below_step B1.out hb, ?_, by omega, Nat.le_refl _⟩
    · rw [hown.cellAt k (by omega)]
      exact made_int _ _ hk
    · exact hown.frozenAt x
    · exact (hown.lt _ rfl).2
  have HR := Lib.hid (hr.eq (show (fun _ => 0) = degL (g.T.ls.take 0) from rfl))
  have c2 := HR.out.t.c2
  obtain ⟨rb, hrb⟩ : ∃ rb, rb = w1.heap.size := ⟨_, rfl⟩
  rw [← hrb] at HR ⊢
  clear hown hgrow hr c0 c1 B1 T1 hi0 hz0 hz1 hz2 hrb z1
  go_wp2
  go_loopw [39] (fun p wr => ∃ j : Nat, p = .int .i64 (j : Int) ∧ j ≤ g.T.ls.length ∧ Hid (LS g w w.heap.size rb (degL (g.T.ls.take j)) wr)) (fun p _ => g.T.ls.length - (RowKit.intOf p).toNat)
  case atStart => exact ⟨0, rfl, by omega, HR⟩
  case round =>
    clear HR c2
    obtain ⟨j, rfl, hj, GR⟩ := hrel
    by_cases hjl : j < g.T.ls.length
    · have hj1 : (j : Int) < (g.T.ls.length : Int) := by omega
      have k0 := GR.out.t.i.a j hjl; have k1 := GR.out.t.i.b j hjl; have k2 := GR.out.t.i.p j hjl; have k3 := GR.out.t.i.d j hjl
      have oa := (hk.ok j hjl).a; have ob := (hk.ok j hjl).b; have on := (hk.ok j hjl).ne
      have hS : degL (g.T.ls.take (j + 1)) = fun k => degL (g.T.ls.take j) k + deg1 (g.T.lk j) k := funext fun k => degL_take hjl k
      have HS := Lib.hid hS
      have hd := fun k => degL_le k (g.T.ls.take j)
      have hl := List.length_take_le j g.T.ls
      have hda : degL (g.T.ls.take j) (g.T.lk j).a ≤ 48 := by have := hd (g.T.lk j).a; omega
      have hdb : degL (g.T.ls.take j) (g.T.lk j).b ≤ 48 := by have := hd (g.T.lk j).b; omega
      clear hS hd hl
      obtain ⟨d, hd⟩ : ∃ d, degL (g.T.ls.take j) = d := ⟨_, rfl⟩
      rw [hd] at HS GR hda hdb
      clear hd
      obtain ⟨l, hl⟩ : ∃ l, g.T.lk j = l := ⟨_, rfl⟩
      rw [hl] at HS k0 k1 k2 k3 oa ob on hda hdb
      clear hl
      have oa' : (l.a : Int) < (g.T.n : Int) := by omega
      have ob' : (l.b : Int) < (g.T.n : Int) := by omega
      go_upto_region 9 with fail
      obtain ⟨W, hW⟩ : ∃ W, W = wr.alloc (.cells #[.int .i64 (l.a : Int), .int .i64 (l.b : Int), .int .i64 (l.per : Int), .int .i64 (l.dly : Int)] 50) := ⟨_, rfl⟩
      have GW := Lib.hid (show LS g w w.heap.size rb d W by rw [hW]; exact GR.out.keep (below_alloc (Below.refl _ _) _))
      have d0 : W.cell? ⟨wr.heap.size, 0, none⟩ = some (.int .i64 (l.a : Int)) := by rw [hW]; simp [go_sem]
      have d1 : W.cell? ⟨wr.heap.size, 1, none⟩ = some (.int .i64 (l.b : Int)) := by rw [hW]; simp [go_sem]
      have hne : wr.heap.size ≠ rb := by have := GR.out.lt; omega
      rw [← hW]
      clear hW k0 k1 k2 k3 GR
      have e1 := GW.out.c l.a oa
      have e2 := GW.out.c l.b ob
      have ef := GW.out.f
      have w1' : IntKind.i64.wrap ((d l.a : Int) + 1) = (d l.a : Int) + 1 := by rw [IntKind.wrap_i64]; omega
      have S1 := Lib.hid ((GW.out.set HG.out (x := d l.a + 1) oa).set HG.out (x := d l.b + 1) ob)
      have SE := S1.out.eq (inc2 on)
      have S2 := Lib.hid SE
      clear S1 SE
      rw [show ((d l.a + 1 : Nat) : Int) = (d l.a : Int) + 1 by omega, show ((d l.b + 1 : Nat) : Int) = (d l.b : Int) + 1 by omega] at S2
      have e12 : (W.setCell ⟨rb, l.a, none⟩ (.int .i64 ((d l.a : Int) + 1))).cell? ⟨rb, l.b, none⟩ = some (.int .i64 (d l.b : Int)) := (World.cell?_setCell_other _ _ _ _ (by intro x; injection x with _ x _; omega)).trans e2
      have d1' : (W.setCell ⟨rb, l.a, none⟩ (.int .i64 ((d l.a : Int) + 1))).cell? ⟨wr.heap.size, 1, none⟩ = some (.int .i64 (l.b : Int)) := (World.cell?_setCell_far _ _ _ _ (Ne.symm hne)).trans d1
      generalize d l.a = xa at *
      generalize d l.b = xb at *
      go_wp2
      go_roundw
      case rel => exact ⟨j + 1, by rw [Int.natCast_add]; rfl, by omega, Lib.hid (by rw [HS.out]; exact S2.out)⟩
      case measure =>
        simp [RowKit.intOf]
        omega
    · have hj1 : ¬ (j : Int) < (g.T.ls.length : Int) := by omega
      obtain rfl : j = g.T.ls.length := by omega
      rw [List.take_length] at GR
      have c1 := GR.out.t.c1
      go_wp2
      go_loopw [61] (fun p wx => ∃ k : Nat, p = .int .i64 (k : Int) ∧ k ≤ g.T.n ∧ wx = wr) (fun p _ => g.T.n - (RowKit.intOf p).toNat)
      case atStart => exact ⟨0, rfl, by omega, rfl⟩
      case round =>
        obtain ⟨k, rfl, hkn, rfl⟩ := hrel
        by_cases hlt : k < g.T.n
        · have hlt1 : (k : Int) < (g.T.n : Int) := by omega
          have s0 := GR.out.t.i.s k hlt
          have x0 := GR.out.c k hlt
          unfold Tp.st at s0
          by_cases hst : g.T.br ≤ k
          · rw [decide_eq_true hst] at s0
            obtain ⟨q1, q2⟩ := hk.deg k hst hlt
            have r1 : ¬ (degL g.T.ls k : Int) < 1 := by omega
            have r2 : ¬ (degL g.T.ls k : Int) > 2 := by omega
            go_wp2
            go_roundw
            case rel => exact ⟨k + 1, by rw [Int.natCast_add]; rfl, by omega, trivial⟩
            case measure =>
              simp [RowKit.intOf]
              omega
          · rw [decide_eq_false hst] at s0
            go_wp2
            go_roundw
            case rel => exact ⟨k + 1, by rw [Int.natCast_add]; rfl, by omega, trivial⟩
            case measure =>
              simp [RowKit.intOf]
              omega
        · have hlt1 : ¬ (k : Int) < (g.T.n : Int) := by omega
          have c0 := GR.out.t.c0
          have c2 := GR.out.t.c2
          have HX : Hid (Calls Try.prog 41 #[.agg #[.int .i64 (g.T.n : Int), .slice (some ⟨g.bs, g.os, none⟩) g.T.n g.ks, .slice (some ⟨g.bl, g.ol, none⟩) g.T.ls.length g.kl], .int .i64 0, .agg #[.bool false, .bool false, .bool false, .bool false, .bool false, .bool false, .bool false, .bool false, .bool false, .bool false, .bool false, .bool false, .bool false, .bool false, .bool false, .bool false, .bool false, .bool false, .bool false, .bool false, .bool false, .bool false, .bool false, .bool false]] wr fun e w' => e = .returned (.slice (some ⟨wr.heap.size + 1 + 1, 0, none⟩) g.T.n g.T.n) ∧ (∀ k, k < g.T.n → w'.cell? ⟨wr.heap.size + 1 + 1, k, none⟩ = some (.bool true)) ∧ Below wr.heap.size wr w') := Lib.hid (reach_any g hk wr GR.out.t.i)
          have GB := Lib.hid GR.out.b
          clear GR
          go_wp2_with fail
          refine HX.out.mono ?_
          rintro e w5 ⟨rfl, hc, hb5⟩
          have HC := Lib.hid (containsB_any (wr.heap.size + 1 + 1) 0 g.T.n g.T.n (by omega) w5 (fun j hj => by rw [Nat.zero_add]; exact hc j hj))
          have B5 := Lib.hid (below_step GB.out hb5)
          clear hc hb5 HX
          go_wp2_with fail
          refine HC.out.mono ?_
          rintro e w6 ⟨rfl, rfl⟩
          go_wp2
          go_ret
          exact ⟨rfl, B5.out⟩

end Go.Proofs.Ytjhpbemnklpefaa
